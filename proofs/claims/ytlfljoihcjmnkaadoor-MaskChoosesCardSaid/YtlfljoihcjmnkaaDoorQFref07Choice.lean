-- Written by a program of this session (hprint.py), which drives the kit's print over hand-proved contracts. Lean checks it.
import Derived.Test.YtlfljoihcjmnkaaDoorQ0
import Derived.Test.YtlfljoihcjmnkaaDoorQRa
import Derived.Test.YtlfljoihcjmnkaaDoorRefMost
namespace Go.Proofs.YtlfljoihcjmnkaaDoor.Q
open Go.RowKit Go.Proofs.YtlfljoihcjmnkaaDoorW.PrintWords Go.Proofs.YtlfljoihcjmnkaaDoorW.PrintLast Go.Proofs.YtlfljoihcjmnkaaDoorW.PrintMore
attribute [local go_sem] max2_int min2_int max_two min_two max_three min_three max_four min_four   -- for this text's walks alone
set_option linter.unusedVariables false
set_option linter.unusedSimpArgs false

/-! ### mainsheetref07_Choice: function 25 -/
mutual
def mainsheetref07_Choice.l0 : Nat → List (S31) → Int → List Int → Int → Option (List Int × Bool)
  | 0, _, _, _, _ => none
  | k + 1, x0, x1, x6, x7 => if x7 < (x0.length : Int) then (mainsheetref07_Choice.l1 k x0 x1 x6 x7 0) else (some (x6, true))
def mainsheetref07_Choice.l1 : Nat → List (S31) → Int → List Int → Int → Int → Option (List Int × Bool)
  | 0, _, _, _, _, _ => none
  | k + 1, x0, x1, x6, x7, x8 => if x8 < 8 then (mainsheetref07_Choice.j2 k x0 x1 x6 x7 x8 ((x6.length : Int) == x7)) else (mainsheetref07_Choice.j2 k x0 x1 x6 x7 x8 false)
def mainsheetref07_Choice.j2 : Nat → List (S31) → Int → List Int → Int → Int → Bool → Option (List Int × Bool)
  | 0, _, _, _, _, _, _ => none
  | k + 1, x0, x1, x6, x7, x8, x29 => if x29 = true then (if 0 ≤ x7 then (if x7 < (x0.length : Int) then ((mainsheetref07_Allows.f ((rd_T31 x0 x7).f0) ((rd_T31 x0 x7).f1) x1).bind fun t197 => ((mainsheetref04_Has.f t197 x8).bind fun t198 => (if t198 = true then ((mainsheetref07_bit.f k x8).bind fun t199 => (if 0 ≤ (wrap64 (x7 + 1)) then (if (wrap64 (x7 + 1)) ≤ (x0.length : Int) then ((mainsheetref07_Most.f (x0.drop ((wrap64 (x7 + 1)) : Int).toNat) ((x1 - ((t199) % 4294967296)) % 4294967296)).bind fun t204 => (if t204 = (wrap64 ((wrap64 ((x0.length : Int) - x7)) - 1)) then (if x6.length < 17592186044416 then (mainsheetref07_Choice.l1 k x0 ((x1 - ((t199) % 4294967296)) % 4294967296) (x6 ++ [x8]) x7 (wrap64 (x8 + 1))) else (none)) else (mainsheetref07_Choice.l1 k x0 x1 x6 x7 (wrap64 (x8 + 1))))) else (none)) else (none))) else (mainsheetref07_Choice.l1 k x0 x1 x6 x7 (wrap64 (x8 + 1)))))) else (none)) else (none)) else (mainsheetref07_Choice.l0 k x0 x1 x6 (wrap64 (x7 + 1)))
end
def mainsheetref07_Choice.f (k : Nat) (l0 : List (S31)) (a1 : Int) : Option (List Int × Bool) := (mainsheetref07_Most.f l0 a1).bind fun t195 => (if t195 < (l0.length : Int) then (some (([] : List Int), false)) else (mainsheetref07_Choice.l0 k l0 a1 ([] : List Int) 0))
theorem mainsheetref07_Choice.mono_l : ∀ k, (∀ y0 y1 y2 y3, LeO (mainsheetref07_Choice.l0 k y0 y1 y2 y3) (mainsheetref07_Choice.l0 (k + 1) y0 y1 y2 y3)) ∧ (∀ y0 y1 y2 y3 y4, LeO (mainsheetref07_Choice.l1 k y0 y1 y2 y3 y4) (mainsheetref07_Choice.l1 (k + 1) y0 y1 y2 y3 y4)) ∧ (∀ y0 y1 y2 y3 y4 y5, LeO (mainsheetref07_Choice.j2 k y0 y1 y2 y3 y4 y5) (mainsheetref07_Choice.j2 (k + 1) y0 y1 y2 y3 y4 y5))
  | 0 => ⟨fun _ _ _ _ r h => by simp [mainsheetref07_Choice.l0] at h, fun _ _ _ _ _ r h => by simp [mainsheetref07_Choice.l1] at h, fun _ _ _ _ _ _ r h => by simp [mainsheetref07_Choice.j2] at h⟩
  | k + 1 => by
    obtain ⟨ih0, ih1, ih2⟩ := mainsheetref07_Choice.mono_l k
    refine ⟨?_, ?_, ?_⟩
    · intro y0 y1 y2 y3
      unfold mainsheetref07_Choice.l0
      repeat' first
      | (with_reducible exact ih0 _ _ _ _)
      | (with_reducible exact ih1 _ _ _ _ _)
      | (with_reducible exact ih2 _ _ _ _ _ _)
      | (with_reducible exact mainsheetref07_bit.mono _ _)
      | (with_reducible exact LeO.refl _)
      | (with_reducible exact LeO.none _)
      | (with_reducible refine LeO.ite ?_ ?_)
      | (with_reducible refine LeO.bind ?_ (fun _ => ?_))
      | exact ih0 _ _ _ _
      | exact ih1 _ _ _ _ _
      | exact ih2 _ _ _ _ _ _
      | exact mainsheetref07_bit.mono _ _
      | exact LeO.none _
      | refine LeO.ite ?_ ?_
      | refine LeO.bind ?_ (fun _ => ?_)
    · intro y0 y1 y2 y3 y4
      unfold mainsheetref07_Choice.l1
      repeat' first
      | (with_reducible exact ih0 _ _ _ _)
      | (with_reducible exact ih1 _ _ _ _ _)
      | (with_reducible exact ih2 _ _ _ _ _ _)
      | (with_reducible exact mainsheetref07_bit.mono _ _)
      | (with_reducible exact LeO.refl _)
      | (with_reducible exact LeO.none _)
      | (with_reducible refine LeO.ite ?_ ?_)
      | (with_reducible refine LeO.bind ?_ (fun _ => ?_))
      | exact ih0 _ _ _ _
      | exact ih1 _ _ _ _ _
      | exact ih2 _ _ _ _ _ _
      | exact mainsheetref07_bit.mono _ _
      | exact LeO.none _
      | refine LeO.ite ?_ ?_
      | refine LeO.bind ?_ (fun _ => ?_)
    · intro y0 y1 y2 y3 y4 y5
      unfold mainsheetref07_Choice.j2
      repeat' first
      | (with_reducible exact ih0 _ _ _ _)
      | (with_reducible exact ih1 _ _ _ _ _)
      | (with_reducible exact ih2 _ _ _ _ _ _)
      | (with_reducible exact mainsheetref07_bit.mono _ _)
      | (with_reducible exact LeO.refl _)
      | (with_reducible exact LeO.none _)
      | (with_reducible refine LeO.ite ?_ ?_)
      | (with_reducible refine LeO.bind ?_ (fun _ => ?_))
      | exact ih0 _ _ _ _
      | exact ih1 _ _ _ _ _
      | exact ih2 _ _ _ _ _ _
      | exact mainsheetref07_bit.mono _ _
      | exact LeO.none _
      | refine LeO.ite ?_ ?_
      | refine LeO.bind ?_ (fun _ => ?_)
theorem mainsheetref07_Choice.mono : ∀ a0 a1 k, LeO (mainsheetref07_Choice.f k a0 a1) (mainsheetref07_Choice.f (k + 1) a0 a1) := by
  intro a0 a1 k
  obtain ⟨ih0, ih1, ih2⟩ := mainsheetref07_Choice.mono_l k
  unfold mainsheetref07_Choice.f
  repeat' first
      | (with_reducible exact ih0 _ _ _ _)
      | (with_reducible exact ih1 _ _ _ _ _)
      | (with_reducible exact ih2 _ _ _ _ _ _)
      | (with_reducible exact mainsheetref07_bit.mono _ _)
      | (with_reducible exact LeO.refl _)
      | (with_reducible exact LeO.none _)
      | (with_reducible refine LeO.ite ?_ ?_)
      | (with_reducible refine LeO.bind ?_ (fun _ => ?_))
      | exact ih0 _ _ _ _
      | exact ih1 _ _ _ _ _
      | exact ih2 _ _ _ _ _ _
      | exact mainsheetref07_bit.mono _ _
      | exact LeO.none _
      | refine LeO.ite ?_ ?_
      | refine LeO.bind ?_ (fun _ => ?_)
set_option maxHeartbeats 8000000 in
set_option maxRecDepth 100000 in
theorem mainsheetref07_Choice.calls (k : Nat) (A0 : Option Addr) (c0 : Nat) (l0 : List (S31)) (a1 : Int) (r1 : List Int) (r2 : Bool) (w : World) (hr0 : Kd.C k31 w A0 l0.length l0) (hc0 : l0.length ≤ c0) (h : mainsheetref07_Choice.f k l0 a1 = some (r1, r2)) :
    Calls Tryd.prog 25 #[.slice A0 l0.length c0, .int .u32 a1] w fun e w' => ∃ v0_ : Value, e = .returned (.tuple #[v0_, .bool r2]) ∧ Kd.R (Kd.int .i64) 3 w' w.heap.size (fun _ => True) v0_ r1 ∧ Below w.heap.size w w' := by
  have hu31 := Tryd.underlying31
  have HR0 := Aside0.mk hr0
  have HC0 := Aside0.mk hc0
  clear hr0 hc0
  have HB := Aside0.mk (Below.refl w.heap.size w)
  have H : ((mainsheetref07_Most.f l0 a1).bind fun t195 => (if t195 < (l0.length : Int) then (some (([] : List Int), false)) else (mainsheetref07_Choice.l0 k l0 a1 ([] : List Int) 0))) = some (r1, r2) := h
  clear h
  replace H := Option.bind_eq_some_iff.mp H
  obtain ⟨t195, A30, H⟩ := H
  replace H : (if t195 < (l0.length : Int) then (some (([] : List Int), false)) else (mainsheetref07_Choice.l0 k l0 a1 ([] : List Int) 0)) = some (r1, r2) := H
  have A3 := Aside0.mk A30
  clear A30
  by_cases c4 : t195 < (l0.length : Int)
  · rw [if_pos c4] at H
    have c4b0 : decide (t195 < (l0.length : Int)) = true := decide_eq_true c4
    clear c4
    simp only [Option.some.injEq, Prod.mk.injEq] at H
    obtain ⟨rfl, rfl⟩ := H
    go_enter Tryd.func25, Tryd.ntmps25
    go_wp2_with (first | ((with_reducible refine gate_callee (f := 26) rfl ?_); refine goesL_ (some 12) rfl rfl Tryd.func26 (by kernel_rfl) rfl #[.slice A0 l0.length c0, .int .u32 a1] rfl (by (try simp only [List.map_toArray, List.map_cons, List.map_nil]); first | done | rfl | (simp only [List.length_drop, List.length_take]; rfl)) ?_; (with_reducible refine (mainsheetref07_Most.calls _ _ l0 a1 t195 _ ?side1 ?side2 A3.out).mono ?_); (case side1 => repeat (first | exact HR0.out | (with_reducible refine Kd.C_alloc ?_ _) | (with_reducible refine Kd.C_drewN ?_ _) | (with_reducible refine Kd.C_drew ?_))); (case side2 => exact HC0.out); rintro e w5 ⟨rfl, hb⟩; refine ⟨_, rfl, ?_⟩; have n0_ := Aside0.mk (below_step (by repeat (first | (with_reducible first | exact HB.out | apply below_alloc | apply pw_below_drewN | apply below_drew1) | exact HB.out)) hb); clear HB; have HB := n0_; clear n0_; (try clear hb); (try clear hb2); (try clear hk); (try clear hi)))
    go_ret2
    exact ⟨_, by first | rfl | (simp [errW_none, errW_some] <;> rfl) | (simp [*, errW_none, errW_some] <;> rfl), by first | exact Kd.R_nil _ _ _ _ _ | exact Kd.N_nil _ _ _ _ _ | exact Kd.V_nil _ _ _ _ _ | exact Kd.Q_nil _ _ _ _ _ | exact Kd.S_nil _ _ _ _ _, by repeat (first | (with_reducible first | exact HB.out | apply below_alloc | apply pw_below_drewN | apply below_drew1) | exact HB.out)⟩
  · rw [if_neg c4] at H
    have c4b0 : decide (t195 < (l0.length : Int)) = false := decide_eq_false c4
    clear c4
    have H' := Aside0.mk H
    clear H
    go_enter Tryd.func25, Tryd.ntmps25
    go_wp2_with (first | ((with_reducible refine gate_callee (f := 26) rfl ?_); refine goesL_ (some 12) rfl rfl Tryd.func26 (by kernel_rfl) rfl #[.slice A0 l0.length c0, .int .u32 a1] rfl (by (try simp only [List.map_toArray, List.map_cons, List.map_nil]); first | done | rfl | (simp only [List.length_drop, List.length_take]; rfl)) ?_; (with_reducible refine (mainsheetref07_Most.calls _ _ l0 a1 t195 _ ?side1 ?side2 A3.out).mono ?_); (case side1 => repeat (first | exact HR0.out | (with_reducible refine Kd.C_alloc ?_ _) | (with_reducible refine Kd.C_drewN ?_ _) | (with_reducible refine Kd.C_drew ?_))); (case side2 => exact HC0.out); rintro e w6 ⟨rfl, hb⟩; refine ⟨_, rfl, ?_⟩; have n0_ := Aside0.mk (below_step (by repeat (first | (with_reducible first | exact HB.out | apply below_alloc | apply pw_below_drewN | apply below_drew1) | exact HB.out)) hb); clear HB; have HB := n0_; clear n0_; (try clear hb); (try clear hb2); (try clear hk); (try clear hi)))
    go_loopg [1, 6, 7] k (fun kq v1 v6 v7 w' => ∃ (x1_1 : Int) (x6_1 : List Int) (x7_1 : Int), v1 = .int .u32 x1_1 ∧ v7 = .int .i64 x7_1 ∧ Aside0 (mainsheetref07_Choice.l0 kq l0 x1_1 x6_1 x7_1 = some (r1, r2)) ∧ Aside0 (kq ≤ k) ∧ Aside0 (Kd.R (Kd.int .i64) 3 w' w.heap.size (fun _ => True) v6 x6_1) ∧ Aside0 (Below w.heap.size w w'))
    case atStart => exact ⟨(a1), (([] : List Int)), (0), (by first | rfl | (simp; done) | (simp [*]; done)), (by first | rfl | (simp; done) | (simp [*]; done)), H', ⟨Nat.le_refl _⟩, ⟨by first | exact Kd.R_nil _ _ _ _ _ | exact Kd.N_nil _ _ _ _ _ | exact Kd.V_nil _ _ _ _ _ | exact Kd.Q_nil _ _ _ _ _ | exact Kd.S_nil _ _ _ _ _⟩, ⟨by repeat (first | (with_reducible first | exact HB.out | apply below_alloc | apply pw_below_drewN | apply below_drew1) | exact HB.out)⟩⟩
    case round =>
      clear H'
      try clear c2
      try clear p2
      try clear c4
      try clear c4b0
      obtain ⟨x1_1, x6_1, x7_1, rfl, rfl, HA, HK1, HO_6, HB⟩ := hrel
      cases gk with
      | zero => exact absurd HA.out (by simp [mainsheetref07_Choice.l0])
      | succ k1 =>
        have H := HA.out
        clear HA
        simp only [mainsheetref07_Choice.l0] at H
        by_cases c7 : x7_1 < (l0.length : Int)
        · rw [if_pos c7] at H
          have c7b0 : decide (x7_1 < (l0.length : Int)) = true := decide_eq_true c7
          clear c7
          have H' := Aside0.mk H
          clear H
          go_wp2
          go_loopg [1, 6, 8] k1 (fun kq v1 v6 v8 w' => ∃ (x1_2 : Int) (x6_2 : List Int) (x8_2 : Int), v1 = .int .u32 x1_2 ∧ v8 = .int .i64 x8_2 ∧ Aside0 (mainsheetref07_Choice.l1 kq l0 x1_2 x6_2 x7_1 x8_2 = some (r1, r2)) ∧ Aside0 (kq ≤ k1) ∧ Aside0 (Kd.R (Kd.int .i64) 3 w' w.heap.size (fun _ => True) v6 x6_2) ∧ Aside0 (Below w.heap.size w w'))
          case atStart => exact ⟨(x1_1), (x6_1), (0), (by first | rfl | (simp; done) | (simp [*]; done)), (by first | rfl | (simp; done) | (simp [*]; done)), H', ⟨Nat.le_refl _⟩, ⟨by (with_reducible repeat (first | apply Kd.R_alloc | apply Kd.R_drewN | apply Kd.R_drew)); exact HO_6.out⟩, ⟨by repeat (first | (with_reducible first | exact HB.out | apply below_alloc | apply pw_below_drewN | apply below_drew1) | exact HB.out)⟩⟩
          case round =>
            clear H'
            try clear c2
            try clear p2
            try clear c4
            try clear c4b0
            try clear c7
            try clear c7b0
            try clear p2
            obtain ⟨x1_2, x6_2, x8_2, rfl, rfl, HA, HK2, HO_6, HB⟩ := hrel
            cases gk with
            | zero => exact absurd HA.out (by simp [mainsheetref07_Choice.l1])
            | succ k2 =>
              have H := HA.out
              clear HA
              simp only [mainsheetref07_Choice.l1] at H
              have HC8 := Aside0.mk H
              clear H
              go_upto_region 8 with (fail)
              go_cut [29] (fun v29 wc => ∃ (kq : Nat) (x29_7 : Bool), v29 = .bool x29_7 ∧ Aside0 (mainsheetref07_Choice.j2 kq l0 x1_2 x6_2 x7_1 x8_2 x29_7 = some (r1, r2)) ∧ Aside0 (kq ≤ k2) ∧ Aside0 (Kd.R (Kd.int .i64) 3 wc w.heap.size (fun _ => True) u6 x6_2) ∧ Aside0 (Below w.heap.size w wc))
              case first =>
                have H := HC8.out
                clear HC8
                by_cases c9 : x8_2 < 8
                · rw [if_pos c9] at H
                  have c9b0 : decide (x8_2 < 8) = true := decide_eq_true c9
                  clear c9
                  (first | rw [c9b0] | (simp only [i64_w, i32_w]; rw [c9b0]) | skip)
                  have H' := Aside0.mk H
                  clear H
                  obtain ⟨Ao10, co10, eo10⟩ := Kd.R_slice HO_6.out
                  subst eo10
                  go_wp2
                  go_meet
                  case rel => exact ⟨_, (((x6_2.length : Int) == x7_1)), (by first | rfl | (simp; done) | (simp [*]; done)), H', ⟨by have := HK1.out; have := HK2.out; first | omega | exact Nat.le_refl _⟩, ⟨by (with_reducible repeat (first | apply Kd.R_alloc | apply Kd.R_drewN | apply Kd.R_drew)); exact HO_6.out⟩, ⟨by repeat (first | (with_reducible first | exact HB.out | apply below_alloc | apply pw_below_drewN | apply below_drew1) | exact HB.out)⟩⟩
                · rw [if_neg c9] at H
                  have c9b0 : decide (x8_2 < 8) = false := decide_eq_false c9
                  clear c9
                  (first | rw [c9b0] | (simp only [i64_w, i32_w]; rw [c9b0]) | skip)
                  have H' := Aside0.mk H
                  clear H
                  go_wp2
                  go_meet
                  case rel => exact ⟨_, (false), (by first | rfl | (simp; done) | (simp [*]; done)), H', ⟨by have := HK1.out; have := HK2.out; first | omega | exact Nat.le_refl _⟩, ⟨by (with_reducible repeat (first | apply Kd.R_alloc | apply Kd.R_drewN | apply Kd.R_drew)); exact HO_6.out⟩, ⟨by repeat (first | (with_reducible first | exact HB.out | apply below_alloc | apply pw_below_drewN | apply below_drew1) | exact HB.out)⟩⟩
              case rest =>
                clear HC8
                try clear c2
                try clear p2
                try clear c4
                try clear c4b0
                try clear c7
                try clear c7b0
                try clear c9
                try clear c9b0
                try clear p2
                obtain ⟨kq, x29_7, rfl, HA, HJ7, HO_6, HB⟩ := hcut
                cases kq with
                | zero => exact absurd HA.out (by simp [mainsheetref07_Choice.j2])
                | succ kj7 =>
                  have H := HA.out
                  clear HA
                  simp only [mainsheetref07_Choice.j2] at H
                  by_cases c11 : x29_7 = true
                  · subst c11
                    have H1 : (if 0 ≤ x7_1 then (if x7_1 < (l0.length : Int) then ((mainsheetref07_Allows.f ((rd_T31 l0 x7_1).f0) ((rd_T31 l0 x7_1).f1) x1_2).bind fun t197 => ((mainsheetref04_Has.f t197 x8_2).bind fun t198 => (if t198 = true then ((mainsheetref07_bit.f kj7 x8_2).bind fun t199 => (if 0 ≤ (wrap64 (x7_1 + 1)) then (if (wrap64 (x7_1 + 1)) ≤ (l0.length : Int) then ((mainsheetref07_Most.f (l0.drop ((wrap64 (x7_1 + 1)) : Int).toNat) ((x1_2 - ((t199) % 4294967296)) % 4294967296)).bind fun t204 => (if t204 = (wrap64 ((wrap64 ((l0.length : Int) - x7_1)) - 1)) then (if x6_2.length < 17592186044416 then (mainsheetref07_Choice.l1 kj7 l0 ((x1_2 - ((t199) % 4294967296)) % 4294967296) (x6_2 ++ [x8_2]) x7_1 (wrap64 (x8_2 + 1))) else (none)) else (mainsheetref07_Choice.l1 kj7 l0 x1_2 x6_2 x7_1 (wrap64 (x8_2 + 1))))) else (none)) else (none))) else (mainsheetref07_Choice.l1 kj7 l0 x1_2 x6_2 x7_1 (wrap64 (x8_2 + 1)))))) else (none)) else (none)) = some (r1, r2) := by rw [if_pos rfl] at H; exact H
                    clear H
                    have H := H1
                    clear H1
                    by_cases c12 : 0 ≤ x7_1
                    · rw [if_pos c12] at H
                      have c12b0 : decide (0 ≤ x7_1) = true := decide_eq_true c12
                      clear c12
                      by_cases c13 : x7_1 < (l0.length : Int)
                      · rw [if_pos c13] at H
                        have c13b0 : decide (x7_1 < (l0.length : Int)) = true := decide_eq_true c13
                        clear c13
                        replace H := Option.bind_eq_some_iff.mp H
                        obtain ⟨t197, A140, H⟩ := H
                        replace H : ((mainsheetref04_Has.f t197 x8_2).bind fun t198 => (if t198 = true then ((mainsheetref07_bit.f kj7 x8_2).bind fun t199 => (if 0 ≤ (wrap64 (x7_1 + 1)) then (if (wrap64 (x7_1 + 1)) ≤ (l0.length : Int) then ((mainsheetref07_Most.f (l0.drop ((wrap64 (x7_1 + 1)) : Int).toNat) ((x1_2 - ((t199) % 4294967296)) % 4294967296)).bind fun t204 => (if t204 = (wrap64 ((wrap64 ((l0.length : Int) - x7_1)) - 1)) then (if x6_2.length < 17592186044416 then (mainsheetref07_Choice.l1 kj7 l0 ((x1_2 - ((t199) % 4294967296)) % 4294967296) (x6_2 ++ [x8_2]) x7_1 (wrap64 (x8_2 + 1))) else (none)) else (mainsheetref07_Choice.l1 kj7 l0 x1_2 x6_2 x7_1 (wrap64 (x8_2 + 1))))) else (none)) else (none))) else (mainsheetref07_Choice.l1 kj7 l0 x1_2 x6_2 x7_1 (wrap64 (x8_2 + 1))))) = some (r1, r2) := H
                        have A14 := Aside0.mk A140
                        clear A140
                        replace H := Option.bind_eq_some_iff.mp H
                        obtain ⟨t198, A150, H⟩ := H
                        replace H : (if t198 = true then ((mainsheetref07_bit.f kj7 x8_2).bind fun t199 => (if 0 ≤ (wrap64 (x7_1 + 1)) then (if (wrap64 (x7_1 + 1)) ≤ (l0.length : Int) then ((mainsheetref07_Most.f (l0.drop ((wrap64 (x7_1 + 1)) : Int).toNat) ((x1_2 - ((t199) % 4294967296)) % 4294967296)).bind fun t204 => (if t204 = (wrap64 ((wrap64 ((l0.length : Int) - x7_1)) - 1)) then (if x6_2.length < 17592186044416 then (mainsheetref07_Choice.l1 kj7 l0 ((x1_2 - ((t199) % 4294967296)) % 4294967296) (x6_2 ++ [x8_2]) x7_1 (wrap64 (x8_2 + 1))) else (none)) else (mainsheetref07_Choice.l1 kj7 l0 x1_2 x6_2 x7_1 (wrap64 (x8_2 + 1))))) else (none)) else (none))) else (mainsheetref07_Choice.l1 kj7 l0 x1_2 x6_2 x7_1 (wrap64 (x8_2 + 1)))) = some (r1, r2) := H
                        have A15 := Aside0.mk A150
                        clear A150
                        by_cases c16 : t198 = true
                        · subst c16
                          have H1 : ((mainsheetref07_bit.f kj7 x8_2).bind fun t199 => (if 0 ≤ (wrap64 (x7_1 + 1)) then (if (wrap64 (x7_1 + 1)) ≤ (l0.length : Int) then ((mainsheetref07_Most.f (l0.drop ((wrap64 (x7_1 + 1)) : Int).toNat) ((x1_2 - ((t199) % 4294967296)) % 4294967296)).bind fun t204 => (if t204 = (wrap64 ((wrap64 ((l0.length : Int) - x7_1)) - 1)) then (if x6_2.length < 17592186044416 then (mainsheetref07_Choice.l1 kj7 l0 ((x1_2 - ((t199) % 4294967296)) % 4294967296) (x6_2 ++ [x8_2]) x7_1 (wrap64 (x8_2 + 1))) else (none)) else (mainsheetref07_Choice.l1 kj7 l0 x1_2 x6_2 x7_1 (wrap64 (x8_2 + 1))))) else (none)) else (none))) = some (r1, r2) := by rw [if_pos rfl] at H; exact H
                          clear H
                          have H := H1
                          clear H1
                          replace H := Option.bind_eq_some_iff.mp H
                          obtain ⟨t199, A170, H⟩ := H
                          replace H : (if 0 ≤ (wrap64 (x7_1 + 1)) then (if (wrap64 (x7_1 + 1)) ≤ (l0.length : Int) then ((mainsheetref07_Most.f (l0.drop ((wrap64 (x7_1 + 1)) : Int).toNat) ((x1_2 - ((t199) % 4294967296)) % 4294967296)).bind fun t204 => (if t204 = (wrap64 ((wrap64 ((l0.length : Int) - x7_1)) - 1)) then (if x6_2.length < 17592186044416 then (mainsheetref07_Choice.l1 kj7 l0 ((x1_2 - ((t199) % 4294967296)) % 4294967296) (x6_2 ++ [x8_2]) x7_1 (wrap64 (x8_2 + 1))) else (none)) else (mainsheetref07_Choice.l1 kj7 l0 x1_2 x6_2 x7_1 (wrap64 (x8_2 + 1))))) else (none)) else (none)) = some (r1, r2) := H
                          have A17 := Aside0.mk A170
                          clear A170
                          obtain ⟨ji18, hji18⟩ : ∃ j_ : Int, (wrap64 (x7_1 + 1)) = j_ := ⟨_, rfl⟩
                          replace H : (if 0 ≤ (ji18) then (if (ji18) ≤ (l0.length : Int) then ((mainsheetref07_Most.f (l0.drop ((ji18) : Int).toNat) ((x1_2 - ((t199) % 4294967296)) % 4294967296)).bind fun t204 => (if t204 = (wrap64 ((wrap64 ((l0.length : Int) - x7_1)) - 1)) then (if x6_2.length < 17592186044416 then (mainsheetref07_Choice.l1 kj7 l0 ((x1_2 - ((t199) % 4294967296)) % 4294967296) (x6_2 ++ [x8_2]) x7_1 (wrap64 (x8_2 + 1))) else (none)) else (mainsheetref07_Choice.l1 kj7 l0 x1_2 x6_2 x7_1 (wrap64 (x8_2 + 1))))) else (none)) else (none)) = some (r1, r2) := by first | (rw [hji18] at H; exact H) | (simp only [hji18] at H ⊢; exact H)
                          (try rw [hji18] at A14)
                          (try rw [hji18] at A15)
                          (try rw [hji18] at A17)
                          have hji18w : (IntKind.i64.wrap (x7_1 + 1)) = ji18 := (i64_w _).trans hji18
                          by_cases c19 : 0 ≤ (ji18)
                          · rw [if_pos c19] at H
                            have c19b0 := eq_true c19
                            have c19b1 : decide (0 ≤ (ji18)) = true := decide_eq_true c19
                            clear c19
                            by_cases c20 : (ji18) ≤ (l0.length : Int)
                            · rw [if_pos c20] at H
                              have c20b0 := eq_true c20
                              have c20b1 : decide ((ji18) ≤ (l0.length : Int)) = true := decide_eq_true c20
                              clear c20
                              obtain ⟨y200, hy200⟩ : ∃ y_ : List (S31), y_ = (l0.drop ((ji18) : Int).toNat) := ⟨_, rfl⟩
                              replace H : ((mainsheetref07_Most.f y200 ((x1_2 - ((t199) % 4294967296)) % 4294967296)).bind fun t204 => (if t204 = (wrap64 ((wrap64 ((l0.length : Int) - x7_1)) - 1)) then (if x6_2.length < 17592186044416 then (mainsheetref07_Choice.l1 kj7 l0 ((x1_2 - ((t199) % 4294967296)) % 4294967296) (x6_2 ++ [x8_2]) x7_1 (wrap64 (x8_2 + 1))) else (none)) else (mainsheetref07_Choice.l1 kj7 l0 x1_2 x6_2 x7_1 (wrap64 (x8_2 + 1))))) = some (r1, r2) := by first | (rw [hy200]; with_reducible exact H) | (have H2_ := (Option.bind_some _ _).symm.trans H; rw [hy200]; with_reducible exact H2_) | (have H2_ := (Option.bind_some _ _).symm.trans H; with_reducible exact H2_) | with_reducible exact H | (rw [hy200]; exact H) | exact H
                              have Ny200 := Aside0.mk hy200
                              clear hy200
                              replace H := Option.bind_eq_some_iff.mp H
                              obtain ⟨t204, A210, H⟩ := H
                              replace H : (if t204 = (wrap64 ((wrap64 ((l0.length : Int) - x7_1)) - 1)) then (if x6_2.length < 17592186044416 then (mainsheetref07_Choice.l1 kj7 l0 ((x1_2 - ((t199) % 4294967296)) % 4294967296) (x6_2 ++ [x8_2]) x7_1 (wrap64 (x8_2 + 1))) else (none)) else (mainsheetref07_Choice.l1 kj7 l0 x1_2 x6_2 x7_1 (wrap64 (x8_2 + 1)))) = some (r1, r2) := H
                              have A21 := Aside0.mk A210
                              clear A210
                              by_cases c22 : t204 = (wrap64 ((wrap64 ((l0.length : Int) - x7_1)) - 1))
                              · rw [if_pos c22] at H
                                have c22b0 : (t204 == (wrap64 ((wrap64 ((l0.length : Int) - x7_1)) - 1))) = true := beq_iff_eq.mpr c22
                                have c22b1 : (t204 != (wrap64 ((wrap64 ((l0.length : Int) - x7_1)) - 1))) = false := bne_eq_false_iff_eq.mpr c22
                                clear c22
                                by_cases c23 : x6_2.length < 17592186044416
                                · rw [if_pos c23] at H
                                  have LMc23 := Aside0.mk c23
                                  clear c23
                                  obtain ⟨y205, hy205⟩ : ∃ y_ : List Int, y_ = (x6_2 ++ [x8_2]) := ⟨_, rfl⟩
                                  replace H : (mainsheetref07_Choice.l1 kj7 l0 ((x1_2 - ((t199) % 4294967296)) % 4294967296) y205 x7_1 (wrap64 (x8_2 + 1))) = some (r1, r2) := by first | (rw [hy205]; with_reducible exact H) | (have H2_ := (Option.bind_some _ _).symm.trans H; rw [hy205]; with_reducible exact H2_) | (have H2_ := (Option.bind_some _ _).symm.trans H; with_reducible exact H2_) | with_reducible exact H | (rw [hy205]; exact H) | exact H
                                  have Ny205 := Aside0.mk hy205
                                  clear hy205
                                  have H' := Aside0.mk H
                                  clear H
                                  have p196 : 0 ≤ (x7_1 : Int) := of_decide_eq_true (by first | (with_reducible assumption) | assumption)
                                  have q196 : x7_1 < (l0.length : Int) := of_decide_eq_true (by first | (with_reducible assumption) | assumption)
                                  obtain ⟨ad196, e196, hx196_0, hx196_1⟩ := at_T31 HR0.out x7_1 p196 q196
                                  cases e196
                                  replace hx196_0 := (HB.out.cell (World.block_lt_of_cell? w _ hx196_0)).trans hx196_0
                                  replace hx196_1 := (HB.out.cell (World.block_lt_of_cell? w _ hx196_1)).trans hx196_1
                                  replace p196 := eq_true p196
                                  replace q196 := eq_true q196
                                  go_wp2_with (first | ((with_reducible refine gate_callee (f := 18) rfl ?_); refine goesL_ (some 37) rfl rfl Tryd.func18 (by kernel_rfl) rfl #[.agg #[.int .u32 ((rd_T31 l0 x7_1).f0), .int .u32 ((rd_T31 l0 x7_1).f1)], .int .u32 x1_2] rfl (by (try simp only [List.map_toArray, List.map_cons, List.map_nil]); first | done | rfl | (simp only [List.length_drop, List.length_take]; rfl)) ?_; (with_reducible refine (mainsheetref07_Allows.calls ((rd_T31 l0 x7_1).f0) ((rd_T31 l0 x7_1).f1) x1_2 t197 _ A14.out).mono ?_); rintro e w24 ⟨rfl, hb⟩; refine ⟨_, rfl, ?_⟩; have n0_ := Aside0.mk (Kd.R_below (by (with_reducible repeat (first | apply Kd.R_alloc | apply Kd.R_drewN | apply Kd.R_drew)); exact HO_6.out) hb); have n1_ := Aside0.mk (below_step (by repeat (first | (with_reducible first | exact HB.out | apply below_alloc | apply pw_below_drewN | apply below_drew1) | exact HB.out)) hb); clear HO_6; clear HB; have HO_6 := n0_; have HB := n1_; clear n0_ n1_; (try clear hb); (try clear hb2); (try clear hk); (try clear hi)) | ((with_reducible refine gate_callee (f := 20) rfl ?_); refine goesL_ (some 39) rfl rfl Tryd.func20 (by kernel_rfl) rfl #[.int .u32 t197, .int .i64 x8_2] rfl (by (try simp only [List.map_toArray, List.map_cons, List.map_nil]); first | done | rfl | (simp only [List.length_drop, List.length_take]; rfl)) ?_; (with_reducible refine (mainsheetref04_Has.calls t197 x8_2 true _ A15.out).mono ?_); rintro e w' ⟨rfl, ⟨nd, rfl⟩⟩; refine ⟨_, rfl, ?_⟩) | ((with_reducible refine gate_callee (f := 38) rfl ?_); refine goesL_ (some 43) rfl rfl Tryd.func38 (by kernel_rfl) rfl #[.int .i64 x8_2] rfl (by (try simp only [List.map_toArray, List.map_cons, List.map_nil]); first | done | rfl | (simp only [List.length_drop, List.length_take]; rfl)) ?_; (with_reducible refine (mainsheetref07_bit.calls kj7 x8_2 t199 _ A17.out).mono ?_); rintro e w' ⟨rfl, ⟨nd, rfl⟩⟩; refine ⟨_, rfl, ?_⟩; have q25 : ((ji18) : Int) ≤ ((l0.length : Int) : Int) := of_decide_eq_true (by first | (with_reducible assumption) | assumption); obtain ⟨i025, hi025, _, hsz25, _⟩ := info_parts info31; have hroom25 : l0.length ≤ c0 := HC0.out; have hC25 : Kd.C k31 _ (some ad196) l0.length l0 := HR0.out; have q025 : (0 : Int) ≤ ((ji18) : Int) := of_decide_eq_true (by first | (with_reducible assumption) | assumption); have hcut25 := cut_from (P := Tryd.prog) 22 31 .i64 Tryd.underlying22 hi025 2 hsz25 (some ad196) l0.length c0 (ji18) q025 q25; have hr25 := Kd.C_drop (m := ((ji18) : Int).toNat) (c := c0) hC25 (by omega) hroom25; obtain ⟨A25, hA25⟩ : ∃ A1, A1 = (if c0 = ((ji18) : Int).toNat then (some ad196) else ((some ad196) : Option Addr).map (·.add (((ji18) : Int).toNat * 2))) := ⟨_, rfl⟩; obtain ⟨c25, hc25⟩ : ∃ c1, c1 = c0 - ((ji18) : Int).toNat := ⟨_, rfl⟩; have hy25 : y200.length = l0.length - ((ji18) : Int).toNat := (by rw [Ny200.out, List.length_drop] <;> omega); rw [show (l0).drop ((ji18) : Int).toNat = y200 from Ny200.out.symm] at hr25; replace hr25 : Kd.C k31 _ A25 y200.length y200 := (by rw [hA25]; exact hr25); rw [← hy25, ← hA25, ← hc25] at hcut25; have HR203 := Aside0.mk hr25; have HC203 := Aside0.mk (show y200.length ≤ c25 from by rw [hy25, hc25]; exact Nat.sub_le_sub_right hroom25 _); clear hr25 hC25 hroom25 hi025 hsz25 hc25; have KY25 := Aside0.mk hy25; have KA25 := Aside0.mk hA25; clear hy25 hA25; replace q25 := eq_true q25) | ((with_reducible refine gate_callee (f := 26) rfl ?_); refine goesL_ (some 51) rfl rfl Tryd.func26 (by kernel_rfl) rfl #[.slice A25 y200.length c25, .int .u32 ((x1_2 - ((t199) % 4294967296)) % 4294967296)] rfl (by (try simp only [List.map_toArray, List.map_cons, List.map_nil]); first | done | rfl | (simp only [List.length_drop, List.length_take]; rfl)) ?_; (with_reducible refine (mainsheetref07_Most.calls _ _ y200 ((x1_2 - ((t199) % 4294967296)) % 4294967296) t204 _ ?side1 ?side2 A21.out).mono ?_); (case side1 => repeat (first | exact (Kd.C_below HR203.out (by repeat (first | (with_reducible first | exact HB.out | apply below_alloc | apply pw_below_drewN | apply below_drew1) | exact HB.out))) | (with_reducible refine Kd.C_alloc ?_ _) | (with_reducible refine Kd.C_drewN ?_ _) | (with_reducible refine Kd.C_drew ?_))); (case side2 => exact HC203.out); rintro e w26 ⟨rfl, hb⟩; refine ⟨_, rfl, ?_⟩; have n0_ := Aside0.mk (Kd.R_below (by (with_reducible repeat (first | apply Kd.R_alloc | apply Kd.R_drewN | apply Kd.R_drew)); exact HO_6.out) hb); have n1_ := Aside0.mk (below_step (by repeat (first | (with_reducible first | exact HB.out | apply below_alloc | apply pw_below_drewN | apply below_drew1) | exact HB.out)) hb); clear HO_6; clear HB; have HO_6 := n0_; have HB := n1_; clear n0_ n1_; (try clear hb); (try clear hb2); (try clear hk); (try clear hi)) | ((with_reducible refine gate_builtin (b := .append) (xs := #[.tmp 58, .tmp 60]) rfl ?_); (try (refine gate_guard (by rfl) ?_; dsimp only)); at_builtin; refine Kd.R_append (Kd.int .i64) (w0 := w) w.heap.size rfl (.tmp 58) (.tmp 60) 26 3 (.int .i64 0) 8 rfl Tryd.underlying26 info3 rfl (by decide) (by omega) u6 x6_2 x8_2 [.int .i64 x8_2] (fun _ => True) (fun _ => False) rfl rfl ?aP (fun _ hk => hk.elim) ?aF ?aO ?aB ?aS ?aL ?_; (case aP => exact rfl); (case aB => exact (by repeat (first | (with_reducible first | exact HB.out | apply below_alloc | apply pw_below_drewN | apply below_drew1) | exact HB.out))); (case aF => exact (fun _ _ => trivial)); (case aO => exact (by (with_reducible repeat (first | apply Kd.R_alloc | apply Kd.R_drewN | apply Kd.R_drew)); exact HO_6.out)); (case aS => exact (below_size (by repeat (first | (with_reducible first | exact HB.out | apply below_alloc | apply pw_below_drewN | apply below_drew1) | exact HB.out)))); (case aL => have := LMc23.out; omega); intro v206 w27 ho hb hg hat; rw [← Ny205.out] at ho; have n0_ := Aside0.mk (hb); have n1_ := Aside0.mk (ho); clear HB; clear HO_6; have HB := n0_; have HO207 := n1_; clear n0_ n1_; clear ho hb hg hat))
                                  go_roundg kj7
                                  case measure => have := HK1.out; have := HK2.out; have := HJ7.out; omega
                                  case rel => exact ⟨((x1_2 - ((t199) % 4294967296)) % 4294967296), (y205), (wrap64 (x8_2 + 1)), (by first | rfl | (simp; done) | (simp [*]; done)), (by first | rfl | (simp; done) | (simp [*]; done)), H', ⟨by have := HK1.out; have := HK2.out; have := HJ7.out; omega⟩, ⟨by (with_reducible repeat (first | apply Kd.R_alloc | apply Kd.R_drewN | apply Kd.R_drew)); exact HO207.out⟩, ⟨by repeat (first | (with_reducible first | exact HB.out | apply below_alloc | apply pw_below_drewN | apply below_drew1) | exact HB.out)⟩⟩
                                · rw [if_neg c23] at H
                                  exact absurd H (by simp)
                              · rw [if_neg c22] at H
                                have c22b0 : (t204 == (wrap64 ((wrap64 ((l0.length : Int) - x7_1)) - 1))) = false := beq_eq_false_iff_ne.mpr c22
                                have c22b1 : (t204 != (wrap64 ((wrap64 ((l0.length : Int) - x7_1)) - 1))) = true := bne_iff_ne.mpr c22
                                have H' := Aside0.mk H
                                clear H
                                have p196 : 0 ≤ (x7_1 : Int) := of_decide_eq_true (by first | (with_reducible assumption) | assumption)
                                have q196 : x7_1 < (l0.length : Int) := of_decide_eq_true (by first | (with_reducible assumption) | assumption)
                                obtain ⟨ad196, e196, hx196_0, hx196_1⟩ := at_T31 HR0.out x7_1 p196 q196
                                cases e196
                                replace hx196_0 := (HB.out.cell (World.block_lt_of_cell? w _ hx196_0)).trans hx196_0
                                replace hx196_1 := (HB.out.cell (World.block_lt_of_cell? w _ hx196_1)).trans hx196_1
                                replace p196 := eq_true p196
                                replace q196 := eq_true q196
                                go_wp2_with (first | ((with_reducible refine gate_callee (f := 18) rfl ?_); refine goesL_ (some 37) rfl rfl Tryd.func18 (by kernel_rfl) rfl #[.agg #[.int .u32 ((rd_T31 l0 x7_1).f0), .int .u32 ((rd_T31 l0 x7_1).f1)], .int .u32 x1_2] rfl (by (try simp only [List.map_toArray, List.map_cons, List.map_nil]); first | done | rfl | (simp only [List.length_drop, List.length_take]; rfl)) ?_; (with_reducible refine (mainsheetref07_Allows.calls ((rd_T31 l0 x7_1).f0) ((rd_T31 l0 x7_1).f1) x1_2 t197 _ A14.out).mono ?_); rintro e w28 ⟨rfl, hb⟩; refine ⟨_, rfl, ?_⟩; have n0_ := Aside0.mk (Kd.R_below (by (with_reducible repeat (first | apply Kd.R_alloc | apply Kd.R_drewN | apply Kd.R_drew)); exact HO_6.out) hb); have n1_ := Aside0.mk (below_step (by repeat (first | (with_reducible first | exact HB.out | apply below_alloc | apply pw_below_drewN | apply below_drew1) | exact HB.out)) hb); clear HO_6; clear HB; have HO_6 := n0_; have HB := n1_; clear n0_ n1_; (try clear hb); (try clear hb2); (try clear hk); (try clear hi)) | ((with_reducible refine gate_callee (f := 20) rfl ?_); refine goesL_ (some 39) rfl rfl Tryd.func20 (by kernel_rfl) rfl #[.int .u32 t197, .int .i64 x8_2] rfl (by (try simp only [List.map_toArray, List.map_cons, List.map_nil]); first | done | rfl | (simp only [List.length_drop, List.length_take]; rfl)) ?_; (with_reducible refine (mainsheetref04_Has.calls t197 x8_2 true _ A15.out).mono ?_); rintro e w' ⟨rfl, ⟨nd, rfl⟩⟩; refine ⟨_, rfl, ?_⟩) | ((with_reducible refine gate_callee (f := 38) rfl ?_); refine goesL_ (some 43) rfl rfl Tryd.func38 (by kernel_rfl) rfl #[.int .i64 x8_2] rfl (by (try simp only [List.map_toArray, List.map_cons, List.map_nil]); first | done | rfl | (simp only [List.length_drop, List.length_take]; rfl)) ?_; (with_reducible refine (mainsheetref07_bit.calls kj7 x8_2 t199 _ A17.out).mono ?_); rintro e w' ⟨rfl, ⟨nd, rfl⟩⟩; refine ⟨_, rfl, ?_⟩; have q29 : ((ji18) : Int) ≤ ((l0.length : Int) : Int) := of_decide_eq_true (by first | (with_reducible assumption) | assumption); obtain ⟨i029, hi029, _, hsz29, _⟩ := info_parts info31; have hroom29 : l0.length ≤ c0 := HC0.out; have hC29 : Kd.C k31 _ (some ad196) l0.length l0 := HR0.out; have q029 : (0 : Int) ≤ ((ji18) : Int) := of_decide_eq_true (by first | (with_reducible assumption) | assumption); have hcut29 := cut_from (P := Tryd.prog) 22 31 .i64 Tryd.underlying22 hi029 2 hsz29 (some ad196) l0.length c0 (ji18) q029 q29; have hr29 := Kd.C_drop (m := ((ji18) : Int).toNat) (c := c0) hC29 (by omega) hroom29; obtain ⟨A29, hA29⟩ : ∃ A1, A1 = (if c0 = ((ji18) : Int).toNat then (some ad196) else ((some ad196) : Option Addr).map (·.add (((ji18) : Int).toNat * 2))) := ⟨_, rfl⟩; obtain ⟨c29, hc29⟩ : ∃ c1, c1 = c0 - ((ji18) : Int).toNat := ⟨_, rfl⟩; have hy29 : y200.length = l0.length - ((ji18) : Int).toNat := (by rw [Ny200.out, List.length_drop] <;> omega); rw [show (l0).drop ((ji18) : Int).toNat = y200 from Ny200.out.symm] at hr29; replace hr29 : Kd.C k31 _ A29 y200.length y200 := (by rw [hA29]; exact hr29); rw [← hy29, ← hA29, ← hc29] at hcut29; have HR203 := Aside0.mk hr29; have HC203 := Aside0.mk (show y200.length ≤ c29 from by rw [hy29, hc29]; exact Nat.sub_le_sub_right hroom29 _); clear hr29 hC29 hroom29 hi029 hsz29 hc29; have KY29 := Aside0.mk hy29; have KA29 := Aside0.mk hA29; clear hy29 hA29; replace q29 := eq_true q29) | ((with_reducible refine gate_callee (f := 26) rfl ?_); refine goesL_ (some 51) rfl rfl Tryd.func26 (by kernel_rfl) rfl #[.slice A29 y200.length c29, .int .u32 ((x1_2 - ((t199) % 4294967296)) % 4294967296)] rfl (by (try simp only [List.map_toArray, List.map_cons, List.map_nil]); first | done | rfl | (simp only [List.length_drop, List.length_take]; rfl)) ?_; (with_reducible refine (mainsheetref07_Most.calls _ _ y200 ((x1_2 - ((t199) % 4294967296)) % 4294967296) t204 _ ?side1 ?side2 A21.out).mono ?_); (case side1 => repeat (first | exact (Kd.C_below HR203.out (by repeat (first | (with_reducible first | exact HB.out | apply below_alloc | apply pw_below_drewN | apply below_drew1) | exact HB.out))) | (with_reducible refine Kd.C_alloc ?_ _) | (with_reducible refine Kd.C_drewN ?_ _) | (with_reducible refine Kd.C_drew ?_))); (case side2 => exact HC203.out); rintro e w30 ⟨rfl, hb⟩; refine ⟨_, rfl, ?_⟩; have n0_ := Aside0.mk (Kd.R_below (by (with_reducible repeat (first | apply Kd.R_alloc | apply Kd.R_drewN | apply Kd.R_drew)); exact HO_6.out) hb); have n1_ := Aside0.mk (below_step (by repeat (first | (with_reducible first | exact HB.out | apply below_alloc | apply pw_below_drewN | apply below_drew1) | exact HB.out)) hb); clear HO_6; clear HB; have HO_6 := n0_; have HB := n1_; clear n0_ n1_; (try clear hb); (try clear hb2); (try clear hk); (try clear hi)))
                                go_roundg kj7
                                case measure => have := HK1.out; have := HK2.out; have := HJ7.out; omega
                                case rel => exact ⟨(x1_2), (x6_2), (wrap64 (x8_2 + 1)), (by first | rfl | (simp; done) | (simp [*]; done)), (by first | rfl | (simp; done) | (simp [*]; done)), H', ⟨by have := HK1.out; have := HK2.out; have := HJ7.out; omega⟩, ⟨by (with_reducible repeat (first | apply Kd.R_alloc | apply Kd.R_drewN | apply Kd.R_drew)); exact HO_6.out⟩, ⟨by repeat (first | (with_reducible first | exact HB.out | apply below_alloc | apply pw_below_drewN | apply below_drew1) | exact HB.out)⟩⟩
                            · rw [if_neg c20] at H
                              exact absurd H (by simp)
                          · rw [if_neg c19] at H
                            exact absurd H (by simp)
                        · replace c16 := Bool.eq_false_iff.mpr c16
                          subst c16
                          have H1 : (mainsheetref07_Choice.l1 kj7 l0 x1_2 x6_2 x7_1 (wrap64 (x8_2 + 1))) = some (r1, r2) := by rw [if_neg (show ¬ (false = true) by decide)] at H; exact H
                          clear H
                          have H := H1
                          clear H1
                          have H' := Aside0.mk H
                          clear H
                          have p196 : 0 ≤ (x7_1 : Int) := of_decide_eq_true (by first | (with_reducible assumption) | assumption)
                          have q196 : x7_1 < (l0.length : Int) := of_decide_eq_true (by first | (with_reducible assumption) | assumption)
                          obtain ⟨ad196, e196, hx196_0, hx196_1⟩ := at_T31 HR0.out x7_1 p196 q196
                          cases e196
                          replace hx196_0 := (HB.out.cell (World.block_lt_of_cell? w _ hx196_0)).trans hx196_0
                          replace hx196_1 := (HB.out.cell (World.block_lt_of_cell? w _ hx196_1)).trans hx196_1
                          replace p196 := eq_true p196
                          replace q196 := eq_true q196
                          go_wp2_with (first | ((with_reducible refine gate_callee (f := 18) rfl ?_); refine goesL_ (some 37) rfl rfl Tryd.func18 (by kernel_rfl) rfl #[.agg #[.int .u32 ((rd_T31 l0 x7_1).f0), .int .u32 ((rd_T31 l0 x7_1).f1)], .int .u32 x1_2] rfl (by (try simp only [List.map_toArray, List.map_cons, List.map_nil]); first | done | rfl | (simp only [List.length_drop, List.length_take]; rfl)) ?_; (with_reducible refine (mainsheetref07_Allows.calls ((rd_T31 l0 x7_1).f0) ((rd_T31 l0 x7_1).f1) x1_2 t197 _ A14.out).mono ?_); rintro e w31 ⟨rfl, hb⟩; refine ⟨_, rfl, ?_⟩; have n0_ := Aside0.mk (Kd.R_below (by (with_reducible repeat (first | apply Kd.R_alloc | apply Kd.R_drewN | apply Kd.R_drew)); exact HO_6.out) hb); have n1_ := Aside0.mk (below_step (by repeat (first | (with_reducible first | exact HB.out | apply below_alloc | apply pw_below_drewN | apply below_drew1) | exact HB.out)) hb); clear HO_6; clear HB; have HO_6 := n0_; have HB := n1_; clear n0_ n1_; (try clear hb); (try clear hb2); (try clear hk); (try clear hi)) | ((with_reducible refine gate_callee (f := 20) rfl ?_); refine goesL_ (some 39) rfl rfl Tryd.func20 (by kernel_rfl) rfl #[.int .u32 t197, .int .i64 x8_2] rfl (by (try simp only [List.map_toArray, List.map_cons, List.map_nil]); first | done | rfl | (simp only [List.length_drop, List.length_take]; rfl)) ?_; (with_reducible refine (mainsheetref04_Has.calls t197 x8_2 false _ A15.out).mono ?_); rintro e w' ⟨rfl, ⟨nd, rfl⟩⟩; refine ⟨_, rfl, ?_⟩))
                          go_roundg kj7
                          case measure => have := HK1.out; have := HK2.out; have := HJ7.out; omega
                          case rel => exact ⟨(x1_2), (x6_2), (wrap64 (x8_2 + 1)), (by first | rfl | (simp; done) | (simp [*]; done)), (by first | rfl | (simp; done) | (simp [*]; done)), H', ⟨by have := HK1.out; have := HK2.out; have := HJ7.out; omega⟩, ⟨by (with_reducible repeat (first | apply Kd.R_alloc | apply Kd.R_drewN | apply Kd.R_drew)); exact HO_6.out⟩, ⟨by repeat (first | (with_reducible first | exact HB.out | apply below_alloc | apply pw_below_drewN | apply below_drew1) | exact HB.out)⟩⟩
                      · rw [if_neg c13] at H
                        exact absurd H (by simp)
                    · rw [if_neg c12] at H
                      exact absurd H (by simp)
                  · replace c11 := Bool.eq_false_iff.mpr c11
                    subst c11
                    have H1 : (mainsheetref07_Choice.l0 kj7 l0 x1_2 x6_2 (wrap64 (x7_1 + 1))) = some (r1, r2) := by rw [if_neg (show ¬ (false = true) by decide)] at H; exact H
                    clear H
                    have H := H1
                    clear H1
                    have H' := Aside0.mk H
                    clear H
                    go_wp2
                    go_roundg kj7
                    case measure => have := HK1.out; have := HK2.out; have := HJ7.out; omega
                    case rel => exact ⟨(x1_2), (x6_2), (wrap64 (x7_1 + 1)), (by first | rfl | (simp; done) | (simp [*]; done)), (by first | rfl | (simp; done) | (simp [*]; done)), H', ⟨by have := HK1.out; have := HK2.out; have := HJ7.out; omega⟩, ⟨by (with_reducible repeat (first | apply Kd.R_alloc | apply Kd.R_drewN | apply Kd.R_drew)); exact HO_6.out⟩, ⟨by repeat (first | (with_reducible first | exact HB.out | apply below_alloc | apply pw_below_drewN | apply below_drew1) | exact HB.out)⟩⟩
        · rw [if_neg c7] at H
          have c7b0 : decide (x7_1 < (l0.length : Int)) = false := decide_eq_false c7
          clear c7
          simp only [Option.some.injEq, Prod.mk.injEq] at H
          obtain ⟨rfl, rfl⟩ := H
          go_wp2
          go_ret2
          exact ⟨_, by first | rfl | (simp [errW_none, errW_some] <;> rfl) | (simp [*, errW_none, errW_some] <;> rfl), by (with_reducible repeat (first | apply Kd.R_alloc | apply Kd.R_drewN | apply Kd.R_drew)); exact HO_6.out, by repeat (first | (with_reducible first | exact HB.out | apply below_alloc | apply pw_below_drewN | apply below_drew1) | exact HB.out)⟩

end Go.Proofs.YtlfljoihcjmnkaaDoor.Q
