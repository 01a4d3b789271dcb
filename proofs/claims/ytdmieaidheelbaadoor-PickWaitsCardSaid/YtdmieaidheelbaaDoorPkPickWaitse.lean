/- Texts of the proof of PickWaits, joined. -/
import Derived.Test.YtdmieaidheelbaaDoorPkPickWaitsd
/- QFlaw19PickWaits -/
section
-- Written by a program of this session (hprint.py), which drives the kit's print over hand-proved contracts. Lean checks it.
namespace Go.Proofs.YtdmieaidheelbaaDoor.Q
open Go.RowKit Go.Proofs.YtdmieaidheelbaaDoorW.PrintWords Go.Proofs.YtdmieaidheelbaaDoorW.PrintLast Go.Proofs.YtdmieaidheelbaaDoorW.PrintMore
attribute [local go_sem] max2_int min2_int max_two min_two max_three min_three max_four min_four   -- for this text's walks alone
set_option linter.unusedVariables false
set_option linter.unusedSimpArgs false

/-! ### mainsheetlaw19_PickWaits: function 13 -/
mutual
def mainsheetlaw19_PickWaits.l0 : Nat → List (S31) → Int → List (S90) → Int → Int → List (S90) → List (S36) → Int → Option (Bool)
  | 0, _, _, _, _, _, _, _, _ => none
  | k + 1, x3, x6, x36, x37, x38, x744000, x744001, x744002 => if x38 < x37 then (if 0 ≤ x38 then (if x38 < (x36.length : Int) then (if 0 < (((rd_T90 x36 x38).f0).length : Int) then ((pick_On.f x3 (rd ((rd_T90 x36 x38).f0) 0)).bind fun bt756 => (if bt756.2 = true then (mainsheetlaw19_PickWaits.j1 k x3 x6 x36 x37 x38 false x744000 x744001 x744002 ((rd_T90 x36 x38).f0) ((rd_T90 x36 x38).f1.f0.f0) ((rd_T90 x36 x38).f1.f0.f1) ((rd_T90 x36 x38).f1.f1) ((rd_T90 x36 x38).f2) ((rd_T90 x36 x38).f3)) else (if (((rd_T90 x36 x38).f0).length : Int) = 1 then ((mainsheetlaw19_Ask_wish.f k x744000 x744001 x744002 (rd ((rd_T90 x36 x38).f0) 0)).bind fun bt759 => ((mask_Allows.f k bt759.2.2.1 bt759.2.2.2 x744002).bind fun t763 => ((cpuset_Within.f t763 x6).bind fun t764 => (mainsheetlaw19_PickWaits.j1 k x3 x6 x36 x37 x38 (!t764) x744000 x744001 x744002 ((rd_T90 x36 x38).f0) ((rd_T90 x36 x38).f1.f0.f0) ((rd_T90 x36 x38).f1.f0.f1) ((rd_T90 x36 x38).f1.f1) ((rd_T90 x36 x38).f2) ((rd_T90 x36 x38).f3))))) else (mainsheetlaw19_PickWaits.j1 k x3 x6 x36 x37 x38 false x744000 x744001 x744002 ((rd_T90 x36 x38).f0) ((rd_T90 x36 x38).f1.f0.f0) ((rd_T90 x36 x38).f1.f0.f1) ((rd_T90 x36 x38).f1.f1) ((rd_T90 x36 x38).f2) ((rd_T90 x36 x38).f3))))) else (none)) else (none)) else (none)) else (some true)
def mainsheetlaw19_PickWaits.j1 : Nat → List (S31) → Int → List (S90) → Int → Int → Bool → List (S90) → List (S36) → Int → List Int → Int → Int → Int → Int → Bool → Option (Bool)
  | 0, _, _, _, _, _, _, _, _, _, _, _, _, _, _, _ => none
  | k + 1, x3, x6, x36, x37, x38, x73, x744000, x744001, x744002, x755000, x755001, x755002, x755003, x755004, x755005 => if x73 = true then (some false) else (mainsheetlaw19_PickWaits.l1 k x3 x6 x36 x37 x38 x755000 (x755000.length : Int) 0 x744000 x744001 x744002)
def mainsheetlaw19_PickWaits.l1 : Nat → List (S31) → Int → List (S90) → Int → Int → List Int → Int → Int → List (S90) → List (S36) → Int → Option (Bool)
  | 0, _, _, _, _, _, _, _, _, _, _, _ => none
  | k + 1, x3, x6, x36, x37, x38, x75, x76, x77, x744000, x744001, x744002 => if x77 < x76 then (if 0 ≤ x77 then (if x77 < (x75.length : Int) then ((pick_On.f x3 (rd x75 x77)).bind fun bt766 => (if bt766.2 = true then (if 0 ≤ bt766.1 then (mainsheetlaw19_PickWaits.l1 k x3 (Go.bits .or .u32 x6 (shl .u32 1 bt766.1)) x36 x37 x38 x75 x76 (wrap64 (x77 + 1)) x744000 x744001 x744002) else (none)) else (mainsheetlaw19_PickWaits.l1 k x3 x6 x36 x37 x38 x75 x76 (wrap64 (x77 + 1)) x744000 x744001 x744002))) else (none)) else (none)) else (mainsheetlaw19_PickWaits.l0 k x3 x6 x36 x37 (wrap64 (x38 + 1)) x744000 x744001 x744002)
end
def mainsheetlaw19_PickWaits.f (k : Nat) (l0_0 : List (S90)) (l0_1 : List (S36)) (a0_2 : Int) : Option (Bool) := (mainsheetlaw19_wakes.f).bind fun t744 => (if t744 = true then ((mainsheetlaw19_Ask_over.f k l0_0 l0_1 a0_2).bind fun t745 => (if t745 = true then (some true) else ((pick_Pick.f l0_0 l0_1 a0_2).bind fun bt746 => (if bt746.2.2 = 0 then (mainsheetlaw19_PickWaits.l0 k bt746.1 0 l0_0 (l0_0.length : Int) 0 l0_0 l0_1 a0_2) else (some ((bt746.1.length : Int) == 0)))))) else (some false))
theorem mainsheetlaw19_PickWaits.mono_l : ∀ k, (∀ y0 y1 y2 y3 y4 y5 y6 y7, LeO (mainsheetlaw19_PickWaits.l0 k y0 y1 y2 y3 y4 y5 y6 y7) (mainsheetlaw19_PickWaits.l0 (k + 1) y0 y1 y2 y3 y4 y5 y6 y7)) ∧ (∀ y0 y1 y2 y3 y4 y5 y6 y7 y8 y9 y10 y11 y12 y13 y14, LeO (mainsheetlaw19_PickWaits.j1 k y0 y1 y2 y3 y4 y5 y6 y7 y8 y9 y10 y11 y12 y13 y14) (mainsheetlaw19_PickWaits.j1 (k + 1) y0 y1 y2 y3 y4 y5 y6 y7 y8 y9 y10 y11 y12 y13 y14)) ∧ (∀ y0 y1 y2 y3 y4 y5 y6 y7 y8 y9 y10, LeO (mainsheetlaw19_PickWaits.l1 k y0 y1 y2 y3 y4 y5 y6 y7 y8 y9 y10) (mainsheetlaw19_PickWaits.l1 (k + 1) y0 y1 y2 y3 y4 y5 y6 y7 y8 y9 y10))
  | 0 => ⟨fun _ _ _ _ _ _ _ _ r h => by simp [mainsheetlaw19_PickWaits.l0] at h, fun _ _ _ _ _ _ _ _ _ _ _ _ _ _ _ r h => by simp [mainsheetlaw19_PickWaits.j1] at h, fun _ _ _ _ _ _ _ _ _ _ _ r h => by simp [mainsheetlaw19_PickWaits.l1] at h⟩
  | k + 1 => by
    obtain ⟨ih0, ih1, ih2⟩ := mainsheetlaw19_PickWaits.mono_l k
    refine ⟨?_, ?_, ?_⟩
    · intro y0 y1 y2 y3 y4 y5 y6 y7
      unfold mainsheetlaw19_PickWaits.l0
      repeat' first
      | (with_reducible exact ih0 _ _ _ _ _ _ _ _)
      | (with_reducible exact ih1 _ _ _ _ _ _ _ _ _ _ _ _ _ _ _)
      | (with_reducible exact ih2 _ _ _ _ _ _ _ _ _ _ _)
      | (with_reducible exact mainsheetlaw19_Ask_over.mono _ _ _ _)
      | (with_reducible exact mainsheetlaw19_Ask_wish.mono _ _ _ _ _)
      | (with_reducible exact mask_Allows.mono _ _ _ _)
      | (with_reducible exact LeO.refl _)
      | (with_reducible exact LeO.none _)
      | (with_reducible refine LeO.ite ?_ ?_)
      | (with_reducible refine LeO.bind ?_ (fun _ => ?_))
      | exact ih0 _ _ _ _ _ _ _ _
      | exact ih1 _ _ _ _ _ _ _ _ _ _ _ _ _ _ _
      | exact ih2 _ _ _ _ _ _ _ _ _ _ _
      | exact mainsheetlaw19_Ask_over.mono _ _ _ _
      | exact mainsheetlaw19_Ask_wish.mono _ _ _ _ _
      | exact mask_Allows.mono _ _ _ _
      | exact LeO.none _
      | refine LeO.ite ?_ ?_
      | refine LeO.bind ?_ (fun _ => ?_)
    · intro y0 y1 y2 y3 y4 y5 y6 y7 y8 y9 y10 y11 y12 y13 y14
      unfold mainsheetlaw19_PickWaits.j1
      repeat' first
      | (with_reducible exact ih0 _ _ _ _ _ _ _ _)
      | (with_reducible exact ih1 _ _ _ _ _ _ _ _ _ _ _ _ _ _ _)
      | (with_reducible exact ih2 _ _ _ _ _ _ _ _ _ _ _)
      | (with_reducible exact mainsheetlaw19_Ask_over.mono _ _ _ _)
      | (with_reducible exact mainsheetlaw19_Ask_wish.mono _ _ _ _ _)
      | (with_reducible exact mask_Allows.mono _ _ _ _)
      | (with_reducible exact LeO.refl _)
      | (with_reducible exact LeO.none _)
      | (with_reducible refine LeO.ite ?_ ?_)
      | (with_reducible refine LeO.bind ?_ (fun _ => ?_))
      | exact ih0 _ _ _ _ _ _ _ _
      | exact ih1 _ _ _ _ _ _ _ _ _ _ _ _ _ _ _
      | exact ih2 _ _ _ _ _ _ _ _ _ _ _
      | exact mainsheetlaw19_Ask_over.mono _ _ _ _
      | exact mainsheetlaw19_Ask_wish.mono _ _ _ _ _
      | exact mask_Allows.mono _ _ _ _
      | exact LeO.none _
      | refine LeO.ite ?_ ?_
      | refine LeO.bind ?_ (fun _ => ?_)
    · intro y0 y1 y2 y3 y4 y5 y6 y7 y8 y9 y10
      unfold mainsheetlaw19_PickWaits.l1
      repeat' first
      | (with_reducible exact ih0 _ _ _ _ _ _ _ _)
      | (with_reducible exact ih1 _ _ _ _ _ _ _ _ _ _ _ _ _ _ _)
      | (with_reducible exact ih2 _ _ _ _ _ _ _ _ _ _ _)
      | (with_reducible exact mainsheetlaw19_Ask_over.mono _ _ _ _)
      | (with_reducible exact mainsheetlaw19_Ask_wish.mono _ _ _ _ _)
      | (with_reducible exact mask_Allows.mono _ _ _ _)
      | (with_reducible exact LeO.refl _)
      | (with_reducible exact LeO.none _)
      | (with_reducible refine LeO.ite ?_ ?_)
      | (with_reducible refine LeO.bind ?_ (fun _ => ?_))
      | exact ih0 _ _ _ _ _ _ _ _
      | exact ih1 _ _ _ _ _ _ _ _ _ _ _ _ _ _ _
      | exact ih2 _ _ _ _ _ _ _ _ _ _ _
      | exact mainsheetlaw19_Ask_over.mono _ _ _ _
      | exact mainsheetlaw19_Ask_wish.mono _ _ _ _ _
      | exact mask_Allows.mono _ _ _ _
      | exact LeO.none _
      | refine LeO.ite ?_ ?_
      | refine LeO.bind ?_ (fun _ => ?_)
theorem mainsheetlaw19_PickWaits.mono : ∀ a0 a1 a2 k, LeO (mainsheetlaw19_PickWaits.f k a0 a1 a2) (mainsheetlaw19_PickWaits.f (k + 1) a0 a1 a2) := by
  intro a0 a1 a2 k
  obtain ⟨ih0, ih1, ih2⟩ := mainsheetlaw19_PickWaits.mono_l k
  unfold mainsheetlaw19_PickWaits.f
  repeat' first
      | (with_reducible exact ih0 _ _ _ _ _ _ _ _)
      | (with_reducible exact ih1 _ _ _ _ _ _ _ _ _ _ _ _ _ _ _)
      | (with_reducible exact ih2 _ _ _ _ _ _ _ _ _ _ _)
      | (with_reducible exact mainsheetlaw19_Ask_over.mono _ _ _ _)
      | (with_reducible exact mainsheetlaw19_Ask_wish.mono _ _ _ _ _)
      | (with_reducible exact mask_Allows.mono _ _ _ _)
      | (with_reducible exact LeO.refl _)
      | (with_reducible exact LeO.none _)
      | (with_reducible refine LeO.ite ?_ ?_)
      | (with_reducible refine LeO.bind ?_ (fun _ => ?_))
      | exact ih0 _ _ _ _ _ _ _ _
      | exact ih1 _ _ _ _ _ _ _ _ _ _ _ _ _ _ _
      | exact ih2 _ _ _ _ _ _ _ _ _ _ _
      | exact mainsheetlaw19_Ask_over.mono _ _ _ _
      | exact mainsheetlaw19_Ask_wish.mono _ _ _ _ _
      | exact mask_Allows.mono _ _ _ _
      | exact LeO.none _
      | refine LeO.ite ?_ ?_
      | refine LeO.bind ?_ (fun _ => ?_)
def mainsheetlaw19_PickWaits.T13 : Bool × List (List Nat × List Nat) := (true, [([], []), ([0], [0]), ([1], [1]), ([2], [2]), ([3, 2], [2, 3]), ([4, 2], [2, 4]), ([5, 2], [2, 5]), ([2, 6], [2, 6]), ([7, 2], [7]), ([8], [8]), ([8], [8]), ([10, 8], [8, 10]), ([11, 8], [8, 11]), ([12, 8], [8, 12]), ([9, 13, 8, 8], [8, 9, 13]), ([14, 8], [8, 14]), ([8], [8]), ([16, 8], [8, 16]), ([15, 17, 14, 8], [8, 15, 17]), ([8], [8]), ([18, 19, 18, 8], [8, 18, 19]), ([20, 8], [8, 20]), ([8, 21], [8, 21])])
def mainsheetlaw19_PickWaits.B13 : List Nat := [0, 1, 3, 7, 15, 31, 63, 127, 255, 511, 511, 1535, 3583, 7679, 16383, 32767, 511, 66047, 262143, 511, 1048575, 2097151, 4194303]
theorem mainsheetlaw19_PickWaits.tab13 : rtab .any (opsOf Tryd.f13 13) = mainsheetlaw19_PickWaits.T13 := by kernel_rfl
theorem mainsheetlaw19_PickWaits.bits13 : waitsOk mainsheetlaw19_PickWaits.T13.2 mainsheetlaw19_PickWaits.B13 = true := by kernel_rfl
set_option maxHeartbeats 8000000 in
set_option maxRecDepth 100000 in
theorem mainsheetlaw19_PickWaits.calls (k : Nat) (A0_0 : Option Addr) (c0_0 : Nat) (l0_0 : List (S90)) (A0_1 : Option Addr) (c0_1 : Nat) (l0_1 : List (S36)) (a0_2 : Int) (r : Bool) (w : World) (hr0_0 : Kd.C k90 w A0_0 l0_0.length l0_0) (hc0_0 : l0_0.length ≤ c0_0) (hr0_1 : Kd.C k36 w A0_1 l0_1.length l0_1) (hc0_1 : l0_1.length ≤ c0_1) (hT : TabW w) (h : mainsheetlaw19_PickWaits.f k l0_0 l0_1 a0_2 = some r) :
    Calls Tryd.prog 13 #[.agg #[.slice A0_0 l0_0.length c0_0, .slice A0_1 l0_1.length c0_1, .int .u32 a0_2]] w fun e w' => e = .returned (.bool r) ∧ Below w.heap.size w w' := by
  have HT := Aside0.mk hT
  clear hT
  have hu41 := Tryd.underlying41
  have hu90 := Tryd.underlying90
  have HR0_0 := Aside0.mk hr0_0
  have HC0_0 := Aside0.mk hc0_0
  clear hr0_0 hc0_0
  have HR0_1 := Aside0.mk hr0_1
  have HC0_1 := Aside0.mk hc0_1
  clear hr0_1 hc0_1
  have HB := Aside0.mk (Below.refl w.heap.size w)
  have H : ((mainsheetlaw19_wakes.f).bind fun t744 => (if t744 = true then ((mainsheetlaw19_Ask_over.f k l0_0 l0_1 a0_2).bind fun t745 => (if t745 = true then (some true) else ((pick_Pick.f l0_0 l0_1 a0_2).bind fun bt746 => (if bt746.2.2 = 0 then (mainsheetlaw19_PickWaits.l0 k bt746.1 0 l0_0 (l0_0.length : Int) 0 l0_0 l0_1 a0_2) else (some ((bt746.1.length : Int) == 0)))))) else (some false))) = some r := h
  clear h
  replace H := Option.bind_eq_some_iff.mp H
  obtain ⟨t744, A20, H⟩ := H
  replace H : (if t744 = true then ((mainsheetlaw19_Ask_over.f k l0_0 l0_1 a0_2).bind fun t745 => (if t745 = true then (some true) else ((pick_Pick.f l0_0 l0_1 a0_2).bind fun bt746 => (if bt746.2.2 = 0 then (mainsheetlaw19_PickWaits.l0 k bt746.1 0 l0_0 (l0_0.length : Int) 0 l0_0 l0_1 a0_2) else (some ((bt746.1.length : Int) == 0)))))) else (some false)) = some r := H
  have A2 := Aside0.mk A20
  clear A20
  by_cases c3 : t744 = true
  · subst c3
    have H1 : ((mainsheetlaw19_Ask_over.f k l0_0 l0_1 a0_2).bind fun t745 => (if t745 = true then (some true) else ((pick_Pick.f l0_0 l0_1 a0_2).bind fun bt746 => (if bt746.2.2 = 0 then (mainsheetlaw19_PickWaits.l0 k bt746.1 0 l0_0 (l0_0.length : Int) 0 l0_0 l0_1 a0_2) else (some ((bt746.1.length : Int) == 0)))))) = some r := by rw [if_pos rfl] at H; exact H
    clear H
    have H := H1
    clear H1
    replace H := Option.bind_eq_some_iff.mp H
    obtain ⟨t745, A40, H⟩ := H
    replace H : (if t745 = true then (some true) else ((pick_Pick.f l0_0 l0_1 a0_2).bind fun bt746 => (if bt746.2.2 = 0 then (mainsheetlaw19_PickWaits.l0 k bt746.1 0 l0_0 (l0_0.length : Int) 0 l0_0 l0_1 a0_2) else (some ((bt746.1.length : Int) == 0))))) = some r := H
    have A4 := Aside0.mk A40
    clear A40
    by_cases c5 : t745 = true
    · subst c5
      have H1 : (some true) = some r := by rw [if_pos rfl] at H; exact H
      clear H
      have H := H1
      clear H1
      obtain rfl := Option.some.inj H
      go_enter Tryd.func13, Tryd.ntmps13
      go_wp2_with (first | ((with_reducible refine gate_dst (N := 1) rfl ?_); (try (refine gate_guard (by rfl) ?_; dsimp only)); refine box_event ?hg (N := 1) ?hd (cs := #[.slice A0_0 l0_0.length c0_0, .slice A0_1 l0_1.length c0_1, .int .u32 a0_2]) (t := 41) ?hr ?_; (case hd => rfl); (case hg => rfl); (case hr => first | (go_simp; done) | (go_simp; rfl)); intro gb743 hg w6 hbox hb; have n0_ := Aside0.mk (below_step (by repeat (first | (with_reducible first | exact HB.out | apply below_alloc | apply pw_below_drewN | apply below_drew1) | exact HB.out)) hb); have n1_ := Aside0.mk (hbox); have n2_ := Aside0.mk ((by rw [hg]; exact (below_size (by repeat (first | (with_reducible first | exact HB.out | apply below_alloc | apply pw_below_drewN | apply below_drew1) | exact HB.out))) : w.heap.size ≤ gb743)); have n3_ := Aside0.mk ((by rw [hg]; exact (below_size (by repeat (first | (with_reducible first | exact HB.out | apply below_alloc | apply pw_below_drewN | apply below_drew1) | exact HB.out))) : w.heap.size ≤ gb743)); clear HB; have HB := n0_; have BK743 := n1_; have GW743 := n2_; have GE743 := n3_; clear n0_ n1_ n2_ n3_; clear hb hbox hg) | ((with_reducible refine gate_callee (f := 18) rfl ?_); refine goesL_ (some 15) rfl rfl Tryd.func18 (by kernel_rfl) rfl #[] rfl (by (try simp only [List.map_toArray, List.map_cons, List.map_nil]); first | done | rfl | (simp only [List.length_drop, List.length_take]; rfl)) ?_; (with_reducible refine (mainsheetlaw19_wakes.calls  true _ ?tb A2.out).mono ?_); (case tb => exact HT.out.step (by repeat (first | (with_reducible first | exact HB.out | apply below_alloc | apply pw_below_drewN | apply below_drew1 | refine below_set ?_ GE743.out) | exact HB.out))); rintro e w7 ⟨rfl, hb⟩; refine ⟨_, rfl, ?_⟩; have n0_ := Aside0.mk (blk_below (g := gb743) (o := .cells #[.slice A0_0 l0_0.length c0_0, .slice A0_1 l0_1.length c0_1, .int .u32 a0_2] 41 (0, 0)) (by (with_reducible repeat (first | refine blk_drewN ?_ _ | refine blk_drew ?_ | refine blk_alloc ?_ _)); exact BK743.out) hb); have n1_ := Aside0.mk (below_step (by repeat (first | (with_reducible first | exact HB.out | apply below_alloc | apply pw_below_drewN | apply below_drew1 | refine below_set ?_ GE743.out) | exact HB.out)) hb); clear BK743; clear HB; have BK743 := n0_; have HB := n1_; clear n0_ n1_; (try clear hb); (try clear hb2); (try clear hk); (try clear hi); have hcz8_0 : w7.cell? ⟨gb743, 0, none⟩ = some (.slice A0_0 l0_0.length c0_0) := (blk_cell BK743.out 0).trans rfl; have hcz8_1 : w7.cell? ⟨gb743, 1, none⟩ = some (.slice A0_1 l0_1.length c0_1) := (blk_cell BK743.out 1).trans rfl; have hcz8_2 : w7.cell? ⟨gb743, 2, none⟩ = some (.int .u32 a0_2) := (blk_cell BK743.out 2).trans rfl; have hfz8_0 := blk_frozen BK743.out 0; have hfz8_1 := blk_frozen BK743.out 1; have hfz8_2 := blk_frozen BK743.out 2) | ((with_reducible refine gate_callee (f := 19) rfl ?_); refine goesL_ (some 18) rfl rfl Tryd.func19 (by kernel_rfl) rfl #[.agg #[.slice A0_0 l0_0.length c0_0, .slice A0_1 l0_1.length c0_1, .int .u32 a0_2]] rfl (by (try simp only [List.map_toArray, List.map_cons, List.map_nil]); first | done | rfl | (simp only [List.length_drop, List.length_take]; rfl)) ?_; (with_reducible refine (mainsheetlaw19_Ask_over.calls k _ _ l0_0 _ _ l0_1 a0_2 true _ ?side1 ?side2 ?side3 ?side4 A4.out).mono ?_); (case side1 => repeat (first | exact (Kd.C_below HR0_0.out HB.out) | (with_reducible refine Kd.C_alloc ?_ _) | (with_reducible refine Kd.C_drewN ?_ _) | (with_reducible refine Kd.C_drew ?_))); (case side2 => exact HC0_0.out); (case side3 => repeat (first | exact (Kd.C_below HR0_1.out HB.out) | (with_reducible refine Kd.C_alloc ?_ _) | (with_reducible refine Kd.C_drewN ?_ _) | (with_reducible refine Kd.C_drew ?_))); (case side4 => exact HC0_1.out); rintro e w9 ⟨rfl, hb⟩; refine ⟨_, rfl, ?_⟩; have n0_ := Aside0.mk (blk_below (g := gb743) (o := .cells #[.slice A0_0 l0_0.length c0_0, .slice A0_1 l0_1.length c0_1, .int .u32 a0_2] 41 (0, 0)) (by (with_reducible repeat (first | refine blk_drewN ?_ _ | refine blk_drew ?_ | refine blk_alloc ?_ _)); exact BK743.out) hb); have n1_ := Aside0.mk (below_step (by repeat (first | (with_reducible first | exact HB.out | apply below_alloc | apply pw_below_drewN | apply below_drew1 | refine below_set ?_ GE743.out) | exact HB.out)) hb); clear BK743; clear HB; have BK743 := n0_; have HB := n1_; clear n0_ n1_; (try clear hb); (try clear hb2); (try clear hk); (try clear hi)))
      go_ret
      exact ⟨by first | rfl | (simp [errW_none, errW_some] <;> rfl) | (simp [*, errW_none, errW_some] <;> rfl), by repeat (first | (with_reducible first | exact HB.out | apply below_alloc | apply pw_below_drewN | apply below_drew1 | refine below_set ?_ GE743.out) | exact HB.out)⟩
    · replace c5 := Bool.eq_false_iff.mpr c5
      subst c5
      have H1 : ((pick_Pick.f l0_0 l0_1 a0_2).bind fun bt746 => (if bt746.2.2 = 0 then (mainsheetlaw19_PickWaits.l0 k bt746.1 0 l0_0 (l0_0.length : Int) 0 l0_0 l0_1 a0_2) else (some ((bt746.1.length : Int) == 0)))) = some r := by rw [if_neg (show ¬ (false = true) by decide)] at H; exact H
      clear H
      have H := H1
      clear H1
      replace H := Option.bind_eq_some_iff.mp H
      obtain ⟨⟨t746, t747, t748⟩, A100, H⟩ := H
      replace H : (if t748 = 0 then (mainsheetlaw19_PickWaits.l0 k t746 0 l0_0 (l0_0.length : Int) 0 l0_0 l0_1 a0_2) else (some ((t746.length : Int) == 0))) = some r := H
      have A10 := Aside0.mk A100
      clear A100
      by_cases c11 : t748 = 0
      · rw [if_pos c11] at H
        have c11b0 : (t748 == 0) = true := beq_iff_eq.mpr c11
        have c11b1 : (t748 != 0) = false := bne_eq_false_iff_eq.mpr c11
        clear c11
        have H' := Aside0.mk H
        clear H
        go_enter Tryd.func13, Tryd.ntmps13
        go_wp2_with (first | ((with_reducible refine gate_dst (N := 1) rfl ?_); (try (refine gate_guard (by rfl) ?_; dsimp only)); refine box_event ?hg (N := 1) ?hd (cs := #[.slice A0_0 l0_0.length c0_0, .slice A0_1 l0_1.length c0_1, .int .u32 a0_2]) (t := 41) ?hr ?_; (case hd => rfl); (case hg => rfl); (case hr => first | (go_simp; done) | (go_simp; rfl)); intro gb743 hg w12 hbox hb; have n0_ := Aside0.mk (below_step (by repeat (first | (with_reducible first | exact HB.out | apply below_alloc | apply pw_below_drewN | apply below_drew1) | exact HB.out)) hb); have n1_ := Aside0.mk (hbox); have n2_ := Aside0.mk ((by rw [hg]; exact (below_size (by repeat (first | (with_reducible first | exact HB.out | apply below_alloc | apply pw_below_drewN | apply below_drew1) | exact HB.out))) : w.heap.size ≤ gb743)); have n3_ := Aside0.mk ((by rw [hg]; exact (below_size (by repeat (first | (with_reducible first | exact HB.out | apply below_alloc | apply pw_below_drewN | apply below_drew1) | exact HB.out))) : w.heap.size ≤ gb743)); clear HB; have HB := n0_; have BK743 := n1_; have GW743 := n2_; have GE743 := n3_; clear n0_ n1_ n2_ n3_; clear hb hbox hg) | ((with_reducible refine gate_callee (f := 18) rfl ?_); refine goesL_ (some 15) rfl rfl Tryd.func18 (by kernel_rfl) rfl #[] rfl (by (try simp only [List.map_toArray, List.map_cons, List.map_nil]); first | done | rfl | (simp only [List.length_drop, List.length_take]; rfl)) ?_; (with_reducible refine (mainsheetlaw19_wakes.calls  true _ ?tb A2.out).mono ?_); (case tb => exact HT.out.step (by repeat (first | (with_reducible first | exact HB.out | apply below_alloc | apply pw_below_drewN | apply below_drew1 | refine below_set ?_ GE743.out) | exact HB.out))); rintro e w13 ⟨rfl, hb⟩; refine ⟨_, rfl, ?_⟩; have n0_ := Aside0.mk (blk_below (g := gb743) (o := .cells #[.slice A0_0 l0_0.length c0_0, .slice A0_1 l0_1.length c0_1, .int .u32 a0_2] 41 (0, 0)) (by (with_reducible repeat (first | refine blk_drewN ?_ _ | refine blk_drew ?_ | refine blk_alloc ?_ _)); exact BK743.out) hb); have n1_ := Aside0.mk (below_step (by repeat (first | (with_reducible first | exact HB.out | apply below_alloc | apply pw_below_drewN | apply below_drew1 | refine below_set ?_ GE743.out) | exact HB.out)) hb); clear BK743; clear HB; have BK743 := n0_; have HB := n1_; clear n0_ n1_; (try clear hb); (try clear hb2); (try clear hk); (try clear hi); have hcz14_0 : w13.cell? ⟨gb743, 0, none⟩ = some (.slice A0_0 l0_0.length c0_0) := (blk_cell BK743.out 0).trans rfl; have hcz14_1 : w13.cell? ⟨gb743, 1, none⟩ = some (.slice A0_1 l0_1.length c0_1) := (blk_cell BK743.out 1).trans rfl; have hcz14_2 : w13.cell? ⟨gb743, 2, none⟩ = some (.int .u32 a0_2) := (blk_cell BK743.out 2).trans rfl; have hfz14_0 := blk_frozen BK743.out 0; have hfz14_1 := blk_frozen BK743.out 1; have hfz14_2 := blk_frozen BK743.out 2) | ((with_reducible refine gate_callee (f := 19) rfl ?_); refine goesL_ (some 18) rfl rfl Tryd.func19 (by kernel_rfl) rfl #[.agg #[.slice A0_0 l0_0.length c0_0, .slice A0_1 l0_1.length c0_1, .int .u32 a0_2]] rfl (by (try simp only [List.map_toArray, List.map_cons, List.map_nil]); first | done | rfl | (simp only [List.length_drop, List.length_take]; rfl)) ?_; (with_reducible refine (mainsheetlaw19_Ask_over.calls k _ _ l0_0 _ _ l0_1 a0_2 false _ ?side1 ?side2 ?side3 ?side4 A4.out).mono ?_); (case side1 => repeat (first | exact (Kd.C_below HR0_0.out HB.out) | (with_reducible refine Kd.C_alloc ?_ _) | (with_reducible refine Kd.C_drewN ?_ _) | (with_reducible refine Kd.C_drew ?_))); (case side2 => exact HC0_0.out); (case side3 => repeat (first | exact (Kd.C_below HR0_1.out HB.out) | (with_reducible refine Kd.C_alloc ?_ _) | (with_reducible refine Kd.C_drewN ?_ _) | (with_reducible refine Kd.C_drew ?_))); (case side4 => exact HC0_1.out); rintro e w15 ⟨rfl, hb⟩; refine ⟨_, rfl, ?_⟩; have n0_ := Aside0.mk (blk_below (g := gb743) (o := .cells #[.slice A0_0 l0_0.length c0_0, .slice A0_1 l0_1.length c0_1, .int .u32 a0_2] 41 (0, 0)) (by (with_reducible repeat (first | refine blk_drewN ?_ _ | refine blk_drew ?_ | refine blk_alloc ?_ _)); exact BK743.out) hb); have n1_ := Aside0.mk (below_step (by repeat (first | (with_reducible first | exact HB.out | apply below_alloc | apply pw_below_drewN | apply below_drew1 | refine below_set ?_ GE743.out) | exact HB.out)) hb); clear BK743; clear HB; have BK743 := n0_; have HB := n1_; clear n0_ n1_; (try clear hb); (try clear hb2); (try clear hk); (try clear hi); have hcz16_0 : w15.cell? ⟨gb743, 0, none⟩ = some (.slice A0_0 l0_0.length c0_0) := (blk_cell BK743.out 0).trans rfl; have hcz16_1 : w15.cell? ⟨gb743, 1, none⟩ = some (.slice A0_1 l0_1.length c0_1) := (blk_cell BK743.out 1).trans rfl; have hcz16_2 : w15.cell? ⟨gb743, 2, none⟩ = some (.int .u32 a0_2) := (blk_cell BK743.out 2).trans rfl; have hfz16_0 := blk_frozen BK743.out 0; have hfz16_1 := blk_frozen BK743.out 1; have hfz16_2 := blk_frozen BK743.out 2) | ((with_reducible refine gate_callee (f := 20) rfl ?_); refine goesL_ (some 26) rfl rfl Tryd.func20 (by kernel_rfl) rfl #[.slice A0_0 l0_0.length c0_0, .slice A0_1 l0_1.length c0_1, .int .u32 a0_2] rfl (by (try simp only [List.map_toArray, List.map_cons, List.map_nil]); first | done | rfl | (simp only [List.length_drop, List.length_take]; rfl)) ?_; (with_reducible refine (pick_Pick.calls _ _ l0_0 _ _ l0_1 a0_2 t746 t747 t748 _ ?side1 ?side2 ?side3 ?side4 ?tb A10.out).mono ?_); (case tb => exact HT.out.step (by repeat (first | (with_reducible first | exact HB.out | apply below_alloc | apply pw_below_drewN | apply below_drew1 | refine below_set ?_ GE743.out) | exact HB.out))); (case side1 => repeat (first | exact (Kd.C_below HR0_0.out HB.out) | (with_reducible refine Kd.C_alloc ?_ _) | (with_reducible refine Kd.C_drewN ?_ _) | (with_reducible refine Kd.C_drew ?_))); (case side2 => exact HC0_0.out); (case side3 => repeat (first | exact (Kd.C_below HR0_1.out HB.out) | (with_reducible refine Kd.C_alloc ?_ _) | (with_reducible refine Kd.C_drewN ?_ _) | (with_reducible refine Kd.C_drew ?_))); (case side4 => exact HC0_1.out); rintro e w17 ⟨v749, v751, rfl, ho0, ho1, hb⟩; refine ⟨_, rfl, ?_⟩; have n0_ := Aside0.mk (Kd.R_lower ho0 (below_size (by repeat (first | (with_reducible first | exact HB.out | apply below_alloc | apply pw_below_drewN | apply below_drew1 | refine below_set ?_ GE743.out) | exact HB.out)))); have n1_ := Aside0.mk (Kd.R_lower ho1 (below_size (by repeat (first | (with_reducible first | exact HB.out | apply below_alloc | apply pw_below_drewN | apply below_drew1 | refine below_set ?_ GE743.out) | exact HB.out)))); have n2_ := Aside0.mk (blk_below (g := gb743) (o := .cells #[.slice A0_0 l0_0.length c0_0, .slice A0_1 l0_1.length c0_1, .int .u32 a0_2] 41 (0, 0)) (by (with_reducible repeat (first | refine blk_drewN ?_ _ | refine blk_drew ?_ | refine blk_alloc ?_ _)); exact BK743.out) hb); have n3_ := Aside0.mk (below_step (by repeat (first | (with_reducible first | exact HB.out | apply below_alloc | apply pw_below_drewN | apply below_drew1 | refine below_set ?_ GE743.out) | exact HB.out)) hb); clear BK743; clear HB; have HO750 := n0_; have HO752 := n1_; have BK743 := n2_; have HB := n3_; clear n0_ n1_ n2_ n3_; (try clear hb); (try clear hb2); (try clear hk); (try clear hi); (try clear ho0); (try clear ho1); have hcz18_0 : w17.cell? ⟨gb743, 0, none⟩ = some (.slice A0_0 l0_0.length c0_0) := (blk_cell BK743.out 0).trans rfl; have hcz18_1 : w17.cell? ⟨gb743, 1, none⟩ = some (.slice A0_1 l0_1.length c0_1) := (blk_cell BK743.out 1).trans rfl; have hcz18_2 : w17.cell? ⟨gb743, 2, none⟩ = some (.int .u32 a0_2) := (blk_cell BK743.out 2).trans rfl; have hfz18_0 := blk_frozen BK743.out 0; have hfz18_1 := blk_frozen BK743.out 1; have hfz18_2 := blk_frozen BK743.out 2))
        go_loopg [6, 38] k (fun kq v6 v38 w' => ∃ (x6_1 : Int) (x38_1 : Int), v6 = .int .u32 x6_1 ∧ v38 = .int .i64 x38_1 ∧ Aside0 (mainsheetlaw19_PickWaits.l0 kq t746 x6_1 l0_0 (l0_0.length : Int) x38_1 l0_0 l0_1 a0_2 = some r) ∧ Aside0 (kq ≤ k) ∧ Aside0 (Kd.R k31 31 w' w.heap.size (fun _ => True) v749 t746) ∧ Aside0 (w'.heap[gb743]? = some (.cells #[(.slice A0_0 l0_0.length c0_0), (.slice A0_1 l0_1.length c0_1), .int .u32 a0_2] 41 (0, 0))) ∧ Aside0 (Below w.heap.size w w'))
        case atStart => exact ⟨(0), (0), (by first | rfl | (simp; done) | (simp [*]; done)), (by first | rfl | (simp; done) | (simp [*]; done)), H', ⟨Nat.le_refl _⟩, ⟨by (with_reducible repeat (first | apply Kd.R_alloc | apply Kd.R_drewN | apply Kd.R_drew)); exact HO750.out⟩, ⟨by (with_reducible repeat (first | refine blk_drewN ?_ _ | refine blk_drew ?_ | refine blk_alloc ?_ _)); exact BK743.out⟩, ⟨by repeat (first | (with_reducible first | exact HB.out | apply below_alloc | apply pw_below_drewN | apply below_drew1 | refine below_set ?_ GE743.out) | exact HB.out)⟩⟩
        case round =>
          clear H'
          try clear c1
          try clear c2
          try clear p2
          try clear c3
          try clear c5
          try clear c11
          try clear c11b0
          try clear c11b1
          try clear c13
          try clear c18
          try clear hcz14_0
          try clear hcz14_1
          try clear hcz14_2
          try clear hcz16_0
          try clear hcz16_1
          try clear hcz16_2
          try clear hcz18_0
          try clear hcz18_1
          try clear hcz18_2
          try clear hcz8_0
          try clear hcz8_1
          try clear hcz8_2
          try clear hfz14_0
          try clear hfz14_1
          try clear hfz14_2
          try clear hfz16_0
          try clear hfz16_1
          try clear hfz16_2
          try clear hfz18_0
          try clear hfz18_1
          try clear hfz18_2
          try clear hfz8_0
          try clear hfz8_1
          try clear hfz8_2
          obtain ⟨x6_1, x38_1, rfl, rfl, HA, HK1, HO_3, BK743, HB⟩ := hrel
          cases gk with
          | zero => exact absurd HA.out (by simp [mainsheetlaw19_PickWaits.l0])
          | succ k1 =>
            have H := HA.out
            clear HA
            simp only [mainsheetlaw19_PickWaits.l0] at H
            by_cases c19 : x38_1 < (l0_0.length : Int)
            · rw [if_pos c19] at H
              have c19b0 : decide (x38_1 < (l0_0.length : Int)) = true := decide_eq_true c19
              clear c19
              by_cases c20 : 0 ≤ x38_1
              · rw [if_pos c20] at H
                have c20b0 : decide (0 ≤ x38_1) = true := decide_eq_true c20
                clear c20
                by_cases c21 : x38_1 < (l0_0.length : Int)
                · rw [if_pos c21] at H
                  have c21b0 : decide (x38_1 < (l0_0.length : Int)) = true := decide_eq_true c21
                  clear c21
                  by_cases c22 : 0 < (((rd_T90 l0_0 x38_1).f0).length : Int)
                  · rw [if_pos c22] at H
                    have c22b0 : decide (0 < (((rd_T90 l0_0 x38_1).f0).length : Int)) = true := decide_eq_true c22
                    have c22b1 : decide (0 < ((rd_T90 l0_0 x38_1).f0).length) = true := decide_eq_true (by omega)
                    clear c22
                    replace H := Option.bind_eq_some_iff.mp H
                    obtain ⟨⟨t756, t757⟩, A230, H⟩ := H
                    replace H : (if t757 = true then (mainsheetlaw19_PickWaits.j1 k1 t746 x6_1 l0_0 (l0_0.length : Int) x38_1 false l0_0 l0_1 a0_2 ((rd_T90 l0_0 x38_1).f0) ((rd_T90 l0_0 x38_1).f1.f0.f0) ((rd_T90 l0_0 x38_1).f1.f0.f1) ((rd_T90 l0_0 x38_1).f1.f1) ((rd_T90 l0_0 x38_1).f2) ((rd_T90 l0_0 x38_1).f3)) else (if (((rd_T90 l0_0 x38_1).f0).length : Int) = 1 then ((mainsheetlaw19_Ask_wish.f k1 l0_0 l0_1 a0_2 (rd ((rd_T90 l0_0 x38_1).f0) 0)).bind fun bt759 => ((mask_Allows.f k1 bt759.2.2.1 bt759.2.2.2 a0_2).bind fun t763 => ((cpuset_Within.f t763 x6_1).bind fun t764 => (mainsheetlaw19_PickWaits.j1 k1 t746 x6_1 l0_0 (l0_0.length : Int) x38_1 (!t764) l0_0 l0_1 a0_2 ((rd_T90 l0_0 x38_1).f0) ((rd_T90 l0_0 x38_1).f1.f0.f0) ((rd_T90 l0_0 x38_1).f1.f0.f1) ((rd_T90 l0_0 x38_1).f1.f1) ((rd_T90 l0_0 x38_1).f2) ((rd_T90 l0_0 x38_1).f3))))) else (mainsheetlaw19_PickWaits.j1 k1 t746 x6_1 l0_0 (l0_0.length : Int) x38_1 false l0_0 l0_1 a0_2 ((rd_T90 l0_0 x38_1).f0) ((rd_T90 l0_0 x38_1).f1.f0.f0) ((rd_T90 l0_0 x38_1).f1.f0.f1) ((rd_T90 l0_0 x38_1).f1.f1) ((rd_T90 l0_0 x38_1).f2) ((rd_T90 l0_0 x38_1).f3)))) = some r := H
                    have A23 := Aside0.mk A230
                    clear A230
                    have HC24 := Aside0.mk H
                    clear H
                    have p753 : 0 ≤ (x38_1 : Int) := of_decide_eq_true (by first | (with_reducible assumption) | assumption)
                    have q753 : x38_1 < (l0_0.length : Int) := of_decide_eq_true (by first | (with_reducible assumption) | assumption)
                    obtain ⟨ad753, A753_0, c753_0, e753, hx753_0, hx753_1, hx753_2, hx753_3, hx753_4, hx753_5, hl753_0, hi753_0⟩ := at_T90 HR0_0.out x38_1 p753 q753
                    cases e753
                    replace hx753_0 := (HB.out.cell (World.block_lt_of_cell? w _ hx753_0)).trans hx753_0
                    replace hx753_1 := (HB.out.cell (World.block_lt_of_cell? w _ hx753_1)).trans hx753_1
                    replace hx753_2 := (HB.out.cell (World.block_lt_of_cell? w _ hx753_2)).trans hx753_2
                    replace hx753_3 := (HB.out.cell (World.block_lt_of_cell? w _ hx753_3)).trans hx753_3
                    replace hx753_4 := (HB.out.cell (World.block_lt_of_cell? w _ hx753_4)).trans hx753_4
                    replace hx753_5 := (HB.out.cell (World.block_lt_of_cell? w _ hx753_5)).trans hx753_5
                    have HR753_0 := Aside0.mk hi753_0
                    have HC753_0 := Aside0.mk hl753_0
                    clear hi753_0 hl753_0
                    replace p753 := eq_true p753
                    replace q753 := eq_true q753
                    go_upto_region 13 with (first | ((with_reducible refine gate_dst (N := 8) rfl ?_); (try (refine gate_guard (by rfl) ?_; dsimp only)); refine box_event ?hg (N := 8) ?hd (cs := #[.slice none 0 0, .int .u64 0, .int .u64 0, .int .u64 0, .int .u64 0, .bool false]) (t := 90) ?hr ?_; (case hd => rfl); (case hg => rfl); (case hr => first | (go_simp; done) | (go_simp; rfl)); intro gb754 hg w25 hbox hb; have n0_ := Aside0.mk (Kd.R_below (by (with_reducible repeat (first | apply Kd.R_alloc | apply Kd.R_drewN | apply Kd.R_drew)); exact HO_3.out) hb); have n1_ := Aside0.mk (blk_below (g := gb743) (o := .cells #[.slice (some ad753) l0_0.length c0_0, .slice A0_1 l0_1.length c0_1, .int .u32 a0_2] 41 (0, 0)) (by (with_reducible repeat (first | refine blk_drewN ?_ _ | refine blk_drew ?_ | refine blk_alloc ?_ _)); exact BK743.out) hb); have n2_ := Aside0.mk (below_step (by repeat (first | (with_reducible first | exact HB.out | apply below_alloc | apply pw_below_drewN | apply below_drew1 | refine below_set ?_ GE743.out) | exact HB.out)) hb); have n3_ := Aside0.mk (hbox); have n4_ := Aside0.mk ((by rw [hg]; exact (below_size (by repeat (first | (with_reducible first | exact HB.out | apply below_alloc | apply pw_below_drewN | apply below_drew1 | refine below_set ?_ GE743.out) | exact HB.out))) : w.heap.size ≤ gb754)); have n5_ := Aside0.mk ((by rw [hg]; exact (below_size (by repeat (first | (with_reducible first | exact HB.out | apply below_alloc | apply pw_below_drewN | apply below_drew1 | refine below_set ?_ GE743.out) | exact HB.out))) : w.heap.size ≤ gb754)); have n6_ := Aside0.mk ((by rw [hg]; exact Nat.ne_of_lt (blk_lt (g := gb743) (o := .cells #[.slice (some ad753) l0_0.length c0_0, .slice A0_1 l0_1.length c0_1, .int .u32 a0_2] 41 (0, 0)) (by (with_reducible repeat (first | refine blk_drewN ?_ _ | refine blk_drew ?_ | refine blk_alloc ?_ _)); exact BK743.out)) : gb743 ≠ gb754)); have n7_ := Aside0.mk ((by rw [hg]; exact Nat.ne_of_gt (blk_lt (g := gb743) (o := .cells #[.slice (some ad753) l0_0.length c0_0, .slice A0_1 l0_1.length c0_1, .int .u32 a0_2] 41 (0, 0)) (by (with_reducible repeat (first | refine blk_drewN ?_ _ | refine blk_drew ?_ | refine blk_alloc ?_ _)); exact BK743.out)) : gb754 ≠ gb743)); clear HO_3; clear BK743; clear HB; have HO_3 := n0_; have BK743 := n1_; have HB := n2_; have BK754 := n3_; have GW754 := n4_; have GE754 := n5_; have NB743_754 := n6_; have NB754_743 := n7_; clear n0_ n1_ n2_ n3_ n4_ n5_ n6_ n7_; clear hb hbox hg; have hnb26 := NB754_743.out; have hnc26 := NB743_754.out; have hcz27_0 : w25.cell? ⟨gb754, 0, none⟩ = some (.slice none 0 0) := (blk_cell BK754.out 0).trans rfl; have hcz27_1 : w25.cell? ⟨gb754, 1, none⟩ = some (.int .u64 0) := (blk_cell BK754.out 1).trans rfl; have hcz27_2 : w25.cell? ⟨gb754, 2, none⟩ = some (.int .u64 0) := (blk_cell BK754.out 2).trans rfl; have hcz27_3 : w25.cell? ⟨gb754, 3, none⟩ = some (.int .u64 0) := (blk_cell BK754.out 3).trans rfl; have hcz27_4 : w25.cell? ⟨gb754, 4, none⟩ = some (.int .u64 0) := (blk_cell BK754.out 4).trans rfl; have hcz27_5 : w25.cell? ⟨gb754, 5, none⟩ = some (.bool false) := (blk_cell BK754.out 5).trans rfl; have hfz27_0 := blk_frozen BK754.out 0; have hfz27_1 := blk_frozen BK754.out 1; have hfz27_2 := blk_frozen BK754.out 2; have hfz27_3 := blk_frozen BK754.out 3; have hfz27_4 := blk_frozen BK754.out 4; have hfz27_5 := blk_frozen BK754.out 5; have p755 : 0 ≤ (0 : Int) := (by omega); have q755 : 0 < (((rd_T90 l0_0 x38_1).f0).length : Int) := of_decide_eq_true (by first | (with_reducible assumption) | assumption); obtain ⟨ad755, e755, hx755_0⟩ := Kd.at_int HR753_0.out 0 p755 q755; cases e755; have qi755 : (0 < ((rd_T90 l0_0 x38_1).f0).length) = True := eq_true (by omega); (try rw [show ((0 : Int)).toNat = 0 from rfl] at hx755_0); (try rw [Addr.add_zero'] at hx755_0); have hn755_0 : ad755.block ≠ gb754 := Nat.ne_of_lt (Nat.lt_of_lt_of_le (by have := World.block_lt_of_cell? _ _ hx755_0; first | rwa [add_block] at this | exact this) GW754.out); have hn755_1 : ad755.block ≠ gb754 := Nat.ne_of_lt (Nat.lt_of_lt_of_le (by have := World.block_lt_of_cell? _ _ hx755_0; first | rwa [add_block] at this | exact this) GW754.out); have hn755_2 : ad755.block ≠ gb754 := Nat.ne_of_lt (Nat.lt_of_lt_of_le (by have := World.block_lt_of_cell? _ _ hx755_0; first | rwa [add_block] at this | exact this) GW754.out); have hn755_3 : ad755.block ≠ gb754 := Nat.ne_of_lt (Nat.lt_of_lt_of_le (by have := World.block_lt_of_cell? _ _ hx755_0; first | rwa [add_block] at this | exact this) GW754.out); have hn755_4 : ad755.block ≠ gb754 := Nat.ne_of_lt (Nat.lt_of_lt_of_le (by have := World.block_lt_of_cell? _ _ hx755_0; first | rwa [add_block] at this | exact this) GW754.out); have hn755_5 : ad755.block ≠ gb754 := Nat.ne_of_lt (Nat.lt_of_lt_of_le (by have := World.block_lt_of_cell? _ _ hx755_0; first | rwa [add_block] at this | exact this) GW754.out); replace hx755_0 := (HB.out.cell (World.block_lt_of_cell? w _ hx755_0)).trans hx755_0; replace hx755_0 := (cell_far (p := ⟨gb754, 0, none⟩) (by first | (rw [add_block]; exact hn755_0) | (show (Addr.add _ _).block ≠ _; rw [add_block]; exact hn755_0) | exact hn755_0) (.slice (some ad755) ((rd_T90 l0_0 x38_1).f0).length c753_0)).trans hx755_0; replace hx755_0 := (cell_far (p := ⟨gb754, 1, none⟩) (by first | (rw [add_block]; exact hn755_1) | (show (Addr.add _ _).block ≠ _; rw [add_block]; exact hn755_1) | exact hn755_1) (.int .u64 ((rd_T90 l0_0 x38_1).f1.f0.f0))).trans hx755_0; replace hx755_0 := (cell_far (p := ⟨gb754, 2, none⟩) (by first | (rw [add_block]; exact hn755_2) | (show (Addr.add _ _).block ≠ _; rw [add_block]; exact hn755_2) | exact hn755_2) (.int .u64 ((rd_T90 l0_0 x38_1).f1.f0.f1))).trans hx755_0; replace hx755_0 := (cell_far (p := ⟨gb754, 3, none⟩) (by first | (rw [add_block]; exact hn755_3) | (show (Addr.add _ _).block ≠ _; rw [add_block]; exact hn755_3) | exact hn755_3) (.int .u64 ((rd_T90 l0_0 x38_1).f1.f1))).trans hx755_0; replace hx755_0 := (cell_far (p := ⟨gb754, 4, none⟩) (by first | (rw [add_block]; exact hn755_4) | (show (Addr.add _ _).block ≠ _; rw [add_block]; exact hn755_4) | exact hn755_4) (.int .u64 ((rd_T90 l0_0 x38_1).f2))).trans hx755_0; replace hx755_0 := (cell_far (p := ⟨gb754, 5, none⟩) (by first | (rw [add_block]; exact hn755_5) | (show (Addr.add _ _).block ≠ _; rw [add_block]; exact hn755_5) | exact hn755_5) (.bool ((rd_T90 l0_0 x38_1).f3))).trans hx755_0; clear hn755_0; clear hn755_1; clear hn755_2; clear hn755_3; clear hn755_4; clear hn755_5; replace p755 := eq_true p755; replace q755 := eq_true q755; obtain ⟨Ao28, co28, eo28⟩ := Kd.R_slice HO_3.out; subst eo28) | ((with_reducible refine gate_callee (f := 24) rfl ?_); refine goesL_ (some 48) rfl rfl Tryd.func24 (by kernel_rfl) rfl #[.slice Ao28 t746.length co28, .int .i64 (rd ((rd_T90 l0_0 x38_1).f0) 0)] rfl (by (try simp only [List.map_toArray, List.map_cons, List.map_nil]); first | done | rfl | (simp only [List.length_drop, List.length_take]; rfl)) ?_; (with_reducible refine (pick_On.calls _ _ t746 (rd ((rd_T90 l0_0 x38_1).f0) 0) t756 t757 _ ?side1 ?side2 A23.out).mono ?_); (case side1 => refine (Kd.R_reads' (e := 31) (base := w.heap.size) (ok := fun k_ => True) (n := t746.length) (c := co28) ?_).2.2; exact (by (with_reducible repeat (first | apply Kd.R_alloc | apply Kd.R_drewN | apply Kd.R_drew)); exact (Kd.R_mono (Kd.R_far (p := ⟨gb754, 5, none⟩) (Kd.R_far (p := ⟨gb754, 4, none⟩) (Kd.R_far (p := ⟨gb754, 3, none⟩) (Kd.R_far (p := ⟨gb754, 2, none⟩) (Kd.R_far (p := ⟨gb754, 1, none⟩) (Kd.R_far (p := ⟨gb754, 0, none⟩) (Kd.R_types HO_3.out BK754.out (by decide)) (fun _ hk => hk.2) (.slice (some ad755) ((rd_T90 l0_0 x38_1).f0).length c753_0)) (fun _ hk => hk.2) (.int .u64 ((rd_T90 l0_0 x38_1).f1.f0.f0))) (fun _ hk => hk.2) (.int .u64 ((rd_T90 l0_0 x38_1).f1.f0.f1))) (fun _ hk => hk.2) (.int .u64 ((rd_T90 l0_0 x38_1).f1.f1))) (fun _ hk => hk.2) (.int .u64 ((rd_T90 l0_0 x38_1).f2))) (fun _ hk => hk.2) (.bool ((rd_T90 l0_0 x38_1).f3))) (fun _ h_ => h_.1)))); (case side2 => exact (Kd.R_reads' HO_3.out).2.1); rintro e w29 ⟨rfl, hb⟩; refine ⟨_, rfl, ?_⟩; have n0_ := Aside0.mk (Kd.R_below (by (with_reducible repeat (first | apply Kd.R_alloc | apply Kd.R_drewN | apply Kd.R_drew)); exact (Kd.R_mono (Kd.R_far (p := ⟨gb754, 5, none⟩) (Kd.R_far (p := ⟨gb754, 4, none⟩) (Kd.R_far (p := ⟨gb754, 3, none⟩) (Kd.R_far (p := ⟨gb754, 2, none⟩) (Kd.R_far (p := ⟨gb754, 1, none⟩) (Kd.R_far (p := ⟨gb754, 0, none⟩) (Kd.R_types HO_3.out BK754.out (by decide)) (fun _ hk => hk.2) (.slice (some ad755) ((rd_T90 l0_0 x38_1).f0).length c753_0)) (fun _ hk => hk.2) (.int .u64 ((rd_T90 l0_0 x38_1).f1.f0.f0))) (fun _ hk => hk.2) (.int .u64 ((rd_T90 l0_0 x38_1).f1.f0.f1))) (fun _ hk => hk.2) (.int .u64 ((rd_T90 l0_0 x38_1).f1.f1))) (fun _ hk => hk.2) (.int .u64 ((rd_T90 l0_0 x38_1).f2))) (fun _ hk => hk.2) (.bool ((rd_T90 l0_0 x38_1).f3))) (fun _ h_ => h_.1))) hb); have n1_ := Aside0.mk (blk_below (g := gb743) (o := .cells #[.slice (some ad753) l0_0.length c0_0, .slice A0_1 l0_1.length c0_1, .int .u32 a0_2] 41 (0, 0)) (by (with_reducible repeat (first | refine blk_drewN ?_ _ | refine blk_drew ?_ | refine blk_alloc ?_ _)); refine blk_far ?_ NB743_754.out _; (with_reducible repeat (first | refine blk_drewN ?_ _ | refine blk_drew ?_ | refine blk_alloc ?_ _)); refine blk_far ?_ NB743_754.out _; (with_reducible repeat (first | refine blk_drewN ?_ _ | refine blk_drew ?_ | refine blk_alloc ?_ _)); refine blk_far ?_ NB743_754.out _; (with_reducible repeat (first | refine blk_drewN ?_ _ | refine blk_drew ?_ | refine blk_alloc ?_ _)); refine blk_far ?_ NB743_754.out _; (with_reducible repeat (first | refine blk_drewN ?_ _ | refine blk_drew ?_ | refine blk_alloc ?_ _)); refine blk_far ?_ NB743_754.out _; (with_reducible repeat (first | refine blk_drewN ?_ _ | refine blk_drew ?_ | refine blk_alloc ?_ _)); refine blk_far ?_ NB743_754.out _; (with_reducible repeat (first | refine blk_drewN ?_ _ | refine blk_drew ?_ | refine blk_alloc ?_ _)); exact BK743.out) hb); have n2_ := Aside0.mk (blk_below (g := gb754) (o := .cells #[.slice (some ad755) ((rd_T90 l0_0 x38_1).f0).length c753_0, .int .u64 ((rd_T90 l0_0 x38_1).f1.f0.f0), .int .u64 ((rd_T90 l0_0 x38_1).f1.f0.f1), .int .u64 ((rd_T90 l0_0 x38_1).f1.f1), .int .u64 ((rd_T90 l0_0 x38_1).f2), .bool ((rd_T90 l0_0 x38_1).f3)] 90 (0, 0)) (by (with_reducible repeat (first | refine blk_drewN ?_ _ | refine blk_drew ?_ | refine blk_alloc ?_ _)); refine blk_put (cs := #[.slice (some ad755) ((rd_T90 l0_0 x38_1).f0).length c753_0, .int .u64 ((rd_T90 l0_0 x38_1).f1.f0.f0), .int .u64 ((rd_T90 l0_0 x38_1).f1.f0.f1), .int .u64 ((rd_T90 l0_0 x38_1).f1.f1), .int .u64 ((rd_T90 l0_0 x38_1).f2), .bool false]) ?_ 5 _ rfl; (with_reducible repeat (first | refine blk_drewN ?_ _ | refine blk_drew ?_ | refine blk_alloc ?_ _)); refine blk_put (cs := #[.slice (some ad755) ((rd_T90 l0_0 x38_1).f0).length c753_0, .int .u64 ((rd_T90 l0_0 x38_1).f1.f0.f0), .int .u64 ((rd_T90 l0_0 x38_1).f1.f0.f1), .int .u64 ((rd_T90 l0_0 x38_1).f1.f1), .int .u64 0, .bool false]) ?_ 4 _ rfl; (with_reducible repeat (first | refine blk_drewN ?_ _ | refine blk_drew ?_ | refine blk_alloc ?_ _)); refine blk_put (cs := #[.slice (some ad755) ((rd_T90 l0_0 x38_1).f0).length c753_0, .int .u64 ((rd_T90 l0_0 x38_1).f1.f0.f0), .int .u64 ((rd_T90 l0_0 x38_1).f1.f0.f1), .int .u64 0, .int .u64 0, .bool false]) ?_ 3 _ rfl; (with_reducible repeat (first | refine blk_drewN ?_ _ | refine blk_drew ?_ | refine blk_alloc ?_ _)); refine blk_put (cs := #[.slice (some ad755) ((rd_T90 l0_0 x38_1).f0).length c753_0, .int .u64 ((rd_T90 l0_0 x38_1).f1.f0.f0), .int .u64 0, .int .u64 0, .int .u64 0, .bool false]) ?_ 2 _ rfl; (with_reducible repeat (first | refine blk_drewN ?_ _ | refine blk_drew ?_ | refine blk_alloc ?_ _)); refine blk_put (cs := #[.slice (some ad755) ((rd_T90 l0_0 x38_1).f0).length c753_0, .int .u64 0, .int .u64 0, .int .u64 0, .int .u64 0, .bool false]) ?_ 1 _ rfl; (with_reducible repeat (first | refine blk_drewN ?_ _ | refine blk_drew ?_ | refine blk_alloc ?_ _)); refine blk_put (cs := #[.slice none 0 0, .int .u64 0, .int .u64 0, .int .u64 0, .int .u64 0, .bool false]) ?_ 0 _ rfl; (with_reducible repeat (first | refine blk_drewN ?_ _ | refine blk_drew ?_ | refine blk_alloc ?_ _)); exact BK754.out) hb); have n3_ := Aside0.mk (below_step (by repeat (first | (with_reducible first | exact HB.out | apply below_alloc | apply pw_below_drewN | apply below_drew1 | refine below_set ?_ GE743.out | refine below_set ?_ GE754.out) | exact HB.out)) hb); clear HO_3; clear BK743; clear BK754; clear HB; have HO_3 := n0_; have BK743 := n1_; have BK754 := n2_; have HB := n3_; clear n0_ n1_ n2_ n3_; (try clear hb); (try clear hb2); (try clear hk); (try clear hi)))
                    (try simp only [Act.put, List.setIfInBounds_toArray, List.set_cons_zero, List.set_cons_succ])
                    go_cut [73] (fun v73 wc => ∃ (kq : Nat) (x73_23 : Bool), v73 = .bool x73_23 ∧ Aside0 (mainsheetlaw19_PickWaits.j1 kq t746 x6_1 l0_0 (l0_0.length : Int) x38_1 x73_23 l0_0 l0_1 a0_2 ((rd_T90 l0_0 x38_1).f0) ((rd_T90 l0_0 x38_1).f1.f0.f0) ((rd_T90 l0_0 x38_1).f1.f0.f1) ((rd_T90 l0_0 x38_1).f1.f1) ((rd_T90 l0_0 x38_1).f2) ((rd_T90 l0_0 x38_1).f3) = some r) ∧ Aside0 (kq ≤ k1) ∧ Aside0 (Kd.R k31 31 wc w.heap.size (fun _ => True) (.slice Ao28 t746.length co28) t746) ∧ Aside0 (wc.heap[gb743]? = some (.cells #[(.slice (some ad753) l0_0.length c0_0), (.slice A0_1 l0_1.length c0_1), .int .u32 a0_2] 41 (0, 0))) ∧ Aside0 (wc.heap[gb754]? = some (.cells #[(.slice (some ad755) ((rd_T90 l0_0 x38_1).f0).length c753_0), .int .u64 ((rd_T90 l0_0 x38_1).f1.f0.f0), .int .u64 ((rd_T90 l0_0 x38_1).f1.f0.f1), .int .u64 ((rd_T90 l0_0 x38_1).f1.f1), .int .u64 ((rd_T90 l0_0 x38_1).f2), .bool ((rd_T90 l0_0 x38_1).f3)] 90 (0, 0))) ∧ Aside0 (Below w.heap.size w wc))
                    case first =>
                      have H := HC24.out
                      clear HC24
                      by_cases c30 : t757 = true
                      · subst c30
                        have H1 : (mainsheetlaw19_PickWaits.j1 k1 t746 x6_1 l0_0 (l0_0.length : Int) x38_1 false l0_0 l0_1 a0_2 ((rd_T90 l0_0 x38_1).f0) ((rd_T90 l0_0 x38_1).f1.f0.f0) ((rd_T90 l0_0 x38_1).f1.f0.f1) ((rd_T90 l0_0 x38_1).f1.f1) ((rd_T90 l0_0 x38_1).f2) ((rd_T90 l0_0 x38_1).f3)) = some r := by rw [if_pos rfl] at H; exact H
                        clear H
                        have H := H1
                        clear H1
                        have H' := Aside0.mk H
                        clear H
                        try go_wp2
                        have n0_ := Aside0.mk (Kd.R_drew HO_3.out)
                        have n1_ := Aside0.mk (blk_drew BK743.out)
                        have n2_ := Aside0.mk (blk_drew BK754.out)
                        have n3_ := Aside0.mk (below_drew1 HB.out)
                        clear HO_3
                        clear BK743
                        clear BK754
                        clear HB
                        have HO_3 := n0_
                        have BK743 := n1_
                        have BK754 := n2_
                        have HB := n3_
                        clear n0_ n1_ n2_ n3_
                        refine start_ (n := 23) (S := fun w' => True) (ds := []) #[false, false, false, false, false, false, false, false, false, false, false, false, false, false, false, false, false, false, false, false, false, false, false] (by kernel_rfl) rfl rfl trivial (fun hHeld => ?_); refine with_tabW mainsheetlaw19_PickWaits.tab13 mainsheetlaw19_PickWaits.bits13 (fun HT_ HW_ => ?_)
                        generalize w29.drew = w31 at HO_3 BK743 BK754 HB hHeld ⊢
                        refine pure_ (i := 0) (N := some 51) (v := ?_) (a' := ?_) #[true, false, false, false, false, false, false, false, false, false, false, false, false, false, false, false, false, false, false, false, false, false, false] rfl rfl (any_of HT_.out (by kernel_rfl)) (fun _ _ _ h => h) (Or.inl ⟨by rfl, ?_⟩) ?_ ?_
                        rotate_left
                        · intro w'
                          go_simp
                          first | with_reducible rfl | (rw [field36_2]; rfl)
                        rotate_left
                        · simp only [Act.put, List.setIfInBounds_toArray, List.set_cons_zero, List.set_cons_succ, i64_w, i32_w]
                          rfl
                        refine pure_ (i := 1) (N := some 52) (v := ?_) (a' := ?_) #[true, true, false, false, false, false, false, false, false, false, false, false, false, false, false, false, false, false, false, false, false, false, false] rfl rfl (any_of HT_.out (by kernel_rfl)) (fun _ _ _ h => h) (Or.inl ⟨by rfl, ?_⟩) ?_ ?_
                        rotate_left
                        · intro w'
                          go_simp
                          first | with_reducible rfl | (rw [field36_2]; rfl)
                        rotate_left
                        · simp only [Act.put, List.setIfInBounds_toArray, List.set_cons_zero, List.set_cons_succ, i64_w, i32_w]
                          rfl
                        refine pure_ (i := 2) (N := some 53) (v := ?_) (a' := ?_) #[true, true, true, false, false, false, false, false, false, false, false, false, false, false, false, false, false, false, false, false, false, false, false] rfl rfl (any_of HT_.out (by kernel_rfl)) (fun _ _ _ h => h) (Or.inl ⟨by rfl, ?_⟩) ?_ ?_
                        rotate_left
                        · intro w'
                          go_simp
                          first | with_reducible rfl | (rw [field36_2]; rfl)
                        rotate_left
                        · simp only [Act.put, List.setIfInBounds_toArray, List.set_cons_zero, List.set_cons_succ, i64_w, i32_w]
                          rfl
                        refine pure_ (i := 3) (N := some 54) (v := undef) (a' := ?_) #[true, true, true, true, false, false, false, false, false, false, false, false, false, false, false, false, false, false, false, false, false, false, false] rfl rfl (any_of HT_.out (by kernel_rfl)) (fun _ _ _ h => h) (Or.inr ⟨by rfl, rfl⟩) ?_ ?_
                        rotate_left
                        · simp only [Act.put, List.setIfInBounds_toArray, List.set_cons_zero, List.set_cons_succ, i64_w, i32_w]
                          rfl
                        refine pure_ (i := 4) (N := some 55) (v := undef) (a' := ?_) #[true, true, true, true, true, false, false, false, false, false, false, false, false, false, false, false, false, false, false, false, false, false, false] rfl rfl (any_of HT_.out (by kernel_rfl)) (fun _ _ _ h => h) (Or.inr ⟨by rfl, rfl⟩) ?_ ?_
                        rotate_left
                        · simp only [Act.put, List.setIfInBounds_toArray, List.set_cons_zero, List.set_cons_succ, i64_w, i32_w]
                          rfl
                        refine pure_ (i := 5) (N := some 56) (v := undef) (a' := ?_) #[true, true, true, true, true, true, false, false, false, false, false, false, false, false, false, false, false, false, false, false, false, false, false] rfl rfl (any_of HT_.out (by kernel_rfl)) (fun _ _ _ h => h) (Or.inr ⟨by rfl, rfl⟩) ?_ ?_
                        rotate_left
                        · simp only [Act.put, List.setIfInBounds_toArray, List.set_cons_zero, List.set_cons_succ, i64_w, i32_w]
                          rfl
                        refine pure_ (i := 6) (N := some 57) (v := undef) (a' := ?_) #[true, true, true, true, true, true, true, false, false, false, false, false, false, false, false, false, false, false, false, false, false, false, false] rfl rfl (any_of HT_.out (by kernel_rfl)) (fun _ _ _ h => h) (Or.inr ⟨by rfl, rfl⟩) ?_ ?_
                        rotate_left
                        · simp only [Act.put, List.setIfInBounds_toArray, List.set_cons_zero, List.set_cons_succ, i64_w, i32_w]
                          rfl
                        refine pure_ (i := 7) (N := some 58) (v := ?_) (a' := ?_) #[true, true, true, true, true, true, true, true, false, false, false, false, false, false, false, false, false, false, false, false, false, false, false] rfl rfl (any_of HT_.out (by kernel_rfl)) (fun _ _ _ h => h) (Or.inl ⟨by rfl, ?_⟩) ?_ ?_
                        rotate_left
                        · intro w'
                          go_simp
                          first | with_reducible rfl | (rw [field36_2]; rfl)
                        rotate_left
                        · simp only [Act.put, List.setIfInBounds_toArray, List.set_cons_zero, List.set_cons_succ, i64_w, i32_w]
                          rfl
                        refine pure_ (i := 8) (N := some 59) (v := ?_) (a' := ?_) #[true, true, true, true, true, true, true, true, true, false, false, false, false, false, false, false, false, false, false, false, false, false, false] rfl rfl (any_of HT_.out (by kernel_rfl)) (fun _ _ _ h => h) (Or.inl ⟨by rfl, ?_⟩) ?_ ?_
                        rotate_left
                        · intro w'
                          go_simp
                          first | with_reducible rfl | (rw [field36_2]; rfl)
                        rotate_left
                        · simp only [Act.put, List.setIfInBounds_toArray, List.set_cons_zero, List.set_cons_succ, i64_w, i32_w]
                          rfl
                        refine pure_ (i := 9) (N := some 60) (v := undef) (a' := ?_) #[true, true, true, true, true, true, true, true, true, true, false, false, false, false, false, false, false, false, false, false, false, false, false] rfl rfl (any_of HT_.out (by kernel_rfl)) (fun _ _ _ h => h) (Or.inr ⟨by rfl, rfl⟩) ?_ ?_
                        rotate_left
                        · simp only [Act.put, List.setIfInBounds_toArray, List.set_cons_zero, List.set_cons_succ, i64_w, i32_w]
                          rfl
                        refine pure_ (i := 10) (N := some 61) (v := undef) (a' := ?_) #[true, true, true, true, true, true, true, true, true, true, true, false, false, false, false, false, false, false, false, false, false, false, false] rfl rfl (any_of HT_.out (by kernel_rfl)) (fun _ _ _ h => h) (Or.inr ⟨by rfl, rfl⟩) ?_ ?_
                        rotate_left
                        · simp only [Act.put, List.setIfInBounds_toArray, List.set_cons_zero, List.set_cons_succ, i64_w, i32_w]
                          rfl
                        refine pure_ (i := 11) (N := some 62) (v := undef) (a' := ?_) #[true, true, true, true, true, true, true, true, true, true, true, true, false, false, false, false, false, false, false, false, false, false, false] rfl rfl (any_of HT_.out (by kernel_rfl)) (fun _ _ _ h => h) (Or.inr ⟨by rfl, rfl⟩) ?_ ?_
                        rotate_left
                        · simp only [Act.put, List.setIfInBounds_toArray, List.set_cons_zero, List.set_cons_succ, i64_w, i32_w]
                          rfl
                        refine pure_ (i := 12) (N := some 63) (v := undef) (a' := ?_) #[true, true, true, true, true, true, true, true, true, true, true, true, true, false, false, false, false, false, false, false, false, false, false] rfl rfl (any_of HT_.out (by kernel_rfl)) (fun _ _ _ h => h) (Or.inr ⟨by rfl, rfl⟩) ?_ ?_
                        rotate_left
                        · simp only [Act.put, List.setIfInBounds_toArray, List.set_cons_zero, List.set_cons_succ, i64_w, i32_w]
                          rfl
                        refine pure_ (i := 13) (N := some 64) (v := undef) (a' := ?_) #[true, true, true, true, true, true, true, true, true, true, true, true, true, true, false, false, false, false, false, false, false, false, false] rfl rfl (any_of HT_.out (by kernel_rfl)) (fun _ _ _ h => h) (Or.inr ⟨by rfl, rfl⟩) ?_ ?_
                        rotate_left
                        · simp only [Act.put, List.setIfInBounds_toArray, List.set_cons_zero, List.set_cons_succ, i64_w, i32_w]
                          rfl
                        refine pure_ (i := 14) (N := some 65) (v := undef) (a' := ?_) #[true, true, true, true, true, true, true, true, true, true, true, true, true, true, true, false, false, false, false, false, false, false, false] rfl rfl (any_of HT_.out (by kernel_rfl)) (fun _ _ _ h => h) (Or.inr ⟨by rfl, rfl⟩) ?_ ?_
                        rotate_left
                        · simp only [Act.put, List.setIfInBounds_toArray, List.set_cons_zero, List.set_cons_succ, i64_w, i32_w]
                          rfl
                        refine pure_ (i := 15) (N := some 66) (v := undef) (a' := ?_) #[true, true, true, true, true, true, true, true, true, true, true, true, true, true, true, true, false, false, false, false, false, false, false] rfl rfl (any_of HT_.out (by kernel_rfl)) (fun _ _ _ h => h) (Or.inr ⟨by rfl, rfl⟩) ?_ ?_
                        rotate_left
                        · simp only [Act.put, List.setIfInBounds_toArray, List.set_cons_zero, List.set_cons_succ, i64_w, i32_w]
                          rfl
                        refine pure_ (i := 16) (N := some 67) (v := undef) (a' := ?_) #[true, true, true, true, true, true, true, true, true, true, true, true, true, true, true, true, true, false, false, false, false, false, false] rfl rfl (any_of HT_.out (by kernel_rfl)) (fun _ _ _ h => h) (Or.inr ⟨by rfl, rfl⟩) ?_ ?_
                        rotate_left
                        · simp only [Act.put, List.setIfInBounds_toArray, List.set_cons_zero, List.set_cons_succ, i64_w, i32_w]
                          rfl
                        refine pure_ (i := 17) (N := some 68) (v := undef) (a' := ?_) #[true, true, true, true, true, true, true, true, true, true, true, true, true, true, true, true, true, true, false, false, false, false, false] rfl rfl (any_of HT_.out (by kernel_rfl)) (fun _ _ _ h => h) (Or.inr ⟨by rfl, rfl⟩) ?_ ?_
                        rotate_left
                        · simp only [Act.put, List.setIfInBounds_toArray, List.set_cons_zero, List.set_cons_succ, i64_w, i32_w]
                          rfl
                        refine pure_ (i := 18) (N := some 69) (v := undef) (a' := ?_) #[true, true, true, true, true, true, true, true, true, true, true, true, true, true, true, true, true, true, true, false, false, false, false] rfl rfl (any_of HT_.out (by kernel_rfl)) (fun _ _ _ h => h) (Or.inr ⟨by rfl, rfl⟩) ?_ ?_
                        rotate_left
                        · simp only [Act.put, List.setIfInBounds_toArray, List.set_cons_zero, List.set_cons_succ, i64_w, i32_w]
                          rfl
                        refine pure_ (i := 19) (N := some 70) (v := undef) (a' := ?_) #[true, true, true, true, true, true, true, true, true, true, true, true, true, true, true, true, true, true, true, true, false, false, false] rfl rfl (any_of HT_.out (by kernel_rfl)) (fun _ _ _ h => h) (Or.inr ⟨by rfl, rfl⟩) ?_ ?_
                        rotate_left
                        · simp only [Act.put, List.setIfInBounds_toArray, List.set_cons_zero, List.set_cons_succ, i64_w, i32_w]
                          rfl
                        refine pure_ (i := 20) (N := some 71) (v := undef) (a' := ?_) #[true, true, true, true, true, true, true, true, true, true, true, true, true, true, true, true, true, true, true, true, true, false, false] rfl rfl (any_of HT_.out (by kernel_rfl)) (fun _ _ _ h => h) (Or.inr ⟨by rfl, rfl⟩) ?_ ?_
                        rotate_left
                        · simp only [Act.put, List.setIfInBounds_toArray, List.set_cons_zero, List.set_cons_succ, i64_w, i32_w]
                          rfl
                        refine pure_ (i := 21) (N := some 72) (v := undef) (a' := ?_) #[true, true, true, true, true, true, true, true, true, true, true, true, true, true, true, true, true, true, true, true, true, true, false] rfl rfl (any_of HT_.out (by kernel_rfl)) (fun _ _ _ h => h) (Or.inr ⟨by rfl, rfl⟩) ?_ ?_
                        rotate_left
                        · simp only [Act.put, List.setIfInBounds_toArray, List.set_cons_zero, List.set_cons_succ, i64_w, i32_w]
                          rfl
                        refine pure_ (i := 22) (N := some 73) (v := ?_) (a' := ?_) #[true, true, true, true, true, true, true, true, true, true, true, true, true, true, true, true, true, true, true, true, true, true, true] rfl rfl (any_of HT_.out (by kernel_rfl)) (fun _ _ _ h => h) (Or.inl ⟨by rfl, ?_⟩) ?_ ?_
                        rotate_left
                        · intro w'
                          go_simp
                          first | with_reducible rfl | (rw [field36_2]; rfl)
                        rotate_left
                        · simp only [Act.put, List.setIfInBounds_toArray, List.set_cons_zero, List.set_cons_succ, i64_w, i32_w]
                          rfl
                        refine done_ (done_of HT_.out (by kernel_rfl)) ?_
                        try go_wp2
                        go_meet
                        case rel => exact ⟨_, (false), (by first | rfl | (simp; done) | (simp [*]; done)), H', ⟨by have := HK1.out; first | omega | exact Nat.le_refl _⟩, ⟨by (with_reducible repeat (first | apply Kd.R_alloc | apply Kd.R_drewN | apply Kd.R_drew)); exact HO_3.out⟩, ⟨by (with_reducible repeat (first | refine blk_drewN ?_ _ | refine blk_drew ?_ | refine blk_alloc ?_ _)); exact BK743.out⟩, ⟨by (with_reducible repeat (first | refine blk_drewN ?_ _ | refine blk_drew ?_ | refine blk_alloc ?_ _)); exact BK754.out⟩, ⟨by repeat (first | (with_reducible first | exact HB.out | apply below_alloc | apply pw_below_drewN | apply below_drew1 | refine below_set ?_ GE743.out | refine below_set ?_ GE754.out) | exact HB.out)⟩⟩
                      · replace c30 := Bool.eq_false_iff.mpr c30
                        subst c30
                        have H1 : (if (((rd_T90 l0_0 x38_1).f0).length : Int) = 1 then ((mainsheetlaw19_Ask_wish.f k1 l0_0 l0_1 a0_2 (rd ((rd_T90 l0_0 x38_1).f0) 0)).bind fun bt759 => ((mask_Allows.f k1 bt759.2.2.1 bt759.2.2.2 a0_2).bind fun t763 => ((cpuset_Within.f t763 x6_1).bind fun t764 => (mainsheetlaw19_PickWaits.j1 k1 t746 x6_1 l0_0 (l0_0.length : Int) x38_1 (!t764) l0_0 l0_1 a0_2 ((rd_T90 l0_0 x38_1).f0) ((rd_T90 l0_0 x38_1).f1.f0.f0) ((rd_T90 l0_0 x38_1).f1.f0.f1) ((rd_T90 l0_0 x38_1).f1.f1) ((rd_T90 l0_0 x38_1).f2) ((rd_T90 l0_0 x38_1).f3))))) else (mainsheetlaw19_PickWaits.j1 k1 t746 x6_1 l0_0 (l0_0.length : Int) x38_1 false l0_0 l0_1 a0_2 ((rd_T90 l0_0 x38_1).f0) ((rd_T90 l0_0 x38_1).f1.f0.f0) ((rd_T90 l0_0 x38_1).f1.f0.f1) ((rd_T90 l0_0 x38_1).f1.f1) ((rd_T90 l0_0 x38_1).f2) ((rd_T90 l0_0 x38_1).f3))) = some r := by rw [if_neg (show ¬ (false = true) by decide)] at H; exact H
                        clear H
                        have H := H1
                        clear H1
                        by_cases c32 : (((rd_T90 l0_0 x38_1).f0).length : Int) = 1
                        · rw [if_pos c32] at H
                          have c32b0 : ((((rd_T90 l0_0 x38_1).f0).length : Int) == 1) = true := beq_iff_eq.mpr c32
                          have c32b1 : ((((rd_T90 l0_0 x38_1).f0).length : Int) != 1) = false := bne_eq_false_iff_eq.mpr c32
                          clear c32
                          (first | rw [c32b0] | (simp only [i64_w, i32_w]; rw [c32b0]) | skip)
                          replace H := Option.bind_eq_some_iff.mp H
                          obtain ⟨⟨t759, t760, t761, t762⟩, A330, H⟩ := H
                          replace H : ((mask_Allows.f k1 t761 t762 a0_2).bind fun t763 => ((cpuset_Within.f t763 x6_1).bind fun t764 => (mainsheetlaw19_PickWaits.j1 k1 t746 x6_1 l0_0 (l0_0.length : Int) x38_1 (!t764) l0_0 l0_1 a0_2 ((rd_T90 l0_0 x38_1).f0) ((rd_T90 l0_0 x38_1).f1.f0.f0) ((rd_T90 l0_0 x38_1).f1.f0.f1) ((rd_T90 l0_0 x38_1).f1.f1) ((rd_T90 l0_0 x38_1).f2) ((rd_T90 l0_0 x38_1).f3)))) = some r := H
                          have A33 := Aside0.mk A330
                          clear A330
                          replace H := Option.bind_eq_some_iff.mp H
                          obtain ⟨t763, A340, H⟩ := H
                          replace H : ((cpuset_Within.f t763 x6_1).bind fun t764 => (mainsheetlaw19_PickWaits.j1 k1 t746 x6_1 l0_0 (l0_0.length : Int) x38_1 (!t764) l0_0 l0_1 a0_2 ((rd_T90 l0_0 x38_1).f0) ((rd_T90 l0_0 x38_1).f1.f0.f0) ((rd_T90 l0_0 x38_1).f1.f0.f1) ((rd_T90 l0_0 x38_1).f1.f1) ((rd_T90 l0_0 x38_1).f2) ((rd_T90 l0_0 x38_1).f3))) = some r := H
                          have A34 := Aside0.mk A340
                          clear A340
                          replace H := Option.bind_eq_some_iff.mp H
                          obtain ⟨t764, A350, H⟩ := H
                          replace H : (mainsheetlaw19_PickWaits.j1 k1 t746 x6_1 l0_0 (l0_0.length : Int) x38_1 (!t764) l0_0 l0_1 a0_2 ((rd_T90 l0_0 x38_1).f0) ((rd_T90 l0_0 x38_1).f1.f0.f0) ((rd_T90 l0_0 x38_1).f1.f0.f1) ((rd_T90 l0_0 x38_1).f1.f1) ((rd_T90 l0_0 x38_1).f2) ((rd_T90 l0_0 x38_1).f3)) = some r := H
                          have A35 := Aside0.mk A350
                          clear A350
                          have H' := Aside0.mk H
                          clear H
                          try go_wp2
                          have n0_ := Aside0.mk (Kd.R_drew HO_3.out)
                          have n1_ := Aside0.mk (blk_drew BK743.out)
                          have n2_ := Aside0.mk (blk_drew BK754.out)
                          have n3_ := Aside0.mk (below_drew1 HB.out)
                          clear HO_3
                          clear BK743
                          clear BK754
                          clear HB
                          have HO_3 := n0_
                          have BK743 := n1_
                          have BK754 := n2_
                          have HB := n3_
                          clear n0_ n1_ n2_ n3_
                          have p758 : 0 ≤ (0 : Int) := (by omega)
                          have q758 : 0 < (((rd_T90 l0_0 x38_1).f0).length : Int) := of_decide_eq_true (by first | (with_reducible assumption) | assumption)
                          obtain ⟨ad758, e758, hx758_0⟩ := Kd.at_int HR753_0.out 0 p758 q758
                          have hw758_0 := hx758_0
                          (try rw [show ((0 : Int)).toNat = 0 from rfl] at hw758_0)
                          (try rw [show 0 * 1 = 0 from rfl] at hw758_0)
                          (try rw [Addr.add_zero'] at hw758_0)
                          obtain rfl : ad755 = ad758 := (by injection e758)
                          have qi758 : (0 < ((rd_T90 l0_0 x38_1).f0).length) = True := eq_true (by omega)
                          (try rw [show ((0 : Int)).toNat = 0 from rfl] at hx758_0)
                          (try rw [Addr.add_zero'] at hx758_0)
                          replace hx758_0 := (HB.out.cell (World.block_lt_of_cell? w _ hx758_0)).trans hx758_0
                          replace p758 := eq_true p758
                          replace q758 := eq_true q758
                          refine start_ (n := 23) (S := fun w' => w'.cell? ⟨gb754, 0, none⟩ = some (.slice (some ad755) ((rd_T90 l0_0 x38_1).f0).length c753_0) ∧ w'.cell? ⟨gb754, 1, none⟩ = some (.int .u64 ((rd_T90 l0_0 x38_1).f1.f0.f0)) ∧ w'.cell? ⟨gb754, 2, none⟩ = some (.int .u64 ((rd_T90 l0_0 x38_1).f1.f0.f1)) ∧ w'.cell? ⟨gb754, 3, none⟩ = some (.int .u64 ((rd_T90 l0_0 x38_1).f1.f1)) ∧ w'.cell? ⟨gb754, 4, none⟩ = some (.int .u64 ((rd_T90 l0_0 x38_1).f2)) ∧ w'.cell? ⟨gb754, 5, none⟩ = some (.bool ((rd_T90 l0_0 x38_1).f3)) ∧ w'.cell? ⟨gb743, 0, none⟩ = some (.slice (some ad753) l0_0.length c0_0) ∧ w'.cell? ⟨gb743, 1, none⟩ = some (.slice A0_1 l0_1.length c0_1) ∧ w'.cell? ⟨gb743, 2, none⟩ = some (.int .u32 a0_2) ∧ w'.cell? ad755 = some (.int .i64 (rd ((rd_T90 l0_0 x38_1).f0) 0))) (ds := []) #[false, false, false, false, false, false, false, false, false, false, false, false, false, false, false, false, false, false, false, false, false, false, false] (by kernel_rfl) rfl rfl ⟨(blk_cell BK754.out 0).trans rfl, (blk_cell BK754.out 1).trans rfl, (blk_cell BK754.out 2).trans rfl, (blk_cell BK754.out 3).trans rfl, (blk_cell BK754.out 4).trans rfl, (blk_cell BK754.out 5).trans rfl, (blk_cell BK743.out 0).trans rfl, (blk_cell BK743.out 1).trans rfl, (blk_cell BK743.out 2).trans rfl, ((HB.out.cell (World.block_lt_of_cell? w _ hw758_0)).trans hw758_0)⟩ (fun hHeld => ?_); refine with_tabW mainsheetlaw19_PickWaits.tab13 mainsheetlaw19_PickWaits.bits13 (fun HT_ HW_ => ?_)
                          generalize w29.drew = w36 at HO_3 BK743 BK754 HB hx758_0 hHeld ⊢
                          refine pure_ (i := 0) (N := some 51) (v := ?_) (a' := ?_) #[true, false, false, false, false, false, false, false, false, false, false, false, false, false, false, false, false, false, false, false, false, false, false] rfl rfl (any_of HT_.out (by kernel_rfl)) (fun _ _ _ h => h) (Or.inl ⟨by rfl, ?_⟩) ?_ ?_
                          rotate_left
                          · intro w'
                            go_simp
                            first | with_reducible rfl | (rw [field36_2]; rfl)
                          rotate_left
                          · simp only [Act.put, List.setIfInBounds_toArray, List.set_cons_zero, List.set_cons_succ, i64_w, i32_w]
                            rfl
                          refine pure_ (i := 1) (N := some 52) (v := ?_) (a' := ?_) #[true, true, false, false, false, false, false, false, false, false, false, false, false, false, false, false, false, false, false, false, false, false, false] rfl rfl (any_of HT_.out (by kernel_rfl)) (fun _ _ _ h => h) (Or.inl ⟨by rfl, ?_⟩) ?_ ?_
                          rotate_left
                          · intro w'
                            go_simp
                            first | with_reducible rfl | (rw [field36_2]; rfl)
                          rotate_left
                          · simp only [Act.put, List.setIfInBounds_toArray, List.set_cons_zero, List.set_cons_succ, i64_w, i32_w]
                            rfl
                          refine pure_ (i := 2) (N := some 53) (v := ?_) (a' := ?_) #[true, true, true, false, false, false, false, false, false, false, false, false, false, false, false, false, false, false, false, false, false, false, false] rfl rfl (any_of HT_.out (by kernel_rfl)) (fun _ _ _ h => h) (Or.inl ⟨by rfl, ?_⟩) ?_ ?_
                          rotate_left
                          · intro w'
                            go_simp
                            first | with_reducible rfl | (rw [field36_2]; rfl)
                          rotate_left
                          · simp only [Act.put, List.setIfInBounds_toArray, List.set_cons_zero, List.set_cons_succ, i64_w, i32_w]
                            rfl
                          refine pure_ (i := 3) (N := some 54) (v := ?_) (a' := ?_) #[true, true, true, true, false, false, false, false, false, false, false, false, false, false, false, false, false, false, false, false, false, false, false] rfl rfl (any_of HT_.out (by kernel_rfl)) (fun _ _ _ h => h) (Or.inl ⟨by rfl, ?_⟩) ?_ ?_
                          rotate_left
                          · intro w'
                            go_simp
                            first | with_reducible rfl | (rw [field36_2]; rfl)
                          rotate_left
                          · simp only [Act.put, List.setIfInBounds_toArray, List.set_cons_zero, List.set_cons_succ, i64_w, i32_w]
                            rfl
                          refine take_ (i := 4) (N := some 55) (v := ?_) (a' := ?_) #[true, true, true, true, true, false, false, false, false, false, false, false, false, false, false, false, false, false, false, false, false, false, false] rfl rfl (take_ofW HT_.out HW_.out (by kernel_rfl)) (fun _ _ _ h => h) (Or.inl ⟨by rfl, ?_⟩) hHeld ?_ ?_
                          rotate_left
                          · rintro w' ⟨s0, s1, s2, s3, s4, s5, s6, s7, s8, s9⟩
                            go_simp
                            first | with_reducible rfl | (rw [field36_2]; rfl)
                          rotate_left
                          · simp only [Act.put, List.setIfInBounds_toArray, List.set_cons_zero, List.set_cons_succ, i64_w, i32_w]
                            rfl
                          refine pure_ (i := 5) (N := some 56) (v := ?_) (a' := ?_) #[true, true, true, true, true, true, false, false, false, false, false, false, false, false, false, false, false, false, false, false, false, false, false] rfl rfl (any_of HT_.out (by kernel_rfl)) (fun _ _ _ h => h) (Or.inl ⟨by rfl, ?_⟩) ?_ ?_
                          rotate_left
                          · intro w'
                            go_simp
                            first | with_reducible rfl | (rw [field36_2]; rfl)
                          rotate_left
                          · simp only [Act.put, List.setIfInBounds_toArray, List.set_cons_zero, List.set_cons_succ, i64_w, i32_w]
                            rfl
                          refine pure_ (i := 6) (N := some 57) (v := ?_) (a' := ?_) #[true, true, true, true, true, true, true, false, false, false, false, false, false, false, false, false, false, false, false, false, false, false, false] rfl rfl (any_of HT_.out (by kernel_rfl)) (fun _ _ _ h => h) (Or.inl ⟨by rfl, ?_⟩) ?_ ?_
                          rotate_left
                          · intro w'
                            go_simp
                            first | with_reducible rfl | (rw [field36_2]; rfl)
                          rotate_left
                          · simp only [Act.put, List.setIfInBounds_toArray, List.set_cons_zero, List.set_cons_succ, i64_w, i32_w]
                            rfl
                          refine pure_ (i := 7) (N := some 58) (v := ?_) (a' := ?_) #[true, true, true, true, true, true, true, true, false, false, false, false, false, false, false, false, false, false, false, false, false, false, false] rfl rfl (any_of HT_.out (by kernel_rfl)) (fun _ _ _ h => h) (Or.inl ⟨by rfl, ?_⟩) ?_ ?_
                          rotate_left
                          · intro w'
                            go_simp
                            first | with_reducible rfl | (rw [field36_2]; rfl)
                          rotate_left
                          · simp only [Act.put, List.setIfInBounds_toArray, List.set_cons_zero, List.set_cons_succ, i64_w, i32_w]
                            rfl
                          refine pure_ (i := 8) (N := some 59) (v := ?_) (a' := ?_) #[true, true, true, true, true, true, true, true, true, false, false, false, false, false, false, false, false, false, false, false, false, false, false] rfl rfl (any_of HT_.out (by kernel_rfl)) (fun _ _ _ h => h) (Or.inl ⟨by rfl, ?_⟩) ?_ ?_
                          rotate_left
                          · intro w'
                            go_simp
                            first | with_reducible rfl | (rw [field36_2]; rfl)
                          rotate_left
                          · simp only [Act.put, List.setIfInBounds_toArray, List.set_cons_zero, List.set_cons_succ, i64_w, i32_w]
                            rfl
                          refine pure_ (i := 10) (N := some 61) (v := ?_) (a' := ?_) #[true, true, true, true, true, true, true, true, true, false, true, false, false, false, false, false, false, false, false, false, false, false, false] rfl rfl (any_of HT_.out (by kernel_rfl)) (fun _ _ _ h => h) (Or.inl ⟨by rfl, ?_⟩) ?_ ?_
                          rotate_left
                          · intro w'
                            go_simp
                            first | with_reducible rfl | (rw [field36_2]; rfl)
                          rotate_left
                          · simp only [Act.put, List.setIfInBounds_toArray, List.set_cons_zero, List.set_cons_succ, i64_w, i32_w]
                            rfl
                          refine pure_ (i := 16) (N := some 67) (v := ?_) (a' := ?_) #[true, true, true, true, true, true, true, true, true, false, true, false, false, false, false, false, true, false, false, false, false, false, false] rfl rfl (any_of HT_.out (by kernel_rfl)) (fun _ _ _ h => h) (Or.inl ⟨by rfl, ?_⟩) ?_ ?_
                          rotate_left
                          · intro w'
                            go_simp
                            first | with_reducible rfl | (rw [field36_2]; rfl)
                          rotate_left
                          · simp only [Act.put, List.setIfInBounds_toArray, List.set_cons_zero, List.set_cons_succ, i64_w, i32_w]
                            rfl
                          refine pure_ (i := 19) (N := some 70) (v := ?_) (a' := ?_) #[true, true, true, true, true, true, true, true, true, false, true, false, false, false, false, false, true, false, false, true, false, false, false] rfl rfl (any_of HT_.out (by kernel_rfl)) (fun _ _ _ h => h) (Or.inl ⟨by rfl, ?_⟩) ?_ ?_
                          rotate_left
                          · intro w'
                            go_simp
                            first | with_reducible rfl | (rw [field36_2]; rfl)
                          rotate_left
                          · simp only [Act.put, List.setIfInBounds_toArray, List.set_cons_zero, List.set_cons_succ, i64_w, i32_w]
                            rfl
                          refine take_ (i := 9) (N := some 60) (v := ?_) (a' := ?_) #[true, true, true, true, true, true, true, true, true, true, true, false, false, false, false, false, true, false, false, true, false, false, false] rfl rfl (take_ofW HT_.out HW_.out (by kernel_rfl)) (fun _ _ _ h => h) (Or.inl ⟨by rfl, ?_⟩) hHeld ?_ ?_
                          rotate_left
                          · rintro w' ⟨s0, s1, s2, s3, s4, s5, s6, s7, s8, s9⟩
                            go_simp
                            first | with_reducible rfl | (rw [field36_2]; rfl)
                          rotate_left
                          · simp only [Act.put, List.setIfInBounds_toArray, List.set_cons_zero, List.set_cons_succ, i64_w, i32_w]
                            rfl
                          refine take_ (i := 11) (N := some 62) (v := ?_) (a' := ?_) #[true, true, true, true, true, true, true, true, true, true, true, true, false, false, false, false, true, false, false, true, false, false, false] rfl rfl (take_ofW HT_.out HW_.out (by kernel_rfl)) (fun _ _ _ h => h) (Or.inl ⟨by rfl, ?_⟩) hHeld ?_ ?_
                          rotate_left
                          · rintro w' ⟨s0, s1, s2, s3, s4, s5, s6, s7, s8, s9⟩
                            go_simp
                            first | with_reducible rfl | (rw [field36_2]; rfl)
                          rotate_left
                          · simp only [Act.put, List.setIfInBounds_toArray, List.set_cons_zero, List.set_cons_succ, i64_w, i32_w]
                            rfl
                          refine pure_ (i := 12) (N := some 63) (v := ?_) (a' := ?_) #[true, true, true, true, true, true, true, true, true, true, true, true, true, false, false, false, true, false, false, true, false, false, false] rfl rfl (any_of HT_.out (by kernel_rfl)) (fun _ _ _ h => h) (Or.inl ⟨by rfl, ?_⟩) ?_ ?_
                          rotate_left
                          · intro w'
                            go_simp
                            first | with_reducible rfl | (rw [field36_2]; rfl)
                          rotate_left
                          · simp only [Act.put, List.setIfInBounds_toArray, List.set_cons_zero, List.set_cons_succ, i64_w, i32_w]
                            rfl
                          refine take_ (i := 13) (N := some 64) (v := ?_) (a' := ?_) #[true, true, true, true, true, true, true, true, true, true, true, true, true, true, false, false, true, false, false, true, false, false, false] rfl rfl (take_ofW HT_.out HW_.out (by kernel_rfl)) (fun _ _ _ h => h) (Or.inl ⟨by rfl, ?_⟩) hHeld ?_ ?_
                          rotate_left
                          · rintro w' ⟨s0, s1, s2, s3, s4, s5, s6, s7, s8, s9⟩
                            go_simp
                            first | with_reducible rfl | (rw [field36_2]; rfl)
                          rotate_left
                          · simp only [Act.put, List.setIfInBounds_toArray, List.set_cons_zero, List.set_cons_succ, i64_w, i32_w]
                            rfl
                          refine take_ (i := 17) (N := some 68) (v := ?_) (a' := ?_) #[true, true, true, true, true, true, true, true, true, true, true, true, true, true, false, false, true, true, false, true, false, false, false] rfl rfl (take_ofW HT_.out HW_.out (by kernel_rfl)) (fun _ _ _ h => h) (Or.inl ⟨by rfl, ?_⟩) hHeld ?_ ?_
                          rotate_left
                          · rintro w' ⟨s0, s1, s2, s3, s4, s5, s6, s7, s8, s9⟩
                            go_simp
                            first | with_reducible rfl | (rw [field36_2]; rfl)
                          rotate_left
                          · simp only [Act.put, List.setIfInBounds_toArray, List.set_cons_zero, List.set_cons_succ, i64_w, i32_w]
                            rfl
                          refine one_ (i := 14) (N := some 65) #[true, true, true, true, true, true, true, true, true, true, true, true, true, true, true, false, true, true, false, true, false, false, false] rfl rfl (one_of HT_.out (by kernel_rfl)) (by decide) (fun K hK => ?_)
                          refine goes_ Tryd.func23 (by kernel_rfl) rfl #[.agg #[.slice (some ad753) l0_0.length c0_0, .slice A0_1 l0_1.length c0_1, .int .u32 a0_2], .int .i64 (rd ((rd_T90 l0_0 x38_1).f0) 0)] (by rfl) rfl rfl (by (try simp only [List.map_toArray, List.map_cons, List.map_nil]); first | done | rfl | (simp only [List.length_drop, List.length_take]; rfl)) ?_
                          with_reducible refine (mainsheetlaw19_Ask_wish.calls k1 _ _ l0_0 _ _ l0_1 a0_2 (rd ((rd_T90 l0_0 x38_1).f0) 0) t759 t760 t761 t762 _ ?side1 ?side2 ?side3 ?side4 A33.out).mono ?_
                          (case side1 => repeat (first | exact (Kd.C_below HR0_0.out HB.out) | (with_reducible refine Kd.C_alloc ?_ _) | (with_reducible refine Kd.C_drewN ?_ _) | (with_reducible refine Kd.C_drew ?_)))
                          (case side2 => exact HC0_0.out)
                          (case side3 => repeat (first | exact (Kd.C_below HR0_1.out HB.out) | (with_reducible refine Kd.C_alloc ?_ _) | (with_reducible refine Kd.C_drewN ?_ _) | (with_reducible refine Kd.C_drew ?_)))
                          (case side4 => exact HC0_1.out)
                          rintro e w37 ⟨rfl, hb⟩
                          refine ⟨_, rfl, ?_⟩
                          have n0_ := Aside0.mk (Kd.R_below (by (with_reducible repeat (first | apply Kd.R_alloc | apply Kd.R_drewN | apply Kd.R_drew)); exact HO_3.out) hb)
                          have n1_ := Aside0.mk (blk_below (g := gb743) (o := .cells #[.slice (some ad753) l0_0.length c0_0, .slice A0_1 l0_1.length c0_1, .int .u32 a0_2] 41 (0, 0)) (by (with_reducible repeat (first | refine blk_drewN ?_ _ | refine blk_drew ?_ | refine blk_alloc ?_ _)); exact BK743.out) hb)
                          have n2_ := Aside0.mk (blk_below (g := gb754) (o := .cells #[.slice (some ad755) ((rd_T90 l0_0 x38_1).f0).length c753_0, .int .u64 ((rd_T90 l0_0 x38_1).f1.f0.f0), .int .u64 ((rd_T90 l0_0 x38_1).f1.f0.f1), .int .u64 ((rd_T90 l0_0 x38_1).f1.f1), .int .u64 ((rd_T90 l0_0 x38_1).f2), .bool ((rd_T90 l0_0 x38_1).f3)] 90 (0, 0)) (by (with_reducible repeat (first | refine blk_drewN ?_ _ | refine blk_drew ?_ | refine blk_alloc ?_ _)); exact BK754.out) hb)
                          have n3_ := Aside0.mk (below_step (by repeat (first | (with_reducible first | exact HB.out | apply below_alloc | apply pw_below_drewN | apply below_drew1 | refine below_set ?_ GE743.out | refine below_set ?_ GE754.out) | exact HB.out)) hb)
                          clear HO_3
                          clear BK743
                          clear BK754
                          clear HB
                          have HO_3 := n0_
                          have BK743 := n1_
                          have BK754 := n2_
                          have HB := n3_
                          clear n0_ n1_ n2_ n3_
                          (try clear hb)
                          (try clear hb2)
                          (try clear hk)
                          (try clear hi)
                          refine hK.out _ _ ⟨(blk_cell BK754.out 0).trans rfl, (blk_cell BK754.out 1).trans rfl, (blk_cell BK754.out 2).trans rfl, (blk_cell BK754.out 3).trans rfl, (blk_cell BK754.out 4).trans rfl, (blk_cell BK754.out 5).trans rfl, (blk_cell BK743.out 0).trans rfl, (blk_cell BK743.out 1).trans rfl, (blk_cell BK743.out 2).trans rfl, ((HB.out.cell (World.block_lt_of_cell? w _ hw758_0)).trans hw758_0)⟩ (fun hHeld => ?_)
                          clear hK K
                          refine norm_ (a' := ?_) ?_ ?_
                          rotate_left
                          · show Act.put _ (some 65) _ = _
                            simp only [Act.put, List.setIfInBounds_toArray, List.set_cons_zero, List.set_cons_succ, i64_w, i32_w]
                            rfl
                          refine pure_ (i := 15) (N := some 66) (v := ?_) (a' := ?_) #[true, true, true, true, true, true, true, true, true, true, true, true, true, true, true, true, true, true, false, true, false, false, false] rfl rfl (any_of HT_.out (by kernel_rfl)) (fun _ _ _ h => h) (Or.inl ⟨by rfl, ?_⟩) ?_ ?_
                          rotate_left
                          · intro w'
                            go_simp
                            first | with_reducible rfl | (rw [field36_2]; rfl)
                          rotate_left
                          · simp only [Act.put, List.setIfInBounds_toArray, List.set_cons_zero, List.set_cons_succ, i64_w, i32_w]
                            rfl
                          refine one_ (i := 18) (N := some 69) #[true, true, true, true, true, true, true, true, true, true, true, true, true, true, true, true, true, true, true, true, false, false, false] rfl rfl (one_of HT_.out (by kernel_rfl)) (by decide) (fun K hK => ?_)
                          refine goes_ Tryd.func22 (by kernel_rfl) rfl #[.agg #[.int .u32 t761, .int .u32 t762], .int .u32 a0_2] (by rfl) rfl rfl (by (try simp only [List.map_toArray, List.map_cons, List.map_nil]); first | done | rfl | (simp only [List.length_drop, List.length_take]; rfl)) ?_
                          with_reducible refine (mask_Allows.calls k1 t761 t762 a0_2 t763 _ A34.out).mono ?_
                          rintro e w38 ⟨rfl, hb⟩
                          refine ⟨_, rfl, ?_⟩
                          have n0_ := Aside0.mk (Kd.R_below (by (with_reducible repeat (first | apply Kd.R_alloc | apply Kd.R_drewN | apply Kd.R_drew)); exact HO_3.out) hb)
                          have n1_ := Aside0.mk (blk_below (g := gb743) (o := .cells #[.slice (some ad753) l0_0.length c0_0, .slice A0_1 l0_1.length c0_1, .int .u32 a0_2] 41 (0, 0)) (by (with_reducible repeat (first | refine blk_drewN ?_ _ | refine blk_drew ?_ | refine blk_alloc ?_ _)); exact BK743.out) hb)
                          have n2_ := Aside0.mk (blk_below (g := gb754) (o := .cells #[.slice (some ad755) ((rd_T90 l0_0 x38_1).f0).length c753_0, .int .u64 ((rd_T90 l0_0 x38_1).f1.f0.f0), .int .u64 ((rd_T90 l0_0 x38_1).f1.f0.f1), .int .u64 ((rd_T90 l0_0 x38_1).f1.f1), .int .u64 ((rd_T90 l0_0 x38_1).f2), .bool ((rd_T90 l0_0 x38_1).f3)] 90 (0, 0)) (by (with_reducible repeat (first | refine blk_drewN ?_ _ | refine blk_drew ?_ | refine blk_alloc ?_ _)); exact BK754.out) hb)
                          have n3_ := Aside0.mk (below_step (by repeat (first | (with_reducible first | exact HB.out | apply below_alloc | apply pw_below_drewN | apply below_drew1 | refine below_set ?_ GE743.out | refine below_set ?_ GE754.out) | exact HB.out)) hb)
                          clear HO_3
                          clear BK743
                          clear BK754
                          clear HB
                          have HO_3 := n0_
                          have BK743 := n1_
                          have BK754 := n2_
                          have HB := n3_
                          clear n0_ n1_ n2_ n3_
                          (try clear hb)
                          (try clear hb2)
                          (try clear hk)
                          (try clear hi)
                          refine hK.out _ _ ⟨(blk_cell BK754.out 0).trans rfl, (blk_cell BK754.out 1).trans rfl, (blk_cell BK754.out 2).trans rfl, (blk_cell BK754.out 3).trans rfl, (blk_cell BK754.out 4).trans rfl, (blk_cell BK754.out 5).trans rfl, (blk_cell BK743.out 0).trans rfl, (blk_cell BK743.out 1).trans rfl, (blk_cell BK743.out 2).trans rfl, ((HB.out.cell (World.block_lt_of_cell? w _ hw758_0)).trans hw758_0)⟩ (fun hHeld => ?_)
                          clear hK K
                          refine norm_ (a' := ?_) ?_ ?_
                          rotate_left
                          · show Act.put _ (some 69) _ = _
                            simp only [Act.put, List.setIfInBounds_toArray, List.set_cons_zero, List.set_cons_succ, i64_w, i32_w]
                            rfl
                          refine one_ (i := 20) (N := some 71) #[true, true, true, true, true, true, true, true, true, true, true, true, true, true, true, true, true, true, true, true, true, false, false] rfl rfl (one_of HT_.out (by kernel_rfl)) (by decide) (fun K hK => ?_)
                          refine goes_ Tryd.func43 (by kernel_rfl) rfl #[.int .u32 t763, .int .u32 x6_1] (by rfl) rfl rfl (by (try simp only [List.map_toArray, List.map_cons, List.map_nil]); first | done | rfl | (simp only [List.length_drop, List.length_take]; rfl)) ?_
                          with_reducible refine (cpuset_Within.calls t763 x6_1 t764 _ A35.out).mono ?_
                          rintro e w' ⟨rfl, ⟨nd, rfl⟩⟩
                          refine ⟨_, rfl, ?_⟩
                          refine hK.out _ _ ⟨(blk_cell BK754.out 0).trans rfl, (blk_cell BK754.out 1).trans rfl, (blk_cell BK754.out 2).trans rfl, (blk_cell BK754.out 3).trans rfl, (blk_cell BK754.out 4).trans rfl, (blk_cell BK754.out 5).trans rfl, (blk_cell BK743.out 0).trans rfl, (blk_cell BK743.out 1).trans rfl, (blk_cell BK743.out 2).trans rfl, ((HB.out.cell (World.block_lt_of_cell? w _ hw758_0)).trans hw758_0)⟩ (fun hHeld => ?_)
                          clear hK K
                          refine norm_ (a' := ?_) ?_ ?_
                          rotate_left
                          · show Act.put _ (some 71) _ = _
                            simp only [Act.put, List.setIfInBounds_toArray, List.set_cons_zero, List.set_cons_succ, i64_w, i32_w]
                            rfl
                          refine pure_ (i := 21) (N := some 72) (v := ?_) (a' := ?_) #[true, true, true, true, true, true, true, true, true, true, true, true, true, true, true, true, true, true, true, true, true, true, false] rfl rfl (any_of HT_.out (by kernel_rfl)) (fun _ _ _ h => h) (Or.inl ⟨by rfl, ?_⟩) ?_ ?_
                          rotate_left
                          · intro w'
                            go_simp
                            first | with_reducible rfl | (rw [field36_2]; rfl)
                          rotate_left
                          · simp only [Act.put, List.setIfInBounds_toArray, List.set_cons_zero, List.set_cons_succ, i64_w, i32_w]
                            rfl
                          refine pure_ (i := 22) (N := some 73) (v := ?_) (a' := ?_) #[true, true, true, true, true, true, true, true, true, true, true, true, true, true, true, true, true, true, true, true, true, true, true] rfl rfl (any_of HT_.out (by kernel_rfl)) (fun _ _ _ h => h) (Or.inl ⟨by rfl, ?_⟩) ?_ ?_
                          rotate_left
                          · intro w'
                            go_simp
                            first | with_reducible rfl | (rw [field36_2]; rfl)
                          rotate_left
                          · simp only [Act.put, List.setIfInBounds_toArray, List.set_cons_zero, List.set_cons_succ, i64_w, i32_w]
                            rfl
                          refine done_ (done_of HT_.out (by kernel_rfl)) ?_
                          try go_wp2
                          go_meet
                          case rel => exact ⟨_, (!t764), (by first | rfl | (simp; done) | (simp [*]; done)), H', ⟨by have := HK1.out; first | omega | exact Nat.le_refl _⟩, ⟨by (with_reducible repeat (first | apply Kd.R_alloc | apply Kd.R_drewN | apply Kd.R_drew)); exact HO_3.out⟩, ⟨by (with_reducible repeat (first | refine blk_drewN ?_ _ | refine blk_drew ?_ | refine blk_alloc ?_ _)); exact BK743.out⟩, ⟨by (with_reducible repeat (first | refine blk_drewN ?_ _ | refine blk_drew ?_ | refine blk_alloc ?_ _)); exact BK754.out⟩, ⟨by repeat (first | (with_reducible first | exact HB.out | apply below_alloc | apply pw_below_drewN | apply below_drew1 | refine below_set ?_ GE743.out | refine below_set ?_ GE754.out) | exact HB.out)⟩⟩
                        · rw [if_neg c32] at H
                          have c32b0 : ((((rd_T90 l0_0 x38_1).f0).length : Int) == 1) = false := beq_eq_false_iff_ne.mpr c32
                          have c32b1 : ((((rd_T90 l0_0 x38_1).f0).length : Int) != 1) = true := bne_iff_ne.mpr c32
                          (first | rw [c32b0] | (simp only [i64_w, i32_w]; rw [c32b0]) | skip)
                          have H' := Aside0.mk H
                          clear H
                          try go_wp2
                          have n0_ := Aside0.mk (Kd.R_drew HO_3.out)
                          have n1_ := Aside0.mk (blk_drew BK743.out)
                          have n2_ := Aside0.mk (blk_drew BK754.out)
                          have n3_ := Aside0.mk (below_drew1 HB.out)
                          clear HO_3
                          clear BK743
                          clear BK754
                          clear HB
                          have HO_3 := n0_
                          have BK743 := n1_
                          have BK754 := n2_
                          have HB := n3_
                          clear n0_ n1_ n2_ n3_
                          refine start_ (n := 23) (S := fun w' => w'.cell? ⟨gb754, 0, none⟩ = some (.slice (some ad755) ((rd_T90 l0_0 x38_1).f0).length c753_0) ∧ w'.cell? ⟨gb754, 1, none⟩ = some (.int .u64 ((rd_T90 l0_0 x38_1).f1.f0.f0)) ∧ w'.cell? ⟨gb754, 2, none⟩ = some (.int .u64 ((rd_T90 l0_0 x38_1).f1.f0.f1)) ∧ w'.cell? ⟨gb754, 3, none⟩ = some (.int .u64 ((rd_T90 l0_0 x38_1).f1.f1)) ∧ w'.cell? ⟨gb754, 4, none⟩ = some (.int .u64 ((rd_T90 l0_0 x38_1).f2)) ∧ w'.cell? ⟨gb754, 5, none⟩ = some (.bool ((rd_T90 l0_0 x38_1).f3))) (ds := []) #[false, false, false, false, false, false, false, false, false, false, false, false, false, false, false, false, false, false, false, false, false, false, false] (by kernel_rfl) rfl rfl ⟨(blk_cell BK754.out 0).trans rfl, (blk_cell BK754.out 1).trans rfl, (blk_cell BK754.out 2).trans rfl, (blk_cell BK754.out 3).trans rfl, (blk_cell BK754.out 4).trans rfl, (blk_cell BK754.out 5).trans rfl⟩ (fun hHeld => ?_); refine with_tabW mainsheetlaw19_PickWaits.tab13 mainsheetlaw19_PickWaits.bits13 (fun HT_ HW_ => ?_)
                          generalize w29.drew = w39 at HO_3 BK743 BK754 HB hHeld ⊢
                          refine pure_ (i := 0) (N := some 51) (v := ?_) (a' := ?_) #[true, false, false, false, false, false, false, false, false, false, false, false, false, false, false, false, false, false, false, false, false, false, false] rfl rfl (any_of HT_.out (by kernel_rfl)) (fun _ _ _ h => h) (Or.inl ⟨by rfl, ?_⟩) ?_ ?_
                          rotate_left
                          · intro w'
                            go_simp
                            first | with_reducible rfl | (rw [field36_2]; rfl)
                          rotate_left
                          · simp only [Act.put, List.setIfInBounds_toArray, List.set_cons_zero, List.set_cons_succ, i64_w, i32_w]
                            rfl
                          refine pure_ (i := 1) (N := some 52) (v := ?_) (a' := ?_) #[true, true, false, false, false, false, false, false, false, false, false, false, false, false, false, false, false, false, false, false, false, false, false] rfl rfl (any_of HT_.out (by kernel_rfl)) (fun _ _ _ h => h) (Or.inl ⟨by rfl, ?_⟩) ?_ ?_
                          rotate_left
                          · intro w'
                            go_simp
                            first | with_reducible rfl | (rw [field36_2]; rfl)
                          rotate_left
                          · simp only [Act.put, List.setIfInBounds_toArray, List.set_cons_zero, List.set_cons_succ, i64_w, i32_w]
                            rfl
                          refine pure_ (i := 2) (N := some 53) (v := ?_) (a' := ?_) #[true, true, true, false, false, false, false, false, false, false, false, false, false, false, false, false, false, false, false, false, false, false, false] rfl rfl (any_of HT_.out (by kernel_rfl)) (fun _ _ _ h => h) (Or.inl ⟨by rfl, ?_⟩) ?_ ?_
                          rotate_left
                          · intro w'
                            go_simp
                            first | with_reducible rfl | (rw [field36_2]; rfl)
                          rotate_left
                          · simp only [Act.put, List.setIfInBounds_toArray, List.set_cons_zero, List.set_cons_succ, i64_w, i32_w]
                            rfl
                          refine pure_ (i := 3) (N := some 54) (v := ?_) (a' := ?_) #[true, true, true, true, false, false, false, false, false, false, false, false, false, false, false, false, false, false, false, false, false, false, false] rfl rfl (any_of HT_.out (by kernel_rfl)) (fun _ _ _ h => h) (Or.inl ⟨by rfl, ?_⟩) ?_ ?_
                          rotate_left
                          · intro w'
                            go_simp
                            first | with_reducible rfl | (rw [field36_2]; rfl)
                          rotate_left
                          · simp only [Act.put, List.setIfInBounds_toArray, List.set_cons_zero, List.set_cons_succ, i64_w, i32_w]
                            rfl
                          refine take_ (i := 4) (N := some 55) (v := ?_) (a' := ?_) #[true, true, true, true, true, false, false, false, false, false, false, false, false, false, false, false, false, false, false, false, false, false, false] rfl rfl (take_ofW HT_.out HW_.out (by kernel_rfl)) (fun _ _ _ h => h) (Or.inl ⟨by rfl, ?_⟩) hHeld ?_ ?_
                          rotate_left
                          · rintro w' ⟨s0, s1, s2, s3, s4, s5⟩
                            go_simp
                            first | with_reducible rfl | (rw [field36_2]; rfl)
                          rotate_left
                          · simp only [Act.put, List.setIfInBounds_toArray, List.set_cons_zero, List.set_cons_succ, i64_w, i32_w]
                            rfl
                          refine pure_ (i := 5) (N := some 56) (v := ?_) (a' := ?_) #[true, true, true, true, true, true, false, false, false, false, false, false, false, false, false, false, false, false, false, false, false, false, false] rfl rfl (any_of HT_.out (by kernel_rfl)) (fun _ _ _ h => h) (Or.inl ⟨by rfl, ?_⟩) ?_ ?_
                          rotate_left
                          · intro w'
                            go_simp
                            first | with_reducible rfl | (rw [field36_2]; rfl)
                          rotate_left
                          · simp only [Act.put, List.setIfInBounds_toArray, List.set_cons_zero, List.set_cons_succ, i64_w, i32_w]
                            rfl
                          refine pure_ (i := 6) (N := some 57) (v := ?_) (a' := ?_) #[true, true, true, true, true, true, true, false, false, false, false, false, false, false, false, false, false, false, false, false, false, false, false] rfl rfl (any_of HT_.out (by kernel_rfl)) (fun _ _ _ h => h) (Or.inl ⟨by rfl, ?_⟩) ?_ ?_
                          rotate_left
                          · intro w'
                            go_simp
                            first | with_reducible rfl | (rw [field36_2]; rfl)
                          rotate_left
                          · simp only [Act.put, List.setIfInBounds_toArray, List.set_cons_zero, List.set_cons_succ, i64_w, i32_w]
                            rfl
                          refine pure_ (i := 7) (N := some 58) (v := ?_) (a' := ?_) #[true, true, true, true, true, true, true, true, false, false, false, false, false, false, false, false, false, false, false, false, false, false, false] rfl rfl (any_of HT_.out (by kernel_rfl)) (fun _ _ _ h => h) (Or.inl ⟨by rfl, ?_⟩) ?_ ?_
                          rotate_left
                          · intro w'
                            go_simp
                            first | with_reducible rfl | (rw [field36_2]; rfl)
                          rotate_left
                          · simp only [Act.put, List.setIfInBounds_toArray, List.set_cons_zero, List.set_cons_succ, i64_w, i32_w]
                            rfl
                          refine pure_ (i := 8) (N := some 59) (v := ?_) (a' := ?_) #[true, true, true, true, true, true, true, true, true, false, false, false, false, false, false, false, false, false, false, false, false, false, false] rfl rfl (any_of HT_.out (by kernel_rfl)) (fun _ _ _ h => h) (Or.inl ⟨by rfl, ?_⟩) ?_ ?_
                          rotate_left
                          · intro w'
                            go_simp
                            first | with_reducible rfl | (rw [field36_2]; rfl)
                          rotate_left
                          · simp only [Act.put, List.setIfInBounds_toArray, List.set_cons_zero, List.set_cons_succ, i64_w, i32_w]
                            rfl
                          refine pure_ (i := 9) (N := some 60) (v := undef) (a' := ?_) #[true, true, true, true, true, true, true, true, true, true, false, false, false, false, false, false, false, false, false, false, false, false, false] rfl rfl (any_of HT_.out (by kernel_rfl)) (fun _ _ _ h => h) (Or.inr ⟨by rfl, rfl⟩) ?_ ?_
                          rotate_left
                          · simp only [Act.put, List.setIfInBounds_toArray, List.set_cons_zero, List.set_cons_succ, i64_w, i32_w]
                            rfl
                          refine pure_ (i := 10) (N := some 61) (v := undef) (a' := ?_) #[true, true, true, true, true, true, true, true, true, true, true, false, false, false, false, false, false, false, false, false, false, false, false] rfl rfl (any_of HT_.out (by kernel_rfl)) (fun _ _ _ h => h) (Or.inr ⟨by rfl, rfl⟩) ?_ ?_
                          rotate_left
                          · simp only [Act.put, List.setIfInBounds_toArray, List.set_cons_zero, List.set_cons_succ, i64_w, i32_w]
                            rfl
                          refine pure_ (i := 11) (N := some 62) (v := undef) (a' := ?_) #[true, true, true, true, true, true, true, true, true, true, true, true, false, false, false, false, false, false, false, false, false, false, false] rfl rfl (any_of HT_.out (by kernel_rfl)) (fun _ _ _ h => h) (Or.inr ⟨by rfl, rfl⟩) ?_ ?_
                          rotate_left
                          · simp only [Act.put, List.setIfInBounds_toArray, List.set_cons_zero, List.set_cons_succ, i64_w, i32_w]
                            rfl
                          refine pure_ (i := 12) (N := some 63) (v := undef) (a' := ?_) #[true, true, true, true, true, true, true, true, true, true, true, true, true, false, false, false, false, false, false, false, false, false, false] rfl rfl (any_of HT_.out (by kernel_rfl)) (fun _ _ _ h => h) (Or.inr ⟨by rfl, rfl⟩) ?_ ?_
                          rotate_left
                          · simp only [Act.put, List.setIfInBounds_toArray, List.set_cons_zero, List.set_cons_succ, i64_w, i32_w]
                            rfl
                          refine pure_ (i := 13) (N := some 64) (v := undef) (a' := ?_) #[true, true, true, true, true, true, true, true, true, true, true, true, true, true, false, false, false, false, false, false, false, false, false] rfl rfl (any_of HT_.out (by kernel_rfl)) (fun _ _ _ h => h) (Or.inr ⟨by rfl, rfl⟩) ?_ ?_
                          rotate_left
                          · simp only [Act.put, List.setIfInBounds_toArray, List.set_cons_zero, List.set_cons_succ, i64_w, i32_w]
                            rfl
                          refine pure_ (i := 14) (N := some 65) (v := undef) (a' := ?_) #[true, true, true, true, true, true, true, true, true, true, true, true, true, true, true, false, false, false, false, false, false, false, false] rfl rfl (any_of HT_.out (by kernel_rfl)) (fun _ _ _ h => h) (Or.inr ⟨by rfl, rfl⟩) ?_ ?_
                          rotate_left
                          · simp only [Act.put, List.setIfInBounds_toArray, List.set_cons_zero, List.set_cons_succ, i64_w, i32_w]
                            rfl
                          refine pure_ (i := 15) (N := some 66) (v := undef) (a' := ?_) #[true, true, true, true, true, true, true, true, true, true, true, true, true, true, true, true, false, false, false, false, false, false, false] rfl rfl (any_of HT_.out (by kernel_rfl)) (fun _ _ _ h => h) (Or.inr ⟨by rfl, rfl⟩) ?_ ?_
                          rotate_left
                          · simp only [Act.put, List.setIfInBounds_toArray, List.set_cons_zero, List.set_cons_succ, i64_w, i32_w]
                            rfl
                          refine pure_ (i := 16) (N := some 67) (v := undef) (a' := ?_) #[true, true, true, true, true, true, true, true, true, true, true, true, true, true, true, true, true, false, false, false, false, false, false] rfl rfl (any_of HT_.out (by kernel_rfl)) (fun _ _ _ h => h) (Or.inr ⟨by rfl, rfl⟩) ?_ ?_
                          rotate_left
                          · simp only [Act.put, List.setIfInBounds_toArray, List.set_cons_zero, List.set_cons_succ, i64_w, i32_w]
                            rfl
                          refine pure_ (i := 17) (N := some 68) (v := undef) (a' := ?_) #[true, true, true, true, true, true, true, true, true, true, true, true, true, true, true, true, true, true, false, false, false, false, false] rfl rfl (any_of HT_.out (by kernel_rfl)) (fun _ _ _ h => h) (Or.inr ⟨by rfl, rfl⟩) ?_ ?_
                          rotate_left
                          · simp only [Act.put, List.setIfInBounds_toArray, List.set_cons_zero, List.set_cons_succ, i64_w, i32_w]
                            rfl
                          refine pure_ (i := 18) (N := some 69) (v := undef) (a' := ?_) #[true, true, true, true, true, true, true, true, true, true, true, true, true, true, true, true, true, true, true, false, false, false, false] rfl rfl (any_of HT_.out (by kernel_rfl)) (fun _ _ _ h => h) (Or.inr ⟨by rfl, rfl⟩) ?_ ?_
                          rotate_left
                          · simp only [Act.put, List.setIfInBounds_toArray, List.set_cons_zero, List.set_cons_succ, i64_w, i32_w]
                            rfl
                          refine pure_ (i := 19) (N := some 70) (v := undef) (a' := ?_) #[true, true, true, true, true, true, true, true, true, true, true, true, true, true, true, true, true, true, true, true, false, false, false] rfl rfl (any_of HT_.out (by kernel_rfl)) (fun _ _ _ h => h) (Or.inr ⟨by rfl, rfl⟩) ?_ ?_
                          rotate_left
                          · simp only [Act.put, List.setIfInBounds_toArray, List.set_cons_zero, List.set_cons_succ, i64_w, i32_w]
                            rfl
                          refine pure_ (i := 20) (N := some 71) (v := undef) (a' := ?_) #[true, true, true, true, true, true, true, true, true, true, true, true, true, true, true, true, true, true, true, true, true, false, false] rfl rfl (any_of HT_.out (by kernel_rfl)) (fun _ _ _ h => h) (Or.inr ⟨by rfl, rfl⟩) ?_ ?_
                          rotate_left
                          · simp only [Act.put, List.setIfInBounds_toArray, List.set_cons_zero, List.set_cons_succ, i64_w, i32_w]
                            rfl
                          refine pure_ (i := 21) (N := some 72) (v := undef) (a' := ?_) #[true, true, true, true, true, true, true, true, true, true, true, true, true, true, true, true, true, true, true, true, true, true, false] rfl rfl (any_of HT_.out (by kernel_rfl)) (fun _ _ _ h => h) (Or.inr ⟨by rfl, rfl⟩) ?_ ?_
                          rotate_left
                          · simp only [Act.put, List.setIfInBounds_toArray, List.set_cons_zero, List.set_cons_succ, i64_w, i32_w]
                            rfl
                          refine pure_ (i := 22) (N := some 73) (v := ?_) (a' := ?_) #[true, true, true, true, true, true, true, true, true, true, true, true, true, true, true, true, true, true, true, true, true, true, true] rfl rfl (any_of HT_.out (by kernel_rfl)) (fun _ _ _ h => h) (Or.inl ⟨by rfl, ?_⟩) ?_ ?_
                          rotate_left
                          · intro w'
                            go_simp
                            first | with_reducible rfl | (rw [field36_2]; rfl)
                          rotate_left
                          · simp only [Act.put, List.setIfInBounds_toArray, List.set_cons_zero, List.set_cons_succ, i64_w, i32_w]
                            rfl
                          refine done_ (done_of HT_.out (by kernel_rfl)) ?_
                          try go_wp2
                          go_meet
                          case rel => exact ⟨_, (false), (by first | rfl | (simp; done) | (simp [*]; done)), H', ⟨by have := HK1.out; first | omega | exact Nat.le_refl _⟩, ⟨by (with_reducible repeat (first | apply Kd.R_alloc | apply Kd.R_drewN | apply Kd.R_drew)); exact HO_3.out⟩, ⟨by (with_reducible repeat (first | refine blk_drewN ?_ _ | refine blk_drew ?_ | refine blk_alloc ?_ _)); exact BK743.out⟩, ⟨by (with_reducible repeat (first | refine blk_drewN ?_ _ | refine blk_drew ?_ | refine blk_alloc ?_ _)); exact BK754.out⟩, ⟨by repeat (first | (with_reducible first | exact HB.out | apply below_alloc | apply pw_below_drewN | apply below_drew1 | refine below_set ?_ GE743.out | refine below_set ?_ GE754.out) | exact HB.out)⟩⟩
                    case rest =>
                      clear HC24
                      try clear c2
                      try clear p2
                      try clear c3
                      try clear c4
                      try clear c7
                      try clear p7
                      try clear q7
                      try clear hx7
                      try clear qi7
                      try clear c22
                      try clear c23
                      try clear c30
                      try clear c32
                      try clear c32b0
                      try clear c32b1
                      try clear hx758_0
                      try clear p758
                      try clear q758
                      obtain ⟨kq, x73_23, rfl, HA, HJ23, HO_3, BK743, BK754, HB⟩ := hcut
                      cases kq with
                      | zero => exact absurd HA.out (by simp [mainsheetlaw19_PickWaits.j1])
                      | succ kj23 =>
                        have H := HA.out
                        clear HA
                        simp only [mainsheetlaw19_PickWaits.j1] at H
                        by_cases c40 : x73_23 = true
                        · subst c40
                          have H1 : (some false) = some r := by rw [if_pos rfl] at H; exact H
                          clear H
                          have H := H1
                          clear H1
                          obtain rfl := Option.some.inj H
                          go_wp2
                          go_ret
                          exact ⟨by first | rfl | (simp [errW_none, errW_some] <;> rfl) | (simp [*, errW_none, errW_some] <;> rfl), by repeat (first | (with_reducible first | exact HB.out | apply below_alloc | apply pw_below_drewN | apply below_drew1 | refine below_set ?_ GE743.out | refine below_set ?_ GE754.out) | exact HB.out)⟩
                        · replace c40 := Bool.eq_false_iff.mpr c40
                          subst c40
                          have H1 : (mainsheetlaw19_PickWaits.l1 kj23 t746 x6_1 l0_0 (l0_0.length : Int) x38_1 ((rd_T90 l0_0 x38_1).f0) (((rd_T90 l0_0 x38_1).f0).length : Int) 0 l0_0 l0_1 a0_2) = some r := by rw [if_neg (show ¬ (false = true) by decide)] at H; exact H
                          clear H
                          have H := H1
                          clear H1
                          have H' := Aside0.mk H
                          clear H
                          have hnb41 := NB754_743.out
                          have hnc41 := NB743_754.out
                          have hcz42_0 : wc.cell? ⟨gb754, 0, none⟩ = some (.slice (some ad755) ((rd_T90 l0_0 x38_1).f0).length c753_0) := (blk_cell BK754.out 0).trans rfl
                          have hcz42_1 : wc.cell? ⟨gb754, 1, none⟩ = some (.int .u64 ((rd_T90 l0_0 x38_1).f1.f0.f0)) := (blk_cell BK754.out 1).trans rfl
                          have hcz42_2 : wc.cell? ⟨gb754, 2, none⟩ = some (.int .u64 ((rd_T90 l0_0 x38_1).f1.f0.f1)) := (blk_cell BK754.out 2).trans rfl
                          have hcz42_3 : wc.cell? ⟨gb754, 3, none⟩ = some (.int .u64 ((rd_T90 l0_0 x38_1).f1.f1)) := (blk_cell BK754.out 3).trans rfl
                          have hcz42_4 : wc.cell? ⟨gb754, 4, none⟩ = some (.int .u64 ((rd_T90 l0_0 x38_1).f2)) := (blk_cell BK754.out 4).trans rfl
                          have hcz42_5 : wc.cell? ⟨gb754, 5, none⟩ = some (.bool ((rd_T90 l0_0 x38_1).f3)) := (blk_cell BK754.out 5).trans rfl
                          have hfz42_0 := blk_frozen BK754.out 0
                          have hfz42_1 := blk_frozen BK754.out 1
                          have hfz42_2 := blk_frozen BK754.out 2
                          have hfz42_3 := blk_frozen BK754.out 3
                          have hfz42_4 := blk_frozen BK754.out 4
                          have hfz42_5 := blk_frozen BK754.out 5
                          go_wp2
                          go_loopg [6, 77] kj23 (fun kq v6 v77 w' => ∃ (x6_3 : Int) (x77_3 : Int), v6 = .int .u32 x6_3 ∧ v77 = .int .i64 x77_3 ∧ Aside0 (mainsheetlaw19_PickWaits.l1 kq t746 x6_3 l0_0 (l0_0.length : Int) x38_1 ((rd_T90 l0_0 x38_1).f0) (((rd_T90 l0_0 x38_1).f0).length : Int) x77_3 l0_0 l0_1 a0_2 = some r) ∧ Aside0 (kq ≤ kj23) ∧ Aside0 (Kd.R k31 31 w' w.heap.size (fun _ => True) (.slice Ao28 t746.length co28) t746) ∧ Aside0 (w'.heap[gb743]? = some (.cells #[(.slice (some ad753) l0_0.length c0_0), (.slice A0_1 l0_1.length c0_1), .int .u32 a0_2] 41 (0, 0))) ∧ Aside0 (w'.heap[gb754]? = some (.cells #[(.slice (some ad755) ((rd_T90 l0_0 x38_1).f0).length c753_0), .int .u64 ((rd_T90 l0_0 x38_1).f1.f0.f0), .int .u64 ((rd_T90 l0_0 x38_1).f1.f0.f1), .int .u64 ((rd_T90 l0_0 x38_1).f1.f1), .int .u64 ((rd_T90 l0_0 x38_1).f2), .bool ((rd_T90 l0_0 x38_1).f3)] 90 (0, 0))) ∧ Aside0 (Below w.heap.size w w'))
                          case atStart => exact ⟨(x6_1), (0), (by first | rfl | (simp; done) | (simp [*]; done)), (by first | rfl | (simp; done) | (simp [*]; done)), H', ⟨Nat.le_refl _⟩, ⟨by (with_reducible repeat (first | apply Kd.R_alloc | apply Kd.R_drewN | apply Kd.R_drew)); exact HO_3.out⟩, ⟨by (with_reducible repeat (first | refine blk_drewN ?_ _ | refine blk_drew ?_ | refine blk_alloc ?_ _)); exact BK743.out⟩, ⟨by (with_reducible repeat (first | refine blk_drewN ?_ _ | refine blk_drew ?_ | refine blk_alloc ?_ _)); exact BK754.out⟩, ⟨by repeat (first | (with_reducible first | exact HB.out | apply below_alloc | apply pw_below_drewN | apply below_drew1 | refine below_set ?_ GE743.out | refine below_set ?_ GE754.out) | exact HB.out)⟩⟩
                          case round =>
                            clear H'
                            try clear c2
                            try clear p2
                            try clear c3
                            try clear c4
                            try clear c7
                            try clear p7
                            try clear q7
                            try clear hx7
                            try clear qi7
                            try clear c22
                            try clear c23
                            try clear c30
                            try clear c32
                            try clear c32b0
                            try clear c32b1
                            try clear c40
                            try clear c41
                            try clear hcz42_0
                            try clear hcz42_1
                            try clear hcz42_2
                            try clear hcz42_3
                            try clear hcz42_4
                            try clear hcz42_5
                            try clear hfz42_0
                            try clear hfz42_1
                            try clear hfz42_2
                            try clear hfz42_3
                            try clear hfz42_4
                            try clear hfz42_5
                            try clear hx758_0
                            try clear p2
                            try clear p7
                            try clear p758
                            try clear q7
                            try clear q758
                            obtain ⟨x6_3, x77_3, rfl, rfl, HA, HK3, HO_3, BK743, BK754, HB⟩ := hrel
                            cases gk with
                            | zero => exact absurd HA.out (by simp [mainsheetlaw19_PickWaits.l1])
                            | succ k3 =>
                              have H := HA.out
                              clear HA
                              simp only [mainsheetlaw19_PickWaits.l1] at H
                              by_cases c43 : x77_3 < (((rd_T90 l0_0 x38_1).f0).length : Int)
                              · rw [if_pos c43] at H
                                have c43b0 : decide (x77_3 < (((rd_T90 l0_0 x38_1).f0).length : Int)) = true := decide_eq_true c43
                                clear c43
                                by_cases c44 : 0 ≤ x77_3
                                · rw [if_pos c44] at H
                                  have c44b0 : decide (0 ≤ x77_3) = true := decide_eq_true c44
                                  clear c44
                                  by_cases c45 : x77_3 < (((rd_T90 l0_0 x38_1).f0).length : Int)
                                  · rw [if_pos c45] at H
                                    have c45b0 : decide (x77_3 < (((rd_T90 l0_0 x38_1).f0).length : Int)) = true := decide_eq_true c45
                                    clear c45
                                    replace H := Option.bind_eq_some_iff.mp H
                                    obtain ⟨⟨t766, t767⟩, A460, H⟩ := H
                                    replace H : (if t767 = true then (if 0 ≤ t766 then (mainsheetlaw19_PickWaits.l1 k3 t746 (Go.bits .or .u32 x6_3 (shl .u32 1 t766)) l0_0 (l0_0.length : Int) x38_1 ((rd_T90 l0_0 x38_1).f0) (((rd_T90 l0_0 x38_1).f0).length : Int) (wrap64 (x77_3 + 1)) l0_0 l0_1 a0_2) else (none)) else (mainsheetlaw19_PickWaits.l1 k3 t746 x6_3 l0_0 (l0_0.length : Int) x38_1 ((rd_T90 l0_0 x38_1).f0) (((rd_T90 l0_0 x38_1).f0).length : Int) (wrap64 (x77_3 + 1)) l0_0 l0_1 a0_2)) = some r := H
                                    have A46 := Aside0.mk A460
                                    clear A460
                                    by_cases c47 : t767 = true
                                    · subst c47
                                      have H1 : (if 0 ≤ t766 then (mainsheetlaw19_PickWaits.l1 k3 t746 (Go.bits .or .u32 x6_3 (shl .u32 1 t766)) l0_0 (l0_0.length : Int) x38_1 ((rd_T90 l0_0 x38_1).f0) (((rd_T90 l0_0 x38_1).f0).length : Int) (wrap64 (x77_3 + 1)) l0_0 l0_1 a0_2) else (none)) = some r := by rw [if_pos rfl] at H; exact H
                                      clear H
                                      have H := H1
                                      clear H1
                                      by_cases c48 : 0 ≤ t766
                                      · rw [if_pos c48] at H
                                        have c48b0 := eq_true c48
                                        have c48b1 : decide (0 ≤ t766) = true := decide_eq_true c48
                                        clear c48
                                        obtain ⟨ji49, hji49⟩ : ∃ j_ : Int, (shl .u32 1 t766) = j_ := ⟨_, rfl⟩
                                        replace H : (mainsheetlaw19_PickWaits.l1 k3 t746 (Go.bits .or .u32 x6_3 (ji49)) l0_0 (l0_0.length : Int) x38_1 ((rd_T90 l0_0 x38_1).f0) (((rd_T90 l0_0 x38_1).f0).length : Int) (wrap64 (x77_3 + 1)) l0_0 l0_1 a0_2) = some r := by first | (rw [hji49] at H; exact H) | (simp only [hji49] at H ⊢; exact H)
                                        (try rw [hji49] at A46)
                                        have hji49_ : (IntKind.u32.wrap (1 * 2 ^ min t766.toNat 32)) = ji49 := hji49
                                        have hji49z : t766 ≤ 32 → (IntKind.u32.wrap (1 * 2 ^ t766.toNat)) = ji49 := shl_small hji49
                                        have hji49u : (IntKind.u32.wrap (2 ^ min t766.toNat 32)) = ji49 := by have h_ := hji49_; rw [Int.one_mul] at h_; exact h_
                                        have hji49v : t766 ≤ 32 → (IntKind.u32.wrap (2 ^ t766.toNat)) = ji49 := fun hle_ => by have h_ := hji49z hle_; rw [Int.one_mul] at h_; exact h_
                                        have H' := Aside0.mk H
                                        clear H
                                        have p765 : 0 ≤ (x77_3 : Int) := of_decide_eq_true (by first | (with_reducible assumption) | assumption)
                                        have q765 : x77_3 < (((rd_T90 l0_0 x38_1).f0).length : Int) := of_decide_eq_true (by first | (with_reducible assumption) | assumption)
                                        obtain ⟨ad765, e765, hx765_0⟩ := Kd.at_int HR753_0.out x77_3 p765 q765
                                        obtain rfl : ad755 = ad765 := (by injection e765)
                                        replace hx765_0 := (HB.out.cell (World.block_lt_of_cell? w _ hx765_0)).trans hx765_0
                                        replace p765 := eq_true p765
                                        replace q765 := eq_true q765
                                        go_wp2_with (first | ((with_reducible refine gate_callee (f := 24) rfl ?_); refine goesL_ (some 84) rfl rfl Tryd.func24 (by kernel_rfl) rfl #[.slice Ao28 t746.length co28, .int .i64 (rd ((rd_T90 l0_0 x38_1).f0) x77_3)] rfl (by (try simp only [List.map_toArray, List.map_cons, List.map_nil]); first | done | rfl | (simp only [List.length_drop, List.length_take]; rfl)) ?_; (with_reducible refine (pick_On.calls _ _ t746 (rd ((rd_T90 l0_0 x38_1).f0) x77_3) t766 true _ ?side1 ?side2 A46.out).mono ?_); (case side1 => repeat (first | exact (Kd.R_reads' HO_3.out).2.2 | (with_reducible refine Kd.C_alloc ?_ _) | (with_reducible refine Kd.C_drewN ?_ _) | (with_reducible refine Kd.C_drew ?_))); (case side2 => exact (Kd.R_reads' HO_3.out).2.1); rintro e w50 ⟨rfl, hb⟩; refine ⟨_, rfl, ?_⟩; have n0_ := Aside0.mk (Kd.R_below (by (with_reducible repeat (first | apply Kd.R_alloc | apply Kd.R_drewN | apply Kd.R_drew)); exact HO_3.out) hb); have n1_ := Aside0.mk (blk_below (g := gb743) (o := .cells #[.slice (some ad753) l0_0.length c0_0, .slice A0_1 l0_1.length c0_1, .int .u32 a0_2] 41 (0, 0)) (by (with_reducible repeat (first | refine blk_drewN ?_ _ | refine blk_drew ?_ | refine blk_alloc ?_ _)); exact BK743.out) hb); have n2_ := Aside0.mk (blk_below (g := gb754) (o := .cells #[.slice (some ad755) ((rd_T90 l0_0 x38_1).f0).length c753_0, .int .u64 ((rd_T90 l0_0 x38_1).f1.f0.f0), .int .u64 ((rd_T90 l0_0 x38_1).f1.f0.f1), .int .u64 ((rd_T90 l0_0 x38_1).f1.f1), .int .u64 ((rd_T90 l0_0 x38_1).f2), .bool ((rd_T90 l0_0 x38_1).f3)] 90 (0, 0)) (by (with_reducible repeat (first | refine blk_drewN ?_ _ | refine blk_drew ?_ | refine blk_alloc ?_ _)); exact BK754.out) hb); have n3_ := Aside0.mk (below_step (by repeat (first | (with_reducible first | exact HB.out | apply below_alloc | apply pw_below_drewN | apply below_drew1 | refine below_set ?_ GE743.out | refine below_set ?_ GE754.out) | exact HB.out)) hb); clear HO_3; clear BK743; clear BK754; clear HB; have HO_3 := n0_; have BK743 := n1_; have BK754 := n2_; have HB := n3_; clear n0_ n1_ n2_ n3_; (try clear hb); (try clear hb2); (try clear hk); (try clear hi)))
                                        go_roundg k3
                                        case measure => have := HK1.out; have := HJ23.out; have := HK3.out; omega
                                        case rel => exact ⟨(Go.bits .or .u32 x6_3 (ji49)), (wrap64 (x77_3 + 1)), (by first | rfl | (simp; done) | (simp only [← hji49] <;> (first | rfl | simp)) | (simp [*]; done)), (by first | rfl | (simp; done) | (simp [*]; done)), H', ⟨by have := HK1.out; have := HJ23.out; have := HK3.out; omega⟩, ⟨by (with_reducible repeat (first | apply Kd.R_alloc | apply Kd.R_drewN | apply Kd.R_drew)); exact HO_3.out⟩, ⟨by (with_reducible repeat (first | refine blk_drewN ?_ _ | refine blk_drew ?_ | refine blk_alloc ?_ _)); exact BK743.out⟩, ⟨by (with_reducible repeat (first | refine blk_drewN ?_ _ | refine blk_drew ?_ | refine blk_alloc ?_ _)); exact BK754.out⟩, ⟨by repeat (first | (with_reducible first | exact HB.out | apply below_alloc | apply pw_below_drewN | apply below_drew1 | refine below_set ?_ GE743.out | refine below_set ?_ GE754.out) | exact HB.out)⟩⟩
                                      · rw [if_neg c48] at H
                                        exact absurd H (by simp)
                                    · replace c47 := Bool.eq_false_iff.mpr c47
                                      subst c47
                                      have H1 : (mainsheetlaw19_PickWaits.l1 k3 t746 x6_3 l0_0 (l0_0.length : Int) x38_1 ((rd_T90 l0_0 x38_1).f0) (((rd_T90 l0_0 x38_1).f0).length : Int) (wrap64 (x77_3 + 1)) l0_0 l0_1 a0_2) = some r := by rw [if_neg (show ¬ (false = true) by decide)] at H; exact H
                                      clear H
                                      have H := H1
                                      clear H1
                                      have H' := Aside0.mk H
                                      clear H
                                      have p765 : 0 ≤ (x77_3 : Int) := of_decide_eq_true (by first | (with_reducible assumption) | assumption)
                                      have q765 : x77_3 < (((rd_T90 l0_0 x38_1).f0).length : Int) := of_decide_eq_true (by first | (with_reducible assumption) | assumption)
                                      obtain ⟨ad765, e765, hx765_0⟩ := Kd.at_int HR753_0.out x77_3 p765 q765
                                      obtain rfl : ad755 = ad765 := (by injection e765)
                                      replace hx765_0 := (HB.out.cell (World.block_lt_of_cell? w _ hx765_0)).trans hx765_0
                                      replace p765 := eq_true p765
                                      replace q765 := eq_true q765
                                      go_wp2_with (first | ((with_reducible refine gate_callee (f := 24) rfl ?_); refine goesL_ (some 84) rfl rfl Tryd.func24 (by kernel_rfl) rfl #[.slice Ao28 t746.length co28, .int .i64 (rd ((rd_T90 l0_0 x38_1).f0) x77_3)] rfl (by (try simp only [List.map_toArray, List.map_cons, List.map_nil]); first | done | rfl | (simp only [List.length_drop, List.length_take]; rfl)) ?_; (with_reducible refine (pick_On.calls _ _ t746 (rd ((rd_T90 l0_0 x38_1).f0) x77_3) t766 false _ ?side1 ?side2 A46.out).mono ?_); (case side1 => repeat (first | exact (Kd.R_reads' HO_3.out).2.2 | (with_reducible refine Kd.C_alloc ?_ _) | (with_reducible refine Kd.C_drewN ?_ _) | (with_reducible refine Kd.C_drew ?_))); (case side2 => exact (Kd.R_reads' HO_3.out).2.1); rintro e w51 ⟨rfl, hb⟩; refine ⟨_, rfl, ?_⟩; have n0_ := Aside0.mk (Kd.R_below (by (with_reducible repeat (first | apply Kd.R_alloc | apply Kd.R_drewN | apply Kd.R_drew)); exact HO_3.out) hb); have n1_ := Aside0.mk (blk_below (g := gb743) (o := .cells #[.slice (some ad753) l0_0.length c0_0, .slice A0_1 l0_1.length c0_1, .int .u32 a0_2] 41 (0, 0)) (by (with_reducible repeat (first | refine blk_drewN ?_ _ | refine blk_drew ?_ | refine blk_alloc ?_ _)); exact BK743.out) hb); have n2_ := Aside0.mk (blk_below (g := gb754) (o := .cells #[.slice (some ad755) ((rd_T90 l0_0 x38_1).f0).length c753_0, .int .u64 ((rd_T90 l0_0 x38_1).f1.f0.f0), .int .u64 ((rd_T90 l0_0 x38_1).f1.f0.f1), .int .u64 ((rd_T90 l0_0 x38_1).f1.f1), .int .u64 ((rd_T90 l0_0 x38_1).f2), .bool ((rd_T90 l0_0 x38_1).f3)] 90 (0, 0)) (by (with_reducible repeat (first | refine blk_drewN ?_ _ | refine blk_drew ?_ | refine blk_alloc ?_ _)); exact BK754.out) hb); have n3_ := Aside0.mk (below_step (by repeat (first | (with_reducible first | exact HB.out | apply below_alloc | apply pw_below_drewN | apply below_drew1 | refine below_set ?_ GE743.out | refine below_set ?_ GE754.out) | exact HB.out)) hb); clear HO_3; clear BK743; clear BK754; clear HB; have HO_3 := n0_; have BK743 := n1_; have BK754 := n2_; have HB := n3_; clear n0_ n1_ n2_ n3_; (try clear hb); (try clear hb2); (try clear hk); (try clear hi)))
                                      go_roundg k3
                                      case measure => have := HK1.out; have := HJ23.out; have := HK3.out; omega
                                      case rel => exact ⟨(x6_3), (wrap64 (x77_3 + 1)), (by first | rfl | (simp; done) | (simp [*]; done)), (by first | rfl | (simp; done) | (simp [*]; done)), H', ⟨by have := HK1.out; have := HJ23.out; have := HK3.out; omega⟩, ⟨by (with_reducible repeat (first | apply Kd.R_alloc | apply Kd.R_drewN | apply Kd.R_drew)); exact HO_3.out⟩, ⟨by (with_reducible repeat (first | refine blk_drewN ?_ _ | refine blk_drew ?_ | refine blk_alloc ?_ _)); exact BK743.out⟩, ⟨by (with_reducible repeat (first | refine blk_drewN ?_ _ | refine blk_drew ?_ | refine blk_alloc ?_ _)); exact BK754.out⟩, ⟨by repeat (first | (with_reducible first | exact HB.out | apply below_alloc | apply pw_below_drewN | apply below_drew1 | refine below_set ?_ GE743.out | refine below_set ?_ GE754.out) | exact HB.out)⟩⟩
                                  · rw [if_neg c45] at H
                                    exact absurd H (by simp)
                                · rw [if_neg c44] at H
                                  exact absurd H (by simp)
                              · rw [if_neg c43] at H
                                have c43b0 : decide (x77_3 < (((rd_T90 l0_0 x38_1).f0).length : Int)) = false := decide_eq_false c43
                                clear c43
                                have H' := Aside0.mk H
                                clear H
                                go_wp2
                                go_roundg k3
                                case measure => have := HK1.out; have := HJ23.out; have := HK3.out; omega
                                case rel => exact ⟨(x6_3), (wrap64 (x38_1 + 1)), (by first | rfl | (simp; done) | (simp [*]; done)), (by first | rfl | (simp; done) | (simp [*]; done)), H', ⟨by have := HK1.out; have := HJ23.out; have := HK3.out; omega⟩, ⟨by (with_reducible repeat (first | apply Kd.R_alloc | apply Kd.R_drewN | apply Kd.R_drew)); exact HO_3.out⟩, ⟨by (with_reducible repeat (first | refine blk_drewN ?_ _ | refine blk_drew ?_ | refine blk_alloc ?_ _)); exact BK743.out⟩, ⟨by repeat (first | (with_reducible first | exact HB.out | apply below_alloc | apply pw_below_drewN | apply below_drew1 | refine below_set ?_ GE743.out | refine below_set ?_ GE754.out) | exact HB.out)⟩⟩
                  · rw [if_neg c22] at H
                    exact absurd H (by simp)
                · rw [if_neg c21] at H
                  exact absurd H (by simp)
              · rw [if_neg c20] at H
                exact absurd H (by simp)
            · rw [if_neg c19] at H
              have c19b0 : decide (x38_1 < (l0_0.length : Int)) = false := decide_eq_false c19
              clear c19
              obtain rfl := Option.some.inj H
              go_wp2
              go_ret
              exact ⟨by first | rfl | (simp [errW_none, errW_some] <;> rfl) | (simp [*, errW_none, errW_some] <;> rfl), by repeat (first | (with_reducible first | exact HB.out | apply below_alloc | apply pw_below_drewN | apply below_drew1 | refine below_set ?_ GE743.out) | exact HB.out)⟩
      · rw [if_neg c11] at H
        have c11b0 : (t748 == 0) = false := beq_eq_false_iff_ne.mpr c11
        have c11b1 : (t748 != 0) = true := bne_iff_ne.mpr c11
        obtain rfl := Option.some.inj H
        go_enter Tryd.func13, Tryd.ntmps13
        go_wp2_with (first | ((with_reducible refine gate_dst (N := 1) rfl ?_); (try (refine gate_guard (by rfl) ?_; dsimp only)); refine box_event ?hg (N := 1) ?hd (cs := #[.slice A0_0 l0_0.length c0_0, .slice A0_1 l0_1.length c0_1, .int .u32 a0_2]) (t := 41) ?hr ?_; (case hd => rfl); (case hg => rfl); (case hr => first | (go_simp; done) | (go_simp; rfl)); intro gb743 hg w52 hbox hb; have n0_ := Aside0.mk (below_step (by repeat (first | (with_reducible first | exact HB.out | apply below_alloc | apply pw_below_drewN | apply below_drew1) | exact HB.out)) hb); have n1_ := Aside0.mk (hbox); have n2_ := Aside0.mk ((by rw [hg]; exact (below_size (by repeat (first | (with_reducible first | exact HB.out | apply below_alloc | apply pw_below_drewN | apply below_drew1) | exact HB.out))) : w.heap.size ≤ gb743)); have n3_ := Aside0.mk ((by rw [hg]; exact (below_size (by repeat (first | (with_reducible first | exact HB.out | apply below_alloc | apply pw_below_drewN | apply below_drew1) | exact HB.out))) : w.heap.size ≤ gb743)); clear HB; have HB := n0_; have BK743 := n1_; have GW743 := n2_; have GE743 := n3_; clear n0_ n1_ n2_ n3_; clear hb hbox hg) | ((with_reducible refine gate_callee (f := 18) rfl ?_); refine goesL_ (some 15) rfl rfl Tryd.func18 (by kernel_rfl) rfl #[] rfl (by (try simp only [List.map_toArray, List.map_cons, List.map_nil]); first | done | rfl | (simp only [List.length_drop, List.length_take]; rfl)) ?_; (with_reducible refine (mainsheetlaw19_wakes.calls  true _ ?tb A2.out).mono ?_); (case tb => exact HT.out.step (by repeat (first | (with_reducible first | exact HB.out | apply below_alloc | apply pw_below_drewN | apply below_drew1 | refine below_set ?_ GE743.out) | exact HB.out))); rintro e w53 ⟨rfl, hb⟩; refine ⟨_, rfl, ?_⟩; have n0_ := Aside0.mk (blk_below (g := gb743) (o := .cells #[.slice A0_0 l0_0.length c0_0, .slice A0_1 l0_1.length c0_1, .int .u32 a0_2] 41 (0, 0)) (by (with_reducible repeat (first | refine blk_drewN ?_ _ | refine blk_drew ?_ | refine blk_alloc ?_ _)); exact BK743.out) hb); have n1_ := Aside0.mk (below_step (by repeat (first | (with_reducible first | exact HB.out | apply below_alloc | apply pw_below_drewN | apply below_drew1 | refine below_set ?_ GE743.out) | exact HB.out)) hb); clear BK743; clear HB; have BK743 := n0_; have HB := n1_; clear n0_ n1_; (try clear hb); (try clear hb2); (try clear hk); (try clear hi); have hcz54_0 : w53.cell? ⟨gb743, 0, none⟩ = some (.slice A0_0 l0_0.length c0_0) := (blk_cell BK743.out 0).trans rfl; have hcz54_1 : w53.cell? ⟨gb743, 1, none⟩ = some (.slice A0_1 l0_1.length c0_1) := (blk_cell BK743.out 1).trans rfl; have hcz54_2 : w53.cell? ⟨gb743, 2, none⟩ = some (.int .u32 a0_2) := (blk_cell BK743.out 2).trans rfl; have hfz54_0 := blk_frozen BK743.out 0; have hfz54_1 := blk_frozen BK743.out 1; have hfz54_2 := blk_frozen BK743.out 2) | ((with_reducible refine gate_callee (f := 19) rfl ?_); refine goesL_ (some 18) rfl rfl Tryd.func19 (by kernel_rfl) rfl #[.agg #[.slice A0_0 l0_0.length c0_0, .slice A0_1 l0_1.length c0_1, .int .u32 a0_2]] rfl (by (try simp only [List.map_toArray, List.map_cons, List.map_nil]); first | done | rfl | (simp only [List.length_drop, List.length_take]; rfl)) ?_; (with_reducible refine (mainsheetlaw19_Ask_over.calls k _ _ l0_0 _ _ l0_1 a0_2 false _ ?side1 ?side2 ?side3 ?side4 A4.out).mono ?_); (case side1 => repeat (first | exact (Kd.C_below HR0_0.out HB.out) | (with_reducible refine Kd.C_alloc ?_ _) | (with_reducible refine Kd.C_drewN ?_ _) | (with_reducible refine Kd.C_drew ?_))); (case side2 => exact HC0_0.out); (case side3 => repeat (first | exact (Kd.C_below HR0_1.out HB.out) | (with_reducible refine Kd.C_alloc ?_ _) | (with_reducible refine Kd.C_drewN ?_ _) | (with_reducible refine Kd.C_drew ?_))); (case side4 => exact HC0_1.out); rintro e w55 ⟨rfl, hb⟩; refine ⟨_, rfl, ?_⟩; have n0_ := Aside0.mk (blk_below (g := gb743) (o := .cells #[.slice A0_0 l0_0.length c0_0, .slice A0_1 l0_1.length c0_1, .int .u32 a0_2] 41 (0, 0)) (by (with_reducible repeat (first | refine blk_drewN ?_ _ | refine blk_drew ?_ | refine blk_alloc ?_ _)); exact BK743.out) hb); have n1_ := Aside0.mk (below_step (by repeat (first | (with_reducible first | exact HB.out | apply below_alloc | apply pw_below_drewN | apply below_drew1 | refine below_set ?_ GE743.out) | exact HB.out)) hb); clear BK743; clear HB; have BK743 := n0_; have HB := n1_; clear n0_ n1_; (try clear hb); (try clear hb2); (try clear hk); (try clear hi); have hcz56_0 : w55.cell? ⟨gb743, 0, none⟩ = some (.slice A0_0 l0_0.length c0_0) := (blk_cell BK743.out 0).trans rfl; have hcz56_1 : w55.cell? ⟨gb743, 1, none⟩ = some (.slice A0_1 l0_1.length c0_1) := (blk_cell BK743.out 1).trans rfl; have hcz56_2 : w55.cell? ⟨gb743, 2, none⟩ = some (.int .u32 a0_2) := (blk_cell BK743.out 2).trans rfl; have hfz56_0 := blk_frozen BK743.out 0; have hfz56_1 := blk_frozen BK743.out 1; have hfz56_2 := blk_frozen BK743.out 2) | ((with_reducible refine gate_callee (f := 20) rfl ?_); refine goesL_ (some 26) rfl rfl Tryd.func20 (by kernel_rfl) rfl #[.slice A0_0 l0_0.length c0_0, .slice A0_1 l0_1.length c0_1, .int .u32 a0_2] rfl (by (try simp only [List.map_toArray, List.map_cons, List.map_nil]); first | done | rfl | (simp only [List.length_drop, List.length_take]; rfl)) ?_; (with_reducible refine (pick_Pick.calls _ _ l0_0 _ _ l0_1 a0_2 t746 t747 t748 _ ?side1 ?side2 ?side3 ?side4 ?tb A10.out).mono ?_); (case tb => exact HT.out.step (by repeat (first | (with_reducible first | exact HB.out | apply below_alloc | apply pw_below_drewN | apply below_drew1 | refine below_set ?_ GE743.out) | exact HB.out))); (case side1 => repeat (first | exact (Kd.C_below HR0_0.out HB.out) | (with_reducible refine Kd.C_alloc ?_ _) | (with_reducible refine Kd.C_drewN ?_ _) | (with_reducible refine Kd.C_drew ?_))); (case side2 => exact HC0_0.out); (case side3 => repeat (first | exact (Kd.C_below HR0_1.out HB.out) | (with_reducible refine Kd.C_alloc ?_ _) | (with_reducible refine Kd.C_drewN ?_ _) | (with_reducible refine Kd.C_drew ?_))); (case side4 => exact HC0_1.out); rintro e w57 ⟨v749, v751, rfl, ho0, ho1, hb⟩; refine ⟨_, rfl, ?_⟩; have n0_ := Aside0.mk (Kd.R_lower ho0 (below_size (by repeat (first | (with_reducible first | exact HB.out | apply below_alloc | apply pw_below_drewN | apply below_drew1 | refine below_set ?_ GE743.out) | exact HB.out)))); have n1_ := Aside0.mk (Kd.R_lower ho1 (below_size (by repeat (first | (with_reducible first | exact HB.out | apply below_alloc | apply pw_below_drewN | apply below_drew1 | refine below_set ?_ GE743.out) | exact HB.out)))); have n2_ := Aside0.mk (blk_below (g := gb743) (o := .cells #[.slice A0_0 l0_0.length c0_0, .slice A0_1 l0_1.length c0_1, .int .u32 a0_2] 41 (0, 0)) (by (with_reducible repeat (first | refine blk_drewN ?_ _ | refine blk_drew ?_ | refine blk_alloc ?_ _)); exact BK743.out) hb); have n3_ := Aside0.mk (below_step (by repeat (first | (with_reducible first | exact HB.out | apply below_alloc | apply pw_below_drewN | apply below_drew1 | refine below_set ?_ GE743.out) | exact HB.out)) hb); clear BK743; clear HB; have HO750 := n0_; have HO752 := n1_; have BK743 := n2_; have HB := n3_; clear n0_ n1_ n2_ n3_; (try clear hb); (try clear hb2); (try clear hk); (try clear hi); (try clear ho0); (try clear ho1); obtain ⟨Ao58, co58, eo58⟩ := Kd.R_slice HO750.out; subst eo58))
        go_ret
        exact ⟨by first | rfl | (simp [errW_none, errW_some] <;> rfl) | (simp [*, errW_none, errW_some] <;> rfl), by repeat (first | (with_reducible first | exact HB.out | apply below_alloc | apply pw_below_drewN | apply below_drew1 | refine below_set ?_ GE743.out) | exact HB.out)⟩
  · replace c3 := Bool.eq_false_iff.mpr c3
    subst c3
    have H1 : (some false) = some r := by rw [if_neg (show ¬ (false = true) by decide)] at H; exact H
    clear H
    have H := H1
    clear H1
    obtain rfl := Option.some.inj H
    go_enter Tryd.func13, Tryd.ntmps13
    go_wp2_with (first | ((with_reducible refine gate_dst (N := 1) rfl ?_); (try (refine gate_guard (by rfl) ?_; dsimp only)); refine box_event ?hg (N := 1) ?hd (cs := #[.slice A0_0 l0_0.length c0_0, .slice A0_1 l0_1.length c0_1, .int .u32 a0_2]) (t := 41) ?hr ?_; (case hd => rfl); (case hg => rfl); (case hr => first | (go_simp; done) | (go_simp; rfl)); intro gb743 hg w59 hbox hb; have n0_ := Aside0.mk (below_step (by repeat (first | (with_reducible first | exact HB.out | apply below_alloc | apply pw_below_drewN | apply below_drew1) | exact HB.out)) hb); have n1_ := Aside0.mk (hbox); have n2_ := Aside0.mk ((by rw [hg]; exact (below_size (by repeat (first | (with_reducible first | exact HB.out | apply below_alloc | apply pw_below_drewN | apply below_drew1) | exact HB.out))) : w.heap.size ≤ gb743)); have n3_ := Aside0.mk ((by rw [hg]; exact (below_size (by repeat (first | (with_reducible first | exact HB.out | apply below_alloc | apply pw_below_drewN | apply below_drew1) | exact HB.out))) : w.heap.size ≤ gb743)); clear HB; have HB := n0_; have BK743 := n1_; have GW743 := n2_; have GE743 := n3_; clear n0_ n1_ n2_ n3_; clear hb hbox hg) | ((with_reducible refine gate_callee (f := 18) rfl ?_); refine goesL_ (some 15) rfl rfl Tryd.func18 (by kernel_rfl) rfl #[] rfl (by (try simp only [List.map_toArray, List.map_cons, List.map_nil]); first | done | rfl | (simp only [List.length_drop, List.length_take]; rfl)) ?_; (with_reducible refine (mainsheetlaw19_wakes.calls  false _ ?tb A2.out).mono ?_); (case tb => exact HT.out.step (by repeat (first | (with_reducible first | exact HB.out | apply below_alloc | apply pw_below_drewN | apply below_drew1 | refine below_set ?_ GE743.out) | exact HB.out))); rintro e w60 ⟨rfl, hb⟩; refine ⟨_, rfl, ?_⟩; have n0_ := Aside0.mk (blk_below (g := gb743) (o := .cells #[.slice A0_0 l0_0.length c0_0, .slice A0_1 l0_1.length c0_1, .int .u32 a0_2] 41 (0, 0)) (by (with_reducible repeat (first | refine blk_drewN ?_ _ | refine blk_drew ?_ | refine blk_alloc ?_ _)); exact BK743.out) hb); have n1_ := Aside0.mk (below_step (by repeat (first | (with_reducible first | exact HB.out | apply below_alloc | apply pw_below_drewN | apply below_drew1 | refine below_set ?_ GE743.out) | exact HB.out)) hb); clear BK743; clear HB; have BK743 := n0_; have HB := n1_; clear n0_ n1_; (try clear hb); (try clear hb2); (try clear hk); (try clear hi)))
    go_ret
    exact ⟨by first | rfl | (simp [errW_none, errW_some] <;> rfl) | (simp [*, errW_none, errW_some] <;> rfl), by repeat (first | (with_reducible first | exact HB.out | apply below_alloc | apply pw_below_drewN | apply below_drew1 | refine below_set ?_ GE743.out) | exact HB.out)⟩

end Go.Proofs.YtdmieaidheelbaaDoor.Q
end
/- PurePickWaits -/
section
/- PickWaits, the plain law. -/
namespace Go.Proofs.YtdmieaidheelbaaDoor.Q
open Go Go.RowKit Go.Proofs.YtdmieaidheelbaaDoorW.PrintWords Go.Proofs.YtdmieaidheelbaaDoorW.PrintLast Go.Proofs.YtdmieaidheelbaaDoorW.PrintMore
set_option linter.unusedVariables false
set_option linter.unusedSimpArgs false

theorem may_bit (h s p b : Nat) (hp : p < 256) : (allowsN h s p).testBit b = (maskOk h s && h.testBit b && p.testBit b) := by
  unfold allowsN
  cases hm : maskOk h s with
  | true => simp [hp]
  | false => simp
theorem shl_bit (c : Int) (h0 : 0 ≤ c) (h8 : c < 8) : shl .u32 1 c = ((2 ^ c.toNat : Nat) : Int) := by
  have := shl_one c.toNat (by omega)
  rwa [show ((c.toNat : Nat) : Int) = c by omega] at this
section
variable {l : List Ent} {w : List S36} {free : Nat}
theorem waits_inner (hs : Shape l w) (hwl : w.length ≤ 60) (puts : List S31) (hputs : puts = pickPuts (pickTurns w free l)) (hpl : puts.length ≤ 1000000) (i : Nat) (hi : i < l.length) (a : Int) (p : Option (List Int)) (hp : p = atOf w (freeAt w free l i) l[i]) (K : Nat)
    (hnext : ∀ k, K ≤ k → ∀ A', A' = orRow 0 [] → True) (d : Nat) : ∀ (k j A : Nat), j + d = l[i].f0.length → A < 256 → K + d + 1 ≤ k →
    (∀ k', K ≤ k' → mainsheetlaw19_PickWaits.l0 k' puts ((orRow A ((p.getD []).drop j) : Nat) : Int) l (l.length : Int) (wrap64 ((i : Int) + 1)) l w a = some true) →
    mainsheetlaw19_PickWaits.l1 k puts (A : Int) l (l.length : Int) (i : Int) l[i].f0 (l[i].f0.length : Int) (j : Int) l w a = some true := by
  have hlen := (hs.len l[i] (List.getElem_mem hi)).2
  induction d with
  | zero =>
    intro k j A hj hA hk hn
    obtain ⟨k, rfl⟩ : ∃ m, k = m + 1 := ⟨k - 1, by omega⟩
    rw [mainsheetlaw19_PickWaits.l1, if_neg (by omega)]
    have := hn k (by omega)
    have hd : (p.getD []).drop j = [] := by
      refine List.drop_eq_nil_of_le ?_
      cases hq : p with
      | none => simp
      | some m => rw [hp] at hq; have := (took hs _ (List.getElem_mem hi) _ m hq).len; simp; omega
    rw [hd] at this
    exact this
  | succ d ih =>
    intro k j A hj hA hk hn
    obtain ⟨k, rfl⟩ : ∃ m, k = m + 1 := ⟨k - 1, by omega⟩
    have hjl : j < l[i].f0.length := by omega
    have hon := on_at hs free i hi j hjl
    rw [← hputs, ← hp] at hon
    rw [mainsheetlaw19_PickWaits.l1, if_pos (by omega), if_pos (by omega), if_pos (by omega), rd_eq _ _ hjl, On_val puts hpl, Option.bind_some, hon, w64 _ (by omega) (by omega), show (j : Int) + 1 = ((j + 1 : Nat) : Int) by omega]
    cases hq : p with
    | none =>
      subst hq
      simp only [Bool.false_eq_true, if_false]
      exact ih k (j + 1) A (by omega) hA (by omega) (fun k' hk' => by have := hn k' hk'; simpa using this)
    | some m =>
      subst hq
      have ht := took hs _ (List.getElem_mem hi) _ m hp.symm
      have hjm : j < m.length := by rw [ht.len]; exact hjl
      have hr := took_range ht _ (List.getElem_mem hjm)
      have hg : m.getD j 0 = m[j] := by simp [List.getD_eq_getElem?_getD, hjm]
      have hpw := pow_lt256 m[j].toNat (by omega)
      simp only [if_true]
      rw [hg, if_pos hr.1, shl_bit _ hr.1 hr.2, or_nat _ _ (by omega) (by omega)]
      refine ih k (j + 1) _ (by omega) (or_lt256 _ _ hA hpw) (by omega) (fun k' hk' => ?_)
      have := hn k' hk'
      rw [Option.getD_some, List.drop_eq_getElem_cons hjm] at this
      exact this
theorem waits_outer (hs : Shape l w) (hll : l.length ≤ 40) (hwl : w.length ≤ 60) (hwf : ∀ x ∈ w, Wf36 x) (hf : free < 256) (puts : List S31) (hputs : puts = pickPuts (pickTurns w free l)) (hpl : puts.length ≤ 1000000) (d : Nat) :
    ∀ (k i A : Nat), i + d = l.length → d * 20 + 100 ≤ k → A < 256 → (∀ b, b < 8 → (freeAt w free l i).testBit b = (free.testBit b && !A.testBit b)) →
    mainsheetlaw19_PickWaits.l0 k puts (A : Int) l (l.length : Int) (i : Int) l w (free : Int) = some true := by
  induction d with
  | zero =>
    intro k i A hi hk hA hb
    obtain ⟨k, rfl⟩ : ∃ m, k = m + 1 := ⟨k - 1, by omega⟩
    rw [mainsheetlaw19_PickWaits.l0, if_neg (by omega)]
  | succ d ih =>
    intro k i A hi hk hA hb
    obtain ⟨k, rfl⟩ : ∃ m, k = m + 2 := ⟨k - 2, by omega⟩
    have hil : i < l.length := by omega
    have hm := List.getElem_mem hil
    obtain ⟨h1, h8⟩ := hs.len _ hm
    have hfl := freeAt_lt w l free i hf
    have hon := on_at hs free i hil 0 (by omega)
    rw [← hputs] at hon
    -- the members' round, and the rest
    have hgo : mainsheetlaw19_PickWaits.j1 (k + 1) puts (A : Int) l (l.length : Int) (i : Int) false l w (free : Int) l[i].f0 l[i].f1.f0.f0 l[i].f1.f0.f1 l[i].f1.f1 l[i].f2 l[i].f3 = some true := by
      rw [mainsheetlaw19_PickWaits.j1, if_neg (by simp)]
      refine waits_inner hs hwl puts hputs hpl i hil free _ rfl (d * 20 + 100) (fun _ _ _ _ => trivial) l[i].f0.length k 0 A (by omega) hA (by omega) (fun k' hk' => ?_)
      have hmr : ∀ c ∈ (atOf w (freeAt w free l i) l[i]).getD [], 0 ≤ c ∧ c < 8 := by
        cases hq : atOf w (freeAt w free l i) l[i] with
        | none => simp
        | some m => exact took_range (took hs _ hm _ m hq)
      rw [w64 _ (by omega) (by omega), show (i : Int) + 1 = ((i + 1 : Nat) : Int) by omega, List.drop_zero]
      refine ih k' (i + 1) _ (by omega) hk' (orRow_bit _ hmr A 0 hA (by omega)).2 (fun b hb8 => ?_)
      rw [freeAt_succ w l free i hil, lessAll_bit _ hmr _ _ hb8, hb b hb8, (orRow_bit _ hmr A b hA hb8).1, Bool.not_or, Bool.and_assoc]
    have hr0 : rd l[i].f0 0 = l[i].f0[0]'(by omega) := rd_eq l[i].f0 0 (by omega)
    rw [mainsheetlaw19_PickWaits.l0, if_pos (by omega), if_pos (by omega), if_pos (by omega), rd90_eq l i hil, if_pos (by omega), hr0, On_val puts hpl, Option.bind_some, hon]
    cases hq : atOf w (freeAt w free l i) l[i] with
    | some m =>
      simp only [if_true]
      exact hgo
    | none =>
      simp only [Bool.false_eq_true, if_false]
      by_cases hone : ((l[i].f0.length : Nat) : Int) = 1
      · rw [if_pos hone]
        obtain ⟨v, hv⟩ := List.length_eq_one_iff.1 (show l[i].f0.length = 1 by omega)
        have hv0 : l[i].f0[0]'(by omega) = v := by simp [hv]
        have hz := waits_one hs _ hm _ hq v hv
        have hvm : v ∈ members l := List.mem_flatMap.2 ⟨l[i], hm, by rw [hv]; simp⟩
        have hwo := (wishOf_mem hs v hvm).1
        obtain ⟨w1, w2, w3, w4⟩ := hwf _ hwo
        have hA' := Allows_val (wishOf w v).f2.f0.toNat (wishOf w v).f2.f1.toNat free (by omega) (by omega) (by omega) (k + 1) (by omega)
        rw [show (((wishOf w v).f2.f0.toNat : Nat) : Int) = (wishOf w v).f2.f0 by omega, show (((wishOf w v).f2.f1.toNat : Nat) : Int) = (wishOf w v).f2.f1 by omega] at hA'
        rw [hv0, wish_val l w _ v (by omega) (k + 1) (by omega), Option.bind_some, hA', Option.bind_some, Within_val _ A (allowsN_lt _ _ _) hA (fun b hb8 hbit => ?_), Option.bind_some]
        · exact hgo
        · unfold mayN at hz
          have h3 := may_bit (wishOf w v).f2.f0.toNat (wishOf w v).f2.f1.toNat (freeAt w free l i) b hfl
          rw [hz, hb b hb8] at h3
          rw [may_bit _ _ _ _ hf] at hbit
          simp only [Bool.and_eq_true] at hbit
          rw [hbit.1.1, hbit.1.2, hbit.2] at h3
          simpa using h3.symm
      · rw [if_neg hone]
        exact hgo
end
theorem pure_PickWaits (l : List Ent) (w : List S36) (a : Int) (hwf : ∀ x ∈ w, Wf36 x) (h0 : 0 ≤ a) (h1 : a < 4294967296) : ∃ k, mainsheetlaw19_PickWaits.f k l w a = some true := by
  refine ⟨1000, ?_⟩
  unfold mainsheetlaw19_PickWaits.f
  rw [wakes19, Option.bind_some, if_pos rfl]
  rcases over_val l w a 1000 (by omega) with ho | ⟨ho, hl, hw, hm⟩
  · rw [ho, Option.bind_some, if_pos rfl]
  · rw [ho, Option.bind_some, if_neg (by simp)]
    have hok : okPickArgs l w a := ⟨⟨hwf, by omega, by omega⟩, h0, h1⟩
    have hP : pick_Pick.f l w a = some (if askedP l w a = 0 then (pickPuts (pickTurns w a.toNat l), pickWaits (pickTurns w a.toNat l), 0) else ([], [], askedP l w a)) := by unfold pick_Pick.f; exact if_pos hok
    rw [hP, Option.bind_some]
    by_cases he : askedP l w a = 0
    · rw [if_pos he, if_pos rfl]
      obtain ⟨hc, ha⟩ := askedP_ok.1 he
      obtain ⟨hs, hpc⟩ := (pickCheck_zero l w).1 hc
      have hpl := (pickPuts_le (pickTurns w a.toNat l)).1
      rw [turns_fst, ← hs.count] at hpl
      have hcast : ((a.toNat : Nat) : Int) = a := by omega
      have := waits_outer hs hl hw hwf (show a.toNat < 256 by omega) _ rfl (by omega) l.length 1000 0 0 (by omega) (by omega) (by omega) (fun b hb => by rw [freeAt_zero]; simp)
      rw [hcast] at this
      exact this
    · rw [if_neg he, if_neg (by simpa using he)]
      rfl
end Go.Proofs.YtdmieaidheelbaaDoor.Q
end
/- OpenPick -/
section
/- What a law of layer 19 is handed: a wish, and an ask (its two rows and the free pCPUs), opened to the words of the walks. -/
namespace Go.Proofs.YtdmieaidheelbaaDoor.Q
open Go Go.ChangeShapes Go.WideShapes Go.ChangeAt Go.RowKit
set_option linter.unusedVariables false
set_option maxRecDepth 100000
open Go.Proofs.YtdmieaidheelbaaDoorW.PrintWords
section
variable {H : Type} {enc : TypeId × Value → H} {w : World} {base : Nat} {spare : Nat → Bool} {held : Bool}
theorem three_of {α : Type} {l : List α} (h : l.length = 3) : ∃ a b c, l = [a, b, c] := by
  match l, h with
  | [a, b, c], _ => exact ⟨a, b, c, rfl⟩
theorem open_row {α : Type} {t e : TypeId} {d : Kd α} {Wf : α → Prop} (ht : Tryd.prog.underlying t = some (.slice e)) (hC : Tryd.prog.cellsOf e = d.sz) (hE : Elem enc w base spare held e d Wf)
    {fuel : Nat} {c : Value} {x : DataW H × List MemPlace} (h : DataW.trod enc Tryd.prog w base spare held fuel t [c] = some x) :
    ∃ (A : Option Addr) (l : List α) (cap : Nat), c = .slice A l.length cap ∧ l.length ≤ cap ∧ Kd.C d w A l.length l ∧ ∀ y ∈ l, Wf y := by
  obtain ⟨A, len, cap, rfl⟩ : ∃ A len cap, c = .slice A len cap := by
    rcases Go.Deep.open_slice ht h with ⟨e, _⟩ | ⟨a, l, c, _, _, _, _, e, _⟩
    · injection e with e; exact ⟨_, _, _, e⟩
    · injection e with e; exact ⟨_, _, _, e⟩
  obtain ⟨l, hml, hcap, hC, hw⟩ := rowOf ht hC hE h
  subst hml
  exact ⟨A, l, cap, rfl, hcap, hC, hw⟩
theorem open_ask {v : Value} {b2 : Nat} {d : DataW H} {p : List MemPlace} (ok : Value.okWide Tryd.prog w .any b2 41 v) (h : DataW.Trod enc Tryd.prog w base spare held 41 v d p) :
    ∃ (A : Option Addr) (l : List S90) (c : Nat) (B : Option Addr) (m : List S36) (b : Nat) (a : Int), v = .agg #[.slice A l.length c, .slice B m.length b, .int .u32 a] ∧ l.length ≤ c ∧ m.length ≤ b ∧ Kd.C k90 w A l.length l ∧ Kd.C k36 w B m.length m ∧ (∀ x ∈ m, Wf36 x) ∧ (Lit.int .u32 a).wf = true := by
  obtain ⟨cs, rfl, hsz⟩ := okWide_struct Tryd.underlying41 ok
  obtain ⟨fuel, hf⟩ := h
  obtain ⟨xs, n, _, _, hlen, hxl, hg⟩ := DataW.trod_struct Tryd.underlying41 hf
  have hc : Tryd.prog.cellsOf 41 = 3 := by kernel_rfl
  have ce : Tryd.prog.cellsOf 39 = 1 := by kernel_rfl
  have cw : Tryd.prog.cellsOf 22 = 1 := by kernel_rfl
  have cu : Tryd.prog.cellsOf 24 = 1 := by kernel_rfl
  have c1 : Tryd.prog.cellsOf 90 = k90.sz := by kernel_rfl
  have c2 : Tryd.prog.cellsOf 36 = k36.sz := by kernel_rfl
  obtain ⟨c0, c1', c2', hcs⟩ := three_of (hlen.trans hc)
  have hcs' : cs.toList = [c0, c1', c2'] := hcs
  rw [show (Value.agg cs).cells.toList = [c0, c1', c2'] from hcs] at hg
  have h0 : DataW.trod enc Tryd.prog w base spare held n 39 (([c0, c1', c2'].drop 0).take (Tryd.prog.cellsOf 39)) = xs[0]? := hg 0 _ rfl
  rw [ce] at h0
  have h1 : DataW.trod enc Tryd.prog w base spare held n 22 (([c0, c1', c2'].drop 1).take (Tryd.prog.cellsOf 22)) = xs[1]? := hg 1 _ rfl
  rw [cw] at h1
  have h2 : DataW.trod enc Tryd.prog w base spare held n 24 (([c0, c1', c2'].drop 2).take (Tryd.prog.cellsOf 24)) = xs[2]? := hg 2 _ rfl
  rw [cu] at h2
  have hx2 : xs.length = 3 := hxl
  obtain ⟨a, rfl, wa⟩ := int_field (by omega) Tryd.underlying24 h2
  rw [List.getElem?_eq_getElem (by omega)] at h0 h1
  obtain ⟨A, l, c, rfl, hlc, hC, _⟩ := open_row Tryd.underlying39 c1 elem_entity h0
  obtain ⟨B, m, b, rfl, hmb, hD, hw⟩ := open_row Tryd.underlying22 c2 elem_wish h1
  refine ⟨A, l, c, B, m, b, a, ?_, hlc, hmb, hC, hD, hw, wa⟩
  obtain ⟨q⟩ := cs
  simp only at hcs'
  rw [hcs']
end
end Go.Proofs.YtdmieaidheelbaaDoor.Q
end
