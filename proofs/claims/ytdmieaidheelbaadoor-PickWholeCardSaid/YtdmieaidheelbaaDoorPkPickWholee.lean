/- Texts of the proof of PickWhole, joined. -/
import Derived.Test.YtdmieaidheelbaaDoorPkPickWholed
/- QFpickIdle -/
section
-- Written by a program of this session (hprint.py), which drives the kit's print over hand-proved contracts. Lean checks it.
namespace Go.Proofs.YtdmieaidheelbaaDoor.Q
open Go.RowKit Go.Proofs.YtdmieaidheelbaaDoorW.PrintWords Go.Proofs.YtdmieaidheelbaaDoorW.PrintLast Go.Proofs.YtdmieaidheelbaaDoorW.PrintMore
attribute [local go_sem] max2_int min2_int max_two min_two max_three min_three max_four min_four   -- for this text's walks alone
set_option linter.unusedVariables false
set_option linter.unusedSimpArgs false

/-! ### pick_Idle: function 25 -/
mutual
def pick_Idle.l0 : Nat → List (S36) → Int → List (S31) → Int → List (S90) → Int → Int → Option (List Int × Int)
  | 0, _, _, _, _, _, _, _ => none
  | k + 1, x1, x2, x3, x11, x25, x26, x27 => if x27 < x26 then (if 0 ≤ x27 then (if x27 < (x25.length : Int) then (if 0 < (((rd_T90 x25 x27).f0).length : Int) then ((pick_On.f x3 (rd ((rd_T90 x25 x27).f0) 0)).bind fun bt365 => (if (((rd_T90 x25 x27).f0).length : Int) = 1 then (pick_Idle.j1 k x1 x2 x3 x11 x25 x26 x27 (!bt365.2) ((rd_T90 x25 x27).f0) ((rd_T90 x25 x27).f1.f0.f0) ((rd_T90 x25 x27).f1.f0.f1) ((rd_T90 x25 x27).f1.f1) ((rd_T90 x25 x27).f2) ((rd_T90 x25 x27).f3)) else (pick_Idle.j1 k x1 x2 x3 x11 x25 x26 x27 false ((rd_T90 x25 x27).f0) ((rd_T90 x25 x27).f1.f0.f0) ((rd_T90 x25 x27).f1.f0.f1) ((rd_T90 x25 x27).f1.f1) ((rd_T90 x25 x27).f2) ((rd_T90 x25 x27).f3)))) else (none)) else (none)) else (none)) else (pick_Idle.l1 k x11 x3 (x3.length : Int) 0)
def pick_Idle.j1 : Nat → List (S36) → Int → List (S31) → Int → List (S90) → Int → Int → Bool → List Int → Int → Int → Int → Int → Bool → Option (List Int × Int)
  | 0, _, _, _, _, _, _, _, _, _, _, _, _, _, _ => none
  | k + 1, x1, x2, x3, x11, x25, x26, x27, x47, x364000, x364001, x364002, x364003, x364004, x364005 => if x47 = true then ((pick_wishes.f k x1 x364000).bind fun t367 => (if 0 < (t367.length : Int) then ((mask_Allows.f k ((rd_T36 t367 0).f2.f0) ((rd_T36 t367 0).f2.f1) x2).bind fun t371 => (pick_Idle.l0 k x1 x2 x3 (Go.bits .or .u32 x11 t371) x25 x26 (wrap64 (x27 + 1)))) else (none))) else (pick_Idle.l0 k x1 x2 x3 x11 x25 x26 (wrap64 (x27 + 1)))
def pick_Idle.l1 : Nat → Int → List (S31) → Int → Int → Option (List Int × Int)
  | 0, _, _, _, _ => none
  | k + 1, x11, x60, x61, x62 => if x62 < x61 then (if 0 ≤ x62 then (if x62 < (x60.length : Int) then (if ((rd_T31 x60 x62).f1) ≥ 0 then (if ((rd_T31 x60 x62).f1) < 8 then (if 0 ≤ ((rd_T31 x60 x62).f1) then (pick_Idle.l1 k (Go.bits .andNot .u32 x11 (shl .u32 1 ((rd_T31 x60 x62).f1))) x60 x61 (wrap64 (x62 + 1))) else (none)) else (pick_Idle.l1 k x11 x60 x61 (wrap64 (x62 + 1)))) else (pick_Idle.l1 k x11 x60 x61 (wrap64 (x62 + 1)))) else (none)) else (none)) else ((cpuset_List.f x11).bind fun t374 => (some (t374, 0)))
end
def pick_Idle.f (k : Nat) (l0 : List (S90)) (l1 : List (S36)) (a2 : Int) (l3 : List (S31)) : Option (List Int × Int) := (pick_asked.f l0 l1 a2).bind fun t361 => (if t361 = 0 then (pick_Idle.l0 k l1 a2 l3 0 l0 (l0.length : Int) 0) else (some (([] : List Int), t361)))
theorem pick_Idle.mono_l : ∀ k, (∀ y0 y1 y2 y3 y4 y5 y6, LeO (pick_Idle.l0 k y0 y1 y2 y3 y4 y5 y6) (pick_Idle.l0 (k + 1) y0 y1 y2 y3 y4 y5 y6)) ∧ (∀ y0 y1 y2 y3 y4 y5 y6 y7 y8 y9 y10 y11 y12 y13, LeO (pick_Idle.j1 k y0 y1 y2 y3 y4 y5 y6 y7 y8 y9 y10 y11 y12 y13) (pick_Idle.j1 (k + 1) y0 y1 y2 y3 y4 y5 y6 y7 y8 y9 y10 y11 y12 y13)) ∧ (∀ y0 y1 y2 y3, LeO (pick_Idle.l1 k y0 y1 y2 y3) (pick_Idle.l1 (k + 1) y0 y1 y2 y3))
  | 0 => ⟨fun _ _ _ _ _ _ _ r h => by simp [pick_Idle.l0] at h, fun _ _ _ _ _ _ _ _ _ _ _ _ _ _ r h => by simp [pick_Idle.j1] at h, fun _ _ _ _ r h => by simp [pick_Idle.l1] at h⟩
  | k + 1 => by
    obtain ⟨ih0, ih1, ih2⟩ := pick_Idle.mono_l k
    refine ⟨?_, ?_, ?_⟩
    · intro y0 y1 y2 y3 y4 y5 y6
      unfold pick_Idle.l0
      repeat' first
      | (with_reducible exact ih0 _ _ _ _ _ _ _)
      | (with_reducible exact ih1 _ _ _ _ _ _ _ _ _ _ _ _ _ _)
      | (with_reducible exact ih2 _ _ _ _)
      | (with_reducible exact mask_Allows.mono _ _ _ _)
      | (with_reducible exact pick_wishes.mono _ _ _)
      | (with_reducible exact LeO.refl _)
      | (with_reducible exact LeO.none _)
      | (with_reducible refine LeO.ite ?_ ?_)
      | (with_reducible refine LeO.bind ?_ (fun _ => ?_))
      | exact ih0 _ _ _ _ _ _ _
      | exact ih1 _ _ _ _ _ _ _ _ _ _ _ _ _ _
      | exact ih2 _ _ _ _
      | exact mask_Allows.mono _ _ _ _
      | exact pick_wishes.mono _ _ _
      | exact LeO.none _
      | refine LeO.ite ?_ ?_
      | refine LeO.bind ?_ (fun _ => ?_)
    · intro y0 y1 y2 y3 y4 y5 y6 y7 y8 y9 y10 y11 y12 y13
      unfold pick_Idle.j1
      repeat' first
      | (with_reducible exact ih0 _ _ _ _ _ _ _)
      | (with_reducible exact ih1 _ _ _ _ _ _ _ _ _ _ _ _ _ _)
      | (with_reducible exact ih2 _ _ _ _)
      | (with_reducible exact mask_Allows.mono _ _ _ _)
      | (with_reducible exact pick_wishes.mono _ _ _)
      | (with_reducible exact LeO.refl _)
      | (with_reducible exact LeO.none _)
      | (with_reducible refine LeO.ite ?_ ?_)
      | (with_reducible refine LeO.bind ?_ (fun _ => ?_))
      | exact ih0 _ _ _ _ _ _ _
      | exact ih1 _ _ _ _ _ _ _ _ _ _ _ _ _ _
      | exact ih2 _ _ _ _
      | exact mask_Allows.mono _ _ _ _
      | exact pick_wishes.mono _ _ _
      | exact LeO.none _
      | refine LeO.ite ?_ ?_
      | refine LeO.bind ?_ (fun _ => ?_)
    · intro y0 y1 y2 y3
      unfold pick_Idle.l1
      repeat' first
      | (with_reducible exact ih0 _ _ _ _ _ _ _)
      | (with_reducible exact ih1 _ _ _ _ _ _ _ _ _ _ _ _ _ _)
      | (with_reducible exact ih2 _ _ _ _)
      | (with_reducible exact mask_Allows.mono _ _ _ _)
      | (with_reducible exact pick_wishes.mono _ _ _)
      | (with_reducible exact LeO.refl _)
      | (with_reducible exact LeO.none _)
      | (with_reducible refine LeO.ite ?_ ?_)
      | (with_reducible refine LeO.bind ?_ (fun _ => ?_))
      | exact ih0 _ _ _ _ _ _ _
      | exact ih1 _ _ _ _ _ _ _ _ _ _ _ _ _ _
      | exact ih2 _ _ _ _
      | exact mask_Allows.mono _ _ _ _
      | exact pick_wishes.mono _ _ _
      | exact LeO.none _
      | refine LeO.ite ?_ ?_
      | refine LeO.bind ?_ (fun _ => ?_)
theorem pick_Idle.mono : ∀ a0 a1 a2 a3 k, LeO (pick_Idle.f k a0 a1 a2 a3) (pick_Idle.f (k + 1) a0 a1 a2 a3) := by
  intro a0 a1 a2 a3 k
  obtain ⟨ih0, ih1, ih2⟩ := pick_Idle.mono_l k
  unfold pick_Idle.f
  repeat' first
      | (with_reducible exact ih0 _ _ _ _ _ _ _)
      | (with_reducible exact ih1 _ _ _ _ _ _ _ _ _ _ _ _ _ _)
      | (with_reducible exact ih2 _ _ _ _)
      | (with_reducible exact mask_Allows.mono _ _ _ _)
      | (with_reducible exact pick_wishes.mono _ _ _)
      | (with_reducible exact LeO.refl _)
      | (with_reducible exact LeO.none _)
      | (with_reducible refine LeO.ite ?_ ?_)
      | (with_reducible refine LeO.bind ?_ (fun _ => ?_))
      | exact ih0 _ _ _ _ _ _ _
      | exact ih1 _ _ _ _ _ _ _ _ _ _ _ _ _ _
      | exact ih2 _ _ _ _
      | exact mask_Allows.mono _ _ _ _
      | exact pick_wishes.mono _ _ _
      | exact LeO.none _
      | refine LeO.ite ?_ ?_
      | refine LeO.bind ?_ (fun _ => ?_)
set_option maxHeartbeats 8000000 in
set_option maxRecDepth 100000 in
theorem pick_Idle.calls (k : Nat) (A0 : Option Addr) (c0 : Nat) (l0 : List (S90)) (A1 : Option Addr) (c1 : Nat) (l1 : List (S36)) (a2 : Int) (A3 : Option Addr) (c3 : Nat) (l3 : List (S31)) (r1 : List Int) (r2 : Int) (w : World) (hr0 : Kd.C k90 w A0 l0.length l0) (hc0 : l0.length ≤ c0) (hr1 : Kd.C k36 w A1 l1.length l1) (hc1 : l1.length ≤ c1) (hr3 : Kd.C k31 w A3 l3.length l3) (hc3 : l3.length ≤ c3) (hT : TabW w) (h : pick_Idle.f k l0 l1 a2 l3 = some (r1, r2)) :
    Calls Tryd.prog 25 #[.slice A0 l0.length c0, .slice A1 l1.length c1, .int .u32 a2, .slice A3 l3.length c3] w fun e w' => ∃ v0_ : Value, e = .returned (.tuple #[v0_, .int .i64 r2]) ∧ Kd.R (Kd.int .i64) 3 w' w.heap.size (fun _ => True) v0_ r1 ∧ Below w.heap.size w w' := by
  have HT := Aside0.mk hT
  clear hT
  have hu90 := Tryd.underlying90
  have hu34 := Tryd.underlying34
  have hu31 := Tryd.underlying31
  have HR0 := Aside0.mk hr0
  have HC0 := Aside0.mk hc0
  clear hr0 hc0
  have HR1 := Aside0.mk hr1
  have HC1 := Aside0.mk hc1
  clear hr1 hc1
  have HR3 := Aside0.mk hr3
  have HC3 := Aside0.mk hc3
  clear hr3 hc3
  have HB := Aside0.mk (Below.refl w.heap.size w)
  have H : ((pick_asked.f l0 l1 a2).bind fun t361 => (if t361 = 0 then (pick_Idle.l0 k l1 a2 l3 0 l0 (l0.length : Int) 0) else (some (([] : List Int), t361)))) = some (r1, r2) := h
  clear h
  replace H := Option.bind_eq_some_iff.mp H
  obtain ⟨t361, A50, H⟩ := H
  replace H : (if t361 = 0 then (pick_Idle.l0 k l1 a2 l3 0 l0 (l0.length : Int) 0) else (some (([] : List Int), t361))) = some (r1, r2) := H
  have A5 := Aside0.mk A50
  clear A50
  by_cases c6 : t361 = 0
  · rw [if_pos c6] at H
    have c6b0 : (t361 == 0) = true := beq_iff_eq.mpr c6
    have c6b1 : (t361 != 0) = false := bne_eq_false_iff_eq.mpr c6
    clear c6
    have H' := Aside0.mk H
    clear H
    go_enter Tryd.func25, Tryd.ntmps25
    go_wp2_with (first | ((with_reducible refine gate_callee (f := 60) rfl ?_); refine goesL_ (some 21) rfl rfl Tryd.func60 (by kernel_rfl) rfl #[.slice A0 l0.length c0, .slice A1 l1.length c1, .int .u32 a2] rfl (by (try simp only [List.map_toArray, List.map_cons, List.map_nil]); first | done | rfl | (simp only [List.length_drop, List.length_take]; rfl)) ?_; (with_reducible refine (pick_asked.calls _ _ l0 _ _ l1 a2 t361 _ ?side1 ?side2 ?side3 ?side4 A5.out).mono ?_); (case side1 => repeat (first | exact HR0.out | (with_reducible refine Kd.C_alloc ?_ _) | (with_reducible refine Kd.C_drewN ?_ _) | (with_reducible refine Kd.C_drew ?_))); (case side2 => exact HC0.out); (case side3 => repeat (first | exact HR1.out | (with_reducible refine Kd.C_alloc ?_ _) | (with_reducible refine Kd.C_drewN ?_ _) | (with_reducible refine Kd.C_drew ?_))); (case side4 => exact HC1.out); rintro e w7 ⟨rfl, hb⟩; refine ⟨_, rfl, ?_⟩; have n0_ := Aside0.mk (below_step (by repeat (first | (with_reducible first | exact HB.out | apply below_alloc | apply pw_below_drewN | apply below_drew1) | exact HB.out)) hb); clear HB; have HB := n0_; clear n0_; (try clear hb); (try clear hb2); (try clear hk); (try clear hi)))
    go_loopg [11, 27] k (fun kq v11 v27 w' => ∃ (x11_1 : Int) (x27_1 : Int), v11 = .int .u32 x11_1 ∧ v27 = .int .i64 x27_1 ∧ Aside0 (pick_Idle.l0 kq l1 a2 l3 x11_1 l0 (l0.length : Int) x27_1 = some (r1, r2)) ∧ Aside0 (kq ≤ k) ∧ Aside0 (Below w.heap.size w w'))
    case atStart => exact ⟨(0), (0), (by first | rfl | (simp; done) | (simp [*]; done)), (by first | rfl | (simp; done) | (simp [*]; done)), H', ⟨Nat.le_refl _⟩, ⟨by repeat (first | (with_reducible first | exact HB.out | apply below_alloc | apply pw_below_drewN | apply below_drew1) | exact HB.out)⟩⟩
    case round =>
      clear H'
      try clear c1
      try clear c2
      try clear p2
      try clear c3
      try clear c6
      try clear c6b0
      try clear c6b1
      obtain ⟨x11_1, x27_1, rfl, rfl, HA, HK1, HB⟩ := hrel
      cases gk with
      | zero => exact absurd HA.out (by simp [pick_Idle.l0])
      | succ k1 =>
        have H := HA.out
        clear HA
        simp only [pick_Idle.l0] at H
        by_cases c8 : x27_1 < (l0.length : Int)
        · rw [if_pos c8] at H
          have c8b0 : decide (x27_1 < (l0.length : Int)) = true := decide_eq_true c8
          clear c8
          by_cases c9 : 0 ≤ x27_1
          · rw [if_pos c9] at H
            have c9b0 : decide (0 ≤ x27_1) = true := decide_eq_true c9
            clear c9
            by_cases c10 : x27_1 < (l0.length : Int)
            · rw [if_pos c10] at H
              have c10b0 : decide (x27_1 < (l0.length : Int)) = true := decide_eq_true c10
              clear c10
              by_cases c11 : 0 < (((rd_T90 l0 x27_1).f0).length : Int)
              · rw [if_pos c11] at H
                have c11b0 : decide (0 < (((rd_T90 l0 x27_1).f0).length : Int)) = true := decide_eq_true c11
                have c11b1 : decide (0 < ((rd_T90 l0 x27_1).f0).length) = true := decide_eq_true (by omega)
                clear c11
                replace H := Option.bind_eq_some_iff.mp H
                obtain ⟨⟨t365, t366⟩, A120, H⟩ := H
                replace H : (if (((rd_T90 l0 x27_1).f0).length : Int) = 1 then (pick_Idle.j1 k1 l1 a2 l3 x11_1 l0 (l0.length : Int) x27_1 (!t366) ((rd_T90 l0 x27_1).f0) ((rd_T90 l0 x27_1).f1.f0.f0) ((rd_T90 l0 x27_1).f1.f0.f1) ((rd_T90 l0 x27_1).f1.f1) ((rd_T90 l0 x27_1).f2) ((rd_T90 l0 x27_1).f3)) else (pick_Idle.j1 k1 l1 a2 l3 x11_1 l0 (l0.length : Int) x27_1 false ((rd_T90 l0 x27_1).f0) ((rd_T90 l0 x27_1).f1.f0.f0) ((rd_T90 l0 x27_1).f1.f0.f1) ((rd_T90 l0 x27_1).f1.f1) ((rd_T90 l0 x27_1).f2) ((rd_T90 l0 x27_1).f3))) = some (r1, r2) := H
                have A12 := Aside0.mk A120
                clear A120
                have HC13 := Aside0.mk H
                clear H
                have p362 : 0 ≤ (x27_1 : Int) := of_decide_eq_true (by first | (with_reducible assumption) | assumption)
                have q362 : x27_1 < (l0.length : Int) := of_decide_eq_true (by first | (with_reducible assumption) | assumption)
                obtain ⟨ad362, A362_0, c362_0, e362, hx362_0, hx362_1, hx362_2, hx362_3, hx362_4, hx362_5, hl362_0, hi362_0⟩ := at_T90 HR0.out x27_1 p362 q362
                cases e362
                replace hx362_0 := (HB.out.cell (World.block_lt_of_cell? w _ hx362_0)).trans hx362_0
                replace hx362_1 := (HB.out.cell (World.block_lt_of_cell? w _ hx362_1)).trans hx362_1
                replace hx362_2 := (HB.out.cell (World.block_lt_of_cell? w _ hx362_2)).trans hx362_2
                replace hx362_3 := (HB.out.cell (World.block_lt_of_cell? w _ hx362_3)).trans hx362_3
                replace hx362_4 := (HB.out.cell (World.block_lt_of_cell? w _ hx362_4)).trans hx362_4
                replace hx362_5 := (HB.out.cell (World.block_lt_of_cell? w _ hx362_5)).trans hx362_5
                have HR362_0 := Aside0.mk hi362_0
                have HC362_0 := Aside0.mk hl362_0
                clear hi362_0 hl362_0
                replace p362 := eq_true p362
                replace q362 := eq_true q362
                go_upto_region 9 with (first | ((with_reducible refine gate_dst (N := 13) rfl ?_); refine box_event ?hg (N := 13) ?hd (cs := #[.slice none 0 0, .int .u64 0, .int .u64 0, .int .u64 0, .int .u64 0, .bool false]) (t := 90) ?hr ?_; (case hd => rfl); (case hg => rfl); (case hr => first | (go_simp; done) | (go_simp; rfl)); intro gb363 hg w14 hbox hb; have n0_ := Aside0.mk (below_step (by repeat (first | (with_reducible first | exact HB.out | apply below_alloc | apply pw_below_drewN | apply below_drew1) | exact HB.out)) hb); have n1_ := Aside0.mk (hbox); have n2_ := Aside0.mk ((by rw [hg]; exact (below_size (by repeat (first | (with_reducible first | exact HB.out | apply below_alloc | apply pw_below_drewN | apply below_drew1) | exact HB.out))) : w.heap.size ≤ gb363)); have n3_ := Aside0.mk ((by rw [hg]; exact (below_size (by repeat (first | (with_reducible first | exact HB.out | apply below_alloc | apply pw_below_drewN | apply below_drew1) | exact HB.out))) : w.heap.size ≤ gb363)); clear HB; have HB := n0_; have BK363 := n1_; have GW363 := n2_; have GE363 := n3_; clear n0_ n1_ n2_ n3_; clear hb hbox hg; have hcz15_0 : w14.cell? ⟨gb363, 0, none⟩ = some (.slice none 0 0) := (blk_cell BK363.out 0).trans rfl; have hcz15_1 : w14.cell? ⟨gb363, 1, none⟩ = some (.int .u64 0) := (blk_cell BK363.out 1).trans rfl; have hcz15_2 : w14.cell? ⟨gb363, 2, none⟩ = some (.int .u64 0) := (blk_cell BK363.out 2).trans rfl; have hcz15_3 : w14.cell? ⟨gb363, 3, none⟩ = some (.int .u64 0) := (blk_cell BK363.out 3).trans rfl; have hcz15_4 : w14.cell? ⟨gb363, 4, none⟩ = some (.int .u64 0) := (blk_cell BK363.out 4).trans rfl; have hcz15_5 : w14.cell? ⟨gb363, 5, none⟩ = some (.bool false) := (blk_cell BK363.out 5).trans rfl; have hfz15_0 := blk_frozen BK363.out 0; have hfz15_1 := blk_frozen BK363.out 1; have hfz15_2 := blk_frozen BK363.out 2; have hfz15_3 := blk_frozen BK363.out 3; have hfz15_4 := blk_frozen BK363.out 4; have hfz15_5 := blk_frozen BK363.out 5; have p364 : 0 ≤ (0 : Int) := (by omega); have q364 : 0 < (((rd_T90 l0 x27_1).f0).length : Int) := of_decide_eq_true (by first | (with_reducible assumption) | assumption); obtain ⟨ad364, e364, hx364_0⟩ := Kd.at_int HR362_0.out 0 p364 q364; cases e364; have qi364 : (0 < ((rd_T90 l0 x27_1).f0).length) = True := eq_true (by omega); (try rw [show ((0 : Int)).toNat = 0 from rfl] at hx364_0); (try rw [Addr.add_zero'] at hx364_0); have hn364_0 : ad364.block ≠ gb363 := Nat.ne_of_lt (Nat.lt_of_lt_of_le (by have := World.block_lt_of_cell? _ _ hx364_0; first | rwa [add_block] at this | exact this) GW363.out); have hn364_1 : ad364.block ≠ gb363 := Nat.ne_of_lt (Nat.lt_of_lt_of_le (by have := World.block_lt_of_cell? _ _ hx364_0; first | rwa [add_block] at this | exact this) GW363.out); have hn364_2 : ad364.block ≠ gb363 := Nat.ne_of_lt (Nat.lt_of_lt_of_le (by have := World.block_lt_of_cell? _ _ hx364_0; first | rwa [add_block] at this | exact this) GW363.out); have hn364_3 : ad364.block ≠ gb363 := Nat.ne_of_lt (Nat.lt_of_lt_of_le (by have := World.block_lt_of_cell? _ _ hx364_0; first | rwa [add_block] at this | exact this) GW363.out); have hn364_4 : ad364.block ≠ gb363 := Nat.ne_of_lt (Nat.lt_of_lt_of_le (by have := World.block_lt_of_cell? _ _ hx364_0; first | rwa [add_block] at this | exact this) GW363.out); have hn364_5 : ad364.block ≠ gb363 := Nat.ne_of_lt (Nat.lt_of_lt_of_le (by have := World.block_lt_of_cell? _ _ hx364_0; first | rwa [add_block] at this | exact this) GW363.out); replace hx364_0 := (HB.out.cell (World.block_lt_of_cell? w _ hx364_0)).trans hx364_0; replace hx364_0 := (cell_far (p := ⟨gb363, 0, none⟩) (by first | (rw [add_block]; exact hn364_0) | (show (Addr.add _ _).block ≠ _; rw [add_block]; exact hn364_0) | exact hn364_0) (.slice (some ad364) ((rd_T90 l0 x27_1).f0).length c362_0)).trans hx364_0; replace hx364_0 := (cell_far (p := ⟨gb363, 1, none⟩) (by first | (rw [add_block]; exact hn364_1) | (show (Addr.add _ _).block ≠ _; rw [add_block]; exact hn364_1) | exact hn364_1) (.int .u64 ((rd_T90 l0 x27_1).f1.f0.f0))).trans hx364_0; replace hx364_0 := (cell_far (p := ⟨gb363, 2, none⟩) (by first | (rw [add_block]; exact hn364_2) | (show (Addr.add _ _).block ≠ _; rw [add_block]; exact hn364_2) | exact hn364_2) (.int .u64 ((rd_T90 l0 x27_1).f1.f0.f1))).trans hx364_0; replace hx364_0 := (cell_far (p := ⟨gb363, 3, none⟩) (by first | (rw [add_block]; exact hn364_3) | (show (Addr.add _ _).block ≠ _; rw [add_block]; exact hn364_3) | exact hn364_3) (.int .u64 ((rd_T90 l0 x27_1).f1.f1))).trans hx364_0; replace hx364_0 := (cell_far (p := ⟨gb363, 4, none⟩) (by first | (rw [add_block]; exact hn364_4) | (show (Addr.add _ _).block ≠ _; rw [add_block]; exact hn364_4) | exact hn364_4) (.int .u64 ((rd_T90 l0 x27_1).f2))).trans hx364_0; replace hx364_0 := (cell_far (p := ⟨gb363, 5, none⟩) (by first | (rw [add_block]; exact hn364_5) | (show (Addr.add _ _).block ≠ _; rw [add_block]; exact hn364_5) | exact hn364_5) (.bool ((rd_T90 l0 x27_1).f3))).trans hx364_0; clear hn364_0; clear hn364_1; clear hn364_2; clear hn364_3; clear hn364_4; clear hn364_5; replace p364 := eq_true p364; replace q364 := eq_true q364) | ((with_reducible refine gate_callee (f := 24) rfl ?_); refine goesL_ (some 37) rfl rfl Tryd.func24 (by kernel_rfl) rfl #[.slice A3 l3.length c3, .int .i64 (rd ((rd_T90 l0 x27_1).f0) 0)] rfl (by (try simp only [List.map_toArray, List.map_cons, List.map_nil]); first | done | rfl | (simp only [List.length_drop, List.length_take]; rfl)) ?_; (with_reducible refine (pick_On.calls _ _ l3 (rd ((rd_T90 l0 x27_1).f0) 0) t365 t366 _ ?side1 ?side2 A12.out).mono ?_); (case side1 => exact Kd.C_below HR3.out (by repeat (first | (with_reducible first | exact HB.out | apply below_alloc | apply pw_below_drewN | apply below_drew1 | refine below_set ?_ GE363.out) | exact HB.out))); (case side2 => exact HC3.out); rintro e w16 ⟨rfl, hb⟩; refine ⟨_, rfl, ?_⟩; have n0_ := Aside0.mk (blk_below (g := gb363) (o := .cells #[.slice (some ad364) ((rd_T90 l0 x27_1).f0).length c362_0, .int .u64 ((rd_T90 l0 x27_1).f1.f0.f0), .int .u64 ((rd_T90 l0 x27_1).f1.f0.f1), .int .u64 ((rd_T90 l0 x27_1).f1.f1), .int .u64 ((rd_T90 l0 x27_1).f2), .bool ((rd_T90 l0 x27_1).f3)] 90 (0, 0)) (by (with_reducible repeat (first | refine blk_drewN ?_ _ | refine blk_drew ?_ | refine blk_alloc ?_ _)); refine blk_put (cs := #[.slice (some ad364) ((rd_T90 l0 x27_1).f0).length c362_0, .int .u64 ((rd_T90 l0 x27_1).f1.f0.f0), .int .u64 ((rd_T90 l0 x27_1).f1.f0.f1), .int .u64 ((rd_T90 l0 x27_1).f1.f1), .int .u64 ((rd_T90 l0 x27_1).f2), .bool false]) ?_ 5 _ rfl; (with_reducible repeat (first | refine blk_drewN ?_ _ | refine blk_drew ?_ | refine blk_alloc ?_ _)); refine blk_put (cs := #[.slice (some ad364) ((rd_T90 l0 x27_1).f0).length c362_0, .int .u64 ((rd_T90 l0 x27_1).f1.f0.f0), .int .u64 ((rd_T90 l0 x27_1).f1.f0.f1), .int .u64 ((rd_T90 l0 x27_1).f1.f1), .int .u64 0, .bool false]) ?_ 4 _ rfl; (with_reducible repeat (first | refine blk_drewN ?_ _ | refine blk_drew ?_ | refine blk_alloc ?_ _)); refine blk_put (cs := #[.slice (some ad364) ((rd_T90 l0 x27_1).f0).length c362_0, .int .u64 ((rd_T90 l0 x27_1).f1.f0.f0), .int .u64 ((rd_T90 l0 x27_1).f1.f0.f1), .int .u64 0, .int .u64 0, .bool false]) ?_ 3 _ rfl; (with_reducible repeat (first | refine blk_drewN ?_ _ | refine blk_drew ?_ | refine blk_alloc ?_ _)); refine blk_put (cs := #[.slice (some ad364) ((rd_T90 l0 x27_1).f0).length c362_0, .int .u64 ((rd_T90 l0 x27_1).f1.f0.f0), .int .u64 0, .int .u64 0, .int .u64 0, .bool false]) ?_ 2 _ rfl; (with_reducible repeat (first | refine blk_drewN ?_ _ | refine blk_drew ?_ | refine blk_alloc ?_ _)); refine blk_put (cs := #[.slice (some ad364) ((rd_T90 l0 x27_1).f0).length c362_0, .int .u64 0, .int .u64 0, .int .u64 0, .int .u64 0, .bool false]) ?_ 1 _ rfl; (with_reducible repeat (first | refine blk_drewN ?_ _ | refine blk_drew ?_ | refine blk_alloc ?_ _)); refine blk_put (cs := #[.slice none 0 0, .int .u64 0, .int .u64 0, .int .u64 0, .int .u64 0, .bool false]) ?_ 0 _ rfl; (with_reducible repeat (first | refine blk_drewN ?_ _ | refine blk_drew ?_ | refine blk_alloc ?_ _)); exact BK363.out) hb); have n1_ := Aside0.mk (below_step (by repeat (first | (with_reducible first | exact HB.out | apply below_alloc | apply pw_below_drewN | apply below_drew1 | refine below_set ?_ GE363.out) | exact HB.out)) hb); clear BK363; clear HB; have BK363 := n0_; have HB := n1_; clear n0_ n1_; (try clear hb); (try clear hb2); (try clear hk); (try clear hi)))
                (try simp only [Act.put, List.setIfInBounds_toArray, List.set_cons_zero, List.set_cons_succ])
                go_cut [47] (fun v47 wc => ∃ (kq : Nat) (x47_12 : Bool), v47 = .bool x47_12 ∧ Aside0 (pick_Idle.j1 kq l1 a2 l3 x11_1 l0 (l0.length : Int) x27_1 x47_12 ((rd_T90 l0 x27_1).f0) ((rd_T90 l0 x27_1).f1.f0.f0) ((rd_T90 l0 x27_1).f1.f0.f1) ((rd_T90 l0 x27_1).f1.f1) ((rd_T90 l0 x27_1).f2) ((rd_T90 l0 x27_1).f3) = some (r1, r2)) ∧ Aside0 (kq ≤ k1) ∧ Aside0 (wc.heap[gb363]? = some (.cells #[(.slice (some ad364) ((rd_T90 l0 x27_1).f0).length c362_0), .int .u64 ((rd_T90 l0 x27_1).f1.f0.f0), .int .u64 ((rd_T90 l0 x27_1).f1.f0.f1), .int .u64 ((rd_T90 l0 x27_1).f1.f1), .int .u64 ((rd_T90 l0 x27_1).f2), .bool ((rd_T90 l0 x27_1).f3)] 90 (0, 0))) ∧ Aside0 (Below w.heap.size w wc))
                case first =>
                  have H := HC13.out
                  clear HC13
                  by_cases c17 : (((rd_T90 l0 x27_1).f0).length : Int) = 1
                  · rw [if_pos c17] at H
                    have c17b0 : ((((rd_T90 l0 x27_1).f0).length : Int) == 1) = true := beq_iff_eq.mpr c17
                    have c17b1 : ((((rd_T90 l0 x27_1).f0).length : Int) != 1) = false := bne_eq_false_iff_eq.mpr c17
                    clear c17
                    (first | rw [c17b0] | (simp only [i64_w, i32_w]; rw [c17b0]) | skip)
                    have H' := Aside0.mk H
                    clear H
                    have hcz18_0 : w16.cell? ⟨gb363, 0, none⟩ = some (.slice (some ad364) ((rd_T90 l0 x27_1).f0).length c362_0) := (blk_cell BK363.out 0).trans rfl
                    have hcz18_1 : w16.cell? ⟨gb363, 1, none⟩ = some (.int .u64 ((rd_T90 l0 x27_1).f1.f0.f0)) := (blk_cell BK363.out 1).trans rfl
                    have hcz18_2 : w16.cell? ⟨gb363, 2, none⟩ = some (.int .u64 ((rd_T90 l0 x27_1).f1.f0.f1)) := (blk_cell BK363.out 2).trans rfl
                    have hcz18_3 : w16.cell? ⟨gb363, 3, none⟩ = some (.int .u64 ((rd_T90 l0 x27_1).f1.f1)) := (blk_cell BK363.out 3).trans rfl
                    have hcz18_4 : w16.cell? ⟨gb363, 4, none⟩ = some (.int .u64 ((rd_T90 l0 x27_1).f2)) := (blk_cell BK363.out 4).trans rfl
                    have hcz18_5 : w16.cell? ⟨gb363, 5, none⟩ = some (.bool ((rd_T90 l0 x27_1).f3)) := (blk_cell BK363.out 5).trans rfl
                    have hfz18_0 := blk_frozen BK363.out 0
                    have hfz18_1 := blk_frozen BK363.out 1
                    have hfz18_2 := blk_frozen BK363.out 2
                    have hfz18_3 := blk_frozen BK363.out 3
                    have hfz18_4 := blk_frozen BK363.out 4
                    have hfz18_5 := blk_frozen BK363.out 5
                    go_wp2
                    go_meet
                    case rel => exact ⟨_, (!t366), (by first | rfl | (simp; done) | (simp [*]; done)), H', ⟨by have := HK1.out; first | omega | exact Nat.le_refl _⟩, ⟨by (with_reducible repeat (first | refine blk_drewN ?_ _ | refine blk_drew ?_ | refine blk_alloc ?_ _)); exact BK363.out⟩, ⟨by repeat (first | (with_reducible first | exact HB.out | apply below_alloc | apply pw_below_drewN | apply below_drew1 | refine below_set ?_ GE363.out) | exact HB.out)⟩⟩
                  · rw [if_neg c17] at H
                    have c17b0 : ((((rd_T90 l0 x27_1).f0).length : Int) == 1) = false := beq_eq_false_iff_ne.mpr c17
                    have c17b1 : ((((rd_T90 l0 x27_1).f0).length : Int) != 1) = true := bne_iff_ne.mpr c17
                    (first | rw [c17b0] | (simp only [i64_w, i32_w]; rw [c17b0]) | skip)
                    have H' := Aside0.mk H
                    clear H
                    have hcz19_0 : w16.cell? ⟨gb363, 0, none⟩ = some (.slice (some ad364) ((rd_T90 l0 x27_1).f0).length c362_0) := (blk_cell BK363.out 0).trans rfl
                    have hcz19_1 : w16.cell? ⟨gb363, 1, none⟩ = some (.int .u64 ((rd_T90 l0 x27_1).f1.f0.f0)) := (blk_cell BK363.out 1).trans rfl
                    have hcz19_2 : w16.cell? ⟨gb363, 2, none⟩ = some (.int .u64 ((rd_T90 l0 x27_1).f1.f0.f1)) := (blk_cell BK363.out 2).trans rfl
                    have hcz19_3 : w16.cell? ⟨gb363, 3, none⟩ = some (.int .u64 ((rd_T90 l0 x27_1).f1.f1)) := (blk_cell BK363.out 3).trans rfl
                    have hcz19_4 : w16.cell? ⟨gb363, 4, none⟩ = some (.int .u64 ((rd_T90 l0 x27_1).f2)) := (blk_cell BK363.out 4).trans rfl
                    have hcz19_5 : w16.cell? ⟨gb363, 5, none⟩ = some (.bool ((rd_T90 l0 x27_1).f3)) := (blk_cell BK363.out 5).trans rfl
                    have hfz19_0 := blk_frozen BK363.out 0
                    have hfz19_1 := blk_frozen BK363.out 1
                    have hfz19_2 := blk_frozen BK363.out 2
                    have hfz19_3 := blk_frozen BK363.out 3
                    have hfz19_4 := blk_frozen BK363.out 4
                    have hfz19_5 := blk_frozen BK363.out 5
                    go_wp2
                    go_meet
                    case rel => exact ⟨_, (false), (by first | rfl | (simp; done) | (simp [*]; done)), H', ⟨by have := HK1.out; first | omega | exact Nat.le_refl _⟩, ⟨by (with_reducible repeat (first | refine blk_drewN ?_ _ | refine blk_drew ?_ | refine blk_alloc ?_ _)); exact BK363.out⟩, ⟨by repeat (first | (with_reducible first | exact HB.out | apply below_alloc | apply pw_below_drewN | apply below_drew1 | refine below_set ?_ GE363.out) | exact HB.out)⟩⟩
                case rest =>
                  clear HC13
                  try clear c1
                  try clear c2
                  try clear p2
                  try clear c3
                  try clear p3
                  try clear q3
                  try clear hx3
                  try clear qi3
                  try clear c6
                  try clear c6b0
                  try clear c6b1
                  try clear c8
                  try clear c8b0
                  try clear c9
                  try clear c9b0
                  try clear c10
                  try clear c10b0
                  try clear c11
                  try clear c11b0
                  try clear c11b1
                  try clear c17
                  try clear c17b0
                  try clear c17b1
                  try clear hcz15_0
                  try clear hcz15_1
                  try clear hcz15_2
                  try clear hcz15_3
                  try clear hcz15_4
                  try clear hcz15_5
                  try clear hcz18_0
                  try clear hcz18_1
                  try clear hcz18_2
                  try clear hcz18_3
                  try clear hcz18_4
                  try clear hcz18_5
                  try clear hcz19_0
                  try clear hcz19_1
                  try clear hcz19_2
                  try clear hcz19_3
                  try clear hcz19_4
                  try clear hcz19_5
                  try clear hfz15_0
                  try clear hfz15_1
                  try clear hfz15_2
                  try clear hfz15_3
                  try clear hfz15_4
                  try clear hfz15_5
                  try clear hfz18_0
                  try clear hfz18_1
                  try clear hfz18_2
                  try clear hfz18_3
                  try clear hfz18_4
                  try clear hfz18_5
                  try clear hfz19_0
                  try clear hfz19_1
                  try clear hfz19_2
                  try clear hfz19_3
                  try clear hfz19_4
                  try clear hfz19_5
                  try clear hx362_0
                  try clear hx362_1
                  try clear hx362_2
                  try clear hx362_3
                  try clear hx362_4
                  try clear hx362_5
                  try clear hx364_0
                  try clear p2
                  try clear p362
                  try clear p364
                  try clear q362
                  try clear q364
                  obtain ⟨kq, x47_12, rfl, HA, HJ12, BK363, HB⟩ := hcut
                  cases kq with
                  | zero => exact absurd HA.out (by simp [pick_Idle.j1])
                  | succ kj12 =>
                    have H := HA.out
                    clear HA
                    simp only [pick_Idle.j1] at H
                    by_cases c20 : x47_12 = true
                    · subst c20
                      have H1 : ((pick_wishes.f kj12 l1 ((rd_T90 l0 x27_1).f0)).bind fun t367 => (if 0 < (t367.length : Int) then ((mask_Allows.f kj12 ((rd_T36 t367 0).f2.f0) ((rd_T36 t367 0).f2.f1) a2).bind fun t371 => (pick_Idle.l0 kj12 l1 a2 l3 (Go.bits .or .u32 x11_1 t371) l0 (l0.length : Int) (wrap64 (x27_1 + 1)))) else (none))) = some (r1, r2) := by rw [if_pos rfl] at H; exact H
                      clear H
                      have H := H1
                      clear H1
                      replace H := Option.bind_eq_some_iff.mp H
                      obtain ⟨t367, A210, H⟩ := H
                      replace H : (if 0 < (t367.length : Int) then ((mask_Allows.f kj12 ((rd_T36 t367 0).f2.f0) ((rd_T36 t367 0).f2.f1) a2).bind fun t371 => (pick_Idle.l0 kj12 l1 a2 l3 (Go.bits .or .u32 x11_1 t371) l0 (l0.length : Int) (wrap64 (x27_1 + 1)))) else (none)) = some (r1, r2) := H
                      have A21 := Aside0.mk A210
                      clear A210
                      by_cases c22 : 0 < (t367.length : Int)
                      · rw [if_pos c22] at H
                        have c22b0 : decide (0 < (t367.length : Int)) = true := decide_eq_true c22
                        have c22b1 : decide (0 < t367.length) = true := decide_eq_true (by omega)
                        clear c22
                        replace H := Option.bind_eq_some_iff.mp H
                        obtain ⟨t371, A230, H⟩ := H
                        replace H : (pick_Idle.l0 kj12 l1 a2 l3 (Go.bits .or .u32 x11_1 t371) l0 (l0.length : Int) (wrap64 (x27_1 + 1))) = some (r1, r2) := H
                        have A23 := Aside0.mk A230
                        clear A230
                        have H' := Aside0.mk H
                        clear H
                        have hcz24_0 : wc.cell? ⟨gb363, 0, none⟩ = some (.slice (some ad364) ((rd_T90 l0 x27_1).f0).length c362_0) := (blk_cell BK363.out 0).trans rfl
                        have hcz24_1 : wc.cell? ⟨gb363, 1, none⟩ = some (.int .u64 ((rd_T90 l0 x27_1).f1.f0.f0)) := (blk_cell BK363.out 1).trans rfl
                        have hcz24_2 : wc.cell? ⟨gb363, 2, none⟩ = some (.int .u64 ((rd_T90 l0 x27_1).f1.f0.f1)) := (blk_cell BK363.out 2).trans rfl
                        have hcz24_3 : wc.cell? ⟨gb363, 3, none⟩ = some (.int .u64 ((rd_T90 l0 x27_1).f1.f1)) := (blk_cell BK363.out 3).trans rfl
                        have hcz24_4 : wc.cell? ⟨gb363, 4, none⟩ = some (.int .u64 ((rd_T90 l0 x27_1).f2)) := (blk_cell BK363.out 4).trans rfl
                        have hcz24_5 : wc.cell? ⟨gb363, 5, none⟩ = some (.bool ((rd_T90 l0 x27_1).f3)) := (blk_cell BK363.out 5).trans rfl
                        have hfz24_0 := blk_frozen BK363.out 0
                        have hfz24_1 := blk_frozen BK363.out 1
                        have hfz24_2 := blk_frozen BK363.out 2
                        have hfz24_3 := blk_frozen BK363.out 3
                        have hfz24_4 := blk_frozen BK363.out 4
                        have hfz24_5 := blk_frozen BK363.out 5
                        go_wp2_with (first | ((with_reducible refine gate_callee (f := 67) rfl ?_); refine goesL_ (some 52) rfl rfl Tryd.func67 (by kernel_rfl) rfl #[.slice A1 l1.length c1, .slice (some ad364) ((rd_T90 l0 x27_1).f0).length c362_0] rfl (by (try simp only [List.map_toArray, List.map_cons, List.map_nil]); first | done | rfl | (simp only [List.length_drop, List.length_take]; rfl)) ?_; (with_reducible refine (pick_wishes.calls kj12 _ _ l1 _ _ ((rd_T90 l0 x27_1).f0) t367 _ ?side1 ?side2 ?side3 ?side4 A21.out).mono ?_); (case side1 => repeat (first | exact (Kd.C_below HR1.out HB.out) | (with_reducible refine Kd.C_alloc ?_ _) | (with_reducible refine Kd.C_drewN ?_ _) | (with_reducible refine Kd.C_drew ?_))); (case side2 => exact HC1.out); (case side3 => repeat (first | exact (Kd.C_below HR362_0.out HB.out) | (with_reducible refine Kd.C_alloc ?_ _) | (with_reducible refine Kd.C_drewN ?_ _) | (with_reducible refine Kd.C_drew ?_))); (case side4 => exact HC362_0.out); rintro e w25 ⟨v368, rfl, ho0, hb⟩; refine ⟨_, rfl, ?_⟩; have n0_ := Aside0.mk (Kd.R_lower ho0 (below_size (by repeat (first | (with_reducible first | exact HB.out | apply below_alloc | apply pw_below_drewN | apply below_drew1 | refine below_set ?_ GE363.out) | exact HB.out)))); have n1_ := Aside0.mk (blk_below (g := gb363) (o := .cells #[.slice (some ad364) ((rd_T90 l0 x27_1).f0).length c362_0, .int .u64 ((rd_T90 l0 x27_1).f1.f0.f0), .int .u64 ((rd_T90 l0 x27_1).f1.f0.f1), .int .u64 ((rd_T90 l0 x27_1).f1.f1), .int .u64 ((rd_T90 l0 x27_1).f2), .bool ((rd_T90 l0 x27_1).f3)] 90 (0, 0)) (by (with_reducible repeat (first | refine blk_drewN ?_ _ | refine blk_drew ?_ | refine blk_alloc ?_ _)); exact BK363.out) hb); have n2_ := Aside0.mk (below_step (by repeat (first | (with_reducible first | exact HB.out | apply below_alloc | apply pw_below_drewN | apply below_drew1 | refine below_set ?_ GE363.out) | exact HB.out)) hb); clear BK363; clear HB; have HO369 := n0_; have BK363 := n1_; have HB := n2_; clear n0_ n1_ n2_; (try clear hb); (try clear hb2); (try clear hk); (try clear hi); (try clear ho0); obtain ⟨Ao26, co26, eo26⟩ := Kd.R_slice HO369.out; subst eo26; have p370 : 0 ≤ (0 : Int) := (by omega); have q370 : 0 < (t367.length : Int) := of_decide_eq_true (by first | (with_reducible assumption) | assumption); obtain ⟨ad370, e370, hx370_0, hx370_1, hx370_2, hx370_3⟩ := at_T36 (Kd.R_reads' HO369.out).2.2 0 p370 q370; cases e370; have qi370 : (0 < t367.length) = True := eq_true (by omega); (try rw [show ((0 : Int)).toNat = 0 from rfl] at hx370_0); (try rw [show 0 * 4 = 0 from rfl] at hx370_0); (try rw [Addr.add_zero'] at hx370_0); (try rw [show ((0 : Int)).toNat = 0 from rfl] at hx370_1); (try rw [show 0 * 4 = 0 from rfl] at hx370_1); (try rw [Addr.add_zero'] at hx370_1); (try rw [show ((0 : Int)).toNat = 0 from rfl] at hx370_2); (try rw [show 0 * 4 = 0 from rfl] at hx370_2); (try rw [Addr.add_zero'] at hx370_2); (try rw [show ((0 : Int)).toNat = 0 from rfl] at hx370_3); (try rw [show 0 * 4 = 0 from rfl] at hx370_3); (try rw [Addr.add_zero'] at hx370_3); replace p370 := eq_true p370; replace q370 := eq_true q370) | ((with_reducible refine gate_callee (f := 22) rfl ?_); refine goesL_ (some 57) rfl rfl Tryd.func22 (by kernel_rfl) rfl #[.agg #[.int .u32 ((rd_T36 t367 0).f2.f0), .int .u32 ((rd_T36 t367 0).f2.f1)], .int .u32 a2] rfl (by (try simp only [List.map_toArray, List.map_cons, List.map_nil]); first | done | rfl | (simp only [List.length_drop, List.length_take]; rfl)) ?_; (with_reducible refine (mask_Allows.calls kj12 ((rd_T36 t367 0).f2.f0) ((rd_T36 t367 0).f2.f1) a2 t371 _ A23.out).mono ?_); rintro e w27 ⟨rfl, hb⟩; refine ⟨_, rfl, ?_⟩; have n0_ := Aside0.mk (Kd.R_below (by (with_reducible repeat (first | apply Kd.R_alloc | apply Kd.R_drewN | apply Kd.R_drew)); exact HO369.out) hb); have n1_ := Aside0.mk (blk_below (g := gb363) (o := .cells #[.slice (some ad364) ((rd_T90 l0 x27_1).f0).length c362_0, .int .u64 ((rd_T90 l0 x27_1).f1.f0.f0), .int .u64 ((rd_T90 l0 x27_1).f1.f0.f1), .int .u64 ((rd_T90 l0 x27_1).f1.f1), .int .u64 ((rd_T90 l0 x27_1).f2), .bool ((rd_T90 l0 x27_1).f3)] 90 (0, 0)) (by (with_reducible repeat (first | refine blk_drewN ?_ _ | refine blk_drew ?_ | refine blk_alloc ?_ _)); exact BK363.out) hb); have n2_ := Aside0.mk (below_step (by repeat (first | (with_reducible first | exact HB.out | apply below_alloc | apply pw_below_drewN | apply below_drew1 | refine below_set ?_ GE363.out) | exact HB.out)) hb); clear HO369; clear BK363; clear HB; have HO369 := n0_; have BK363 := n1_; have HB := n2_; clear n0_ n1_ n2_; (try clear hb); (try clear hb2); (try clear hk); (try clear hi)))
                        go_roundg kj12
                        case measure => have := HK1.out; have := HJ12.out; omega
                        case rel => exact ⟨(Go.bits .or .u32 x11_1 t371), (wrap64 (x27_1 + 1)), (by first | rfl | (simp; done) | (simp [*]; done)), (by first | rfl | (simp; done) | (simp [*]; done)), H', ⟨by have := HK1.out; have := HJ12.out; omega⟩, ⟨by repeat (first | (with_reducible first | exact HB.out | apply below_alloc | apply pw_below_drewN | apply below_drew1 | refine below_set ?_ GE363.out) | exact HB.out)⟩⟩
                      · rw [if_neg c22] at H
                        exact absurd H (by simp)
                    · replace c20 := Bool.eq_false_iff.mpr c20
                      subst c20
                      have H1 : (pick_Idle.l0 kj12 l1 a2 l3 x11_1 l0 (l0.length : Int) (wrap64 (x27_1 + 1))) = some (r1, r2) := by rw [if_neg (show ¬ (false = true) by decide)] at H; exact H
                      clear H
                      have H := H1
                      clear H1
                      have H' := Aside0.mk H
                      clear H
                      go_wp2
                      go_roundg kj12
                      case measure => have := HK1.out; have := HJ12.out; omega
                      case rel => exact ⟨(x11_1), (wrap64 (x27_1 + 1)), (by first | rfl | (simp; done) | (simp [*]; done)), (by first | rfl | (simp; done) | (simp [*]; done)), H', ⟨by have := HK1.out; have := HJ12.out; omega⟩, ⟨by repeat (first | (with_reducible first | exact HB.out | apply below_alloc | apply pw_below_drewN | apply below_drew1 | refine below_set ?_ GE363.out) | exact HB.out)⟩⟩
              · rw [if_neg c11] at H
                exact absurd H (by simp)
            · rw [if_neg c10] at H
              exact absurd H (by simp)
          · rw [if_neg c9] at H
            exact absurd H (by simp)
        · rw [if_neg c8] at H
          have c8b0 : decide (x27_1 < (l0.length : Int)) = false := decide_eq_false c8
          clear c8
          have H' := Aside0.mk H
          clear H
          go_wp2
          go_loopg [11, 62] k1 (fun kq v11 v62 w' => ∃ (x11_2 : Int) (x62_2 : Int), v11 = .int .u32 x11_2 ∧ v62 = .int .i64 x62_2 ∧ Aside0 (pick_Idle.l1 kq x11_2 l3 (l3.length : Int) x62_2 = some (r1, r2)) ∧ Aside0 (kq ≤ k1) ∧ Aside0 (Below w.heap.size w w'))
          case atStart => exact ⟨(x11_1), (0), (by first | rfl | (simp; done) | (simp [*]; done)), (by first | rfl | (simp; done) | (simp [*]; done)), H', ⟨Nat.le_refl _⟩, ⟨by repeat (first | (with_reducible first | exact HB.out | apply below_alloc | apply pw_below_drewN | apply below_drew1) | exact HB.out)⟩⟩
          case round =>
            clear H'
            try clear c1
            try clear c2
            try clear p2
            try clear c3
            try clear p3
            try clear q3
            try clear hx3
            try clear qi3
            try clear c6
            try clear c6b0
            try clear c6b1
            try clear p6
            try clear c8
            try clear c8b0
            try clear c9
            try clear c9b0
            try clear c10
            try clear c10b0
            try clear c11
            try clear c11b0
            try clear c11b1
            try clear c17
            try clear c17b0
            try clear c17b1
            try clear c20
            try clear c22
            try clear c22b0
            try clear c22b1
            try clear c24
            try clear c25
            try clear hcz15_0
            try clear hcz15_1
            try clear hcz15_2
            try clear hcz15_3
            try clear hcz15_4
            try clear hcz15_5
            try clear hcz18_0
            try clear hcz18_1
            try clear hcz18_2
            try clear hcz18_3
            try clear hcz18_4
            try clear hcz18_5
            try clear hcz19_0
            try clear hcz19_1
            try clear hcz19_2
            try clear hcz19_3
            try clear hcz19_4
            try clear hcz19_5
            try clear hcz24_0
            try clear hcz24_1
            try clear hcz24_2
            try clear hcz24_3
            try clear hcz24_4
            try clear hcz24_5
            try clear hfz15_0
            try clear hfz15_1
            try clear hfz15_2
            try clear hfz15_3
            try clear hfz15_4
            try clear hfz15_5
            try clear hfz18_0
            try clear hfz18_1
            try clear hfz18_2
            try clear hfz18_3
            try clear hfz18_4
            try clear hfz18_5
            try clear hfz19_0
            try clear hfz19_1
            try clear hfz19_2
            try clear hfz19_3
            try clear hfz19_4
            try clear hfz19_5
            try clear hfz24_0
            try clear hfz24_1
            try clear hfz24_2
            try clear hfz24_3
            try clear hfz24_4
            try clear hfz24_5
            try clear hx362_0
            try clear hx362_1
            try clear hx362_2
            try clear hx362_3
            try clear hx362_4
            try clear hx362_5
            try clear hx364_0
            try clear hx370_0
            try clear hx370_1
            try clear hx370_2
            try clear hx370_3
            try clear p2
            try clear p3
            try clear p362
            try clear p364
            try clear p370
            try clear q3
            try clear q362
            try clear q364
            try clear q370
            obtain ⟨x11_2, x62_2, rfl, rfl, HA, HK2, HB⟩ := hrel
            cases gk with
            | zero => exact absurd HA.out (by simp [pick_Idle.l1])
            | succ k2 =>
              have H := HA.out
              clear HA
              simp only [pick_Idle.l1] at H
              by_cases c28 : x62_2 < (l3.length : Int)
              · rw [if_pos c28] at H
                have c28b0 : decide (x62_2 < (l3.length : Int)) = true := decide_eq_true c28
                clear c28
                by_cases c29 : 0 ≤ x62_2
                · rw [if_pos c29] at H
                  have c29b0 : decide (0 ≤ x62_2) = true := decide_eq_true c29
                  clear c29
                  by_cases c30 : x62_2 < (l3.length : Int)
                  · rw [if_pos c30] at H
                    have c30b0 : decide (x62_2 < (l3.length : Int)) = true := decide_eq_true c30
                    clear c30
                    by_cases c31 : ((rd_T31 l3 x62_2).f1) ≥ 0
                    · rw [if_pos c31] at H
                      have c31b0 : decide (0 ≤ ((rd_T31 l3 x62_2).f1)) = true := decide_eq_true c31
                      clear c31
                      by_cases c32 : ((rd_T31 l3 x62_2).f1) < 8
                      · rw [if_pos c32] at H
                        have c32b0 : decide (((rd_T31 l3 x62_2).f1) < 8) = true := decide_eq_true c32
                        clear c32
                        by_cases c33 : 0 ≤ ((rd_T31 l3 x62_2).f1)
                        · rw [if_pos c33] at H
                          have c33b0 := eq_true c33
                          have c33b1 : decide (0 ≤ ((rd_T31 l3 x62_2).f1)) = true := decide_eq_true c33
                          clear c33
                          obtain ⟨ji34, hji34⟩ : ∃ j_ : Int, (shl .u32 1 ((rd_T31 l3 x62_2).f1)) = j_ := ⟨_, rfl⟩
                          replace H : (pick_Idle.l1 k2 (Go.bits .andNot .u32 x11_2 (ji34)) l3 (l3.length : Int) (wrap64 (x62_2 + 1))) = some (r1, r2) := by first | (rw [hji34] at H; exact H) | (simp only [hji34] at H ⊢; exact H)
                          have hji34_ : (IntKind.u32.wrap (1 * 2 ^ min ((rd_T31 l3 x62_2).f1).toNat 32)) = ji34 := hji34
                          have hji34z : ((rd_T31 l3 x62_2).f1) ≤ 32 → (IntKind.u32.wrap (1 * 2 ^ ((rd_T31 l3 x62_2).f1).toNat)) = ji34 := shl_small hji34
                          have hji34u : (IntKind.u32.wrap (2 ^ min ((rd_T31 l3 x62_2).f1).toNat 32)) = ji34 := by have h_ := hji34_; rw [Int.one_mul] at h_; exact h_
                          have hji34v : ((rd_T31 l3 x62_2).f1) ≤ 32 → (IntKind.u32.wrap (2 ^ ((rd_T31 l3 x62_2).f1).toNat)) = ji34 := fun hle_ => by have h_ := hji34z hle_; rw [Int.one_mul] at h_; exact h_
                          have H' := Aside0.mk H
                          clear H
                          have p372 : 0 ≤ (x62_2 : Int) := of_decide_eq_true (by first | (with_reducible assumption) | assumption)
                          have q372 : x62_2 < (l3.length : Int) := of_decide_eq_true (by first | (with_reducible assumption) | assumption)
                          obtain ⟨ad372, e372, hx372_0, hx372_1⟩ := at_T31 HR3.out x62_2 p372 q372
                          cases e372
                          replace hx372_0 := (HB.out.cell (World.block_lt_of_cell? w _ hx372_0)).trans hx372_0
                          replace hx372_1 := (HB.out.cell (World.block_lt_of_cell? w _ hx372_1)).trans hx372_1
                          replace p372 := eq_true p372
                          replace q372 := eq_true q372
                          go_wp2_with (first | ((with_reducible refine gate_dst (N := 17) rfl ?_); refine box_event ?hg (N := 17) ?hd (cs := #[.int .i64 0, .int .i64 0]) (t := 31) ?hr ?_; (case hd => rfl); (case hg => rfl); (case hr => first | (go_simp; done) | (go_simp; rfl)); intro gb373 hg w35 hbox hb; have n0_ := Aside0.mk (below_step (by repeat (first | (with_reducible first | exact HB.out | apply below_alloc | apply pw_below_drewN | apply below_drew1) | exact HB.out)) hb); have n1_ := Aside0.mk (hbox); have n2_ := Aside0.mk ((by rw [hg]; exact (below_size (by repeat (first | (with_reducible first | exact HB.out | apply below_alloc | apply pw_below_drewN | apply below_drew1) | exact HB.out))) : w.heap.size ≤ gb373)); have n3_ := Aside0.mk ((by rw [hg]; exact (below_size (by repeat (first | (with_reducible first | exact HB.out | apply below_alloc | apply pw_below_drewN | apply below_drew1) | exact HB.out))) : w.heap.size ≤ gb373)); clear HB; have HB := n0_; have BK373 := n1_; have GW373 := n2_; have GE373 := n3_; clear n0_ n1_ n2_ n3_; clear hb hbox hg; have hcz36_0 : w35.cell? ⟨gb373, 0, none⟩ = some (.int .i64 0) := (blk_cell BK373.out 0).trans rfl; have hcz36_1 : w35.cell? ⟨gb373, 1, none⟩ = some (.int .i64 0) := (blk_cell BK373.out 1).trans rfl; have hfz36_0 := blk_frozen BK373.out 0; have hfz36_1 := blk_frozen BK373.out 1))
                          go_roundg k2
                          case measure => have := HK1.out; have := HK2.out; omega
                          case rel => exact ⟨(Go.bits .andNot .u32 x11_2 (ji34)), (wrap64 (x62_2 + 1)), (by first | rfl | (simp; done) | (simp only [← hji34] <;> (first | rfl | simp)) | (simp [*]; done)), (by first | rfl | (simp; done) | (simp [*]; done)), H', ⟨by have := HK1.out; have := HK2.out; omega⟩, ⟨by repeat (first | (with_reducible first | exact HB.out | apply below_alloc | apply pw_below_drewN | apply below_drew1 | refine below_set ?_ GE373.out) | exact HB.out)⟩⟩
                        · rw [if_neg c33] at H
                          exact absurd H (by simp)
                      · rw [if_neg c32] at H
                        have c32b0 : decide (((rd_T31 l3 x62_2).f1) < 8) = false := decide_eq_false c32
                        clear c32
                        have H' := Aside0.mk H
                        clear H
                        have p372 : 0 ≤ (x62_2 : Int) := of_decide_eq_true (by first | (with_reducible assumption) | assumption)
                        have q372 : x62_2 < (l3.length : Int) := of_decide_eq_true (by first | (with_reducible assumption) | assumption)
                        obtain ⟨ad372, e372, hx372_0, hx372_1⟩ := at_T31 HR3.out x62_2 p372 q372
                        cases e372
                        replace hx372_0 := (HB.out.cell (World.block_lt_of_cell? w _ hx372_0)).trans hx372_0
                        replace hx372_1 := (HB.out.cell (World.block_lt_of_cell? w _ hx372_1)).trans hx372_1
                        replace p372 := eq_true p372
                        replace q372 := eq_true q372
                        go_wp2_with (first | ((with_reducible refine gate_dst (N := 17) rfl ?_); refine box_event ?hg (N := 17) ?hd (cs := #[.int .i64 0, .int .i64 0]) (t := 31) ?hr ?_; (case hd => rfl); (case hg => rfl); (case hr => first | (go_simp; done) | (go_simp; rfl)); intro gb373 hg w37 hbox hb; have n0_ := Aside0.mk (below_step (by repeat (first | (with_reducible first | exact HB.out | apply below_alloc | apply pw_below_drewN | apply below_drew1) | exact HB.out)) hb); have n1_ := Aside0.mk (hbox); have n2_ := Aside0.mk ((by rw [hg]; exact (below_size (by repeat (first | (with_reducible first | exact HB.out | apply below_alloc | apply pw_below_drewN | apply below_drew1) | exact HB.out))) : w.heap.size ≤ gb373)); have n3_ := Aside0.mk ((by rw [hg]; exact (below_size (by repeat (first | (with_reducible first | exact HB.out | apply below_alloc | apply pw_below_drewN | apply below_drew1) | exact HB.out))) : w.heap.size ≤ gb373)); clear HB; have HB := n0_; have BK373 := n1_; have GW373 := n2_; have GE373 := n3_; clear n0_ n1_ n2_ n3_; clear hb hbox hg; have hcz38_0 : w37.cell? ⟨gb373, 0, none⟩ = some (.int .i64 0) := (blk_cell BK373.out 0).trans rfl; have hcz38_1 : w37.cell? ⟨gb373, 1, none⟩ = some (.int .i64 0) := (blk_cell BK373.out 1).trans rfl; have hfz38_0 := blk_frozen BK373.out 0; have hfz38_1 := blk_frozen BK373.out 1))
                        go_roundg k2
                        case measure => have := HK1.out; have := HK2.out; omega
                        case rel => exact ⟨(x11_2), (wrap64 (x62_2 + 1)), (by first | rfl | (simp; done) | (simp [*]; done)), (by first | rfl | (simp; done) | (simp [*]; done)), H', ⟨by have := HK1.out; have := HK2.out; omega⟩, ⟨by repeat (first | (with_reducible first | exact HB.out | apply below_alloc | apply pw_below_drewN | apply below_drew1 | refine below_set ?_ GE373.out) | exact HB.out)⟩⟩
                    · rw [if_neg c31] at H
                      have c31b0 : decide (0 ≤ ((rd_T31 l3 x62_2).f1)) = false := decide_eq_false c31
                      clear c31
                      have H' := Aside0.mk H
                      clear H
                      have p372 : 0 ≤ (x62_2 : Int) := of_decide_eq_true (by first | (with_reducible assumption) | assumption)
                      have q372 : x62_2 < (l3.length : Int) := of_decide_eq_true (by first | (with_reducible assumption) | assumption)
                      obtain ⟨ad372, e372, hx372_0, hx372_1⟩ := at_T31 HR3.out x62_2 p372 q372
                      cases e372
                      replace hx372_0 := (HB.out.cell (World.block_lt_of_cell? w _ hx372_0)).trans hx372_0
                      replace hx372_1 := (HB.out.cell (World.block_lt_of_cell? w _ hx372_1)).trans hx372_1
                      replace p372 := eq_true p372
                      replace q372 := eq_true q372
                      go_wp2_with (first | ((with_reducible refine gate_dst (N := 17) rfl ?_); refine box_event ?hg (N := 17) ?hd (cs := #[.int .i64 0, .int .i64 0]) (t := 31) ?hr ?_; (case hd => rfl); (case hg => rfl); (case hr => first | (go_simp; done) | (go_simp; rfl)); intro gb373 hg w39 hbox hb; have n0_ := Aside0.mk (below_step (by repeat (first | (with_reducible first | exact HB.out | apply below_alloc | apply pw_below_drewN | apply below_drew1) | exact HB.out)) hb); have n1_ := Aside0.mk (hbox); have n2_ := Aside0.mk ((by rw [hg]; exact (below_size (by repeat (first | (with_reducible first | exact HB.out | apply below_alloc | apply pw_below_drewN | apply below_drew1) | exact HB.out))) : w.heap.size ≤ gb373)); have n3_ := Aside0.mk ((by rw [hg]; exact (below_size (by repeat (first | (with_reducible first | exact HB.out | apply below_alloc | apply pw_below_drewN | apply below_drew1) | exact HB.out))) : w.heap.size ≤ gb373)); clear HB; have HB := n0_; have BK373 := n1_; have GW373 := n2_; have GE373 := n3_; clear n0_ n1_ n2_ n3_; clear hb hbox hg; have hcz40_0 : w39.cell? ⟨gb373, 0, none⟩ = some (.int .i64 0) := (blk_cell BK373.out 0).trans rfl; have hcz40_1 : w39.cell? ⟨gb373, 1, none⟩ = some (.int .i64 0) := (blk_cell BK373.out 1).trans rfl; have hfz40_0 := blk_frozen BK373.out 0; have hfz40_1 := blk_frozen BK373.out 1))
                      go_roundg k2
                      case measure => have := HK1.out; have := HK2.out; omega
                      case rel => exact ⟨(x11_2), (wrap64 (x62_2 + 1)), (by first | rfl | (simp; done) | (simp [*]; done)), (by first | rfl | (simp; done) | (simp [*]; done)), H', ⟨by have := HK1.out; have := HK2.out; omega⟩, ⟨by repeat (first | (with_reducible first | exact HB.out | apply below_alloc | apply pw_below_drewN | apply below_drew1 | refine below_set ?_ GE373.out) | exact HB.out)⟩⟩
                  · rw [if_neg c30] at H
                    exact absurd H (by simp)
                · rw [if_neg c29] at H
                  exact absurd H (by simp)
              · rw [if_neg c28] at H
                have c28b0 : decide (x62_2 < (l3.length : Int)) = false := decide_eq_false c28
                clear c28
                replace H := Option.bind_eq_some_iff.mp H
                obtain ⟨t374, A410, H⟩ := H
                replace H : (some (t374, 0)) = some (r1, r2) := H
                have A41 := Aside0.mk A410
                clear A410
                simp only [Option.some.injEq, Prod.mk.injEq] at H
                obtain ⟨rfl, rfl⟩ := H
                go_wp2_with (first | ((with_reducible refine gate_callee (f := 68) rfl ?_); refine goesL_ (some 81) rfl rfl Tryd.func68 (by kernel_rfl) rfl #[.int .u32 x11_2] rfl (by (try simp only [List.map_toArray, List.map_cons, List.map_nil]); first | done | rfl | (simp only [List.length_drop, List.length_take]; rfl)) ?_; (with_reducible refine (cpuset_List.calls x11_2 t374 _ ?tb A41.out).mono ?_); (case tb => exact HT.out.step (by repeat (first | (with_reducible first | exact HB.out | apply below_alloc | apply pw_below_drewN | apply below_drew1) | exact HB.out))); rintro e w42 ⟨v375, rfl, ho0, hb⟩; refine ⟨_, rfl, ?_⟩; have n0_ := Aside0.mk (Kd.R_lower ho0 (below_size (by repeat (first | (with_reducible first | exact HB.out | apply below_alloc | apply pw_below_drewN | apply below_drew1) | exact HB.out)))); have n1_ := Aside0.mk (below_step (by repeat (first | (with_reducible first | exact HB.out | apply below_alloc | apply pw_below_drewN | apply below_drew1) | exact HB.out)) hb); clear HB; have HO376 := n0_; have HB := n1_; clear n0_ n1_; (try clear hb); (try clear hb2); (try clear hk); (try clear hi); (try clear ho0)))
                go_ret2
                exact ⟨_, by first | rfl | (simp [errW_none, errW_some] <;> rfl) | (simp [*, errW_none, errW_some] <;> rfl), by (with_reducible repeat (first | apply Kd.R_alloc | apply Kd.R_drewN | apply Kd.R_drew)); exact HO376.out, by repeat (first | (with_reducible first | exact HB.out | apply below_alloc | apply pw_below_drewN | apply below_drew1) | exact HB.out)⟩
  · rw [if_neg c6] at H
    have c6b0 : (t361 == 0) = false := beq_eq_false_iff_ne.mpr c6
    have c6b1 : (t361 != 0) = true := bne_iff_ne.mpr c6
    simp only [Option.some.injEq, Prod.mk.injEq] at H
    obtain ⟨rfl, rfl⟩ := H
    go_enter Tryd.func25, Tryd.ntmps25
    go_wp2_with (first | ((with_reducible refine gate_callee (f := 60) rfl ?_); refine goesL_ (some 21) rfl rfl Tryd.func60 (by kernel_rfl) rfl #[.slice A0 l0.length c0, .slice A1 l1.length c1, .int .u32 a2] rfl (by (try simp only [List.map_toArray, List.map_cons, List.map_nil]); first | done | rfl | (simp only [List.length_drop, List.length_take]; rfl)) ?_; (with_reducible refine (pick_asked.calls _ _ l0 _ _ l1 a2 t361 _ ?side1 ?side2 ?side3 ?side4 A5.out).mono ?_); (case side1 => repeat (first | exact HR0.out | (with_reducible refine Kd.C_alloc ?_ _) | (with_reducible refine Kd.C_drewN ?_ _) | (with_reducible refine Kd.C_drew ?_))); (case side2 => exact HC0.out); (case side3 => repeat (first | exact HR1.out | (with_reducible refine Kd.C_alloc ?_ _) | (with_reducible refine Kd.C_drewN ?_ _) | (with_reducible refine Kd.C_drew ?_))); (case side4 => exact HC1.out); rintro e w43 ⟨rfl, hb⟩; refine ⟨_, rfl, ?_⟩; have n0_ := Aside0.mk (below_step (by repeat (first | (with_reducible first | exact HB.out | apply below_alloc | apply pw_below_drewN | apply below_drew1) | exact HB.out)) hb); clear HB; have HB := n0_; clear n0_; (try clear hb); (try clear hb2); (try clear hk); (try clear hi)))
    go_ret2
    exact ⟨_, by first | rfl | (simp [errW_none, errW_some] <;> rfl) | (simp [*, errW_none, errW_some] <;> rfl), by first | exact Kd.R_nil _ _ _ _ _ | exact Kd.N_nil _ _ _ _ _ | exact Kd.V_nil _ _ _ _ _ | exact Kd.Q_nil _ _ _ _ _ | exact Kd.S_nil _ _ _ _ _, by repeat (first | (with_reducible first | exact HB.out | apply below_alloc | apply pw_below_drewN | apply below_drew1) | exact HB.out)⟩

end Go.Proofs.YtdmieaidheelbaaDoor.Q
end
/- QFpickWhole -/
section
-- Written by a program of this session (hprint.py), which drives the kit's print over hand-proved contracts. Lean checks it.
namespace Go.Proofs.YtdmieaidheelbaaDoor.Q
open Go.RowKit Go.Proofs.YtdmieaidheelbaaDoorW.PrintWords Go.Proofs.YtdmieaidheelbaaDoorW.PrintLast Go.Proofs.YtdmieaidheelbaaDoorW.PrintMore
attribute [local go_sem] max2_int min2_int max_two min_two max_three min_three max_four min_four   -- for this text's walks alone
set_option linter.unusedVariables false
set_option linter.unusedSimpArgs false

/-! ### pick_Whole: function 26 -/
mutual
def pick_Whole.l0 : Nat → List (S31) → List (S90) → Int → Int → Option (Bool)
  | 0, _, _, _, _ => none
  | k + 1, x1, x12, x13, x14 => if x14 < x13 then (if 0 ≤ x14 then (if x14 < (x12.length : Int) then (pick_Whole.l1 k x1 0 x12 x13 x14 ((rd_T90 x12 x14).f0) (((rd_T90 x12 x14).f0).length : Int) 0 ((rd_T90 x12 x14).f0) ((rd_T90 x12 x14).f1.f0.f0) ((rd_T90 x12 x14).f1.f0.f1) ((rd_T90 x12 x14).f1.f1) ((rd_T90 x12 x14).f2) ((rd_T90 x12 x14).f3)) else (none)) else (none)) else (some true)
def pick_Whole.l1 : Nat → List (S31) → Int → List (S90) → Int → Int → List Int → Int → Int → List Int → Int → Int → Int → Int → Bool → Option (Bool)
  | 0, _, _, _, _, _, _, _, _, _, _, _, _, _, _ => none
  | k + 1, x1, x7, x12, x13, x14, x19, x20, x21, x379000, x379001, x379002, x379003, x379004, x379005 => if x21 < x20 then (if 0 ≤ x21 then (if x21 < (x19.length : Int) then ((pick_On.f x1 (rd x19 x21)).bind fun bt380 => (if bt380.2 = true then (pick_Whole.l1 k x1 (wrap64 (x7 + 1)) x12 x13 x14 x19 x20 (wrap64 (x21 + 1)) x379000 x379001 x379002 x379003 x379004 x379005) else (pick_Whole.l1 k x1 x7 x12 x13 x14 x19 x20 (wrap64 (x21 + 1)) x379000 x379001 x379002 x379003 x379004 x379005))) else (none)) else (none)) else (if x7 > 0 then (if x7 < (x379000.length : Int) then (some false) else (pick_Whole.l0 k x1 x12 x13 (wrap64 (x14 + 1)))) else (pick_Whole.l0 k x1 x12 x13 (wrap64 (x14 + 1))))
end
def pick_Whole.f (k : Nat) (l0 : List (S90)) (l1 : List (S31)) : Option (Bool) := pick_Whole.l0 k l1 l0 (l0.length : Int) 0
theorem pick_Whole.mono_l : ∀ k, (∀ y0 y1 y2 y3, LeO (pick_Whole.l0 k y0 y1 y2 y3) (pick_Whole.l0 (k + 1) y0 y1 y2 y3)) ∧ (∀ y0 y1 y2 y3 y4 y5 y6 y7 y8 y9 y10 y11 y12 y13, LeO (pick_Whole.l1 k y0 y1 y2 y3 y4 y5 y6 y7 y8 y9 y10 y11 y12 y13) (pick_Whole.l1 (k + 1) y0 y1 y2 y3 y4 y5 y6 y7 y8 y9 y10 y11 y12 y13))
  | 0 => ⟨fun _ _ _ _ r h => by simp [pick_Whole.l0] at h, fun _ _ _ _ _ _ _ _ _ _ _ _ _ _ r h => by simp [pick_Whole.l1] at h⟩
  | k + 1 => by
    obtain ⟨ih0, ih1⟩ := pick_Whole.mono_l k
    refine ⟨?_, ?_⟩
    · intro y0 y1 y2 y3
      unfold pick_Whole.l0
      repeat' first
      | (with_reducible exact ih0 _ _ _ _)
      | (with_reducible exact ih1 _ _ _ _ _ _ _ _ _ _ _ _ _ _)
      | (with_reducible exact LeO.refl _)
      | (with_reducible exact LeO.none _)
      | (with_reducible refine LeO.ite ?_ ?_)
      | (with_reducible refine LeO.bind ?_ (fun _ => ?_))
      | exact ih0 _ _ _ _
      | exact ih1 _ _ _ _ _ _ _ _ _ _ _ _ _ _
      | exact LeO.none _
      | refine LeO.ite ?_ ?_
      | refine LeO.bind ?_ (fun _ => ?_)
    · intro y0 y1 y2 y3 y4 y5 y6 y7 y8 y9 y10 y11 y12 y13
      unfold pick_Whole.l1
      repeat' first
      | (with_reducible exact ih0 _ _ _ _)
      | (with_reducible exact ih1 _ _ _ _ _ _ _ _ _ _ _ _ _ _)
      | (with_reducible exact LeO.refl _)
      | (with_reducible exact LeO.none _)
      | (with_reducible refine LeO.ite ?_ ?_)
      | (with_reducible refine LeO.bind ?_ (fun _ => ?_))
      | exact ih0 _ _ _ _
      | exact ih1 _ _ _ _ _ _ _ _ _ _ _ _ _ _
      | exact LeO.none _
      | refine LeO.ite ?_ ?_
      | refine LeO.bind ?_ (fun _ => ?_)
theorem pick_Whole.mono : ∀ a0 a1 k, LeO (pick_Whole.f k a0 a1) (pick_Whole.f (k + 1) a0 a1) := by
  intro a0 a1 k
  obtain ⟨ih0, ih1⟩ := pick_Whole.mono_l k
  unfold pick_Whole.f
  repeat' first
      | (with_reducible exact ih0 _ _ _ _)
      | (with_reducible exact ih1 _ _ _ _ _ _ _ _ _ _ _ _ _ _)
      | (with_reducible exact LeO.refl _)
      | (with_reducible exact LeO.none _)
      | (with_reducible refine LeO.ite ?_ ?_)
      | (with_reducible refine LeO.bind ?_ (fun _ => ?_))
      | exact ih0 _ _ _ _
      | exact ih1 _ _ _ _ _ _ _ _ _ _ _ _ _ _
      | exact LeO.none _
      | refine LeO.ite ?_ ?_
      | refine LeO.bind ?_ (fun _ => ?_)
set_option maxHeartbeats 8000000 in
set_option maxRecDepth 100000 in
theorem pick_Whole.calls (k : Nat) (A0 : Option Addr) (c0 : Nat) (l0 : List (S90)) (A1 : Option Addr) (c1 : Nat) (l1 : List (S31)) (r : Bool) (w : World) (hr0 : Kd.C k90 w A0 l0.length l0) (hc0 : l0.length ≤ c0) (hr1 : Kd.C k31 w A1 l1.length l1) (hc1 : l1.length ≤ c1) (h : pick_Whole.f k l0 l1 = some r) :
    Calls Tryd.prog 26 #[.slice A0 l0.length c0, .slice A1 l1.length c1] w fun e w' => e = .returned (.bool r) ∧ Below w.heap.size w w' := by
  have hu90 := Tryd.underlying90
  have HR0 := Aside0.mk hr0
  have HC0 := Aside0.mk hc0
  clear hr0 hc0
  have HR1 := Aside0.mk hr1
  have HC1 := Aside0.mk hc1
  clear hr1 hc1
  have HB := Aside0.mk (Below.refl w.heap.size w)
  have H : (pick_Whole.l0 k l1 l0 (l0.length : Int) 0) = some r := h
  clear h
  have H' := Aside0.mk H
  clear H
  go_enter Tryd.func26, Tryd.ntmps26
  go_wp2
  go_loopg [14] k (fun kq v14 w' => ∃ (x14_1 : Int), v14 = .int .i64 x14_1 ∧ Aside0 (pick_Whole.l0 kq l1 l0 (l0.length : Int) x14_1 = some r) ∧ Aside0 (kq ≤ k) ∧ Aside0 (Below w.heap.size w w'))
  case atStart => exact ⟨(0), (by first | rfl | (simp; done) | (simp [*]; done)), H', ⟨Nat.le_refl _⟩, ⟨by repeat (first | (with_reducible first | exact HB.out | apply below_alloc | apply pw_below_drewN | apply below_drew1) | exact HB.out)⟩⟩
  case round =>
    clear H'
    try clear c1
    try clear c2
    try clear p2
    obtain ⟨x14_1, rfl, HA, HK1, HB⟩ := hrel
    cases gk with
    | zero => exact absurd HA.out (by simp [pick_Whole.l0])
    | succ k1 =>
      have H := HA.out
      clear HA
      simp only [pick_Whole.l0] at H
      by_cases c3 : x14_1 < (l0.length : Int)
      · rw [if_pos c3] at H
        have c3b0 : decide (x14_1 < (l0.length : Int)) = true := decide_eq_true c3
        clear c3
        by_cases c4 : 0 ≤ x14_1
        · rw [if_pos c4] at H
          have c4b0 : decide (0 ≤ x14_1) = true := decide_eq_true c4
          clear c4
          by_cases c5 : x14_1 < (l0.length : Int)
          · rw [if_pos c5] at H
            have c5b0 : decide (x14_1 < (l0.length : Int)) = true := decide_eq_true c5
            clear c5
            have H' := Aside0.mk H
            clear H
            have p377 : 0 ≤ (x14_1 : Int) := of_decide_eq_true (by first | (with_reducible assumption) | assumption)
            have q377 : x14_1 < (l0.length : Int) := of_decide_eq_true (by first | (with_reducible assumption) | assumption)
            obtain ⟨ad377, A377_0, c377_0, e377, hx377_0, hx377_1, hx377_2, hx377_3, hx377_4, hx377_5, hl377_0, hi377_0⟩ := at_T90 HR0.out x14_1 p377 q377
            cases e377
            replace hx377_0 := (HB.out.cell (World.block_lt_of_cell? w _ hx377_0)).trans hx377_0
            replace hx377_1 := (HB.out.cell (World.block_lt_of_cell? w _ hx377_1)).trans hx377_1
            replace hx377_2 := (HB.out.cell (World.block_lt_of_cell? w _ hx377_2)).trans hx377_2
            replace hx377_3 := (HB.out.cell (World.block_lt_of_cell? w _ hx377_3)).trans hx377_3
            replace hx377_4 := (HB.out.cell (World.block_lt_of_cell? w _ hx377_4)).trans hx377_4
            replace hx377_5 := (HB.out.cell (World.block_lt_of_cell? w _ hx377_5)).trans hx377_5
            have HR377_0 := Aside0.mk hi377_0
            have HC377_0 := Aside0.mk hl377_0
            clear hi377_0 hl377_0
            replace p377 := eq_true p377
            replace q377 := eq_true q377
            go_wp2_with (first | ((with_reducible refine gate_dst (N := 6) rfl ?_); (try (refine gate_guard (by rfl) ?_; dsimp only)); refine box_event ?hg (N := 6) ?hd (cs := #[.slice none 0 0, .int .u64 0, .int .u64 0, .int .u64 0, .int .u64 0, .bool false]) (t := 90) ?hr ?_; (case hd => rfl); (case hg => rfl); (case hr => first | (go_simp; done) | (go_simp; rfl)); intro gb378 hg w6 hbox hb; have n0_ := Aside0.mk (below_step (by repeat (first | (with_reducible first | exact HB.out | apply below_alloc | apply pw_below_drewN | apply below_drew1) | exact HB.out)) hb); have n1_ := Aside0.mk (hbox); have n2_ := Aside0.mk ((by rw [hg]; exact (below_size (by repeat (first | (with_reducible first | exact HB.out | apply below_alloc | apply pw_below_drewN | apply below_drew1) | exact HB.out))) : w.heap.size ≤ gb378)); have n3_ := Aside0.mk ((by rw [hg]; exact (below_size (by repeat (first | (with_reducible first | exact HB.out | apply below_alloc | apply pw_below_drewN | apply below_drew1) | exact HB.out))) : w.heap.size ≤ gb378)); clear HB; have HB := n0_; have BK378 := n1_; have GW378 := n2_; have GE378 := n3_; clear n0_ n1_ n2_ n3_; clear hb hbox hg; have hcz7_0 : w6.cell? ⟨gb378, 0, none⟩ = some (.slice none 0 0) := (blk_cell BK378.out 0).trans rfl; have hcz7_1 : w6.cell? ⟨gb378, 1, none⟩ = some (.int .u64 0) := (blk_cell BK378.out 1).trans rfl; have hcz7_2 : w6.cell? ⟨gb378, 2, none⟩ = some (.int .u64 0) := (blk_cell BK378.out 2).trans rfl; have hcz7_3 : w6.cell? ⟨gb378, 3, none⟩ = some (.int .u64 0) := (blk_cell BK378.out 3).trans rfl; have hcz7_4 : w6.cell? ⟨gb378, 4, none⟩ = some (.int .u64 0) := (blk_cell BK378.out 4).trans rfl; have hcz7_5 : w6.cell? ⟨gb378, 5, none⟩ = some (.bool false) := (blk_cell BK378.out 5).trans rfl; have hfz7_0 := blk_frozen BK378.out 0; have hfz7_1 := blk_frozen BK378.out 1; have hfz7_2 := blk_frozen BK378.out 2; have hfz7_3 := blk_frozen BK378.out 3; have hfz7_4 := blk_frozen BK378.out 4; have hfz7_5 := blk_frozen BK378.out 5))
            go_loopg [7, 21] k1 (fun kq v7 v21 w' => ∃ (x7_2 : Int) (x21_2 : Int), v7 = .int .i64 x7_2 ∧ v21 = .int .i64 x21_2 ∧ Aside0 (pick_Whole.l1 kq l1 x7_2 l0 (l0.length : Int) x14_1 ((rd_T90 l0 x14_1).f0) (((rd_T90 l0 x14_1).f0).length : Int) x21_2 ((rd_T90 l0 x14_1).f0) ((rd_T90 l0 x14_1).f1.f0.f0) ((rd_T90 l0 x14_1).f1.f0.f1) ((rd_T90 l0 x14_1).f1.f1) ((rd_T90 l0 x14_1).f2) ((rd_T90 l0 x14_1).f3) = some r) ∧ Aside0 (kq ≤ k1) ∧ Aside0 (w'.heap[gb378]? = some (.cells #[(.slice A377_0 ((rd_T90 l0 x14_1).f0).length c377_0), .int .u64 ((rd_T90 l0 x14_1).f1.f0.f0), .int .u64 ((rd_T90 l0 x14_1).f1.f0.f1), .int .u64 ((rd_T90 l0 x14_1).f1.f1), .int .u64 ((rd_T90 l0 x14_1).f2), .bool ((rd_T90 l0 x14_1).f3)] 90 (0, 0))) ∧ Aside0 (Below w.heap.size w w'))
            case atStart => exact ⟨(0), (0), (by first | rfl | (simp; done) | (simp [*]; done)), (by first | rfl | (simp; done) | (simp [*]; done)), H', ⟨Nat.le_refl _⟩, ⟨by (with_reducible repeat (first | refine blk_drewN ?_ _ | refine blk_drew ?_ | refine blk_alloc ?_ _)); refine blk_put (cs := #[.slice A377_0 ((rd_T90 l0 x14_1).f0).length c377_0, .int .u64 ((rd_T90 l0 x14_1).f1.f0.f0), .int .u64 ((rd_T90 l0 x14_1).f1.f0.f1), .int .u64 ((rd_T90 l0 x14_1).f1.f1), .int .u64 ((rd_T90 l0 x14_1).f2), .bool false]) ?_ 5 _ rfl; (with_reducible repeat (first | refine blk_drewN ?_ _ | refine blk_drew ?_ | refine blk_alloc ?_ _)); refine blk_put (cs := #[.slice A377_0 ((rd_T90 l0 x14_1).f0).length c377_0, .int .u64 ((rd_T90 l0 x14_1).f1.f0.f0), .int .u64 ((rd_T90 l0 x14_1).f1.f0.f1), .int .u64 ((rd_T90 l0 x14_1).f1.f1), .int .u64 0, .bool false]) ?_ 4 _ rfl; (with_reducible repeat (first | refine blk_drewN ?_ _ | refine blk_drew ?_ | refine blk_alloc ?_ _)); refine blk_put (cs := #[.slice A377_0 ((rd_T90 l0 x14_1).f0).length c377_0, .int .u64 ((rd_T90 l0 x14_1).f1.f0.f0), .int .u64 ((rd_T90 l0 x14_1).f1.f0.f1), .int .u64 0, .int .u64 0, .bool false]) ?_ 3 _ rfl; (with_reducible repeat (first | refine blk_drewN ?_ _ | refine blk_drew ?_ | refine blk_alloc ?_ _)); refine blk_put (cs := #[.slice A377_0 ((rd_T90 l0 x14_1).f0).length c377_0, .int .u64 ((rd_T90 l0 x14_1).f1.f0.f0), .int .u64 0, .int .u64 0, .int .u64 0, .bool false]) ?_ 2 _ rfl; (with_reducible repeat (first | refine blk_drewN ?_ _ | refine blk_drew ?_ | refine blk_alloc ?_ _)); refine blk_put (cs := #[.slice A377_0 ((rd_T90 l0 x14_1).f0).length c377_0, .int .u64 0, .int .u64 0, .int .u64 0, .int .u64 0, .bool false]) ?_ 1 _ rfl; (with_reducible repeat (first | refine blk_drewN ?_ _ | refine blk_drew ?_ | refine blk_alloc ?_ _)); refine blk_put (cs := #[.slice none 0 0, .int .u64 0, .int .u64 0, .int .u64 0, .int .u64 0, .bool false]) ?_ 0 _ rfl; (with_reducible repeat (first | refine blk_drewN ?_ _ | refine blk_drew ?_ | refine blk_alloc ?_ _)); exact BK378.out⟩, ⟨by repeat (first | (with_reducible first | exact HB.out | apply below_alloc | apply pw_below_drewN | apply below_drew1 | refine below_set ?_ GE378.out) | exact HB.out)⟩⟩
            case round =>
              clear H'
              try clear c1
              try clear c2
              try clear p2
              try clear c3
              try clear c3b0
              try clear p3
              try clear q3
              try clear hx3
              try clear c4
              try clear c4b0
              try clear c5
              try clear c5b0
              try clear hcz7_0
              try clear hcz7_1
              try clear hcz7_2
              try clear hcz7_3
              try clear hcz7_4
              try clear hcz7_5
              try clear hfz7_0
              try clear hfz7_1
              try clear hfz7_2
              try clear hfz7_3
              try clear hfz7_4
              try clear hfz7_5
              try clear hx377_0
              try clear hx377_1
              try clear hx377_2
              try clear hx377_3
              try clear hx377_4
              try clear hx377_5
              try clear p2
              try clear p377
              try clear q377
              obtain ⟨x7_2, x21_2, rfl, rfl, HA, HK2, BK378, HB⟩ := hrel
              cases gk with
              | zero => exact absurd HA.out (by simp [pick_Whole.l1])
              | succ k2 =>
                have H := HA.out
                clear HA
                simp only [pick_Whole.l1] at H
                by_cases c8 : x21_2 < (((rd_T90 l0 x14_1).f0).length : Int)
                · rw [if_pos c8] at H
                  have c8b0 : decide (x21_2 < (((rd_T90 l0 x14_1).f0).length : Int)) = true := decide_eq_true c8
                  clear c8
                  by_cases c9 : 0 ≤ x21_2
                  · rw [if_pos c9] at H
                    have c9b0 : decide (0 ≤ x21_2) = true := decide_eq_true c9
                    clear c9
                    by_cases c10 : x21_2 < (((rd_T90 l0 x14_1).f0).length : Int)
                    · rw [if_pos c10] at H
                      have c10b0 : decide (x21_2 < (((rd_T90 l0 x14_1).f0).length : Int)) = true := decide_eq_true c10
                      clear c10
                      replace H := Option.bind_eq_some_iff.mp H
                      obtain ⟨⟨t380, t381⟩, A110, H⟩ := H
                      replace H : (if t381 = true then (pick_Whole.l1 k2 l1 (wrap64 (x7_2 + 1)) l0 (l0.length : Int) x14_1 ((rd_T90 l0 x14_1).f0) (((rd_T90 l0 x14_1).f0).length : Int) (wrap64 (x21_2 + 1)) ((rd_T90 l0 x14_1).f0) ((rd_T90 l0 x14_1).f1.f0.f0) ((rd_T90 l0 x14_1).f1.f0.f1) ((rd_T90 l0 x14_1).f1.f1) ((rd_T90 l0 x14_1).f2) ((rd_T90 l0 x14_1).f3)) else (pick_Whole.l1 k2 l1 x7_2 l0 (l0.length : Int) x14_1 ((rd_T90 l0 x14_1).f0) (((rd_T90 l0 x14_1).f0).length : Int) (wrap64 (x21_2 + 1)) ((rd_T90 l0 x14_1).f0) ((rd_T90 l0 x14_1).f1.f0.f0) ((rd_T90 l0 x14_1).f1.f0.f1) ((rd_T90 l0 x14_1).f1.f1) ((rd_T90 l0 x14_1).f2) ((rd_T90 l0 x14_1).f3))) = some r := H
                      have A11 := Aside0.mk A110
                      clear A110
                      by_cases c12 : t381 = true
                      · subst c12
                        have H1 : (pick_Whole.l1 k2 l1 (wrap64 (x7_2 + 1)) l0 (l0.length : Int) x14_1 ((rd_T90 l0 x14_1).f0) (((rd_T90 l0 x14_1).f0).length : Int) (wrap64 (x21_2 + 1)) ((rd_T90 l0 x14_1).f0) ((rd_T90 l0 x14_1).f1.f0.f0) ((rd_T90 l0 x14_1).f1.f0.f1) ((rd_T90 l0 x14_1).f1.f1) ((rd_T90 l0 x14_1).f2) ((rd_T90 l0 x14_1).f3)) = some r := by rw [if_pos rfl] at H; exact H
                        clear H
                        have H := H1
                        clear H1
                        have H' := Aside0.mk H
                        clear H
                        have p379 : 0 ≤ (x21_2 : Int) := of_decide_eq_true (by first | (with_reducible assumption) | assumption)
                        have q379 : x21_2 < (((rd_T90 l0 x14_1).f0).length : Int) := of_decide_eq_true (by first | (with_reducible assumption) | assumption)
                        obtain ⟨ad379, e379, hx379_0⟩ := Kd.at_int HR377_0.out x21_2 p379 q379
                        cases e379
                        replace hx379_0 := (HB.out.cell (World.block_lt_of_cell? w _ hx379_0)).trans hx379_0
                        replace p379 := eq_true p379
                        replace q379 := eq_true q379
                        go_wp2_with (first | ((with_reducible refine gate_callee (f := 24) rfl ?_); refine goesL_ (some 28) rfl rfl Tryd.func24 (by kernel_rfl) rfl #[.slice A1 l1.length c1, .int .i64 (rd ((rd_T90 l0 x14_1).f0) x21_2)] rfl (by (try simp only [List.map_toArray, List.map_cons, List.map_nil]); first | done | rfl | (simp only [List.length_drop, List.length_take]; rfl)) ?_; (with_reducible refine (pick_On.calls _ _ l1 (rd ((rd_T90 l0 x14_1).f0) x21_2) t380 true _ ?side1 ?side2 A11.out).mono ?_); (case side1 => repeat (first | exact (Kd.C_below HR1.out HB.out) | (with_reducible refine Kd.C_alloc ?_ _) | (with_reducible refine Kd.C_drewN ?_ _) | (with_reducible refine Kd.C_drew ?_))); (case side2 => exact HC1.out); rintro e w13 ⟨rfl, hb⟩; refine ⟨_, rfl, ?_⟩; have n0_ := Aside0.mk (blk_below (g := gb378) (o := .cells #[.slice (some ad379) ((rd_T90 l0 x14_1).f0).length c377_0, .int .u64 ((rd_T90 l0 x14_1).f1.f0.f0), .int .u64 ((rd_T90 l0 x14_1).f1.f0.f1), .int .u64 ((rd_T90 l0 x14_1).f1.f1), .int .u64 ((rd_T90 l0 x14_1).f2), .bool ((rd_T90 l0 x14_1).f3)] 90 (0, 0)) (by (with_reducible repeat (first | refine blk_drewN ?_ _ | refine blk_drew ?_ | refine blk_alloc ?_ _)); exact BK378.out) hb); have n1_ := Aside0.mk (below_step (by repeat (first | (with_reducible first | exact HB.out | apply below_alloc | apply pw_below_drewN | apply below_drew1 | refine below_set ?_ GE378.out) | exact HB.out)) hb); clear BK378; clear HB; have BK378 := n0_; have HB := n1_; clear n0_ n1_; (try clear hb); (try clear hb2); (try clear hk); (try clear hi)))
                        go_roundg k2
                        case measure => have := HK1.out; have := HK2.out; omega
                        case rel => exact ⟨(wrap64 (x7_2 + 1)), (wrap64 (x21_2 + 1)), (by first | rfl | (simp; done) | (simp [*]; done)), (by first | rfl | (simp; done) | (simp [*]; done)), H', ⟨by have := HK1.out; have := HK2.out; omega⟩, ⟨by (with_reducible repeat (first | refine blk_drewN ?_ _ | refine blk_drew ?_ | refine blk_alloc ?_ _)); exact BK378.out⟩, ⟨by repeat (first | (with_reducible first | exact HB.out | apply below_alloc | apply pw_below_drewN | apply below_drew1 | refine below_set ?_ GE378.out) | exact HB.out)⟩⟩
                      · replace c12 := Bool.eq_false_iff.mpr c12
                        subst c12
                        have H1 : (pick_Whole.l1 k2 l1 x7_2 l0 (l0.length : Int) x14_1 ((rd_T90 l0 x14_1).f0) (((rd_T90 l0 x14_1).f0).length : Int) (wrap64 (x21_2 + 1)) ((rd_T90 l0 x14_1).f0) ((rd_T90 l0 x14_1).f1.f0.f0) ((rd_T90 l0 x14_1).f1.f0.f1) ((rd_T90 l0 x14_1).f1.f1) ((rd_T90 l0 x14_1).f2) ((rd_T90 l0 x14_1).f3)) = some r := by rw [if_neg (show ¬ (false = true) by decide)] at H; exact H
                        clear H
                        have H := H1
                        clear H1
                        have H' := Aside0.mk H
                        clear H
                        have p379 : 0 ≤ (x21_2 : Int) := of_decide_eq_true (by first | (with_reducible assumption) | assumption)
                        have q379 : x21_2 < (((rd_T90 l0 x14_1).f0).length : Int) := of_decide_eq_true (by first | (with_reducible assumption) | assumption)
                        obtain ⟨ad379, e379, hx379_0⟩ := Kd.at_int HR377_0.out x21_2 p379 q379
                        cases e379
                        replace hx379_0 := (HB.out.cell (World.block_lt_of_cell? w _ hx379_0)).trans hx379_0
                        replace p379 := eq_true p379
                        replace q379 := eq_true q379
                        go_wp2_with (first | ((with_reducible refine gate_callee (f := 24) rfl ?_); refine goesL_ (some 28) rfl rfl Tryd.func24 (by kernel_rfl) rfl #[.slice A1 l1.length c1, .int .i64 (rd ((rd_T90 l0 x14_1).f0) x21_2)] rfl (by (try simp only [List.map_toArray, List.map_cons, List.map_nil]); first | done | rfl | (simp only [List.length_drop, List.length_take]; rfl)) ?_; (with_reducible refine (pick_On.calls _ _ l1 (rd ((rd_T90 l0 x14_1).f0) x21_2) t380 false _ ?side1 ?side2 A11.out).mono ?_); (case side1 => repeat (first | exact (Kd.C_below HR1.out HB.out) | (with_reducible refine Kd.C_alloc ?_ _) | (with_reducible refine Kd.C_drewN ?_ _) | (with_reducible refine Kd.C_drew ?_))); (case side2 => exact HC1.out); rintro e w14 ⟨rfl, hb⟩; refine ⟨_, rfl, ?_⟩; have n0_ := Aside0.mk (blk_below (g := gb378) (o := .cells #[.slice (some ad379) ((rd_T90 l0 x14_1).f0).length c377_0, .int .u64 ((rd_T90 l0 x14_1).f1.f0.f0), .int .u64 ((rd_T90 l0 x14_1).f1.f0.f1), .int .u64 ((rd_T90 l0 x14_1).f1.f1), .int .u64 ((rd_T90 l0 x14_1).f2), .bool ((rd_T90 l0 x14_1).f3)] 90 (0, 0)) (by (with_reducible repeat (first | refine blk_drewN ?_ _ | refine blk_drew ?_ | refine blk_alloc ?_ _)); exact BK378.out) hb); have n1_ := Aside0.mk (below_step (by repeat (first | (with_reducible first | exact HB.out | apply below_alloc | apply pw_below_drewN | apply below_drew1 | refine below_set ?_ GE378.out) | exact HB.out)) hb); clear BK378; clear HB; have BK378 := n0_; have HB := n1_; clear n0_ n1_; (try clear hb); (try clear hb2); (try clear hk); (try clear hi)))
                        go_roundg k2
                        case measure => have := HK1.out; have := HK2.out; omega
                        case rel => exact ⟨(x7_2), (wrap64 (x21_2 + 1)), (by first | rfl | (simp; done) | (simp [*]; done)), (by first | rfl | (simp; done) | (simp [*]; done)), H', ⟨by have := HK1.out; have := HK2.out; omega⟩, ⟨by (with_reducible repeat (first | refine blk_drewN ?_ _ | refine blk_drew ?_ | refine blk_alloc ?_ _)); exact BK378.out⟩, ⟨by repeat (first | (with_reducible first | exact HB.out | apply below_alloc | apply pw_below_drewN | apply below_drew1 | refine below_set ?_ GE378.out) | exact HB.out)⟩⟩
                    · rw [if_neg c10] at H
                      exact absurd H (by simp)
                  · rw [if_neg c9] at H
                    exact absurd H (by simp)
                · rw [if_neg c8] at H
                  have c8b0 : decide (x21_2 < (((rd_T90 l0 x14_1).f0).length : Int)) = false := decide_eq_false c8
                  clear c8
                  by_cases c15 : x7_2 > 0
                  · rw [if_pos c15] at H
                    have c15b0 : decide (0 < x7_2) = true := decide_eq_true c15
                    clear c15
                    by_cases c16 : x7_2 < (((rd_T90 l0 x14_1).f0).length : Int)
                    · rw [if_pos c16] at H
                      have c16b0 : decide (x7_2 < (((rd_T90 l0 x14_1).f0).length : Int)) = true := decide_eq_true c16
                      clear c16
                      obtain rfl := Option.some.inj H
                      have hcz17_0 : wr.cell? ⟨gb378, 0, none⟩ = some (.slice A377_0 ((rd_T90 l0 x14_1).f0).length c377_0) := (blk_cell BK378.out 0).trans rfl
                      have hcz17_1 : wr.cell? ⟨gb378, 1, none⟩ = some (.int .u64 ((rd_T90 l0 x14_1).f1.f0.f0)) := (blk_cell BK378.out 1).trans rfl
                      have hcz17_2 : wr.cell? ⟨gb378, 2, none⟩ = some (.int .u64 ((rd_T90 l0 x14_1).f1.f0.f1)) := (blk_cell BK378.out 2).trans rfl
                      have hcz17_3 : wr.cell? ⟨gb378, 3, none⟩ = some (.int .u64 ((rd_T90 l0 x14_1).f1.f1)) := (blk_cell BK378.out 3).trans rfl
                      have hcz17_4 : wr.cell? ⟨gb378, 4, none⟩ = some (.int .u64 ((rd_T90 l0 x14_1).f2)) := (blk_cell BK378.out 4).trans rfl
                      have hcz17_5 : wr.cell? ⟨gb378, 5, none⟩ = some (.bool ((rd_T90 l0 x14_1).f3)) := (blk_cell BK378.out 5).trans rfl
                      have hfz17_0 := blk_frozen BK378.out 0
                      have hfz17_1 := blk_frozen BK378.out 1
                      have hfz17_2 := blk_frozen BK378.out 2
                      have hfz17_3 := blk_frozen BK378.out 3
                      have hfz17_4 := blk_frozen BK378.out 4
                      have hfz17_5 := blk_frozen BK378.out 5
                      go_wp2
                      go_ret
                      exact ⟨by first | rfl | (simp [errW_none, errW_some] <;> rfl) | (simp [*, errW_none, errW_some] <;> rfl), by repeat (first | (with_reducible first | exact HB.out | apply below_alloc | apply pw_below_drewN | apply below_drew1 | refine below_set ?_ GE378.out) | exact HB.out)⟩
                    · rw [if_neg c16] at H
                      have c16b0 : decide (x7_2 < (((rd_T90 l0 x14_1).f0).length : Int)) = false := decide_eq_false c16
                      clear c16
                      have H' := Aside0.mk H
                      clear H
                      have hcz18_0 : wr.cell? ⟨gb378, 0, none⟩ = some (.slice A377_0 ((rd_T90 l0 x14_1).f0).length c377_0) := (blk_cell BK378.out 0).trans rfl
                      have hcz18_1 : wr.cell? ⟨gb378, 1, none⟩ = some (.int .u64 ((rd_T90 l0 x14_1).f1.f0.f0)) := (blk_cell BK378.out 1).trans rfl
                      have hcz18_2 : wr.cell? ⟨gb378, 2, none⟩ = some (.int .u64 ((rd_T90 l0 x14_1).f1.f0.f1)) := (blk_cell BK378.out 2).trans rfl
                      have hcz18_3 : wr.cell? ⟨gb378, 3, none⟩ = some (.int .u64 ((rd_T90 l0 x14_1).f1.f1)) := (blk_cell BK378.out 3).trans rfl
                      have hcz18_4 : wr.cell? ⟨gb378, 4, none⟩ = some (.int .u64 ((rd_T90 l0 x14_1).f2)) := (blk_cell BK378.out 4).trans rfl
                      have hcz18_5 : wr.cell? ⟨gb378, 5, none⟩ = some (.bool ((rd_T90 l0 x14_1).f3)) := (blk_cell BK378.out 5).trans rfl
                      have hfz18_0 := blk_frozen BK378.out 0
                      have hfz18_1 := blk_frozen BK378.out 1
                      have hfz18_2 := blk_frozen BK378.out 2
                      have hfz18_3 := blk_frozen BK378.out 3
                      have hfz18_4 := blk_frozen BK378.out 4
                      have hfz18_5 := blk_frozen BK378.out 5
                      go_wp2
                      go_roundg k2
                      case measure => have := HK1.out; have := HK2.out; omega
                      case rel => exact ⟨(wrap64 (x14_1 + 1)), (by first | rfl | (simp; done) | (simp [*]; done)), H', ⟨by have := HK1.out; have := HK2.out; omega⟩, ⟨by repeat (first | (with_reducible first | exact HB.out | apply below_alloc | apply pw_below_drewN | apply below_drew1 | refine below_set ?_ GE378.out) | exact HB.out)⟩⟩
                  · rw [if_neg c15] at H
                    have c15b0 : decide (0 < x7_2) = false := decide_eq_false c15
                    clear c15
                    have H' := Aside0.mk H
                    clear H
                    go_wp2
                    go_roundg k2
                    case measure => have := HK1.out; have := HK2.out; omega
                    case rel => exact ⟨(wrap64 (x14_1 + 1)), (by first | rfl | (simp; done) | (simp [*]; done)), H', ⟨by have := HK1.out; have := HK2.out; omega⟩, ⟨by repeat (first | (with_reducible first | exact HB.out | apply below_alloc | apply pw_below_drewN | apply below_drew1 | refine below_set ?_ GE378.out) | exact HB.out)⟩⟩
          · rw [if_neg c5] at H
            exact absurd H (by simp)
        · rw [if_neg c4] at H
          exact absurd H (by simp)
      · rw [if_neg c3] at H
        have c3b0 : decide (x14_1 < (l0.length : Int)) = false := decide_eq_false c3
        clear c3
        obtain rfl := Option.some.inj H
        go_wp2
        go_ret
        exact ⟨by first | rfl | (simp [errW_none, errW_some] <;> rfl) | (simp [*, errW_none, errW_some] <;> rfl), by repeat (first | (with_reducible first | exact HB.out | apply below_alloc | apply pw_below_drewN | apply below_drew1) | exact HB.out)⟩

end Go.Proofs.YtdmieaidheelbaaDoor.Q
end
/- QFlaw19PickWhole -/
section
-- Written by a program of this session (hprint.py), which drives the kit's print over hand-proved contracts. Lean checks it.
namespace Go.Proofs.YtdmieaidheelbaaDoor.Q
open Go.RowKit Go.Proofs.YtdmieaidheelbaaDoorW.PrintWords Go.Proofs.YtdmieaidheelbaaDoorW.PrintLast Go.Proofs.YtdmieaidheelbaaDoorW.PrintMore
attribute [local go_sem] max2_int min2_int max_two min_two max_three min_three max_four min_four   -- for this text's walks alone
set_option linter.unusedVariables false
set_option linter.unusedSimpArgs false

/-! ### mainsheetlaw19_PickWhole: function 5 -/
mutual
def mainsheetlaw19_PickWhole.l0 : Nat → List (S31) → List Int → Int → List (S31) → Int → Int → List (S90) → List (S36) → Int → Option (Bool)
  | 0, _, _, _, _, _, _, _, _, _ => none
  | k + 1, x3, x4, x6, x34, x35, x36, x383000, x383001, x383002 => if x36 < x35 then (if 0 ≤ x36 then (if x36 < (x34.length : Int) then ((cpuset_Has.f x6 ((rd_T31 x34 x36).f1)).bind fun t394 => (if t394 = true then (some false) else ((mainsheetlaw19_Ask_wish.f k x383000 x383001 x383002 ((rd_T31 x34 x36).f0)).bind fun bt395 => ((mask_Allows.f k bt395.2.2.1 bt395.2.2.2 x383002).bind fun t399 => ((cpuset_Has.f t399 ((rd_T31 x34 x36).f1)).bind fun t400 => (if t400 = true then (if 0 ≤ ((rd_T31 x34 x36).f1) then (mainsheetlaw19_PickWhole.l0 k x3 x4 (Go.bits .or .u32 x6 (shl .u32 1 ((rd_T31 x34 x36).f1))) x34 x35 (wrap64 (x36 + 1)) x383000 x383001 x383002) else (none)) else (some false))))))) else (none)) else (none)) else (mainsheetlaw19_PickWhole.l1 k x3 x4 x4 (x4.length : Int) 0 x383000 x383001 x383002)
def mainsheetlaw19_PickWhole.l1 : Nat → List (S31) → List Int → List Int → Int → Int → List (S90) → List (S36) → Int → Option (Bool)
  | 0, _, _, _, _, _, _, _, _ => none
  | k + 1, x3, x4, x64, x65, x66, x383000, x383001, x383002 => if x66 < x65 then (if 0 ≤ x66 then (if x66 < (x64.length : Int) then ((pick_On.f x3 (rd x64 x66)).bind fun bt402 => (if bt402.2 = true then (some false) else (mainsheetlaw19_PickWhole.l1 k x3 x4 x64 x65 (wrap64 (x66 + 1)) x383000 x383001 x383002))) else (none)) else (none)) else ((pick_Idle.f k x383000 x383001 x383002 x3).bind fun bt404 => (if bt404.2 = 0 then (if (bt404.1.length : Int) = 0 then ((pick_Whole.f k x383000 x3).bind fun t408 => (if t408 = true then (some ((wrap64 ((x3.length : Int) + (x4.length : Int))) == (x383001.length : Int))) else (some false))) else (some false)) else (some false)))
end
def mainsheetlaw19_PickWhole.f (k : Nat) (l0_0 : List (S90)) (l0_1 : List (S36)) (a0_2 : Int) : Option (Bool) := (mainsheetlaw19_wakes.f).bind fun t383 => (if t383 = true then ((mainsheetlaw19_Ask_over.f k l0_0 l0_1 a0_2).bind fun t384 => (if t384 = true then (some true) else ((pick_Pick.f l0_0 l0_1 a0_2).bind fun bt385 => (if bt385.2.2 = 0 then (mainsheetlaw19_PickWhole.l0 k bt385.1 bt385.2.1 0 bt385.1 (bt385.1.length : Int) 0 l0_0 l0_1 a0_2) else (some ((bt385.1.length : Int) == 0)))))) else (some false))
theorem mainsheetlaw19_PickWhole.mono_l : ∀ k, (∀ y0 y1 y2 y3 y4 y5 y6 y7 y8, LeO (mainsheetlaw19_PickWhole.l0 k y0 y1 y2 y3 y4 y5 y6 y7 y8) (mainsheetlaw19_PickWhole.l0 (k + 1) y0 y1 y2 y3 y4 y5 y6 y7 y8)) ∧ (∀ y0 y1 y2 y3 y4 y5 y6 y7, LeO (mainsheetlaw19_PickWhole.l1 k y0 y1 y2 y3 y4 y5 y6 y7) (mainsheetlaw19_PickWhole.l1 (k + 1) y0 y1 y2 y3 y4 y5 y6 y7))
  | 0 => ⟨fun _ _ _ _ _ _ _ _ _ r h => by simp [mainsheetlaw19_PickWhole.l0] at h, fun _ _ _ _ _ _ _ _ r h => by simp [mainsheetlaw19_PickWhole.l1] at h⟩
  | k + 1 => by
    obtain ⟨ih0, ih1⟩ := mainsheetlaw19_PickWhole.mono_l k
    refine ⟨?_, ?_⟩
    · intro y0 y1 y2 y3 y4 y5 y6 y7 y8
      unfold mainsheetlaw19_PickWhole.l0
      repeat' first
      | (with_reducible exact ih0 _ _ _ _ _ _ _ _ _)
      | (with_reducible exact ih1 _ _ _ _ _ _ _ _)
      | (with_reducible exact mainsheetlaw19_Ask_over.mono _ _ _ _)
      | (with_reducible exact mainsheetlaw19_Ask_wish.mono _ _ _ _ _)
      | (with_reducible exact mask_Allows.mono _ _ _ _)
      | (with_reducible exact pick_Idle.mono _ _ _ _ _)
      | (with_reducible exact pick_Whole.mono _ _ _)
      | (with_reducible exact LeO.refl _)
      | (with_reducible exact LeO.none _)
      | (with_reducible refine LeO.ite ?_ ?_)
      | (with_reducible refine LeO.bind ?_ (fun _ => ?_))
      | exact ih0 _ _ _ _ _ _ _ _ _
      | exact ih1 _ _ _ _ _ _ _ _
      | exact mainsheetlaw19_Ask_over.mono _ _ _ _
      | exact mainsheetlaw19_Ask_wish.mono _ _ _ _ _
      | exact mask_Allows.mono _ _ _ _
      | exact pick_Idle.mono _ _ _ _ _
      | exact pick_Whole.mono _ _ _
      | exact LeO.none _
      | refine LeO.ite ?_ ?_
      | refine LeO.bind ?_ (fun _ => ?_)
    · intro y0 y1 y2 y3 y4 y5 y6 y7
      unfold mainsheetlaw19_PickWhole.l1
      repeat' first
      | (with_reducible exact ih0 _ _ _ _ _ _ _ _ _)
      | (with_reducible exact ih1 _ _ _ _ _ _ _ _)
      | (with_reducible exact mainsheetlaw19_Ask_over.mono _ _ _ _)
      | (with_reducible exact mainsheetlaw19_Ask_wish.mono _ _ _ _ _)
      | (with_reducible exact mask_Allows.mono _ _ _ _)
      | (with_reducible exact pick_Idle.mono _ _ _ _ _)
      | (with_reducible exact pick_Whole.mono _ _ _)
      | (with_reducible exact LeO.refl _)
      | (with_reducible exact LeO.none _)
      | (with_reducible refine LeO.ite ?_ ?_)
      | (with_reducible refine LeO.bind ?_ (fun _ => ?_))
      | exact ih0 _ _ _ _ _ _ _ _ _
      | exact ih1 _ _ _ _ _ _ _ _
      | exact mainsheetlaw19_Ask_over.mono _ _ _ _
      | exact mainsheetlaw19_Ask_wish.mono _ _ _ _ _
      | exact mask_Allows.mono _ _ _ _
      | exact pick_Idle.mono _ _ _ _ _
      | exact pick_Whole.mono _ _ _
      | exact LeO.none _
      | refine LeO.ite ?_ ?_
      | refine LeO.bind ?_ (fun _ => ?_)
theorem mainsheetlaw19_PickWhole.mono : ∀ a0 a1 a2 k, LeO (mainsheetlaw19_PickWhole.f k a0 a1 a2) (mainsheetlaw19_PickWhole.f (k + 1) a0 a1 a2) := by
  intro a0 a1 a2 k
  obtain ⟨ih0, ih1⟩ := mainsheetlaw19_PickWhole.mono_l k
  unfold mainsheetlaw19_PickWhole.f
  repeat' first
      | (with_reducible exact ih0 _ _ _ _ _ _ _ _ _)
      | (with_reducible exact ih1 _ _ _ _ _ _ _ _)
      | (with_reducible exact mainsheetlaw19_Ask_over.mono _ _ _ _)
      | (with_reducible exact mainsheetlaw19_Ask_wish.mono _ _ _ _ _)
      | (with_reducible exact mask_Allows.mono _ _ _ _)
      | (with_reducible exact pick_Idle.mono _ _ _ _ _)
      | (with_reducible exact pick_Whole.mono _ _ _)
      | (with_reducible exact LeO.refl _)
      | (with_reducible exact LeO.none _)
      | (with_reducible refine LeO.ite ?_ ?_)
      | (with_reducible refine LeO.bind ?_ (fun _ => ?_))
      | exact ih0 _ _ _ _ _ _ _ _ _
      | exact ih1 _ _ _ _ _ _ _ _
      | exact mainsheetlaw19_Ask_over.mono _ _ _ _
      | exact mainsheetlaw19_Ask_wish.mono _ _ _ _ _
      | exact mask_Allows.mono _ _ _ _
      | exact pick_Idle.mono _ _ _ _ _
      | exact pick_Whole.mono _ _ _
      | exact LeO.none _
      | refine LeO.ite ?_ ?_
      | refine LeO.bind ?_ (fun _ => ?_)
def mainsheetlaw19_PickWhole.T12 : Bool × List (List Nat × List Nat) := (true, [([], []), ([], []), ([1], [1]), ([0, 2], [0, 2]), ([3, 3], [3]), ([4], [4]), ([4], [4]), ([6, 4], [4, 6]), ([5, 7, 4, 4], [4, 5, 7]), ([8, 4], [4, 8]), ([4], [4]), ([10, 4], [4, 10]), ([9, 11, 8, 4], [4, 9, 11]), ([4], [4]), ([13, 4], [4, 13]), ([12, 14, 12, 4], [4, 12, 14]), ([15, 4], [4, 15]), ([4, 16], [4, 16])])
def mainsheetlaw19_PickWhole.B12 : List Nat := [0, 0, 2, 7, 15, 31, 31, 95, 255, 511, 31, 1055, 4095, 31, 8223, 32767, 65535, 131071]
theorem mainsheetlaw19_PickWhole.tab12 : rtab .any (opsOf Tryd.f5 12) = mainsheetlaw19_PickWhole.T12 := by kernel_rfl
theorem mainsheetlaw19_PickWhole.bits12 : waitsOk mainsheetlaw19_PickWhole.T12.2 mainsheetlaw19_PickWhole.B12 = true := by kernel_rfl
set_option maxHeartbeats 8000000 in
set_option maxRecDepth 100000 in
theorem mainsheetlaw19_PickWhole.calls (k : Nat) (A0_0 : Option Addr) (c0_0 : Nat) (l0_0 : List (S90)) (A0_1 : Option Addr) (c0_1 : Nat) (l0_1 : List (S36)) (a0_2 : Int) (r : Bool) (w : World) (hr0_0 : Kd.C k90 w A0_0 l0_0.length l0_0) (hc0_0 : l0_0.length ≤ c0_0) (hr0_1 : Kd.C k36 w A0_1 l0_1.length l0_1) (hc0_1 : l0_1.length ≤ c0_1) (hT : TabW w) (h : mainsheetlaw19_PickWhole.f k l0_0 l0_1 a0_2 = some r) :
    Calls Tryd.prog 5 #[.agg #[.slice A0_0 l0_0.length c0_0, .slice A0_1 l0_1.length c0_1, .int .u32 a0_2]] w fun e w' => e = .returned (.bool r) ∧ Below w.heap.size w w' := by
  have HT := Aside0.mk hT
  clear hT
  have hu41 := Tryd.underlying41
  have hu31 := Tryd.underlying31
  have HR0_0 := Aside0.mk hr0_0
  have HC0_0 := Aside0.mk hc0_0
  clear hr0_0 hc0_0
  have HR0_1 := Aside0.mk hr0_1
  have HC0_1 := Aside0.mk hc0_1
  clear hr0_1 hc0_1
  have HB := Aside0.mk (Below.refl w.heap.size w)
  have H : ((mainsheetlaw19_wakes.f).bind fun t383 => (if t383 = true then ((mainsheetlaw19_Ask_over.f k l0_0 l0_1 a0_2).bind fun t384 => (if t384 = true then (some true) else ((pick_Pick.f l0_0 l0_1 a0_2).bind fun bt385 => (if bt385.2.2 = 0 then (mainsheetlaw19_PickWhole.l0 k bt385.1 bt385.2.1 0 bt385.1 (bt385.1.length : Int) 0 l0_0 l0_1 a0_2) else (some ((bt385.1.length : Int) == 0)))))) else (some false))) = some r := h
  clear h
  replace H := Option.bind_eq_some_iff.mp H
  obtain ⟨t383, A20, H⟩ := H
  replace H : (if t383 = true then ((mainsheetlaw19_Ask_over.f k l0_0 l0_1 a0_2).bind fun t384 => (if t384 = true then (some true) else ((pick_Pick.f l0_0 l0_1 a0_2).bind fun bt385 => (if bt385.2.2 = 0 then (mainsheetlaw19_PickWhole.l0 k bt385.1 bt385.2.1 0 bt385.1 (bt385.1.length : Int) 0 l0_0 l0_1 a0_2) else (some ((bt385.1.length : Int) == 0)))))) else (some false)) = some r := H
  have A2 := Aside0.mk A20
  clear A20
  by_cases c3 : t383 = true
  · subst c3
    have H1 : ((mainsheetlaw19_Ask_over.f k l0_0 l0_1 a0_2).bind fun t384 => (if t384 = true then (some true) else ((pick_Pick.f l0_0 l0_1 a0_2).bind fun bt385 => (if bt385.2.2 = 0 then (mainsheetlaw19_PickWhole.l0 k bt385.1 bt385.2.1 0 bt385.1 (bt385.1.length : Int) 0 l0_0 l0_1 a0_2) else (some ((bt385.1.length : Int) == 0)))))) = some r := by rw [if_pos rfl] at H; exact H
    clear H
    have H := H1
    clear H1
    replace H := Option.bind_eq_some_iff.mp H
    obtain ⟨t384, A40, H⟩ := H
    replace H : (if t384 = true then (some true) else ((pick_Pick.f l0_0 l0_1 a0_2).bind fun bt385 => (if bt385.2.2 = 0 then (mainsheetlaw19_PickWhole.l0 k bt385.1 bt385.2.1 0 bt385.1 (bt385.1.length : Int) 0 l0_0 l0_1 a0_2) else (some ((bt385.1.length : Int) == 0))))) = some r := H
    have A4 := Aside0.mk A40
    clear A40
    by_cases c5 : t384 = true
    · subst c5
      have H1 : (some true) = some r := by rw [if_pos rfl] at H; exact H
      clear H
      have H := H1
      clear H1
      obtain rfl := Option.some.inj H
      go_enter Tryd.func5, Tryd.ntmps5
      go_wp2_with (first | ((with_reducible refine gate_dst (N := 1) rfl ?_); (try (refine gate_guard (by rfl) ?_; dsimp only)); refine box_event ?hg (N := 1) ?hd (cs := #[.slice A0_0 l0_0.length c0_0, .slice A0_1 l0_1.length c0_1, .int .u32 a0_2]) (t := 41) ?hr ?_; (case hd => rfl); (case hg => rfl); (case hr => first | (go_simp; done) | (go_simp; rfl)); intro gb382 hg w6 hbox hb; have n0_ := Aside0.mk (below_step (by repeat (first | (with_reducible first | exact HB.out | apply below_alloc | apply pw_below_drewN | apply below_drew1) | exact HB.out)) hb); have n1_ := Aside0.mk (hbox); have n2_ := Aside0.mk ((by rw [hg]; exact (below_size (by repeat (first | (with_reducible first | exact HB.out | apply below_alloc | apply pw_below_drewN | apply below_drew1) | exact HB.out))) : w.heap.size ≤ gb382)); have n3_ := Aside0.mk ((by rw [hg]; exact (below_size (by repeat (first | (with_reducible first | exact HB.out | apply below_alloc | apply pw_below_drewN | apply below_drew1) | exact HB.out))) : w.heap.size ≤ gb382)); clear HB; have HB := n0_; have BK382 := n1_; have GW382 := n2_; have GE382 := n3_; clear n0_ n1_ n2_ n3_; clear hb hbox hg) | ((with_reducible refine gate_callee (f := 18) rfl ?_); refine goesL_ (some 14) rfl rfl Tryd.func18 (by kernel_rfl) rfl #[] rfl (by (try simp only [List.map_toArray, List.map_cons, List.map_nil]); first | done | rfl | (simp only [List.length_drop, List.length_take]; rfl)) ?_; (with_reducible refine (mainsheetlaw19_wakes.calls  true _ ?tb A2.out).mono ?_); (case tb => exact HT.out.step (by repeat (first | (with_reducible first | exact HB.out | apply below_alloc | apply pw_below_drewN | apply below_drew1 | refine below_set ?_ GE382.out) | exact HB.out))); rintro e w7 ⟨rfl, hb⟩; refine ⟨_, rfl, ?_⟩; have n0_ := Aside0.mk (blk_below (g := gb382) (o := .cells #[.slice A0_0 l0_0.length c0_0, .slice A0_1 l0_1.length c0_1, .int .u32 a0_2] 41 (0, 0)) (by (with_reducible repeat (first | refine blk_drewN ?_ _ | refine blk_drew ?_ | refine blk_alloc ?_ _)); exact BK382.out) hb); have n1_ := Aside0.mk (below_step (by repeat (first | (with_reducible first | exact HB.out | apply below_alloc | apply pw_below_drewN | apply below_drew1 | refine below_set ?_ GE382.out) | exact HB.out)) hb); clear BK382; clear HB; have BK382 := n0_; have HB := n1_; clear n0_ n1_; (try clear hb); (try clear hb2); (try clear hk); (try clear hi); have hcz8_0 : w7.cell? ⟨gb382, 0, none⟩ = some (.slice A0_0 l0_0.length c0_0) := (blk_cell BK382.out 0).trans rfl; have hcz8_1 : w7.cell? ⟨gb382, 1, none⟩ = some (.slice A0_1 l0_1.length c0_1) := (blk_cell BK382.out 1).trans rfl; have hcz8_2 : w7.cell? ⟨gb382, 2, none⟩ = some (.int .u32 a0_2) := (blk_cell BK382.out 2).trans rfl; have hfz8_0 := blk_frozen BK382.out 0; have hfz8_1 := blk_frozen BK382.out 1; have hfz8_2 := blk_frozen BK382.out 2) | ((with_reducible refine gate_callee (f := 19) rfl ?_); refine goesL_ (some 17) rfl rfl Tryd.func19 (by kernel_rfl) rfl #[.agg #[.slice A0_0 l0_0.length c0_0, .slice A0_1 l0_1.length c0_1, .int .u32 a0_2]] rfl (by (try simp only [List.map_toArray, List.map_cons, List.map_nil]); first | done | rfl | (simp only [List.length_drop, List.length_take]; rfl)) ?_; (with_reducible refine (mainsheetlaw19_Ask_over.calls k _ _ l0_0 _ _ l0_1 a0_2 true _ ?side1 ?side2 ?side3 ?side4 A4.out).mono ?_); (case side1 => repeat (first | exact (Kd.C_below HR0_0.out HB.out) | (with_reducible refine Kd.C_alloc ?_ _) | (with_reducible refine Kd.C_drewN ?_ _) | (with_reducible refine Kd.C_drew ?_))); (case side2 => exact HC0_0.out); (case side3 => repeat (first | exact (Kd.C_below HR0_1.out HB.out) | (with_reducible refine Kd.C_alloc ?_ _) | (with_reducible refine Kd.C_drewN ?_ _) | (with_reducible refine Kd.C_drew ?_))); (case side4 => exact HC0_1.out); rintro e w9 ⟨rfl, hb⟩; refine ⟨_, rfl, ?_⟩; have n0_ := Aside0.mk (blk_below (g := gb382) (o := .cells #[.slice A0_0 l0_0.length c0_0, .slice A0_1 l0_1.length c0_1, .int .u32 a0_2] 41 (0, 0)) (by (with_reducible repeat (first | refine blk_drewN ?_ _ | refine blk_drew ?_ | refine blk_alloc ?_ _)); exact BK382.out) hb); have n1_ := Aside0.mk (below_step (by repeat (first | (with_reducible first | exact HB.out | apply below_alloc | apply pw_below_drewN | apply below_drew1 | refine below_set ?_ GE382.out) | exact HB.out)) hb); clear BK382; clear HB; have BK382 := n0_; have HB := n1_; clear n0_ n1_; (try clear hb); (try clear hb2); (try clear hk); (try clear hi)))
      go_ret
      exact ⟨by first | rfl | (simp [errW_none, errW_some] <;> rfl) | (simp [*, errW_none, errW_some] <;> rfl), by repeat (first | (with_reducible first | exact HB.out | apply below_alloc | apply pw_below_drewN | apply below_drew1 | refine below_set ?_ GE382.out) | exact HB.out)⟩
    · replace c5 := Bool.eq_false_iff.mpr c5
      subst c5
      have H1 : ((pick_Pick.f l0_0 l0_1 a0_2).bind fun bt385 => (if bt385.2.2 = 0 then (mainsheetlaw19_PickWhole.l0 k bt385.1 bt385.2.1 0 bt385.1 (bt385.1.length : Int) 0 l0_0 l0_1 a0_2) else (some ((bt385.1.length : Int) == 0)))) = some r := by rw [if_neg (show ¬ (false = true) by decide)] at H; exact H
      clear H
      have H := H1
      clear H1
      replace H := Option.bind_eq_some_iff.mp H
      obtain ⟨⟨t385, t386, t387⟩, A100, H⟩ := H
      replace H : (if t387 = 0 then (mainsheetlaw19_PickWhole.l0 k t385 t386 0 t385 (t385.length : Int) 0 l0_0 l0_1 a0_2) else (some ((t385.length : Int) == 0))) = some r := H
      have A10 := Aside0.mk A100
      clear A100
      by_cases c11 : t387 = 0
      · rw [if_pos c11] at H
        have c11b0 : (t387 == 0) = true := beq_iff_eq.mpr c11
        have c11b1 : (t387 != 0) = false := bne_eq_false_iff_eq.mpr c11
        clear c11
        have H' := Aside0.mk H
        clear H
        go_enter Tryd.func5, Tryd.ntmps5
        go_wp2_with (first | ((with_reducible refine gate_dst (N := 1) rfl ?_); (try (refine gate_guard (by rfl) ?_; dsimp only)); refine box_event ?hg (N := 1) ?hd (cs := #[.slice A0_0 l0_0.length c0_0, .slice A0_1 l0_1.length c0_1, .int .u32 a0_2]) (t := 41) ?hr ?_; (case hd => rfl); (case hg => rfl); (case hr => first | (go_simp; done) | (go_simp; rfl)); intro gb382 hg w12 hbox hb; have n0_ := Aside0.mk (below_step (by repeat (first | (with_reducible first | exact HB.out | apply below_alloc | apply pw_below_drewN | apply below_drew1) | exact HB.out)) hb); have n1_ := Aside0.mk (hbox); have n2_ := Aside0.mk ((by rw [hg]; exact (below_size (by repeat (first | (with_reducible first | exact HB.out | apply below_alloc | apply pw_below_drewN | apply below_drew1) | exact HB.out))) : w.heap.size ≤ gb382)); have n3_ := Aside0.mk ((by rw [hg]; exact (below_size (by repeat (first | (with_reducible first | exact HB.out | apply below_alloc | apply pw_below_drewN | apply below_drew1) | exact HB.out))) : w.heap.size ≤ gb382)); clear HB; have HB := n0_; have BK382 := n1_; have GW382 := n2_; have GE382 := n3_; clear n0_ n1_ n2_ n3_; clear hb hbox hg) | ((with_reducible refine gate_callee (f := 18) rfl ?_); refine goesL_ (some 14) rfl rfl Tryd.func18 (by kernel_rfl) rfl #[] rfl (by (try simp only [List.map_toArray, List.map_cons, List.map_nil]); first | done | rfl | (simp only [List.length_drop, List.length_take]; rfl)) ?_; (with_reducible refine (mainsheetlaw19_wakes.calls  true _ ?tb A2.out).mono ?_); (case tb => exact HT.out.step (by repeat (first | (with_reducible first | exact HB.out | apply below_alloc | apply pw_below_drewN | apply below_drew1 | refine below_set ?_ GE382.out) | exact HB.out))); rintro e w13 ⟨rfl, hb⟩; refine ⟨_, rfl, ?_⟩; have n0_ := Aside0.mk (blk_below (g := gb382) (o := .cells #[.slice A0_0 l0_0.length c0_0, .slice A0_1 l0_1.length c0_1, .int .u32 a0_2] 41 (0, 0)) (by (with_reducible repeat (first | refine blk_drewN ?_ _ | refine blk_drew ?_ | refine blk_alloc ?_ _)); exact BK382.out) hb); have n1_ := Aside0.mk (below_step (by repeat (first | (with_reducible first | exact HB.out | apply below_alloc | apply pw_below_drewN | apply below_drew1 | refine below_set ?_ GE382.out) | exact HB.out)) hb); clear BK382; clear HB; have BK382 := n0_; have HB := n1_; clear n0_ n1_; (try clear hb); (try clear hb2); (try clear hk); (try clear hi); have hcz14_0 : w13.cell? ⟨gb382, 0, none⟩ = some (.slice A0_0 l0_0.length c0_0) := (blk_cell BK382.out 0).trans rfl; have hcz14_1 : w13.cell? ⟨gb382, 1, none⟩ = some (.slice A0_1 l0_1.length c0_1) := (blk_cell BK382.out 1).trans rfl; have hcz14_2 : w13.cell? ⟨gb382, 2, none⟩ = some (.int .u32 a0_2) := (blk_cell BK382.out 2).trans rfl; have hfz14_0 := blk_frozen BK382.out 0; have hfz14_1 := blk_frozen BK382.out 1; have hfz14_2 := blk_frozen BK382.out 2) | ((with_reducible refine gate_callee (f := 19) rfl ?_); refine goesL_ (some 17) rfl rfl Tryd.func19 (by kernel_rfl) rfl #[.agg #[.slice A0_0 l0_0.length c0_0, .slice A0_1 l0_1.length c0_1, .int .u32 a0_2]] rfl (by (try simp only [List.map_toArray, List.map_cons, List.map_nil]); first | done | rfl | (simp only [List.length_drop, List.length_take]; rfl)) ?_; (with_reducible refine (mainsheetlaw19_Ask_over.calls k _ _ l0_0 _ _ l0_1 a0_2 false _ ?side1 ?side2 ?side3 ?side4 A4.out).mono ?_); (case side1 => repeat (first | exact (Kd.C_below HR0_0.out HB.out) | (with_reducible refine Kd.C_alloc ?_ _) | (with_reducible refine Kd.C_drewN ?_ _) | (with_reducible refine Kd.C_drew ?_))); (case side2 => exact HC0_0.out); (case side3 => repeat (first | exact (Kd.C_below HR0_1.out HB.out) | (with_reducible refine Kd.C_alloc ?_ _) | (with_reducible refine Kd.C_drewN ?_ _) | (with_reducible refine Kd.C_drew ?_))); (case side4 => exact HC0_1.out); rintro e w15 ⟨rfl, hb⟩; refine ⟨_, rfl, ?_⟩; have n0_ := Aside0.mk (blk_below (g := gb382) (o := .cells #[.slice A0_0 l0_0.length c0_0, .slice A0_1 l0_1.length c0_1, .int .u32 a0_2] 41 (0, 0)) (by (with_reducible repeat (first | refine blk_drewN ?_ _ | refine blk_drew ?_ | refine blk_alloc ?_ _)); exact BK382.out) hb); have n1_ := Aside0.mk (below_step (by repeat (first | (with_reducible first | exact HB.out | apply below_alloc | apply pw_below_drewN | apply below_drew1 | refine below_set ?_ GE382.out) | exact HB.out)) hb); clear BK382; clear HB; have BK382 := n0_; have HB := n1_; clear n0_ n1_; (try clear hb); (try clear hb2); (try clear hk); (try clear hi); have hcz16_0 : w15.cell? ⟨gb382, 0, none⟩ = some (.slice A0_0 l0_0.length c0_0) := (blk_cell BK382.out 0).trans rfl; have hcz16_1 : w15.cell? ⟨gb382, 1, none⟩ = some (.slice A0_1 l0_1.length c0_1) := (blk_cell BK382.out 1).trans rfl; have hcz16_2 : w15.cell? ⟨gb382, 2, none⟩ = some (.int .u32 a0_2) := (blk_cell BK382.out 2).trans rfl; have hfz16_0 := blk_frozen BK382.out 0; have hfz16_1 := blk_frozen BK382.out 1; have hfz16_2 := blk_frozen BK382.out 2) | ((with_reducible refine gate_callee (f := 20) rfl ?_); refine goesL_ (some 25) rfl rfl Tryd.func20 (by kernel_rfl) rfl #[.slice A0_0 l0_0.length c0_0, .slice A0_1 l0_1.length c0_1, .int .u32 a0_2] rfl (by (try simp only [List.map_toArray, List.map_cons, List.map_nil]); first | done | rfl | (simp only [List.length_drop, List.length_take]; rfl)) ?_; (with_reducible refine (pick_Pick.calls _ _ l0_0 _ _ l0_1 a0_2 t385 t386 t387 _ ?side1 ?side2 ?side3 ?side4 ?tb A10.out).mono ?_); (case tb => exact HT.out.step (by repeat (first | (with_reducible first | exact HB.out | apply below_alloc | apply pw_below_drewN | apply below_drew1 | refine below_set ?_ GE382.out) | exact HB.out))); (case side1 => repeat (first | exact (Kd.C_below HR0_0.out HB.out) | (with_reducible refine Kd.C_alloc ?_ _) | (with_reducible refine Kd.C_drewN ?_ _) | (with_reducible refine Kd.C_drew ?_))); (case side2 => exact HC0_0.out); (case side3 => repeat (first | exact (Kd.C_below HR0_1.out HB.out) | (with_reducible refine Kd.C_alloc ?_ _) | (with_reducible refine Kd.C_drewN ?_ _) | (with_reducible refine Kd.C_drew ?_))); (case side4 => exact HC0_1.out); rintro e w17 ⟨v388, v390, rfl, ho0, ho1, hb⟩; refine ⟨_, rfl, ?_⟩; have n0_ := Aside0.mk (Kd.R_lower ho0 (below_size (by repeat (first | (with_reducible first | exact HB.out | apply below_alloc | apply pw_below_drewN | apply below_drew1 | refine below_set ?_ GE382.out) | exact HB.out)))); have n1_ := Aside0.mk (Kd.R_lower ho1 (below_size (by repeat (first | (with_reducible first | exact HB.out | apply below_alloc | apply pw_below_drewN | apply below_drew1 | refine below_set ?_ GE382.out) | exact HB.out)))); have n2_ := Aside0.mk (blk_below (g := gb382) (o := .cells #[.slice A0_0 l0_0.length c0_0, .slice A0_1 l0_1.length c0_1, .int .u32 a0_2] 41 (0, 0)) (by (with_reducible repeat (first | refine blk_drewN ?_ _ | refine blk_drew ?_ | refine blk_alloc ?_ _)); exact BK382.out) hb); have n3_ := Aside0.mk (below_step (by repeat (first | (with_reducible first | exact HB.out | apply below_alloc | apply pw_below_drewN | apply below_drew1 | refine below_set ?_ GE382.out) | exact HB.out)) hb); clear BK382; clear HB; have HO389 := n0_; have HO391 := n1_; have BK382 := n2_; have HB := n3_; clear n0_ n1_ n2_ n3_; (try clear hb); (try clear hb2); (try clear hk); (try clear hi); (try clear ho0); (try clear ho1); obtain ⟨Ao18, co18, eo18⟩ := Kd.R_slice HO389.out; subst eo18))
        go_loopg [6, 36] k (fun kq v6 v36 w' => ∃ (x6_1 : Int) (x36_1 : Int), v6 = .int .u32 x6_1 ∧ v36 = .int .i64 x36_1 ∧ Aside0 (mainsheetlaw19_PickWhole.l0 kq t385 t386 x6_1 t385 (t385.length : Int) x36_1 l0_0 l0_1 a0_2 = some r) ∧ Aside0 (kq ≤ k) ∧ Aside0 (Kd.R k31 31 w' w.heap.size (fun _ => True) (.slice Ao18 t385.length co18) t385) ∧ Aside0 (Kd.R (Kd.int .i64) 3 w' w.heap.size (fun _ => True) v390 t386) ∧ Aside0 (Kd.R k31 31 w' w.heap.size (fun _ => True) (.slice Ao18 t385.length co18) t385) ∧ Aside0 (w'.heap[gb382]? = some (.cells #[(.slice A0_0 l0_0.length c0_0), (.slice A0_1 l0_1.length c0_1), .int .u32 a0_2] 41 (0, 0))) ∧ Aside0 (Below w.heap.size w w'))
        case atStart => exact ⟨(0), (0), (by first | rfl | (simp; done) | (simp [*]; done)), (by first | rfl | (simp; done) | (simp [*]; done)), H', ⟨Nat.le_refl _⟩, ⟨by (with_reducible repeat (first | apply Kd.R_alloc | apply Kd.R_drewN | apply Kd.R_drew)); exact HO389.out⟩, ⟨by (with_reducible repeat (first | apply Kd.R_alloc | apply Kd.R_drewN | apply Kd.R_drew)); exact HO391.out⟩, ⟨by (with_reducible repeat (first | apply Kd.R_alloc | apply Kd.R_drewN | apply Kd.R_drew)); exact HO389.out⟩, ⟨by (with_reducible repeat (first | refine blk_drewN ?_ _ | refine blk_drew ?_ | refine blk_alloc ?_ _)); exact BK382.out⟩, ⟨by repeat (first | (with_reducible first | exact HB.out | apply below_alloc | apply pw_below_drewN | apply below_drew1 | refine below_set ?_ GE382.out) | exact HB.out)⟩⟩
        case round =>
          clear H'
          try clear c1
          try clear c2
          try clear p2
          try clear c3
          try clear c5
          try clear c11
          try clear c11b0
          try clear c11b1
          try clear c18
          try clear hcz14_0
          try clear hcz14_1
          try clear hcz14_2
          try clear hcz16_0
          try clear hcz16_1
          try clear hcz16_2
          try clear hcz8_0
          try clear hcz8_1
          try clear hcz8_2
          try clear hfz14_0
          try clear hfz14_1
          try clear hfz14_2
          try clear hfz16_0
          try clear hfz16_1
          try clear hfz16_2
          try clear hfz8_0
          try clear hfz8_1
          try clear hfz8_2
          obtain ⟨x6_1, x36_1, rfl, rfl, HA, HK1, HO_3, HO_4, HO_34, BK382, HB⟩ := hrel
          cases gk with
          | zero => exact absurd HA.out (by simp [mainsheetlaw19_PickWhole.l0])
          | succ k1 =>
            have H := HA.out
            clear HA
            simp only [mainsheetlaw19_PickWhole.l0] at H
            by_cases c19 : x36_1 < (t385.length : Int)
            · rw [if_pos c19] at H
              have c19b0 : decide (x36_1 < (t385.length : Int)) = true := decide_eq_true c19
              clear c19
              by_cases c20 : 0 ≤ x36_1
              · rw [if_pos c20] at H
                have c20b0 : decide (0 ≤ x36_1) = true := decide_eq_true c20
                clear c20
                by_cases c21 : x36_1 < (t385.length : Int)
                · rw [if_pos c21] at H
                  have c21b0 : decide (x36_1 < (t385.length : Int)) = true := decide_eq_true c21
                  clear c21
                  replace H := Option.bind_eq_some_iff.mp H
                  obtain ⟨t394, A220, H⟩ := H
                  replace H : (if t394 = true then (some false) else ((mainsheetlaw19_Ask_wish.f k1 l0_0 l0_1 a0_2 ((rd_T31 t385 x36_1).f0)).bind fun bt395 => ((mask_Allows.f k1 bt395.2.2.1 bt395.2.2.2 a0_2).bind fun t399 => ((cpuset_Has.f t399 ((rd_T31 t385 x36_1).f1)).bind fun t400 => (if t400 = true then (if 0 ≤ ((rd_T31 t385 x36_1).f1) then (mainsheetlaw19_PickWhole.l0 k1 t385 t386 (Go.bits .or .u32 x6_1 (shl .u32 1 ((rd_T31 t385 x36_1).f1))) t385 (t385.length : Int) (wrap64 (x36_1 + 1)) l0_0 l0_1 a0_2) else (none)) else (some false)))))) = some r := H
                  have A22 := Aside0.mk A220
                  clear A220
                  by_cases c23 : t394 = true
                  · subst c23
                    have H1 : (some false) = some r := by rw [if_pos rfl] at H; exact H
                    clear H
                    have H := H1
                    clear H1
                    obtain rfl := Option.some.inj H
                    have p392 : 0 ≤ (x36_1 : Int) := of_decide_eq_true (by first | (with_reducible assumption) | assumption)
                    have q392 : x36_1 < (t385.length : Int) := of_decide_eq_true (by first | (with_reducible assumption) | assumption)
                    obtain ⟨ad392, e392, hx392_0, hx392_1⟩ := at_T31 (Kd.R_reads' HO_34.out).2.2 x36_1 p392 q392
                    cases e392
                    replace p392 := eq_true p392
                    replace q392 := eq_true q392
                    try go_wp2_with (first | ((with_reducible refine gate_dst (N := 8) rfl ?_); (try (refine gate_guard (by rfl) ?_; dsimp only)); refine box_event ?hg (N := 8) ?hd (cs := #[.int .i64 0, .int .i64 0]) (t := 31) ?hr ?_; (case hd => rfl); (case hg => rfl); (case hr => first | (go_simp; done) | (go_simp; rfl)); intro gb393 hg w24 hbox hb; have n0_ := Aside0.mk (Kd.R_below (Kd.R_elderB (by (with_reducible repeat (first | apply Kd.R_alloc | apply Kd.R_drewN | apply Kd.R_drew)); exact HO_3.out) gb393 (Nat.le_of_eq hg.symm)) hb); have n1_ := Aside0.mk (Kd.R_below (by (with_reducible repeat (first | apply Kd.R_alloc | apply Kd.R_drewN | apply Kd.R_drew)); exact HO_4.out) hb); have n2_ := Aside0.mk (Kd.R_below (Kd.R_elderB (by (with_reducible repeat (first | apply Kd.R_alloc | apply Kd.R_drewN | apply Kd.R_drew)); exact HO_34.out) gb393 (Nat.le_of_eq hg.symm)) hb); have n3_ := Aside0.mk (blk_below (g := gb382) (o := .cells #[.slice A0_0 l0_0.length c0_0, .slice A0_1 l0_1.length c0_1, .int .u32 a0_2] 41 (0, 0)) (by (with_reducible repeat (first | refine blk_drewN ?_ _ | refine blk_drew ?_ | refine blk_alloc ?_ _)); exact BK382.out) hb); have n4_ := Aside0.mk (below_step (by repeat (first | (with_reducible first | exact HB.out | apply below_alloc | apply pw_below_drewN | apply below_drew1 | refine below_set ?_ GE382.out) | exact HB.out)) hb); have n5_ := Aside0.mk (hbox); have n6_ := Aside0.mk ((by rw [hg]; exact (below_size (by repeat (first | (with_reducible first | exact HB.out | apply below_alloc | apply pw_below_drewN | apply below_drew1 | refine below_set ?_ GE382.out) | exact HB.out))) : w.heap.size ≤ gb393)); have n7_ := Aside0.mk ((by rw [hg]; exact (below_size (by repeat (first | (with_reducible first | exact HB.out | apply below_alloc | apply pw_below_drewN | apply below_drew1 | refine below_set ?_ GE382.out) | exact HB.out))) : w.heap.size ≤ gb393)); have n8_ := Aside0.mk ((by rw [hg]; exact Nat.ne_of_lt (blk_lt (g := gb382) (o := .cells #[.slice A0_0 l0_0.length c0_0, .slice A0_1 l0_1.length c0_1, .int .u32 a0_2] 41 (0, 0)) (by (with_reducible repeat (first | refine blk_drewN ?_ _ | refine blk_drew ?_ | refine blk_alloc ?_ _)); exact BK382.out)) : gb382 ≠ gb393)); have n9_ := Aside0.mk ((by rw [hg]; exact Nat.ne_of_gt (blk_lt (g := gb382) (o := .cells #[.slice A0_0 l0_0.length c0_0, .slice A0_1 l0_1.length c0_1, .int .u32 a0_2] 41 (0, 0)) (by (with_reducible repeat (first | refine blk_drewN ?_ _ | refine blk_drew ?_ | refine blk_alloc ?_ _)); exact BK382.out)) : gb393 ≠ gb382)); clear HO_3; clear HO_4; clear HO_34; clear BK382; clear HB; have HO_3 := n0_; have HO_4 := n1_; have HO_34 := n2_; have BK382 := n3_; have HB := n4_; have BK393 := n5_; have GW393 := n6_; have GE393 := n7_; have NB382_393 := n8_; have NB393_382 := n9_; clear n0_ n1_ n2_ n3_ n4_ n5_ n6_ n7_ n8_ n9_; clear hb hbox hg; have hnb25 := NB393_382.out; have hnc25 := NB382_393.out; have hcz26_0 : w24.cell? ⟨gb393, 0, none⟩ = some (.int .i64 0) := (blk_cell BK393.out 0).trans rfl; have hcz26_1 : w24.cell? ⟨gb393, 1, none⟩ = some (.int .i64 0) := (blk_cell BK393.out 1).trans rfl; have hfz26_0 := blk_frozen BK393.out 0; have hfz26_1 := blk_frozen BK393.out 1))
                    have n0_ : Aside0 (Kd.R k31 31 ((w24.setCell ⟨gb393, 0, none⟩ (.int .i64 ((rd_T31 t385 x36_1).f0))).setCell ⟨gb393, 1, none⟩ (.int .i64 ((rd_T31 t385 x36_1).f1))) w.heap.size (fun k_ => k_ ≠ gb393) (.slice (some ad392) t385.length co18) t385) := ⟨by (with_reducible repeat (first | apply Kd.R_alloc | apply Kd.R_drewN | apply Kd.R_drew)); exact Kd.R_mono (Kd.R_far (p := ⟨gb393, 1, none⟩) (Kd.R_far (p := ⟨gb393, 0, none⟩) (Kd.R_mono HO_3.out (fun k_ hk => (⟨hk, hk.2⟩ : _ ∧ k_ ≠ gb393))) (fun _ hk => hk.2) (.int .i64 ((rd_T31 t385 x36_1).f0))) (fun _ hk => hk.2) (.int .i64 ((rd_T31 t385 x36_1).f1))) (fun _ hk => hk.1.2)⟩
                    have n1_ : Aside0 (Kd.R (Kd.int .i64) 3 ((w24.setCell ⟨gb393, 0, none⟩ (.int .i64 ((rd_T31 t385 x36_1).f0))).setCell ⟨gb393, 1, none⟩ (.int .i64 ((rd_T31 t385 x36_1).f1))) w.heap.size (fun _ => True) v390 t386) := ⟨by (with_reducible repeat (first | apply Kd.R_alloc | apply Kd.R_drewN | apply Kd.R_drew)); exact Kd.R_mono (Kd.R_far (p := ⟨gb393, 1, none⟩) (Kd.R_far (p := ⟨gb393, 0, none⟩) (Kd.R_types HO_4.out BK393.out (by decide)) (fun _ hk => hk.2) (.int .i64 ((rd_T31 t385 x36_1).f0))) (fun _ hk => hk.2) (.int .i64 ((rd_T31 t385 x36_1).f1))) (fun _ hk => trivial)⟩
                    have n2_ : Aside0 (Kd.R k31 31 ((w24.setCell ⟨gb393, 0, none⟩ (.int .i64 ((rd_T31 t385 x36_1).f0))).setCell ⟨gb393, 1, none⟩ (.int .i64 ((rd_T31 t385 x36_1).f1))) w.heap.size (fun k_ => k_ ≠ gb393) (.slice (some ad392) t385.length co18) t385) := ⟨by (with_reducible repeat (first | apply Kd.R_alloc | apply Kd.R_drewN | apply Kd.R_drew)); exact Kd.R_mono (Kd.R_far (p := ⟨gb393, 1, none⟩) (Kd.R_far (p := ⟨gb393, 0, none⟩) (Kd.R_mono HO_34.out (fun k_ hk => (⟨hk, hk.2⟩ : _ ∧ k_ ≠ gb393))) (fun _ hk => hk.2) (.int .i64 ((rd_T31 t385 x36_1).f0))) (fun _ hk => hk.2) (.int .i64 ((rd_T31 t385 x36_1).f1))) (fun _ hk => hk.1.2)⟩
                    have n3_ : Aside0 (((w24.setCell ⟨gb393, 0, none⟩ (.int .i64 ((rd_T31 t385 x36_1).f0))).setCell ⟨gb393, 1, none⟩ (.int .i64 ((rd_T31 t385 x36_1).f1))).heap[gb382]? = some (.cells #[.slice A0_0 l0_0.length c0_0, .slice A0_1 l0_1.length c0_1, .int .u32 a0_2] 41 (0, 0))) := ⟨by (with_reducible repeat (first | refine blk_drewN ?_ _ | refine blk_drew ?_ | refine blk_alloc ?_ _)); refine blk_far ?_ NB382_393.out _; (with_reducible repeat (first | refine blk_drewN ?_ _ | refine blk_drew ?_ | refine blk_alloc ?_ _)); refine blk_far ?_ NB382_393.out _; (with_reducible repeat (first | refine blk_drewN ?_ _ | refine blk_drew ?_ | refine blk_alloc ?_ _)); exact BK382.out⟩
                    have n4_ : Aside0 (((w24.setCell ⟨gb393, 0, none⟩ (.int .i64 ((rd_T31 t385 x36_1).f0))).setCell ⟨gb393, 1, none⟩ (.int .i64 ((rd_T31 t385 x36_1).f1))).heap[gb393]? = some (.cells #[.int .i64 ((rd_T31 t385 x36_1).f0), .int .i64 ((rd_T31 t385 x36_1).f1)] 31 (0, 0))) := ⟨by (with_reducible repeat (first | refine blk_drewN ?_ _ | refine blk_drew ?_ | refine blk_alloc ?_ _)); refine blk_put (cs := #[.int .i64 ((rd_T31 t385 x36_1).f0), .int .i64 0]) ?_ 1 _ rfl; (with_reducible repeat (first | refine blk_drewN ?_ _ | refine blk_drew ?_ | refine blk_alloc ?_ _)); refine blk_put (cs := #[.int .i64 0, .int .i64 0]) ?_ 0 _ rfl; (with_reducible repeat (first | refine blk_drewN ?_ _ | refine blk_drew ?_ | refine blk_alloc ?_ _)); exact BK393.out⟩
                    have n5_ : Aside0 (Below w.heap.size w ((w24.setCell ⟨gb393, 0, none⟩ (.int .i64 ((rd_T31 t385 x36_1).f0))).setCell ⟨gb393, 1, none⟩ (.int .i64 ((rd_T31 t385 x36_1).f1)))) := ⟨by repeat (first | (with_reducible first | exact HB.out | apply below_alloc | apply pw_below_drewN | apply below_drew1 | refine below_set ?_ GE382.out | refine below_set ?_ GE393.out) | exact HB.out)⟩
                    (try clear HO_3)
                    (try clear HO_4)
                    (try clear HO_34)
                    (try clear BK382)
                    (try clear BK393)
                    (try clear HB)
                    generalize ((w24.setCell ⟨gb393, 0, none⟩ (.int .i64 ((rd_T31 t385 x36_1).f0))).setCell ⟨gb393, 1, none⟩ (.int .i64 ((rd_T31 t385 x36_1).f1))) = w27 at n0_ n1_ n2_ n3_ n4_ n5_ ⊢
                    have HO_3 := n0_
                    have HO_4 := n1_
                    have HO_34 := n2_
                    have BK382 := n3_
                    have BK393 := n4_
                    have HB := n5_
                    clear n0_ n1_ n2_ n3_ n4_ n5_
                    have n0_ := Aside0.mk (Kd.R_drew HO_3.out)
                    have n1_ := Aside0.mk (Kd.R_drew HO_4.out)
                    have n2_ := Aside0.mk (Kd.R_drew HO_34.out)
                    have n3_ := Aside0.mk (blk_drew BK382.out)
                    have n4_ := Aside0.mk (blk_drew BK393.out)
                    have n5_ := Aside0.mk (below_drew1 HB.out)
                    clear HO_3
                    clear HO_4
                    clear HO_34
                    clear BK382
                    clear BK393
                    clear HB
                    have HO_3 := n0_
                    have HO_4 := n1_
                    have HO_34 := n2_
                    have BK382 := n3_
                    have BK393 := n4_
                    have HB := n5_
                    clear n0_ n1_ n2_ n3_ n4_ n5_
                    refine start_ (n := 18) (S := fun w' => w'.cell? ⟨gb393, 0, none⟩ = some (.int .i64 ((rd_T31 t385 x36_1).f0)) ∧ w'.cell? ⟨gb393, 1, none⟩ = some (.int .i64 ((rd_T31 t385 x36_1).f1))) (ds := []) #[false, false, false, false, false, false, false, false, false, false, false, false, false, false, false, false, false, false] (by kernel_rfl) rfl rfl ⟨(blk_cell BK393.out 0).trans rfl, (blk_cell BK393.out 1).trans rfl⟩ (fun hHeld => ?_); refine with_tabW mainsheetlaw19_PickWhole.tab12 mainsheetlaw19_PickWhole.bits12 (fun HT_ HW_ => ?_)
                    generalize w27.drew = w28 at HO_3 HO_4 HO_34 BK382 BK393 HB hHeld ⊢
                    refine pure_ (i := 0) (N := some 40) (v := ?_) (a' := ?_) #[true, false, false, false, false, false, false, false, false, false, false, false, false, false, false, false, false, false] rfl rfl (any_of HT_.out (by kernel_rfl)) (fun _ _ _ h => h) (Or.inl ⟨by rfl, ?_⟩) ?_ ?_
                    rotate_left
                    · intro w'
                      go_simp
                      first | with_reducible rfl | (rw [field36_2]; rfl)
                    rotate_left
                    · simp only [Act.put, List.setIfInBounds_toArray, List.set_cons_zero, List.set_cons_succ, i64_w, i32_w]
                      rfl
                    refine pure_ (i := 1) (N := some 41) (v := ?_) (a' := ?_) #[true, true, false, false, false, false, false, false, false, false, false, false, false, false, false, false, false, false] rfl rfl (any_of HT_.out (by kernel_rfl)) (fun _ _ _ h => h) (Or.inl ⟨by rfl, ?_⟩) ?_ ?_
                    rotate_left
                    · intro w'
                      go_simp
                      first | with_reducible rfl | (rw [field36_2]; rfl)
                    rotate_left
                    · simp only [Act.put, List.setIfInBounds_toArray, List.set_cons_zero, List.set_cons_succ, i64_w, i32_w]
                      rfl
                    refine take_ (i := 2) (N := some 42) (v := ?_) (a' := ?_) #[true, true, true, false, false, false, false, false, false, false, false, false, false, false, false, false, false, false] rfl rfl (take_ofW HT_.out HW_.out (by kernel_rfl)) (fun _ _ _ h => h) (Or.inl ⟨by rfl, ?_⟩) hHeld ?_ ?_
                    rotate_left
                    · rintro w' ⟨s0, s1⟩
                      go_simp
                      first | with_reducible rfl | (rw [field36_2]; rfl)
                    rotate_left
                    · simp only [Act.put, List.setIfInBounds_toArray, List.set_cons_zero, List.set_cons_succ, i64_w, i32_w]
                      rfl
                    refine one_ (i := 3) (N := some 43) #[true, true, true, true, false, false, false, false, false, false, false, false, false, false, false, false, false, false] rfl rfl (one_of HT_.out (by kernel_rfl)) (by decide) (fun K hK => ?_)
                    refine goes_ Tryd.func21 (by kernel_rfl) rfl #[.int .u32 x6_1, .int .i64 ((rd_T31 t385 x36_1).f1)] (by rfl) rfl rfl (by (try simp only [List.map_toArray, List.map_cons, List.map_nil]); first | done | rfl | (simp only [List.length_drop, List.length_take]; rfl)) ?_
                    with_reducible refine (cpuset_Has.calls x6_1 ((rd_T31 t385 x36_1).f1) true _ A22.out).mono ?_
                    rintro e w' ⟨rfl, ⟨nd, rfl⟩⟩
                    refine ⟨_, rfl, ?_⟩
                    refine hK.out _ _ ⟨(blk_cell BK393.out 0).trans rfl, (blk_cell BK393.out 1).trans rfl⟩ (fun hHeld => ?_)
                    clear hK K
                    refine norm_ (a' := ?_) ?_ ?_
                    rotate_left
                    · show Act.put _ (some 43) _ = _
                      simp only [Act.put, List.setIfInBounds_toArray, List.set_cons_zero, List.set_cons_succ, i64_w, i32_w]
                      rfl
                    refine pure_ (i := 4) (N := some 44) (v := ?_) (a' := ?_) #[true, true, true, true, true, false, false, false, false, false, false, false, false, false, false, false, false, false] rfl rfl (any_of HT_.out (by kernel_rfl)) (fun _ _ _ h => h) (Or.inl ⟨by rfl, ?_⟩) ?_ ?_
                    rotate_left
                    · intro w'
                      go_simp
                      first | with_reducible rfl | (rw [field36_2]; rfl)
                    rotate_left
                    · simp only [Act.put, List.setIfInBounds_toArray, List.set_cons_zero, List.set_cons_succ, i64_w, i32_w]
                      rfl
                    refine pure_ (i := 5) (N := some 45) (v := undef) (a' := ?_) #[true, true, true, true, true, true, false, false, false, false, false, false, false, false, false, false, false, false] rfl rfl (any_of HT_.out (by kernel_rfl)) (fun _ _ _ h => h) (Or.inr ⟨by rfl, rfl⟩) ?_ ?_
                    rotate_left
                    · simp only [Act.put, List.setIfInBounds_toArray, List.set_cons_zero, List.set_cons_succ, i64_w, i32_w]
                      rfl
                    refine pure_ (i := 6) (N := some 46) (v := undef) (a' := ?_) #[true, true, true, true, true, true, true, false, false, false, false, false, false, false, false, false, false, false] rfl rfl (any_of HT_.out (by kernel_rfl)) (fun _ _ _ h => h) (Or.inr ⟨by rfl, rfl⟩) ?_ ?_
                    rotate_left
                    · simp only [Act.put, List.setIfInBounds_toArray, List.set_cons_zero, List.set_cons_succ, i64_w, i32_w]
                      rfl
                    refine pure_ (i := 7) (N := some 47) (v := undef) (a' := ?_) #[true, true, true, true, true, true, true, true, false, false, false, false, false, false, false, false, false, false] rfl rfl (any_of HT_.out (by kernel_rfl)) (fun _ _ _ h => h) (Or.inr ⟨by rfl, rfl⟩) ?_ ?_
                    rotate_left
                    · simp only [Act.put, List.setIfInBounds_toArray, List.set_cons_zero, List.set_cons_succ, i64_w, i32_w]
                      rfl
                    refine pure_ (i := 8) (N := some 48) (v := undef) (a' := ?_) #[true, true, true, true, true, true, true, true, true, false, false, false, false, false, false, false, false, false] rfl rfl (any_of HT_.out (by kernel_rfl)) (fun _ _ _ h => h) (Or.inr ⟨by rfl, rfl⟩) ?_ ?_
                    rotate_left
                    · simp only [Act.put, List.setIfInBounds_toArray, List.set_cons_zero, List.set_cons_succ, i64_w, i32_w]
                      rfl
                    refine pure_ (i := 9) (N := some 49) (v := undef) (a' := ?_) #[true, true, true, true, true, true, true, true, true, true, false, false, false, false, false, false, false, false] rfl rfl (any_of HT_.out (by kernel_rfl)) (fun _ _ _ h => h) (Or.inr ⟨by rfl, rfl⟩) ?_ ?_
                    rotate_left
                    · simp only [Act.put, List.setIfInBounds_toArray, List.set_cons_zero, List.set_cons_succ, i64_w, i32_w]
                      rfl
                    refine pure_ (i := 10) (N := some 50) (v := undef) (a' := ?_) #[true, true, true, true, true, true, true, true, true, true, true, false, false, false, false, false, false, false] rfl rfl (any_of HT_.out (by kernel_rfl)) (fun _ _ _ h => h) (Or.inr ⟨by rfl, rfl⟩) ?_ ?_
                    rotate_left
                    · simp only [Act.put, List.setIfInBounds_toArray, List.set_cons_zero, List.set_cons_succ, i64_w, i32_w]
                      rfl
                    refine pure_ (i := 11) (N := some 51) (v := undef) (a' := ?_) #[true, true, true, true, true, true, true, true, true, true, true, true, false, false, false, false, false, false] rfl rfl (any_of HT_.out (by kernel_rfl)) (fun _ _ _ h => h) (Or.inr ⟨by rfl, rfl⟩) ?_ ?_
                    rotate_left
                    · simp only [Act.put, List.setIfInBounds_toArray, List.set_cons_zero, List.set_cons_succ, i64_w, i32_w]
                      rfl
                    refine pure_ (i := 12) (N := some 52) (v := undef) (a' := ?_) #[true, true, true, true, true, true, true, true, true, true, true, true, true, false, false, false, false, false] rfl rfl (any_of HT_.out (by kernel_rfl)) (fun _ _ _ h => h) (Or.inr ⟨by rfl, rfl⟩) ?_ ?_
                    rotate_left
                    · simp only [Act.put, List.setIfInBounds_toArray, List.set_cons_zero, List.set_cons_succ, i64_w, i32_w]
                      rfl
                    refine pure_ (i := 13) (N := some 53) (v := undef) (a' := ?_) #[true, true, true, true, true, true, true, true, true, true, true, true, true, true, false, false, false, false] rfl rfl (any_of HT_.out (by kernel_rfl)) (fun _ _ _ h => h) (Or.inr ⟨by rfl, rfl⟩) ?_ ?_
                    rotate_left
                    · simp only [Act.put, List.setIfInBounds_toArray, List.set_cons_zero, List.set_cons_succ, i64_w, i32_w]
                      rfl
                    refine pure_ (i := 14) (N := some 54) (v := undef) (a' := ?_) #[true, true, true, true, true, true, true, true, true, true, true, true, true, true, true, false, false, false] rfl rfl (any_of HT_.out (by kernel_rfl)) (fun _ _ _ h => h) (Or.inr ⟨by rfl, rfl⟩) ?_ ?_
                    rotate_left
                    · simp only [Act.put, List.setIfInBounds_toArray, List.set_cons_zero, List.set_cons_succ, i64_w, i32_w]
                      rfl
                    refine pure_ (i := 15) (N := some 55) (v := undef) (a' := ?_) #[true, true, true, true, true, true, true, true, true, true, true, true, true, true, true, true, false, false] rfl rfl (any_of HT_.out (by kernel_rfl)) (fun _ _ _ h => h) (Or.inr ⟨by rfl, rfl⟩) ?_ ?_
                    rotate_left
                    · simp only [Act.put, List.setIfInBounds_toArray, List.set_cons_zero, List.set_cons_succ, i64_w, i32_w]
                      rfl
                    refine pure_ (i := 16) (N := some 56) (v := undef) (a' := ?_) #[true, true, true, true, true, true, true, true, true, true, true, true, true, true, true, true, true, false] rfl rfl (any_of HT_.out (by kernel_rfl)) (fun _ _ _ h => h) (Or.inr ⟨by rfl, rfl⟩) ?_ ?_
                    rotate_left
                    · simp only [Act.put, List.setIfInBounds_toArray, List.set_cons_zero, List.set_cons_succ, i64_w, i32_w]
                      rfl
                    refine pure_ (i := 17) (N := some 57) (v := ?_) (a' := ?_) #[true, true, true, true, true, true, true, true, true, true, true, true, true, true, true, true, true, true] rfl rfl (any_of HT_.out (by kernel_rfl)) (fun _ _ _ h => h) (Or.inl ⟨by rfl, ?_⟩) ?_ ?_
                    rotate_left
                    · intro w'
                      go_simp
                      first | with_reducible rfl | (rw [field36_2]; rfl)
                    rotate_left
                    · simp only [Act.put, List.setIfInBounds_toArray, List.set_cons_zero, List.set_cons_succ, i64_w, i32_w]
                      rfl
                    refine done_ (done_of HT_.out (by kernel_rfl)) ?_
                    try go_wp2
                    go_ret
                    exact ⟨by first | rfl | (simp [errW_none, errW_some] <;> rfl) | (simp [*, errW_none, errW_some] <;> rfl), by repeat (first | (with_reducible first | exact HB.out | apply below_alloc | apply pw_below_drewN | apply below_drew1 | refine below_set ?_ GE382.out | refine below_set ?_ GE393.out) | exact HB.out)⟩
                  · replace c23 := Bool.eq_false_iff.mpr c23
                    subst c23
                    have H1 : ((mainsheetlaw19_Ask_wish.f k1 l0_0 l0_1 a0_2 ((rd_T31 t385 x36_1).f0)).bind fun bt395 => ((mask_Allows.f k1 bt395.2.2.1 bt395.2.2.2 a0_2).bind fun t399 => ((cpuset_Has.f t399 ((rd_T31 t385 x36_1).f1)).bind fun t400 => (if t400 = true then (if 0 ≤ ((rd_T31 t385 x36_1).f1) then (mainsheetlaw19_PickWhole.l0 k1 t385 t386 (Go.bits .or .u32 x6_1 (shl .u32 1 ((rd_T31 t385 x36_1).f1))) t385 (t385.length : Int) (wrap64 (x36_1 + 1)) l0_0 l0_1 a0_2) else (none)) else (some false))))) = some r := by rw [if_neg (show ¬ (false = true) by decide)] at H; exact H
                    clear H
                    have H := H1
                    clear H1
                    replace H := Option.bind_eq_some_iff.mp H
                    obtain ⟨⟨t395, t396, t397, t398⟩, A290, H⟩ := H
                    replace H : ((mask_Allows.f k1 t397 t398 a0_2).bind fun t399 => ((cpuset_Has.f t399 ((rd_T31 t385 x36_1).f1)).bind fun t400 => (if t400 = true then (if 0 ≤ ((rd_T31 t385 x36_1).f1) then (mainsheetlaw19_PickWhole.l0 k1 t385 t386 (Go.bits .or .u32 x6_1 (shl .u32 1 ((rd_T31 t385 x36_1).f1))) t385 (t385.length : Int) (wrap64 (x36_1 + 1)) l0_0 l0_1 a0_2) else (none)) else (some false)))) = some r := H
                    have A29 := Aside0.mk A290
                    clear A290
                    replace H := Option.bind_eq_some_iff.mp H
                    obtain ⟨t399, A300, H⟩ := H
                    replace H : ((cpuset_Has.f t399 ((rd_T31 t385 x36_1).f1)).bind fun t400 => (if t400 = true then (if 0 ≤ ((rd_T31 t385 x36_1).f1) then (mainsheetlaw19_PickWhole.l0 k1 t385 t386 (Go.bits .or .u32 x6_1 (shl .u32 1 ((rd_T31 t385 x36_1).f1))) t385 (t385.length : Int) (wrap64 (x36_1 + 1)) l0_0 l0_1 a0_2) else (none)) else (some false))) = some r := H
                    have A30 := Aside0.mk A300
                    clear A300
                    replace H := Option.bind_eq_some_iff.mp H
                    obtain ⟨t400, A310, H⟩ := H
                    replace H : (if t400 = true then (if 0 ≤ ((rd_T31 t385 x36_1).f1) then (mainsheetlaw19_PickWhole.l0 k1 t385 t386 (Go.bits .or .u32 x6_1 (shl .u32 1 ((rd_T31 t385 x36_1).f1))) t385 (t385.length : Int) (wrap64 (x36_1 + 1)) l0_0 l0_1 a0_2) else (none)) else (some false)) = some r := H
                    have A31 := Aside0.mk A310
                    clear A310
                    by_cases c32 : t400 = true
                    · subst c32
                      have H1 : (if 0 ≤ ((rd_T31 t385 x36_1).f1) then (mainsheetlaw19_PickWhole.l0 k1 t385 t386 (Go.bits .or .u32 x6_1 (shl .u32 1 ((rd_T31 t385 x36_1).f1))) t385 (t385.length : Int) (wrap64 (x36_1 + 1)) l0_0 l0_1 a0_2) else (none)) = some r := by rw [if_pos rfl] at H; exact H
                      clear H
                      have H := H1
                      clear H1
                      by_cases c33 : 0 ≤ ((rd_T31 t385 x36_1).f1)
                      · rw [if_pos c33] at H
                        have c33b0 := eq_true c33
                        have c33b1 : decide (0 ≤ ((rd_T31 t385 x36_1).f1)) = true := decide_eq_true c33
                        clear c33
                        obtain ⟨ji34, hji34⟩ : ∃ j_ : Int, (shl .u32 1 ((rd_T31 t385 x36_1).f1)) = j_ := ⟨_, rfl⟩
                        replace H : (mainsheetlaw19_PickWhole.l0 k1 t385 t386 (Go.bits .or .u32 x6_1 (ji34)) t385 (t385.length : Int) (wrap64 (x36_1 + 1)) l0_0 l0_1 a0_2) = some r := by first | (rw [hji34] at H; exact H) | (simp only [hji34] at H ⊢; exact H)
                        (try rw [hji34] at A22)
                        (try rw [hji34] at A29)
                        (try rw [hji34] at A30)
                        (try rw [hji34] at A31)
                        have hji34_ : (IntKind.u32.wrap (1 * 2 ^ min ((rd_T31 t385 x36_1).f1).toNat 32)) = ji34 := hji34
                        have hji34z : ((rd_T31 t385 x36_1).f1) ≤ 32 → (IntKind.u32.wrap (1 * 2 ^ ((rd_T31 t385 x36_1).f1).toNat)) = ji34 := shl_small hji34
                        have hji34u : (IntKind.u32.wrap (2 ^ min ((rd_T31 t385 x36_1).f1).toNat 32)) = ji34 := by have h_ := hji34_; rw [Int.one_mul] at h_; exact h_
                        have hji34v : ((rd_T31 t385 x36_1).f1) ≤ 32 → (IntKind.u32.wrap (2 ^ ((rd_T31 t385 x36_1).f1).toNat)) = ji34 := fun hle_ => by have h_ := hji34z hle_; rw [Int.one_mul] at h_; exact h_
                        have H' := Aside0.mk H
                        clear H
                        have p392 : 0 ≤ (x36_1 : Int) := of_decide_eq_true (by first | (with_reducible assumption) | assumption)
                        have q392 : x36_1 < (t385.length : Int) := of_decide_eq_true (by first | (with_reducible assumption) | assumption)
                        obtain ⟨ad392, e392, hx392_0, hx392_1⟩ := at_T31 (Kd.R_reads' HO_34.out).2.2 x36_1 p392 q392
                        cases e392
                        replace p392 := eq_true p392
                        replace q392 := eq_true q392
                        try go_wp2_with (first | ((with_reducible refine gate_dst (N := 8) rfl ?_); (try (refine gate_guard (by rfl) ?_; dsimp only)); refine box_event ?hg (N := 8) ?hd (cs := #[.int .i64 0, .int .i64 0]) (t := 31) ?hr ?_; (case hd => rfl); (case hg => rfl); (case hr => first | (go_simp; done) | (go_simp; rfl)); intro gb393 hg w35 hbox hb; have n0_ := Aside0.mk (Kd.R_below (Kd.R_elderB (by (with_reducible repeat (first | apply Kd.R_alloc | apply Kd.R_drewN | apply Kd.R_drew)); exact HO_3.out) gb393 (Nat.le_of_eq hg.symm)) hb); have n1_ := Aside0.mk (Kd.R_below (by (with_reducible repeat (first | apply Kd.R_alloc | apply Kd.R_drewN | apply Kd.R_drew)); exact HO_4.out) hb); have n2_ := Aside0.mk (Kd.R_below (Kd.R_elderB (by (with_reducible repeat (first | apply Kd.R_alloc | apply Kd.R_drewN | apply Kd.R_drew)); exact HO_34.out) gb393 (Nat.le_of_eq hg.symm)) hb); have n3_ := Aside0.mk (blk_below (g := gb382) (o := .cells #[.slice A0_0 l0_0.length c0_0, .slice A0_1 l0_1.length c0_1, .int .u32 a0_2] 41 (0, 0)) (by (with_reducible repeat (first | refine blk_drewN ?_ _ | refine blk_drew ?_ | refine blk_alloc ?_ _)); exact BK382.out) hb); have n4_ := Aside0.mk (below_step (by repeat (first | (with_reducible first | exact HB.out | apply below_alloc | apply pw_below_drewN | apply below_drew1 | refine below_set ?_ GE382.out) | exact HB.out)) hb); have n5_ := Aside0.mk (hbox); have n6_ := Aside0.mk ((by rw [hg]; exact (below_size (by repeat (first | (with_reducible first | exact HB.out | apply below_alloc | apply pw_below_drewN | apply below_drew1 | refine below_set ?_ GE382.out) | exact HB.out))) : w.heap.size ≤ gb393)); have n7_ := Aside0.mk ((by rw [hg]; exact (below_size (by repeat (first | (with_reducible first | exact HB.out | apply below_alloc | apply pw_below_drewN | apply below_drew1 | refine below_set ?_ GE382.out) | exact HB.out))) : w.heap.size ≤ gb393)); have n8_ := Aside0.mk ((by rw [hg]; exact Nat.ne_of_lt (blk_lt (g := gb382) (o := .cells #[.slice A0_0 l0_0.length c0_0, .slice A0_1 l0_1.length c0_1, .int .u32 a0_2] 41 (0, 0)) (by (with_reducible repeat (first | refine blk_drewN ?_ _ | refine blk_drew ?_ | refine blk_alloc ?_ _)); exact BK382.out)) : gb382 ≠ gb393)); have n9_ := Aside0.mk ((by rw [hg]; exact Nat.ne_of_gt (blk_lt (g := gb382) (o := .cells #[.slice A0_0 l0_0.length c0_0, .slice A0_1 l0_1.length c0_1, .int .u32 a0_2] 41 (0, 0)) (by (with_reducible repeat (first | refine blk_drewN ?_ _ | refine blk_drew ?_ | refine blk_alloc ?_ _)); exact BK382.out)) : gb393 ≠ gb382)); clear HO_3; clear HO_4; clear HO_34; clear BK382; clear HB; have HO_3 := n0_; have HO_4 := n1_; have HO_34 := n2_; have BK382 := n3_; have HB := n4_; have BK393 := n5_; have GW393 := n6_; have GE393 := n7_; have NB382_393 := n8_; have NB393_382 := n9_; clear n0_ n1_ n2_ n3_ n4_ n5_ n6_ n7_ n8_ n9_; clear hb hbox hg; have hnb36 := NB393_382.out; have hnc36 := NB382_393.out; have hcz37_0 : w35.cell? ⟨gb393, 0, none⟩ = some (.int .i64 0) := (blk_cell BK393.out 0).trans rfl; have hcz37_1 : w35.cell? ⟨gb393, 1, none⟩ = some (.int .i64 0) := (blk_cell BK393.out 1).trans rfl; have hfz37_0 := blk_frozen BK393.out 0; have hfz37_1 := blk_frozen BK393.out 1))
                        have n0_ : Aside0 (Kd.R k31 31 ((w35.setCell ⟨gb393, 0, none⟩ (.int .i64 ((rd_T31 t385 x36_1).f0))).setCell ⟨gb393, 1, none⟩ (.int .i64 ((rd_T31 t385 x36_1).f1))) w.heap.size (fun k_ => k_ ≠ gb393) (.slice (some ad392) t385.length co18) t385) := ⟨by (with_reducible repeat (first | apply Kd.R_alloc | apply Kd.R_drewN | apply Kd.R_drew)); exact Kd.R_mono (Kd.R_far (p := ⟨gb393, 1, none⟩) (Kd.R_far (p := ⟨gb393, 0, none⟩) (Kd.R_mono HO_3.out (fun k_ hk => (⟨hk, hk.2⟩ : _ ∧ k_ ≠ gb393))) (fun _ hk => hk.2) (.int .i64 ((rd_T31 t385 x36_1).f0))) (fun _ hk => hk.2) (.int .i64 ((rd_T31 t385 x36_1).f1))) (fun _ hk => hk.1.2)⟩
                        have n1_ : Aside0 (Kd.R (Kd.int .i64) 3 ((w35.setCell ⟨gb393, 0, none⟩ (.int .i64 ((rd_T31 t385 x36_1).f0))).setCell ⟨gb393, 1, none⟩ (.int .i64 ((rd_T31 t385 x36_1).f1))) w.heap.size (fun _ => True) v390 t386) := ⟨by (with_reducible repeat (first | apply Kd.R_alloc | apply Kd.R_drewN | apply Kd.R_drew)); exact Kd.R_mono (Kd.R_far (p := ⟨gb393, 1, none⟩) (Kd.R_far (p := ⟨gb393, 0, none⟩) (Kd.R_types HO_4.out BK393.out (by decide)) (fun _ hk => hk.2) (.int .i64 ((rd_T31 t385 x36_1).f0))) (fun _ hk => hk.2) (.int .i64 ((rd_T31 t385 x36_1).f1))) (fun _ hk => trivial)⟩
                        have n2_ : Aside0 (Kd.R k31 31 ((w35.setCell ⟨gb393, 0, none⟩ (.int .i64 ((rd_T31 t385 x36_1).f0))).setCell ⟨gb393, 1, none⟩ (.int .i64 ((rd_T31 t385 x36_1).f1))) w.heap.size (fun k_ => k_ ≠ gb393) (.slice (some ad392) t385.length co18) t385) := ⟨by (with_reducible repeat (first | apply Kd.R_alloc | apply Kd.R_drewN | apply Kd.R_drew)); exact Kd.R_mono (Kd.R_far (p := ⟨gb393, 1, none⟩) (Kd.R_far (p := ⟨gb393, 0, none⟩) (Kd.R_mono HO_34.out (fun k_ hk => (⟨hk, hk.2⟩ : _ ∧ k_ ≠ gb393))) (fun _ hk => hk.2) (.int .i64 ((rd_T31 t385 x36_1).f0))) (fun _ hk => hk.2) (.int .i64 ((rd_T31 t385 x36_1).f1))) (fun _ hk => hk.1.2)⟩
                        have n3_ : Aside0 (((w35.setCell ⟨gb393, 0, none⟩ (.int .i64 ((rd_T31 t385 x36_1).f0))).setCell ⟨gb393, 1, none⟩ (.int .i64 ((rd_T31 t385 x36_1).f1))).heap[gb382]? = some (.cells #[.slice A0_0 l0_0.length c0_0, .slice A0_1 l0_1.length c0_1, .int .u32 a0_2] 41 (0, 0))) := ⟨by (with_reducible repeat (first | refine blk_drewN ?_ _ | refine blk_drew ?_ | refine blk_alloc ?_ _)); refine blk_far ?_ NB382_393.out _; (with_reducible repeat (first | refine blk_drewN ?_ _ | refine blk_drew ?_ | refine blk_alloc ?_ _)); refine blk_far ?_ NB382_393.out _; (with_reducible repeat (first | refine blk_drewN ?_ _ | refine blk_drew ?_ | refine blk_alloc ?_ _)); exact BK382.out⟩
                        have n4_ : Aside0 (((w35.setCell ⟨gb393, 0, none⟩ (.int .i64 ((rd_T31 t385 x36_1).f0))).setCell ⟨gb393, 1, none⟩ (.int .i64 ((rd_T31 t385 x36_1).f1))).heap[gb393]? = some (.cells #[.int .i64 ((rd_T31 t385 x36_1).f0), .int .i64 ((rd_T31 t385 x36_1).f1)] 31 (0, 0))) := ⟨by (with_reducible repeat (first | refine blk_drewN ?_ _ | refine blk_drew ?_ | refine blk_alloc ?_ _)); refine blk_put (cs := #[.int .i64 ((rd_T31 t385 x36_1).f0), .int .i64 0]) ?_ 1 _ rfl; (with_reducible repeat (first | refine blk_drewN ?_ _ | refine blk_drew ?_ | refine blk_alloc ?_ _)); refine blk_put (cs := #[.int .i64 0, .int .i64 0]) ?_ 0 _ rfl; (with_reducible repeat (first | refine blk_drewN ?_ _ | refine blk_drew ?_ | refine blk_alloc ?_ _)); exact BK393.out⟩
                        have n5_ : Aside0 (Below w.heap.size w ((w35.setCell ⟨gb393, 0, none⟩ (.int .i64 ((rd_T31 t385 x36_1).f0))).setCell ⟨gb393, 1, none⟩ (.int .i64 ((rd_T31 t385 x36_1).f1)))) := ⟨by repeat (first | (with_reducible first | exact HB.out | apply below_alloc | apply pw_below_drewN | apply below_drew1 | refine below_set ?_ GE382.out | refine below_set ?_ GE393.out) | exact HB.out)⟩
                        (try clear HO_3)
                        (try clear HO_4)
                        (try clear HO_34)
                        (try clear BK382)
                        (try clear BK393)
                        (try clear HB)
                        generalize ((w35.setCell ⟨gb393, 0, none⟩ (.int .i64 ((rd_T31 t385 x36_1).f0))).setCell ⟨gb393, 1, none⟩ (.int .i64 ((rd_T31 t385 x36_1).f1))) = w38 at n0_ n1_ n2_ n3_ n4_ n5_ ⊢
                        have HO_3 := n0_
                        have HO_4 := n1_
                        have HO_34 := n2_
                        have BK382 := n3_
                        have BK393 := n4_
                        have HB := n5_
                        clear n0_ n1_ n2_ n3_ n4_ n5_
                        have n0_ := Aside0.mk (Kd.R_drew HO_3.out)
                        have n1_ := Aside0.mk (Kd.R_drew HO_4.out)
                        have n2_ := Aside0.mk (Kd.R_drew HO_34.out)
                        have n3_ := Aside0.mk (blk_drew BK382.out)
                        have n4_ := Aside0.mk (blk_drew BK393.out)
                        have n5_ := Aside0.mk (below_drew1 HB.out)
                        clear HO_3
                        clear HO_4
                        clear HO_34
                        clear BK382
                        clear BK393
                        clear HB
                        have HO_3 := n0_
                        have HO_4 := n1_
                        have HO_34 := n2_
                        have BK382 := n3_
                        have BK393 := n4_
                        have HB := n5_
                        clear n0_ n1_ n2_ n3_ n4_ n5_
                        refine start_ (n := 18) (S := fun w' => w'.cell? ⟨gb393, 0, none⟩ = some (.int .i64 ((rd_T31 t385 x36_1).f0)) ∧ w'.cell? ⟨gb393, 1, none⟩ = some (.int .i64 ((rd_T31 t385 x36_1).f1)) ∧ w'.cell? ⟨gb382, 0, none⟩ = some (.slice A0_0 l0_0.length c0_0) ∧ w'.cell? ⟨gb382, 1, none⟩ = some (.slice A0_1 l0_1.length c0_1) ∧ w'.cell? ⟨gb382, 2, none⟩ = some (.int .u32 a0_2)) (ds := []) #[false, false, false, false, false, false, false, false, false, false, false, false, false, false, false, false, false, false] (by kernel_rfl) rfl rfl ⟨(blk_cell BK393.out 0).trans rfl, (blk_cell BK393.out 1).trans rfl, (blk_cell BK382.out 0).trans rfl, (blk_cell BK382.out 1).trans rfl, (blk_cell BK382.out 2).trans rfl⟩ (fun hHeld => ?_); refine with_tabW mainsheetlaw19_PickWhole.tab12 mainsheetlaw19_PickWhole.bits12 (fun HT_ HW_ => ?_)
                        generalize w38.drew = w39 at HO_3 HO_4 HO_34 BK382 BK393 HB hHeld ⊢
                        refine pure_ (i := 0) (N := some 40) (v := ?_) (a' := ?_) #[true, false, false, false, false, false, false, false, false, false, false, false, false, false, false, false, false, false] rfl rfl (any_of HT_.out (by kernel_rfl)) (fun _ _ _ h => h) (Or.inl ⟨by rfl, ?_⟩) ?_ ?_
                        rotate_left
                        · intro w'
                          go_simp
                          first | with_reducible rfl | (rw [field36_2]; rfl)
                        rotate_left
                        · simp only [Act.put, List.setIfInBounds_toArray, List.set_cons_zero, List.set_cons_succ, i64_w, i32_w]
                          rfl
                        refine pure_ (i := 1) (N := some 41) (v := ?_) (a' := ?_) #[true, true, false, false, false, false, false, false, false, false, false, false, false, false, false, false, false, false] rfl rfl (any_of HT_.out (by kernel_rfl)) (fun _ _ _ h => h) (Or.inl ⟨by rfl, ?_⟩) ?_ ?_
                        rotate_left
                        · intro w'
                          go_simp
                          first | with_reducible rfl | (rw [field36_2]; rfl)
                        rotate_left
                        · simp only [Act.put, List.setIfInBounds_toArray, List.set_cons_zero, List.set_cons_succ, i64_w, i32_w]
                          rfl
                        refine take_ (i := 2) (N := some 42) (v := ?_) (a' := ?_) #[true, true, true, false, false, false, false, false, false, false, false, false, false, false, false, false, false, false] rfl rfl (take_ofW HT_.out HW_.out (by kernel_rfl)) (fun _ _ _ h => h) (Or.inl ⟨by rfl, ?_⟩) hHeld ?_ ?_
                        rotate_left
                        · rintro w' ⟨s0, s1, s2, s3, s4⟩
                          go_simp
                          first | with_reducible rfl | (rw [field36_2]; rfl)
                        rotate_left
                        · simp only [Act.put, List.setIfInBounds_toArray, List.set_cons_zero, List.set_cons_succ, i64_w, i32_w]
                          rfl
                        refine one_ (i := 3) (N := some 43) #[true, true, true, true, false, false, false, false, false, false, false, false, false, false, false, false, false, false] rfl rfl (one_of HT_.out (by kernel_rfl)) (by decide) (fun K hK => ?_)
                        refine goes_ Tryd.func21 (by kernel_rfl) rfl #[.int .u32 x6_1, .int .i64 ((rd_T31 t385 x36_1).f1)] (by rfl) rfl rfl (by (try simp only [List.map_toArray, List.map_cons, List.map_nil]); first | done | rfl | (simp only [List.length_drop, List.length_take]; rfl)) ?_
                        with_reducible refine (cpuset_Has.calls x6_1 ((rd_T31 t385 x36_1).f1) false _ A22.out).mono ?_
                        rintro e w' ⟨rfl, ⟨nd, rfl⟩⟩
                        refine ⟨_, rfl, ?_⟩
                        refine hK.out _ _ ⟨(blk_cell BK393.out 0).trans rfl, (blk_cell BK393.out 1).trans rfl, (blk_cell BK382.out 0).trans rfl, (blk_cell BK382.out 1).trans rfl, (blk_cell BK382.out 2).trans rfl⟩ (fun hHeld => ?_)
                        clear hK K
                        refine norm_ (a' := ?_) ?_ ?_
                        rotate_left
                        · show Act.put _ (some 43) _ = _
                          simp only [Act.put, List.setIfInBounds_toArray, List.set_cons_zero, List.set_cons_succ, i64_w, i32_w]
                          rfl
                        refine pure_ (i := 4) (N := some 44) (v := ?_) (a' := ?_) #[true, true, true, true, true, false, false, false, false, false, false, false, false, false, false, false, false, false] rfl rfl (any_of HT_.out (by kernel_rfl)) (fun _ _ _ h => h) (Or.inl ⟨by rfl, ?_⟩) ?_ ?_
                        rotate_left
                        · intro w'
                          go_simp
                          first | with_reducible rfl | (rw [field36_2]; rfl)
                        rotate_left
                        · simp only [Act.put, List.setIfInBounds_toArray, List.set_cons_zero, List.set_cons_succ, i64_w, i32_w]
                          rfl
                        refine pure_ (i := 6) (N := some 46) (v := ?_) (a' := ?_) #[true, true, true, true, true, false, true, false, false, false, false, false, false, false, false, false, false, false] rfl rfl (any_of HT_.out (by kernel_rfl)) (fun _ _ _ h => h) (Or.inl ⟨by rfl, ?_⟩) ?_ ?_
                        rotate_left
                        · intro w'
                          go_simp
                          first | with_reducible rfl | (rw [field36_2]; rfl)
                        rotate_left
                        · simp only [Act.put, List.setIfInBounds_toArray, List.set_cons_zero, List.set_cons_succ, i64_w, i32_w]
                          rfl
                        refine pure_ (i := 10) (N := some 50) (v := ?_) (a' := ?_) #[true, true, true, true, true, false, true, false, false, false, true, false, false, false, false, false, false, false] rfl rfl (any_of HT_.out (by kernel_rfl)) (fun _ _ _ h => h) (Or.inl ⟨by rfl, ?_⟩) ?_ ?_
                        rotate_left
                        · intro w'
                          go_simp
                          first | with_reducible rfl | (rw [field36_2]; rfl)
                        rotate_left
                        · simp only [Act.put, List.setIfInBounds_toArray, List.set_cons_zero, List.set_cons_succ, i64_w, i32_w]
                          rfl
                        refine pure_ (i := 13) (N := some 53) (v := ?_) (a' := ?_) #[true, true, true, true, true, false, true, false, false, false, true, false, false, true, false, false, false, false] rfl rfl (any_of HT_.out (by kernel_rfl)) (fun _ _ _ h => h) (Or.inl ⟨by rfl, ?_⟩) ?_ ?_
                        rotate_left
                        · intro w'
                          go_simp
                          first | with_reducible rfl | (rw [field36_2]; rfl)
                        rotate_left
                        · simp only [Act.put, List.setIfInBounds_toArray, List.set_cons_zero, List.set_cons_succ, i64_w, i32_w]
                          rfl
                        refine take_ (i := 5) (N := some 45) (v := ?_) (a' := ?_) #[true, true, true, true, true, true, true, false, false, false, true, false, false, true, false, false, false, false] rfl rfl (take_ofW HT_.out HW_.out (by kernel_rfl)) (fun _ _ _ h => h) (Or.inl ⟨by rfl, ?_⟩) hHeld ?_ ?_
                        rotate_left
                        · rintro w' ⟨s0, s1, s2, s3, s4⟩
                          go_simp
                          first | with_reducible rfl | (rw [field36_2]; rfl)
                        rotate_left
                        · simp only [Act.put, List.setIfInBounds_toArray, List.set_cons_zero, List.set_cons_succ, i64_w, i32_w]
                          rfl
                        refine take_ (i := 7) (N := some 47) (v := ?_) (a' := ?_) #[true, true, true, true, true, true, true, true, false, false, true, false, false, true, false, false, false, false] rfl rfl (take_ofW HT_.out HW_.out (by kernel_rfl)) (fun _ _ _ h => h) (Or.inl ⟨by rfl, ?_⟩) hHeld ?_ ?_
                        rotate_left
                        · rintro w' ⟨s0, s1, s2, s3, s4⟩
                          go_simp
                          first | with_reducible rfl | (rw [field36_2]; rfl)
                        rotate_left
                        · simp only [Act.put, List.setIfInBounds_toArray, List.set_cons_zero, List.set_cons_succ, i64_w, i32_w]
                          rfl
                        refine take_ (i := 11) (N := some 51) (v := ?_) (a' := ?_) #[true, true, true, true, true, true, true, true, false, false, true, true, false, true, false, false, false, false] rfl rfl (take_ofW HT_.out HW_.out (by kernel_rfl)) (fun _ _ _ h => h) (Or.inl ⟨by rfl, ?_⟩) hHeld ?_ ?_
                        rotate_left
                        · rintro w' ⟨s0, s1, s2, s3, s4⟩
                          go_simp
                          first | with_reducible rfl | (rw [field36_2]; rfl)
                        rotate_left
                        · simp only [Act.put, List.setIfInBounds_toArray, List.set_cons_zero, List.set_cons_succ, i64_w, i32_w]
                          rfl
                        refine take_ (i := 14) (N := some 54) (v := ?_) (a' := ?_) #[true, true, true, true, true, true, true, true, false, false, true, true, false, true, true, false, false, false] rfl rfl (take_ofW HT_.out HW_.out (by kernel_rfl)) (fun _ _ _ h => h) (Or.inl ⟨by rfl, ?_⟩) hHeld ?_ ?_
                        rotate_left
                        · rintro w' ⟨s0, s1, s2, s3, s4⟩
                          go_simp
                          first | with_reducible rfl | (rw [field36_2]; rfl)
                        rotate_left
                        · simp only [Act.put, List.setIfInBounds_toArray, List.set_cons_zero, List.set_cons_succ, i64_w, i32_w]
                          rfl
                        refine one_ (i := 8) (N := some 48) #[true, true, true, true, true, true, true, true, true, false, true, true, false, true, true, false, false, false] rfl rfl (one_of HT_.out (by kernel_rfl)) (by decide) (fun K hK => ?_)
                        refine goes_ Tryd.func23 (by kernel_rfl) rfl #[.agg #[.slice A0_0 l0_0.length c0_0, .slice A0_1 l0_1.length c0_1, .int .u32 a0_2], .int .i64 ((rd_T31 t385 x36_1).f0)] (by rfl) rfl rfl (by (try simp only [List.map_toArray, List.map_cons, List.map_nil]); first | done | rfl | (simp only [List.length_drop, List.length_take]; rfl)) ?_
                        with_reducible refine (mainsheetlaw19_Ask_wish.calls k1 _ _ l0_0 _ _ l0_1 a0_2 ((rd_T31 t385 x36_1).f0) t395 t396 t397 t398 _ ?side1 ?side2 ?side3 ?side4 A29.out).mono ?_
                        (case side1 => repeat (first | exact (Kd.C_below HR0_0.out (by repeat (first | (with_reducible first | exact HB.out | apply below_alloc | apply pw_below_drewN | apply below_drew1 | refine below_set ?_ GE382.out | refine below_set ?_ GE393.out) | exact HB.out))) | (with_reducible refine Kd.C_alloc ?_ _) | (with_reducible refine Kd.C_drewN ?_ _) | (with_reducible refine Kd.C_drew ?_)))
                        (case side2 => exact HC0_0.out)
                        (case side3 => repeat (first | exact (Kd.C_below HR0_1.out (by repeat (first | (with_reducible first | exact HB.out | apply below_alloc | apply pw_below_drewN | apply below_drew1 | refine below_set ?_ GE382.out | refine below_set ?_ GE393.out) | exact HB.out))) | (with_reducible refine Kd.C_alloc ?_ _) | (with_reducible refine Kd.C_drewN ?_ _) | (with_reducible refine Kd.C_drew ?_)))
                        (case side4 => exact HC0_1.out)
                        rintro e w40 ⟨rfl, hb⟩
                        refine ⟨_, rfl, ?_⟩
                        have n0_ := Aside0.mk (Kd.R_below (by (with_reducible repeat (first | apply Kd.R_alloc | apply Kd.R_drewN | apply Kd.R_drew)); exact HO_3.out) hb)
                        have n1_ := Aside0.mk (Kd.R_below (by (with_reducible repeat (first | apply Kd.R_alloc | apply Kd.R_drewN | apply Kd.R_drew)); exact HO_4.out) hb)
                        have n2_ := Aside0.mk (Kd.R_below (by (with_reducible repeat (first | apply Kd.R_alloc | apply Kd.R_drewN | apply Kd.R_drew)); exact HO_34.out) hb)
                        have n3_ := Aside0.mk (blk_below (g := gb382) (o := .cells #[.slice A0_0 l0_0.length c0_0, .slice A0_1 l0_1.length c0_1, .int .u32 a0_2] 41 (0, 0)) (by (with_reducible repeat (first | refine blk_drewN ?_ _ | refine blk_drew ?_ | refine blk_alloc ?_ _)); exact BK382.out) hb)
                        have n4_ := Aside0.mk (blk_below (g := gb393) (o := .cells #[.int .i64 ((rd_T31 t385 x36_1).f0), .int .i64 ((rd_T31 t385 x36_1).f1)] 31 (0, 0)) (by (with_reducible repeat (first | refine blk_drewN ?_ _ | refine blk_drew ?_ | refine blk_alloc ?_ _)); exact BK393.out) hb)
                        have n5_ := Aside0.mk (below_step (by repeat (first | (with_reducible first | exact HB.out | apply below_alloc | apply pw_below_drewN | apply below_drew1 | refine below_set ?_ GE382.out | refine below_set ?_ GE393.out) | exact HB.out)) hb)
                        clear HO_3
                        clear HO_4
                        clear HO_34
                        clear BK382
                        clear BK393
                        clear HB
                        have HO_3 := n0_
                        have HO_4 := n1_
                        have HO_34 := n2_
                        have BK382 := n3_
                        have BK393 := n4_
                        have HB := n5_
                        clear n0_ n1_ n2_ n3_ n4_ n5_
                        (try clear hb)
                        (try clear hb2)
                        (try clear hk)
                        (try clear hi)
                        refine hK.out _ _ ⟨(blk_cell BK393.out 0).trans rfl, (blk_cell BK393.out 1).trans rfl, (blk_cell BK382.out 0).trans rfl, (blk_cell BK382.out 1).trans rfl, (blk_cell BK382.out 2).trans rfl⟩ (fun hHeld => ?_)
                        clear hK K
                        refine norm_ (a' := ?_) ?_ ?_
                        rotate_left
                        · show Act.put _ (some 48) _ = _
                          simp only [Act.put, List.setIfInBounds_toArray, List.set_cons_zero, List.set_cons_succ, i64_w, i32_w]
                          rfl
                        refine pure_ (i := 9) (N := some 49) (v := ?_) (a' := ?_) #[true, true, true, true, true, true, true, true, true, true, true, true, false, true, true, false, false, false] rfl rfl (any_of HT_.out (by kernel_rfl)) (fun _ _ _ h => h) (Or.inl ⟨by rfl, ?_⟩) ?_ ?_
                        rotate_left
                        · intro w'
                          go_simp
                          first | with_reducible rfl | (rw [field36_2]; rfl)
                        rotate_left
                        · simp only [Act.put, List.setIfInBounds_toArray, List.set_cons_zero, List.set_cons_succ, i64_w, i32_w]
                          rfl
                        refine one_ (i := 12) (N := some 52) #[true, true, true, true, true, true, true, true, true, true, true, true, true, true, true, false, false, false] rfl rfl (one_of HT_.out (by kernel_rfl)) (by decide) (fun K hK => ?_)
                        refine goes_ Tryd.func22 (by kernel_rfl) rfl #[.agg #[.int .u32 t397, .int .u32 t398], .int .u32 a0_2] (by rfl) rfl rfl (by (try simp only [List.map_toArray, List.map_cons, List.map_nil]); first | done | rfl | (simp only [List.length_drop, List.length_take]; rfl)) ?_
                        with_reducible refine (mask_Allows.calls k1 t397 t398 a0_2 t399 _ A30.out).mono ?_
                        rintro e w41 ⟨rfl, hb⟩
                        refine ⟨_, rfl, ?_⟩
                        have n0_ := Aside0.mk (Kd.R_below (by (with_reducible repeat (first | apply Kd.R_alloc | apply Kd.R_drewN | apply Kd.R_drew)); exact HO_3.out) hb)
                        have n1_ := Aside0.mk (Kd.R_below (by (with_reducible repeat (first | apply Kd.R_alloc | apply Kd.R_drewN | apply Kd.R_drew)); exact HO_4.out) hb)
                        have n2_ := Aside0.mk (Kd.R_below (by (with_reducible repeat (first | apply Kd.R_alloc | apply Kd.R_drewN | apply Kd.R_drew)); exact HO_34.out) hb)
                        have n3_ := Aside0.mk (blk_below (g := gb382) (o := .cells #[.slice A0_0 l0_0.length c0_0, .slice A0_1 l0_1.length c0_1, .int .u32 a0_2] 41 (0, 0)) (by (with_reducible repeat (first | refine blk_drewN ?_ _ | refine blk_drew ?_ | refine blk_alloc ?_ _)); exact BK382.out) hb)
                        have n4_ := Aside0.mk (blk_below (g := gb393) (o := .cells #[.int .i64 ((rd_T31 t385 x36_1).f0), .int .i64 ((rd_T31 t385 x36_1).f1)] 31 (0, 0)) (by (with_reducible repeat (first | refine blk_drewN ?_ _ | refine blk_drew ?_ | refine blk_alloc ?_ _)); exact BK393.out) hb)
                        have n5_ := Aside0.mk (below_step (by repeat (first | (with_reducible first | exact HB.out | apply below_alloc | apply pw_below_drewN | apply below_drew1 | refine below_set ?_ GE382.out | refine below_set ?_ GE393.out) | exact HB.out)) hb)
                        clear HO_3
                        clear HO_4
                        clear HO_34
                        clear BK382
                        clear BK393
                        clear HB
                        have HO_3 := n0_
                        have HO_4 := n1_
                        have HO_34 := n2_
                        have BK382 := n3_
                        have BK393 := n4_
                        have HB := n5_
                        clear n0_ n1_ n2_ n3_ n4_ n5_
                        (try clear hb)
                        (try clear hb2)
                        (try clear hk)
                        (try clear hi)
                        refine hK.out _ _ ⟨(blk_cell BK393.out 0).trans rfl, (blk_cell BK393.out 1).trans rfl, (blk_cell BK382.out 0).trans rfl, (blk_cell BK382.out 1).trans rfl, (blk_cell BK382.out 2).trans rfl⟩ (fun hHeld => ?_)
                        clear hK K
                        refine norm_ (a' := ?_) ?_ ?_
                        rotate_left
                        · show Act.put _ (some 52) _ = _
                          simp only [Act.put, List.setIfInBounds_toArray, List.set_cons_zero, List.set_cons_succ, i64_w, i32_w]
                          rfl
                        refine one_ (i := 15) (N := some 55) #[true, true, true, true, true, true, true, true, true, true, true, true, true, true, true, true, false, false] rfl rfl (one_of HT_.out (by kernel_rfl)) (by decide) (fun K hK => ?_)
                        refine goes_ Tryd.func21 (by kernel_rfl) rfl #[.int .u32 t399, .int .i64 ((rd_T31 t385 x36_1).f1)] (by rfl) rfl rfl (by (try simp only [List.map_toArray, List.map_cons, List.map_nil]); first | done | rfl | (simp only [List.length_drop, List.length_take]; rfl)) ?_
                        with_reducible refine (cpuset_Has.calls t399 ((rd_T31 t385 x36_1).f1) true _ A31.out).mono ?_
                        rintro e w' ⟨rfl, ⟨nd, rfl⟩⟩
                        refine ⟨_, rfl, ?_⟩
                        refine hK.out _ _ ⟨(blk_cell BK393.out 0).trans rfl, (blk_cell BK393.out 1).trans rfl, (blk_cell BK382.out 0).trans rfl, (blk_cell BK382.out 1).trans rfl, (blk_cell BK382.out 2).trans rfl⟩ (fun hHeld => ?_)
                        clear hK K
                        refine norm_ (a' := ?_) ?_ ?_
                        rotate_left
                        · show Act.put _ (some 55) _ = _
                          simp only [Act.put, List.setIfInBounds_toArray, List.set_cons_zero, List.set_cons_succ, i64_w, i32_w]
                          rfl
                        refine pure_ (i := 16) (N := some 56) (v := ?_) (a' := ?_) #[true, true, true, true, true, true, true, true, true, true, true, true, true, true, true, true, true, false] rfl rfl (any_of HT_.out (by kernel_rfl)) (fun _ _ _ h => h) (Or.inl ⟨by rfl, ?_⟩) ?_ ?_
                        rotate_left
                        · intro w'
                          go_simp
                          first | with_reducible rfl | (rw [field36_2]; rfl)
                        rotate_left
                        · simp only [Act.put, List.setIfInBounds_toArray, List.set_cons_zero, List.set_cons_succ, i64_w, i32_w]
                          rfl
                        refine pure_ (i := 17) (N := some 57) (v := ?_) (a' := ?_) #[true, true, true, true, true, true, true, true, true, true, true, true, true, true, true, true, true, true] rfl rfl (any_of HT_.out (by kernel_rfl)) (fun _ _ _ h => h) (Or.inl ⟨by rfl, ?_⟩) ?_ ?_
                        rotate_left
                        · intro w'
                          go_simp
                          first | with_reducible rfl | (rw [field36_2]; rfl)
                        rotate_left
                        · simp only [Act.put, List.setIfInBounds_toArray, List.set_cons_zero, List.set_cons_succ, i64_w, i32_w]
                          rfl
                        refine done_ (done_of HT_.out (by kernel_rfl)) ?_
                        have hcz42_0 : w41.cell? ⟨gb393, 0, none⟩ = some (.int .i64 ((rd_T31 t385 x36_1).f0)) := (blk_cell BK393.out 0).trans rfl
                        have hcz42_1 : w41.cell? ⟨gb393, 1, none⟩ = some (.int .i64 ((rd_T31 t385 x36_1).f1)) := (blk_cell BK393.out 1).trans rfl
                        have hfz42_0 := blk_frozen BK393.out 0
                        have hfz42_1 := blk_frozen BK393.out 1
                        try go_wp2
                        go_roundg k1
                        case measure => have := HK1.out; omega
                        case rel => exact ⟨(Go.bits .or .u32 x6_1 (ji34)), (wrap64 (x36_1 + 1)), (by first | rfl | (simp; done) | (simp only [← hji34] <;> (first | rfl | simp)) | (simp [*]; done)), (by first | rfl | (simp; done) | (simp [*]; done)), H', ⟨by have := HK1.out; omega⟩, ⟨by (with_reducible repeat (first | apply Kd.R_alloc | apply Kd.R_drewN | apply Kd.R_drew)); exact Kd.R_mono HO_3.out (fun _ hk => trivial)⟩, ⟨by (with_reducible repeat (first | apply Kd.R_alloc | apply Kd.R_drewN | apply Kd.R_drew)); exact HO_4.out⟩, ⟨by (with_reducible repeat (first | apply Kd.R_alloc | apply Kd.R_drewN | apply Kd.R_drew)); exact Kd.R_mono HO_34.out (fun _ hk => trivial)⟩, ⟨by (with_reducible repeat (first | refine blk_drewN ?_ _ | refine blk_drew ?_ | refine blk_alloc ?_ _)); exact BK382.out⟩, ⟨by repeat (first | (with_reducible first | exact HB.out | apply below_alloc | apply pw_below_drewN | apply below_drew1 | refine below_set ?_ GE382.out | refine below_set ?_ GE393.out) | exact HB.out)⟩⟩
                      · rw [if_neg c33] at H
                        exact absurd H (by simp)
                    · replace c32 := Bool.eq_false_iff.mpr c32
                      subst c32
                      have H1 : (some false) = some r := by rw [if_neg (show ¬ (false = true) by decide)] at H; exact H
                      clear H
                      have H := H1
                      clear H1
                      obtain rfl := Option.some.inj H
                      have p392 : 0 ≤ (x36_1 : Int) := of_decide_eq_true (by first | (with_reducible assumption) | assumption)
                      have q392 : x36_1 < (t385.length : Int) := of_decide_eq_true (by first | (with_reducible assumption) | assumption)
                      obtain ⟨ad392, e392, hx392_0, hx392_1⟩ := at_T31 (Kd.R_reads' HO_34.out).2.2 x36_1 p392 q392
                      cases e392
                      replace p392 := eq_true p392
                      replace q392 := eq_true q392
                      try go_wp2_with (first | ((with_reducible refine gate_dst (N := 8) rfl ?_); (try (refine gate_guard (by rfl) ?_; dsimp only)); refine box_event ?hg (N := 8) ?hd (cs := #[.int .i64 0, .int .i64 0]) (t := 31) ?hr ?_; (case hd => rfl); (case hg => rfl); (case hr => first | (go_simp; done) | (go_simp; rfl)); intro gb393 hg w43 hbox hb; have n0_ := Aside0.mk (Kd.R_below (Kd.R_elderB (by (with_reducible repeat (first | apply Kd.R_alloc | apply Kd.R_drewN | apply Kd.R_drew)); exact HO_3.out) gb393 (Nat.le_of_eq hg.symm)) hb); have n1_ := Aside0.mk (Kd.R_below (by (with_reducible repeat (first | apply Kd.R_alloc | apply Kd.R_drewN | apply Kd.R_drew)); exact HO_4.out) hb); have n2_ := Aside0.mk (Kd.R_below (Kd.R_elderB (by (with_reducible repeat (first | apply Kd.R_alloc | apply Kd.R_drewN | apply Kd.R_drew)); exact HO_34.out) gb393 (Nat.le_of_eq hg.symm)) hb); have n3_ := Aside0.mk (blk_below (g := gb382) (o := .cells #[.slice A0_0 l0_0.length c0_0, .slice A0_1 l0_1.length c0_1, .int .u32 a0_2] 41 (0, 0)) (by (with_reducible repeat (first | refine blk_drewN ?_ _ | refine blk_drew ?_ | refine blk_alloc ?_ _)); exact BK382.out) hb); have n4_ := Aside0.mk (below_step (by repeat (first | (with_reducible first | exact HB.out | apply below_alloc | apply pw_below_drewN | apply below_drew1 | refine below_set ?_ GE382.out) | exact HB.out)) hb); have n5_ := Aside0.mk (hbox); have n6_ := Aside0.mk ((by rw [hg]; exact (below_size (by repeat (first | (with_reducible first | exact HB.out | apply below_alloc | apply pw_below_drewN | apply below_drew1 | refine below_set ?_ GE382.out) | exact HB.out))) : w.heap.size ≤ gb393)); have n7_ := Aside0.mk ((by rw [hg]; exact (below_size (by repeat (first | (with_reducible first | exact HB.out | apply below_alloc | apply pw_below_drewN | apply below_drew1 | refine below_set ?_ GE382.out) | exact HB.out))) : w.heap.size ≤ gb393)); have n8_ := Aside0.mk ((by rw [hg]; exact Nat.ne_of_lt (blk_lt (g := gb382) (o := .cells #[.slice A0_0 l0_0.length c0_0, .slice A0_1 l0_1.length c0_1, .int .u32 a0_2] 41 (0, 0)) (by (with_reducible repeat (first | refine blk_drewN ?_ _ | refine blk_drew ?_ | refine blk_alloc ?_ _)); exact BK382.out)) : gb382 ≠ gb393)); have n9_ := Aside0.mk ((by rw [hg]; exact Nat.ne_of_gt (blk_lt (g := gb382) (o := .cells #[.slice A0_0 l0_0.length c0_0, .slice A0_1 l0_1.length c0_1, .int .u32 a0_2] 41 (0, 0)) (by (with_reducible repeat (first | refine blk_drewN ?_ _ | refine blk_drew ?_ | refine blk_alloc ?_ _)); exact BK382.out)) : gb393 ≠ gb382)); clear HO_3; clear HO_4; clear HO_34; clear BK382; clear HB; have HO_3 := n0_; have HO_4 := n1_; have HO_34 := n2_; have BK382 := n3_; have HB := n4_; have BK393 := n5_; have GW393 := n6_; have GE393 := n7_; have NB382_393 := n8_; have NB393_382 := n9_; clear n0_ n1_ n2_ n3_ n4_ n5_ n6_ n7_ n8_ n9_; clear hb hbox hg; have hnb44 := NB393_382.out; have hnc44 := NB382_393.out; have hcz45_0 : w43.cell? ⟨gb393, 0, none⟩ = some (.int .i64 0) := (blk_cell BK393.out 0).trans rfl; have hcz45_1 : w43.cell? ⟨gb393, 1, none⟩ = some (.int .i64 0) := (blk_cell BK393.out 1).trans rfl; have hfz45_0 := blk_frozen BK393.out 0; have hfz45_1 := blk_frozen BK393.out 1))
                      have n0_ : Aside0 (Kd.R k31 31 ((w43.setCell ⟨gb393, 0, none⟩ (.int .i64 ((rd_T31 t385 x36_1).f0))).setCell ⟨gb393, 1, none⟩ (.int .i64 ((rd_T31 t385 x36_1).f1))) w.heap.size (fun k_ => k_ ≠ gb393) (.slice (some ad392) t385.length co18) t385) := ⟨by (with_reducible repeat (first | apply Kd.R_alloc | apply Kd.R_drewN | apply Kd.R_drew)); exact Kd.R_mono (Kd.R_far (p := ⟨gb393, 1, none⟩) (Kd.R_far (p := ⟨gb393, 0, none⟩) (Kd.R_mono HO_3.out (fun k_ hk => (⟨hk, hk.2⟩ : _ ∧ k_ ≠ gb393))) (fun _ hk => hk.2) (.int .i64 ((rd_T31 t385 x36_1).f0))) (fun _ hk => hk.2) (.int .i64 ((rd_T31 t385 x36_1).f1))) (fun _ hk => hk.1.2)⟩
                      have n1_ : Aside0 (Kd.R (Kd.int .i64) 3 ((w43.setCell ⟨gb393, 0, none⟩ (.int .i64 ((rd_T31 t385 x36_1).f0))).setCell ⟨gb393, 1, none⟩ (.int .i64 ((rd_T31 t385 x36_1).f1))) w.heap.size (fun _ => True) v390 t386) := ⟨by (with_reducible repeat (first | apply Kd.R_alloc | apply Kd.R_drewN | apply Kd.R_drew)); exact Kd.R_mono (Kd.R_far (p := ⟨gb393, 1, none⟩) (Kd.R_far (p := ⟨gb393, 0, none⟩) (Kd.R_types HO_4.out BK393.out (by decide)) (fun _ hk => hk.2) (.int .i64 ((rd_T31 t385 x36_1).f0))) (fun _ hk => hk.2) (.int .i64 ((rd_T31 t385 x36_1).f1))) (fun _ hk => trivial)⟩
                      have n2_ : Aside0 (Kd.R k31 31 ((w43.setCell ⟨gb393, 0, none⟩ (.int .i64 ((rd_T31 t385 x36_1).f0))).setCell ⟨gb393, 1, none⟩ (.int .i64 ((rd_T31 t385 x36_1).f1))) w.heap.size (fun k_ => k_ ≠ gb393) (.slice (some ad392) t385.length co18) t385) := ⟨by (with_reducible repeat (first | apply Kd.R_alloc | apply Kd.R_drewN | apply Kd.R_drew)); exact Kd.R_mono (Kd.R_far (p := ⟨gb393, 1, none⟩) (Kd.R_far (p := ⟨gb393, 0, none⟩) (Kd.R_mono HO_34.out (fun k_ hk => (⟨hk, hk.2⟩ : _ ∧ k_ ≠ gb393))) (fun _ hk => hk.2) (.int .i64 ((rd_T31 t385 x36_1).f0))) (fun _ hk => hk.2) (.int .i64 ((rd_T31 t385 x36_1).f1))) (fun _ hk => hk.1.2)⟩
                      have n3_ : Aside0 (((w43.setCell ⟨gb393, 0, none⟩ (.int .i64 ((rd_T31 t385 x36_1).f0))).setCell ⟨gb393, 1, none⟩ (.int .i64 ((rd_T31 t385 x36_1).f1))).heap[gb382]? = some (.cells #[.slice A0_0 l0_0.length c0_0, .slice A0_1 l0_1.length c0_1, .int .u32 a0_2] 41 (0, 0))) := ⟨by (with_reducible repeat (first | refine blk_drewN ?_ _ | refine blk_drew ?_ | refine blk_alloc ?_ _)); refine blk_far ?_ NB382_393.out _; (with_reducible repeat (first | refine blk_drewN ?_ _ | refine blk_drew ?_ | refine blk_alloc ?_ _)); refine blk_far ?_ NB382_393.out _; (with_reducible repeat (first | refine blk_drewN ?_ _ | refine blk_drew ?_ | refine blk_alloc ?_ _)); exact BK382.out⟩
                      have n4_ : Aside0 (((w43.setCell ⟨gb393, 0, none⟩ (.int .i64 ((rd_T31 t385 x36_1).f0))).setCell ⟨gb393, 1, none⟩ (.int .i64 ((rd_T31 t385 x36_1).f1))).heap[gb393]? = some (.cells #[.int .i64 ((rd_T31 t385 x36_1).f0), .int .i64 ((rd_T31 t385 x36_1).f1)] 31 (0, 0))) := ⟨by (with_reducible repeat (first | refine blk_drewN ?_ _ | refine blk_drew ?_ | refine blk_alloc ?_ _)); refine blk_put (cs := #[.int .i64 ((rd_T31 t385 x36_1).f0), .int .i64 0]) ?_ 1 _ rfl; (with_reducible repeat (first | refine blk_drewN ?_ _ | refine blk_drew ?_ | refine blk_alloc ?_ _)); refine blk_put (cs := #[.int .i64 0, .int .i64 0]) ?_ 0 _ rfl; (with_reducible repeat (first | refine blk_drewN ?_ _ | refine blk_drew ?_ | refine blk_alloc ?_ _)); exact BK393.out⟩
                      have n5_ : Aside0 (Below w.heap.size w ((w43.setCell ⟨gb393, 0, none⟩ (.int .i64 ((rd_T31 t385 x36_1).f0))).setCell ⟨gb393, 1, none⟩ (.int .i64 ((rd_T31 t385 x36_1).f1)))) := ⟨by repeat (first | (with_reducible first | exact HB.out | apply below_alloc | apply pw_below_drewN | apply below_drew1 | refine below_set ?_ GE382.out | refine below_set ?_ GE393.out) | exact HB.out)⟩
                      (try clear HO_3)
                      (try clear HO_4)
                      (try clear HO_34)
                      (try clear BK382)
                      (try clear BK393)
                      (try clear HB)
                      generalize ((w43.setCell ⟨gb393, 0, none⟩ (.int .i64 ((rd_T31 t385 x36_1).f0))).setCell ⟨gb393, 1, none⟩ (.int .i64 ((rd_T31 t385 x36_1).f1))) = w46 at n0_ n1_ n2_ n3_ n4_ n5_ ⊢
                      have HO_3 := n0_
                      have HO_4 := n1_
                      have HO_34 := n2_
                      have BK382 := n3_
                      have BK393 := n4_
                      have HB := n5_
                      clear n0_ n1_ n2_ n3_ n4_ n5_
                      have n0_ := Aside0.mk (Kd.R_drew HO_3.out)
                      have n1_ := Aside0.mk (Kd.R_drew HO_4.out)
                      have n2_ := Aside0.mk (Kd.R_drew HO_34.out)
                      have n3_ := Aside0.mk (blk_drew BK382.out)
                      have n4_ := Aside0.mk (blk_drew BK393.out)
                      have n5_ := Aside0.mk (below_drew1 HB.out)
                      clear HO_3
                      clear HO_4
                      clear HO_34
                      clear BK382
                      clear BK393
                      clear HB
                      have HO_3 := n0_
                      have HO_4 := n1_
                      have HO_34 := n2_
                      have BK382 := n3_
                      have BK393 := n4_
                      have HB := n5_
                      clear n0_ n1_ n2_ n3_ n4_ n5_
                      refine start_ (n := 18) (S := fun w' => w'.cell? ⟨gb393, 0, none⟩ = some (.int .i64 ((rd_T31 t385 x36_1).f0)) ∧ w'.cell? ⟨gb393, 1, none⟩ = some (.int .i64 ((rd_T31 t385 x36_1).f1)) ∧ w'.cell? ⟨gb382, 0, none⟩ = some (.slice A0_0 l0_0.length c0_0) ∧ w'.cell? ⟨gb382, 1, none⟩ = some (.slice A0_1 l0_1.length c0_1) ∧ w'.cell? ⟨gb382, 2, none⟩ = some (.int .u32 a0_2)) (ds := []) #[false, false, false, false, false, false, false, false, false, false, false, false, false, false, false, false, false, false] (by kernel_rfl) rfl rfl ⟨(blk_cell BK393.out 0).trans rfl, (blk_cell BK393.out 1).trans rfl, (blk_cell BK382.out 0).trans rfl, (blk_cell BK382.out 1).trans rfl, (blk_cell BK382.out 2).trans rfl⟩ (fun hHeld => ?_); refine with_tabW mainsheetlaw19_PickWhole.tab12 mainsheetlaw19_PickWhole.bits12 (fun HT_ HW_ => ?_)
                      generalize w46.drew = w47 at HO_3 HO_4 HO_34 BK382 BK393 HB hHeld ⊢
                      refine pure_ (i := 0) (N := some 40) (v := ?_) (a' := ?_) #[true, false, false, false, false, false, false, false, false, false, false, false, false, false, false, false, false, false] rfl rfl (any_of HT_.out (by kernel_rfl)) (fun _ _ _ h => h) (Or.inl ⟨by rfl, ?_⟩) ?_ ?_
                      rotate_left
                      · intro w'
                        go_simp
                        first | with_reducible rfl | (rw [field36_2]; rfl)
                      rotate_left
                      · simp only [Act.put, List.setIfInBounds_toArray, List.set_cons_zero, List.set_cons_succ, i64_w, i32_w]
                        rfl
                      refine pure_ (i := 1) (N := some 41) (v := ?_) (a' := ?_) #[true, true, false, false, false, false, false, false, false, false, false, false, false, false, false, false, false, false] rfl rfl (any_of HT_.out (by kernel_rfl)) (fun _ _ _ h => h) (Or.inl ⟨by rfl, ?_⟩) ?_ ?_
                      rotate_left
                      · intro w'
                        go_simp
                        first | with_reducible rfl | (rw [field36_2]; rfl)
                      rotate_left
                      · simp only [Act.put, List.setIfInBounds_toArray, List.set_cons_zero, List.set_cons_succ, i64_w, i32_w]
                        rfl
                      refine take_ (i := 2) (N := some 42) (v := ?_) (a' := ?_) #[true, true, true, false, false, false, false, false, false, false, false, false, false, false, false, false, false, false] rfl rfl (take_ofW HT_.out HW_.out (by kernel_rfl)) (fun _ _ _ h => h) (Or.inl ⟨by rfl, ?_⟩) hHeld ?_ ?_
                      rotate_left
                      · rintro w' ⟨s0, s1, s2, s3, s4⟩
                        go_simp
                        first | with_reducible rfl | (rw [field36_2]; rfl)
                      rotate_left
                      · simp only [Act.put, List.setIfInBounds_toArray, List.set_cons_zero, List.set_cons_succ, i64_w, i32_w]
                        rfl
                      refine one_ (i := 3) (N := some 43) #[true, true, true, true, false, false, false, false, false, false, false, false, false, false, false, false, false, false] rfl rfl (one_of HT_.out (by kernel_rfl)) (by decide) (fun K hK => ?_)
                      refine goes_ Tryd.func21 (by kernel_rfl) rfl #[.int .u32 x6_1, .int .i64 ((rd_T31 t385 x36_1).f1)] (by rfl) rfl rfl (by (try simp only [List.map_toArray, List.map_cons, List.map_nil]); first | done | rfl | (simp only [List.length_drop, List.length_take]; rfl)) ?_
                      with_reducible refine (cpuset_Has.calls x6_1 ((rd_T31 t385 x36_1).f1) false _ A22.out).mono ?_
                      rintro e w' ⟨rfl, ⟨nd, rfl⟩⟩
                      refine ⟨_, rfl, ?_⟩
                      refine hK.out _ _ ⟨(blk_cell BK393.out 0).trans rfl, (blk_cell BK393.out 1).trans rfl, (blk_cell BK382.out 0).trans rfl, (blk_cell BK382.out 1).trans rfl, (blk_cell BK382.out 2).trans rfl⟩ (fun hHeld => ?_)
                      clear hK K
                      refine norm_ (a' := ?_) ?_ ?_
                      rotate_left
                      · show Act.put _ (some 43) _ = _
                        simp only [Act.put, List.setIfInBounds_toArray, List.set_cons_zero, List.set_cons_succ, i64_w, i32_w]
                        rfl
                      refine pure_ (i := 4) (N := some 44) (v := ?_) (a' := ?_) #[true, true, true, true, true, false, false, false, false, false, false, false, false, false, false, false, false, false] rfl rfl (any_of HT_.out (by kernel_rfl)) (fun _ _ _ h => h) (Or.inl ⟨by rfl, ?_⟩) ?_ ?_
                      rotate_left
                      · intro w'
                        go_simp
                        first | with_reducible rfl | (rw [field36_2]; rfl)
                      rotate_left
                      · simp only [Act.put, List.setIfInBounds_toArray, List.set_cons_zero, List.set_cons_succ, i64_w, i32_w]
                        rfl
                      refine pure_ (i := 6) (N := some 46) (v := ?_) (a' := ?_) #[true, true, true, true, true, false, true, false, false, false, false, false, false, false, false, false, false, false] rfl rfl (any_of HT_.out (by kernel_rfl)) (fun _ _ _ h => h) (Or.inl ⟨by rfl, ?_⟩) ?_ ?_
                      rotate_left
                      · intro w'
                        go_simp
                        first | with_reducible rfl | (rw [field36_2]; rfl)
                      rotate_left
                      · simp only [Act.put, List.setIfInBounds_toArray, List.set_cons_zero, List.set_cons_succ, i64_w, i32_w]
                        rfl
                      refine pure_ (i := 10) (N := some 50) (v := ?_) (a' := ?_) #[true, true, true, true, true, false, true, false, false, false, true, false, false, false, false, false, false, false] rfl rfl (any_of HT_.out (by kernel_rfl)) (fun _ _ _ h => h) (Or.inl ⟨by rfl, ?_⟩) ?_ ?_
                      rotate_left
                      · intro w'
                        go_simp
                        first | with_reducible rfl | (rw [field36_2]; rfl)
                      rotate_left
                      · simp only [Act.put, List.setIfInBounds_toArray, List.set_cons_zero, List.set_cons_succ, i64_w, i32_w]
                        rfl
                      refine pure_ (i := 13) (N := some 53) (v := ?_) (a' := ?_) #[true, true, true, true, true, false, true, false, false, false, true, false, false, true, false, false, false, false] rfl rfl (any_of HT_.out (by kernel_rfl)) (fun _ _ _ h => h) (Or.inl ⟨by rfl, ?_⟩) ?_ ?_
                      rotate_left
                      · intro w'
                        go_simp
                        first | with_reducible rfl | (rw [field36_2]; rfl)
                      rotate_left
                      · simp only [Act.put, List.setIfInBounds_toArray, List.set_cons_zero, List.set_cons_succ, i64_w, i32_w]
                        rfl
                      refine take_ (i := 5) (N := some 45) (v := ?_) (a' := ?_) #[true, true, true, true, true, true, true, false, false, false, true, false, false, true, false, false, false, false] rfl rfl (take_ofW HT_.out HW_.out (by kernel_rfl)) (fun _ _ _ h => h) (Or.inl ⟨by rfl, ?_⟩) hHeld ?_ ?_
                      rotate_left
                      · rintro w' ⟨s0, s1, s2, s3, s4⟩
                        go_simp
                        first | with_reducible rfl | (rw [field36_2]; rfl)
                      rotate_left
                      · simp only [Act.put, List.setIfInBounds_toArray, List.set_cons_zero, List.set_cons_succ, i64_w, i32_w]
                        rfl
                      refine take_ (i := 7) (N := some 47) (v := ?_) (a' := ?_) #[true, true, true, true, true, true, true, true, false, false, true, false, false, true, false, false, false, false] rfl rfl (take_ofW HT_.out HW_.out (by kernel_rfl)) (fun _ _ _ h => h) (Or.inl ⟨by rfl, ?_⟩) hHeld ?_ ?_
                      rotate_left
                      · rintro w' ⟨s0, s1, s2, s3, s4⟩
                        go_simp
                        first | with_reducible rfl | (rw [field36_2]; rfl)
                      rotate_left
                      · simp only [Act.put, List.setIfInBounds_toArray, List.set_cons_zero, List.set_cons_succ, i64_w, i32_w]
                        rfl
                      refine take_ (i := 11) (N := some 51) (v := ?_) (a' := ?_) #[true, true, true, true, true, true, true, true, false, false, true, true, false, true, false, false, false, false] rfl rfl (take_ofW HT_.out HW_.out (by kernel_rfl)) (fun _ _ _ h => h) (Or.inl ⟨by rfl, ?_⟩) hHeld ?_ ?_
                      rotate_left
                      · rintro w' ⟨s0, s1, s2, s3, s4⟩
                        go_simp
                        first | with_reducible rfl | (rw [field36_2]; rfl)
                      rotate_left
                      · simp only [Act.put, List.setIfInBounds_toArray, List.set_cons_zero, List.set_cons_succ, i64_w, i32_w]
                        rfl
                      refine take_ (i := 14) (N := some 54) (v := ?_) (a' := ?_) #[true, true, true, true, true, true, true, true, false, false, true, true, false, true, true, false, false, false] rfl rfl (take_ofW HT_.out HW_.out (by kernel_rfl)) (fun _ _ _ h => h) (Or.inl ⟨by rfl, ?_⟩) hHeld ?_ ?_
                      rotate_left
                      · rintro w' ⟨s0, s1, s2, s3, s4⟩
                        go_simp
                        first | with_reducible rfl | (rw [field36_2]; rfl)
                      rotate_left
                      · simp only [Act.put, List.setIfInBounds_toArray, List.set_cons_zero, List.set_cons_succ, i64_w, i32_w]
                        rfl
                      refine one_ (i := 8) (N := some 48) #[true, true, true, true, true, true, true, true, true, false, true, true, false, true, true, false, false, false] rfl rfl (one_of HT_.out (by kernel_rfl)) (by decide) (fun K hK => ?_)
                      refine goes_ Tryd.func23 (by kernel_rfl) rfl #[.agg #[.slice A0_0 l0_0.length c0_0, .slice A0_1 l0_1.length c0_1, .int .u32 a0_2], .int .i64 ((rd_T31 t385 x36_1).f0)] (by rfl) rfl rfl (by (try simp only [List.map_toArray, List.map_cons, List.map_nil]); first | done | rfl | (simp only [List.length_drop, List.length_take]; rfl)) ?_
                      with_reducible refine (mainsheetlaw19_Ask_wish.calls k1 _ _ l0_0 _ _ l0_1 a0_2 ((rd_T31 t385 x36_1).f0) t395 t396 t397 t398 _ ?side1 ?side2 ?side3 ?side4 A29.out).mono ?_
                      (case side1 => repeat (first | exact (Kd.C_below HR0_0.out (by repeat (first | (with_reducible first | exact HB.out | apply below_alloc | apply pw_below_drewN | apply below_drew1 | refine below_set ?_ GE382.out | refine below_set ?_ GE393.out) | exact HB.out))) | (with_reducible refine Kd.C_alloc ?_ _) | (with_reducible refine Kd.C_drewN ?_ _) | (with_reducible refine Kd.C_drew ?_)))
                      (case side2 => exact HC0_0.out)
                      (case side3 => repeat (first | exact (Kd.C_below HR0_1.out (by repeat (first | (with_reducible first | exact HB.out | apply below_alloc | apply pw_below_drewN | apply below_drew1 | refine below_set ?_ GE382.out | refine below_set ?_ GE393.out) | exact HB.out))) | (with_reducible refine Kd.C_alloc ?_ _) | (with_reducible refine Kd.C_drewN ?_ _) | (with_reducible refine Kd.C_drew ?_)))
                      (case side4 => exact HC0_1.out)
                      rintro e w48 ⟨rfl, hb⟩
                      refine ⟨_, rfl, ?_⟩
                      have n0_ := Aside0.mk (Kd.R_below (by (with_reducible repeat (first | apply Kd.R_alloc | apply Kd.R_drewN | apply Kd.R_drew)); exact HO_3.out) hb)
                      have n1_ := Aside0.mk (Kd.R_below (by (with_reducible repeat (first | apply Kd.R_alloc | apply Kd.R_drewN | apply Kd.R_drew)); exact HO_4.out) hb)
                      have n2_ := Aside0.mk (Kd.R_below (by (with_reducible repeat (first | apply Kd.R_alloc | apply Kd.R_drewN | apply Kd.R_drew)); exact HO_34.out) hb)
                      have n3_ := Aside0.mk (blk_below (g := gb382) (o := .cells #[.slice A0_0 l0_0.length c0_0, .slice A0_1 l0_1.length c0_1, .int .u32 a0_2] 41 (0, 0)) (by (with_reducible repeat (first | refine blk_drewN ?_ _ | refine blk_drew ?_ | refine blk_alloc ?_ _)); exact BK382.out) hb)
                      have n4_ := Aside0.mk (blk_below (g := gb393) (o := .cells #[.int .i64 ((rd_T31 t385 x36_1).f0), .int .i64 ((rd_T31 t385 x36_1).f1)] 31 (0, 0)) (by (with_reducible repeat (first | refine blk_drewN ?_ _ | refine blk_drew ?_ | refine blk_alloc ?_ _)); exact BK393.out) hb)
                      have n5_ := Aside0.mk (below_step (by repeat (first | (with_reducible first | exact HB.out | apply below_alloc | apply pw_below_drewN | apply below_drew1 | refine below_set ?_ GE382.out | refine below_set ?_ GE393.out) | exact HB.out)) hb)
                      clear HO_3
                      clear HO_4
                      clear HO_34
                      clear BK382
                      clear BK393
                      clear HB
                      have HO_3 := n0_
                      have HO_4 := n1_
                      have HO_34 := n2_
                      have BK382 := n3_
                      have BK393 := n4_
                      have HB := n5_
                      clear n0_ n1_ n2_ n3_ n4_ n5_
                      (try clear hb)
                      (try clear hb2)
                      (try clear hk)
                      (try clear hi)
                      refine hK.out _ _ ⟨(blk_cell BK393.out 0).trans rfl, (blk_cell BK393.out 1).trans rfl, (blk_cell BK382.out 0).trans rfl, (blk_cell BK382.out 1).trans rfl, (blk_cell BK382.out 2).trans rfl⟩ (fun hHeld => ?_)
                      clear hK K
                      refine norm_ (a' := ?_) ?_ ?_
                      rotate_left
                      · show Act.put _ (some 48) _ = _
                        simp only [Act.put, List.setIfInBounds_toArray, List.set_cons_zero, List.set_cons_succ, i64_w, i32_w]
                        rfl
                      refine pure_ (i := 9) (N := some 49) (v := ?_) (a' := ?_) #[true, true, true, true, true, true, true, true, true, true, true, true, false, true, true, false, false, false] rfl rfl (any_of HT_.out (by kernel_rfl)) (fun _ _ _ h => h) (Or.inl ⟨by rfl, ?_⟩) ?_ ?_
                      rotate_left
                      · intro w'
                        go_simp
                        first | with_reducible rfl | (rw [field36_2]; rfl)
                      rotate_left
                      · simp only [Act.put, List.setIfInBounds_toArray, List.set_cons_zero, List.set_cons_succ, i64_w, i32_w]
                        rfl
                      refine one_ (i := 12) (N := some 52) #[true, true, true, true, true, true, true, true, true, true, true, true, true, true, true, false, false, false] rfl rfl (one_of HT_.out (by kernel_rfl)) (by decide) (fun K hK => ?_)
                      refine goes_ Tryd.func22 (by kernel_rfl) rfl #[.agg #[.int .u32 t397, .int .u32 t398], .int .u32 a0_2] (by rfl) rfl rfl (by (try simp only [List.map_toArray, List.map_cons, List.map_nil]); first | done | rfl | (simp only [List.length_drop, List.length_take]; rfl)) ?_
                      with_reducible refine (mask_Allows.calls k1 t397 t398 a0_2 t399 _ A30.out).mono ?_
                      rintro e w49 ⟨rfl, hb⟩
                      refine ⟨_, rfl, ?_⟩
                      have n0_ := Aside0.mk (Kd.R_below (by (with_reducible repeat (first | apply Kd.R_alloc | apply Kd.R_drewN | apply Kd.R_drew)); exact HO_3.out) hb)
                      have n1_ := Aside0.mk (Kd.R_below (by (with_reducible repeat (first | apply Kd.R_alloc | apply Kd.R_drewN | apply Kd.R_drew)); exact HO_4.out) hb)
                      have n2_ := Aside0.mk (Kd.R_below (by (with_reducible repeat (first | apply Kd.R_alloc | apply Kd.R_drewN | apply Kd.R_drew)); exact HO_34.out) hb)
                      have n3_ := Aside0.mk (blk_below (g := gb382) (o := .cells #[.slice A0_0 l0_0.length c0_0, .slice A0_1 l0_1.length c0_1, .int .u32 a0_2] 41 (0, 0)) (by (with_reducible repeat (first | refine blk_drewN ?_ _ | refine blk_drew ?_ | refine blk_alloc ?_ _)); exact BK382.out) hb)
                      have n4_ := Aside0.mk (blk_below (g := gb393) (o := .cells #[.int .i64 ((rd_T31 t385 x36_1).f0), .int .i64 ((rd_T31 t385 x36_1).f1)] 31 (0, 0)) (by (with_reducible repeat (first | refine blk_drewN ?_ _ | refine blk_drew ?_ | refine blk_alloc ?_ _)); exact BK393.out) hb)
                      have n5_ := Aside0.mk (below_step (by repeat (first | (with_reducible first | exact HB.out | apply below_alloc | apply pw_below_drewN | apply below_drew1 | refine below_set ?_ GE382.out | refine below_set ?_ GE393.out) | exact HB.out)) hb)
                      clear HO_3
                      clear HO_4
                      clear HO_34
                      clear BK382
                      clear BK393
                      clear HB
                      have HO_3 := n0_
                      have HO_4 := n1_
                      have HO_34 := n2_
                      have BK382 := n3_
                      have BK393 := n4_
                      have HB := n5_
                      clear n0_ n1_ n2_ n3_ n4_ n5_
                      (try clear hb)
                      (try clear hb2)
                      (try clear hk)
                      (try clear hi)
                      refine hK.out _ _ ⟨(blk_cell BK393.out 0).trans rfl, (blk_cell BK393.out 1).trans rfl, (blk_cell BK382.out 0).trans rfl, (blk_cell BK382.out 1).trans rfl, (blk_cell BK382.out 2).trans rfl⟩ (fun hHeld => ?_)
                      clear hK K
                      refine norm_ (a' := ?_) ?_ ?_
                      rotate_left
                      · show Act.put _ (some 52) _ = _
                        simp only [Act.put, List.setIfInBounds_toArray, List.set_cons_zero, List.set_cons_succ, i64_w, i32_w]
                        rfl
                      refine one_ (i := 15) (N := some 55) #[true, true, true, true, true, true, true, true, true, true, true, true, true, true, true, true, false, false] rfl rfl (one_of HT_.out (by kernel_rfl)) (by decide) (fun K hK => ?_)
                      refine goes_ Tryd.func21 (by kernel_rfl) rfl #[.int .u32 t399, .int .i64 ((rd_T31 t385 x36_1).f1)] (by rfl) rfl rfl (by (try simp only [List.map_toArray, List.map_cons, List.map_nil]); first | done | rfl | (simp only [List.length_drop, List.length_take]; rfl)) ?_
                      with_reducible refine (cpuset_Has.calls t399 ((rd_T31 t385 x36_1).f1) false _ A31.out).mono ?_
                      rintro e w' ⟨rfl, ⟨nd, rfl⟩⟩
                      refine ⟨_, rfl, ?_⟩
                      refine hK.out _ _ ⟨(blk_cell BK393.out 0).trans rfl, (blk_cell BK393.out 1).trans rfl, (blk_cell BK382.out 0).trans rfl, (blk_cell BK382.out 1).trans rfl, (blk_cell BK382.out 2).trans rfl⟩ (fun hHeld => ?_)
                      clear hK K
                      refine norm_ (a' := ?_) ?_ ?_
                      rotate_left
                      · show Act.put _ (some 55) _ = _
                        simp only [Act.put, List.setIfInBounds_toArray, List.set_cons_zero, List.set_cons_succ, i64_w, i32_w]
                        rfl
                      refine pure_ (i := 16) (N := some 56) (v := ?_) (a' := ?_) #[true, true, true, true, true, true, true, true, true, true, true, true, true, true, true, true, true, false] rfl rfl (any_of HT_.out (by kernel_rfl)) (fun _ _ _ h => h) (Or.inl ⟨by rfl, ?_⟩) ?_ ?_
                      rotate_left
                      · intro w'
                        go_simp
                        first | with_reducible rfl | (rw [field36_2]; rfl)
                      rotate_left
                      · simp only [Act.put, List.setIfInBounds_toArray, List.set_cons_zero, List.set_cons_succ, i64_w, i32_w]
                        rfl
                      refine pure_ (i := 17) (N := some 57) (v := ?_) (a' := ?_) #[true, true, true, true, true, true, true, true, true, true, true, true, true, true, true, true, true, true] rfl rfl (any_of HT_.out (by kernel_rfl)) (fun _ _ _ h => h) (Or.inl ⟨by rfl, ?_⟩) ?_ ?_
                      rotate_left
                      · intro w'
                        go_simp
                        first | with_reducible rfl | (rw [field36_2]; rfl)
                      rotate_left
                      · simp only [Act.put, List.setIfInBounds_toArray, List.set_cons_zero, List.set_cons_succ, i64_w, i32_w]
                        rfl
                      refine done_ (done_of HT_.out (by kernel_rfl)) ?_
                      try go_wp2
                      go_ret
                      exact ⟨by first | rfl | (simp [errW_none, errW_some] <;> rfl) | (simp [*, errW_none, errW_some] <;> rfl), by repeat (first | (with_reducible first | exact HB.out | apply below_alloc | apply pw_below_drewN | apply below_drew1 | refine below_set ?_ GE382.out | refine below_set ?_ GE393.out) | exact HB.out)⟩
                · rw [if_neg c21] at H
                  exact absurd H (by simp)
              · rw [if_neg c20] at H
                exact absurd H (by simp)
            · rw [if_neg c19] at H
              have c19b0 : decide (x36_1 < (t385.length : Int)) = false := decide_eq_false c19
              clear c19
              have H' := Aside0.mk H
              clear H
              obtain ⟨Ao50, co50, eo50⟩ := Kd.R_slice HO_4.out
              subst eo50
              go_wp2
              go_loopg [66] k1 (fun kq v66 w' => ∃ (x66_2 : Int), v66 = .int .i64 x66_2 ∧ Aside0 (mainsheetlaw19_PickWhole.l1 kq t385 t386 t386 (t386.length : Int) x66_2 l0_0 l0_1 a0_2 = some r) ∧ Aside0 (kq ≤ k1) ∧ Aside0 (Kd.R k31 31 w' w.heap.size (fun _ => True) (.slice Ao18 t385.length co18) t385) ∧ Aside0 (Kd.R (Kd.int .i64) 3 w' w.heap.size (fun _ => True) (.slice Ao50 t386.length co50) t386) ∧ Aside0 (Kd.R (Kd.int .i64) 3 w' w.heap.size (fun _ => True) (.slice Ao50 t386.length co50) t386) ∧ Aside0 (w'.heap[gb382]? = some (.cells #[(.slice A0_0 l0_0.length c0_0), (.slice A0_1 l0_1.length c0_1), .int .u32 a0_2] 41 (0, 0))) ∧ Aside0 (Below w.heap.size w w'))
              case atStart => exact ⟨(0), (by first | rfl | (simp; done) | (simp [*]; done)), H', ⟨Nat.le_refl _⟩, ⟨by (with_reducible repeat (first | apply Kd.R_alloc | apply Kd.R_drewN | apply Kd.R_drew)); exact HO_3.out⟩, ⟨by (with_reducible repeat (first | apply Kd.R_alloc | apply Kd.R_drewN | apply Kd.R_drew)); exact HO_4.out⟩, ⟨by (with_reducible repeat (first | apply Kd.R_alloc | apply Kd.R_drewN | apply Kd.R_drew)); exact HO_4.out⟩, ⟨by (with_reducible repeat (first | refine blk_drewN ?_ _ | refine blk_drew ?_ | refine blk_alloc ?_ _)); exact BK382.out⟩, ⟨by repeat (first | (with_reducible first | exact HB.out | apply below_alloc | apply pw_below_drewN | apply below_drew1 | refine below_set ?_ GE382.out) | exact HB.out)⟩⟩
              case round =>
                clear H'
                try clear c1
                try clear c2
                try clear p2
                try clear c3
                try clear p3
                try clear q3
                try clear hx3
                try clear c4
                try clear p6
                try clear c19
                try clear c19b0
                try clear c20
                try clear c21
                try clear c22
                try clear c23
                try clear c32
                try clear c33
                try clear c33b0
                try clear c33b1
                try clear c36
                try clear p39
                try clear q39
                try clear hx39
                try clear c44
                try clear hcz37_0
                try clear hcz37_1
                try clear hcz42_0
                try clear hcz42_1
                try clear hcz45_0
                try clear hcz45_1
                try clear hfz37_0
                try clear hfz37_1
                try clear hfz42_0
                try clear hfz42_1
                try clear hfz45_0
                try clear hfz45_1
                try clear hx392_0
                try clear hx392_1
                try clear p392
                try clear q392
                obtain ⟨x66_2, rfl, HA, HK2, HO_3, HO_4, HO_64, BK382, HB⟩ := hrel
                cases gk with
                | zero => exact absurd HA.out (by simp [mainsheetlaw19_PickWhole.l1])
                | succ k2 =>
                  have H := HA.out
                  clear HA
                  simp only [mainsheetlaw19_PickWhole.l1] at H
                  by_cases c51 : x66_2 < (t386.length : Int)
                  · rw [if_pos c51] at H
                    have c51b0 : decide (x66_2 < (t386.length : Int)) = true := decide_eq_true c51
                    clear c51
                    by_cases c52 : 0 ≤ x66_2
                    · rw [if_pos c52] at H
                      have c52b0 : decide (0 ≤ x66_2) = true := decide_eq_true c52
                      clear c52
                      by_cases c53 : x66_2 < (t386.length : Int)
                      · rw [if_pos c53] at H
                        have c53b0 : decide (x66_2 < (t386.length : Int)) = true := decide_eq_true c53
                        clear c53
                        replace H := Option.bind_eq_some_iff.mp H
                        obtain ⟨⟨t402, t403⟩, A540, H⟩ := H
                        replace H : (if t403 = true then (some false) else (mainsheetlaw19_PickWhole.l1 k2 t385 t386 t386 (t386.length : Int) (wrap64 (x66_2 + 1)) l0_0 l0_1 a0_2)) = some r := H
                        have A54 := Aside0.mk A540
                        clear A540
                        by_cases c55 : t403 = true
                        · subst c55
                          have H1 : (some false) = some r := by rw [if_pos rfl] at H; exact H
                          clear H
                          have H := H1
                          clear H1
                          obtain rfl := Option.some.inj H
                          have p401 : 0 ≤ (x66_2 : Int) := of_decide_eq_true (by first | (with_reducible assumption) | assumption)
                          have q401 : x66_2 < (t386.length : Int) := of_decide_eq_true (by first | (with_reducible assumption) | assumption)
                          obtain ⟨ad401, e401, hx401_0⟩ := Kd.at_int (Kd.R_reads' HO_64.out).2.2 x66_2 p401 q401
                          cases e401
                          replace p401 := eq_true p401
                          replace q401 := eq_true q401
                          go_wp2_with (first | ((with_reducible refine gate_callee (f := 24) rfl ?_); refine goesL_ (some 73) rfl rfl Tryd.func24 (by kernel_rfl) rfl #[.slice Ao18 t385.length co18, .int .i64 (rd t386 x66_2)] rfl (by (try simp only [List.map_toArray, List.map_cons, List.map_nil]); first | done | rfl | (simp only [List.length_drop, List.length_take]; rfl)) ?_; (with_reducible refine (pick_On.calls _ _ t385 (rd t386 x66_2) t402 true _ ?side1 ?side2 A54.out).mono ?_); (case side1 => repeat (first | exact (Kd.R_reads' HO_3.out).2.2 | (with_reducible refine Kd.C_alloc ?_ _) | (with_reducible refine Kd.C_drewN ?_ _) | (with_reducible refine Kd.C_drew ?_))); (case side2 => exact (Kd.R_reads' HO_3.out).2.1); rintro e w56 ⟨rfl, hb⟩; refine ⟨_, rfl, ?_⟩; have n0_ := Aside0.mk (Kd.R_below (by (with_reducible repeat (first | apply Kd.R_alloc | apply Kd.R_drewN | apply Kd.R_drew)); exact HO_3.out) hb); have n1_ := Aside0.mk (Kd.R_below (by (with_reducible repeat (first | apply Kd.R_alloc | apply Kd.R_drewN | apply Kd.R_drew)); exact HO_4.out) hb); have n2_ := Aside0.mk (Kd.R_below (by (with_reducible repeat (first | apply Kd.R_alloc | apply Kd.R_drewN | apply Kd.R_drew)); exact HO_64.out) hb); have n3_ := Aside0.mk (blk_below (g := gb382) (o := .cells #[.slice A0_0 l0_0.length c0_0, .slice A0_1 l0_1.length c0_1, .int .u32 a0_2] 41 (0, 0)) (by (with_reducible repeat (first | refine blk_drewN ?_ _ | refine blk_drew ?_ | refine blk_alloc ?_ _)); exact BK382.out) hb); have n4_ := Aside0.mk (below_step (by repeat (first | (with_reducible first | exact HB.out | apply below_alloc | apply pw_below_drewN | apply below_drew1 | refine below_set ?_ GE382.out) | exact HB.out)) hb); clear HO_3; clear HO_4; clear HO_64; clear BK382; clear HB; have HO_3 := n0_; have HO_4 := n1_; have HO_64 := n2_; have BK382 := n3_; have HB := n4_; clear n0_ n1_ n2_ n3_ n4_; (try clear hb); (try clear hb2); (try clear hk); (try clear hi)))
                          go_ret
                          exact ⟨by first | rfl | (simp [errW_none, errW_some] <;> rfl) | (simp [*, errW_none, errW_some] <;> rfl), by repeat (first | (with_reducible first | exact HB.out | apply below_alloc | apply pw_below_drewN | apply below_drew1 | refine below_set ?_ GE382.out) | exact HB.out)⟩
                        · replace c55 := Bool.eq_false_iff.mpr c55
                          subst c55
                          have H1 : (mainsheetlaw19_PickWhole.l1 k2 t385 t386 t386 (t386.length : Int) (wrap64 (x66_2 + 1)) l0_0 l0_1 a0_2) = some r := by rw [if_neg (show ¬ (false = true) by decide)] at H; exact H
                          clear H
                          have H := H1
                          clear H1
                          have H' := Aside0.mk H
                          clear H
                          have p401 : 0 ≤ (x66_2 : Int) := of_decide_eq_true (by first | (with_reducible assumption) | assumption)
                          have q401 : x66_2 < (t386.length : Int) := of_decide_eq_true (by first | (with_reducible assumption) | assumption)
                          obtain ⟨ad401, e401, hx401_0⟩ := Kd.at_int (Kd.R_reads' HO_64.out).2.2 x66_2 p401 q401
                          cases e401
                          replace p401 := eq_true p401
                          replace q401 := eq_true q401
                          go_wp2_with (first | ((with_reducible refine gate_callee (f := 24) rfl ?_); refine goesL_ (some 73) rfl rfl Tryd.func24 (by kernel_rfl) rfl #[.slice Ao18 t385.length co18, .int .i64 (rd t386 x66_2)] rfl (by (try simp only [List.map_toArray, List.map_cons, List.map_nil]); first | done | rfl | (simp only [List.length_drop, List.length_take]; rfl)) ?_; (with_reducible refine (pick_On.calls _ _ t385 (rd t386 x66_2) t402 false _ ?side1 ?side2 A54.out).mono ?_); (case side1 => repeat (first | exact (Kd.R_reads' HO_3.out).2.2 | (with_reducible refine Kd.C_alloc ?_ _) | (with_reducible refine Kd.C_drewN ?_ _) | (with_reducible refine Kd.C_drew ?_))); (case side2 => exact (Kd.R_reads' HO_3.out).2.1); rintro e w57 ⟨rfl, hb⟩; refine ⟨_, rfl, ?_⟩; have n0_ := Aside0.mk (Kd.R_below (by (with_reducible repeat (first | apply Kd.R_alloc | apply Kd.R_drewN | apply Kd.R_drew)); exact HO_3.out) hb); have n1_ := Aside0.mk (Kd.R_below (by (with_reducible repeat (first | apply Kd.R_alloc | apply Kd.R_drewN | apply Kd.R_drew)); exact HO_4.out) hb); have n2_ := Aside0.mk (Kd.R_below (by (with_reducible repeat (first | apply Kd.R_alloc | apply Kd.R_drewN | apply Kd.R_drew)); exact HO_64.out) hb); have n3_ := Aside0.mk (blk_below (g := gb382) (o := .cells #[.slice A0_0 l0_0.length c0_0, .slice A0_1 l0_1.length c0_1, .int .u32 a0_2] 41 (0, 0)) (by (with_reducible repeat (first | refine blk_drewN ?_ _ | refine blk_drew ?_ | refine blk_alloc ?_ _)); exact BK382.out) hb); have n4_ := Aside0.mk (below_step (by repeat (first | (with_reducible first | exact HB.out | apply below_alloc | apply pw_below_drewN | apply below_drew1 | refine below_set ?_ GE382.out) | exact HB.out)) hb); clear HO_3; clear HO_4; clear HO_64; clear BK382; clear HB; have HO_3 := n0_; have HO_4 := n1_; have HO_64 := n2_; have BK382 := n3_; have HB := n4_; clear n0_ n1_ n2_ n3_ n4_; (try clear hb); (try clear hb2); (try clear hk); (try clear hi)))
                          go_roundg k2
                          case measure => have := HK1.out; have := HK2.out; omega
                          case rel => exact ⟨(wrap64 (x66_2 + 1)), (by first | rfl | (simp; done) | (simp [*]; done)), H', ⟨by have := HK1.out; have := HK2.out; omega⟩, ⟨by (with_reducible repeat (first | apply Kd.R_alloc | apply Kd.R_drewN | apply Kd.R_drew)); exact HO_3.out⟩, ⟨by (with_reducible repeat (first | apply Kd.R_alloc | apply Kd.R_drewN | apply Kd.R_drew)); exact HO_4.out⟩, ⟨by (with_reducible repeat (first | apply Kd.R_alloc | apply Kd.R_drewN | apply Kd.R_drew)); exact HO_64.out⟩, ⟨by (with_reducible repeat (first | refine blk_drewN ?_ _ | refine blk_drew ?_ | refine blk_alloc ?_ _)); exact BK382.out⟩, ⟨by repeat (first | (with_reducible first | exact HB.out | apply below_alloc | apply pw_below_drewN | apply below_drew1 | refine below_set ?_ GE382.out) | exact HB.out)⟩⟩
                      · rw [if_neg c53] at H
                        exact absurd H (by simp)
                    · rw [if_neg c52] at H
                      exact absurd H (by simp)
                  · rw [if_neg c51] at H
                    have c51b0 : decide (x66_2 < (t386.length : Int)) = false := decide_eq_false c51
                    clear c51
                    replace H := Option.bind_eq_some_iff.mp H
                    obtain ⟨⟨t404, t405⟩, A580, H⟩ := H
                    replace H : (if t405 = 0 then (if (t404.length : Int) = 0 then ((pick_Whole.f k2 l0_0 t385).bind fun t408 => (if t408 = true then (some ((wrap64 ((t385.length : Int) + (t386.length : Int))) == (l0_1.length : Int))) else (some false))) else (some false)) else (some false)) = some r := H
                    have A58 := Aside0.mk A580
                    clear A580
                    by_cases c59 : t405 = 0
                    · rw [if_pos c59] at H
                      have c59b0 : (t405 == 0) = true := beq_iff_eq.mpr c59
                      have c59b1 : (t405 != 0) = false := bne_eq_false_iff_eq.mpr c59
                      clear c59
                      by_cases c60 : (t404.length : Int) = 0
                      · rw [if_pos c60] at H
                        have c60b0 : ((t404.length : Int) == 0) = true := beq_iff_eq.mpr c60
                        have c60b1 : ((t404.length : Int) != 0) = false := bne_eq_false_iff_eq.mpr c60
                        clear c60
                        replace H := Option.bind_eq_some_iff.mp H
                        obtain ⟨t408, A610, H⟩ := H
                        replace H : (if t408 = true then (some ((wrap64 ((t385.length : Int) + (t386.length : Int))) == (l0_1.length : Int))) else (some false)) = some r := H
                        have A61 := Aside0.mk A610
                        clear A610
                        by_cases c62 : t408 = true
                        · subst c62
                          have H1 : (some ((wrap64 ((t385.length : Int) + (t386.length : Int))) == (l0_1.length : Int))) = some r := by rw [if_pos rfl] at H; exact H
                          clear H
                          have H := H1
                          clear H1
                          obtain rfl := Option.some.inj H
                          have hcz63_0 : wr.cell? ⟨gb382, 0, none⟩ = some (.slice A0_0 l0_0.length c0_0) := (blk_cell BK382.out 0).trans rfl
                          have hcz63_1 : wr.cell? ⟨gb382, 1, none⟩ = some (.slice A0_1 l0_1.length c0_1) := (blk_cell BK382.out 1).trans rfl
                          have hcz63_2 : wr.cell? ⟨gb382, 2, none⟩ = some (.int .u32 a0_2) := (blk_cell BK382.out 2).trans rfl
                          have hfz63_0 := blk_frozen BK382.out 0
                          have hfz63_1 := blk_frozen BK382.out 1
                          have hfz63_2 := blk_frozen BK382.out 2
                          go_wp2_with (first | ((with_reducible refine gate_callee (f := 25) rfl ?_); refine goesL_ (some 86) rfl rfl Tryd.func25 (by kernel_rfl) rfl #[.slice A0_0 l0_0.length c0_0, .slice A0_1 l0_1.length c0_1, .int .u32 a0_2, .slice Ao18 t385.length co18] rfl (by (try simp only [List.map_toArray, List.map_cons, List.map_nil]); first | done | rfl | (simp only [List.length_drop, List.length_take]; rfl)) ?_; (with_reducible refine (pick_Idle.calls k2 _ _ l0_0 _ _ l0_1 a0_2 _ _ t385 t404 t405 _ ?side1 ?side2 ?side3 ?side4 ?side5 ?side6 ?tb A58.out).mono ?_); (case tb => exact HT.out.step (by repeat (first | (with_reducible first | exact HB.out | apply below_alloc | apply pw_below_drewN | apply below_drew1 | refine below_set ?_ GE382.out) | exact HB.out))); (case side1 => repeat (first | exact (Kd.C_below HR0_0.out HB.out) | (with_reducible refine Kd.C_alloc ?_ _) | (with_reducible refine Kd.C_drewN ?_ _) | (with_reducible refine Kd.C_drew ?_))); (case side2 => exact HC0_0.out); (case side3 => repeat (first | exact (Kd.C_below HR0_1.out HB.out) | (with_reducible refine Kd.C_alloc ?_ _) | (with_reducible refine Kd.C_drewN ?_ _) | (with_reducible refine Kd.C_drew ?_))); (case side4 => exact HC0_1.out); (case side5 => repeat (first | exact (Kd.R_reads' HO_3.out).2.2 | (with_reducible refine Kd.C_alloc ?_ _) | (with_reducible refine Kd.C_drewN ?_ _) | (with_reducible refine Kd.C_drew ?_))); (case side6 => exact (Kd.R_reads' HO_3.out).2.1); rintro e w64 ⟨v406, rfl, ho0, hb⟩; refine ⟨_, rfl, ?_⟩; have n0_ := Aside0.mk (Kd.R_below (by (with_reducible repeat (first | apply Kd.R_alloc | apply Kd.R_drewN | apply Kd.R_drew)); exact HO_3.out) hb); have n1_ := Aside0.mk (Kd.R_elder' (by (with_reducible repeat (first | apply Kd.R_alloc | apply Kd.R_drewN | apply Kd.R_drew)); exact HO_4.out) (Kd.R_base ho0) hb); have n2_ := Aside0.mk (Kd.R_elder' (by (with_reducible repeat (first | apply Kd.R_alloc | apply Kd.R_drewN | apply Kd.R_drew)); exact HO_64.out) (Kd.R_base ho0) hb); have n3_ := Aside0.mk (Kd.R_lower (Kd.R_new' (Kd.R_new' ho0 (Kd.R_lt (by (with_reducible repeat (first | apply Kd.R_alloc | apply Kd.R_drewN | apply Kd.R_drew)); exact HO_4.out))) (Kd.R_lt (by (with_reducible repeat (first | apply Kd.R_alloc | apply Kd.R_drewN | apply Kd.R_drew)); exact HO_64.out))) (below_size (by repeat (first | (with_reducible first | exact HB.out | apply below_alloc | apply pw_below_drewN | apply below_drew1 | refine below_set ?_ GE382.out) | exact HB.out)))); have n4_ := Aside0.mk (blk_below (g := gb382) (o := .cells #[.slice A0_0 l0_0.length c0_0, .slice A0_1 l0_1.length c0_1, .int .u32 a0_2] 41 (0, 0)) (by (with_reducible repeat (first | refine blk_drewN ?_ _ | refine blk_drew ?_ | refine blk_alloc ?_ _)); exact BK382.out) hb); have n5_ := Aside0.mk (below_step (by repeat (first | (with_reducible first | exact HB.out | apply below_alloc | apply pw_below_drewN | apply below_drew1 | refine below_set ?_ GE382.out) | exact HB.out)) hb); clear HO_3; clear HO_4; clear HO_64; clear BK382; clear HB; have HO_3 := n0_; have HO_4 := n1_; have HO_64 := n2_; have HO407 := n3_; have BK382 := n4_; have HB := n5_; clear n0_ n1_ n2_ n3_ n4_ n5_; (try clear hb); (try clear hb2); (try clear hk); (try clear hi); (try clear ho0); obtain ⟨Ao65, co65, eo65⟩ := Kd.R_slice HO407.out; subst eo65; have hcz66_0 : w64.cell? ⟨gb382, 0, none⟩ = some (.slice A0_0 l0_0.length c0_0) := (blk_cell BK382.out 0).trans rfl; have hcz66_1 : w64.cell? ⟨gb382, 1, none⟩ = some (.slice A0_1 l0_1.length c0_1) := (blk_cell BK382.out 1).trans rfl; have hcz66_2 : w64.cell? ⟨gb382, 2, none⟩ = some (.int .u32 a0_2) := (blk_cell BK382.out 2).trans rfl; have hfz66_0 := blk_frozen BK382.out 0; have hfz66_1 := blk_frozen BK382.out 1; have hfz66_2 := blk_frozen BK382.out 2) | (go_at_call 26; (with_reducible refine (pick_Whole.calls k2 _ _ l0_0 _ _ t385 true _ ?side1 ?side2 ?side3 ?side4 A61.out).mono ?_); (case side1 => repeat (first | exact (Kd.C_below HR0_0.out HB.out) | (with_reducible refine Kd.C_alloc ?_ _) | (with_reducible refine Kd.C_drewN ?_ _) | (with_reducible refine Kd.C_drew ?_))); (case side2 => exact HC0_0.out); (case side3 => repeat (first | exact (Kd.R_reads' HO_3.out).2.2 | (with_reducible refine Kd.C_alloc ?_ _) | (with_reducible refine Kd.C_drewN ?_ _) | (with_reducible refine Kd.C_drew ?_))); (case side4 => exact (Kd.R_reads' HO_3.out).2.1); rintro e w67 ⟨rfl, hb⟩; have n0_ := Aside0.mk (Kd.R_below (by (with_reducible repeat (first | apply Kd.R_alloc | apply Kd.R_drewN | apply Kd.R_drew)); exact HO_3.out) hb); have n1_ := Aside0.mk (Kd.R_below (by (with_reducible repeat (first | apply Kd.R_alloc | apply Kd.R_drewN | apply Kd.R_drew)); exact HO_4.out) hb); have n2_ := Aside0.mk (Kd.R_below (by (with_reducible repeat (first | apply Kd.R_alloc | apply Kd.R_drewN | apply Kd.R_drew)); exact HO_64.out) hb); have n3_ := Aside0.mk (Kd.R_below (by (with_reducible repeat (first | apply Kd.R_alloc | apply Kd.R_drewN | apply Kd.R_drew)); exact HO407.out) hb); have n4_ := Aside0.mk (blk_below (g := gb382) (o := .cells #[.slice A0_0 l0_0.length c0_0, .slice A0_1 l0_1.length c0_1, .int .u32 a0_2] 41 (0, 0)) (by (with_reducible repeat (first | refine blk_drewN ?_ _ | refine blk_drew ?_ | refine blk_alloc ?_ _)); exact BK382.out) hb); have n5_ := Aside0.mk (below_step (by repeat (first | (with_reducible first | exact HB.out | apply below_alloc | apply pw_below_drewN | apply below_drew1 | refine below_set ?_ GE382.out) | exact HB.out)) hb); clear HO_3; clear HO_4; clear HO_64; clear HO407; clear BK382; clear HB; have HO_3 := n0_; have HO_4 := n1_; have HO_64 := n2_; have HO407 := n3_; have BK382 := n4_; have HB := n5_; clear n0_ n1_ n2_ n3_ n4_ n5_; (try clear hb); (try clear hb2); (try clear hk); (try clear hi); have hcz68_0 : w67.cell? ⟨gb382, 0, none⟩ = some (.slice A0_0 l0_0.length c0_0) := (blk_cell BK382.out 0).trans rfl; have hcz68_1 : w67.cell? ⟨gb382, 1, none⟩ = some (.slice A0_1 l0_1.length c0_1) := (blk_cell BK382.out 1).trans rfl; have hcz68_2 : w67.cell? ⟨gb382, 2, none⟩ = some (.int .u32 a0_2) := (blk_cell BK382.out 2).trans rfl; have hfz68_0 := blk_frozen BK382.out 0; have hfz68_1 := blk_frozen BK382.out 1; have hfz68_2 := blk_frozen BK382.out 2))
                          go_ret
                          exact ⟨by first | rfl | (simp [errW_none, errW_some] <;> rfl) | (simp [*, errW_none, errW_some] <;> rfl), by repeat (first | (with_reducible first | exact HB.out | apply below_alloc | apply pw_below_drewN | apply below_drew1 | refine below_set ?_ GE382.out) | exact HB.out)⟩
                        · replace c62 := Bool.eq_false_iff.mpr c62
                          subst c62
                          have H1 : (some false) = some r := by rw [if_neg (show ¬ (false = true) by decide)] at H; exact H
                          clear H
                          have H := H1
                          clear H1
                          obtain rfl := Option.some.inj H
                          have hcz69_0 : wr.cell? ⟨gb382, 0, none⟩ = some (.slice A0_0 l0_0.length c0_0) := (blk_cell BK382.out 0).trans rfl
                          have hcz69_1 : wr.cell? ⟨gb382, 1, none⟩ = some (.slice A0_1 l0_1.length c0_1) := (blk_cell BK382.out 1).trans rfl
                          have hcz69_2 : wr.cell? ⟨gb382, 2, none⟩ = some (.int .u32 a0_2) := (blk_cell BK382.out 2).trans rfl
                          have hfz69_0 := blk_frozen BK382.out 0
                          have hfz69_1 := blk_frozen BK382.out 1
                          have hfz69_2 := blk_frozen BK382.out 2
                          go_wp2_with (first | ((with_reducible refine gate_callee (f := 25) rfl ?_); refine goesL_ (some 86) rfl rfl Tryd.func25 (by kernel_rfl) rfl #[.slice A0_0 l0_0.length c0_0, .slice A0_1 l0_1.length c0_1, .int .u32 a0_2, .slice Ao18 t385.length co18] rfl (by (try simp only [List.map_toArray, List.map_cons, List.map_nil]); first | done | rfl | (simp only [List.length_drop, List.length_take]; rfl)) ?_; (with_reducible refine (pick_Idle.calls k2 _ _ l0_0 _ _ l0_1 a0_2 _ _ t385 t404 t405 _ ?side1 ?side2 ?side3 ?side4 ?side5 ?side6 ?tb A58.out).mono ?_); (case tb => exact HT.out.step (by repeat (first | (with_reducible first | exact HB.out | apply below_alloc | apply pw_below_drewN | apply below_drew1 | refine below_set ?_ GE382.out) | exact HB.out))); (case side1 => repeat (first | exact (Kd.C_below HR0_0.out HB.out) | (with_reducible refine Kd.C_alloc ?_ _) | (with_reducible refine Kd.C_drewN ?_ _) | (with_reducible refine Kd.C_drew ?_))); (case side2 => exact HC0_0.out); (case side3 => repeat (first | exact (Kd.C_below HR0_1.out HB.out) | (with_reducible refine Kd.C_alloc ?_ _) | (with_reducible refine Kd.C_drewN ?_ _) | (with_reducible refine Kd.C_drew ?_))); (case side4 => exact HC0_1.out); (case side5 => repeat (first | exact (Kd.R_reads' HO_3.out).2.2 | (with_reducible refine Kd.C_alloc ?_ _) | (with_reducible refine Kd.C_drewN ?_ _) | (with_reducible refine Kd.C_drew ?_))); (case side6 => exact (Kd.R_reads' HO_3.out).2.1); rintro e w70 ⟨v406, rfl, ho0, hb⟩; refine ⟨_, rfl, ?_⟩; have n0_ := Aside0.mk (Kd.R_below (by (with_reducible repeat (first | apply Kd.R_alloc | apply Kd.R_drewN | apply Kd.R_drew)); exact HO_3.out) hb); have n1_ := Aside0.mk (Kd.R_elder' (by (with_reducible repeat (first | apply Kd.R_alloc | apply Kd.R_drewN | apply Kd.R_drew)); exact HO_4.out) (Kd.R_base ho0) hb); have n2_ := Aside0.mk (Kd.R_elder' (by (with_reducible repeat (first | apply Kd.R_alloc | apply Kd.R_drewN | apply Kd.R_drew)); exact HO_64.out) (Kd.R_base ho0) hb); have n3_ := Aside0.mk (Kd.R_lower (Kd.R_new' (Kd.R_new' ho0 (Kd.R_lt (by (with_reducible repeat (first | apply Kd.R_alloc | apply Kd.R_drewN | apply Kd.R_drew)); exact HO_4.out))) (Kd.R_lt (by (with_reducible repeat (first | apply Kd.R_alloc | apply Kd.R_drewN | apply Kd.R_drew)); exact HO_64.out))) (below_size (by repeat (first | (with_reducible first | exact HB.out | apply below_alloc | apply pw_below_drewN | apply below_drew1 | refine below_set ?_ GE382.out) | exact HB.out)))); have n4_ := Aside0.mk (blk_below (g := gb382) (o := .cells #[.slice A0_0 l0_0.length c0_0, .slice A0_1 l0_1.length c0_1, .int .u32 a0_2] 41 (0, 0)) (by (with_reducible repeat (first | refine blk_drewN ?_ _ | refine blk_drew ?_ | refine blk_alloc ?_ _)); exact BK382.out) hb); have n5_ := Aside0.mk (below_step (by repeat (first | (with_reducible first | exact HB.out | apply below_alloc | apply pw_below_drewN | apply below_drew1 | refine below_set ?_ GE382.out) | exact HB.out)) hb); clear HO_3; clear HO_4; clear HO_64; clear BK382; clear HB; have HO_3 := n0_; have HO_4 := n1_; have HO_64 := n2_; have HO407 := n3_; have BK382 := n4_; have HB := n5_; clear n0_ n1_ n2_ n3_ n4_ n5_; (try clear hb); (try clear hb2); (try clear hk); (try clear hi); (try clear ho0); obtain ⟨Ao71, co71, eo71⟩ := Kd.R_slice HO407.out; subst eo71; have hcz72_0 : w70.cell? ⟨gb382, 0, none⟩ = some (.slice A0_0 l0_0.length c0_0) := (blk_cell BK382.out 0).trans rfl; have hcz72_1 : w70.cell? ⟨gb382, 1, none⟩ = some (.slice A0_1 l0_1.length c0_1) := (blk_cell BK382.out 1).trans rfl; have hcz72_2 : w70.cell? ⟨gb382, 2, none⟩ = some (.int .u32 a0_2) := (blk_cell BK382.out 2).trans rfl; have hfz72_0 := blk_frozen BK382.out 0; have hfz72_1 := blk_frozen BK382.out 1; have hfz72_2 := blk_frozen BK382.out 2) | (go_at_call 26; (with_reducible refine (pick_Whole.calls k2 _ _ l0_0 _ _ t385 false _ ?side1 ?side2 ?side3 ?side4 A61.out).mono ?_); (case side1 => repeat (first | exact (Kd.C_below HR0_0.out HB.out) | (with_reducible refine Kd.C_alloc ?_ _) | (with_reducible refine Kd.C_drewN ?_ _) | (with_reducible refine Kd.C_drew ?_))); (case side2 => exact HC0_0.out); (case side3 => repeat (first | exact (Kd.R_reads' HO_3.out).2.2 | (with_reducible refine Kd.C_alloc ?_ _) | (with_reducible refine Kd.C_drewN ?_ _) | (with_reducible refine Kd.C_drew ?_))); (case side4 => exact (Kd.R_reads' HO_3.out).2.1); rintro e w73 ⟨rfl, hb⟩; have n0_ := Aside0.mk (Kd.R_below (by (with_reducible repeat (first | apply Kd.R_alloc | apply Kd.R_drewN | apply Kd.R_drew)); exact HO_3.out) hb); have n1_ := Aside0.mk (Kd.R_below (by (with_reducible repeat (first | apply Kd.R_alloc | apply Kd.R_drewN | apply Kd.R_drew)); exact HO_4.out) hb); have n2_ := Aside0.mk (Kd.R_below (by (with_reducible repeat (first | apply Kd.R_alloc | apply Kd.R_drewN | apply Kd.R_drew)); exact HO_64.out) hb); have n3_ := Aside0.mk (Kd.R_below (by (with_reducible repeat (first | apply Kd.R_alloc | apply Kd.R_drewN | apply Kd.R_drew)); exact HO407.out) hb); have n4_ := Aside0.mk (blk_below (g := gb382) (o := .cells #[.slice A0_0 l0_0.length c0_0, .slice A0_1 l0_1.length c0_1, .int .u32 a0_2] 41 (0, 0)) (by (with_reducible repeat (first | refine blk_drewN ?_ _ | refine blk_drew ?_ | refine blk_alloc ?_ _)); exact BK382.out) hb); have n5_ := Aside0.mk (below_step (by repeat (first | (with_reducible first | exact HB.out | apply below_alloc | apply pw_below_drewN | apply below_drew1 | refine below_set ?_ GE382.out) | exact HB.out)) hb); clear HO_3; clear HO_4; clear HO_64; clear HO407; clear BK382; clear HB; have HO_3 := n0_; have HO_4 := n1_; have HO_64 := n2_; have HO407 := n3_; have BK382 := n4_; have HB := n5_; clear n0_ n1_ n2_ n3_ n4_ n5_; (try clear hb); (try clear hb2); (try clear hk); (try clear hi)))
                          go_ret
                          exact ⟨by first | rfl | (simp [errW_none, errW_some] <;> rfl) | (simp [*, errW_none, errW_some] <;> rfl), by repeat (first | (with_reducible first | exact HB.out | apply below_alloc | apply pw_below_drewN | apply below_drew1 | refine below_set ?_ GE382.out) | exact HB.out)⟩
                      · rw [if_neg c60] at H
                        have c60b0 : ((t404.length : Int) == 0) = false := beq_eq_false_iff_ne.mpr c60
                        have c60b1 : ((t404.length : Int) != 0) = true := bne_iff_ne.mpr c60
                        have c60b2 : ¬ (t404 = []) := fun h_ => c60 (by rw [h_]; rfl)
                        obtain rfl := Option.some.inj H
                        have hcz74_0 : wr.cell? ⟨gb382, 0, none⟩ = some (.slice A0_0 l0_0.length c0_0) := (blk_cell BK382.out 0).trans rfl
                        have hcz74_1 : wr.cell? ⟨gb382, 1, none⟩ = some (.slice A0_1 l0_1.length c0_1) := (blk_cell BK382.out 1).trans rfl
                        have hcz74_2 : wr.cell? ⟨gb382, 2, none⟩ = some (.int .u32 a0_2) := (blk_cell BK382.out 2).trans rfl
                        have hfz74_0 := blk_frozen BK382.out 0
                        have hfz74_1 := blk_frozen BK382.out 1
                        have hfz74_2 := blk_frozen BK382.out 2
                        go_wp2_with (first | ((with_reducible refine gate_callee (f := 25) rfl ?_); refine goesL_ (some 86) rfl rfl Tryd.func25 (by kernel_rfl) rfl #[.slice A0_0 l0_0.length c0_0, .slice A0_1 l0_1.length c0_1, .int .u32 a0_2, .slice Ao18 t385.length co18] rfl (by (try simp only [List.map_toArray, List.map_cons, List.map_nil]); first | done | rfl | (simp only [List.length_drop, List.length_take]; rfl)) ?_; (with_reducible refine (pick_Idle.calls k2 _ _ l0_0 _ _ l0_1 a0_2 _ _ t385 t404 t405 _ ?side1 ?side2 ?side3 ?side4 ?side5 ?side6 ?tb A58.out).mono ?_); (case tb => exact HT.out.step (by repeat (first | (with_reducible first | exact HB.out | apply below_alloc | apply pw_below_drewN | apply below_drew1 | refine below_set ?_ GE382.out) | exact HB.out))); (case side1 => repeat (first | exact (Kd.C_below HR0_0.out HB.out) | (with_reducible refine Kd.C_alloc ?_ _) | (with_reducible refine Kd.C_drewN ?_ _) | (with_reducible refine Kd.C_drew ?_))); (case side2 => exact HC0_0.out); (case side3 => repeat (first | exact (Kd.C_below HR0_1.out HB.out) | (with_reducible refine Kd.C_alloc ?_ _) | (with_reducible refine Kd.C_drewN ?_ _) | (with_reducible refine Kd.C_drew ?_))); (case side4 => exact HC0_1.out); (case side5 => repeat (first | exact (Kd.R_reads' HO_3.out).2.2 | (with_reducible refine Kd.C_alloc ?_ _) | (with_reducible refine Kd.C_drewN ?_ _) | (with_reducible refine Kd.C_drew ?_))); (case side6 => exact (Kd.R_reads' HO_3.out).2.1); rintro e w75 ⟨v406, rfl, ho0, hb⟩; refine ⟨_, rfl, ?_⟩; have n0_ := Aside0.mk (Kd.R_below (by (with_reducible repeat (first | apply Kd.R_alloc | apply Kd.R_drewN | apply Kd.R_drew)); exact HO_3.out) hb); have n1_ := Aside0.mk (Kd.R_elder' (by (with_reducible repeat (first | apply Kd.R_alloc | apply Kd.R_drewN | apply Kd.R_drew)); exact HO_4.out) (Kd.R_base ho0) hb); have n2_ := Aside0.mk (Kd.R_elder' (by (with_reducible repeat (first | apply Kd.R_alloc | apply Kd.R_drewN | apply Kd.R_drew)); exact HO_64.out) (Kd.R_base ho0) hb); have n3_ := Aside0.mk (Kd.R_lower (Kd.R_new' (Kd.R_new' ho0 (Kd.R_lt (by (with_reducible repeat (first | apply Kd.R_alloc | apply Kd.R_drewN | apply Kd.R_drew)); exact HO_4.out))) (Kd.R_lt (by (with_reducible repeat (first | apply Kd.R_alloc | apply Kd.R_drewN | apply Kd.R_drew)); exact HO_64.out))) (below_size (by repeat (first | (with_reducible first | exact HB.out | apply below_alloc | apply pw_below_drewN | apply below_drew1 | refine below_set ?_ GE382.out) | exact HB.out)))); have n4_ := Aside0.mk (blk_below (g := gb382) (o := .cells #[.slice A0_0 l0_0.length c0_0, .slice A0_1 l0_1.length c0_1, .int .u32 a0_2] 41 (0, 0)) (by (with_reducible repeat (first | refine blk_drewN ?_ _ | refine blk_drew ?_ | refine blk_alloc ?_ _)); exact BK382.out) hb); have n5_ := Aside0.mk (below_step (by repeat (first | (with_reducible first | exact HB.out | apply below_alloc | apply pw_below_drewN | apply below_drew1 | refine below_set ?_ GE382.out) | exact HB.out)) hb); clear HO_3; clear HO_4; clear HO_64; clear BK382; clear HB; have HO_3 := n0_; have HO_4 := n1_; have HO_64 := n2_; have HO407 := n3_; have BK382 := n4_; have HB := n5_; clear n0_ n1_ n2_ n3_ n4_ n5_; (try clear hb); (try clear hb2); (try clear hk); (try clear hi); (try clear ho0); obtain ⟨Ao76, co76, eo76⟩ := Kd.R_slice HO407.out; subst eo76))
                        go_ret
                        exact ⟨by first | rfl | (simp [errW_none, errW_some] <;> rfl) | (simp [*, errW_none, errW_some] <;> rfl), by repeat (first | (with_reducible first | exact HB.out | apply below_alloc | apply pw_below_drewN | apply below_drew1 | refine below_set ?_ GE382.out) | exact HB.out)⟩
                    · rw [if_neg c59] at H
                      have c59b0 : (t405 == 0) = false := beq_eq_false_iff_ne.mpr c59
                      have c59b1 : (t405 != 0) = true := bne_iff_ne.mpr c59
                      obtain rfl := Option.some.inj H
                      have hcz77_0 : wr.cell? ⟨gb382, 0, none⟩ = some (.slice A0_0 l0_0.length c0_0) := (blk_cell BK382.out 0).trans rfl
                      have hcz77_1 : wr.cell? ⟨gb382, 1, none⟩ = some (.slice A0_1 l0_1.length c0_1) := (blk_cell BK382.out 1).trans rfl
                      have hcz77_2 : wr.cell? ⟨gb382, 2, none⟩ = some (.int .u32 a0_2) := (blk_cell BK382.out 2).trans rfl
                      have hfz77_0 := blk_frozen BK382.out 0
                      have hfz77_1 := blk_frozen BK382.out 1
                      have hfz77_2 := blk_frozen BK382.out 2
                      go_wp2_with (first | ((with_reducible refine gate_callee (f := 25) rfl ?_); refine goesL_ (some 86) rfl rfl Tryd.func25 (by kernel_rfl) rfl #[.slice A0_0 l0_0.length c0_0, .slice A0_1 l0_1.length c0_1, .int .u32 a0_2, .slice Ao18 t385.length co18] rfl (by (try simp only [List.map_toArray, List.map_cons, List.map_nil]); first | done | rfl | (simp only [List.length_drop, List.length_take]; rfl)) ?_; (with_reducible refine (pick_Idle.calls k2 _ _ l0_0 _ _ l0_1 a0_2 _ _ t385 t404 t405 _ ?side1 ?side2 ?side3 ?side4 ?side5 ?side6 ?tb A58.out).mono ?_); (case tb => exact HT.out.step (by repeat (first | (with_reducible first | exact HB.out | apply below_alloc | apply pw_below_drewN | apply below_drew1 | refine below_set ?_ GE382.out) | exact HB.out))); (case side1 => repeat (first | exact (Kd.C_below HR0_0.out HB.out) | (with_reducible refine Kd.C_alloc ?_ _) | (with_reducible refine Kd.C_drewN ?_ _) | (with_reducible refine Kd.C_drew ?_))); (case side2 => exact HC0_0.out); (case side3 => repeat (first | exact (Kd.C_below HR0_1.out HB.out) | (with_reducible refine Kd.C_alloc ?_ _) | (with_reducible refine Kd.C_drewN ?_ _) | (with_reducible refine Kd.C_drew ?_))); (case side4 => exact HC0_1.out); (case side5 => repeat (first | exact (Kd.R_reads' HO_3.out).2.2 | (with_reducible refine Kd.C_alloc ?_ _) | (with_reducible refine Kd.C_drewN ?_ _) | (with_reducible refine Kd.C_drew ?_))); (case side6 => exact (Kd.R_reads' HO_3.out).2.1); rintro e w78 ⟨v406, rfl, ho0, hb⟩; refine ⟨_, rfl, ?_⟩; have n0_ := Aside0.mk (Kd.R_below (by (with_reducible repeat (first | apply Kd.R_alloc | apply Kd.R_drewN | apply Kd.R_drew)); exact HO_3.out) hb); have n1_ := Aside0.mk (Kd.R_elder' (by (with_reducible repeat (first | apply Kd.R_alloc | apply Kd.R_drewN | apply Kd.R_drew)); exact HO_4.out) (Kd.R_base ho0) hb); have n2_ := Aside0.mk (Kd.R_elder' (by (with_reducible repeat (first | apply Kd.R_alloc | apply Kd.R_drewN | apply Kd.R_drew)); exact HO_64.out) (Kd.R_base ho0) hb); have n3_ := Aside0.mk (Kd.R_lower (Kd.R_new' (Kd.R_new' ho0 (Kd.R_lt (by (with_reducible repeat (first | apply Kd.R_alloc | apply Kd.R_drewN | apply Kd.R_drew)); exact HO_4.out))) (Kd.R_lt (by (with_reducible repeat (first | apply Kd.R_alloc | apply Kd.R_drewN | apply Kd.R_drew)); exact HO_64.out))) (below_size (by repeat (first | (with_reducible first | exact HB.out | apply below_alloc | apply pw_below_drewN | apply below_drew1 | refine below_set ?_ GE382.out) | exact HB.out)))); have n4_ := Aside0.mk (blk_below (g := gb382) (o := .cells #[.slice A0_0 l0_0.length c0_0, .slice A0_1 l0_1.length c0_1, .int .u32 a0_2] 41 (0, 0)) (by (with_reducible repeat (first | refine blk_drewN ?_ _ | refine blk_drew ?_ | refine blk_alloc ?_ _)); exact BK382.out) hb); have n5_ := Aside0.mk (below_step (by repeat (first | (with_reducible first | exact HB.out | apply below_alloc | apply pw_below_drewN | apply below_drew1 | refine below_set ?_ GE382.out) | exact HB.out)) hb); clear HO_3; clear HO_4; clear HO_64; clear BK382; clear HB; have HO_3 := n0_; have HO_4 := n1_; have HO_64 := n2_; have HO407 := n3_; have BK382 := n4_; have HB := n5_; clear n0_ n1_ n2_ n3_ n4_ n5_; (try clear hb); (try clear hb2); (try clear hk); (try clear hi); (try clear ho0)))
                      go_ret
                      exact ⟨by first | rfl | (simp [errW_none, errW_some] <;> rfl) | (simp [*, errW_none, errW_some] <;> rfl), by repeat (first | (with_reducible first | exact HB.out | apply below_alloc | apply pw_below_drewN | apply below_drew1 | refine below_set ?_ GE382.out) | exact HB.out)⟩
      · rw [if_neg c11] at H
        have c11b0 : (t387 == 0) = false := beq_eq_false_iff_ne.mpr c11
        have c11b1 : (t387 != 0) = true := bne_iff_ne.mpr c11
        obtain rfl := Option.some.inj H
        go_enter Tryd.func5, Tryd.ntmps5
        go_wp2_with (first | ((with_reducible refine gate_dst (N := 1) rfl ?_); (try (refine gate_guard (by rfl) ?_; dsimp only)); refine box_event ?hg (N := 1) ?hd (cs := #[.slice A0_0 l0_0.length c0_0, .slice A0_1 l0_1.length c0_1, .int .u32 a0_2]) (t := 41) ?hr ?_; (case hd => rfl); (case hg => rfl); (case hr => first | (go_simp; done) | (go_simp; rfl)); intro gb382 hg w79 hbox hb; have n0_ := Aside0.mk (below_step (by repeat (first | (with_reducible first | exact HB.out | apply below_alloc | apply pw_below_drewN | apply below_drew1) | exact HB.out)) hb); have n1_ := Aside0.mk (hbox); have n2_ := Aside0.mk ((by rw [hg]; exact (below_size (by repeat (first | (with_reducible first | exact HB.out | apply below_alloc | apply pw_below_drewN | apply below_drew1) | exact HB.out))) : w.heap.size ≤ gb382)); have n3_ := Aside0.mk ((by rw [hg]; exact (below_size (by repeat (first | (with_reducible first | exact HB.out | apply below_alloc | apply pw_below_drewN | apply below_drew1) | exact HB.out))) : w.heap.size ≤ gb382)); clear HB; have HB := n0_; have BK382 := n1_; have GW382 := n2_; have GE382 := n3_; clear n0_ n1_ n2_ n3_; clear hb hbox hg) | ((with_reducible refine gate_callee (f := 18) rfl ?_); refine goesL_ (some 14) rfl rfl Tryd.func18 (by kernel_rfl) rfl #[] rfl (by (try simp only [List.map_toArray, List.map_cons, List.map_nil]); first | done | rfl | (simp only [List.length_drop, List.length_take]; rfl)) ?_; (with_reducible refine (mainsheetlaw19_wakes.calls  true _ ?tb A2.out).mono ?_); (case tb => exact HT.out.step (by repeat (first | (with_reducible first | exact HB.out | apply below_alloc | apply pw_below_drewN | apply below_drew1 | refine below_set ?_ GE382.out) | exact HB.out))); rintro e w80 ⟨rfl, hb⟩; refine ⟨_, rfl, ?_⟩; have n0_ := Aside0.mk (blk_below (g := gb382) (o := .cells #[.slice A0_0 l0_0.length c0_0, .slice A0_1 l0_1.length c0_1, .int .u32 a0_2] 41 (0, 0)) (by (with_reducible repeat (first | refine blk_drewN ?_ _ | refine blk_drew ?_ | refine blk_alloc ?_ _)); exact BK382.out) hb); have n1_ := Aside0.mk (below_step (by repeat (first | (with_reducible first | exact HB.out | apply below_alloc | apply pw_below_drewN | apply below_drew1 | refine below_set ?_ GE382.out) | exact HB.out)) hb); clear BK382; clear HB; have BK382 := n0_; have HB := n1_; clear n0_ n1_; (try clear hb); (try clear hb2); (try clear hk); (try clear hi); have hcz81_0 : w80.cell? ⟨gb382, 0, none⟩ = some (.slice A0_0 l0_0.length c0_0) := (blk_cell BK382.out 0).trans rfl; have hcz81_1 : w80.cell? ⟨gb382, 1, none⟩ = some (.slice A0_1 l0_1.length c0_1) := (blk_cell BK382.out 1).trans rfl; have hcz81_2 : w80.cell? ⟨gb382, 2, none⟩ = some (.int .u32 a0_2) := (blk_cell BK382.out 2).trans rfl; have hfz81_0 := blk_frozen BK382.out 0; have hfz81_1 := blk_frozen BK382.out 1; have hfz81_2 := blk_frozen BK382.out 2) | ((with_reducible refine gate_callee (f := 19) rfl ?_); refine goesL_ (some 17) rfl rfl Tryd.func19 (by kernel_rfl) rfl #[.agg #[.slice A0_0 l0_0.length c0_0, .slice A0_1 l0_1.length c0_1, .int .u32 a0_2]] rfl (by (try simp only [List.map_toArray, List.map_cons, List.map_nil]); first | done | rfl | (simp only [List.length_drop, List.length_take]; rfl)) ?_; (with_reducible refine (mainsheetlaw19_Ask_over.calls k _ _ l0_0 _ _ l0_1 a0_2 false _ ?side1 ?side2 ?side3 ?side4 A4.out).mono ?_); (case side1 => repeat (first | exact (Kd.C_below HR0_0.out HB.out) | (with_reducible refine Kd.C_alloc ?_ _) | (with_reducible refine Kd.C_drewN ?_ _) | (with_reducible refine Kd.C_drew ?_))); (case side2 => exact HC0_0.out); (case side3 => repeat (first | exact (Kd.C_below HR0_1.out HB.out) | (with_reducible refine Kd.C_alloc ?_ _) | (with_reducible refine Kd.C_drewN ?_ _) | (with_reducible refine Kd.C_drew ?_))); (case side4 => exact HC0_1.out); rintro e w82 ⟨rfl, hb⟩; refine ⟨_, rfl, ?_⟩; have n0_ := Aside0.mk (blk_below (g := gb382) (o := .cells #[.slice A0_0 l0_0.length c0_0, .slice A0_1 l0_1.length c0_1, .int .u32 a0_2] 41 (0, 0)) (by (with_reducible repeat (first | refine blk_drewN ?_ _ | refine blk_drew ?_ | refine blk_alloc ?_ _)); exact BK382.out) hb); have n1_ := Aside0.mk (below_step (by repeat (first | (with_reducible first | exact HB.out | apply below_alloc | apply pw_below_drewN | apply below_drew1 | refine below_set ?_ GE382.out) | exact HB.out)) hb); clear BK382; clear HB; have BK382 := n0_; have HB := n1_; clear n0_ n1_; (try clear hb); (try clear hb2); (try clear hk); (try clear hi); have hcz83_0 : w82.cell? ⟨gb382, 0, none⟩ = some (.slice A0_0 l0_0.length c0_0) := (blk_cell BK382.out 0).trans rfl; have hcz83_1 : w82.cell? ⟨gb382, 1, none⟩ = some (.slice A0_1 l0_1.length c0_1) := (blk_cell BK382.out 1).trans rfl; have hcz83_2 : w82.cell? ⟨gb382, 2, none⟩ = some (.int .u32 a0_2) := (blk_cell BK382.out 2).trans rfl; have hfz83_0 := blk_frozen BK382.out 0; have hfz83_1 := blk_frozen BK382.out 1; have hfz83_2 := blk_frozen BK382.out 2) | ((with_reducible refine gate_callee (f := 20) rfl ?_); refine goesL_ (some 25) rfl rfl Tryd.func20 (by kernel_rfl) rfl #[.slice A0_0 l0_0.length c0_0, .slice A0_1 l0_1.length c0_1, .int .u32 a0_2] rfl (by (try simp only [List.map_toArray, List.map_cons, List.map_nil]); first | done | rfl | (simp only [List.length_drop, List.length_take]; rfl)) ?_; (with_reducible refine (pick_Pick.calls _ _ l0_0 _ _ l0_1 a0_2 t385 t386 t387 _ ?side1 ?side2 ?side3 ?side4 ?tb A10.out).mono ?_); (case tb => exact HT.out.step (by repeat (first | (with_reducible first | exact HB.out | apply below_alloc | apply pw_below_drewN | apply below_drew1 | refine below_set ?_ GE382.out) | exact HB.out))); (case side1 => repeat (first | exact (Kd.C_below HR0_0.out HB.out) | (with_reducible refine Kd.C_alloc ?_ _) | (with_reducible refine Kd.C_drewN ?_ _) | (with_reducible refine Kd.C_drew ?_))); (case side2 => exact HC0_0.out); (case side3 => repeat (first | exact (Kd.C_below HR0_1.out HB.out) | (with_reducible refine Kd.C_alloc ?_ _) | (with_reducible refine Kd.C_drewN ?_ _) | (with_reducible refine Kd.C_drew ?_))); (case side4 => exact HC0_1.out); rintro e w84 ⟨v388, v390, rfl, ho0, ho1, hb⟩; refine ⟨_, rfl, ?_⟩; have n0_ := Aside0.mk (Kd.R_lower ho0 (below_size (by repeat (first | (with_reducible first | exact HB.out | apply below_alloc | apply pw_below_drewN | apply below_drew1 | refine below_set ?_ GE382.out) | exact HB.out)))); have n1_ := Aside0.mk (Kd.R_lower ho1 (below_size (by repeat (first | (with_reducible first | exact HB.out | apply below_alloc | apply pw_below_drewN | apply below_drew1 | refine below_set ?_ GE382.out) | exact HB.out)))); have n2_ := Aside0.mk (blk_below (g := gb382) (o := .cells #[.slice A0_0 l0_0.length c0_0, .slice A0_1 l0_1.length c0_1, .int .u32 a0_2] 41 (0, 0)) (by (with_reducible repeat (first | refine blk_drewN ?_ _ | refine blk_drew ?_ | refine blk_alloc ?_ _)); exact BK382.out) hb); have n3_ := Aside0.mk (below_step (by repeat (first | (with_reducible first | exact HB.out | apply below_alloc | apply pw_below_drewN | apply below_drew1 | refine below_set ?_ GE382.out) | exact HB.out)) hb); clear BK382; clear HB; have HO389 := n0_; have HO391 := n1_; have BK382 := n2_; have HB := n3_; clear n0_ n1_ n2_ n3_; (try clear hb); (try clear hb2); (try clear hk); (try clear hi); (try clear ho0); (try clear ho1); obtain ⟨Ao85, co85, eo85⟩ := Kd.R_slice HO389.out; subst eo85))
        go_ret
        exact ⟨by first | rfl | (simp [errW_none, errW_some] <;> rfl) | (simp [*, errW_none, errW_some] <;> rfl), by repeat (first | (with_reducible first | exact HB.out | apply below_alloc | apply pw_below_drewN | apply below_drew1 | refine below_set ?_ GE382.out) | exact HB.out)⟩
  · replace c3 := Bool.eq_false_iff.mpr c3
    subst c3
    have H1 : (some false) = some r := by rw [if_neg (show ¬ (false = true) by decide)] at H; exact H
    clear H
    have H := H1
    clear H1
    obtain rfl := Option.some.inj H
    go_enter Tryd.func5, Tryd.ntmps5
    go_wp2_with (first | ((with_reducible refine gate_dst (N := 1) rfl ?_); (try (refine gate_guard (by rfl) ?_; dsimp only)); refine box_event ?hg (N := 1) ?hd (cs := #[.slice A0_0 l0_0.length c0_0, .slice A0_1 l0_1.length c0_1, .int .u32 a0_2]) (t := 41) ?hr ?_; (case hd => rfl); (case hg => rfl); (case hr => first | (go_simp; done) | (go_simp; rfl)); intro gb382 hg w86 hbox hb; have n0_ := Aside0.mk (below_step (by repeat (first | (with_reducible first | exact HB.out | apply below_alloc | apply pw_below_drewN | apply below_drew1) | exact HB.out)) hb); have n1_ := Aside0.mk (hbox); have n2_ := Aside0.mk ((by rw [hg]; exact (below_size (by repeat (first | (with_reducible first | exact HB.out | apply below_alloc | apply pw_below_drewN | apply below_drew1) | exact HB.out))) : w.heap.size ≤ gb382)); have n3_ := Aside0.mk ((by rw [hg]; exact (below_size (by repeat (first | (with_reducible first | exact HB.out | apply below_alloc | apply pw_below_drewN | apply below_drew1) | exact HB.out))) : w.heap.size ≤ gb382)); clear HB; have HB := n0_; have BK382 := n1_; have GW382 := n2_; have GE382 := n3_; clear n0_ n1_ n2_ n3_; clear hb hbox hg) | ((with_reducible refine gate_callee (f := 18) rfl ?_); refine goesL_ (some 14) rfl rfl Tryd.func18 (by kernel_rfl) rfl #[] rfl (by (try simp only [List.map_toArray, List.map_cons, List.map_nil]); first | done | rfl | (simp only [List.length_drop, List.length_take]; rfl)) ?_; (with_reducible refine (mainsheetlaw19_wakes.calls  false _ ?tb A2.out).mono ?_); (case tb => exact HT.out.step (by repeat (first | (with_reducible first | exact HB.out | apply below_alloc | apply pw_below_drewN | apply below_drew1 | refine below_set ?_ GE382.out) | exact HB.out))); rintro e w87 ⟨rfl, hb⟩; refine ⟨_, rfl, ?_⟩; have n0_ := Aside0.mk (blk_below (g := gb382) (o := .cells #[.slice A0_0 l0_0.length c0_0, .slice A0_1 l0_1.length c0_1, .int .u32 a0_2] 41 (0, 0)) (by (with_reducible repeat (first | refine blk_drewN ?_ _ | refine blk_drew ?_ | refine blk_alloc ?_ _)); exact BK382.out) hb); have n1_ := Aside0.mk (below_step (by repeat (first | (with_reducible first | exact HB.out | apply below_alloc | apply pw_below_drewN | apply below_drew1 | refine below_set ?_ GE382.out) | exact HB.out)) hb); clear BK382; clear HB; have BK382 := n0_; have HB := n1_; clear n0_ n1_; (try clear hb); (try clear hb2); (try clear hk); (try clear hi)))
    go_ret
    exact ⟨by first | rfl | (simp [errW_none, errW_some] <;> rfl) | (simp [*, errW_none, errW_some] <;> rfl), by repeat (first | (with_reducible first | exact HB.out | apply below_alloc | apply pw_below_drewN | apply below_drew1 | refine below_set ?_ GE382.out) | exact HB.out)⟩

end Go.Proofs.YtdmieaidheelbaaDoor.Q
end
/- PurePickWhole -/
section
/- PickWhole, the plain law; and what pick.Idle and pick.Whole answer at a picture that pick.Pick made. -/
namespace Go.Proofs.YtdmieaidheelbaaDoor.Q
open Go Go.RowKit Go.Proofs.YtdmieaidheelbaaDoorW.PrintWords Go.Proofs.YtdmieaidheelbaaDoorW.PrintLast Go.Proofs.YtdmieaidheelbaaDoorW.PrintMore
set_option linter.unusedVariables false
set_option linter.unusedSimpArgs false

theorem rd31_eq (l : List S31) (i : Nat) (h : i < l.length) : rd_T31 l (i : Int) = l[i] := by simp [rd_T31, h]
def PutsOk (w : List S36) (free : Nat) : Nat → List S31 → Prop
  | _, [] => True
  | A, p :: ps => (0 ≤ p.f1 ∧ p.f1 < 8) ∧ hasN A p.f1 = false ∧ hasN (mayN w p.f0 free) p.f1 = true ∧ PutsOk w free (A ||| 2 ^ p.f1.toNat) ps
theorem put_zip (w : List S36) (free : Nat) (rest : List S31) : ∀ (vs cs : List Int) (A : Nat), vs.length = cs.length → cs.Nodup → (∀ c ∈ cs, (0 ≤ c ∧ c < 8) ∧ hasN A c = false) → (∀ j (h : j < vs.length), hasN (mayN w vs[j] free) (cs.getD j 0) = true) →
    PutsOk w free (orRow A cs) rest → PutsOk w free A (zipP vs cs ++ rest) := by
  intro vs
  induction vs with
  | nil => intro cs A hl _ _ _ h
           obtain rfl : cs = [] := List.eq_nil_of_length_eq_zero (by simpa using hl.symm)
           exact h
  | cons v vs ih =>
    intro cs A hl hn hc hm h
    cases cs with
    | nil => simp at hl
    | cons c cs =>
      obtain ⟨n1, n2⟩ := List.nodup_cons.1 hn
      obtain ⟨c1, c2⟩ := hc c (by simp)
      refine ⟨c1, c2, hm 0 (by simp), ?_⟩
      refine ih cs _ (by simpa using hl) n2 (fun x hx => ?_) (fun j hj => by have := hm (j + 1) (by simpa using hj); rwa [List.getElem_cons_succ, List.getD_cons_succ] at this) h
      obtain ⟨x1, x2⟩ := hc x (by simp [hx])
      refine ⟨x1, ?_⟩
      have hne : c.toNat ≠ x.toNat := fun e => n1 ((show c = x by omega) ▸ hx)
      unfold hasN at x2 ⊢
      rw [Nat.testBit_or, pow_bit, decide_eq_false hne, Bool.or_false]
      exact x2
theorem hasN_bit {s : Nat} {c : Int} (h0 : 0 ≤ c) (h8 : c < 8) : hasN s c = s.testBit c.toNat := by simp [hasN, h0, h8]
section
variable {l0 : List Ent} {w : List S36}
theorem puts_ok (hs : Shape l0 w) (free : Nat) (hf : free < 256) (l : List Ent) (hl : ∀ x ∈ l, x ∈ l0) : ∀ (f A : Nat), f < 256 → A < 256 → (∀ b, b < 8 → f.testBit b = (free.testBit b && !A.testBit b)) → PutsOk w free A (pickPuts (pickTurns w f l)) := by
  induction l with
  | nil => intro f A _ _ _; trivial
  | cons x l ih =>
    intro f A hf2 hA hb
    rw [pickTurns, puts_cons]
    unfold putsP
    cases hq : atOf w f x with
    | none =>
      simp only [List.nil_append, Option.getD_none]
      exact ih (fun y hy => hl y (by simp [hy])) f A hf2 hA hb
    | some m =>
      have ht := took hs x (hl x (by simp)) f m hq
      have hr := took_range ht
      simp only [Option.getD_some]
      refine put_zip w free _ _ _ A ht.len.symm ht.nodup (fun c hc => ⟨hr c hc, ?_⟩) (fun j hj => ?_) ?_
      · obtain ⟨j, hj, rfl⟩ := List.mem_iff_getElem.1 hc
        have := ht.may j (by have := ht.len; omega)
        rw [List.getD_eq_getElem?_getD, List.getElem?_eq_getElem hj] at this
        have hrj := hr _ hc
        simp only [Option.getD_some] at this
        rw [hasN_bit hrj.1 hrj.2] at this ⊢
        unfold mayN at this
        rw [may_bit _ _ _ _ hf2, hb _ (by omega)] at this
        simp only [Bool.and_eq_true, Bool.not_eq_true'] at this
        exact this.2.2
      · have := ht.may j hj
        have hjm : j < m.length := by have := ht.len; omega
        have hrj := hr _ (List.getElem_mem hjm)
        rw [List.getD_eq_getElem?_getD, List.getElem?_eq_getElem hjm] at this ⊢
        simp only [Option.getD_some] at this ⊢
        rw [hasN_bit hrj.1 hrj.2] at this ⊢
        unfold mayN at this ⊢
        rw [may_bit _ _ _ _ hf2, hb _ (by omega)] at this
        rw [may_bit _ _ _ _ hf]
        simp only [Bool.and_eq_true, Bool.not_eq_true'] at this ⊢
        exact ⟨this.1, this.2.1⟩
      · refine ih (fun y hy => hl y (by simp [hy])) _ _ (lessAll_lt _ hf2 _) (orRow_bit m hr A 0 hA (by omega)).2 (fun b hb8 => ?_)
        rw [lessAll_bit _ hr _ _ hb8, hb b hb8, (orRow_bit m hr A b hA hb8).1, Bool.not_or, Bool.and_assoc]
theorem zip_cpus : ∀ (vs cs : List Int), vs.length = cs.length → (zipP vs cs).map (·.f1) = cs := by
  intro vs
  induction vs with
  | nil => intro cs h; obtain rfl : cs = [] := List.eq_nil_of_length_eq_zero (by simpa using h.symm); rfl
  | cons v vs ih =>
    intro cs h
    cases cs with
    | nil => simp at h
    | cons c cs => show c :: (zipP vs cs).map (·.f1) = _; rw [ih cs (by simpa using h)]
theorem free_end (hs : Shape l0 w) (l : List Ent) (hl : ∀ x ∈ l, x ∈ l0) : ∀ f, freeAt w f l l.length = lessAll f ((pickPuts (pickTurns w f l)).map (·.f1)) := by
  induction l with
  | nil => intro f; rfl
  | cons x l ih =>
    intro f
    show freeAt w _ l l.length = _
    rw [ih (fun y hy => hl y (by simp [hy])), pickTurns, puts_cons, List.map_append]
    have : lessAll f ((putsP (x, atOf w f x)).map (·.f1) ++ (pickPuts (pickTurns w (lessAll f ((atOf w f x).getD [])) l)).map (·.f1)) = lessAll (lessAll f ((putsP (x, atOf w f x)).map (·.f1))) ((pickPuts (pickTurns w (lessAll f ((atOf w f x).getD [])) l)).map (·.f1)) := by
      unfold lessAll; rw [List.foldl_append]
    rw [this]
    congr 2
    unfold putsP
    cases hq : atOf w f x with
    | none => rfl
    | some m =>
      have := (took hs x (hl x (by simp)) f m hq).len
      simp only [Option.getD_some]
      rw [zip_cpus _ _ this.symm]
theorem free_down (w : List S36) (l : List Ent) (free i : Nat) (hi : i < l.length) (hm : ∀ m, atOf w (freeAt w free l i) l[i] = some m → ∀ c ∈ m, 0 ≤ c ∧ c < 8) (b : Nat) (hb : b < 8) (h : (freeAt w free l i).testBit b = false) : (freeAt w free l (i + 1)).testBit b = false := by
  rw [freeAt_succ w l free i hi, lessAll_bit _ (by
    cases hq : atOf w (freeAt w free l i) l[i] with
    | none => simp
    | some m => exact hm m hq) _ _ hb, h]
  rfl
theorem waits_off (hs : Shape l0 w) (free : Nat) (v : Int) (hv : v ∈ pickWaits (pickTurns w free l0)) : onP (pickPuts (pickTurns w free l0)) v = (0, false) := by
  obtain ⟨p, hp, hvp⟩ := List.mem_flatMap.1 hv
  unfold waitsP at hvp
  cases hq : p.2 with
  | some m => rw [hq] at hvp; simp at hvp
  | none =>
    rw [hq] at hvp
    obtain ⟨j, hj, rfl⟩ := List.mem_iff_getElem.1 hvp
    have := on_ts _ (turns_ok hs free l0 (fun _ h => h) hs.apart) p hp j hj
    rw [hq] at this
    exact this
theorem turns_count (w : List S36) (l : List Ent) (l0 : List Ent) (hs : Shape l0 w) (hl : ∀ x ∈ l, x ∈ l0) : ∀ free, (pickPuts (pickTurns w free l)).length + (pickWaits (pickTurns w free l)).length = (members l).length := by
  induction l with
  | nil => intro free; rfl
  | cons x l ih =>
    intro free
    have h := ih (fun y hy => hl y (by simp [hy])) (lessAll free ((atOf w free x).getD []))
    have e1 : pickWaits (pickTurns w free (x :: l)) = waitsP (x, atOf w free x) ++ pickWaits (pickTurns w (lessAll free ((atOf w free x).getD [])) l) := by simp [pickTurns, pickWaits]
    have e2 : members (x :: l) = x.f0 ++ members l := by simp [members]
    rw [e1, e2, pickTurns, puts_cons, List.length_append, List.length_append, List.length_append]
    have : (putsP (x, atOf w free x)).length + (waitsP (x, atOf w free x)).length = x.f0.length := by
      unfold putsP waitsP
      cases hq : atOf w free x with
      | none => simp
      | some m =>
        have := (took hs x (hl x (by simp)) free m hq).len
        simp [zipP, this]
    omega
end
theorem andNot_minus (a b : Nat) (ha : a < 256) (hb : b < 256) : Go.bits .andNot .u32 (a : Int) (b : Int) = ((minus a b : Nat) : Int) := by
  rw [andNot_nat a b (by omega) hb]
  congr 1
  refine Nat.eq_of_testBit_eq fun i => ?_
  rw [Nat.testBit_and]
  cases hai : a.testBit i with
  | false =>
    unfold minus; rw [Nat.testBit_and, hai]; rfl
  | true =>
    have hi := bit_lt a i ha hai
    rw [minus_bit _ _ _ hb hi, testBit_max_sub b i (by omega) (by omega), hai]
section
variable {l : List Ent} {w : List S36} {free : Nat}
theorem idle_off (ps : List S31) (hr : ∀ p ∈ ps, 0 ≤ p.f1 ∧ p.f1 < 8) (hl : ps.length ≤ 1000000) (d : Nat) : ∀ (k i M : Nat), i + d = ps.length → d < k → M < 256 → pick_Idle.l1 k (M : Int) ps (ps.length : Int) (i : Int) = some (listOf ((lessAll M ((ps.drop i).map (·.f1)) : Nat) : Int), 0) := by
  induction d with
  | zero =>
    intro k i M hi hk hM
    obtain ⟨k, rfl⟩ : ∃ m, k = m + 1 := ⟨k - 1, by omega⟩
    rw [pick_Idle.l1, if_neg (by omega), List_val M (by omega), Option.bind_some, List.drop_eq_nil_of_le (by omega)]
    rfl
  | succ d ih =>
    intro k i M hi hk hM
    obtain ⟨k, rfl⟩ : ∃ m, k = m + 1 := ⟨k - 1, by omega⟩
    have hlt : i < ps.length := by omega
    obtain ⟨h0, h8⟩ := hr _ (List.getElem_mem hlt)
    have hp := pow_lt256 ps[i].f1.toNat (by omega)
    rw [pick_Idle.l1, if_pos (by omega), if_pos (by omega), if_pos (by omega), rd31_eq ps i hlt, if_pos (by omega), if_pos h8, if_pos h0, shl_bit _ h0 h8, andNot_minus M _ hM hp, w64 _ (by omega) (by omega), show (i : Int) + 1 = ((i + 1 : Nat) : Int) by omega, ih k (i + 1) _ (by omega) (by omega) (minus_lt _ _ hM), List.drop_eq_getElem_cons hlt]
    rfl
theorem idle_ents (hs : Shape l w) (hll : l.length ≤ 40) (hwl : w.length ≤ 60) (hwf : ∀ x ∈ w, Wf36 x) (hf : free < 256) (puts : List S31) (hputs : puts = pickPuts (pickTurns w free l)) (hpl : puts.length ≤ 60) (hpr : ∀ p ∈ puts, 0 ≤ p.f1 ∧ p.f1 < 8) (d : Nat) :
    ∀ (k i M : Nat), i + d = l.length → d * 20 + 300 ≤ k → M < 256 → (∀ b, b < 8 → M.testBit b = true → free.testBit b = true ∧ (freeAt w free l i).testBit b = false) →
    pick_Idle.l0 k w (free : Int) puts (M : Int) l (l.length : Int) (i : Int) = some ([], 0) := by
  induction d with
  | zero =>
    intro k i M hi hk hM hb
    obtain ⟨k, rfl⟩ : ∃ m, k = m + 1 := ⟨k - 1, by omega⟩
    obtain rfl : i = l.length := by omega
    rw [pick_Idle.l0, if_neg (by omega), show (0 : Int) = ((0 : Nat) : Int) from rfl, idle_off puts hpr (by omega) puts.length k 0 M (by omega) (by omega) hM]
    have hz : lessAll M ((puts.drop 0).map (·.f1)) = 0 := by
      refine Nat.eq_of_testBit_eq fun b => ?_
      rw [Nat.zero_testBit]
      have hcr : ∀ c ∈ puts.map (·.f1), 0 ≤ c ∧ c < 8 := fun c hc => by
        obtain ⟨p, hp, rfl⟩ := List.mem_map.1 hc
        exact hpr p hp
      rw [List.drop_zero]
      cases hbit : (lessAll M (puts.map (·.f1))).testBit b with
      | false => rfl
      | true =>
        exfalso
        have hb8 := bit_lt _ b (lessAll_lt _ hM _) hbit
        rw [lessAll_bit _ hcr _ _ hb8] at hbit
        simp only [Bool.and_eq_true] at hbit
        obtain ⟨g1, g2⟩ := hb b hb8 hbit.1
        rw [free_end hs l (fun _ h => h) free, ← hputs, lessAll_bit _ hcr _ _ hb8, g1, hbit.2] at g2
        cases g2
    rw [hz]
    rfl
  | succ d ih =>
    intro k i M hi hk hM hb
    obtain ⟨k, rfl⟩ : ∃ m, k = m + 2 := ⟨k - 2, by omega⟩
    have hil : i < l.length := by omega
    have hm := List.getElem_mem hil
    obtain ⟨h1, h8⟩ := hs.len _ hm
    have hfl := freeAt_lt w l free i hf
    have hon := on_at hs free i hil 0 (by omega)
    rw [← hputs] at hon
    have hr0 : rd l[i].f0 0 = l[i].f0[0]'(by omega) := rd_eq l[i].f0 0 (by omega)
    have hdown := free_down w l free i hil (fun m hq => took_range (took hs _ hm _ m hq))
    have hgo : pick_Idle.j1 (k + 1) w (free : Int) puts (M : Int) l (l.length : Int) (i : Int) false l[i].f0 l[i].f1.f0.f0 l[i].f1.f0.f1 l[i].f1.f1 l[i].f2 l[i].f3 = some ([], 0) := by
      rw [pick_Idle.j1, if_neg (by simp), w64 _ (by omega) (by omega), show (i : Int) + 1 = ((i + 1 : Nat) : Int) by omega]
      exact ih k (i + 1) M (by omega) (by omega) hM (fun b hb8 hbit => ⟨(hb b hb8 hbit).1, hdown b hb8 (hb b hb8 hbit).2⟩)
    rw [pick_Idle.l0, if_pos (by omega), if_pos (by omega), if_pos (by omega), rd90_eq l i hil, if_pos (by omega), hr0, On_val puts (by omega), Option.bind_some, hon]
    by_cases hone : ((l[i].f0.length : Nat) : Int) = 1
    · rw [if_pos hone]
      cases hq : atOf w (freeAt w free l i) l[i] with
      | some m => exact hgo
      | none =>
        obtain ⟨v, hv⟩ := List.length_eq_one_iff.1 (show l[i].f0.length = 1 by omega)
        have hz := waits_one hs _ hm _ hq v hv
        have hvm : v ∈ members l := List.mem_flatMap.2 ⟨l[i], hm, by rw [hv]; simp⟩
        have hwo := (wishOf_mem hs v hvm).1
        obtain ⟨w1, w2, w3, w4⟩ := hwf _ hwo
        have hA' := Allows_val (wishOf w v).f2.f0.toNat (wishOf w v).f2.f1.toNat free (by omega) (by omega) (by omega) k (by omega)
        rw [show (((wishOf w v).f2.f0.toNat : Nat) : Int) = (wishOf w v).f2.f0 by omega, show (((wishOf w v).f2.f1.toNat : Nat) : Int) = (wishOf w v).f2.f1 by omega] at hA'
        have hwl1 := hs.wishes_len _ hm
        have hrd : rd_T36 (wishesN w l[i].f0) 0 = wishOf w v := by
          have e := rd36_eq (wishesN w l[i].f0) 0 (by omega)
          obtain ⟨g1, g2⟩ := wishes_get hs _ hm 0 (by omega)
          have e2 : l[i].f0[0]'(by omega) = v := by simp [hv]
          rw [e2] at g2
          exact e.trans g2
        rw [pick_Idle.j1, if_pos (by rfl), wishes_val w _ (by omega) (by omega) k (by omega), Option.bind_some, if_pos (by omega), hrd, hA', Option.bind_some, or_nat _ _ (by omega) (by have := allowsN_lt (wishOf w v).f2.f0.toNat (wishOf w v).f2.f1.toNat free; omega), w64 _ (by omega) (by omega), show (i : Int) + 1 = ((i + 1 : Nat) : Int) by omega]
        refine ih k (i + 1) _ (by omega) (by omega) (or_lt256 _ _ hM (allowsN_lt _ _ _)) (fun b hb8 hbit => ?_)
        rw [Nat.testBit_or, Bool.or_eq_true] at hbit
        rcases hbit with hbit | hbit
        · exact ⟨(hb b hb8 hbit).1, hdown b hb8 (hb b hb8 hbit).2⟩
        · rw [may_bit _ _ _ _ hf] at hbit
          simp only [Bool.and_eq_true] at hbit
          refine ⟨hbit.2, hdown b hb8 ?_⟩
          unfold mayN at hz
          have h3 := may_bit (wishOf w v).f2.f0.toNat (wishOf w v).f2.f1.toNat (freeAt w free l i) b hfl
          rw [hz, hbit.1.1, hbit.1.2] at h3
          simpa using h3.symm
    · rw [if_neg hone]
      exact hgo
theorem whole_inner (puts : List S31) (hpl : puts.length ≤ 1000000) (i : Nat) (hi : i < l.length) (hlen : l[i].f0.length ≤ 8) (p : Option (List Int)) (hon : ∀ j (h : j < l[i].f0.length), (onP puts l[i].f0[j]).2 = p.isSome) (K : Nat) (hli : l.length ≤ 1000000)
    (hnext : ∀ k, K ≤ k → pick_Whole.l0 k puts l (l.length : Int) ((i + 1 : Nat) : Int) = some true) (d : Nat) : ∀ (k j n : Nat), j + d = l[i].f0.length → K + d + 1 ≤ k → n = (if p.isSome then j else 0) →
    pick_Whole.l1 k puts (n : Int) l (l.length : Int) (i : Int) l[i].f0 (l[i].f0.length : Int) (j : Int) l[i].f0 l[i].f1.f0.f0 l[i].f1.f0.f1 l[i].f1.f1 l[i].f2 l[i].f3 = some true := by
  induction d with
  | zero =>
    intro k j n hj hk hn
    obtain ⟨k, rfl⟩ : ∃ m, k = m + 1 := ⟨k - 1, by omega⟩
    rw [pick_Whole.l1, if_neg (by omega), w64 _ (by omega) (by omega), show (i : Int) + 1 = ((i + 1 : Nat) : Int) by omega]
    cases hq : p.isSome with
    | true =>
      rw [hq, if_pos rfl] at hn
      by_cases h0 : (n : Int) > 0
      · rw [if_pos h0, if_neg (by omega)]; exact hnext k (by omega)
      · rw [if_neg h0]; exact hnext k (by omega)
    | false =>
      rw [hq, if_neg (by simp)] at hn
      rw [if_neg (by omega)]; exact hnext k (by omega)
  | succ d ih =>
    intro k j n hj hk hn
    obtain ⟨k, rfl⟩ : ∃ m, k = m + 1 := ⟨k - 1, by omega⟩
    have hjl : j < l[i].f0.length := by omega
    have h2 := hon j hjl
    rw [pick_Whole.l1, if_pos (by omega), if_pos (by omega), if_pos (by omega), rd_eq _ _ hjl, On_val puts hpl, Option.bind_some, h2, w64 ((j : Int) + 1) (by omega) (by omega), show (j : Int) + 1 = ((j + 1 : Nat) : Int) by omega]
    cases hq : p.isSome with
    | true =>
      rw [hq, if_pos rfl] at hn
      simp only [if_true]
      rw [w64 ((n : Int) + 1) (by omega) (by omega), show (n : Int) + 1 = ((n + 1 : Nat) : Int) by omega]
      exact ih k (j + 1) (n + 1) (by omega) (by omega) (by rw [hq, if_pos rfl]; omega)
    | false =>
      rw [hq, if_neg (by simp)] at hn
      simp only [Bool.false_eq_true, if_false]
      exact ih k (j + 1) n (by omega) (by omega) (by rw [hq, if_neg (by simp)]; omega)
theorem whole_outer (hs : Shape l w) (hll : l.length ≤ 1000000) (puts : List S31) (hputs : puts = pickPuts (pickTurns w free l)) (hpl : puts.length ≤ 1000000) (d : Nat) : ∀ (k i : Nat), i + d = l.length → d * 20 + 1 ≤ k → pick_Whole.l0 k puts l (l.length : Int) (i : Int) = some true := by
  induction d with
  | zero =>
    intro k i hi hk
    obtain ⟨k, rfl⟩ : ∃ m, k = m + 1 := ⟨k - 1, by omega⟩
    rw [pick_Whole.l0, if_neg (by omega)]
  | succ d ih =>
    intro k i hi hk
    obtain ⟨k, rfl⟩ : ∃ m, k = m + 1 := ⟨k - 1, by omega⟩
    have hil : i < l.length := by omega
    have hlen := (hs.len _ (List.getElem_mem hil)).2
    rw [pick_Whole.l0, if_pos (by omega), if_pos (by omega), if_pos (by omega), rd90_eq l i hil]
    refine whole_inner puts hpl i hil hlen (atOf w (freeAt w free l i) l[i]) (fun j hj => ?_) (d * 20 + 1) hll (fun k' hk' => ih k' (i + 1) (by omega) hk') l[i].f0.length k 0 0 (by omega) (by omega) (by simp)
    have := on_at hs free i hil j hj
    rw [← hputs] at this
    rw [this]
    cases atOf w (freeAt w free l i) l[i] <;> rfl
theorem pw_waits (hs : Shape l w) (waits : List Int) (hwts : waits = pickWaits (pickTurns w free l)) (puts : List S31) (hputs : puts = pickPuts (pickTurns w free l)) (hpl : puts.length ≤ 1000000) (hwl : waits.length ≤ 1000000) (a : Int) (K : Nat)
    (hnext : ∀ k, K ≤ k → mainsheetlaw19_PickWhole.l1 k puts waits waits (waits.length : Int) (waits.length : Int) l w a = some true) (d : Nat) : ∀ (k i : Nat), i + d = waits.length → K + d ≤ k → mainsheetlaw19_PickWhole.l1 k puts waits waits (waits.length : Int) (i : Int) l w a = some true := by
  induction d with
  | zero => intro k i hi hk; obtain rfl : i = waits.length := by omega
            exact hnext k (by omega)
  | succ d ih =>
    intro k i hi hk
    obtain ⟨k, rfl⟩ : ∃ m, k = m + 1 := ⟨k - 1, by omega⟩
    have hil : i < waits.length := by omega
    have hoff := waits_off hs free waits[i] (by rw [← hwts]; exact List.getElem_mem hil)
    rw [← hputs] at hoff
    rw [mainsheetlaw19_PickWhole.l1, if_pos (by omega), if_pos (by omega), if_pos (by omega), rd_eq _ _ hil, On_val puts hpl, Option.bind_some, hoff, if_neg (by simp), w64 _ (by omega) (by omega), show (i : Int) + 1 = ((i + 1 : Nat) : Int) by omega]
    exact ih k (i + 1) (by omega) (by omega)
theorem pw_puts (hwl : w.length ≤ 60) (hwf : ∀ x ∈ w, Wf36 x) (hf : free < 256) (puts : List S31) (waits : List Int) (hpl : puts.length ≤ 1000000) (K : Nat) (hin : ∀ p ∈ puts, wishOf w p.f0 ∈ w)
    (hnext : ∀ k, K ≤ k → mainsheetlaw19_PickWhole.l1 k puts waits waits (waits.length : Int) 0 l w (free : Int) = some true) (d : Nat) : ∀ (k i A : Nat), i + d = puts.length → K + d + 100 ≤ k → A < 256 → PutsOk w free A (puts.drop i) →
    mainsheetlaw19_PickWhole.l0 k puts waits (A : Int) puts (puts.length : Int) (i : Int) l w (free : Int) = some true := by
  induction d with
  | zero =>
    intro k i A hi hk hA hok
    obtain ⟨k, rfl⟩ : ∃ m, k = m + 1 := ⟨k - 1, by omega⟩
    rw [mainsheetlaw19_PickWhole.l0, if_neg (by omega)]
    exact hnext k (by omega)
  | succ d ih =>
    intro k i A hi hk hA hok
    obtain ⟨k, rfl⟩ : ∃ m, k = m + 1 := ⟨k - 1, by omega⟩
    have hil : i < puts.length := by omega
    rw [List.drop_eq_getElem_cons hil] at hok
    obtain ⟨⟨h0, h8⟩, hno, hyes, hrest⟩ := hok
    have hwo := hin _ (List.getElem_mem hil)
    obtain ⟨w1, w2, w3, w4⟩ := hwf _ hwo
    have hp := pow_lt256 puts[i].f1.toNat (by omega)
    have hA' := Allows_val (wishOf w puts[i].f0).f2.f0.toNat (wishOf w puts[i].f0).f2.f1.toNat free (by omega) (by omega) (by omega) k (by omega)
    rw [show (((wishOf w puts[i].f0).f2.f0.toNat : Nat) : Int) = (wishOf w puts[i].f0).f2.f0 by omega, show (((wishOf w puts[i].f0).f2.f1.toNat : Nat) : Int) = (wishOf w puts[i].f0).f2.f1 by omega] at hA'
    unfold mayN at hyes
    have hal := allowsN_lt (wishOf w puts[i].f0).f2.f0.toNat (wishOf w puts[i].f0).f2.f1.toNat free
    rw [mainsheetlaw19_PickWhole.l0, if_pos (by omega), if_pos (by omega), if_pos (by omega), rd31_eq puts i hil, Has_val A (by omega), Option.bind_some, hno, if_neg (by simp), wish_val l w _ _ (by omega) k (by omega), Option.bind_some, hA', Option.bind_some, Has_val _ (by omega), Option.bind_some, hyes, if_pos rfl, if_pos h0, shl_bit _ h0 h8, or_nat _ _ (by omega) (by omega), w64 _ (by omega) (by omega), show (i : Int) + 1 = ((i + 1 : Nat) : Int) by omega]
    exact ih k (i + 1) _ (by omega) (by omega) (or_lt256 _ _ hA hp) hrest
end
theorem PutsOk.range {w : List S36} {free : Nat} : ∀ (ps : List S31) (A : Nat), PutsOk w free A ps → ∀ p ∈ ps, 0 ≤ p.f1 ∧ p.f1 < 8 := by
  intro ps
  induction ps with
  | nil => intro A _ p hp; simp at hp
  | cons q ps ih =>
    intro A ⟨h1, _, _, h2⟩ p hp
    rcases List.mem_cons.1 hp with rfl | hp
    · exact h1
    · exact ih _ h2 p hp
theorem puts_members (w : List S36) (l : List Ent) : ∀ free, ∀ p ∈ pickPuts (pickTurns w free l), p.f0 ∈ members l := by
  induction l with
  | nil => intro free p hp; simp [pickTurns, pickPuts] at hp
  | cons x l ih =>
    intro free p hp
    rw [pickTurns, puts_cons] at hp
    have e2 : members (x :: l) = x.f0 ++ members l := by simp [members]
    rw [e2]
    rcases List.mem_append.1 hp with hp | hp
    · refine List.mem_append.2 (.inl ?_)
      unfold putsP at hp
      cases hq : atOf w free x with
      | none => rw [hq] at hp; simp at hp
      | some m =>
        rw [hq] at hp
        simp only [zipP] at hp
        obtain ⟨j, hj, rfl⟩ := List.mem_iff_getElem.1 hp
        simp
    · exact List.mem_append.2 (.inr (ih _ p hp))
theorem pure_PickWhole (l : List Ent) (w : List S36) (a : Int) (hwf : ∀ x ∈ w, Wf36 x) (h0 : 0 ≤ a) (h1 : a < 4294967296) : ∃ k, mainsheetlaw19_PickWhole.f k l w a = some true := by
  refine ⟨3000, ?_⟩
  unfold mainsheetlaw19_PickWhole.f
  rw [wakes19, Option.bind_some, if_pos rfl]
  rcases over_val l w a 3000 (by omega) with ho | ⟨ho, hl, hw, hm⟩
  · rw [ho, Option.bind_some, if_pos rfl]
  · rw [ho, Option.bind_some, if_neg (by simp)]
    have hok : okPickArgs l w a := ⟨⟨hwf, by omega, by omega⟩, h0, h1⟩
    have hP : pick_Pick.f l w a = some (if askedP l w a = 0 then (pickPuts (pickTurns w a.toNat l), pickWaits (pickTurns w a.toNat l), 0) else ([], [], askedP l w a)) := by unfold pick_Pick.f; exact if_pos hok
    rw [hP, Option.bind_some]
    by_cases he : askedP l w a = 0
    · rw [if_pos he, if_pos rfl]
      obtain ⟨hc, ha⟩ := askedP_ok.1 he
      obtain ⟨hs, hpc⟩ := (pickCheck_zero l w).1 hc
      obtain ⟨hpl, hwtl⟩ := pickPuts_le (pickTurns w a.toNat l)
      rw [turns_fst, ← hs.count] at hpl hwtl
      have hcnt := turns_count w l l hs (fun _ h => h) a.toNat
      rw [← hs.count] at hcnt
      have hcast : ((a.toNat : Nat) : Int) = a := by omega
      have hf : a.toNat < 256 := by omega
      have hpok := puts_ok hs a.toNat hf l (fun _ h => h) a.toNat 0 hf (by omega) (fun b _ => by simp)
      have hpr := PutsOk.range _ _ hpok
      have hask := askedP_val l w a hok
      rw [he] at hask
      have hidle := fun k (hk : 1200 ≤ k) => idle_ents hs hl hw hwf hf (pickPuts (pickTurns w a.toNat l)) rfl (by omega) hpr l.length k 0 0 (by omega) (by omega) (by omega) (fun b hb hbit => by simp at hbit)
      rw [hcast] at hidle
      generalize hgp : pickPuts (pickTurns w a.toNat l) = puts at *
      generalize hgw : pickWaits (pickTurns w a.toNat l) = waits at *
      have hmain := pw_puts (l := l) (w := w) (free := a.toNat) (by omega) hwf hf puts waits (by omega) 1500 (fun p hp => (wishOf_mem hs _ (puts_members w l a.toNat p (by rw [hgp]; exact hp))).1) (fun k hk => by
        rw [show (0 : Int) = ((0 : Nat) : Int) from rfl, hcast]
        refine pw_waits (free := a.toNat) hs waits hgw.symm puts hgp.symm (by omega) (by omega) a 1300 (fun k' hk' => ?_) waits.length k 0 (by omega) (by omega)
        obtain ⟨k', rfl⟩ : ∃ m, k' = m + 1 := ⟨k' - 1, by omega⟩
        have hid : pick_Idle.f k' l w a puts = some ([], 0) := by
          unfold pick_Idle.f
          rw [hask, Option.bind_some, if_pos rfl]
          exact hidle k' (by omega)
        have hwh : pick_Whole.f k' l puts = some true := by
          unfold pick_Whole.f
          rw [show (0 : Int) = ((0 : Nat) : Int) from rfl]
          exact whole_outer hs (by omega) puts hgp.symm (by omega) l.length k' 0 (by omega) (by omega)
        rw [mainsheetlaw19_PickWhole.l1, if_neg (by omega), hid, Option.bind_some, if_pos rfl, if_pos (by rfl), hwh, Option.bind_some, if_pos rfl]
        have : wrap64 ((puts.length : Int) + (waits.length : Int)) = (w.length : Int) := by
          unfold wrap64; omega
        rw [this]; simp) puts.length 3000 0 0 (by omega) (by omega) (by omega) hpok
      rw [hcast] at hmain
      exact hmain
    · rw [if_neg he, if_neg (by simpa using he)]
      rfl
end Go.Proofs.YtdmieaidheelbaaDoor.Q
end
