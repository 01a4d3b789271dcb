/- Texts of the proof of PickTells, joined. -/
import Derived.WalkMore
import Derived.BigQuiet
import Derived.Deep.QuietTactic
import Derived.Maps.Own
import Derived.Test.YtdmieaidheelbaaDoorPkPickTellsc
/- QRb -/
section
namespace Go.Proofs.YtdmieaidheelbaaDoor.Q
open Go.RowKit Go.Proofs.YtdmieaidheelbaaDoorW.PrintWords Go.Proofs.YtdmieaidheelbaaDoorW.PrintLast Go.Proofs.YtdmieaidheelbaaDoorW.PrintMore
attribute [local go_sem] max2_int min2_int max_two min_two max_three min_three max_four min_four
set_option linter.unusedVariables false
set_option linter.unusedSimpArgs false

mutual
def mainsheetref13_Right.l0 : Nat → List (S36) → Int → Option (Bool)
 | 0, _, _ => none
 | k + 1, x0, x3 => if x3 < (x0.length : Int) then (if 0 ≤ x3 then (if ((rd_T36 x0 x3).f0) < 1 then (mainsheetref13_Right.j1 k x0 x3 true ((rd_T36 x0 x3).f0) ((rd_T36 x0 x3).f1) ((rd_T36 x0 x3).f2.f0) ((rd_T36 x0 x3).f2.f1)) else (if ((rd_T36 x0 x3).f0) > 16 then (mainsheetref13_Right.j1 k x0 x3 true ((rd_T36 x0 x3).f0) ((rd_T36 x0 x3).f1) ((rd_T36 x0 x3).f2.f0) ((rd_T36 x0 x3).f2.f1)) else (if ((rd_T36 x0 x3).f1) < (-1) then (mainsheetref13_Right.j1 k x0 x3 true ((rd_T36 x0 x3).f0) ((rd_T36 x0 x3).f1) ((rd_T36 x0 x3).f2.f0) ((rd_T36 x0 x3).f2.f1)) else (if ((rd_T36 x0 x3).f1) > 7 then (mainsheetref13_Right.j1 k x0 x3 true ((rd_T36 x0 x3).f0) ((rd_T36 x0 x3).f1) ((rd_T36 x0 x3).f2.f0) ((rd_T36 x0 x3).f2.f1)) else ((mainsheetref07_Right.f ((rd_T36 x0 x3).f2.f0) ((rd_T36 x0 x3).f2.f1)).bind fun t175 => (mainsheetref13_Right.j1 k x0 x3 (!t175) ((rd_T36 x0 x3).f0) ((rd_T36 x0 x3).f1) ((rd_T36 x0 x3).f2.f0) ((rd_T36 x0 x3).f2.f1))))))) else (none)) else (some true)
def mainsheetref13_Right.j1 : Nat → List (S36) → Int → Bool → Int → Int → Int → Int → Option (Bool)
 | 0, _, _, _, _, _, _, _ => none
 | k + 1, x0, x3, x39, x175000, x175001, x175002, x175003 => if x39 = true then (some false) else (mainsheetref13_Right.l1 k x0 x3 0 x175000 x175001 x175002 x175003)
def mainsheetref13_Right.l1 : Nat → List (S36) → Int → Int → Int → Int → Int → Int → Option (Bool)
 | 0, _, _, _, _, _, _, _ => none
 | k + 1, x0, x3, x5, x175000, x175001, x175002, x175003 => if x5 < x3 then (if 0 ≤ x5 then (if x5 < (x0.length : Int) then (if ((rd_T36 x0 x5).f0) = x175000 then (some false) else (if x175001 ≥ 0 then (if ((rd_T36 x0 x5).f1) = x175001 then (some false) else (mainsheetref13_Right.l1 k x0 x3 (wrap64 (x5 + 1)) x175000 x175001 x175002 x175003)) else (mainsheetref13_Right.l1 k x0 x3 (wrap64 (x5 + 1)) x175000 x175001 x175002 x175003))) else (none)) else (none)) else (mainsheetref13_Right.l0 k x0 (wrap64 (x3 + 1)))
end
def mainsheetref13_Right.f (k : Nat) (l0 : List (S36)) : Option (Bool) := mainsheetref13_Right.l0 k l0 0
set_option maxHeartbeats 8000000 in
set_option maxRecDepth 100000 in
theorem mainsheetref13_Right.calls (k : Nat) (A0 : Option Addr) (c0 : Nat) (l0 : List (S36)) (r : Bool) (w : World) (hr0 : Kd.C k36 w A0 l0.length l0) (hc0 : l0.length ≤ c0) (h : mainsheetref13_Right.f k l0 = some r) :
  Calls Tryd.prog 38 #[.slice A0 l0.length c0] w fun e w' => e = .returned (.bool r) ∧ Below w.heap.size w w' := by
 have hu36 := Tryd.underlying36
 have hu34 := Tryd.underlying34
 have HR0 := Aside0.mk hr0
 have HC0 := Aside0.mk hc0
 clear hr0 hc0
 have HB := Aside0.mk (Below.refl w.heap.size w)
 have H : (mainsheetref13_Right.l0 k l0 0) = some r := h
 clear h
 have H' := Aside0.mk H
 clear H
 go_enter Tryd.func38, Tryd.ntmps38
 go_wp2
 repeat (go_quiet (fail); try go_wp2)
 go_loopg [3] k (fun kq v3 w' => ∃ (x3_1 : Int), v3 = .int .i64 x3_1 ∧ Aside0 (mainsheetref13_Right.l0 kq l0 x3_1 = some r) ∧ Aside0 (kq ≤ k) ∧ Aside0 (Below w.heap.size w w'))
 case atStart => exact ⟨(0), (by first | rfl | (simp; done) | (simp [*]; done)), H', ⟨Nat.le_refl _⟩, ⟨by repeat (first | (with_reducible first | exact HB.out | apply below_alloc | apply pw_below_drewN | apply below_drew1) | exact HB.out)⟩⟩
 case round =>
  clear H'
  obtain ⟨x3_1, rfl, HA, HK1, HB⟩ := hrel
  cases gk with
  | zero => exact absurd HA.out (by simp [mainsheetref13_Right.l0])
  | succ k1 =>
   have H := HA.out
   clear HA
   simp only [mainsheetref13_Right.l0] at H
   by_cases c2 : x3_1 < (l0.length : Int)
   ·rw [if_pos c2] at H
    have c2b0 : decide (x3_1 < (l0.length : Int)) = true := decide_eq_true c2
    clear c2
    by_cases c3 : 0 ≤ x3_1
    ·rw [if_pos c3] at H
     have c3b0 : decide (0 ≤ x3_1) = true := decide_eq_true c3
     clear c3
     have HC4 := Aside0.mk H
     clear H
     have p173 : 0 ≤ (x3_1 : Int) := of_decide_eq_true (by first | (with_reducible assumption) | assumption)
     have q173 : x3_1 < (l0.length : Int) := of_decide_eq_true (by first | (with_reducible assumption) | assumption)
     obtain ⟨ad173, e173, hx173_0, hx173_1, hx173_2, hx173_3⟩ := at_T36 HR0.out x3_1 p173 q173
     cases e173
     replace hx173_0 := (HB.out.cell (World.block_lt_of_cell? w _ hx173_0)).trans hx173_0
     replace hx173_1 := (HB.out.cell (World.block_lt_of_cell? w _ hx173_1)).trans hx173_1
     replace hx173_2 := (HB.out.cell (World.block_lt_of_cell? w _ hx173_2)).trans hx173_2
     replace hx173_3 := (HB.out.cell (World.block_lt_of_cell? w _ hx173_3)).trans hx173_3
     replace p173 := eq_true p173
     replace q173 := eq_true q173
     go_upto_region 5 with (first | ((with_reducible refine gate_dst (N := 4) rfl ?_); refine box_event ?hg (N := 4) ?hd (cs := #[.int .i64 0, .int .i64 0, .int .u32 0, .int .u32 0]) (t := 36) ?hr ?_; (case hd => rfl); (case hg => rfl); (case hr => first | (go_simp; done) | (go_simp; rfl)); intro gb174 hg w5 hbox hb; have n0_ := Aside0.mk (below_step (by repeat (first | (with_reducible first | exact HB.out | apply below_alloc | apply pw_below_drewN | apply below_drew1) | exact HB.out)) hb); have n1_ := Aside0.mk (hbox); have n2_ := Aside0.mk ((by rw [hg]; exact (below_size (by repeat (first | (with_reducible first | exact HB.out | apply below_alloc | apply pw_below_drewN | apply below_drew1) | exact HB.out))) : w.heap.size ≤ gb174)); have n3_ := Aside0.mk ((by rw [hg]; exact (below_size (by repeat (first | (with_reducible first | exact HB.out | apply below_alloc | apply pw_below_drewN | apply below_drew1) | exact HB.out))) : w.heap.size ≤ gb174)); clear HB; have HB := n0_; have BK174 := n1_; have GW174 := n2_; have GE174 := n3_; clear n0_ n1_ n2_ n3_; clear hb hbox hg; have hcz6_0 : w5.cell? ⟨gb174, 0, none⟩ = some (.int .i64 0) := (blk_cell BK174.out 0).trans rfl; have hcz6_1 : w5.cell? ⟨gb174, 1, none⟩ = some (.int .i64 0) := (blk_cell BK174.out 1).trans rfl; have hcz6_2 : w5.cell? ⟨gb174, 2, none⟩ = some (.int .u32 0) := (blk_cell BK174.out 2).trans rfl; have hcz6_3 : w5.cell? ⟨gb174, 3, none⟩ = some (.int .u32 0) := (blk_cell BK174.out 3).trans rfl; have hfz6_0 := blk_frozen BK174.out 0; have hfz6_1 := blk_frozen BK174.out 1; have hfz6_2 := blk_frozen BK174.out 2; have hfz6_3 := blk_frozen BK174.out 3))
     repeat (go_quiet (first | ((with_reducible refine gate_dst (N := 4) rfl ?_); refine box_event ?hg (N := 4) ?hd (cs := #[.int .i64 0, .int .i64 0, .int .u32 0, .int .u32 0]) (t := 36) ?hr ?_; (case hd => rfl); (case hg => rfl); (case hr => first | (go_simp; done) | (go_simp; rfl)); intro gb174 hg w5 hbox hb; have n0_ := Aside0.mk (below_step (by repeat (first | (with_reducible first | exact HB.out | apply below_alloc | apply pw_below_drewN | apply below_drew1) | exact HB.out)) hb); have n1_ := Aside0.mk (hbox); have n2_ := Aside0.mk ((by rw [hg]; exact (below_size (by repeat (first | (with_reducible first | exact HB.out | apply below_alloc | apply pw_below_drewN | apply below_drew1) | exact HB.out))) : w.heap.size ≤ gb174)); have n3_ := Aside0.mk ((by rw [hg]; exact (below_size (by repeat (first | (with_reducible first | exact HB.out | apply below_alloc | apply pw_below_drewN | apply below_drew1) | exact HB.out))) : w.heap.size ≤ gb174)); clear HB; have HB := n0_; have BK174 := n1_; have GW174 := n2_; have GE174 := n3_; clear n0_ n1_ n2_ n3_; clear hb hbox hg; have hcz6_0 : w5.cell? ⟨gb174, 0, none⟩ = some (.int .i64 0) := (blk_cell BK174.out 0).trans rfl; have hcz6_1 : w5.cell? ⟨gb174, 1, none⟩ = some (.int .i64 0) := (blk_cell BK174.out 1).trans rfl; have hcz6_2 : w5.cell? ⟨gb174, 2, none⟩ = some (.int .u32 0) := (blk_cell BK174.out 2).trans rfl; have hcz6_3 : w5.cell? ⟨gb174, 3, none⟩ = some (.int .u32 0) := (blk_cell BK174.out 3).trans rfl; have hfz6_0 := blk_frozen BK174.out 0; have hfz6_1 := blk_frozen BK174.out 1; have hfz6_2 := blk_frozen BK174.out 2; have hfz6_3 := blk_frozen BK174.out 3)); go_upto_region 5 with (first | ((with_reducible refine gate_dst (N := 4) rfl ?_); refine box_event ?hg (N := 4) ?hd (cs := #[.int .i64 0, .int .i64 0, .int .u32 0, .int .u32 0]) (t := 36) ?hr ?_; (case hd => rfl); (case hg => rfl); (case hr => first | (go_simp; done) | (go_simp; rfl)); intro gb174 hg w5 hbox hb; have n0_ := Aside0.mk (below_step (by repeat (first | (with_reducible first | exact HB.out | apply below_alloc | apply pw_below_drewN | apply below_drew1) | exact HB.out)) hb); have n1_ := Aside0.mk (hbox); have n2_ := Aside0.mk ((by rw [hg]; exact (below_size (by repeat (first | (with_reducible first | exact HB.out | apply below_alloc | apply pw_below_drewN | apply below_drew1) | exact HB.out))) : w.heap.size ≤ gb174)); have n3_ := Aside0.mk ((by rw [hg]; exact (below_size (by repeat (first | (with_reducible first | exact HB.out | apply below_alloc | apply pw_below_drewN | apply below_drew1) | exact HB.out))) : w.heap.size ≤ gb174)); clear HB; have HB := n0_; have BK174 := n1_; have GW174 := n2_; have GE174 := n3_; clear n0_ n1_ n2_ n3_; clear hb hbox hg; have hcz6_0 : w5.cell? ⟨gb174, 0, none⟩ = some (.int .i64 0) := (blk_cell BK174.out 0).trans rfl; have hcz6_1 : w5.cell? ⟨gb174, 1, none⟩ = some (.int .i64 0) := (blk_cell BK174.out 1).trans rfl; have hcz6_2 : w5.cell? ⟨gb174, 2, none⟩ = some (.int .u32 0) := (blk_cell BK174.out 2).trans rfl; have hcz6_3 : w5.cell? ⟨gb174, 3, none⟩ = some (.int .u32 0) := (blk_cell BK174.out 3).trans rfl; have hfz6_0 := blk_frozen BK174.out 0; have hfz6_1 := blk_frozen BK174.out 1; have hfz6_2 := blk_frozen BK174.out 2; have hfz6_3 := blk_frozen BK174.out 3)))
     (try simp only [Act.put, List.setIfInBounds_toArray, List.set_cons_zero, List.set_cons_succ])
     go_cut [39] (fun v39 wc => ∃ (kq : Nat) (x39_3 : Bool), v39 = .bool x39_3 ∧ Aside0 (mainsheetref13_Right.j1 kq l0 x3_1 x39_3 ((rd_T36 l0 x3_1).f0) ((rd_T36 l0 x3_1).f1) ((rd_T36 l0 x3_1).f2.f0) ((rd_T36 l0 x3_1).f2.f1) = some r) ∧ Aside0 (kq ≤ k1) ∧ Aside0 (wc.heap[gb174]? = some (.cells #[.int .i64 ((rd_T36 l0 x3_1).f0), .int .i64 ((rd_T36 l0 x3_1).f1), .int .u32 ((rd_T36 l0 x3_1).f2.f0), .int .u32 ((rd_T36 l0 x3_1).f2.f1)] 36 (0, 0))) ∧ Aside0 (Below w.heap.size w wc))
     case first =>
      have H := HC4.out
      clear HC4
      by_cases c7 : ((rd_T36 l0 x3_1).f0) < 1
      ·rw [if_pos c7] at H
       have c7b0 : decide (((rd_T36 l0 x3_1).f0) < 1) = true := decide_eq_true c7
       clear c7
       (first | rw [c7b0] | (simp only [i64_w, i32_w]; rw [c7b0]) | skip)
       have H' := Aside0.mk H
       clear H
       have hcz8_0 : w5.cell? ⟨gb174, 0, none⟩ = some (.int .i64 0) := (blk_cell BK174.out 0).trans rfl
       have hcz8_1 : w5.cell? ⟨gb174, 1, none⟩ = some (.int .i64 0) := (blk_cell BK174.out 1).trans rfl
       have hcz8_2 : w5.cell? ⟨gb174, 2, none⟩ = some (.int .u32 0) := (blk_cell BK174.out 2).trans rfl
       have hcz8_3 : w5.cell? ⟨gb174, 3, none⟩ = some (.int .u32 0) := (blk_cell BK174.out 3).trans rfl
       have hfz8_0 := blk_frozen BK174.out 0
       have hfz8_1 := blk_frozen BK174.out 1
       have hfz8_2 := blk_frozen BK174.out 2
       have hfz8_3 := blk_frozen BK174.out 3
       go_wp2
       repeat (go_quiet (fail); try go_wp2)
       go_meet
       case rel => exact ⟨_, (true), (by first | rfl | (simp; done) | (simp [*]; done)), H', ⟨by have := HK1.out; first | omega | exact Nat.le_refl _⟩, ⟨by (with_reducible repeat (first | refine blk_drewN ?_ _ | refine blk_drew ?_ | refine blk_alloc ?_ _)); refine blk_put (cs := #[.int .i64 ((rd_T36 l0 x3_1).f0), .int .i64 ((rd_T36 l0 x3_1).f1), .int .u32 ((rd_T36 l0 x3_1).f2.f0), .int .u32 0]) ?_ 3 _ rfl; (with_reducible repeat (first | refine blk_drewN ?_ _ | refine blk_drew ?_ | refine blk_alloc ?_ _)); refine blk_put (cs := #[.int .i64 ((rd_T36 l0 x3_1).f0), .int .i64 ((rd_T36 l0 x3_1).f1), .int .u32 0, .int .u32 0]) ?_ 2 _ rfl; (with_reducible repeat (first | refine blk_drewN ?_ _ | refine blk_drew ?_ | refine blk_alloc ?_ _)); refine blk_put (cs := #[.int .i64 ((rd_T36 l0 x3_1).f0), .int .i64 0, .int .u32 0, .int .u32 0]) ?_ 1 _ rfl; (with_reducible repeat (first | refine blk_drewN ?_ _ | refine blk_drew ?_ | refine blk_alloc ?_ _)); refine blk_put (cs := #[.int .i64 0, .int .i64 0, .int .u32 0, .int .u32 0]) ?_ 0 _ rfl; (with_reducible repeat (first | refine blk_drewN ?_ _ | refine blk_drew ?_ | refine blk_alloc ?_ _)); exact BK174.out⟩, ⟨by repeat (first | (with_reducible first | exact HB.out | apply below_alloc | apply pw_below_drewN | apply below_drew1 | refine below_set ?_ GE174.out) | exact HB.out)⟩⟩
      ·rw [if_neg c7] at H
       have c7b0 : decide (((rd_T36 l0 x3_1).f0) < 1) = false := decide_eq_false c7
       clear c7
       (first | rw [c7b0] | (simp only [i64_w, i32_w]; rw [c7b0]) | skip)
       by_cases c9 : ((rd_T36 l0 x3_1).f0) > 16
       ·rw [if_pos c9] at H
        have c9b0 : decide (16 < ((rd_T36 l0 x3_1).f0)) = true := decide_eq_true c9
        clear c9
        have H' := Aside0.mk H
        clear H
        have hcz10_0 : w5.cell? ⟨gb174, 0, none⟩ = some (.int .i64 0) := (blk_cell BK174.out 0).trans rfl
        have hcz10_1 : w5.cell? ⟨gb174, 1, none⟩ = some (.int .i64 0) := (blk_cell BK174.out 1).trans rfl
        have hcz10_2 : w5.cell? ⟨gb174, 2, none⟩ = some (.int .u32 0) := (blk_cell BK174.out 2).trans rfl
        have hcz10_3 : w5.cell? ⟨gb174, 3, none⟩ = some (.int .u32 0) := (blk_cell BK174.out 3).trans rfl
        have hfz10_0 := blk_frozen BK174.out 0
        have hfz10_1 := blk_frozen BK174.out 1
        have hfz10_2 := blk_frozen BK174.out 2
        have hfz10_3 := blk_frozen BK174.out 3
        go_wp2
        repeat (go_quiet (fail); try go_wp2)
        go_meet
        case rel => exact ⟨_, (true), (by first | rfl | (simp; done) | (simp [*]; done)), H', ⟨by have := HK1.out; first | omega | exact Nat.le_refl _⟩, ⟨by (with_reducible repeat (first | refine blk_drewN ?_ _ | refine blk_drew ?_ | refine blk_alloc ?_ _)); refine blk_put (cs := #[.int .i64 ((rd_T36 l0 x3_1).f0), .int .i64 ((rd_T36 l0 x3_1).f1), .int .u32 ((rd_T36 l0 x3_1).f2.f0), .int .u32 0]) ?_ 3 _ rfl; (with_reducible repeat (first | refine blk_drewN ?_ _ | refine blk_drew ?_ | refine blk_alloc ?_ _)); refine blk_put (cs := #[.int .i64 ((rd_T36 l0 x3_1).f0), .int .i64 ((rd_T36 l0 x3_1).f1), .int .u32 0, .int .u32 0]) ?_ 2 _ rfl; (with_reducible repeat (first | refine blk_drewN ?_ _ | refine blk_drew ?_ | refine blk_alloc ?_ _)); refine blk_put (cs := #[.int .i64 ((rd_T36 l0 x3_1).f0), .int .i64 0, .int .u32 0, .int .u32 0]) ?_ 1 _ rfl; (with_reducible repeat (first | refine blk_drewN ?_ _ | refine blk_drew ?_ | refine blk_alloc ?_ _)); refine blk_put (cs := #[.int .i64 0, .int .i64 0, .int .u32 0, .int .u32 0]) ?_ 0 _ rfl; (with_reducible repeat (first | refine blk_drewN ?_ _ | refine blk_drew ?_ | refine blk_alloc ?_ _)); exact BK174.out⟩, ⟨by repeat (first | (with_reducible first | exact HB.out | apply below_alloc | apply pw_below_drewN | apply below_drew1 | refine below_set ?_ GE174.out) | exact HB.out)⟩⟩
       ·rw [if_neg c9] at H
        have c9b0 : decide (16 < ((rd_T36 l0 x3_1).f0)) = false := decide_eq_false c9
        clear c9
        by_cases c11 : ((rd_T36 l0 x3_1).f1) < (-1)
        ·rw [if_pos c11] at H
         have c11b0 : decide (((rd_T36 l0 x3_1).f1) < (-1)) = true := decide_eq_true c11
         clear c11
         have H' := Aside0.mk H
         clear H
         have hcz12_0 : w5.cell? ⟨gb174, 0, none⟩ = some (.int .i64 0) := (blk_cell BK174.out 0).trans rfl
         have hcz12_1 : w5.cell? ⟨gb174, 1, none⟩ = some (.int .i64 0) := (blk_cell BK174.out 1).trans rfl
         have hcz12_2 : w5.cell? ⟨gb174, 2, none⟩ = some (.int .u32 0) := (blk_cell BK174.out 2).trans rfl
         have hcz12_3 : w5.cell? ⟨gb174, 3, none⟩ = some (.int .u32 0) := (blk_cell BK174.out 3).trans rfl
         have hfz12_0 := blk_frozen BK174.out 0
         have hfz12_1 := blk_frozen BK174.out 1
         have hfz12_2 := blk_frozen BK174.out 2
         have hfz12_3 := blk_frozen BK174.out 3
         go_wp2
         repeat (go_quiet (fail); try go_wp2)
         go_meet
         case rel => exact ⟨_, (true), (by first | rfl | (simp; done) | (simp [*]; done)), H', ⟨by have := HK1.out; first | omega | exact Nat.le_refl _⟩, ⟨by (with_reducible repeat (first | refine blk_drewN ?_ _ | refine blk_drew ?_ | refine blk_alloc ?_ _)); refine blk_put (cs := #[.int .i64 ((rd_T36 l0 x3_1).f0), .int .i64 ((rd_T36 l0 x3_1).f1), .int .u32 ((rd_T36 l0 x3_1).f2.f0), .int .u32 0]) ?_ 3 _ rfl; (with_reducible repeat (first | refine blk_drewN ?_ _ | refine blk_drew ?_ | refine blk_alloc ?_ _)); refine blk_put (cs := #[.int .i64 ((rd_T36 l0 x3_1).f0), .int .i64 ((rd_T36 l0 x3_1).f1), .int .u32 0, .int .u32 0]) ?_ 2 _ rfl; (with_reducible repeat (first | refine blk_drewN ?_ _ | refine blk_drew ?_ | refine blk_alloc ?_ _)); refine blk_put (cs := #[.int .i64 ((rd_T36 l0 x3_1).f0), .int .i64 0, .int .u32 0, .int .u32 0]) ?_ 1 _ rfl; (with_reducible repeat (first | refine blk_drewN ?_ _ | refine blk_drew ?_ | refine blk_alloc ?_ _)); refine blk_put (cs := #[.int .i64 0, .int .i64 0, .int .u32 0, .int .u32 0]) ?_ 0 _ rfl; (with_reducible repeat (first | refine blk_drewN ?_ _ | refine blk_drew ?_ | refine blk_alloc ?_ _)); exact BK174.out⟩, ⟨by repeat (first | (with_reducible first | exact HB.out | apply below_alloc | apply pw_below_drewN | apply below_drew1 | refine below_set ?_ GE174.out) | exact HB.out)⟩⟩
        ·rw [if_neg c11] at H
         have c11b0 : decide (((rd_T36 l0 x3_1).f1) < (-1)) = false := decide_eq_false c11
         clear c11
         by_cases c13 : ((rd_T36 l0 x3_1).f1) > 7
         ·rw [if_pos c13] at H
          have c13b0 : decide (7 < ((rd_T36 l0 x3_1).f1)) = true := decide_eq_true c13
          clear c13
          have H' := Aside0.mk H
          clear H
          have hcz14_0 : w5.cell? ⟨gb174, 0, none⟩ = some (.int .i64 0) := (blk_cell BK174.out 0).trans rfl
          have hcz14_1 : w5.cell? ⟨gb174, 1, none⟩ = some (.int .i64 0) := (blk_cell BK174.out 1).trans rfl
          have hcz14_2 : w5.cell? ⟨gb174, 2, none⟩ = some (.int .u32 0) := (blk_cell BK174.out 2).trans rfl
          have hcz14_3 : w5.cell? ⟨gb174, 3, none⟩ = some (.int .u32 0) := (blk_cell BK174.out 3).trans rfl
          have hfz14_0 := blk_frozen BK174.out 0
          have hfz14_1 := blk_frozen BK174.out 1
          have hfz14_2 := blk_frozen BK174.out 2
          have hfz14_3 := blk_frozen BK174.out 3
          go_wp2
          repeat (go_quiet (fail); try go_wp2)
          go_meet
          case rel => exact ⟨_, (true), (by first | rfl | (simp; done) | (simp [*]; done)), H', ⟨by have := HK1.out; first | omega | exact Nat.le_refl _⟩, ⟨by (with_reducible repeat (first | refine blk_drewN ?_ _ | refine blk_drew ?_ | refine blk_alloc ?_ _)); refine blk_put (cs := #[.int .i64 ((rd_T36 l0 x3_1).f0), .int .i64 ((rd_T36 l0 x3_1).f1), .int .u32 ((rd_T36 l0 x3_1).f2.f0), .int .u32 0]) ?_ 3 _ rfl; (with_reducible repeat (first | refine blk_drewN ?_ _ | refine blk_drew ?_ | refine blk_alloc ?_ _)); refine blk_put (cs := #[.int .i64 ((rd_T36 l0 x3_1).f0), .int .i64 ((rd_T36 l0 x3_1).f1), .int .u32 0, .int .u32 0]) ?_ 2 _ rfl; (with_reducible repeat (first | refine blk_drewN ?_ _ | refine blk_drew ?_ | refine blk_alloc ?_ _)); refine blk_put (cs := #[.int .i64 ((rd_T36 l0 x3_1).f0), .int .i64 0, .int .u32 0, .int .u32 0]) ?_ 1 _ rfl; (with_reducible repeat (first | refine blk_drewN ?_ _ | refine blk_drew ?_ | refine blk_alloc ?_ _)); refine blk_put (cs := #[.int .i64 0, .int .i64 0, .int .u32 0, .int .u32 0]) ?_ 0 _ rfl; (with_reducible repeat (first | refine blk_drewN ?_ _ | refine blk_drew ?_ | refine blk_alloc ?_ _)); exact BK174.out⟩, ⟨by repeat (first | (with_reducible first | exact HB.out | apply below_alloc | apply pw_below_drewN | apply below_drew1 | refine below_set ?_ GE174.out) | exact HB.out)⟩⟩
         ·rw [if_neg c13] at H
          have c13b0 : decide (7 < ((rd_T36 l0 x3_1).f1)) = false := decide_eq_false c13
          clear c13
          replace H := Option.bind_eq_some_iff.mp H
          obtain ⟨t175, A150, H⟩ := H
          replace H : (mainsheetref13_Right.j1 k1 l0 x3_1 (!t175) ((rd_T36 l0 x3_1).f0) ((rd_T36 l0 x3_1).f1) ((rd_T36 l0 x3_1).f2.f0) ((rd_T36 l0 x3_1).f2.f1)) = some r := H
          have A15 := Aside0.mk A150
          clear A150
          have H' := Aside0.mk H
          clear H
          have hcz16_0 : w5.cell? ⟨gb174, 0, none⟩ = some (.int .i64 0) := (blk_cell BK174.out 0).trans rfl
          have hcz16_1 : w5.cell? ⟨gb174, 1, none⟩ = some (.int .i64 0) := (blk_cell BK174.out 1).trans rfl
          have hcz16_2 : w5.cell? ⟨gb174, 2, none⟩ = some (.int .u32 0) := (blk_cell BK174.out 2).trans rfl
          have hcz16_3 : w5.cell? ⟨gb174, 3, none⟩ = some (.int .u32 0) := (blk_cell BK174.out 3).trans rfl
          have hfz16_0 := blk_frozen BK174.out 0
          have hfz16_1 := blk_frozen BK174.out 1
          have hfz16_2 := blk_frozen BK174.out 2
          have hfz16_3 := blk_frozen BK174.out 3
          go_wp2_with (first | (go_at_call 52; (with_reducible refine (mainsheetref07_Right.calls ((rd_T36 l0 x3_1).f2.f0) ((rd_T36 l0 x3_1).f2.f1) t175 _ A15.out).mono ?_); rintro e w17 ⟨rfl, hb⟩; have n0_ := Aside0.mk (blk_below (g := gb174) (o := .cells #[.int .i64 ((rd_T36 l0 x3_1).f0), .int .i64 ((rd_T36 l0 x3_1).f1), .int .u32 ((rd_T36 l0 x3_1).f2.f0), .int .u32 ((rd_T36 l0 x3_1).f2.f1)] 36 (0, 0)) (by (with_reducible repeat (first | refine blk_drewN ?_ _ | refine blk_drew ?_ | refine blk_alloc ?_ _)); refine blk_put (cs := #[.int .i64 ((rd_T36 l0 x3_1).f0), .int .i64 ((rd_T36 l0 x3_1).f1), .int .u32 ((rd_T36 l0 x3_1).f2.f0), .int .u32 0]) ?_ 3 _ rfl; (with_reducible repeat (first | refine blk_drewN ?_ _ | refine blk_drew ?_ | refine blk_alloc ?_ _)); refine blk_put (cs := #[.int .i64 ((rd_T36 l0 x3_1).f0), .int .i64 ((rd_T36 l0 x3_1).f1), .int .u32 0, .int .u32 0]) ?_ 2 _ rfl; (with_reducible repeat (first | refine blk_drewN ?_ _ | refine blk_drew ?_ | refine blk_alloc ?_ _)); refine blk_put (cs := #[.int .i64 ((rd_T36 l0 x3_1).f0), .int .i64 0, .int .u32 0, .int .u32 0]) ?_ 1 _ rfl; (with_reducible repeat (first | refine blk_drewN ?_ _ | refine blk_drew ?_ | refine blk_alloc ?_ _)); refine blk_put (cs := #[.int .i64 0, .int .i64 0, .int .u32 0, .int .u32 0]) ?_ 0 _ rfl; (with_reducible repeat (first | refine blk_drewN ?_ _ | refine blk_drew ?_ | refine blk_alloc ?_ _)); exact BK174.out) hb); have n1_ := Aside0.mk (below_step (by repeat (first | (with_reducible first | exact HB.out | apply below_alloc | apply pw_below_drewN | apply below_drew1 | refine below_set ?_ GE174.out) | exact HB.out)) hb); clear BK174; clear HB; have BK174 := n0_; have HB := n1_; clear n0_ n1_; (try clear hb); (try clear hb2); (try clear hk); (try clear hi)))
          repeat (go_quiet (first | (go_at_call 52; (with_reducible refine (mainsheetref07_Right.calls ((rd_T36 l0 x3_1).f2.f0) ((rd_T36 l0 x3_1).f2.f1) t175 _ A15.out).mono ?_); rintro e w17 ⟨rfl, hb⟩; have n0_ := Aside0.mk (blk_below (g := gb174) (o := .cells #[.int .i64 ((rd_T36 l0 x3_1).f0), .int .i64 ((rd_T36 l0 x3_1).f1), .int .u32 ((rd_T36 l0 x3_1).f2.f0), .int .u32 ((rd_T36 l0 x3_1).f2.f1)] 36 (0, 0)) (by (with_reducible repeat (first | refine blk_drewN ?_ _ | refine blk_drew ?_ | refine blk_alloc ?_ _)); refine blk_put (cs := #[.int .i64 ((rd_T36 l0 x3_1).f0), .int .i64 ((rd_T36 l0 x3_1).f1), .int .u32 ((rd_T36 l0 x3_1).f2.f0), .int .u32 0]) ?_ 3 _ rfl; (with_reducible repeat (first | refine blk_drewN ?_ _ | refine blk_drew ?_ | refine blk_alloc ?_ _)); refine blk_put (cs := #[.int .i64 ((rd_T36 l0 x3_1).f0), .int .i64 ((rd_T36 l0 x3_1).f1), .int .u32 0, .int .u32 0]) ?_ 2 _ rfl; (with_reducible repeat (first | refine blk_drewN ?_ _ | refine blk_drew ?_ | refine blk_alloc ?_ _)); refine blk_put (cs := #[.int .i64 ((rd_T36 l0 x3_1).f0), .int .i64 0, .int .u32 0, .int .u32 0]) ?_ 1 _ rfl; (with_reducible repeat (first | refine blk_drewN ?_ _ | refine blk_drew ?_ | refine blk_alloc ?_ _)); refine blk_put (cs := #[.int .i64 0, .int .i64 0, .int .u32 0, .int .u32 0]) ?_ 0 _ rfl; (with_reducible repeat (first | refine blk_drewN ?_ _ | refine blk_drew ?_ | refine blk_alloc ?_ _)); exact BK174.out) hb); have n1_ := Aside0.mk (below_step (by repeat (first | (with_reducible first | exact HB.out | apply below_alloc | apply pw_below_drewN | apply below_drew1 | refine below_set ?_ GE174.out) | exact HB.out)) hb); clear BK174; clear HB; have BK174 := n0_; have HB := n1_; clear n0_ n1_; (try clear hb); (try clear hb2); (try clear hk); (try clear hi))); try go_wp2_with (first | (go_at_call 52; (with_reducible refine (mainsheetref07_Right.calls ((rd_T36 l0 x3_1).f2.f0) ((rd_T36 l0 x3_1).f2.f1) t175 _ A15.out).mono ?_); rintro e w17 ⟨rfl, hb⟩; have n0_ := Aside0.mk (blk_below (g := gb174) (o := .cells #[.int .i64 ((rd_T36 l0 x3_1).f0), .int .i64 ((rd_T36 l0 x3_1).f1), .int .u32 ((rd_T36 l0 x3_1).f2.f0), .int .u32 ((rd_T36 l0 x3_1).f2.f1)] 36 (0, 0)) (by (with_reducible repeat (first | refine blk_drewN ?_ _ | refine blk_drew ?_ | refine blk_alloc ?_ _)); refine blk_put (cs := #[.int .i64 ((rd_T36 l0 x3_1).f0), .int .i64 ((rd_T36 l0 x3_1).f1), .int .u32 ((rd_T36 l0 x3_1).f2.f0), .int .u32 0]) ?_ 3 _ rfl; (with_reducible repeat (first | refine blk_drewN ?_ _ | refine blk_drew ?_ | refine blk_alloc ?_ _)); refine blk_put (cs := #[.int .i64 ((rd_T36 l0 x3_1).f0), .int .i64 ((rd_T36 l0 x3_1).f1), .int .u32 0, .int .u32 0]) ?_ 2 _ rfl; (with_reducible repeat (first | refine blk_drewN ?_ _ | refine blk_drew ?_ | refine blk_alloc ?_ _)); refine blk_put (cs := #[.int .i64 ((rd_T36 l0 x3_1).f0), .int .i64 0, .int .u32 0, .int .u32 0]) ?_ 1 _ rfl; (with_reducible repeat (first | refine blk_drewN ?_ _ | refine blk_drew ?_ | refine blk_alloc ?_ _)); refine blk_put (cs := #[.int .i64 0, .int .i64 0, .int .u32 0, .int .u32 0]) ?_ 0 _ rfl; (with_reducible repeat (first | refine blk_drewN ?_ _ | refine blk_drew ?_ | refine blk_alloc ?_ _)); exact BK174.out) hb); have n1_ := Aside0.mk (below_step (by repeat (first | (with_reducible first | exact HB.out | apply below_alloc | apply pw_below_drewN | apply below_drew1 | refine below_set ?_ GE174.out) | exact HB.out)) hb); clear BK174; clear HB; have BK174 := n0_; have HB := n1_; clear n0_ n1_; (try clear hb); (try clear hb2); (try clear hk); (try clear hi))))
          go_meet
          case rel => exact ⟨_, (!t175), (by first | rfl | (simp; done) | (simp [*]; done)), H', ⟨by have := HK1.out; first | omega | exact Nat.le_refl _⟩, ⟨by (with_reducible repeat (first | refine blk_drewN ?_ _ | refine blk_drew ?_ | refine blk_alloc ?_ _)); exact BK174.out⟩, ⟨by repeat (first | (with_reducible first | exact HB.out | apply below_alloc | apply pw_below_drewN | apply below_drew1 | refine below_set ?_ GE174.out) | exact HB.out)⟩⟩
     case rest =>
      clear HC4
      try clear c1
      try clear p1
      try clear q1
      try clear hx1
      try clear c2
      try clear c2b0
      try clear p2
      try clear c3
      try clear c3b0
      try clear c7
      try clear c7b0
      try clear c9
      try clear c9b0
      try clear c11
      try clear c11b0
      try clear c13
      try clear c13b0
      try clear p17
      try clear q17
      try clear hx17
      try clear hcz10_0
      try clear hcz10_1
      try clear hcz10_2
      try clear hcz10_3
      try clear hcz12_0
      try clear hcz12_1
      try clear hcz12_2
      try clear hcz12_3
      try clear hcz14_0
      try clear hcz14_1
      try clear hcz14_2
      try clear hcz14_3
      try clear hcz16_0
      try clear hcz16_1
      try clear hcz16_2
      try clear hcz16_3
      try clear hcz6_0
      try clear hcz6_1
      try clear hcz6_2
      try clear hcz6_3
      try clear hcz8_0
      try clear hcz8_1
      try clear hcz8_2
      try clear hcz8_3
      try clear hfz10_0
      try clear hfz10_1
      try clear hfz10_2
      try clear hfz10_3
      try clear hfz12_0
      try clear hfz12_1
      try clear hfz12_2
      try clear hfz12_3
      try clear hfz14_0
      try clear hfz14_1
      try clear hfz14_2
      try clear hfz14_3
      try clear hfz16_0
      try clear hfz16_1
      try clear hfz16_2
      try clear hfz16_3
      try clear hfz6_0
      try clear hfz6_1
      try clear hfz6_2
      try clear hfz6_3
      try clear hfz8_0
      try clear hfz8_1
      try clear hfz8_2
      try clear hfz8_3
      try clear hx173_0
      try clear hx173_1
      try clear hx173_2
      try clear hx173_3
      try clear p173
      try clear q173
      obtain ⟨kq, x39_3, rfl, HA, HJ3, BK174, HB⟩ := hcut
      cases kq with
      | zero => exact absurd HA.out (by simp [mainsheetref13_Right.j1])
      | succ kj3 =>
       have H := HA.out
       clear HA
       simp only [mainsheetref13_Right.j1] at H
       by_cases c18 : x39_3 = true
       ·subst c18
        have H1 : (some false) = some r := by rw [if_pos rfl] at H; exact H
        clear H
        have H := H1
        clear H1
        obtain rfl := Option.some.inj H
        go_wp2
        repeat (go_quiet (fail); try go_wp2)
        go_ret
        exact ⟨by first | rfl | (simp [errW_none, errW_some] <;> rfl) | (simp [*, errW_none, errW_some] <;> rfl), by repeat (first | (with_reducible first | exact HB.out | apply below_alloc | apply pw_below_drewN | apply below_drew1 | refine below_set ?_ GE174.out) | exact HB.out)⟩
       ·replace c18 := Bool.eq_false_iff.mpr c18
        subst c18
        have H1 : (mainsheetref13_Right.l1 kj3 l0 x3_1 0 ((rd_T36 l0 x3_1).f0) ((rd_T36 l0 x3_1).f1) ((rd_T36 l0 x3_1).f2.f0) ((rd_T36 l0 x3_1).f2.f1)) = some r := by rw [if_neg (show ¬ (false = true) by decide)] at H; exact H
        clear H
        have H := H1
        clear H1
        have H' := Aside0.mk H
        clear H
        go_wp2
        repeat (go_quiet (fail); try go_wp2)
        go_loopg [5] kj3 (fun kq v5 w' => ∃ (x5_3 : Int), v5 = .int .i64 x5_3 ∧ Aside0 (mainsheetref13_Right.l1 kq l0 x3_1 x5_3 ((rd_T36 l0 x3_1).f0) ((rd_T36 l0 x3_1).f1) ((rd_T36 l0 x3_1).f2.f0) ((rd_T36 l0 x3_1).f2.f1) = some r) ∧ Aside0 (kq ≤ kj3) ∧ Aside0 (w'.heap[gb174]? = some (.cells #[.int .i64 ((rd_T36 l0 x3_1).f0), .int .i64 ((rd_T36 l0 x3_1).f1), .int .u32 ((rd_T36 l0 x3_1).f2.f0), .int .u32 ((rd_T36 l0 x3_1).f2.f1)] 36 (0, 0))) ∧ Aside0 (Below w.heap.size w w'))
        case atStart => exact ⟨(0), (by first | rfl | (simp; done) | (simp [*]; done)), H', ⟨Nat.le_refl _⟩, ⟨by (with_reducible repeat (first | refine blk_drewN ?_ _ | refine blk_drew ?_ | refine blk_alloc ?_ _)); exact BK174.out⟩, ⟨by repeat (first | (with_reducible first | exact HB.out | apply below_alloc | apply pw_below_drewN | apply below_drew1 | refine below_set ?_ GE174.out) | exact HB.out)⟩⟩
        case round =>
         clear H'
         try clear c1
         try clear p1
         try clear q1
         try clear hx1
         try clear c2
         try clear c2b0
         try clear p2
         try clear c3
         try clear c3b0
         try clear c7
         try clear c7b0
         try clear c9
         try clear c9b0
         try clear c11
         try clear c11b0
         try clear c13
         try clear c13b0
         try clear p17
         try clear q17
         try clear hx17
         try clear c18
         try clear hcz10_0
         try clear hcz10_1
         try clear hcz10_2
         try clear hcz10_3
         try clear hcz12_0
         try clear hcz12_1
         try clear hcz12_2
         try clear hcz12_3
         try clear hcz14_0
         try clear hcz14_1
         try clear hcz14_2
         try clear hcz14_3
         try clear hcz16_0
         try clear hcz16_1
         try clear hcz16_2
         try clear hcz16_3
         try clear hcz6_0
         try clear hcz6_1
         try clear hcz6_2
         try clear hcz6_3
         try clear hcz8_0
         try clear hcz8_1
         try clear hcz8_2
         try clear hcz8_3
         try clear hfz10_0
         try clear hfz10_1
         try clear hfz10_2
         try clear hfz10_3
         try clear hfz12_0
         try clear hfz12_1
         try clear hfz12_2
         try clear hfz12_3
         try clear hfz14_0
         try clear hfz14_1
         try clear hfz14_2
         try clear hfz14_3
         try clear hfz16_0
         try clear hfz16_1
         try clear hfz16_2
         try clear hfz16_3
         try clear hfz6_0
         try clear hfz6_1
         try clear hfz6_2
         try clear hfz6_3
         try clear hfz8_0
         try clear hfz8_1
         try clear hfz8_2
         try clear hfz8_3
         try clear hx173_0
         try clear hx173_1
         try clear hx173_2
         try clear hx173_3
         try clear p1
         try clear p17
         try clear p173
         try clear p2
         try clear q1
         try clear q17
         try clear q173
         obtain ⟨x5_3, rfl, HA, HK3, BK174, HB⟩ := hrel
         cases gk with
         | zero => exact absurd HA.out (by simp [mainsheetref13_Right.l1])
         | succ k3 =>
          have H := HA.out
          clear HA
          simp only [mainsheetref13_Right.l1] at H
          by_cases c19 : x5_3 < x3_1
          ·rw [if_pos c19] at H
           have c19b0 : decide (x5_3 < x3_1) = true := decide_eq_true c19
           clear c19
           by_cases c20 : 0 ≤ x5_3
           ·rw [if_pos c20] at H
            have c20b0 : decide (0 ≤ x5_3) = true := decide_eq_true c20
            clear c20
            by_cases c21 : x5_3 < (l0.length : Int)
            ·rw [if_pos c21] at H
             have c21b0 : decide (x5_3 < (l0.length : Int)) = true := decide_eq_true c21
             clear c21
             by_cases c22 : ((rd_T36 l0 x5_3).f0) = ((rd_T36 l0 x3_1).f0)
             ·rw [if_pos c22] at H
              have c22b0 : (((rd_T36 l0 x5_3).f0) == ((rd_T36 l0 x3_1).f0)) = true := beq_iff_eq.mpr c22
              have c22b1 : (((rd_T36 l0 x5_3).f0) != ((rd_T36 l0 x3_1).f0)) = false := bne_eq_false_iff_eq.mpr c22
              clear c22
              obtain rfl := Option.some.inj H
              have p176 : 0 ≤ (x5_3 : Int) := of_decide_eq_true (by first | (with_reducible assumption) | assumption)
              have q176 : x5_3 < (l0.length : Int) := of_decide_eq_true (by first | (with_reducible assumption) | assumption)
              obtain ⟨ad176, e176, hx176_0, hx176_1, hx176_2, hx176_3⟩ := at_T36 HR0.out x5_3 p176 q176
              obtain rfl : ad173 = ad176 := (by injection e176)
              replace hx176_0 := (HB.out.cell (World.block_lt_of_cell? w _ hx176_0)).trans hx176_0
              replace hx176_1 := (HB.out.cell (World.block_lt_of_cell? w _ hx176_1)).trans hx176_1
              replace hx176_2 := (HB.out.cell (World.block_lt_of_cell? w _ hx176_2)).trans hx176_2
              replace hx176_3 := (HB.out.cell (World.block_lt_of_cell? w _ hx176_3)).trans hx176_3
              replace p176 := eq_true p176
              replace q176 := eq_true q176
              have hcz23_0 : wr.cell? ⟨gb174, 0, none⟩ = some (.int .i64 ((rd_T36 l0 x3_1).f0)) := (blk_cell BK174.out 0).trans rfl
              have hcz23_1 : wr.cell? ⟨gb174, 1, none⟩ = some (.int .i64 ((rd_T36 l0 x3_1).f1)) := (blk_cell BK174.out 1).trans rfl
              have hcz23_2 : wr.cell? ⟨gb174, 2, none⟩ = some (.int .u32 ((rd_T36 l0 x3_1).f2.f0)) := (blk_cell BK174.out 2).trans rfl
              have hcz23_3 : wr.cell? ⟨gb174, 3, none⟩ = some (.int .u32 ((rd_T36 l0 x3_1).f2.f1)) := (blk_cell BK174.out 3).trans rfl
              have hfz23_0 := blk_frozen BK174.out 0
              have hfz23_1 := blk_frozen BK174.out 1
              have hfz23_2 := blk_frozen BK174.out 2
              have hfz23_3 := blk_frozen BK174.out 3
              go_wp2
              repeat (go_quiet (fail); try go_wp2)
              go_ret
              exact ⟨by first | rfl | (simp [errW_none, errW_some] <;> rfl) | (simp [*, errW_none, errW_some] <;> rfl), by repeat (first | (with_reducible first | exact HB.out | apply below_alloc | apply pw_below_drewN | apply below_drew1 | refine below_set ?_ GE174.out) | exact HB.out)⟩
             ·rw [if_neg c22] at H
              have c22b0 : (((rd_T36 l0 x5_3).f0) == ((rd_T36 l0 x3_1).f0)) = false := beq_eq_false_iff_ne.mpr c22
              have c22b1 : (((rd_T36 l0 x5_3).f0) != ((rd_T36 l0 x3_1).f0)) = true := bne_iff_ne.mpr c22
              by_cases c24 : ((rd_T36 l0 x3_1).f1) ≥ 0
              ·rw [if_pos c24] at H
               have c24b0 : decide (0 ≤ ((rd_T36 l0 x3_1).f1)) = true := decide_eq_true c24
               clear c24
               by_cases c25 : ((rd_T36 l0 x5_3).f1) = ((rd_T36 l0 x3_1).f1)
               ·rw [if_pos c25] at H
                have c25b0 : (((rd_T36 l0 x5_3).f1) == ((rd_T36 l0 x3_1).f1)) = true := beq_iff_eq.mpr c25
                have c25b1 : (((rd_T36 l0 x5_3).f1) != ((rd_T36 l0 x3_1).f1)) = false := bne_eq_false_iff_eq.mpr c25
                clear c25
                obtain rfl := Option.some.inj H
                have p176 : 0 ≤ (x5_3 : Int) := of_decide_eq_true (by first | (with_reducible assumption) | assumption)
                have q176 : x5_3 < (l0.length : Int) := of_decide_eq_true (by first | (with_reducible assumption) | assumption)
                obtain ⟨ad176, e176, hx176_0, hx176_1, hx176_2, hx176_3⟩ := at_T36 HR0.out x5_3 p176 q176
                obtain rfl : ad173 = ad176 := (by injection e176)
                replace hx176_0 := (HB.out.cell (World.block_lt_of_cell? w _ hx176_0)).trans hx176_0
                replace hx176_1 := (HB.out.cell (World.block_lt_of_cell? w _ hx176_1)).trans hx176_1
                replace hx176_2 := (HB.out.cell (World.block_lt_of_cell? w _ hx176_2)).trans hx176_2
                replace hx176_3 := (HB.out.cell (World.block_lt_of_cell? w _ hx176_3)).trans hx176_3
                replace p176 := eq_true p176
                replace q176 := eq_true q176
                have hcz26_0 : wr.cell? ⟨gb174, 0, none⟩ = some (.int .i64 ((rd_T36 l0 x3_1).f0)) := (blk_cell BK174.out 0).trans rfl
                have hcz26_1 : wr.cell? ⟨gb174, 1, none⟩ = some (.int .i64 ((rd_T36 l0 x3_1).f1)) := (blk_cell BK174.out 1).trans rfl
                have hcz26_2 : wr.cell? ⟨gb174, 2, none⟩ = some (.int .u32 ((rd_T36 l0 x3_1).f2.f0)) := (blk_cell BK174.out 2).trans rfl
                have hcz26_3 : wr.cell? ⟨gb174, 3, none⟩ = some (.int .u32 ((rd_T36 l0 x3_1).f2.f1)) := (blk_cell BK174.out 3).trans rfl
                have hfz26_0 := blk_frozen BK174.out 0
                have hfz26_1 := blk_frozen BK174.out 1
                have hfz26_2 := blk_frozen BK174.out 2
                have hfz26_3 := blk_frozen BK174.out 3
                have p177 : 0 ≤ (x5_3 : Int) := of_decide_eq_true (by first | (with_reducible assumption) | assumption)
                have q177 : x5_3 < (l0.length : Int) := of_decide_eq_true (by first | (with_reducible assumption) | assumption)
                obtain ⟨ad177, e177, hx177_0, hx177_1, hx177_2, hx177_3⟩ := at_T36 HR0.out x5_3 p177 q177
                obtain rfl : ad173 = ad177 := (by injection e177)
                replace hx177_0 := (HB.out.cell (World.block_lt_of_cell? w _ hx177_0)).trans hx177_0
                replace hx177_1 := (HB.out.cell (World.block_lt_of_cell? w _ hx177_1)).trans hx177_1
                replace hx177_2 := (HB.out.cell (World.block_lt_of_cell? w _ hx177_2)).trans hx177_2
                replace hx177_3 := (HB.out.cell (World.block_lt_of_cell? w _ hx177_3)).trans hx177_3
                replace p177 := eq_true p177
                replace q177 := eq_true q177
                go_wp2
                repeat (go_quiet (fail); try go_wp2)
                go_ret
                exact ⟨by first | rfl | (simp [errW_none, errW_some] <;> rfl) | (simp [*, errW_none, errW_some] <;> rfl), by repeat (first | (with_reducible first | exact HB.out | apply below_alloc | apply pw_below_drewN | apply below_drew1 | refine below_set ?_ GE174.out) | exact HB.out)⟩
               ·rw [if_neg c25] at H
                have c25b0 : (((rd_T36 l0 x5_3).f1) == ((rd_T36 l0 x3_1).f1)) = false := beq_eq_false_iff_ne.mpr c25
                have c25b1 : (((rd_T36 l0 x5_3).f1) != ((rd_T36 l0 x3_1).f1)) = true := bne_iff_ne.mpr c25
                have H' := Aside0.mk H
                clear H
                have p176 : 0 ≤ (x5_3 : Int) := of_decide_eq_true (by first | (with_reducible assumption) | assumption)
                have q176 : x5_3 < (l0.length : Int) := of_decide_eq_true (by first | (with_reducible assumption) | assumption)
                obtain ⟨ad176, e176, hx176_0, hx176_1, hx176_2, hx176_3⟩ := at_T36 HR0.out x5_3 p176 q176
                obtain rfl : ad173 = ad176 := (by injection e176)
                replace hx176_0 := (HB.out.cell (World.block_lt_of_cell? w _ hx176_0)).trans hx176_0
                replace hx176_1 := (HB.out.cell (World.block_lt_of_cell? w _ hx176_1)).trans hx176_1
                replace hx176_2 := (HB.out.cell (World.block_lt_of_cell? w _ hx176_2)).trans hx176_2
                replace hx176_3 := (HB.out.cell (World.block_lt_of_cell? w _ hx176_3)).trans hx176_3
                replace p176 := eq_true p176
                replace q176 := eq_true q176
                have hcz27_0 : wr.cell? ⟨gb174, 0, none⟩ = some (.int .i64 ((rd_T36 l0 x3_1).f0)) := (blk_cell BK174.out 0).trans rfl
                have hcz27_1 : wr.cell? ⟨gb174, 1, none⟩ = some (.int .i64 ((rd_T36 l0 x3_1).f1)) := (blk_cell BK174.out 1).trans rfl
                have hcz27_2 : wr.cell? ⟨gb174, 2, none⟩ = some (.int .u32 ((rd_T36 l0 x3_1).f2.f0)) := (blk_cell BK174.out 2).trans rfl
                have hcz27_3 : wr.cell? ⟨gb174, 3, none⟩ = some (.int .u32 ((rd_T36 l0 x3_1).f2.f1)) := (blk_cell BK174.out 3).trans rfl
                have hfz27_0 := blk_frozen BK174.out 0
                have hfz27_1 := blk_frozen BK174.out 1
                have hfz27_2 := blk_frozen BK174.out 2
                have hfz27_3 := blk_frozen BK174.out 3
                have p177 : 0 ≤ (x5_3 : Int) := of_decide_eq_true (by first | (with_reducible assumption) | assumption)
                have q177 : x5_3 < (l0.length : Int) := of_decide_eq_true (by first | (with_reducible assumption) | assumption)
                obtain ⟨ad177, e177, hx177_0, hx177_1, hx177_2, hx177_3⟩ := at_T36 HR0.out x5_3 p177 q177
                obtain rfl : ad173 = ad177 := (by injection e177)
                replace hx177_0 := (HB.out.cell (World.block_lt_of_cell? w _ hx177_0)).trans hx177_0
                replace hx177_1 := (HB.out.cell (World.block_lt_of_cell? w _ hx177_1)).trans hx177_1
                replace hx177_2 := (HB.out.cell (World.block_lt_of_cell? w _ hx177_2)).trans hx177_2
                replace hx177_3 := (HB.out.cell (World.block_lt_of_cell? w _ hx177_3)).trans hx177_3
                replace p177 := eq_true p177
                replace q177 := eq_true q177
                go_wp2
                repeat (go_quiet (fail); try go_wp2)
                go_roundg k3
                case measure => have := HK1.out; have := HJ3.out; have := HK3.out; omega
                case rel => exact ⟨(wrap64 (x5_3 + 1)), (by first | rfl | (simp; done) | (simp [*]; done)), H', ⟨by have := HK1.out; have := HJ3.out; have := HK3.out; omega⟩, ⟨by (with_reducible repeat (first | refine blk_drewN ?_ _ | refine blk_drew ?_ | refine blk_alloc ?_ _)); exact BK174.out⟩, ⟨by repeat (first | (with_reducible first | exact HB.out | apply below_alloc | apply pw_below_drewN | apply below_drew1 | refine below_set ?_ GE174.out) | exact HB.out)⟩⟩
              ·rw [if_neg c24] at H
               have c24b0 : decide (0 ≤ ((rd_T36 l0 x3_1).f1)) = false := decide_eq_false c24
               clear c24
               have H' := Aside0.mk H
               clear H
               have p176 : 0 ≤ (x5_3 : Int) := of_decide_eq_true (by first | (with_reducible assumption) | assumption)
               have q176 : x5_3 < (l0.length : Int) := of_decide_eq_true (by first | (with_reducible assumption) | assumption)
               obtain ⟨ad176, e176, hx176_0, hx176_1, hx176_2, hx176_3⟩ := at_T36 HR0.out x5_3 p176 q176
               obtain rfl : ad173 = ad176 := (by injection e176)
               replace hx176_0 := (HB.out.cell (World.block_lt_of_cell? w _ hx176_0)).trans hx176_0
               replace hx176_1 := (HB.out.cell (World.block_lt_of_cell? w _ hx176_1)).trans hx176_1
               replace hx176_2 := (HB.out.cell (World.block_lt_of_cell? w _ hx176_2)).trans hx176_2
               replace hx176_3 := (HB.out.cell (World.block_lt_of_cell? w _ hx176_3)).trans hx176_3
               replace p176 := eq_true p176
               replace q176 := eq_true q176
               have hcz28_0 : wr.cell? ⟨gb174, 0, none⟩ = some (.int .i64 ((rd_T36 l0 x3_1).f0)) := (blk_cell BK174.out 0).trans rfl
               have hcz28_1 : wr.cell? ⟨gb174, 1, none⟩ = some (.int .i64 ((rd_T36 l0 x3_1).f1)) := (blk_cell BK174.out 1).trans rfl
               have hcz28_2 : wr.cell? ⟨gb174, 2, none⟩ = some (.int .u32 ((rd_T36 l0 x3_1).f2.f0)) := (blk_cell BK174.out 2).trans rfl
               have hcz28_3 : wr.cell? ⟨gb174, 3, none⟩ = some (.int .u32 ((rd_T36 l0 x3_1).f2.f1)) := (blk_cell BK174.out 3).trans rfl
               have hfz28_0 := blk_frozen BK174.out 0
               have hfz28_1 := blk_frozen BK174.out 1
               have hfz28_2 := blk_frozen BK174.out 2
               have hfz28_3 := blk_frozen BK174.out 3
               go_wp2
               repeat (go_quiet (fail); try go_wp2)
               go_roundg k3
               case measure => have := HK1.out; have := HJ3.out; have := HK3.out; omega
               case rel => exact ⟨(wrap64 (x5_3 + 1)), (by first | rfl | (simp; done) | (simp [*]; done)), H', ⟨by have := HK1.out; have := HJ3.out; have := HK3.out; omega⟩, ⟨by (with_reducible repeat (first | refine blk_drewN ?_ _ | refine blk_drew ?_ | refine blk_alloc ?_ _)); exact BK174.out⟩, ⟨by repeat (first | (with_reducible first | exact HB.out | apply below_alloc | apply pw_below_drewN | apply below_drew1 | refine below_set ?_ GE174.out) | exact HB.out)⟩⟩
            ·rw [if_neg c21] at H
             exact absurd H (by simp)
           ·rw [if_neg c20] at H
            exact absurd H (by simp)
          ·rw [if_neg c19] at H
           have c19b0 : decide (x5_3 < x3_1) = false := decide_eq_false c19
           clear c19
           have H' := Aside0.mk H
           clear H
           go_wp2
           repeat (go_quiet (fail); try go_wp2)
           go_roundg k3
           case measure => have := HK1.out; have := HJ3.out; have := HK3.out; omega
           case rel => exact ⟨(wrap64 (x3_1 + 1)), (by first | rfl | (simp; done) | (simp [*]; done)), H', ⟨by have := HK1.out; have := HJ3.out; have := HK3.out; omega⟩, ⟨by repeat (first | (with_reducible first | exact HB.out | apply below_alloc | apply pw_below_drewN | apply below_drew1 | refine below_set ?_ GE174.out) | exact HB.out)⟩⟩
    ·rw [if_neg c3] at H
     exact absurd H (by simp)
   ·rw [if_neg c2] at H
    have c2b0 : decide (x3_1 < (l0.length : Int)) = false := decide_eq_false c2
    clear c2
    obtain rfl := Option.some.inj H
    go_wp2
    repeat (go_quiet (fail); try go_wp2)
    go_ret
    exact ⟨by first | rfl | (simp [errW_none, errW_some] <;> rfl) | (simp [*, errW_none, errW_some] <;> rfl), by repeat (first | (with_reducible first | exact HB.out | apply below_alloc | apply pw_below_drewN | apply below_drew1) | exact HB.out)⟩

end Go.Proofs.YtdmieaidheelbaaDoor.Q
end
/- QRc -/
section
namespace Go.Proofs.YtdmieaidheelbaaDoor.Q
open Go.RowKit Go.Proofs.YtdmieaidheelbaaDoorW.PrintWords Go.Proofs.YtdmieaidheelbaaDoorW.PrintLast Go.Proofs.YtdmieaidheelbaaDoorW.PrintMore
attribute [local go_sem] max2_int min2_int max_two min_two max_three min_three max_four min_four
set_option linter.unusedVariables false
set_option linter.unusedSimpArgs false

attribute [local go_sem high] eqA31

end Go.Proofs.YtdmieaidheelbaaDoor.Q
end
/- Ref13 -/
section
/- What the document's functions of layers 4 and 7 answer: plain Lean. -/
namespace Go.Proofs.YtdmieaidheelbaaDoor.Q
open Go Go.RowKit Go.Proofs.YtdmieaidheelbaaDoorW.PrintWords Go.Proofs.YtdmieaidheelbaaDoorW.PrintLast Go.Proofs.YtdmieaidheelbaaDoorW.PrintMore
set_option linter.unusedVariables false
set_option linter.unusedSimpArgs false

theorem RRight_val (s : Int) : mainsheetref04_Right.f s = some (decide (s < 256)) := rfl
theorem MRight_val (h s : Nat) : mainsheetref07_Right.f (h : Int) (s : Int) = some (maskOk h s) := by
  have e1 : decide ((h : Int) < 256) = decide (h < 256) := decide_eq_decide.2 (by omega)
  have e2 : decide ((s : Int) < 256) = decide (s < 256) := decide_eq_decide.2 (by omega)
  have e3 : decide ((h : Int) > 0) = decide (h ≠ 0) := decide_eq_decide.2 (by omega)
  unfold mainsheetref07_Right.f maskOk
  rw [RRight_val, RRight_val, e1, e2, e3]
  simp only [Option.bind_some]
  cases decide (h < 256) <;> cases decide (s < 256) <;> rfl
theorem MAllows_val (h s p : Nat) (hh : h < 4294967296) (hp : p < 4294967296) : mainsheetref07_Allows.f (h : Int) (s : Int) (p : Int) = some ((h &&& p : Nat) : Int) := by
  unfold mainsheetref07_Allows.f; rw [and_nat h p hh hp]
theorem RHas_val (s : Nat) (hs : s < 4294967296) (c : Int) : mainsheetref04_Has.f (s : Int) c = some (hasN s c) := by
  unfold mainsheetref04_Has.f mainsheetref04_Cpu.f hasN
  by_cases h0 : c ≥ 0
  · rw [if_pos h0]; simp only [Option.bind_some]
    by_cases h8 : c < 8
    · obtain ⟨n, rfl⟩ : ∃ n : Nat, c = n := ⟨c.toNat, by omega⟩
      have hn : n < 8 := by omega
      rw [if_pos (by simpa using h8), if_pos h0]
      have e : shr .u32 (s : Int) (n : Int) = ((s / 2 ^ n : Nat) : Int) := by
        unfold shr
        rw [Nat.min_eq_left (by show n ≤ 32; omega), Int.toNat_natCast]
        rw [Int.natCast_ediv]; simp
      rw [e, Int.toNat_natCast]
      have e2 : (((s / 2 ^ n : Nat) : Int)).tmod 2 = ((s / 2 ^ n % 2 : Nat) : Int) := by
        rw [Int.tmod_eq_emod_of_nonneg (Int.natCast_nonneg _)]; omega
      rw [e2]
      have e3 : s.testBit n = decide (s / 2 ^ n % 2 = 1) := by rw [Nat.testBit_eq_decide_div_mod_eq]
      rw [e3]
      have h3 : (n : Int) < 8 := h8
      by_cases hb : s / 2 ^ n % 2 = 1
      · simp [hb, h3]
      · have : s / 2 ^ n % 2 = 0 := by omega
        simp [this]
    · rw [if_neg (by simpa using h8)]; simp [h8]
  · rw [if_neg h0]; simp only [Option.bind_some]
    rw [if_neg (by simp)]; have : ¬ (0 ≤ c) := by omega
    simp [this]

theorem same_loop (a b : List Int) (hl : a.length = b.length) (hb : a.length ≤ 1000000) (d : Nat) : ∀ (k i : Nat), i ≤ a.length → a.length - i = d → d < k →
    mainsheetref04_SameInts.l0 k a b (a.length : Int) (i : Int) = some (decide (a.drop i = b.drop i)) := by
  induction d with
  | zero =>
    intro k i hi hd hk
    obtain ⟨k, rfl⟩ : ∃ m, k = m + 1 := ⟨k - 1, by omega⟩
    simp only [mainsheetref04_SameInts.l0]; rw [if_neg (by omega), List.drop_eq_nil_of_le (by omega), List.drop_eq_nil_of_le (by omega)]; simp
  | succ d ih =>
    intro k i hi hd hk
    obtain ⟨k, rfl⟩ : ∃ m, k = m + 1 := ⟨k - 1, by omega⟩
    have hlt : i < a.length := by omega
    have e : rd a (i : Int) = a[i] := by simp [rd, hlt]
    have e2 : rd b (i : Int) = b[i]'(by omega) := by simp [rd, show i < b.length by omega]
    simp only [mainsheetref04_SameInts.l0]
    have da := List.drop_eq_getElem_cons hlt
    have db := List.drop_eq_getElem_cons (show i < b.length by omega)
    rw [if_pos (by omega), if_pos (by omega), if_pos (by omega), if_pos (by omega), e, e2, da, db]
    by_cases hc : a[i] = b[i]'(by omega)
    · rw [if_pos hc, wrap_small _ (by omega) (by omega), show (i : Int) + 1 = ((i + 1 : Nat) : Int) by omega, ih k (i + 1) (by omega) (by omega) (by omega), hc]
      exact congrArg some (decide_eq_decide.2 ⟨fun h => by rw [h], fun h => (List.cons.inj h).2⟩)
    · rw [if_neg hc]
      refine congrArg some ?_
      symm
      rw [decide_eq_false_iff_not]
      exact fun h => hc (List.cons.inj h).1
theorem Same_val (a b : List Int) (hb : a.length ≤ 1000000) (k : Nat) (hk : a.length < k) : mainsheetref04_SameInts.f k a b = some (decide (a = b)) := by
  unfold mainsheetref04_SameInts.f
  by_cases hl : a.length = b.length
  · rw [if_pos (by omega), show (0 : Int) = ((0 : Nat) : Int) from rfl, same_loop a b hl hb a.length k 0 (by omega) (by omega) (by omega)]
    simp
  · rw [if_neg (by omega)]
    congr 1
    symm
    rw [decide_eq_false_iff_not]
    intro h; subst h; exact hl rfl
end Go.Proofs.YtdmieaidheelbaaDoor.Q
/- What the document's functions of layer 13 answer: plain Lean. -/
namespace Go.Proofs.YtdmieaidheelbaaDoor.Q
open Go Go.RowKit Go.Proofs.YtdmieaidheelbaaDoorW.PrintWords Go.Proofs.YtdmieaidheelbaaDoorW.PrintLast Go.Proofs.YtdmieaidheelbaaDoorW.PrintMore
set_option linter.unusedVariables false
set_option linter.unusedSimpArgs false

def clash (x y : S36) : Bool := decide (y.f0 = x.f0) || (decide (0 ≤ x.f1) && decide (y.f1 = x.f1))
def rangeBad (x : S36) : Bool := decide (x.f0 < 1) || decide (16 < x.f0) || decide (x.f1 < -1) || decide (7 < x.f1) || !okM x.f2
def goodFrom (pre : List S36) : List S36 → Bool
  | [] => true
  | x :: l => !rangeBad x && !pre.any (clash x) && goodFrom (pre ++ [x]) l
theorem rd36_get (l : List S36) (i : Nat) (hi : i < l.length) : rd_T36 l (i : Int) = l[i] := by simp [rd_T36, hi]

theorem right13_l1 (l : List S36) (i : Nat) (x : S36) (hi : i ≤ l.length) (hl : l.length ≤ 1000000) (c d : Int) (r : Bool) (K : Nat) (hnext : ∀ k, K ≤ k → mainsheetref13_Right.l0 k l ((i + 1 : Nat) : Int) = some r) (n : Nat) : ∀ (k j : Nat), j ≤ i → i - j = n → K + n + 1 ≤ k →
    mainsheetref13_Right.l1 k l (i : Int) (j : Int) x.f0 x.f1 c d = some (if ((l.take i).drop j).any (clash x) then false else r) := by
  induction n with
  | zero =>
    intro k j hj hn hk
    obtain ⟨k, rfl⟩ : ∃ m, k = m + 1 := ⟨k - 1, by omega⟩
    rw [mainsheetref13_Right.l1, if_neg (by omega), wrap_small _ (by omega) (by omega), show (i : Int) + 1 = ((i + 1 : Nat) : Int) by omega, hnext k (by omega)]
    rw [List.drop_eq_nil_of_le (by rw [List.length_take]; omega)]
    rfl
  | succ n ih =>
    intro k j hj hn hk
    obtain ⟨k, rfl⟩ : ∃ m, k = m + 1 := ⟨k - 1, by omega⟩
    have hjl : j < l.length := by omega
    have hd : (l.take i).drop j = l[j] :: (l.take i).drop (j + 1) := by
      rw [List.drop_eq_getElem_cons (by rw [List.length_take]; omega)]
      simp
    rw [mainsheetref13_Right.l1, if_pos (by omega), if_pos (by omega), if_pos (by omega), rd36_get l j hjl, wrap_small _ (by omega) (by omega), show (j : Int) + 1 = ((j + 1 : Nat) : Int) by omega, hd, List.any_cons]
    unfold clash
    by_cases h1 : l[j].f0 = x.f0
    · rw [if_pos h1]; simp [h1]
    · rw [if_neg h1]
      by_cases h2 : x.f1 ≥ 0
      · rw [if_pos h2]
        by_cases h3 : l[j].f1 = x.f1
        · rw [if_pos h3]; simp [h3, h2]
        · rw [if_neg h3, ih k (j + 1) (by omega) (by omega) (by omega)]
          simp [h1, h3, clash]
      · rw [if_neg h2, ih k (j + 1) (by omega) (by omega) (by omega)]
        have : ¬ (0 ≤ x.f1) := h2
        simp [h1, this, clash]
theorem right13_j1 (l : List S36) (i : Nat) (x : S36) (b : Bool) (hi : i ≤ l.length) (hl : l.length ≤ 1000000) (c d : Int) (r : Bool) (K : Nat) (hnext : ∀ k, K ≤ k → mainsheetref13_Right.l0 k l ((i + 1 : Nat) : Int) = some r) (k : Nat) (hk : K + i + 2 ≤ k) :
    mainsheetref13_Right.j1 k l (i : Int) b x.f0 x.f1 c d = some (if b || (l.take i).any (clash x) then false else r) := by
  obtain ⟨k, rfl⟩ : ∃ m, k = m + 1 := ⟨k - 1, by omega⟩
  rw [mainsheetref13_Right.j1]
  cases b with
  | true => rw [if_pos rfl]; simp
  | false =>
    rw [if_neg (by simp), show (0 : Int) = ((0 : Nat) : Int) from rfl, right13_l1 l i x hi hl c d r K hnext i k 0 (by omega) (by omega) (by omega)]
    simp
theorem right13_l0 (l : List S36) (hl : l.length ≤ 1000000) (hwf : ∀ x ∈ l, Wf36 x) (n : Nat) : ∀ (i : Nat), i ≤ l.length → l.length - i = n → ∃ K, ∀ k, K ≤ k → mainsheetref13_Right.l0 k l (i : Int) = some (goodFrom (l.take i) (l.drop i)) := by
  induction n with
  | zero =>
    intro i hi hn
    refine ⟨1, fun k hk => ?_⟩
    obtain ⟨k, rfl⟩ : ∃ m, k = m + 1 := ⟨k - 1, by omega⟩
    rw [mainsheetref13_Right.l0, if_neg (by omega), List.drop_eq_nil_of_le (by omega)]
    rfl
  | succ n ih =>
    intro i hi hn
    obtain ⟨K, hK⟩ := ih (i + 1) (by omega) (by omega)
    refine ⟨K + i + 3, fun k hk => ?_⟩
    obtain ⟨k, rfl⟩ : ∃ m, k = m + 1 := ⟨k - 1, by omega⟩
    have hil : i < l.length := by omega
    obtain ⟨w1, w2, w3, w4⟩ := hwf l[i] (List.getElem_mem hil)
    have hj := fun b => right13_j1 l i l[i] b hi hl l[i].f2.f0 l[i].f2.f1 _ K hK k (by omega)
    have hm : mainsheetref07_Right.f l[i].f2.f0 l[i].f2.f1 = some (okM l[i].f2) := by
      have := MRight_val l[i].f2.f0.toNat l[i].f2.f1.toNat
      rw [show ((l[i].f2.f0.toNat : Nat) : Int) = l[i].f2.f0 by omega, show ((l[i].f2.f1.toNat : Nat) : Int) = l[i].f2.f1 by omega] at this
      exact this
    rw [mainsheetref13_Right.l0, if_pos (by omega), if_pos (by omega), rd36_get l i hil, hm, Option.bind_some, hj, hj, List.drop_eq_getElem_cons hil, goodFrom, ← List.take_succ_eq_append_getElem hil]
    unfold rangeBad
    by_cases c1 : l[i].f0 < 1
    · rw [if_pos c1]; simp [c1]
    · rw [if_neg c1]
      by_cases c2 : l[i].f0 > 16
      · rw [if_pos c2]; simp [c2]
      · rw [if_neg c2]
        by_cases c3 : l[i].f1 < -1
        · rw [if_pos c3]; simp [c3]
        · rw [if_neg c3]
          by_cases c4 : l[i].f1 > 7
          · rw [if_pos c4]; simp [c4]
          · rw [if_neg c4]
            have d2 : ¬ (16 < l[i].f0) := c2
            have d4 : ¬ (7 < l[i].f1) := c4
            simp only [c1, d2, c3, d4, decide_false, Bool.false_or]
            cases okM l[i].f2 <;> cases (l.take i).any (clash l[i]) <;> simp

def Marks (pre : List S36) (ms ts : List Bool) : Prop := ms.length = 17 ∧ ts.length = 8 ∧ (∀ v : Nat, v ≤ 16 → ms.getD v false = pre.any fun y => decide (y.f0 = v)) ∧ ∀ c : Nat, c < 8 → ts.getD c false = pre.any fun y => decide (y.f1 = c)
theorem any_snoc {α : Type} (p : α → Bool) (l : List α) (x : α) : (l ++ [x]).any p = (l.any p || p x) := by simp
theorem set_getD (l : List Bool) (i j : Nat) (hi : i < l.length) : (l.set i true).getD j false = (l.getD j false || decide (i = j)) := by
  rw [List.getD_eq_getElem?_getD, List.getD_eq_getElem?_getD, List.getElem?_set]
  by_cases h : i = j
  · subst h; rw [if_pos rfl, if_pos hi]; simp
  · rw [if_neg h]; simp [h]
theorem check_good (l : List S36) : ∀ (pre : List S36) (ms ts : List Bool), Marks pre ms ts → (checkFrom ms ts l = 0 ↔ goodFrom pre l = true) := by
  induction l with
  | nil => intro pre ms ts _; simp [checkFrom, goodFrom]
  | cons x l ih =>
    intro pre ms ts ⟨h1, h2, h3, h4⟩
    unfold checkFrom goodFrom
    have hb : badWish ms ts x = (rangeBad x || pre.any (clash x)) := by
      unfold badWish rangeBad
      by_cases c1 : x.f0 < 1
      · simp [c1]
      · by_cases c2 : 16 < x.f0
        · simp [c2]
        · by_cases c3 : x.f1 < -1
          · simp [c3]
          · by_cases c4 : 8 ≤ x.f1
            · have : 7 < x.f1 := by omega
              simp [c4, this]
            · have c4' : ¬ (7 < x.f1) := by omega
              have e3 := h3 x.f0.toNat (by omega)
              have hp : pre.any (clash x) = ((pre.any fun y => decide (y.f0 = x.f0)) || (decide (0 ≤ x.f1) && pre.any fun y => decide (y.f1 = x.f1))) := by
                clear ih h3 h4 e3
                induction pre with
                | nil => simp
                | cons y pre ihp =>
                  simp only [List.any_cons, ihp, clash]
                  cases decide (y.f0 = x.f0) <;> cases decide (0 ≤ x.f1) <;> cases decide (y.f1 = x.f1) <;> simp
              rw [show ((x.f0.toNat : Nat) : Int) = x.f0 by omega] at e3
              rw [hp, ← e3]
              simp only [c1, c2, c3, c4, c4', decide_false, Bool.false_or, Bool.or_false]
              by_cases c5 : 0 ≤ x.f1
              · have e4 := h4 x.f1.toNat (by omega)
                rw [show ((x.f1.toNat : Nat) : Int) = x.f1 by omega] at e4
                have c6 : -1 < x.f1 := by omega
                rw [← e4]
                simp only [c5, c6, decide_true, Bool.true_and]
                cases ms.getD x.f0.toNat false <;> cases okM x.f2 <;> cases ts.getD x.f1.toNat false <;> rfl
              · have c6 : ¬ (-1 < x.f1) := by omega
                simp only [c5, c6, decide_false, Bool.false_and, Bool.or_false]
                cases ms.getD x.f0.toNat false <;> cases okM x.f2 <;> rfl
    rw [hb]
    by_cases hg : (rangeBad x || pre.any (clash x)) = true
    · rw [if_pos hg]
      rw [Bool.or_eq_true] at hg
      rcases hg with hg | hg <;> simp [hg]
    · rw [if_neg hg]
      have hg' : rangeBad x = false ∧ pre.any (clash x) = false := by simpa using hg
      rw [hg'.1, hg'.2]
      simp only [Bool.not_false, Bool.true_and]
      have hr := hg'.1
      unfold rangeBad at hr
      simp only [Bool.or_eq_false_iff, decide_eq_false_iff_not] at hr
      obtain ⟨⟨⟨⟨r1, r2⟩, r3⟩, r4⟩, _⟩ := hr
      refine ih (pre ++ [x]) _ _ ⟨by simpa using h1, by split <;> simpa using h2, fun v hv => ?_, fun c hc => ?_⟩
      · rw [set_getD _ _ _ (by omega), h3 v hv, any_snoc]
        congr 1
        exact decide_eq_decide.2 (by omega)
      · rw [any_snoc, ← h4 c hc]
        split
        · rw [set_getD _ _ _ (by omega)]
          congr 1
          exact decide_eq_decide.2 (by omega)
        · have : decide (x.f1 = (c : Int)) = false := decide_eq_false (by omega)
          rw [this, Bool.or_false]
theorem marks_nil : Marks [] (List.replicate 17 false) (List.replicate 8 false) := by
  refine ⟨by simp, by simp, fun v hv => ?_, fun c hc => ?_⟩
  · rw [List.getD_eq_getElem?_getD, List.getElem?_replicate, if_pos (by omega)]; rfl
  · rw [List.getD_eq_getElem?_getD, List.getElem?_replicate, if_pos (by omega)]; rfl
def placeOk (l : List S36) : Int := checkFrom (List.replicate 17 false) (List.replicate 8 false) l
theorem check_cases (l : List S36) : ∀ ms ts, checkFrom ms ts l = 0 ∨ checkFrom ms ts l = 230 := by
  induction l with
  | nil => intro ms ts; exact .inl rfl
  | cons x l ih =>
    intro ms ts
    unfold checkFrom
    split
    · exact .inr rfl
    · exact ih _ _
theorem Right13_val (l : List S36) (hl : l.length ≤ 1000000) (hwf : ∀ x ∈ l, Wf36 x) : ∃ K, ∀ k, K ≤ k → mainsheetref13_Right.f k l = some (decide (placeOk l = 0)) := by
  obtain ⟨K, hK⟩ := right13_l0 l hl hwf l.length 0 (by omega) (by omega)
  refine ⟨K, fun k hk => ?_⟩
  have h := hK k hk
  have e : goodFrom (l.take 0) (l.drop 0) = decide (placeOk l = 0) := by
    have := check_good l [] _ _ marks_nil
    simp only [List.take_zero, List.drop_zero]
    unfold placeOk
    by_cases hg : goodFrom [] l = true
    · rw [hg, decide_eq_true (this.2 hg)]
    · rw [Bool.eq_false_iff.2 hg, decide_eq_false (fun hc => hg (this.1 hc))]
  rw [e] at h
  exact h
theorem places_ok (l : List S36) : ∀ (ms ts : List Bool), checkFrom ms ts l = 0 → ∀ x ∈ l, okM x.f2 = true := by
  induction l with
  | nil => intro ms ts _ x hx; simp at hx
  | cons y l ih =>
    intro ms ts h x hx
    unfold checkFrom at h
    split at h
    · cases h
    · next hb =>
      rcases List.mem_cons.1 hx with rfl | hx
      · cases ho : okM x.f2 with
        | true => rfl
        | false => exact absurd (bad6 (f0 := x.f0) (f1 := x.f1) (ms := ms) (ts := ts) ho) hb
      · exact ih _ _ h x hx
end Go.Proofs.YtdmieaidheelbaaDoor.Q
end
/- QFref19has -/
section
namespace Go.Proofs.YtdmieaidheelbaaDoor.Q
open Go.RowKit Go.Proofs.YtdmieaidheelbaaDoorW.PrintWords Go.Proofs.YtdmieaidheelbaaDoorW.PrintLast Go.Proofs.YtdmieaidheelbaaDoorW.PrintMore
attribute [local go_sem] max2_int min2_int max_two min_two max_three min_three max_four min_four
set_option linter.unusedVariables false
set_option linter.unusedSimpArgs false

def mainsheetref19_has.l0 : Nat → List Int → Int → Int → Option (Bool)
 | 0, _, _, _ => none
 | k + 1, x0, x1, x5 => if x5 < (x0.length : Int) then (if 0 ≤ x5 then (if (rd x0 x5) = x1 then (some true) else (mainsheetref19_has.l0 k x0 x1 (wrap64 (x5 + 1)))) else (none)) else (some false)
def mainsheetref19_has.f (k : Nat) (l0 : List Int) (a1 : Int) : Option (Bool) := mainsheetref19_has.l0 k l0 a1 0
set_option maxHeartbeats 8000000 in
set_option maxRecDepth 100000 in
theorem mainsheetref19_has.calls (k : Nat) (A0 : Option Addr) (c0 : Nat) (l0 : List Int) (a1 : Int) (r : Bool) (w : World) (hr0 : Kd.C (Kd.int .i64) w A0 l0.length l0) (hc0 : l0.length ≤ c0) (h : mainsheetref19_has.f k l0 a1 = some r) :
  Calls Tryd.prog 83 #[.slice A0 l0.length c0, .int .i64 a1] w fun e w' => e = .returned (.bool r) ∧ Drawn0 w w' := by
 have HR0 := Aside0.mk hr0
 have HC0 := Aside0.mk hc0
 clear hr0 hc0
 have H : (mainsheetref19_has.l0 k l0 a1 0) = some r := h
 clear h
 have H' := Aside0.mk H
 clear H
 go_enter Tryd.func83, Tryd.ntmps83
 go_wp2
 go_loopg [5] k (fun kq v5 w' => ∃ (x5_1 : Int), v5 = .int .i64 x5_1 ∧ Aside0 (mainsheetref19_has.l0 kq l0 a1 x5_1 = some r) ∧ Aside0 (kq ≤ k) ∧ Drawn0 w w')
 case atStart => exact ⟨(0), (by first | rfl | (simp; done) | (simp [*]; done)), H', ⟨Nat.le_refl _⟩, by repeat (first | exact Drawn0.refl _ | apply Drawn0.step)⟩
 case round =>
  clear H'
  try clear p2
  obtain ⟨x5_1, rfl, HA, HK1, ⟨m1, rfl⟩⟩ := hrel
  cases gk with
  | zero => exact absurd HA.out (by simp [mainsheetref19_has.l0])
  | succ k1 =>
   have H := HA.out
   clear HA
   simp only [mainsheetref19_has.l0] at H
   by_cases c3 : x5_1 < (l0.length : Int)
   ·rw [if_pos c3] at H
    have c3b0 : decide (x5_1 < (l0.length : Int)) = true := decide_eq_true c3
    clear c3
    by_cases c4 : 0 ≤ x5_1
    ·rw [if_pos c4] at H
     have c4b0 : decide (0 ≤ x5_1) = true := decide_eq_true c4
     clear c4
     by_cases c5 : (rd l0 x5_1) = a1
     ·rw [if_pos c5] at H
      have c5b0 : ((rd l0 x5_1) == a1) = true := beq_iff_eq.mpr c5
      have c5b1 : ((rd l0 x5_1) != a1) = false := bne_eq_false_iff_eq.mpr c5
      clear c5
      obtain rfl := Option.some.inj H
      have p419 : 0 ≤ (x5_1 : Int) := of_decide_eq_true (by first | (with_reducible assumption) | assumption)
      have q419 : x5_1 < (l0.length : Int) := of_decide_eq_true (by first | (with_reducible assumption) | assumption)
      obtain ⟨ad419, e419, hx419_0⟩ := Kd.at_int HR0.out x5_1 p419 q419
      cases e419
      replace p419 := eq_true p419
      replace q419 := eq_true q419
      go_wp2
      go_ret
      exact ⟨by first | rfl | (simp; done) | (simp [*]; done), by repeat (first | exact Drawn0.refl _ | apply Drawn0.step)⟩
     ·rw [if_neg c5] at H
      have c5b0 : ((rd l0 x5_1) == a1) = false := beq_eq_false_iff_ne.mpr c5
      have c5b1 : ((rd l0 x5_1) != a1) = true := bne_iff_ne.mpr c5
      have H' := Aside0.mk H
      clear H
      have p419 : 0 ≤ (x5_1 : Int) := of_decide_eq_true (by first | (with_reducible assumption) | assumption)
      have q419 : x5_1 < (l0.length : Int) := of_decide_eq_true (by first | (with_reducible assumption) | assumption)
      obtain ⟨ad419, e419, hx419_0⟩ := Kd.at_int HR0.out x5_1 p419 q419
      cases e419
      replace p419 := eq_true p419
      replace q419 := eq_true q419
      go_wp2
      go_roundg k1
      case measure => have := HK1.out; omega
      case rel => exact ⟨(wrap64 (x5_1 + 1)), (by first | rfl | (simp; done) | (simp [*]; done)), H', ⟨by have := HK1.out; omega⟩, by repeat (first | exact Drawn0.refl _ | apply Drawn0.step)⟩
    ·rw [if_neg c4] at H
     exact absurd H (by simp)
   ·rw [if_neg c3] at H
    have c3b0 : decide (x5_1 < (l0.length : Int)) = false := decide_eq_false c3
    clear c3
    obtain rfl := Option.some.inj H
    go_wp2
    go_ret
    exact ⟨by first | rfl | (simp; done) | (simp [*]; done), by repeat (first | exact Drawn0.refl _ | apply Drawn0.step)⟩

end Go.Proofs.YtdmieaidheelbaaDoor.Q
end
/- QFref19Choices -/
section
namespace Go.Proofs.YtdmieaidheelbaaDoor.Q
open Go.RowKit Go.Proofs.YtdmieaidheelbaaDoorW.PrintWords Go.Proofs.YtdmieaidheelbaaDoorW.PrintLast Go.Proofs.YtdmieaidheelbaaDoorW.PrintMore
attribute [local go_sem] max2_int min2_int max_two min_two max_three min_three max_four min_four
set_option linter.unusedVariables false
set_option linter.unusedSimpArgs false


end Go.Proofs.YtdmieaidheelbaaDoor.Q
end
/- QFlaw19wakes -/
section
namespace Go.Proofs.YtdmieaidheelbaaDoor.Q
open Go.RowKit Go.Proofs.YtdmieaidheelbaaDoorW.PrintWords Go.Proofs.YtdmieaidheelbaaDoorW.PrintLast Go.Proofs.YtdmieaidheelbaaDoorW.PrintMore
attribute [local go_sem] max2_int min2_int max_two min_two max_three min_three max_four min_four
set_option linter.unusedVariables false
set_option linter.unusedSimpArgs false

attribute [local go_sem high] eqA31
def mainsheetlaw19_wakes.f  : Option (Bool) := (pick_Pick.f (([(⟨(([3] : List Int)), (⟨(⟨0, 0⟩ : S86), 0⟩ : S88), 0, false⟩ : S90), (⟨(([1, 2] : List Int)), (⟨(⟨0, 0⟩ : S86), 0⟩ : S88), 0, false⟩ : S90), (⟨(([4] : List Int)), (⟨(⟨0, 0⟩ : S86), 0⟩ : S88), 0, false⟩ : S90)] : List (S90))) (([(⟨1, (-1), (⟨3, 0⟩ : S34)⟩ : S36), (⟨2, (-1), (⟨3, 0⟩ : S34)⟩ : S36), (⟨3, 1, (⟨3, 0⟩ : S34)⟩ : S36), (⟨4, (-1), (⟨3, 0⟩ : S34)⟩ : S36)] : List (S36))) 3).bind fun bt337 => (if bt337.2.2 = 0 then (if (bt337.1.length : Int) = 2 then (if 0 < (bt337.1.length : Int) then (if (((rd_T31 bt337.1 0).f0) == 3 && (((rd_T31 bt337.1 0).f1) == 1)) = true then (if 1 < (bt337.1.length : Int) then (if (((rd_T31 bt337.1 1).f0) == 4 && (((rd_T31 bt337.1 1).f1) == 0)) = true then (some ((bt337.2.1.length : Int) == 2)) else (some false)) else (none)) else (some false)) else (none)) else (some false)) else (some false))
set_option maxHeartbeats 8000000 in
set_option maxRecDepth 100000 in
theorem mainsheetlaw19_wakes.calls  (r : Bool) (w : World) (hT : TabW w) (h : mainsheetlaw19_wakes.f  = some r) :
  Calls Tryd.prog 18 #[] w fun e w' => e = .returned (.bool r) ∧ Below w.heap.size w w' := by
 have HT := Aside0.mk hT
 clear hT
 have hu34 := Tryd.underlying34
 have hu90 := Tryd.underlying90
 have hu36 := Tryd.underlying36
 have hu31 := Tryd.underlying31
 have HB := Aside0.mk (Below.refl w.heap.size w)
 have H : ((pick_Pick.f (([(⟨(([3] : List Int)), (⟨(⟨0, 0⟩ : S86), 0⟩ : S88), 0, false⟩ : S90), (⟨(([1, 2] : List Int)), (⟨(⟨0, 0⟩ : S86), 0⟩ : S88), 0, false⟩ : S90), (⟨(([4] : List Int)), (⟨(⟨0, 0⟩ : S86), 0⟩ : S88), 0, false⟩ : S90)] : List (S90))) (([(⟨1, (-1), (⟨3, 0⟩ : S34)⟩ : S36), (⟨2, (-1), (⟨3, 0⟩ : S34)⟩ : S36), (⟨3, 1, (⟨3, 0⟩ : S34)⟩ : S36), (⟨4, (-1), (⟨3, 0⟩ : S34)⟩ : S36)] : List (S36))) 3).bind fun bt337 => (if bt337.2.2 = 0 then (if (bt337.1.length : Int) = 2 then (if 0 < (bt337.1.length : Int) then (if (((rd_T31 bt337.1 0).f0) == 3 && (((rd_T31 bt337.1 0).f1) == 1)) = true then (if 1 < (bt337.1.length : Int) then (if (((rd_T31 bt337.1 1).f0) == 4 && (((rd_T31 bt337.1 1).f1) == 0)) = true then (some ((bt337.2.1.length : Int) == 2)) else (some false)) else (none)) else (some false)) else (none)) else (some false)) else (some false))) = some r := h
 clear h
 obtain ⟨y322, hy322⟩ : ∃ y_ : List Int, y_ = (([3] : List Int)) := ⟨_, rfl⟩
 replace H : ((pick_Pick.f (([(⟨y322, (⟨(⟨0, 0⟩ : S86), 0⟩ : S88), 0, false⟩ : S90), (⟨(([1, 2] : List Int)), (⟨(⟨0, 0⟩ : S86), 0⟩ : S88), 0, false⟩ : S90), (⟨(([4] : List Int)), (⟨(⟨0, 0⟩ : S86), 0⟩ : S88), 0, false⟩ : S90)] : List (S90))) (([(⟨1, (-1), (⟨3, 0⟩ : S34)⟩ : S36), (⟨2, (-1), (⟨3, 0⟩ : S34)⟩ : S36), (⟨3, 1, (⟨3, 0⟩ : S34)⟩ : S36), (⟨4, (-1), (⟨3, 0⟩ : S34)⟩ : S36)] : List (S36))) 3).bind fun bt337 => (if bt337.2.2 = 0 then (if (bt337.1.length : Int) = 2 then (if 0 < (bt337.1.length : Int) then (if (((rd_T31 bt337.1 0).f0) == 3 && (((rd_T31 bt337.1 0).f1) == 1)) = true then (if 1 < (bt337.1.length : Int) then (if (((rd_T31 bt337.1 1).f0) == 4 && (((rd_T31 bt337.1 1).f1) == 0)) = true then (some ((bt337.2.1.length : Int) == 2)) else (some false)) else (none)) else (some false)) else (none)) else (some false)) else (some false))) = some r := by first | (rw [hy322]; with_reducible exact H) | (have H2_ := (Option.bind_some _ _).symm.trans H; rw [hy322]; with_reducible exact H2_) | (have H2_ := (Option.bind_some _ _).symm.trans H; with_reducible exact H2_) | with_reducible exact H | (rw [hy322]; exact H) | exact H
 have Ny322 := Aside0.mk hy322
 clear hy322
 obtain ⟨y325, hy325⟩ : ∃ y_ : List Int, y_ = (([1, 2] : List Int)) := ⟨_, rfl⟩
 replace H : ((pick_Pick.f (([(⟨y322, (⟨(⟨0, 0⟩ : S86), 0⟩ : S88), 0, false⟩ : S90), (⟨y325, (⟨(⟨0, 0⟩ : S86), 0⟩ : S88), 0, false⟩ : S90), (⟨(([4] : List Int)), (⟨(⟨0, 0⟩ : S86), 0⟩ : S88), 0, false⟩ : S90)] : List (S90))) (([(⟨1, (-1), (⟨3, 0⟩ : S34)⟩ : S36), (⟨2, (-1), (⟨3, 0⟩ : S34)⟩ : S36), (⟨3, 1, (⟨3, 0⟩ : S34)⟩ : S36), (⟨4, (-1), (⟨3, 0⟩ : S34)⟩ : S36)] : List (S36))) 3).bind fun bt337 => (if bt337.2.2 = 0 then (if (bt337.1.length : Int) = 2 then (if 0 < (bt337.1.length : Int) then (if (((rd_T31 bt337.1 0).f0) == 3 && (((rd_T31 bt337.1 0).f1) == 1)) = true then (if 1 < (bt337.1.length : Int) then (if (((rd_T31 bt337.1 1).f0) == 4 && (((rd_T31 bt337.1 1).f1) == 0)) = true then (some ((bt337.2.1.length : Int) == 2)) else (some false)) else (none)) else (some false)) else (none)) else (some false)) else (some false))) = some r := by first | (rw [hy325]; with_reducible exact H) | (have H2_ := (Option.bind_some _ _).symm.trans H; rw [hy325]; with_reducible exact H2_) | (have H2_ := (Option.bind_some _ _).symm.trans H; with_reducible exact H2_) | with_reducible exact H | (rw [hy325]; exact H) | exact H
 have Ny325 := Aside0.mk hy325
 clear hy325
 obtain ⟨y328, hy328⟩ : ∃ y_ : List Int, y_ = (([4] : List Int)) := ⟨_, rfl⟩
 replace H : ((pick_Pick.f (([(⟨y322, (⟨(⟨0, 0⟩ : S86), 0⟩ : S88), 0, false⟩ : S90), (⟨y325, (⟨(⟨0, 0⟩ : S86), 0⟩ : S88), 0, false⟩ : S90), (⟨y328, (⟨(⟨0, 0⟩ : S86), 0⟩ : S88), 0, false⟩ : S90)] : List (S90))) (([(⟨1, (-1), (⟨3, 0⟩ : S34)⟩ : S36), (⟨2, (-1), (⟨3, 0⟩ : S34)⟩ : S36), (⟨3, 1, (⟨3, 0⟩ : S34)⟩ : S36), (⟨4, (-1), (⟨3, 0⟩ : S34)⟩ : S36)] : List (S36))) 3).bind fun bt337 => (if bt337.2.2 = 0 then (if (bt337.1.length : Int) = 2 then (if 0 < (bt337.1.length : Int) then (if (((rd_T31 bt337.1 0).f0) == 3 && (((rd_T31 bt337.1 0).f1) == 1)) = true then (if 1 < (bt337.1.length : Int) then (if (((rd_T31 bt337.1 1).f0) == 4 && (((rd_T31 bt337.1 1).f1) == 0)) = true then (some ((bt337.2.1.length : Int) == 2)) else (some false)) else (none)) else (some false)) else (none)) else (some false)) else (some false))) = some r := by first | (rw [hy328]; with_reducible exact H) | (have H2_ := (Option.bind_some _ _).symm.trans H; rw [hy328]; with_reducible exact H2_) | (have H2_ := (Option.bind_some _ _).symm.trans H; with_reducible exact H2_) | with_reducible exact H | (rw [hy328]; exact H) | exact H
 have Ny328 := Aside0.mk hy328
 clear hy328
 obtain ⟨y331, hy331⟩ : ∃ y_ : List (S90), y_ = (([(⟨y322, (⟨(⟨0, 0⟩ : S86), 0⟩ : S88), 0, false⟩ : S90), (⟨y325, (⟨(⟨0, 0⟩ : S86), 0⟩ : S88), 0, false⟩ : S90), (⟨y328, (⟨(⟨0, 0⟩ : S86), 0⟩ : S88), 0, false⟩ : S90)] : List (S90))) := ⟨_, rfl⟩
 replace H : ((pick_Pick.f y331 (([(⟨1, (-1), (⟨3, 0⟩ : S34)⟩ : S36), (⟨2, (-1), (⟨3, 0⟩ : S34)⟩ : S36), (⟨3, 1, (⟨3, 0⟩ : S34)⟩ : S36), (⟨4, (-1), (⟨3, 0⟩ : S34)⟩ : S36)] : List (S36))) 3).bind fun bt337 => (if bt337.2.2 = 0 then (if (bt337.1.length : Int) = 2 then (if 0 < (bt337.1.length : Int) then (if (((rd_T31 bt337.1 0).f0) == 3 && (((rd_T31 bt337.1 0).f1) == 1)) = true then (if 1 < (bt337.1.length : Int) then (if (((rd_T31 bt337.1 1).f0) == 4 && (((rd_T31 bt337.1 1).f1) == 0)) = true then (some ((bt337.2.1.length : Int) == 2)) else (some false)) else (none)) else (some false)) else (none)) else (some false)) else (some false))) = some r := by first | (rw [hy331]; with_reducible exact H) | (have H2_ := (Option.bind_some _ _).symm.trans H; rw [hy331]; with_reducible exact H2_) | (have H2_ := (Option.bind_some _ _).symm.trans H; with_reducible exact H2_) | with_reducible exact H | (rw [hy331]; exact H) | exact H
 have Ny331 := Aside0.mk hy331
 clear hy331
 obtain ⟨y334, hy334⟩ : ∃ y_ : List (S36), y_ = (([(⟨1, (-1), (⟨3, 0⟩ : S34)⟩ : S36), (⟨2, (-1), (⟨3, 0⟩ : S34)⟩ : S36), (⟨3, 1, (⟨3, 0⟩ : S34)⟩ : S36), (⟨4, (-1), (⟨3, 0⟩ : S34)⟩ : S36)] : List (S36))) := ⟨_, rfl⟩
 replace H : ((pick_Pick.f y331 y334 3).bind fun bt337 => (if bt337.2.2 = 0 then (if (bt337.1.length : Int) = 2 then (if 0 < (bt337.1.length : Int) then (if (((rd_T31 bt337.1 0).f0) == 3 && (((rd_T31 bt337.1 0).f1) == 1)) = true then (if 1 < (bt337.1.length : Int) then (if (((rd_T31 bt337.1 1).f0) == 4 && (((rd_T31 bt337.1 1).f1) == 0)) = true then (some ((bt337.2.1.length : Int) == 2)) else (some false)) else (none)) else (some false)) else (none)) else (some false)) else (some false))) = some r := by first | (rw [hy334]; with_reducible exact H) | (have H2_ := (Option.bind_some _ _).symm.trans H; rw [hy334]; with_reducible exact H2_) | (have H2_ := (Option.bind_some _ _).symm.trans H; with_reducible exact H2_) | with_reducible exact H | (rw [hy334]; exact H) | exact H
 have Ny334 := Aside0.mk hy334
 clear hy334
 replace H := Option.bind_eq_some_iff.mp H
 obtain ⟨⟨t337, t338, t339⟩, A10, H⟩ := H
 replace H : (if t339 = 0 then (if (t337.length : Int) = 2 then (if 0 < (t337.length : Int) then (if (((rd_T31 t337 0).f0) == 3 && (((rd_T31 t337 0).f1) == 1)) = true then (if 1 < (t337.length : Int) then (if (((rd_T31 t337 1).f0) == 4 && (((rd_T31 t337 1).f1) == 0)) = true then (some ((t338.length : Int) == 2)) else (some false)) else (none)) else (some false)) else (none)) else (some false)) else (some false)) = some r := H
 have A1 := Aside0.mk A10
 clear A10
 by_cases c2 : t339 = 0
 ·rw [if_pos c2] at H
  have c2b0 : (t339 == 0) = true := beq_iff_eq.mpr c2
  have c2b1 : (t339 != 0) = false := bne_eq_false_iff_eq.mpr c2
  clear c2
  by_cases c3 : (t337.length : Int) = 2
  ·rw [if_pos c3] at H
   have c3b0 : ((t337.length : Int) == 2) = true := beq_iff_eq.mpr c3
   have c3b1 : ((t337.length : Int) != 2) = false := bne_eq_false_iff_eq.mpr c3
   clear c3
   by_cases c4 : 0 < (t337.length : Int)
   ·rw [if_pos c4] at H
    have c4b0 : decide (0 < (t337.length : Int)) = true := decide_eq_true c4
    have c4b1 : decide (0 < t337.length) = true := decide_eq_true (by omega)
    clear c4
    by_cases c5 : (((rd_T31 t337 0).f0) == 3 && (((rd_T31 t337 0).f1) == 1)) = true
    ·rw [if_pos c5] at H
     have c5b0 : (((rd_T31 t337 0).f0) == 3 && (((rd_T31 t337 0).f1) == 1)) = true := c5
     (try (have c5b1 : decide (((rd_T31 t337 0).f0) = 3 && (((rd_T31 t337 0).f1) == 1)) = true := by simpa using c5))
     (try (have c5b2 : (((rd_T31 t337 0).f0) == 3 && (((rd_T31 t337 0).f1) == 1)) = true := by simpa using c5))
     clear c5
     by_cases c6 : 1 < (t337.length : Int)
     ·rw [if_pos c6] at H
      have c6b0 : decide (1 < (t337.length : Int)) = true := decide_eq_true c6
      have c6b1 : decide (1 < t337.length) = true := decide_eq_true (by omega)
      clear c6
      by_cases c7 : (((rd_T31 t337 1).f0) == 4 && (((rd_T31 t337 1).f1) == 0)) = true
      ·rw [if_pos c7] at H
       have c7b0 : (((rd_T31 t337 1).f0) == 4 && (((rd_T31 t337 1).f1) == 0)) = true := c7
       (try (have c7b1 : decide (((rd_T31 t337 1).f0) = 4 && (((rd_T31 t337 1).f1) == 0)) = true := by simpa using c7))
       (try (have c7b2 : (((rd_T31 t337 1).f0) == 4 && (((rd_T31 t337 1).f1) == 0)) = true := by simpa using c7))
       clear c7
       obtain rfl := Option.some.inj H
       go_enter Tryd.func18, Tryd.ntmps18
       go_wp2_with (first | ((with_reducible refine gate_dst (N := 1) rfl ?_); (try (refine gate_guard (by rfl) ?_; dsimp only)); refine box_event ?hg (N := 1) ?hd (cs := #[.int .u32 0, .int .u32 0]) (t := 34) ?hr ?_; (case hd => rfl); (case hg => rfl); (case hr => first | (go_simp; done) | (go_simp; rfl)); intro gb321 hg w8 hbox hb; have n0_ := Aside0.mk (below_step (by repeat (first | (with_reducible first | exact HB.out | apply below_alloc | apply pw_below_drewN | apply below_drew1) | exact HB.out)) hb); have n1_ := Aside0.mk (hbox); have n2_ := Aside0.mk ((by rw [hg]; exact (below_size (by repeat (first | (with_reducible first | exact HB.out | apply below_alloc | apply pw_below_drewN | apply below_drew1) | exact HB.out))) : w.heap.size ≤ gb321)); have n3_ := Aside0.mk ((by rw [hg]; exact (below_size (by repeat (first | (with_reducible first | exact HB.out | apply below_alloc | apply pw_below_drewN | apply below_drew1) | exact HB.out))) : w.heap.size ≤ gb321)); clear HB; have HB := n0_; have BK321 := n1_; have GW321 := n2_; have GE321 := n3_; clear n0_ n1_ n2_ n3_; clear hb hbox hg; have hcz9_0 : w8.cell? ⟨gb321, 0, none⟩ = some (.int .u32 0) := (blk_cell BK321.out 0).trans rfl; have hcz9_1 : w8.cell? ⟨gb321, 1, none⟩ = some (.int .u32 0) := (blk_cell BK321.out 1).trans rfl; have hfz9_0 := blk_frozen BK321.out 0; have hfz9_1 := blk_frozen BK321.out 1) | ((with_reducible refine gate_dst (N := 8) rfl ?_); (try (refine gate_guard (by rfl) ?_; dsimp only)); refine Kd.R_lit (Kd.int .i64) _ 3 ?hg (N := 8) ?hd (xs := ([3] : List Int)) (inner := [.int .i64 3]) (ok := fun _ => True) (okp := fun _ => True) ?hr ?hp (fun _ hk => hk) trivial (Below.refl _ _) (Nat.le_refl _) (by simp) ?_; (case hd => rfl); (case hg => rfl); (case hr => first | (go_simp; done) | (go_simp; rfl)); (case hp => exact (Reps.one (show Kd.M (Kd.int .i64) _ _ _ 3 [.int .i64 3] from rfl) (Reps.none _ _))); intro v323 w10 ho11 hb hg_ hnew_; clear hg_ hnew_; (first | rw [← Ny322.out] at ho11 | (simp only [Int.reduceToNat] at ho11; rw [← Ny322.out] at ho11)); have n0_ := Aside0.mk (Kd.R_lower ho11 (below_size (by repeat (first | (with_reducible first | exact HB.out | apply below_alloc | apply pw_below_drewN | apply below_drew1 | refine below_set ?_ GE321.out) | exact HB.out)))); have n1_ := Aside0.mk (blk_below (g := gb321) (o := .cells #[.int .u32 3, .int .u32 0] 34 (0, 0)) (by (with_reducible repeat (first | refine blk_drewN ?_ _ | refine blk_drew ?_ | refine blk_alloc ?_ _)); refine blk_put (cs := #[.int .u32 3, .int .u32 0]) ?_ 1 _ rfl; (with_reducible repeat (first | refine blk_drewN ?_ _ | refine blk_drew ?_ | refine blk_alloc ?_ _)); refine blk_put (cs := #[.int .u32 0, .int .u32 0]) ?_ 0 _ rfl; (with_reducible repeat (first | refine blk_drewN ?_ _ | refine blk_drew ?_ | refine blk_alloc ?_ _)); exact BK321.out) hb); have n2_ := Aside0.mk (below_step (by repeat (first | (with_reducible first | exact HB.out | apply below_alloc | apply pw_below_drewN | apply below_drew1 | refine below_set ?_ GE321.out) | exact HB.out)) hb); clear BK321; clear HB; have HO324 := n0_; have BK321 := n1_; have HB := n2_; clear n0_ n1_ n2_; clear hb ho11; obtain ⟨Ao12, co12, eo12⟩ := Kd.R_slice HO324.out; subst eo12) | ((with_reducible refine gate_dst (N := 10) rfl ?_); (try (refine gate_guard (by rfl) ?_; dsimp only)); refine Kd.R_lit (Kd.int .i64) _ 3 ?hg (N := 10) ?hd (xs := ([1, 2] : List Int)) (inner := [.int .i64 1, .int .i64 2]) (ok := fun _ => True) (okp := fun _ => True) ?hr ?hp (fun _ hk => hk) trivial (Below.refl _ _) (Nat.le_refl _) (by simp) ?_; (case hd => rfl); (case hg => rfl); (case hr => first | (go_simp; done) | (go_simp; rfl)); (case hp => exact (Reps.one (show Kd.M (Kd.int .i64) _ _ _ 1 [.int .i64 1] from rfl) (Reps.one (show Kd.M (Kd.int .i64) _ _ _ 2 [.int .i64 2] from rfl) (Reps.none _ _)))); intro v326 w13 ho14 hb hg_ hnew_; clear hg_ hnew_; (first | rw [← Ny325.out] at ho14 | (simp only [Int.reduceToNat] at ho14; rw [← Ny325.out] at ho14)); have n0_ := Aside0.mk (Kd.R_elder' (by (with_reducible repeat (first | apply Kd.R_alloc | apply Kd.R_drewN | apply Kd.R_drew)); exact HO324.out) (Kd.R_base ho14) hb); have n1_ := Aside0.mk (Kd.R_lower (Kd.R_new' ho14 (Kd.R_lt (by (with_reducible repeat (first | apply Kd.R_alloc | apply Kd.R_drewN | apply Kd.R_drew)); exact HO324.out))) (below_size (by repeat (first | (with_reducible first | exact HB.out | apply below_alloc | apply pw_below_drewN | apply below_drew1 | refine below_set ?_ GE321.out) | exact HB.out)))); have n2_ := Aside0.mk (blk_below (g := gb321) (o := .cells #[.int .u32 3, .int .u32 0] 34 (0, 0)) (by (with_reducible repeat (first | refine blk_drewN ?_ _ | refine blk_drew ?_ | refine blk_alloc ?_ _)); exact BK321.out) hb); have n3_ := Aside0.mk (below_step (by repeat (first | (with_reducible first | exact HB.out | apply below_alloc | apply pw_below_drewN | apply below_drew1 | refine below_set ?_ GE321.out) | exact HB.out)) hb); clear HO324; clear BK321; clear HB; have HO324 := n0_; have HO327 := n1_; have BK321 := n2_; have HB := n3_; clear n0_ n1_ n2_ n3_; clear hb ho14; obtain ⟨Ao15, co15, eo15⟩ := Kd.R_slice HO327.out; subst eo15) | ((with_reducible refine gate_dst (N := 12) rfl ?_); (try (refine gate_guard (by rfl) ?_; dsimp only)); refine Kd.R_lit (Kd.int .i64) _ 3 ?hg (N := 12) ?hd (xs := ([4] : List Int)) (inner := [.int .i64 4]) (ok := fun _ => True) (okp := fun _ => True) ?hr ?hp (fun _ hk => hk) trivial (Below.refl _ _) (Nat.le_refl _) (by simp) ?_; (case hd => rfl); (case hg => rfl); (case hr => first | (go_simp; done) | (go_simp; rfl)); (case hp => exact (Reps.one (show Kd.M (Kd.int .i64) _ _ _ 4 [.int .i64 4] from rfl) (Reps.none _ _))); intro v329 w16 ho17 hb hg_ hnew_; clear hg_ hnew_; (first | rw [← Ny328.out] at ho17 | (simp only [Int.reduceToNat] at ho17; rw [← Ny328.out] at ho17)); have n0_ := Aside0.mk (Kd.R_elder' (by (with_reducible repeat (first | apply Kd.R_alloc | apply Kd.R_drewN | apply Kd.R_drew)); exact HO324.out) (Kd.R_base ho17) hb); have n1_ := Aside0.mk (Kd.R_elder' (by (with_reducible repeat (first | apply Kd.R_alloc | apply Kd.R_drewN | apply Kd.R_drew)); exact HO327.out) (Kd.R_base ho17) hb); have n2_ := Aside0.mk (Kd.R_lower (Kd.R_new' (Kd.R_new' ho17 (Kd.R_lt (by (with_reducible repeat (first | apply Kd.R_alloc | apply Kd.R_drewN | apply Kd.R_drew)); exact HO324.out))) (Kd.R_lt (by (with_reducible repeat (first | apply Kd.R_alloc | apply Kd.R_drewN | apply Kd.R_drew)); exact HO327.out))) (below_size (by repeat (first | (with_reducible first | exact HB.out | apply below_alloc | apply pw_below_drewN | apply below_drew1 | refine below_set ?_ GE321.out) | exact HB.out)))); have n3_ := Aside0.mk (blk_below (g := gb321) (o := .cells #[.int .u32 3, .int .u32 0] 34 (0, 0)) (by (with_reducible repeat (first | refine blk_drewN ?_ _ | refine blk_drew ?_ | refine blk_alloc ?_ _)); exact BK321.out) hb); have n4_ := Aside0.mk (below_step (by repeat (first | (with_reducible first | exact HB.out | apply below_alloc | apply pw_below_drewN | apply below_drew1 | refine below_set ?_ GE321.out) | exact HB.out)) hb); clear HO324; clear HO327; clear BK321; clear HB; have HO324 := n0_; have HO327 := n1_; have HO330 := n2_; have BK321 := n3_; have HB := n4_; clear n0_ n1_ n2_ n3_ n4_; clear hb ho17; obtain ⟨Ao18, co18, eo18⟩ := Kd.R_slice HO330.out; subst eo18) | ((with_reducible refine gate_dst (N := 14) rfl ?_); (try (refine gate_guard (by rfl) ?_; dsimp only)); refine Kd.N_lit k90 _ 90 ?hg (N' := 14) ?hd (xs := ([(⟨y322, (⟨(⟨0, 0⟩ : S86), 0⟩ : S88), 0, false⟩ : S90), (⟨y325, (⟨(⟨0, 0⟩ : S86), 0⟩ : S88), 0, false⟩ : S90), (⟨y328, (⟨(⟨0, 0⟩ : S86), 0⟩ : S88), 0, false⟩ : S90)] : List (S90))) (inner := [.slice Ao12 y322.length co12, .int .u64 0, .int .u64 0, .int .u64 0, .int .u64 0, .bool false, .slice Ao15 y325.length co15, .int .u64 0, .int .u64 0, .int .u64 0, .int .u64 0, .bool false, .slice Ao18 y328.length co18, .int .u64 0, .int .u64 0, .int .u64 0, .int .u64 0, .bool false]) (ok := (fun k_ => k_ ≠ gb321)) (okp := (fun k_ => k_ ≠ gb321)) ?hr ?hp (fun _ hk => hk) ((show ∀ k_, w16.heap.size ≤ k_ → (fun k_ => k_ ≠ gb321) k_ from fun k_ hk => Kd.freshB (g := gb321) (o := .cells #[.int .u32 3, .int .u32 0] 34 (0, 0)) (by (with_reducible repeat (first | refine blk_drewN ?_ _ | refine blk_drew ?_ | refine blk_alloc ?_ _)); exact BK321.out) k_ hk) _ (Nat.le_refl _)) (Below.refl _ _) (Nat.le_refl _) (by simp) ?_; (case hd => rfl); (case hg => rfl); (case hr => first | (go_simp; done) | (go_simp; rfl)); (case hp => exact (Reps.c6 (show Kd.FK k90 _ _ (⟨y322, (⟨(⟨0, 0⟩ : S86), 0⟩ : S88), 0, false⟩ : S90) [.slice Ao12 y322.length co12, .int .u64 0, .int .u64 0, .int .u64 0, .int .u64 0, .bool false] from (k90_mkF _ _ (⟨y322, (⟨(⟨0, 0⟩ : S86), 0⟩ : S88), 0, false⟩ : S90) (Kd.R_reads' (Kd.R_mono (ok' := (fun k_ => k_ ≠ gb321)) (Kd.R_types (HO324.out) BK321.out (by decide)) (fun k_ hk => hk.2))).2.1 (Kd.R_F (Kd.R_mono (ok' := (fun k_ => k_ ≠ gb321)) (Kd.R_types (HO324.out) BK321.out (by decide)) (fun k_ hk => hk.2))))) (Reps.c6 (show Kd.FK k90 _ _ (⟨y325, (⟨(⟨0, 0⟩ : S86), 0⟩ : S88), 0, false⟩ : S90) [.slice Ao15 y325.length co15, .int .u64 0, .int .u64 0, .int .u64 0, .int .u64 0, .bool false] from (k90_mkF _ _ (⟨y325, (⟨(⟨0, 0⟩ : S86), 0⟩ : S88), 0, false⟩ : S90) (Kd.R_reads' (Kd.R_mono (ok' := (fun k_ => k_ ≠ gb321)) (Kd.R_types (HO327.out) BK321.out (by decide)) (fun k_ hk => hk.2))).2.1 (Kd.R_F (Kd.R_mono (ok' := (fun k_ => k_ ≠ gb321)) (Kd.R_types (HO327.out) BK321.out (by decide)) (fun k_ hk => hk.2))))) (Reps.c6 (show Kd.FK k90 _ _ (⟨y328, (⟨(⟨0, 0⟩ : S86), 0⟩ : S88), 0, false⟩ : S90) [.slice Ao18 y328.length co18, .int .u64 0, .int .u64 0, .int .u64 0, .int .u64 0, .bool false] from (k90_mkF _ _ (⟨y328, (⟨(⟨0, 0⟩ : S86), 0⟩ : S88), 0, false⟩ : S90) (Kd.R_reads' (Kd.R_mono (ok' := (fun k_ => k_ ≠ gb321)) (Kd.R_types (HO330.out) BK321.out (by decide)) (fun k_ hk => hk.2))).2.1 (Kd.R_F (Kd.R_mono (ok' := (fun k_ => k_ ≠ gb321)) (Kd.R_types (HO330.out) BK321.out (by decide)) (fun k_ hk => hk.2))))) (Reps.none _ _))))); intro v332 w19 ho20 hb hg_ hnew_; clear hg_ hnew_; (first | rw [← Ny331.out] at ho20 | (simp only [Int.reduceToNat] at ho20; rw [← Ny331.out] at ho20)); have n0_ := Aside0.mk (Kd.N_lower ho20 (below_size (by repeat (first | (with_reducible first | exact HB.out | apply below_alloc | apply pw_below_drewN | apply below_drew1 | refine below_set ?_ GE321.out) | exact HB.out)))); have n1_ := Aside0.mk (blk_below (g := gb321) (o := .cells #[.int .u32 3, .int .u32 0] 34 (0, 0)) (by (with_reducible repeat (first | refine blk_drewN ?_ _ | refine blk_drew ?_ | refine blk_alloc ?_ _)); exact BK321.out) hb); have n2_ := Aside0.mk (below_step (by repeat (first | (with_reducible first | exact HB.out | apply below_alloc | apply pw_below_drewN | apply below_drew1 | refine below_set ?_ GE321.out) | exact HB.out)) hb); clear BK321; clear HB; clear HO324; clear HO327; clear HO330; have HO333 := n0_; have BK321 := n1_; have HB := n2_; clear n0_ n1_ n2_; clear hb ho20; have hcz21_0 : w19.cell? ⟨gb321, 0, none⟩ = some (.int .u32 3) := (blk_cell BK321.out 0).trans rfl; have hcz21_1 : w19.cell? ⟨gb321, 1, none⟩ = some (.int .u32 0) := (blk_cell BK321.out 1).trans rfl; have hfz21_0 := blk_frozen BK321.out 0; have hfz21_1 := blk_frozen BK321.out 1) | ((with_reducible refine gate_dst (N := 23) rfl ?_); (try (refine gate_guard (by rfl) ?_; dsimp only)); refine Kd.R_lit k36 _ 36 ?hg (N := 23) ?hd (xs := ([(⟨1, (-1), (⟨3, 0⟩ : S34)⟩ : S36), (⟨2, (-1), (⟨3, 0⟩ : S34)⟩ : S36), (⟨3, 1, (⟨3, 0⟩ : S34)⟩ : S36), (⟨4, (-1), (⟨3, 0⟩ : S34)⟩ : S36)] : List (S36))) (inner := [.int .i64 1, .int .i64 (-1), .int .u32 3, .int .u32 0, .int .i64 2, .int .i64 (-1), .int .u32 3, .int .u32 0, .int .i64 3, .int .i64 1, .int .u32 3, .int .u32 0, .int .i64 4, .int .i64 (-1), .int .u32 3, .int .u32 0]) (ok := fun _ => True) (okp := fun _ => True) ?hr ?hp (fun _ hk => hk) trivial (Below.refl _ _) (Nat.le_refl _) (by simp) ?_; (case hd => rfl); (case hg => rfl); (case hr => first | (go_simp; done) | (go_simp; rfl)); (case hp => exact (Reps.c4 (show Kd.M k36 _ _ _ (⟨1, (-1), (⟨3, 0⟩ : S34)⟩ : S36) [.int .i64 1, .int .i64 (-1), .int .u32 3, .int .u32 0] from (k36_mkM _ _ _ (⟨1, (-1), (⟨3, 0⟩ : S34)⟩ : S36) )) (Reps.c4 (show Kd.M k36 _ _ _ (⟨2, (-1), (⟨3, 0⟩ : S34)⟩ : S36) [.int .i64 2, .int .i64 (-1), .int .u32 3, .int .u32 0] from (k36_mkM _ _ _ (⟨2, (-1), (⟨3, 0⟩ : S34)⟩ : S36) )) (Reps.c4 (show Kd.M k36 _ _ _ (⟨3, 1, (⟨3, 0⟩ : S34)⟩ : S36) [.int .i64 3, .int .i64 1, .int .u32 3, .int .u32 0] from (k36_mkM _ _ _ (⟨3, 1, (⟨3, 0⟩ : S34)⟩ : S36) )) (Reps.c4 (show Kd.M k36 _ _ _ (⟨4, (-1), (⟨3, 0⟩ : S34)⟩ : S36) [.int .i64 4, .int .i64 (-1), .int .u32 3, .int .u32 0] from (k36_mkM _ _ _ (⟨4, (-1), (⟨3, 0⟩ : S34)⟩ : S36) )) (Reps.none _ _)))))); intro v335 w22 ho23 hb hg_ hnew_; clear hg_ hnew_; (first | rw [← Ny334.out] at ho23 | (simp only [Int.reduceToNat] at ho23; rw [← Ny334.out] at ho23)); have n0_ := Aside0.mk (Kd.N_elder' (by (with_reducible repeat (first | apply Kd.N_alloc | apply Kd.N_drewN | apply Kd.N_drew)); exact HO333.out) (Kd.R_base ho23) hb); have n1_ := Aside0.mk (Kd.R_lower ho23 (below_size (by repeat (first | (with_reducible first | exact HB.out | apply below_alloc | apply pw_below_drewN | apply below_drew1 | refine below_set ?_ GE321.out) | exact HB.out)))); have n2_ := Aside0.mk (blk_below (g := gb321) (o := .cells #[.int .u32 3, .int .u32 0] 34 (0, 0)) (by (with_reducible repeat (first | refine blk_drewN ?_ _ | refine blk_drew ?_ | refine blk_alloc ?_ _)); exact BK321.out) hb); have n3_ := Aside0.mk (below_step (by repeat (first | (with_reducible first | exact HB.out | apply below_alloc | apply pw_below_drewN | apply below_drew1 | refine below_set ?_ GE321.out) | exact HB.out)) hb); clear HO333; clear BK321; clear HB; have HO333 := n0_; have HO336 := n1_; have BK321 := n2_; have HB := n3_; clear n0_ n1_ n2_ n3_; clear hb ho23; obtain ⟨Ao24, co24, eo24⟩ := Kd.N_slice HO333.out; subst eo24; obtain ⟨Ao25, co25, eo25⟩ := Kd.R_slice HO336.out; subst eo25) | ((with_reducible refine gate_callee (f := 20) rfl ?_); refine goesL_ (some 27) rfl rfl Tryd.func20 (by kernel_rfl) rfl #[.slice Ao24 y331.length co24, .slice Ao25 y334.length co25, .int .u32 3] rfl (by (try simp only [List.map_toArray, List.map_cons, List.map_nil]); first | done | rfl | (simp only [List.length_drop, List.length_take]; rfl)) ?_; (with_reducible refine (pick_Pick.calls _ _ y331 _ _ y334 3 t337 t338 t339 _ ?side1 ?side2 ?side3 ?side4 ?tb A1.out).mono ?_); (case tb => exact HT.out.step (by repeat (first | (with_reducible first | exact HB.out | apply below_alloc | apply pw_below_drewN | apply below_drew1 | refine below_set ?_ GE321.out) | exact HB.out))); (case side1 => repeat (first | exact (Kd.N_reads' HO333.out).2.2 | (with_reducible refine Kd.C_alloc ?_ _) | (with_reducible refine Kd.C_drewN ?_ _) | (with_reducible refine Kd.C_drew ?_))); (case side2 => exact (Kd.N_reads' HO333.out).2.1); (case side3 => repeat (first | exact (Kd.R_reads' HO336.out).2.2 | (with_reducible refine Kd.C_alloc ?_ _) | (with_reducible refine Kd.C_drewN ?_ _) | (with_reducible refine Kd.C_drew ?_))); (case side4 => exact (Kd.R_reads' HO336.out).2.1); rintro e w26 ⟨v340, v342, rfl, ho0, ho1, hb⟩; refine ⟨_, rfl, ?_⟩; have n0_ := Aside0.mk (Kd.N_mono (Kd.N_told (Kd.N_told (Kd.N_old (by (with_reducible repeat (first | apply Kd.N_alloc | apply Kd.N_drewN | apply Kd.N_drew)); exact HO333.out) hb) (Kd.R_base ho0)) (Kd.R_base ho1)) (fun _ h_ => h_.1)); have n1_ := Aside0.mk (Kd.R_below (by (with_reducible repeat (first | apply Kd.R_alloc | apply Kd.R_drewN | apply Kd.R_drew)); exact HO336.out) hb); have n2_ := Aside0.mk (Kd.R_lower ho0 (below_size (by repeat (first | (with_reducible first | exact HB.out | apply below_alloc | apply pw_below_drewN | apply below_drew1 | refine below_set ?_ GE321.out) | exact HB.out)))); have n3_ := Aside0.mk (Kd.R_lower ho1 (below_size (by repeat (first | (with_reducible first | exact HB.out | apply below_alloc | apply pw_below_drewN | apply below_drew1 | refine below_set ?_ GE321.out) | exact HB.out)))); have n4_ := Aside0.mk (blk_below (g := gb321) (o := .cells #[.int .u32 3, .int .u32 0] 34 (0, 0)) (by (with_reducible repeat (first | refine blk_drewN ?_ _ | refine blk_drew ?_ | refine blk_alloc ?_ _)); exact BK321.out) hb); have n5_ := Aside0.mk (below_step (by repeat (first | (with_reducible first | exact HB.out | apply below_alloc | apply pw_below_drewN | apply below_drew1 | refine below_set ?_ GE321.out) | exact HB.out)) hb); clear HO333; clear HO336; clear BK321; clear HB; have HO333 := n0_; have HO336 := n1_; have HO341 := n2_; have HO343 := n3_; have BK321 := n4_; have HB := n5_; clear n0_ n1_ n2_ n3_ n4_ n5_; (try clear hb); (try clear hb2); (try clear hk); (try clear hi); (try clear ho0); (try clear ho1); obtain ⟨Ao27, co27, eo27⟩ := Kd.R_slice HO341.out; subst eo27; have p344 : 0 ≤ (0 : Int) := (by omega); have q344 : 0 < (t337.length : Int) := of_decide_eq_true (by first | (with_reducible assumption) | assumption); obtain ⟨ad344, e344, hx344_0, hx344_1⟩ := at_T31 (Kd.R_reads' HO341.out).2.2 0 p344 q344; cases e344; have qi344 : (0 < t337.length) = True := eq_true (by omega); (try rw [show ((0 : Int)).toNat = 0 from rfl] at hx344_0); (try rw [show 0 * 2 = 0 from rfl] at hx344_0); (try rw [Addr.add_zero'] at hx344_0); (try rw [show ((0 : Int)).toNat = 0 from rfl] at hx344_1); (try rw [show 0 * 2 = 0 from rfl] at hx344_1); (try rw [Addr.add_zero'] at hx344_1); replace p344 := eq_true p344; replace q344 := eq_true q344; have p345 : 0 ≤ (1 : Int) := (by omega); have q345 : 1 < (t337.length : Int) := of_decide_eq_true (by first | (with_reducible assumption) | assumption); obtain ⟨ad345, e345, hx345_0, hx345_1⟩ := at_T31 (Kd.R_reads' HO341.out).2.2 1 p345 q345; obtain rfl : ad344 = ad345 := (by injection e345); (try simp only [show (1 : Int).toNat = 1 from rfl, Nat.reduceMul, Nat.reduceEqDiff, Go.Addr.add, ↓reduceIte] at hx345_0); (try simp only [show (1 : Int).toNat = 1 from rfl, Nat.reduceMul, Nat.reduceEqDiff, Go.Addr.add, ↓reduceIte] at hx345_1); have qi345 : (1 < t337.length) = True := eq_true (by omega); (try rw [show ((1 : Int)).toNat = 1 from rfl] at hx345_0); (try rw [show 1 * 2 = 2 from rfl] at hx345_0); (try rw [show ((1 : Int)).toNat = 1 from rfl] at hx345_1); (try rw [show 1 * 2 = 2 from rfl] at hx345_1); replace p345 := eq_true p345; replace q345 := eq_true q345; obtain ⟨Ao28, co28, eo28⟩ := Kd.R_slice HO343.out; subst eo28))
       go_ret
       exact ⟨by first | rfl | (simp [errW_none, errW_some] <;> rfl) | (simp [*, errW_none, errW_some] <;> rfl), by repeat (first | (with_reducible first | exact HB.out | apply below_alloc | apply pw_below_drewN | apply below_drew1 | refine below_set ?_ GE321.out) | exact HB.out)⟩
      ·rw [if_neg c7] at H
       have c7b0 : (((rd_T31 t337 1).f0) == 4 && (((rd_T31 t337 1).f1) == 0)) = false := by simpa using c7
       (try (have c7b1 : decide (((rd_T31 t337 1).f0) = 4 && (((rd_T31 t337 1).f1) == 0)) = false := by simpa using c7))
       (try (have c7b2 : (((rd_T31 t337 1).f0) == 4 && (((rd_T31 t337 1).f1) == 0)) = false := by simpa using c7))
       (try (have c7b3 : ¬ (((rd_T31 t337 1).f0) = 4 && (((rd_T31 t337 1).f1) == 0)) := by simpa using c7))
       clear c7
       obtain rfl := Option.some.inj H
       go_enter Tryd.func18, Tryd.ntmps18
       go_wp2_with (first | ((with_reducible refine gate_dst (N := 1) rfl ?_); (try (refine gate_guard (by rfl) ?_; dsimp only)); refine box_event ?hg (N := 1) ?hd (cs := #[.int .u32 0, .int .u32 0]) (t := 34) ?hr ?_; (case hd => rfl); (case hg => rfl); (case hr => first | (go_simp; done) | (go_simp; rfl)); intro gb321 hg w29 hbox hb; have n0_ := Aside0.mk (below_step (by repeat (first | (with_reducible first | exact HB.out | apply below_alloc | apply pw_below_drewN | apply below_drew1) | exact HB.out)) hb); have n1_ := Aside0.mk (hbox); have n2_ := Aside0.mk ((by rw [hg]; exact (below_size (by repeat (first | (with_reducible first | exact HB.out | apply below_alloc | apply pw_below_drewN | apply below_drew1) | exact HB.out))) : w.heap.size ≤ gb321)); have n3_ := Aside0.mk ((by rw [hg]; exact (below_size (by repeat (first | (with_reducible first | exact HB.out | apply below_alloc | apply pw_below_drewN | apply below_drew1) | exact HB.out))) : w.heap.size ≤ gb321)); clear HB; have HB := n0_; have BK321 := n1_; have GW321 := n2_; have GE321 := n3_; clear n0_ n1_ n2_ n3_; clear hb hbox hg; have hcz30_0 : w29.cell? ⟨gb321, 0, none⟩ = some (.int .u32 0) := (blk_cell BK321.out 0).trans rfl; have hcz30_1 : w29.cell? ⟨gb321, 1, none⟩ = some (.int .u32 0) := (blk_cell BK321.out 1).trans rfl; have hfz30_0 := blk_frozen BK321.out 0; have hfz30_1 := blk_frozen BK321.out 1) | ((with_reducible refine gate_dst (N := 8) rfl ?_); (try (refine gate_guard (by rfl) ?_; dsimp only)); refine Kd.R_lit (Kd.int .i64) _ 3 ?hg (N := 8) ?hd (xs := ([3] : List Int)) (inner := [.int .i64 3]) (ok := fun _ => True) (okp := fun _ => True) ?hr ?hp (fun _ hk => hk) trivial (Below.refl _ _) (Nat.le_refl _) (by simp) ?_; (case hd => rfl); (case hg => rfl); (case hr => first | (go_simp; done) | (go_simp; rfl)); (case hp => exact (Reps.one (show Kd.M (Kd.int .i64) _ _ _ 3 [.int .i64 3] from rfl) (Reps.none _ _))); intro v323 w31 ho32 hb hg_ hnew_; clear hg_ hnew_; (first | rw [← Ny322.out] at ho32 | (simp only [Int.reduceToNat] at ho32; rw [← Ny322.out] at ho32)); have n0_ := Aside0.mk (Kd.R_lower ho32 (below_size (by repeat (first | (with_reducible first | exact HB.out | apply below_alloc | apply pw_below_drewN | apply below_drew1 | refine below_set ?_ GE321.out) | exact HB.out)))); have n1_ := Aside0.mk (blk_below (g := gb321) (o := .cells #[.int .u32 3, .int .u32 0] 34 (0, 0)) (by (with_reducible repeat (first | refine blk_drewN ?_ _ | refine blk_drew ?_ | refine blk_alloc ?_ _)); refine blk_put (cs := #[.int .u32 3, .int .u32 0]) ?_ 1 _ rfl; (with_reducible repeat (first | refine blk_drewN ?_ _ | refine blk_drew ?_ | refine blk_alloc ?_ _)); refine blk_put (cs := #[.int .u32 0, .int .u32 0]) ?_ 0 _ rfl; (with_reducible repeat (first | refine blk_drewN ?_ _ | refine blk_drew ?_ | refine blk_alloc ?_ _)); exact BK321.out) hb); have n2_ := Aside0.mk (below_step (by repeat (first | (with_reducible first | exact HB.out | apply below_alloc | apply pw_below_drewN | apply below_drew1 | refine below_set ?_ GE321.out) | exact HB.out)) hb); clear BK321; clear HB; have HO324 := n0_; have BK321 := n1_; have HB := n2_; clear n0_ n1_ n2_; clear hb ho32; obtain ⟨Ao33, co33, eo33⟩ := Kd.R_slice HO324.out; subst eo33) | ((with_reducible refine gate_dst (N := 10) rfl ?_); (try (refine gate_guard (by rfl) ?_; dsimp only)); refine Kd.R_lit (Kd.int .i64) _ 3 ?hg (N := 10) ?hd (xs := ([1, 2] : List Int)) (inner := [.int .i64 1, .int .i64 2]) (ok := fun _ => True) (okp := fun _ => True) ?hr ?hp (fun _ hk => hk) trivial (Below.refl _ _) (Nat.le_refl _) (by simp) ?_; (case hd => rfl); (case hg => rfl); (case hr => first | (go_simp; done) | (go_simp; rfl)); (case hp => exact (Reps.one (show Kd.M (Kd.int .i64) _ _ _ 1 [.int .i64 1] from rfl) (Reps.one (show Kd.M (Kd.int .i64) _ _ _ 2 [.int .i64 2] from rfl) (Reps.none _ _)))); intro v326 w34 ho35 hb hg_ hnew_; clear hg_ hnew_; (first | rw [← Ny325.out] at ho35 | (simp only [Int.reduceToNat] at ho35; rw [← Ny325.out] at ho35)); have n0_ := Aside0.mk (Kd.R_elder' (by (with_reducible repeat (first | apply Kd.R_alloc | apply Kd.R_drewN | apply Kd.R_drew)); exact HO324.out) (Kd.R_base ho35) hb); have n1_ := Aside0.mk (Kd.R_lower (Kd.R_new' ho35 (Kd.R_lt (by (with_reducible repeat (first | apply Kd.R_alloc | apply Kd.R_drewN | apply Kd.R_drew)); exact HO324.out))) (below_size (by repeat (first | (with_reducible first | exact HB.out | apply below_alloc | apply pw_below_drewN | apply below_drew1 | refine below_set ?_ GE321.out) | exact HB.out)))); have n2_ := Aside0.mk (blk_below (g := gb321) (o := .cells #[.int .u32 3, .int .u32 0] 34 (0, 0)) (by (with_reducible repeat (first | refine blk_drewN ?_ _ | refine blk_drew ?_ | refine blk_alloc ?_ _)); exact BK321.out) hb); have n3_ := Aside0.mk (below_step (by repeat (first | (with_reducible first | exact HB.out | apply below_alloc | apply pw_below_drewN | apply below_drew1 | refine below_set ?_ GE321.out) | exact HB.out)) hb); clear HO324; clear BK321; clear HB; have HO324 := n0_; have HO327 := n1_; have BK321 := n2_; have HB := n3_; clear n0_ n1_ n2_ n3_; clear hb ho35; obtain ⟨Ao36, co36, eo36⟩ := Kd.R_slice HO327.out; subst eo36) | ((with_reducible refine gate_dst (N := 12) rfl ?_); (try (refine gate_guard (by rfl) ?_; dsimp only)); refine Kd.R_lit (Kd.int .i64) _ 3 ?hg (N := 12) ?hd (xs := ([4] : List Int)) (inner := [.int .i64 4]) (ok := fun _ => True) (okp := fun _ => True) ?hr ?hp (fun _ hk => hk) trivial (Below.refl _ _) (Nat.le_refl _) (by simp) ?_; (case hd => rfl); (case hg => rfl); (case hr => first | (go_simp; done) | (go_simp; rfl)); (case hp => exact (Reps.one (show Kd.M (Kd.int .i64) _ _ _ 4 [.int .i64 4] from rfl) (Reps.none _ _))); intro v329 w37 ho38 hb hg_ hnew_; clear hg_ hnew_; (first | rw [← Ny328.out] at ho38 | (simp only [Int.reduceToNat] at ho38; rw [← Ny328.out] at ho38)); have n0_ := Aside0.mk (Kd.R_elder' (by (with_reducible repeat (first | apply Kd.R_alloc | apply Kd.R_drewN | apply Kd.R_drew)); exact HO324.out) (Kd.R_base ho38) hb); have n1_ := Aside0.mk (Kd.R_elder' (by (with_reducible repeat (first | apply Kd.R_alloc | apply Kd.R_drewN | apply Kd.R_drew)); exact HO327.out) (Kd.R_base ho38) hb); have n2_ := Aside0.mk (Kd.R_lower (Kd.R_new' (Kd.R_new' ho38 (Kd.R_lt (by (with_reducible repeat (first | apply Kd.R_alloc | apply Kd.R_drewN | apply Kd.R_drew)); exact HO324.out))) (Kd.R_lt (by (with_reducible repeat (first | apply Kd.R_alloc | apply Kd.R_drewN | apply Kd.R_drew)); exact HO327.out))) (below_size (by repeat (first | (with_reducible first | exact HB.out | apply below_alloc | apply pw_below_drewN | apply below_drew1 | refine below_set ?_ GE321.out) | exact HB.out)))); have n3_ := Aside0.mk (blk_below (g := gb321) (o := .cells #[.int .u32 3, .int .u32 0] 34 (0, 0)) (by (with_reducible repeat (first | refine blk_drewN ?_ _ | refine blk_drew ?_ | refine blk_alloc ?_ _)); exact BK321.out) hb); have n4_ := Aside0.mk (below_step (by repeat (first | (with_reducible first | exact HB.out | apply below_alloc | apply pw_below_drewN | apply below_drew1 | refine below_set ?_ GE321.out) | exact HB.out)) hb); clear HO324; clear HO327; clear BK321; clear HB; have HO324 := n0_; have HO327 := n1_; have HO330 := n2_; have BK321 := n3_; have HB := n4_; clear n0_ n1_ n2_ n3_ n4_; clear hb ho38; obtain ⟨Ao39, co39, eo39⟩ := Kd.R_slice HO330.out; subst eo39) | ((with_reducible refine gate_dst (N := 14) rfl ?_); (try (refine gate_guard (by rfl) ?_; dsimp only)); refine Kd.N_lit k90 _ 90 ?hg (N' := 14) ?hd (xs := ([(⟨y322, (⟨(⟨0, 0⟩ : S86), 0⟩ : S88), 0, false⟩ : S90), (⟨y325, (⟨(⟨0, 0⟩ : S86), 0⟩ : S88), 0, false⟩ : S90), (⟨y328, (⟨(⟨0, 0⟩ : S86), 0⟩ : S88), 0, false⟩ : S90)] : List (S90))) (inner := [.slice Ao33 y322.length co33, .int .u64 0, .int .u64 0, .int .u64 0, .int .u64 0, .bool false, .slice Ao36 y325.length co36, .int .u64 0, .int .u64 0, .int .u64 0, .int .u64 0, .bool false, .slice Ao39 y328.length co39, .int .u64 0, .int .u64 0, .int .u64 0, .int .u64 0, .bool false]) (ok := (fun k_ => k_ ≠ gb321)) (okp := (fun k_ => k_ ≠ gb321)) ?hr ?hp (fun _ hk => hk) ((show ∀ k_, w37.heap.size ≤ k_ → (fun k_ => k_ ≠ gb321) k_ from fun k_ hk => Kd.freshB (g := gb321) (o := .cells #[.int .u32 3, .int .u32 0] 34 (0, 0)) (by (with_reducible repeat (first | refine blk_drewN ?_ _ | refine blk_drew ?_ | refine blk_alloc ?_ _)); exact BK321.out) k_ hk) _ (Nat.le_refl _)) (Below.refl _ _) (Nat.le_refl _) (by simp) ?_; (case hd => rfl); (case hg => rfl); (case hr => first | (go_simp; done) | (go_simp; rfl)); (case hp => exact (Reps.c6 (show Kd.FK k90 _ _ (⟨y322, (⟨(⟨0, 0⟩ : S86), 0⟩ : S88), 0, false⟩ : S90) [.slice Ao33 y322.length co33, .int .u64 0, .int .u64 0, .int .u64 0, .int .u64 0, .bool false] from (k90_mkF _ _ (⟨y322, (⟨(⟨0, 0⟩ : S86), 0⟩ : S88), 0, false⟩ : S90) (Kd.R_reads' (Kd.R_mono (ok' := (fun k_ => k_ ≠ gb321)) (Kd.R_types (HO324.out) BK321.out (by decide)) (fun k_ hk => hk.2))).2.1 (Kd.R_F (Kd.R_mono (ok' := (fun k_ => k_ ≠ gb321)) (Kd.R_types (HO324.out) BK321.out (by decide)) (fun k_ hk => hk.2))))) (Reps.c6 (show Kd.FK k90 _ _ (⟨y325, (⟨(⟨0, 0⟩ : S86), 0⟩ : S88), 0, false⟩ : S90) [.slice Ao36 y325.length co36, .int .u64 0, .int .u64 0, .int .u64 0, .int .u64 0, .bool false] from (k90_mkF _ _ (⟨y325, (⟨(⟨0, 0⟩ : S86), 0⟩ : S88), 0, false⟩ : S90) (Kd.R_reads' (Kd.R_mono (ok' := (fun k_ => k_ ≠ gb321)) (Kd.R_types (HO327.out) BK321.out (by decide)) (fun k_ hk => hk.2))).2.1 (Kd.R_F (Kd.R_mono (ok' := (fun k_ => k_ ≠ gb321)) (Kd.R_types (HO327.out) BK321.out (by decide)) (fun k_ hk => hk.2))))) (Reps.c6 (show Kd.FK k90 _ _ (⟨y328, (⟨(⟨0, 0⟩ : S86), 0⟩ : S88), 0, false⟩ : S90) [.slice Ao39 y328.length co39, .int .u64 0, .int .u64 0, .int .u64 0, .int .u64 0, .bool false] from (k90_mkF _ _ (⟨y328, (⟨(⟨0, 0⟩ : S86), 0⟩ : S88), 0, false⟩ : S90) (Kd.R_reads' (Kd.R_mono (ok' := (fun k_ => k_ ≠ gb321)) (Kd.R_types (HO330.out) BK321.out (by decide)) (fun k_ hk => hk.2))).2.1 (Kd.R_F (Kd.R_mono (ok' := (fun k_ => k_ ≠ gb321)) (Kd.R_types (HO330.out) BK321.out (by decide)) (fun k_ hk => hk.2))))) (Reps.none _ _))))); intro v332 w40 ho41 hb hg_ hnew_; clear hg_ hnew_; (first | rw [← Ny331.out] at ho41 | (simp only [Int.reduceToNat] at ho41; rw [← Ny331.out] at ho41)); have n0_ := Aside0.mk (Kd.N_lower ho41 (below_size (by repeat (first | (with_reducible first | exact HB.out | apply below_alloc | apply pw_below_drewN | apply below_drew1 | refine below_set ?_ GE321.out) | exact HB.out)))); have n1_ := Aside0.mk (blk_below (g := gb321) (o := .cells #[.int .u32 3, .int .u32 0] 34 (0, 0)) (by (with_reducible repeat (first | refine blk_drewN ?_ _ | refine blk_drew ?_ | refine blk_alloc ?_ _)); exact BK321.out) hb); have n2_ := Aside0.mk (below_step (by repeat (first | (with_reducible first | exact HB.out | apply below_alloc | apply pw_below_drewN | apply below_drew1 | refine below_set ?_ GE321.out) | exact HB.out)) hb); clear BK321; clear HB; clear HO324; clear HO327; clear HO330; have HO333 := n0_; have BK321 := n1_; have HB := n2_; clear n0_ n1_ n2_; clear hb ho41; have hcz42_0 : w40.cell? ⟨gb321, 0, none⟩ = some (.int .u32 3) := (blk_cell BK321.out 0).trans rfl; have hcz42_1 : w40.cell? ⟨gb321, 1, none⟩ = some (.int .u32 0) := (blk_cell BK321.out 1).trans rfl; have hfz42_0 := blk_frozen BK321.out 0; have hfz42_1 := blk_frozen BK321.out 1) | ((with_reducible refine gate_dst (N := 23) rfl ?_); (try (refine gate_guard (by rfl) ?_; dsimp only)); refine Kd.R_lit k36 _ 36 ?hg (N := 23) ?hd (xs := ([(⟨1, (-1), (⟨3, 0⟩ : S34)⟩ : S36), (⟨2, (-1), (⟨3, 0⟩ : S34)⟩ : S36), (⟨3, 1, (⟨3, 0⟩ : S34)⟩ : S36), (⟨4, (-1), (⟨3, 0⟩ : S34)⟩ : S36)] : List (S36))) (inner := [.int .i64 1, .int .i64 (-1), .int .u32 3, .int .u32 0, .int .i64 2, .int .i64 (-1), .int .u32 3, .int .u32 0, .int .i64 3, .int .i64 1, .int .u32 3, .int .u32 0, .int .i64 4, .int .i64 (-1), .int .u32 3, .int .u32 0]) (ok := fun _ => True) (okp := fun _ => True) ?hr ?hp (fun _ hk => hk) trivial (Below.refl _ _) (Nat.le_refl _) (by simp) ?_; (case hd => rfl); (case hg => rfl); (case hr => first | (go_simp; done) | (go_simp; rfl)); (case hp => exact (Reps.c4 (show Kd.M k36 _ _ _ (⟨1, (-1), (⟨3, 0⟩ : S34)⟩ : S36) [.int .i64 1, .int .i64 (-1), .int .u32 3, .int .u32 0] from (k36_mkM _ _ _ (⟨1, (-1), (⟨3, 0⟩ : S34)⟩ : S36) )) (Reps.c4 (show Kd.M k36 _ _ _ (⟨2, (-1), (⟨3, 0⟩ : S34)⟩ : S36) [.int .i64 2, .int .i64 (-1), .int .u32 3, .int .u32 0] from (k36_mkM _ _ _ (⟨2, (-1), (⟨3, 0⟩ : S34)⟩ : S36) )) (Reps.c4 (show Kd.M k36 _ _ _ (⟨3, 1, (⟨3, 0⟩ : S34)⟩ : S36) [.int .i64 3, .int .i64 1, .int .u32 3, .int .u32 0] from (k36_mkM _ _ _ (⟨3, 1, (⟨3, 0⟩ : S34)⟩ : S36) )) (Reps.c4 (show Kd.M k36 _ _ _ (⟨4, (-1), (⟨3, 0⟩ : S34)⟩ : S36) [.int .i64 4, .int .i64 (-1), .int .u32 3, .int .u32 0] from (k36_mkM _ _ _ (⟨4, (-1), (⟨3, 0⟩ : S34)⟩ : S36) )) (Reps.none _ _)))))); intro v335 w43 ho44 hb hg_ hnew_; clear hg_ hnew_; (first | rw [← Ny334.out] at ho44 | (simp only [Int.reduceToNat] at ho44; rw [← Ny334.out] at ho44)); have n0_ := Aside0.mk (Kd.N_elder' (by (with_reducible repeat (first | apply Kd.N_alloc | apply Kd.N_drewN | apply Kd.N_drew)); exact HO333.out) (Kd.R_base ho44) hb); have n1_ := Aside0.mk (Kd.R_lower ho44 (below_size (by repeat (first | (with_reducible first | exact HB.out | apply below_alloc | apply pw_below_drewN | apply below_drew1 | refine below_set ?_ GE321.out) | exact HB.out)))); have n2_ := Aside0.mk (blk_below (g := gb321) (o := .cells #[.int .u32 3, .int .u32 0] 34 (0, 0)) (by (with_reducible repeat (first | refine blk_drewN ?_ _ | refine blk_drew ?_ | refine blk_alloc ?_ _)); exact BK321.out) hb); have n3_ := Aside0.mk (below_step (by repeat (first | (with_reducible first | exact HB.out | apply below_alloc | apply pw_below_drewN | apply below_drew1 | refine below_set ?_ GE321.out) | exact HB.out)) hb); clear HO333; clear BK321; clear HB; have HO333 := n0_; have HO336 := n1_; have BK321 := n2_; have HB := n3_; clear n0_ n1_ n2_ n3_; clear hb ho44; obtain ⟨Ao45, co45, eo45⟩ := Kd.N_slice HO333.out; subst eo45; obtain ⟨Ao46, co46, eo46⟩ := Kd.R_slice HO336.out; subst eo46) | ((with_reducible refine gate_callee (f := 20) rfl ?_); refine goesL_ (some 27) rfl rfl Tryd.func20 (by kernel_rfl) rfl #[.slice Ao45 y331.length co45, .slice Ao46 y334.length co46, .int .u32 3] rfl (by (try simp only [List.map_toArray, List.map_cons, List.map_nil]); first | done | rfl | (simp only [List.length_drop, List.length_take]; rfl)) ?_; (with_reducible refine (pick_Pick.calls _ _ y331 _ _ y334 3 t337 t338 t339 _ ?side1 ?side2 ?side3 ?side4 ?tb A1.out).mono ?_); (case tb => exact HT.out.step (by repeat (first | (with_reducible first | exact HB.out | apply below_alloc | apply pw_below_drewN | apply below_drew1 | refine below_set ?_ GE321.out) | exact HB.out))); (case side1 => repeat (first | exact (Kd.N_reads' HO333.out).2.2 | (with_reducible refine Kd.C_alloc ?_ _) | (with_reducible refine Kd.C_drewN ?_ _) | (with_reducible refine Kd.C_drew ?_))); (case side2 => exact (Kd.N_reads' HO333.out).2.1); (case side3 => repeat (first | exact (Kd.R_reads' HO336.out).2.2 | (with_reducible refine Kd.C_alloc ?_ _) | (with_reducible refine Kd.C_drewN ?_ _) | (with_reducible refine Kd.C_drew ?_))); (case side4 => exact (Kd.R_reads' HO336.out).2.1); rintro e w47 ⟨v340, v342, rfl, ho0, ho1, hb⟩; refine ⟨_, rfl, ?_⟩; have n0_ := Aside0.mk (Kd.N_mono (Kd.N_told (Kd.N_told (Kd.N_old (by (with_reducible repeat (first | apply Kd.N_alloc | apply Kd.N_drewN | apply Kd.N_drew)); exact HO333.out) hb) (Kd.R_base ho0)) (Kd.R_base ho1)) (fun _ h_ => h_.1)); have n1_ := Aside0.mk (Kd.R_below (by (with_reducible repeat (first | apply Kd.R_alloc | apply Kd.R_drewN | apply Kd.R_drew)); exact HO336.out) hb); have n2_ := Aside0.mk (Kd.R_lower ho0 (below_size (by repeat (first | (with_reducible first | exact HB.out | apply below_alloc | apply pw_below_drewN | apply below_drew1 | refine below_set ?_ GE321.out) | exact HB.out)))); have n3_ := Aside0.mk (Kd.R_lower ho1 (below_size (by repeat (first | (with_reducible first | exact HB.out | apply below_alloc | apply pw_below_drewN | apply below_drew1 | refine below_set ?_ GE321.out) | exact HB.out)))); have n4_ := Aside0.mk (blk_below (g := gb321) (o := .cells #[.int .u32 3, .int .u32 0] 34 (0, 0)) (by (with_reducible repeat (first | refine blk_drewN ?_ _ | refine blk_drew ?_ | refine blk_alloc ?_ _)); exact BK321.out) hb); have n5_ := Aside0.mk (below_step (by repeat (first | (with_reducible first | exact HB.out | apply below_alloc | apply pw_below_drewN | apply below_drew1 | refine below_set ?_ GE321.out) | exact HB.out)) hb); clear HO333; clear HO336; clear BK321; clear HB; have HO333 := n0_; have HO336 := n1_; have HO341 := n2_; have HO343 := n3_; have BK321 := n4_; have HB := n5_; clear n0_ n1_ n2_ n3_ n4_ n5_; (try clear hb); (try clear hb2); (try clear hk); (try clear hi); (try clear ho0); (try clear ho1); obtain ⟨Ao48, co48, eo48⟩ := Kd.R_slice HO341.out; subst eo48; have p344 : 0 ≤ (0 : Int) := (by omega); have q344 : 0 < (t337.length : Int) := of_decide_eq_true (by first | (with_reducible assumption) | assumption); obtain ⟨ad344, e344, hx344_0, hx344_1⟩ := at_T31 (Kd.R_reads' HO341.out).2.2 0 p344 q344; cases e344; have qi344 : (0 < t337.length) = True := eq_true (by omega); (try rw [show ((0 : Int)).toNat = 0 from rfl] at hx344_0); (try rw [show 0 * 2 = 0 from rfl] at hx344_0); (try rw [Addr.add_zero'] at hx344_0); (try rw [show ((0 : Int)).toNat = 0 from rfl] at hx344_1); (try rw [show 0 * 2 = 0 from rfl] at hx344_1); (try rw [Addr.add_zero'] at hx344_1); replace p344 := eq_true p344; replace q344 := eq_true q344; have p345 : 0 ≤ (1 : Int) := (by omega); have q345 : 1 < (t337.length : Int) := of_decide_eq_true (by first | (with_reducible assumption) | assumption); obtain ⟨ad345, e345, hx345_0, hx345_1⟩ := at_T31 (Kd.R_reads' HO341.out).2.2 1 p345 q345; obtain rfl : ad344 = ad345 := (by injection e345); (try simp only [show (1 : Int).toNat = 1 from rfl, Nat.reduceMul, Nat.reduceEqDiff, Go.Addr.add, ↓reduceIte] at hx345_0); (try simp only [show (1 : Int).toNat = 1 from rfl, Nat.reduceMul, Nat.reduceEqDiff, Go.Addr.add, ↓reduceIte] at hx345_1); have qi345 : (1 < t337.length) = True := eq_true (by omega); (try rw [show ((1 : Int)).toNat = 1 from rfl] at hx345_0); (try rw [show 1 * 2 = 2 from rfl] at hx345_0); (try rw [show ((1 : Int)).toNat = 1 from rfl] at hx345_1); (try rw [show 1 * 2 = 2 from rfl] at hx345_1); replace p345 := eq_true p345; replace q345 := eq_true q345))
       go_ret
       exact ⟨by first | rfl | (simp [errW_none, errW_some] <;> rfl) | (simp [*, errW_none, errW_some] <;> rfl), by repeat (first | (with_reducible first | exact HB.out | apply below_alloc | apply pw_below_drewN | apply below_drew1 | refine below_set ?_ GE321.out) | exact HB.out)⟩
     ·rw [if_neg c6] at H
      exact absurd H (by simp)
    ·rw [if_neg c5] at H
     have c5b0 : (((rd_T31 t337 0).f0) == 3 && (((rd_T31 t337 0).f1) == 1)) = false := by simpa using c5
     (try (have c5b1 : decide (((rd_T31 t337 0).f0) = 3 && (((rd_T31 t337 0).f1) == 1)) = false := by simpa using c5))
     (try (have c5b2 : (((rd_T31 t337 0).f0) == 3 && (((rd_T31 t337 0).f1) == 1)) = false := by simpa using c5))
     (try (have c5b3 : ¬ (((rd_T31 t337 0).f0) = 3 && (((rd_T31 t337 0).f1) == 1)) := by simpa using c5))
     clear c5
     obtain rfl := Option.some.inj H
     go_enter Tryd.func18, Tryd.ntmps18
     go_wp2_with (first | ((with_reducible refine gate_dst (N := 1) rfl ?_); (try (refine gate_guard (by rfl) ?_; dsimp only)); refine box_event ?hg (N := 1) ?hd (cs := #[.int .u32 0, .int .u32 0]) (t := 34) ?hr ?_; (case hd => rfl); (case hg => rfl); (case hr => first | (go_simp; done) | (go_simp; rfl)); intro gb321 hg w49 hbox hb; have n0_ := Aside0.mk (below_step (by repeat (first | (with_reducible first | exact HB.out | apply below_alloc | apply pw_below_drewN | apply below_drew1) | exact HB.out)) hb); have n1_ := Aside0.mk (hbox); have n2_ := Aside0.mk ((by rw [hg]; exact (below_size (by repeat (first | (with_reducible first | exact HB.out | apply below_alloc | apply pw_below_drewN | apply below_drew1) | exact HB.out))) : w.heap.size ≤ gb321)); have n3_ := Aside0.mk ((by rw [hg]; exact (below_size (by repeat (first | (with_reducible first | exact HB.out | apply below_alloc | apply pw_below_drewN | apply below_drew1) | exact HB.out))) : w.heap.size ≤ gb321)); clear HB; have HB := n0_; have BK321 := n1_; have GW321 := n2_; have GE321 := n3_; clear n0_ n1_ n2_ n3_; clear hb hbox hg; have hcz50_0 : w49.cell? ⟨gb321, 0, none⟩ = some (.int .u32 0) := (blk_cell BK321.out 0).trans rfl; have hcz50_1 : w49.cell? ⟨gb321, 1, none⟩ = some (.int .u32 0) := (blk_cell BK321.out 1).trans rfl; have hfz50_0 := blk_frozen BK321.out 0; have hfz50_1 := blk_frozen BK321.out 1) | ((with_reducible refine gate_dst (N := 8) rfl ?_); (try (refine gate_guard (by rfl) ?_; dsimp only)); refine Kd.R_lit (Kd.int .i64) _ 3 ?hg (N := 8) ?hd (xs := ([3] : List Int)) (inner := [.int .i64 3]) (ok := fun _ => True) (okp := fun _ => True) ?hr ?hp (fun _ hk => hk) trivial (Below.refl _ _) (Nat.le_refl _) (by simp) ?_; (case hd => rfl); (case hg => rfl); (case hr => first | (go_simp; done) | (go_simp; rfl)); (case hp => exact (Reps.one (show Kd.M (Kd.int .i64) _ _ _ 3 [.int .i64 3] from rfl) (Reps.none _ _))); intro v323 w51 ho52 hb hg_ hnew_; clear hg_ hnew_; (first | rw [← Ny322.out] at ho52 | (simp only [Int.reduceToNat] at ho52; rw [← Ny322.out] at ho52)); have n0_ := Aside0.mk (Kd.R_lower ho52 (below_size (by repeat (first | (with_reducible first | exact HB.out | apply below_alloc | apply pw_below_drewN | apply below_drew1 | refine below_set ?_ GE321.out) | exact HB.out)))); have n1_ := Aside0.mk (blk_below (g := gb321) (o := .cells #[.int .u32 3, .int .u32 0] 34 (0, 0)) (by (with_reducible repeat (first | refine blk_drewN ?_ _ | refine blk_drew ?_ | refine blk_alloc ?_ _)); refine blk_put (cs := #[.int .u32 3, .int .u32 0]) ?_ 1 _ rfl; (with_reducible repeat (first | refine blk_drewN ?_ _ | refine blk_drew ?_ | refine blk_alloc ?_ _)); refine blk_put (cs := #[.int .u32 0, .int .u32 0]) ?_ 0 _ rfl; (with_reducible repeat (first | refine blk_drewN ?_ _ | refine blk_drew ?_ | refine blk_alloc ?_ _)); exact BK321.out) hb); have n2_ := Aside0.mk (below_step (by repeat (first | (with_reducible first | exact HB.out | apply below_alloc | apply pw_below_drewN | apply below_drew1 | refine below_set ?_ GE321.out) | exact HB.out)) hb); clear BK321; clear HB; have HO324 := n0_; have BK321 := n1_; have HB := n2_; clear n0_ n1_ n2_; clear hb ho52; obtain ⟨Ao53, co53, eo53⟩ := Kd.R_slice HO324.out; subst eo53) | ((with_reducible refine gate_dst (N := 10) rfl ?_); (try (refine gate_guard (by rfl) ?_; dsimp only)); refine Kd.R_lit (Kd.int .i64) _ 3 ?hg (N := 10) ?hd (xs := ([1, 2] : List Int)) (inner := [.int .i64 1, .int .i64 2]) (ok := fun _ => True) (okp := fun _ => True) ?hr ?hp (fun _ hk => hk) trivial (Below.refl _ _) (Nat.le_refl _) (by simp) ?_; (case hd => rfl); (case hg => rfl); (case hr => first | (go_simp; done) | (go_simp; rfl)); (case hp => exact (Reps.one (show Kd.M (Kd.int .i64) _ _ _ 1 [.int .i64 1] from rfl) (Reps.one (show Kd.M (Kd.int .i64) _ _ _ 2 [.int .i64 2] from rfl) (Reps.none _ _)))); intro v326 w54 ho55 hb hg_ hnew_; clear hg_ hnew_; (first | rw [← Ny325.out] at ho55 | (simp only [Int.reduceToNat] at ho55; rw [← Ny325.out] at ho55)); have n0_ := Aside0.mk (Kd.R_elder' (by (with_reducible repeat (first | apply Kd.R_alloc | apply Kd.R_drewN | apply Kd.R_drew)); exact HO324.out) (Kd.R_base ho55) hb); have n1_ := Aside0.mk (Kd.R_lower (Kd.R_new' ho55 (Kd.R_lt (by (with_reducible repeat (first | apply Kd.R_alloc | apply Kd.R_drewN | apply Kd.R_drew)); exact HO324.out))) (below_size (by repeat (first | (with_reducible first | exact HB.out | apply below_alloc | apply pw_below_drewN | apply below_drew1 | refine below_set ?_ GE321.out) | exact HB.out)))); have n2_ := Aside0.mk (blk_below (g := gb321) (o := .cells #[.int .u32 3, .int .u32 0] 34 (0, 0)) (by (with_reducible repeat (first | refine blk_drewN ?_ _ | refine blk_drew ?_ | refine blk_alloc ?_ _)); exact BK321.out) hb); have n3_ := Aside0.mk (below_step (by repeat (first | (with_reducible first | exact HB.out | apply below_alloc | apply pw_below_drewN | apply below_drew1 | refine below_set ?_ GE321.out) | exact HB.out)) hb); clear HO324; clear BK321; clear HB; have HO324 := n0_; have HO327 := n1_; have BK321 := n2_; have HB := n3_; clear n0_ n1_ n2_ n3_; clear hb ho55; obtain ⟨Ao56, co56, eo56⟩ := Kd.R_slice HO327.out; subst eo56) | ((with_reducible refine gate_dst (N := 12) rfl ?_); (try (refine gate_guard (by rfl) ?_; dsimp only)); refine Kd.R_lit (Kd.int .i64) _ 3 ?hg (N := 12) ?hd (xs := ([4] : List Int)) (inner := [.int .i64 4]) (ok := fun _ => True) (okp := fun _ => True) ?hr ?hp (fun _ hk => hk) trivial (Below.refl _ _) (Nat.le_refl _) (by simp) ?_; (case hd => rfl); (case hg => rfl); (case hr => first | (go_simp; done) | (go_simp; rfl)); (case hp => exact (Reps.one (show Kd.M (Kd.int .i64) _ _ _ 4 [.int .i64 4] from rfl) (Reps.none _ _))); intro v329 w57 ho58 hb hg_ hnew_; clear hg_ hnew_; (first | rw [← Ny328.out] at ho58 | (simp only [Int.reduceToNat] at ho58; rw [← Ny328.out] at ho58)); have n0_ := Aside0.mk (Kd.R_elder' (by (with_reducible repeat (first | apply Kd.R_alloc | apply Kd.R_drewN | apply Kd.R_drew)); exact HO324.out) (Kd.R_base ho58) hb); have n1_ := Aside0.mk (Kd.R_elder' (by (with_reducible repeat (first | apply Kd.R_alloc | apply Kd.R_drewN | apply Kd.R_drew)); exact HO327.out) (Kd.R_base ho58) hb); have n2_ := Aside0.mk (Kd.R_lower (Kd.R_new' (Kd.R_new' ho58 (Kd.R_lt (by (with_reducible repeat (first | apply Kd.R_alloc | apply Kd.R_drewN | apply Kd.R_drew)); exact HO324.out))) (Kd.R_lt (by (with_reducible repeat (first | apply Kd.R_alloc | apply Kd.R_drewN | apply Kd.R_drew)); exact HO327.out))) (below_size (by repeat (first | (with_reducible first | exact HB.out | apply below_alloc | apply pw_below_drewN | apply below_drew1 | refine below_set ?_ GE321.out) | exact HB.out)))); have n3_ := Aside0.mk (blk_below (g := gb321) (o := .cells #[.int .u32 3, .int .u32 0] 34 (0, 0)) (by (with_reducible repeat (first | refine blk_drewN ?_ _ | refine blk_drew ?_ | refine blk_alloc ?_ _)); exact BK321.out) hb); have n4_ := Aside0.mk (below_step (by repeat (first | (with_reducible first | exact HB.out | apply below_alloc | apply pw_below_drewN | apply below_drew1 | refine below_set ?_ GE321.out) | exact HB.out)) hb); clear HO324; clear HO327; clear BK321; clear HB; have HO324 := n0_; have HO327 := n1_; have HO330 := n2_; have BK321 := n3_; have HB := n4_; clear n0_ n1_ n2_ n3_ n4_; clear hb ho58; obtain ⟨Ao59, co59, eo59⟩ := Kd.R_slice HO330.out; subst eo59) | ((with_reducible refine gate_dst (N := 14) rfl ?_); (try (refine gate_guard (by rfl) ?_; dsimp only)); refine Kd.N_lit k90 _ 90 ?hg (N' := 14) ?hd (xs := ([(⟨y322, (⟨(⟨0, 0⟩ : S86), 0⟩ : S88), 0, false⟩ : S90), (⟨y325, (⟨(⟨0, 0⟩ : S86), 0⟩ : S88), 0, false⟩ : S90), (⟨y328, (⟨(⟨0, 0⟩ : S86), 0⟩ : S88), 0, false⟩ : S90)] : List (S90))) (inner := [.slice Ao53 y322.length co53, .int .u64 0, .int .u64 0, .int .u64 0, .int .u64 0, .bool false, .slice Ao56 y325.length co56, .int .u64 0, .int .u64 0, .int .u64 0, .int .u64 0, .bool false, .slice Ao59 y328.length co59, .int .u64 0, .int .u64 0, .int .u64 0, .int .u64 0, .bool false]) (ok := (fun k_ => k_ ≠ gb321)) (okp := (fun k_ => k_ ≠ gb321)) ?hr ?hp (fun _ hk => hk) ((show ∀ k_, w57.heap.size ≤ k_ → (fun k_ => k_ ≠ gb321) k_ from fun k_ hk => Kd.freshB (g := gb321) (o := .cells #[.int .u32 3, .int .u32 0] 34 (0, 0)) (by (with_reducible repeat (first | refine blk_drewN ?_ _ | refine blk_drew ?_ | refine blk_alloc ?_ _)); exact BK321.out) k_ hk) _ (Nat.le_refl _)) (Below.refl _ _) (Nat.le_refl _) (by simp) ?_; (case hd => rfl); (case hg => rfl); (case hr => first | (go_simp; done) | (go_simp; rfl)); (case hp => exact (Reps.c6 (show Kd.FK k90 _ _ (⟨y322, (⟨(⟨0, 0⟩ : S86), 0⟩ : S88), 0, false⟩ : S90) [.slice Ao53 y322.length co53, .int .u64 0, .int .u64 0, .int .u64 0, .int .u64 0, .bool false] from (k90_mkF _ _ (⟨y322, (⟨(⟨0, 0⟩ : S86), 0⟩ : S88), 0, false⟩ : S90) (Kd.R_reads' (Kd.R_mono (ok' := (fun k_ => k_ ≠ gb321)) (Kd.R_types (HO324.out) BK321.out (by decide)) (fun k_ hk => hk.2))).2.1 (Kd.R_F (Kd.R_mono (ok' := (fun k_ => k_ ≠ gb321)) (Kd.R_types (HO324.out) BK321.out (by decide)) (fun k_ hk => hk.2))))) (Reps.c6 (show Kd.FK k90 _ _ (⟨y325, (⟨(⟨0, 0⟩ : S86), 0⟩ : S88), 0, false⟩ : S90) [.slice Ao56 y325.length co56, .int .u64 0, .int .u64 0, .int .u64 0, .int .u64 0, .bool false] from (k90_mkF _ _ (⟨y325, (⟨(⟨0, 0⟩ : S86), 0⟩ : S88), 0, false⟩ : S90) (Kd.R_reads' (Kd.R_mono (ok' := (fun k_ => k_ ≠ gb321)) (Kd.R_types (HO327.out) BK321.out (by decide)) (fun k_ hk => hk.2))).2.1 (Kd.R_F (Kd.R_mono (ok' := (fun k_ => k_ ≠ gb321)) (Kd.R_types (HO327.out) BK321.out (by decide)) (fun k_ hk => hk.2))))) (Reps.c6 (show Kd.FK k90 _ _ (⟨y328, (⟨(⟨0, 0⟩ : S86), 0⟩ : S88), 0, false⟩ : S90) [.slice Ao59 y328.length co59, .int .u64 0, .int .u64 0, .int .u64 0, .int .u64 0, .bool false] from (k90_mkF _ _ (⟨y328, (⟨(⟨0, 0⟩ : S86), 0⟩ : S88), 0, false⟩ : S90) (Kd.R_reads' (Kd.R_mono (ok' := (fun k_ => k_ ≠ gb321)) (Kd.R_types (HO330.out) BK321.out (by decide)) (fun k_ hk => hk.2))).2.1 (Kd.R_F (Kd.R_mono (ok' := (fun k_ => k_ ≠ gb321)) (Kd.R_types (HO330.out) BK321.out (by decide)) (fun k_ hk => hk.2))))) (Reps.none _ _))))); intro v332 w60 ho61 hb hg_ hnew_; clear hg_ hnew_; (first | rw [← Ny331.out] at ho61 | (simp only [Int.reduceToNat] at ho61; rw [← Ny331.out] at ho61)); have n0_ := Aside0.mk (Kd.N_lower ho61 (below_size (by repeat (first | (with_reducible first | exact HB.out | apply below_alloc | apply pw_below_drewN | apply below_drew1 | refine below_set ?_ GE321.out) | exact HB.out)))); have n1_ := Aside0.mk (blk_below (g := gb321) (o := .cells #[.int .u32 3, .int .u32 0] 34 (0, 0)) (by (with_reducible repeat (first | refine blk_drewN ?_ _ | refine blk_drew ?_ | refine blk_alloc ?_ _)); exact BK321.out) hb); have n2_ := Aside0.mk (below_step (by repeat (first | (with_reducible first | exact HB.out | apply below_alloc | apply pw_below_drewN | apply below_drew1 | refine below_set ?_ GE321.out) | exact HB.out)) hb); clear BK321; clear HB; clear HO324; clear HO327; clear HO330; have HO333 := n0_; have BK321 := n1_; have HB := n2_; clear n0_ n1_ n2_; clear hb ho61; have hcz62_0 : w60.cell? ⟨gb321, 0, none⟩ = some (.int .u32 3) := (blk_cell BK321.out 0).trans rfl; have hcz62_1 : w60.cell? ⟨gb321, 1, none⟩ = some (.int .u32 0) := (blk_cell BK321.out 1).trans rfl; have hfz62_0 := blk_frozen BK321.out 0; have hfz62_1 := blk_frozen BK321.out 1) | ((with_reducible refine gate_dst (N := 23) rfl ?_); (try (refine gate_guard (by rfl) ?_; dsimp only)); refine Kd.R_lit k36 _ 36 ?hg (N := 23) ?hd (xs := ([(⟨1, (-1), (⟨3, 0⟩ : S34)⟩ : S36), (⟨2, (-1), (⟨3, 0⟩ : S34)⟩ : S36), (⟨3, 1, (⟨3, 0⟩ : S34)⟩ : S36), (⟨4, (-1), (⟨3, 0⟩ : S34)⟩ : S36)] : List (S36))) (inner := [.int .i64 1, .int .i64 (-1), .int .u32 3, .int .u32 0, .int .i64 2, .int .i64 (-1), .int .u32 3, .int .u32 0, .int .i64 3, .int .i64 1, .int .u32 3, .int .u32 0, .int .i64 4, .int .i64 (-1), .int .u32 3, .int .u32 0]) (ok := fun _ => True) (okp := fun _ => True) ?hr ?hp (fun _ hk => hk) trivial (Below.refl _ _) (Nat.le_refl _) (by simp) ?_; (case hd => rfl); (case hg => rfl); (case hr => first | (go_simp; done) | (go_simp; rfl)); (case hp => exact (Reps.c4 (show Kd.M k36 _ _ _ (⟨1, (-1), (⟨3, 0⟩ : S34)⟩ : S36) [.int .i64 1, .int .i64 (-1), .int .u32 3, .int .u32 0] from (k36_mkM _ _ _ (⟨1, (-1), (⟨3, 0⟩ : S34)⟩ : S36) )) (Reps.c4 (show Kd.M k36 _ _ _ (⟨2, (-1), (⟨3, 0⟩ : S34)⟩ : S36) [.int .i64 2, .int .i64 (-1), .int .u32 3, .int .u32 0] from (k36_mkM _ _ _ (⟨2, (-1), (⟨3, 0⟩ : S34)⟩ : S36) )) (Reps.c4 (show Kd.M k36 _ _ _ (⟨3, 1, (⟨3, 0⟩ : S34)⟩ : S36) [.int .i64 3, .int .i64 1, .int .u32 3, .int .u32 0] from (k36_mkM _ _ _ (⟨3, 1, (⟨3, 0⟩ : S34)⟩ : S36) )) (Reps.c4 (show Kd.M k36 _ _ _ (⟨4, (-1), (⟨3, 0⟩ : S34)⟩ : S36) [.int .i64 4, .int .i64 (-1), .int .u32 3, .int .u32 0] from (k36_mkM _ _ _ (⟨4, (-1), (⟨3, 0⟩ : S34)⟩ : S36) )) (Reps.none _ _)))))); intro v335 w63 ho64 hb hg_ hnew_; clear hg_ hnew_; (first | rw [← Ny334.out] at ho64 | (simp only [Int.reduceToNat] at ho64; rw [← Ny334.out] at ho64)); have n0_ := Aside0.mk (Kd.N_elder' (by (with_reducible repeat (first | apply Kd.N_alloc | apply Kd.N_drewN | apply Kd.N_drew)); exact HO333.out) (Kd.R_base ho64) hb); have n1_ := Aside0.mk (Kd.R_lower ho64 (below_size (by repeat (first | (with_reducible first | exact HB.out | apply below_alloc | apply pw_below_drewN | apply below_drew1 | refine below_set ?_ GE321.out) | exact HB.out)))); have n2_ := Aside0.mk (blk_below (g := gb321) (o := .cells #[.int .u32 3, .int .u32 0] 34 (0, 0)) (by (with_reducible repeat (first | refine blk_drewN ?_ _ | refine blk_drew ?_ | refine blk_alloc ?_ _)); exact BK321.out) hb); have n3_ := Aside0.mk (below_step (by repeat (first | (with_reducible first | exact HB.out | apply below_alloc | apply pw_below_drewN | apply below_drew1 | refine below_set ?_ GE321.out) | exact HB.out)) hb); clear HO333; clear BK321; clear HB; have HO333 := n0_; have HO336 := n1_; have BK321 := n2_; have HB := n3_; clear n0_ n1_ n2_ n3_; clear hb ho64; obtain ⟨Ao65, co65, eo65⟩ := Kd.N_slice HO333.out; subst eo65; obtain ⟨Ao66, co66, eo66⟩ := Kd.R_slice HO336.out; subst eo66) | ((with_reducible refine gate_callee (f := 20) rfl ?_); refine goesL_ (some 27) rfl rfl Tryd.func20 (by kernel_rfl) rfl #[.slice Ao65 y331.length co65, .slice Ao66 y334.length co66, .int .u32 3] rfl (by (try simp only [List.map_toArray, List.map_cons, List.map_nil]); first | done | rfl | (simp only [List.length_drop, List.length_take]; rfl)) ?_; (with_reducible refine (pick_Pick.calls _ _ y331 _ _ y334 3 t337 t338 t339 _ ?side1 ?side2 ?side3 ?side4 ?tb A1.out).mono ?_); (case tb => exact HT.out.step (by repeat (first | (with_reducible first | exact HB.out | apply below_alloc | apply pw_below_drewN | apply below_drew1 | refine below_set ?_ GE321.out) | exact HB.out))); (case side1 => repeat (first | exact (Kd.N_reads' HO333.out).2.2 | (with_reducible refine Kd.C_alloc ?_ _) | (with_reducible refine Kd.C_drewN ?_ _) | (with_reducible refine Kd.C_drew ?_))); (case side2 => exact (Kd.N_reads' HO333.out).2.1); (case side3 => repeat (first | exact (Kd.R_reads' HO336.out).2.2 | (with_reducible refine Kd.C_alloc ?_ _) | (with_reducible refine Kd.C_drewN ?_ _) | (with_reducible refine Kd.C_drew ?_))); (case side4 => exact (Kd.R_reads' HO336.out).2.1); rintro e w67 ⟨v340, v342, rfl, ho0, ho1, hb⟩; refine ⟨_, rfl, ?_⟩; have n0_ := Aside0.mk (Kd.N_mono (Kd.N_told (Kd.N_told (Kd.N_old (by (with_reducible repeat (first | apply Kd.N_alloc | apply Kd.N_drewN | apply Kd.N_drew)); exact HO333.out) hb) (Kd.R_base ho0)) (Kd.R_base ho1)) (fun _ h_ => h_.1)); have n1_ := Aside0.mk (Kd.R_below (by (with_reducible repeat (first | apply Kd.R_alloc | apply Kd.R_drewN | apply Kd.R_drew)); exact HO336.out) hb); have n2_ := Aside0.mk (Kd.R_lower ho0 (below_size (by repeat (first | (with_reducible first | exact HB.out | apply below_alloc | apply pw_below_drewN | apply below_drew1 | refine below_set ?_ GE321.out) | exact HB.out)))); have n3_ := Aside0.mk (Kd.R_lower ho1 (below_size (by repeat (first | (with_reducible first | exact HB.out | apply below_alloc | apply pw_below_drewN | apply below_drew1 | refine below_set ?_ GE321.out) | exact HB.out)))); have n4_ := Aside0.mk (blk_below (g := gb321) (o := .cells #[.int .u32 3, .int .u32 0] 34 (0, 0)) (by (with_reducible repeat (first | refine blk_drewN ?_ _ | refine blk_drew ?_ | refine blk_alloc ?_ _)); exact BK321.out) hb); have n5_ := Aside0.mk (below_step (by repeat (first | (with_reducible first | exact HB.out | apply below_alloc | apply pw_below_drewN | apply below_drew1 | refine below_set ?_ GE321.out) | exact HB.out)) hb); clear HO333; clear HO336; clear BK321; clear HB; have HO333 := n0_; have HO336 := n1_; have HO341 := n2_; have HO343 := n3_; have BK321 := n4_; have HB := n5_; clear n0_ n1_ n2_ n3_ n4_ n5_; (try clear hb); (try clear hb2); (try clear hk); (try clear hi); (try clear ho0); (try clear ho1); obtain ⟨Ao68, co68, eo68⟩ := Kd.R_slice HO341.out; subst eo68; have p344 : 0 ≤ (0 : Int) := (by omega); have q344 : 0 < (t337.length : Int) := of_decide_eq_true (by first | (with_reducible assumption) | assumption); obtain ⟨ad344, e344, hx344_0, hx344_1⟩ := at_T31 (Kd.R_reads' HO341.out).2.2 0 p344 q344; cases e344; have qi344 : (0 < t337.length) = True := eq_true (by omega); (try rw [show ((0 : Int)).toNat = 0 from rfl] at hx344_0); (try rw [show 0 * 2 = 0 from rfl] at hx344_0); (try rw [Addr.add_zero'] at hx344_0); (try rw [show ((0 : Int)).toNat = 0 from rfl] at hx344_1); (try rw [show 0 * 2 = 0 from rfl] at hx344_1); (try rw [Addr.add_zero'] at hx344_1); replace p344 := eq_true p344; replace q344 := eq_true q344))
     go_ret
     exact ⟨by first | rfl | (simp [errW_none, errW_some] <;> rfl) | (simp [*, errW_none, errW_some] <;> rfl), by repeat (first | (with_reducible first | exact HB.out | apply below_alloc | apply pw_below_drewN | apply below_drew1 | refine below_set ?_ GE321.out) | exact HB.out)⟩
   ·rw [if_neg c4] at H
    exact absurd H (by simp)
  ·rw [if_neg c3] at H
   have c3b0 : ((t337.length : Int) == 2) = false := beq_eq_false_iff_ne.mpr c3
   have c3b1 : ((t337.length : Int) != 2) = true := bne_iff_ne.mpr c3
   obtain rfl := Option.some.inj H
   go_enter Tryd.func18, Tryd.ntmps18
   go_wp2_with (first | ((with_reducible refine gate_dst (N := 1) rfl ?_); (try (refine gate_guard (by rfl) ?_; dsimp only)); refine box_event ?hg (N := 1) ?hd (cs := #[.int .u32 0, .int .u32 0]) (t := 34) ?hr ?_; (case hd => rfl); (case hg => rfl); (case hr => first | (go_simp; done) | (go_simp; rfl)); intro gb321 hg w69 hbox hb; have n0_ := Aside0.mk (below_step (by repeat (first | (with_reducible first | exact HB.out | apply below_alloc | apply pw_below_drewN | apply below_drew1) | exact HB.out)) hb); have n1_ := Aside0.mk (hbox); have n2_ := Aside0.mk ((by rw [hg]; exact (below_size (by repeat (first | (with_reducible first | exact HB.out | apply below_alloc | apply pw_below_drewN | apply below_drew1) | exact HB.out))) : w.heap.size ≤ gb321)); have n3_ := Aside0.mk ((by rw [hg]; exact (below_size (by repeat (first | (with_reducible first | exact HB.out | apply below_alloc | apply pw_below_drewN | apply below_drew1) | exact HB.out))) : w.heap.size ≤ gb321)); clear HB; have HB := n0_; have BK321 := n1_; have GW321 := n2_; have GE321 := n3_; clear n0_ n1_ n2_ n3_; clear hb hbox hg; have hcz70_0 : w69.cell? ⟨gb321, 0, none⟩ = some (.int .u32 0) := (blk_cell BK321.out 0).trans rfl; have hcz70_1 : w69.cell? ⟨gb321, 1, none⟩ = some (.int .u32 0) := (blk_cell BK321.out 1).trans rfl; have hfz70_0 := blk_frozen BK321.out 0; have hfz70_1 := blk_frozen BK321.out 1) | ((with_reducible refine gate_dst (N := 8) rfl ?_); (try (refine gate_guard (by rfl) ?_; dsimp only)); refine Kd.R_lit (Kd.int .i64) _ 3 ?hg (N := 8) ?hd (xs := ([3] : List Int)) (inner := [.int .i64 3]) (ok := fun _ => True) (okp := fun _ => True) ?hr ?hp (fun _ hk => hk) trivial (Below.refl _ _) (Nat.le_refl _) (by simp) ?_; (case hd => rfl); (case hg => rfl); (case hr => first | (go_simp; done) | (go_simp; rfl)); (case hp => exact (Reps.one (show Kd.M (Kd.int .i64) _ _ _ 3 [.int .i64 3] from rfl) (Reps.none _ _))); intro v323 w71 ho72 hb hg_ hnew_; clear hg_ hnew_; (first | rw [← Ny322.out] at ho72 | (simp only [Int.reduceToNat] at ho72; rw [← Ny322.out] at ho72)); have n0_ := Aside0.mk (Kd.R_lower ho72 (below_size (by repeat (first | (with_reducible first | exact HB.out | apply below_alloc | apply pw_below_drewN | apply below_drew1 | refine below_set ?_ GE321.out) | exact HB.out)))); have n1_ := Aside0.mk (blk_below (g := gb321) (o := .cells #[.int .u32 3, .int .u32 0] 34 (0, 0)) (by (with_reducible repeat (first | refine blk_drewN ?_ _ | refine blk_drew ?_ | refine blk_alloc ?_ _)); refine blk_put (cs := #[.int .u32 3, .int .u32 0]) ?_ 1 _ rfl; (with_reducible repeat (first | refine blk_drewN ?_ _ | refine blk_drew ?_ | refine blk_alloc ?_ _)); refine blk_put (cs := #[.int .u32 0, .int .u32 0]) ?_ 0 _ rfl; (with_reducible repeat (first | refine blk_drewN ?_ _ | refine blk_drew ?_ | refine blk_alloc ?_ _)); exact BK321.out) hb); have n2_ := Aside0.mk (below_step (by repeat (first | (with_reducible first | exact HB.out | apply below_alloc | apply pw_below_drewN | apply below_drew1 | refine below_set ?_ GE321.out) | exact HB.out)) hb); clear BK321; clear HB; have HO324 := n0_; have BK321 := n1_; have HB := n2_; clear n0_ n1_ n2_; clear hb ho72; obtain ⟨Ao73, co73, eo73⟩ := Kd.R_slice HO324.out; subst eo73) | ((with_reducible refine gate_dst (N := 10) rfl ?_); (try (refine gate_guard (by rfl) ?_; dsimp only)); refine Kd.R_lit (Kd.int .i64) _ 3 ?hg (N := 10) ?hd (xs := ([1, 2] : List Int)) (inner := [.int .i64 1, .int .i64 2]) (ok := fun _ => True) (okp := fun _ => True) ?hr ?hp (fun _ hk => hk) trivial (Below.refl _ _) (Nat.le_refl _) (by simp) ?_; (case hd => rfl); (case hg => rfl); (case hr => first | (go_simp; done) | (go_simp; rfl)); (case hp => exact (Reps.one (show Kd.M (Kd.int .i64) _ _ _ 1 [.int .i64 1] from rfl) (Reps.one (show Kd.M (Kd.int .i64) _ _ _ 2 [.int .i64 2] from rfl) (Reps.none _ _)))); intro v326 w74 ho75 hb hg_ hnew_; clear hg_ hnew_; (first | rw [← Ny325.out] at ho75 | (simp only [Int.reduceToNat] at ho75; rw [← Ny325.out] at ho75)); have n0_ := Aside0.mk (Kd.R_elder' (by (with_reducible repeat (first | apply Kd.R_alloc | apply Kd.R_drewN | apply Kd.R_drew)); exact HO324.out) (Kd.R_base ho75) hb); have n1_ := Aside0.mk (Kd.R_lower (Kd.R_new' ho75 (Kd.R_lt (by (with_reducible repeat (first | apply Kd.R_alloc | apply Kd.R_drewN | apply Kd.R_drew)); exact HO324.out))) (below_size (by repeat (first | (with_reducible first | exact HB.out | apply below_alloc | apply pw_below_drewN | apply below_drew1 | refine below_set ?_ GE321.out) | exact HB.out)))); have n2_ := Aside0.mk (blk_below (g := gb321) (o := .cells #[.int .u32 3, .int .u32 0] 34 (0, 0)) (by (with_reducible repeat (first | refine blk_drewN ?_ _ | refine blk_drew ?_ | refine blk_alloc ?_ _)); exact BK321.out) hb); have n3_ := Aside0.mk (below_step (by repeat (first | (with_reducible first | exact HB.out | apply below_alloc | apply pw_below_drewN | apply below_drew1 | refine below_set ?_ GE321.out) | exact HB.out)) hb); clear HO324; clear BK321; clear HB; have HO324 := n0_; have HO327 := n1_; have BK321 := n2_; have HB := n3_; clear n0_ n1_ n2_ n3_; clear hb ho75; obtain ⟨Ao76, co76, eo76⟩ := Kd.R_slice HO327.out; subst eo76) | ((with_reducible refine gate_dst (N := 12) rfl ?_); (try (refine gate_guard (by rfl) ?_; dsimp only)); refine Kd.R_lit (Kd.int .i64) _ 3 ?hg (N := 12) ?hd (xs := ([4] : List Int)) (inner := [.int .i64 4]) (ok := fun _ => True) (okp := fun _ => True) ?hr ?hp (fun _ hk => hk) trivial (Below.refl _ _) (Nat.le_refl _) (by simp) ?_; (case hd => rfl); (case hg => rfl); (case hr => first | (go_simp; done) | (go_simp; rfl)); (case hp => exact (Reps.one (show Kd.M (Kd.int .i64) _ _ _ 4 [.int .i64 4] from rfl) (Reps.none _ _))); intro v329 w77 ho78 hb hg_ hnew_; clear hg_ hnew_; (first | rw [← Ny328.out] at ho78 | (simp only [Int.reduceToNat] at ho78; rw [← Ny328.out] at ho78)); have n0_ := Aside0.mk (Kd.R_elder' (by (with_reducible repeat (first | apply Kd.R_alloc | apply Kd.R_drewN | apply Kd.R_drew)); exact HO324.out) (Kd.R_base ho78) hb); have n1_ := Aside0.mk (Kd.R_elder' (by (with_reducible repeat (first | apply Kd.R_alloc | apply Kd.R_drewN | apply Kd.R_drew)); exact HO327.out) (Kd.R_base ho78) hb); have n2_ := Aside0.mk (Kd.R_lower (Kd.R_new' (Kd.R_new' ho78 (Kd.R_lt (by (with_reducible repeat (first | apply Kd.R_alloc | apply Kd.R_drewN | apply Kd.R_drew)); exact HO324.out))) (Kd.R_lt (by (with_reducible repeat (first | apply Kd.R_alloc | apply Kd.R_drewN | apply Kd.R_drew)); exact HO327.out))) (below_size (by repeat (first | (with_reducible first | exact HB.out | apply below_alloc | apply pw_below_drewN | apply below_drew1 | refine below_set ?_ GE321.out) | exact HB.out)))); have n3_ := Aside0.mk (blk_below (g := gb321) (o := .cells #[.int .u32 3, .int .u32 0] 34 (0, 0)) (by (with_reducible repeat (first | refine blk_drewN ?_ _ | refine blk_drew ?_ | refine blk_alloc ?_ _)); exact BK321.out) hb); have n4_ := Aside0.mk (below_step (by repeat (first | (with_reducible first | exact HB.out | apply below_alloc | apply pw_below_drewN | apply below_drew1 | refine below_set ?_ GE321.out) | exact HB.out)) hb); clear HO324; clear HO327; clear BK321; clear HB; have HO324 := n0_; have HO327 := n1_; have HO330 := n2_; have BK321 := n3_; have HB := n4_; clear n0_ n1_ n2_ n3_ n4_; clear hb ho78; obtain ⟨Ao79, co79, eo79⟩ := Kd.R_slice HO330.out; subst eo79) | ((with_reducible refine gate_dst (N := 14) rfl ?_); (try (refine gate_guard (by rfl) ?_; dsimp only)); refine Kd.N_lit k90 _ 90 ?hg (N' := 14) ?hd (xs := ([(⟨y322, (⟨(⟨0, 0⟩ : S86), 0⟩ : S88), 0, false⟩ : S90), (⟨y325, (⟨(⟨0, 0⟩ : S86), 0⟩ : S88), 0, false⟩ : S90), (⟨y328, (⟨(⟨0, 0⟩ : S86), 0⟩ : S88), 0, false⟩ : S90)] : List (S90))) (inner := [.slice Ao73 y322.length co73, .int .u64 0, .int .u64 0, .int .u64 0, .int .u64 0, .bool false, .slice Ao76 y325.length co76, .int .u64 0, .int .u64 0, .int .u64 0, .int .u64 0, .bool false, .slice Ao79 y328.length co79, .int .u64 0, .int .u64 0, .int .u64 0, .int .u64 0, .bool false]) (ok := (fun k_ => k_ ≠ gb321)) (okp := (fun k_ => k_ ≠ gb321)) ?hr ?hp (fun _ hk => hk) ((show ∀ k_, w77.heap.size ≤ k_ → (fun k_ => k_ ≠ gb321) k_ from fun k_ hk => Kd.freshB (g := gb321) (o := .cells #[.int .u32 3, .int .u32 0] 34 (0, 0)) (by (with_reducible repeat (first | refine blk_drewN ?_ _ | refine blk_drew ?_ | refine blk_alloc ?_ _)); exact BK321.out) k_ hk) _ (Nat.le_refl _)) (Below.refl _ _) (Nat.le_refl _) (by simp) ?_; (case hd => rfl); (case hg => rfl); (case hr => first | (go_simp; done) | (go_simp; rfl)); (case hp => exact (Reps.c6 (show Kd.FK k90 _ _ (⟨y322, (⟨(⟨0, 0⟩ : S86), 0⟩ : S88), 0, false⟩ : S90) [.slice Ao73 y322.length co73, .int .u64 0, .int .u64 0, .int .u64 0, .int .u64 0, .bool false] from (k90_mkF _ _ (⟨y322, (⟨(⟨0, 0⟩ : S86), 0⟩ : S88), 0, false⟩ : S90) (Kd.R_reads' (Kd.R_mono (ok' := (fun k_ => k_ ≠ gb321)) (Kd.R_types (HO324.out) BK321.out (by decide)) (fun k_ hk => hk.2))).2.1 (Kd.R_F (Kd.R_mono (ok' := (fun k_ => k_ ≠ gb321)) (Kd.R_types (HO324.out) BK321.out (by decide)) (fun k_ hk => hk.2))))) (Reps.c6 (show Kd.FK k90 _ _ (⟨y325, (⟨(⟨0, 0⟩ : S86), 0⟩ : S88), 0, false⟩ : S90) [.slice Ao76 y325.length co76, .int .u64 0, .int .u64 0, .int .u64 0, .int .u64 0, .bool false] from (k90_mkF _ _ (⟨y325, (⟨(⟨0, 0⟩ : S86), 0⟩ : S88), 0, false⟩ : S90) (Kd.R_reads' (Kd.R_mono (ok' := (fun k_ => k_ ≠ gb321)) (Kd.R_types (HO327.out) BK321.out (by decide)) (fun k_ hk => hk.2))).2.1 (Kd.R_F (Kd.R_mono (ok' := (fun k_ => k_ ≠ gb321)) (Kd.R_types (HO327.out) BK321.out (by decide)) (fun k_ hk => hk.2))))) (Reps.c6 (show Kd.FK k90 _ _ (⟨y328, (⟨(⟨0, 0⟩ : S86), 0⟩ : S88), 0, false⟩ : S90) [.slice Ao79 y328.length co79, .int .u64 0, .int .u64 0, .int .u64 0, .int .u64 0, .bool false] from (k90_mkF _ _ (⟨y328, (⟨(⟨0, 0⟩ : S86), 0⟩ : S88), 0, false⟩ : S90) (Kd.R_reads' (Kd.R_mono (ok' := (fun k_ => k_ ≠ gb321)) (Kd.R_types (HO330.out) BK321.out (by decide)) (fun k_ hk => hk.2))).2.1 (Kd.R_F (Kd.R_mono (ok' := (fun k_ => k_ ≠ gb321)) (Kd.R_types (HO330.out) BK321.out (by decide)) (fun k_ hk => hk.2))))) (Reps.none _ _))))); intro v332 w80 ho81 hb hg_ hnew_; clear hg_ hnew_; (first | rw [← Ny331.out] at ho81 | (simp only [Int.reduceToNat] at ho81; rw [← Ny331.out] at ho81)); have n0_ := Aside0.mk (Kd.N_lower ho81 (below_size (by repeat (first | (with_reducible first | exact HB.out | apply below_alloc | apply pw_below_drewN | apply below_drew1 | refine below_set ?_ GE321.out) | exact HB.out)))); have n1_ := Aside0.mk (blk_below (g := gb321) (o := .cells #[.int .u32 3, .int .u32 0] 34 (0, 0)) (by (with_reducible repeat (first | refine blk_drewN ?_ _ | refine blk_drew ?_ | refine blk_alloc ?_ _)); exact BK321.out) hb); have n2_ := Aside0.mk (below_step (by repeat (first | (with_reducible first | exact HB.out | apply below_alloc | apply pw_below_drewN | apply below_drew1 | refine below_set ?_ GE321.out) | exact HB.out)) hb); clear BK321; clear HB; clear HO324; clear HO327; clear HO330; have HO333 := n0_; have BK321 := n1_; have HB := n2_; clear n0_ n1_ n2_; clear hb ho81; have hcz82_0 : w80.cell? ⟨gb321, 0, none⟩ = some (.int .u32 3) := (blk_cell BK321.out 0).trans rfl; have hcz82_1 : w80.cell? ⟨gb321, 1, none⟩ = some (.int .u32 0) := (blk_cell BK321.out 1).trans rfl; have hfz82_0 := blk_frozen BK321.out 0; have hfz82_1 := blk_frozen BK321.out 1) | ((with_reducible refine gate_dst (N := 23) rfl ?_); (try (refine gate_guard (by rfl) ?_; dsimp only)); refine Kd.R_lit k36 _ 36 ?hg (N := 23) ?hd (xs := ([(⟨1, (-1), (⟨3, 0⟩ : S34)⟩ : S36), (⟨2, (-1), (⟨3, 0⟩ : S34)⟩ : S36), (⟨3, 1, (⟨3, 0⟩ : S34)⟩ : S36), (⟨4, (-1), (⟨3, 0⟩ : S34)⟩ : S36)] : List (S36))) (inner := [.int .i64 1, .int .i64 (-1), .int .u32 3, .int .u32 0, .int .i64 2, .int .i64 (-1), .int .u32 3, .int .u32 0, .int .i64 3, .int .i64 1, .int .u32 3, .int .u32 0, .int .i64 4, .int .i64 (-1), .int .u32 3, .int .u32 0]) (ok := fun _ => True) (okp := fun _ => True) ?hr ?hp (fun _ hk => hk) trivial (Below.refl _ _) (Nat.le_refl _) (by simp) ?_; (case hd => rfl); (case hg => rfl); (case hr => first | (go_simp; done) | (go_simp; rfl)); (case hp => exact (Reps.c4 (show Kd.M k36 _ _ _ (⟨1, (-1), (⟨3, 0⟩ : S34)⟩ : S36) [.int .i64 1, .int .i64 (-1), .int .u32 3, .int .u32 0] from (k36_mkM _ _ _ (⟨1, (-1), (⟨3, 0⟩ : S34)⟩ : S36) )) (Reps.c4 (show Kd.M k36 _ _ _ (⟨2, (-1), (⟨3, 0⟩ : S34)⟩ : S36) [.int .i64 2, .int .i64 (-1), .int .u32 3, .int .u32 0] from (k36_mkM _ _ _ (⟨2, (-1), (⟨3, 0⟩ : S34)⟩ : S36) )) (Reps.c4 (show Kd.M k36 _ _ _ (⟨3, 1, (⟨3, 0⟩ : S34)⟩ : S36) [.int .i64 3, .int .i64 1, .int .u32 3, .int .u32 0] from (k36_mkM _ _ _ (⟨3, 1, (⟨3, 0⟩ : S34)⟩ : S36) )) (Reps.c4 (show Kd.M k36 _ _ _ (⟨4, (-1), (⟨3, 0⟩ : S34)⟩ : S36) [.int .i64 4, .int .i64 (-1), .int .u32 3, .int .u32 0] from (k36_mkM _ _ _ (⟨4, (-1), (⟨3, 0⟩ : S34)⟩ : S36) )) (Reps.none _ _)))))); intro v335 w83 ho84 hb hg_ hnew_; clear hg_ hnew_; (first | rw [← Ny334.out] at ho84 | (simp only [Int.reduceToNat] at ho84; rw [← Ny334.out] at ho84)); have n0_ := Aside0.mk (Kd.N_elder' (by (with_reducible repeat (first | apply Kd.N_alloc | apply Kd.N_drewN | apply Kd.N_drew)); exact HO333.out) (Kd.R_base ho84) hb); have n1_ := Aside0.mk (Kd.R_lower ho84 (below_size (by repeat (first | (with_reducible first | exact HB.out | apply below_alloc | apply pw_below_drewN | apply below_drew1 | refine below_set ?_ GE321.out) | exact HB.out)))); have n2_ := Aside0.mk (blk_below (g := gb321) (o := .cells #[.int .u32 3, .int .u32 0] 34 (0, 0)) (by (with_reducible repeat (first | refine blk_drewN ?_ _ | refine blk_drew ?_ | refine blk_alloc ?_ _)); exact BK321.out) hb); have n3_ := Aside0.mk (below_step (by repeat (first | (with_reducible first | exact HB.out | apply below_alloc | apply pw_below_drewN | apply below_drew1 | refine below_set ?_ GE321.out) | exact HB.out)) hb); clear HO333; clear BK321; clear HB; have HO333 := n0_; have HO336 := n1_; have BK321 := n2_; have HB := n3_; clear n0_ n1_ n2_ n3_; clear hb ho84; obtain ⟨Ao85, co85, eo85⟩ := Kd.N_slice HO333.out; subst eo85; obtain ⟨Ao86, co86, eo86⟩ := Kd.R_slice HO336.out; subst eo86) | ((with_reducible refine gate_callee (f := 20) rfl ?_); refine goesL_ (some 27) rfl rfl Tryd.func20 (by kernel_rfl) rfl #[.slice Ao85 y331.length co85, .slice Ao86 y334.length co86, .int .u32 3] rfl (by (try simp only [List.map_toArray, List.map_cons, List.map_nil]); first | done | rfl | (simp only [List.length_drop, List.length_take]; rfl)) ?_; (with_reducible refine (pick_Pick.calls _ _ y331 _ _ y334 3 t337 t338 t339 _ ?side1 ?side2 ?side3 ?side4 ?tb A1.out).mono ?_); (case tb => exact HT.out.step (by repeat (first | (with_reducible first | exact HB.out | apply below_alloc | apply pw_below_drewN | apply below_drew1 | refine below_set ?_ GE321.out) | exact HB.out))); (case side1 => repeat (first | exact (Kd.N_reads' HO333.out).2.2 | (with_reducible refine Kd.C_alloc ?_ _) | (with_reducible refine Kd.C_drewN ?_ _) | (with_reducible refine Kd.C_drew ?_))); (case side2 => exact (Kd.N_reads' HO333.out).2.1); (case side3 => repeat (first | exact (Kd.R_reads' HO336.out).2.2 | (with_reducible refine Kd.C_alloc ?_ _) | (with_reducible refine Kd.C_drewN ?_ _) | (with_reducible refine Kd.C_drew ?_))); (case side4 => exact (Kd.R_reads' HO336.out).2.1); rintro e w87 ⟨v340, v342, rfl, ho0, ho1, hb⟩; refine ⟨_, rfl, ?_⟩; have n0_ := Aside0.mk (Kd.N_mono (Kd.N_told (Kd.N_told (Kd.N_old (by (with_reducible repeat (first | apply Kd.N_alloc | apply Kd.N_drewN | apply Kd.N_drew)); exact HO333.out) hb) (Kd.R_base ho0)) (Kd.R_base ho1)) (fun _ h_ => h_.1)); have n1_ := Aside0.mk (Kd.R_below (by (with_reducible repeat (first | apply Kd.R_alloc | apply Kd.R_drewN | apply Kd.R_drew)); exact HO336.out) hb); have n2_ := Aside0.mk (Kd.R_lower ho0 (below_size (by repeat (first | (with_reducible first | exact HB.out | apply below_alloc | apply pw_below_drewN | apply below_drew1 | refine below_set ?_ GE321.out) | exact HB.out)))); have n3_ := Aside0.mk (Kd.R_lower ho1 (below_size (by repeat (first | (with_reducible first | exact HB.out | apply below_alloc | apply pw_below_drewN | apply below_drew1 | refine below_set ?_ GE321.out) | exact HB.out)))); have n4_ := Aside0.mk (blk_below (g := gb321) (o := .cells #[.int .u32 3, .int .u32 0] 34 (0, 0)) (by (with_reducible repeat (first | refine blk_drewN ?_ _ | refine blk_drew ?_ | refine blk_alloc ?_ _)); exact BK321.out) hb); have n5_ := Aside0.mk (below_step (by repeat (first | (with_reducible first | exact HB.out | apply below_alloc | apply pw_below_drewN | apply below_drew1 | refine below_set ?_ GE321.out) | exact HB.out)) hb); clear HO333; clear HO336; clear BK321; clear HB; have HO333 := n0_; have HO336 := n1_; have HO341 := n2_; have HO343 := n3_; have BK321 := n4_; have HB := n5_; clear n0_ n1_ n2_ n3_ n4_ n5_; (try clear hb); (try clear hb2); (try clear hk); (try clear hi); (try clear ho0); (try clear ho1); obtain ⟨Ao88, co88, eo88⟩ := Kd.R_slice HO341.out; subst eo88))
   go_ret
   exact ⟨by first | rfl | (simp [errW_none, errW_some] <;> rfl) | (simp [*, errW_none, errW_some] <;> rfl), by repeat (first | (with_reducible first | exact HB.out | apply below_alloc | apply pw_below_drewN | apply below_drew1 | refine below_set ?_ GE321.out) | exact HB.out)⟩
 ·rw [if_neg c2] at H
  have c2b0 : (t339 == 0) = false := beq_eq_false_iff_ne.mpr c2
  have c2b1 : (t339 != 0) = true := bne_iff_ne.mpr c2
  obtain rfl := Option.some.inj H
  go_enter Tryd.func18, Tryd.ntmps18
  go_wp2_with (first | ((with_reducible refine gate_dst (N := 1) rfl ?_); (try (refine gate_guard (by rfl) ?_; dsimp only)); refine box_event ?hg (N := 1) ?hd (cs := #[.int .u32 0, .int .u32 0]) (t := 34) ?hr ?_; (case hd => rfl); (case hg => rfl); (case hr => first | (go_simp; done) | (go_simp; rfl)); intro gb321 hg w89 hbox hb; have n0_ := Aside0.mk (below_step (by repeat (first | (with_reducible first | exact HB.out | apply below_alloc | apply pw_below_drewN | apply below_drew1) | exact HB.out)) hb); have n1_ := Aside0.mk (hbox); have n2_ := Aside0.mk ((by rw [hg]; exact (below_size (by repeat (first | (with_reducible first | exact HB.out | apply below_alloc | apply pw_below_drewN | apply below_drew1) | exact HB.out))) : w.heap.size ≤ gb321)); have n3_ := Aside0.mk ((by rw [hg]; exact (below_size (by repeat (first | (with_reducible first | exact HB.out | apply below_alloc | apply pw_below_drewN | apply below_drew1) | exact HB.out))) : w.heap.size ≤ gb321)); clear HB; have HB := n0_; have BK321 := n1_; have GW321 := n2_; have GE321 := n3_; clear n0_ n1_ n2_ n3_; clear hb hbox hg; have hcz90_0 : w89.cell? ⟨gb321, 0, none⟩ = some (.int .u32 0) := (blk_cell BK321.out 0).trans rfl; have hcz90_1 : w89.cell? ⟨gb321, 1, none⟩ = some (.int .u32 0) := (blk_cell BK321.out 1).trans rfl; have hfz90_0 := blk_frozen BK321.out 0; have hfz90_1 := blk_frozen BK321.out 1) | ((with_reducible refine gate_dst (N := 8) rfl ?_); (try (refine gate_guard (by rfl) ?_; dsimp only)); refine Kd.R_lit (Kd.int .i64) _ 3 ?hg (N := 8) ?hd (xs := ([3] : List Int)) (inner := [.int .i64 3]) (ok := fun _ => True) (okp := fun _ => True) ?hr ?hp (fun _ hk => hk) trivial (Below.refl _ _) (Nat.le_refl _) (by simp) ?_; (case hd => rfl); (case hg => rfl); (case hr => first | (go_simp; done) | (go_simp; rfl)); (case hp => exact (Reps.one (show Kd.M (Kd.int .i64) _ _ _ 3 [.int .i64 3] from rfl) (Reps.none _ _))); intro v323 w91 ho92 hb hg_ hnew_; clear hg_ hnew_; (first | rw [← Ny322.out] at ho92 | (simp only [Int.reduceToNat] at ho92; rw [← Ny322.out] at ho92)); have n0_ := Aside0.mk (Kd.R_lower ho92 (below_size (by repeat (first | (with_reducible first | exact HB.out | apply below_alloc | apply pw_below_drewN | apply below_drew1 | refine below_set ?_ GE321.out) | exact HB.out)))); have n1_ := Aside0.mk (blk_below (g := gb321) (o := .cells #[.int .u32 3, .int .u32 0] 34 (0, 0)) (by (with_reducible repeat (first | refine blk_drewN ?_ _ | refine blk_drew ?_ | refine blk_alloc ?_ _)); refine blk_put (cs := #[.int .u32 3, .int .u32 0]) ?_ 1 _ rfl; (with_reducible repeat (first | refine blk_drewN ?_ _ | refine blk_drew ?_ | refine blk_alloc ?_ _)); refine blk_put (cs := #[.int .u32 0, .int .u32 0]) ?_ 0 _ rfl; (with_reducible repeat (first | refine blk_drewN ?_ _ | refine blk_drew ?_ | refine blk_alloc ?_ _)); exact BK321.out) hb); have n2_ := Aside0.mk (below_step (by repeat (first | (with_reducible first | exact HB.out | apply below_alloc | apply pw_below_drewN | apply below_drew1 | refine below_set ?_ GE321.out) | exact HB.out)) hb); clear BK321; clear HB; have HO324 := n0_; have BK321 := n1_; have HB := n2_; clear n0_ n1_ n2_; clear hb ho92; obtain ⟨Ao93, co93, eo93⟩ := Kd.R_slice HO324.out; subst eo93) | ((with_reducible refine gate_dst (N := 10) rfl ?_); (try (refine gate_guard (by rfl) ?_; dsimp only)); refine Kd.R_lit (Kd.int .i64) _ 3 ?hg (N := 10) ?hd (xs := ([1, 2] : List Int)) (inner := [.int .i64 1, .int .i64 2]) (ok := fun _ => True) (okp := fun _ => True) ?hr ?hp (fun _ hk => hk) trivial (Below.refl _ _) (Nat.le_refl _) (by simp) ?_; (case hd => rfl); (case hg => rfl); (case hr => first | (go_simp; done) | (go_simp; rfl)); (case hp => exact (Reps.one (show Kd.M (Kd.int .i64) _ _ _ 1 [.int .i64 1] from rfl) (Reps.one (show Kd.M (Kd.int .i64) _ _ _ 2 [.int .i64 2] from rfl) (Reps.none _ _)))); intro v326 w94 ho95 hb hg_ hnew_; clear hg_ hnew_; (first | rw [← Ny325.out] at ho95 | (simp only [Int.reduceToNat] at ho95; rw [← Ny325.out] at ho95)); have n0_ := Aside0.mk (Kd.R_elder' (by (with_reducible repeat (first | apply Kd.R_alloc | apply Kd.R_drewN | apply Kd.R_drew)); exact HO324.out) (Kd.R_base ho95) hb); have n1_ := Aside0.mk (Kd.R_lower (Kd.R_new' ho95 (Kd.R_lt (by (with_reducible repeat (first | apply Kd.R_alloc | apply Kd.R_drewN | apply Kd.R_drew)); exact HO324.out))) (below_size (by repeat (first | (with_reducible first | exact HB.out | apply below_alloc | apply pw_below_drewN | apply below_drew1 | refine below_set ?_ GE321.out) | exact HB.out)))); have n2_ := Aside0.mk (blk_below (g := gb321) (o := .cells #[.int .u32 3, .int .u32 0] 34 (0, 0)) (by (with_reducible repeat (first | refine blk_drewN ?_ _ | refine blk_drew ?_ | refine blk_alloc ?_ _)); exact BK321.out) hb); have n3_ := Aside0.mk (below_step (by repeat (first | (with_reducible first | exact HB.out | apply below_alloc | apply pw_below_drewN | apply below_drew1 | refine below_set ?_ GE321.out) | exact HB.out)) hb); clear HO324; clear BK321; clear HB; have HO324 := n0_; have HO327 := n1_; have BK321 := n2_; have HB := n3_; clear n0_ n1_ n2_ n3_; clear hb ho95; obtain ⟨Ao96, co96, eo96⟩ := Kd.R_slice HO327.out; subst eo96) | ((with_reducible refine gate_dst (N := 12) rfl ?_); (try (refine gate_guard (by rfl) ?_; dsimp only)); refine Kd.R_lit (Kd.int .i64) _ 3 ?hg (N := 12) ?hd (xs := ([4] : List Int)) (inner := [.int .i64 4]) (ok := fun _ => True) (okp := fun _ => True) ?hr ?hp (fun _ hk => hk) trivial (Below.refl _ _) (Nat.le_refl _) (by simp) ?_; (case hd => rfl); (case hg => rfl); (case hr => first | (go_simp; done) | (go_simp; rfl)); (case hp => exact (Reps.one (show Kd.M (Kd.int .i64) _ _ _ 4 [.int .i64 4] from rfl) (Reps.none _ _))); intro v329 w97 ho98 hb hg_ hnew_; clear hg_ hnew_; (first | rw [← Ny328.out] at ho98 | (simp only [Int.reduceToNat] at ho98; rw [← Ny328.out] at ho98)); have n0_ := Aside0.mk (Kd.R_elder' (by (with_reducible repeat (first | apply Kd.R_alloc | apply Kd.R_drewN | apply Kd.R_drew)); exact HO324.out) (Kd.R_base ho98) hb); have n1_ := Aside0.mk (Kd.R_elder' (by (with_reducible repeat (first | apply Kd.R_alloc | apply Kd.R_drewN | apply Kd.R_drew)); exact HO327.out) (Kd.R_base ho98) hb); have n2_ := Aside0.mk (Kd.R_lower (Kd.R_new' (Kd.R_new' ho98 (Kd.R_lt (by (with_reducible repeat (first | apply Kd.R_alloc | apply Kd.R_drewN | apply Kd.R_drew)); exact HO324.out))) (Kd.R_lt (by (with_reducible repeat (first | apply Kd.R_alloc | apply Kd.R_drewN | apply Kd.R_drew)); exact HO327.out))) (below_size (by repeat (first | (with_reducible first | exact HB.out | apply below_alloc | apply pw_below_drewN | apply below_drew1 | refine below_set ?_ GE321.out) | exact HB.out)))); have n3_ := Aside0.mk (blk_below (g := gb321) (o := .cells #[.int .u32 3, .int .u32 0] 34 (0, 0)) (by (with_reducible repeat (first | refine blk_drewN ?_ _ | refine blk_drew ?_ | refine blk_alloc ?_ _)); exact BK321.out) hb); have n4_ := Aside0.mk (below_step (by repeat (first | (with_reducible first | exact HB.out | apply below_alloc | apply pw_below_drewN | apply below_drew1 | refine below_set ?_ GE321.out) | exact HB.out)) hb); clear HO324; clear HO327; clear BK321; clear HB; have HO324 := n0_; have HO327 := n1_; have HO330 := n2_; have BK321 := n3_; have HB := n4_; clear n0_ n1_ n2_ n3_ n4_; clear hb ho98; obtain ⟨Ao99, co99, eo99⟩ := Kd.R_slice HO330.out; subst eo99) | ((with_reducible refine gate_dst (N := 14) rfl ?_); (try (refine gate_guard (by rfl) ?_; dsimp only)); refine Kd.N_lit k90 _ 90 ?hg (N' := 14) ?hd (xs := ([(⟨y322, (⟨(⟨0, 0⟩ : S86), 0⟩ : S88), 0, false⟩ : S90), (⟨y325, (⟨(⟨0, 0⟩ : S86), 0⟩ : S88), 0, false⟩ : S90), (⟨y328, (⟨(⟨0, 0⟩ : S86), 0⟩ : S88), 0, false⟩ : S90)] : List (S90))) (inner := [.slice Ao93 y322.length co93, .int .u64 0, .int .u64 0, .int .u64 0, .int .u64 0, .bool false, .slice Ao96 y325.length co96, .int .u64 0, .int .u64 0, .int .u64 0, .int .u64 0, .bool false, .slice Ao99 y328.length co99, .int .u64 0, .int .u64 0, .int .u64 0, .int .u64 0, .bool false]) (ok := (fun k_ => k_ ≠ gb321)) (okp := (fun k_ => k_ ≠ gb321)) ?hr ?hp (fun _ hk => hk) ((show ∀ k_, w97.heap.size ≤ k_ → (fun k_ => k_ ≠ gb321) k_ from fun k_ hk => Kd.freshB (g := gb321) (o := .cells #[.int .u32 3, .int .u32 0] 34 (0, 0)) (by (with_reducible repeat (first | refine blk_drewN ?_ _ | refine blk_drew ?_ | refine blk_alloc ?_ _)); exact BK321.out) k_ hk) _ (Nat.le_refl _)) (Below.refl _ _) (Nat.le_refl _) (by simp) ?_; (case hd => rfl); (case hg => rfl); (case hr => first | (go_simp; done) | (go_simp; rfl)); (case hp => exact (Reps.c6 (show Kd.FK k90 _ _ (⟨y322, (⟨(⟨0, 0⟩ : S86), 0⟩ : S88), 0, false⟩ : S90) [.slice Ao93 y322.length co93, .int .u64 0, .int .u64 0, .int .u64 0, .int .u64 0, .bool false] from (k90_mkF _ _ (⟨y322, (⟨(⟨0, 0⟩ : S86), 0⟩ : S88), 0, false⟩ : S90) (Kd.R_reads' (Kd.R_mono (ok' := (fun k_ => k_ ≠ gb321)) (Kd.R_types (HO324.out) BK321.out (by decide)) (fun k_ hk => hk.2))).2.1 (Kd.R_F (Kd.R_mono (ok' := (fun k_ => k_ ≠ gb321)) (Kd.R_types (HO324.out) BK321.out (by decide)) (fun k_ hk => hk.2))))) (Reps.c6 (show Kd.FK k90 _ _ (⟨y325, (⟨(⟨0, 0⟩ : S86), 0⟩ : S88), 0, false⟩ : S90) [.slice Ao96 y325.length co96, .int .u64 0, .int .u64 0, .int .u64 0, .int .u64 0, .bool false] from (k90_mkF _ _ (⟨y325, (⟨(⟨0, 0⟩ : S86), 0⟩ : S88), 0, false⟩ : S90) (Kd.R_reads' (Kd.R_mono (ok' := (fun k_ => k_ ≠ gb321)) (Kd.R_types (HO327.out) BK321.out (by decide)) (fun k_ hk => hk.2))).2.1 (Kd.R_F (Kd.R_mono (ok' := (fun k_ => k_ ≠ gb321)) (Kd.R_types (HO327.out) BK321.out (by decide)) (fun k_ hk => hk.2))))) (Reps.c6 (show Kd.FK k90 _ _ (⟨y328, (⟨(⟨0, 0⟩ : S86), 0⟩ : S88), 0, false⟩ : S90) [.slice Ao99 y328.length co99, .int .u64 0, .int .u64 0, .int .u64 0, .int .u64 0, .bool false] from (k90_mkF _ _ (⟨y328, (⟨(⟨0, 0⟩ : S86), 0⟩ : S88), 0, false⟩ : S90) (Kd.R_reads' (Kd.R_mono (ok' := (fun k_ => k_ ≠ gb321)) (Kd.R_types (HO330.out) BK321.out (by decide)) (fun k_ hk => hk.2))).2.1 (Kd.R_F (Kd.R_mono (ok' := (fun k_ => k_ ≠ gb321)) (Kd.R_types (HO330.out) BK321.out (by decide)) (fun k_ hk => hk.2))))) (Reps.none _ _))))); intro v332 w100 ho101 hb hg_ hnew_; clear hg_ hnew_; (first | rw [← Ny331.out] at ho101 | (simp only [Int.reduceToNat] at ho101; rw [← Ny331.out] at ho101)); have n0_ := Aside0.mk (Kd.N_lower ho101 (below_size (by repeat (first | (with_reducible first | exact HB.out | apply below_alloc | apply pw_below_drewN | apply below_drew1 | refine below_set ?_ GE321.out) | exact HB.out)))); have n1_ := Aside0.mk (blk_below (g := gb321) (o := .cells #[.int .u32 3, .int .u32 0] 34 (0, 0)) (by (with_reducible repeat (first | refine blk_drewN ?_ _ | refine blk_drew ?_ | refine blk_alloc ?_ _)); exact BK321.out) hb); have n2_ := Aside0.mk (below_step (by repeat (first | (with_reducible first | exact HB.out | apply below_alloc | apply pw_below_drewN | apply below_drew1 | refine below_set ?_ GE321.out) | exact HB.out)) hb); clear BK321; clear HB; clear HO324; clear HO327; clear HO330; have HO333 := n0_; have BK321 := n1_; have HB := n2_; clear n0_ n1_ n2_; clear hb ho101; have hcz102_0 : w100.cell? ⟨gb321, 0, none⟩ = some (.int .u32 3) := (blk_cell BK321.out 0).trans rfl; have hcz102_1 : w100.cell? ⟨gb321, 1, none⟩ = some (.int .u32 0) := (blk_cell BK321.out 1).trans rfl; have hfz102_0 := blk_frozen BK321.out 0; have hfz102_1 := blk_frozen BK321.out 1) | ((with_reducible refine gate_dst (N := 23) rfl ?_); (try (refine gate_guard (by rfl) ?_; dsimp only)); refine Kd.R_lit k36 _ 36 ?hg (N := 23) ?hd (xs := ([(⟨1, (-1), (⟨3, 0⟩ : S34)⟩ : S36), (⟨2, (-1), (⟨3, 0⟩ : S34)⟩ : S36), (⟨3, 1, (⟨3, 0⟩ : S34)⟩ : S36), (⟨4, (-1), (⟨3, 0⟩ : S34)⟩ : S36)] : List (S36))) (inner := [.int .i64 1, .int .i64 (-1), .int .u32 3, .int .u32 0, .int .i64 2, .int .i64 (-1), .int .u32 3, .int .u32 0, .int .i64 3, .int .i64 1, .int .u32 3, .int .u32 0, .int .i64 4, .int .i64 (-1), .int .u32 3, .int .u32 0]) (ok := fun _ => True) (okp := fun _ => True) ?hr ?hp (fun _ hk => hk) trivial (Below.refl _ _) (Nat.le_refl _) (by simp) ?_; (case hd => rfl); (case hg => rfl); (case hr => first | (go_simp; done) | (go_simp; rfl)); (case hp => exact (Reps.c4 (show Kd.M k36 _ _ _ (⟨1, (-1), (⟨3, 0⟩ : S34)⟩ : S36) [.int .i64 1, .int .i64 (-1), .int .u32 3, .int .u32 0] from (k36_mkM _ _ _ (⟨1, (-1), (⟨3, 0⟩ : S34)⟩ : S36) )) (Reps.c4 (show Kd.M k36 _ _ _ (⟨2, (-1), (⟨3, 0⟩ : S34)⟩ : S36) [.int .i64 2, .int .i64 (-1), .int .u32 3, .int .u32 0] from (k36_mkM _ _ _ (⟨2, (-1), (⟨3, 0⟩ : S34)⟩ : S36) )) (Reps.c4 (show Kd.M k36 _ _ _ (⟨3, 1, (⟨3, 0⟩ : S34)⟩ : S36) [.int .i64 3, .int .i64 1, .int .u32 3, .int .u32 0] from (k36_mkM _ _ _ (⟨3, 1, (⟨3, 0⟩ : S34)⟩ : S36) )) (Reps.c4 (show Kd.M k36 _ _ _ (⟨4, (-1), (⟨3, 0⟩ : S34)⟩ : S36) [.int .i64 4, .int .i64 (-1), .int .u32 3, .int .u32 0] from (k36_mkM _ _ _ (⟨4, (-1), (⟨3, 0⟩ : S34)⟩ : S36) )) (Reps.none _ _)))))); intro v335 w103 ho104 hb hg_ hnew_; clear hg_ hnew_; (first | rw [← Ny334.out] at ho104 | (simp only [Int.reduceToNat] at ho104; rw [← Ny334.out] at ho104)); have n0_ := Aside0.mk (Kd.N_elder' (by (with_reducible repeat (first | apply Kd.N_alloc | apply Kd.N_drewN | apply Kd.N_drew)); exact HO333.out) (Kd.R_base ho104) hb); have n1_ := Aside0.mk (Kd.R_lower ho104 (below_size (by repeat (first | (with_reducible first | exact HB.out | apply below_alloc | apply pw_below_drewN | apply below_drew1 | refine below_set ?_ GE321.out) | exact HB.out)))); have n2_ := Aside0.mk (blk_below (g := gb321) (o := .cells #[.int .u32 3, .int .u32 0] 34 (0, 0)) (by (with_reducible repeat (first | refine blk_drewN ?_ _ | refine blk_drew ?_ | refine blk_alloc ?_ _)); exact BK321.out) hb); have n3_ := Aside0.mk (below_step (by repeat (first | (with_reducible first | exact HB.out | apply below_alloc | apply pw_below_drewN | apply below_drew1 | refine below_set ?_ GE321.out) | exact HB.out)) hb); clear HO333; clear BK321; clear HB; have HO333 := n0_; have HO336 := n1_; have BK321 := n2_; have HB := n3_; clear n0_ n1_ n2_ n3_; clear hb ho104; obtain ⟨Ao105, co105, eo105⟩ := Kd.N_slice HO333.out; subst eo105; obtain ⟨Ao106, co106, eo106⟩ := Kd.R_slice HO336.out; subst eo106) | ((with_reducible refine gate_callee (f := 20) rfl ?_); refine goesL_ (some 27) rfl rfl Tryd.func20 (by kernel_rfl) rfl #[.slice Ao105 y331.length co105, .slice Ao106 y334.length co106, .int .u32 3] rfl (by (try simp only [List.map_toArray, List.map_cons, List.map_nil]); first | done | rfl | (simp only [List.length_drop, List.length_take]; rfl)) ?_; (with_reducible refine (pick_Pick.calls _ _ y331 _ _ y334 3 t337 t338 t339 _ ?side1 ?side2 ?side3 ?side4 ?tb A1.out).mono ?_); (case tb => exact HT.out.step (by repeat (first | (with_reducible first | exact HB.out | apply below_alloc | apply pw_below_drewN | apply below_drew1 | refine below_set ?_ GE321.out) | exact HB.out))); (case side1 => repeat (first | exact (Kd.N_reads' HO333.out).2.2 | (with_reducible refine Kd.C_alloc ?_ _) | (with_reducible refine Kd.C_drewN ?_ _) | (with_reducible refine Kd.C_drew ?_))); (case side2 => exact (Kd.N_reads' HO333.out).2.1); (case side3 => repeat (first | exact (Kd.R_reads' HO336.out).2.2 | (with_reducible refine Kd.C_alloc ?_ _) | (with_reducible refine Kd.C_drewN ?_ _) | (with_reducible refine Kd.C_drew ?_))); (case side4 => exact (Kd.R_reads' HO336.out).2.1); rintro e w107 ⟨v340, v342, rfl, ho0, ho1, hb⟩; refine ⟨_, rfl, ?_⟩; have n0_ := Aside0.mk (Kd.N_mono (Kd.N_told (Kd.N_told (Kd.N_old (by (with_reducible repeat (first | apply Kd.N_alloc | apply Kd.N_drewN | apply Kd.N_drew)); exact HO333.out) hb) (Kd.R_base ho0)) (Kd.R_base ho1)) (fun _ h_ => h_.1)); have n1_ := Aside0.mk (Kd.R_below (by (with_reducible repeat (first | apply Kd.R_alloc | apply Kd.R_drewN | apply Kd.R_drew)); exact HO336.out) hb); have n2_ := Aside0.mk (Kd.R_lower ho0 (below_size (by repeat (first | (with_reducible first | exact HB.out | apply below_alloc | apply pw_below_drewN | apply below_drew1 | refine below_set ?_ GE321.out) | exact HB.out)))); have n3_ := Aside0.mk (Kd.R_lower ho1 (below_size (by repeat (first | (with_reducible first | exact HB.out | apply below_alloc | apply pw_below_drewN | apply below_drew1 | refine below_set ?_ GE321.out) | exact HB.out)))); have n4_ := Aside0.mk (blk_below (g := gb321) (o := .cells #[.int .u32 3, .int .u32 0] 34 (0, 0)) (by (with_reducible repeat (first | refine blk_drewN ?_ _ | refine blk_drew ?_ | refine blk_alloc ?_ _)); exact BK321.out) hb); have n5_ := Aside0.mk (below_step (by repeat (first | (with_reducible first | exact HB.out | apply below_alloc | apply pw_below_drewN | apply below_drew1 | refine below_set ?_ GE321.out) | exact HB.out)) hb); clear HO333; clear HO336; clear BK321; clear HB; have HO333 := n0_; have HO336 := n1_; have HO341 := n2_; have HO343 := n3_; have BK321 := n4_; have HB := n5_; clear n0_ n1_ n2_ n3_ n4_ n5_; (try clear hb); (try clear hb2); (try clear hk); (try clear hi); (try clear ho0); (try clear ho1)))
  go_ret
  exact ⟨by first | rfl | (simp [errW_none, errW_some] <;> rfl) | (simp [*, errW_none, errW_some] <;> rfl), by repeat (first | (with_reducible first | exact HB.out | apply below_alloc | apply pw_below_drewN | apply below_drew1 | refine below_set ?_ GE321.out) | exact HB.out)⟩

end Go.Proofs.YtdmieaidheelbaaDoor.Q
end
/- PureChoices -/
section
/- PickChoices, the plain law: a member's choices are the document's. -/
namespace Go.Proofs.YtdmieaidheelbaaDoor.Q
open Go Go.RowKit Go.Proofs.YtdmieaidheelbaaDoorW.PrintWords Go.Proofs.YtdmieaidheelbaaDoorW.PrintLast Go.Proofs.YtdmieaidheelbaaDoorW.PrintMore
set_option linter.unusedVariables false
set_option linter.unusedSimpArgs false

theorem wakes19 : mainsheetlaw19_wakes.f = some true := by decide +kernel
theorem has19_loop (xs : List Int) (v : Int) (hl : xs.length ≤ 9000000) (d : Nat) : ∀ (k i : Nat), i + d = xs.length → d < k → mainsheetref19_has.l0 k xs v (i : Int) = some (decide (v ∈ xs.drop i)) := by
  induction d with
  | zero =>
    intro k i hi hk
    obtain ⟨k, rfl⟩ : ∃ m, k = m + 1 := ⟨k - 1, by omega⟩
    rw [mainsheetref19_has.l0, if_neg (by omega), List.drop_eq_nil_of_le (by omega)]; simp
  | succ d ih =>
    intro k i hi hk
    obtain ⟨k, rfl⟩ : ∃ m, k = m + 1 := ⟨k - 1, by omega⟩
    have hlt : i < xs.length := by omega
    rw [List.drop_eq_getElem_cons hlt, mainsheetref19_has.l0, if_pos (by omega), if_pos (by omega), rd_eq _ _ hlt]
    by_cases e : xs[i] = v
    · rw [if_pos e, decide_eq_true (by rw [e]; exact List.mem_cons_self)]
    · rw [if_neg e, w64 _ (by omega) (by omega), show (i : Int) + 1 = ((i + 1 : Nat) : Int) by omega, ih k (i + 1) (by omega) (by omega)]
      congr 2
      exact propext ⟨fun h => List.mem_cons_of_mem _ h, fun h => (List.mem_cons.1 h).resolve_left (fun h => e h.symm)⟩
theorem has19_val (xs : List Int) (v : Int) (hl : xs.length ≤ 9000000) (k : Nat) (hk : xs.length < k) : mainsheetref19_has.f k xs v = some (decide (v ∈ xs)) := by
  unfold mainsheetref19_has.f
  rw [show (0 : Int) = ((0 : Nat) : Int) from rfl, has19_loop xs v hl xs.length k 0 (by omega) hk, List.drop_zero]

end Go.Proofs.YtdmieaidheelbaaDoor.Q
end
/- RefError -/
section
/- mainsheetref19.Error by its contract: it answers as pick.Check does. -/
namespace Go.Proofs.YtdmieaidheelbaaDoor.Q
open Go Go.RowKit Go.Proofs.YtdmieaidheelbaaDoorW.PrintWords Go.Proofs.YtdmieaidheelbaaDoorW.PrintLast Go.Proofs.YtdmieaidheelbaaDoorW.PrintMore
set_option linter.unusedVariables false
set_option linter.unusedSimpArgs false

def mainsheetref19_Error.f (l0 : List Ent) (l1 : List S36) : Option Int := if okPick l0 l1 then some (pickCheck l0 l1) else none
def MetAll (met : List Bool) (all : List Int) : Prop := met.length = 17 ∧ (∀ c ∈ all, 1 ≤ c ∧ c ≤ 16) ∧ ∀ c, 0 ≤ c → met.getD c.toNat false = decide (c ∈ all)
theorem MetAll.nil : MetAll met0 [] := ⟨by simp [met0], by simp, fun c _ => by have := at17_met0 c; unfold at17 at this; rw [this]; simp⟩
theorem MetAll.snoc {met : List Bool} {all : List Int} (h : MetAll met all) (v : Int) (h1 : 1 ≤ v) (h2 : v ≤ 16) : MetAll (met.set v.toNat true) (all ++ [v]) := by
  obtain ⟨a, b, c⟩ := h
  refine ⟨by simpa using a, fun x hx => ?_, fun x hx => ?_⟩
  · rcases List.mem_append.1 hx with hx | hx
    · exact b x hx
    · obtain rfl := List.mem_singleton.1 hx; exact ⟨h1, h2⟩
  · have := at17_set met a v h1 h2 x hx
    unfold at17 at this
    rw [this, c x hx]
    simp
theorem slice_own {W : World} {base n : Nat} {v : Value} {xs : List Int} (hn : xs.length = n) (h : W.ownsRow base 3 1 v n (xs.map (Value.int .i64))) : ∃ A c, v = .slice A n c ∧ n ≤ c ∧ Kd.C (Kd.int .i64) W A xs.length xs := by
  subst hn
  obtain ⟨A, c, e, h1, h2⟩ := Kd.R_reads (Kd.R_of_own h (fun _ _ => trivial))
  exact ⟨A, c, e, h1, h2⟩

theorem row_ge {w : World} {base : Nat} {e : TypeId} {size : Nat} {v : Value} {n : Nat} {xs : List Value} (h : w.ownsRow base e size v n xs) : ∀ k, v.ownBlock = some k → base ≤ k := by
  intro k hk
  rcases h.2 with ⟨rfl, _⟩ | ⟨g, cap, cur, rfl, hg, _⟩
  · cases hk
  · simp only [Value.ownBlock, Option.some.injEq] at hk; omega
theorem has_call (k : Nat) (A : Option Addr) (c : Nat) (xs : List Int) (n : Nat) (v : Int) (r : Bool) (w : World) (hn : xs.length = n) (hC : Kd.C (Kd.int .i64) w A n xs) (hc : n ≤ c) (h : mainsheetref19_has.f k xs v = some r) :
    Calls Tryd.prog 83 #[.slice A n c, .int .i64 v] w fun e w' => e = .returned (.bool r) ∧ ∃ m, w' = w.drewN m := by
  subst hn
  exact (mainsheetref19_has.calls k A c xs v r w hC hc h).mono fun _ _ h => ⟨h.1, h.2.out⟩
set_option maxRecDepth 100000 in
set_option maxHeartbeats 20000000 in
theorem mainsheetref19_Error.calls (A0 : Option Addr) (c0 : Nat) (l0 : List Ent) (A1 : Option Addr) (c1 : Nat) (l1 : List (S36)) (r : Int) (w : World) (hr0 : Kd.C k90 w A0 l0.length l0) (hc0 : l0.length ≤ c0) (hr1 : Kd.C k36 w A1 l1.length l1) (hc1 : l1.length ≤ c1) (h : mainsheetref19_Error.f l0 l1 = some r) :
    Calls Tryd.prog 49 #[.slice A0 l0.length c0, .slice A1 l1.length c1] w fun e w' => e = .returned (.int .i64 r) ∧ Below w.heap.size w w' := by
  unfold mainsheetref19_Error.f at h
  by_cases hok : okPick l0 l1
  case neg => rw [if_neg hok] at h; cases h
  rw [if_pos hok] at h
  have hR := Aside0.mk (Option.some.inj h)
  clear h
  obtain ⟨hwf, hl1m, hl0m⟩ := hok
  obtain ⟨K13, hK13⟩ := Right13_val l1 hl1m hwf
  have H13 := Aside0.mk (hK13 K13 (Nat.le_refl _))
  have hu36 := Tryd.underlying36
  have hu90 := Tryd.underlying90
  have HR0 := Aside0.mk hr0
  have HR1 := Aside0.mk hr1
  have HC0 := Aside0.mk hc0
  have HC1 := Aside0.mk hc1
  obtain ⟨i0, hi, hz0, hz1, hz2⟩ := info_parts infoInt
  clear hr0 hwf hc0 hr1 hc1 hK13
  go_enter Tryd.func49, Tryd.ntmps49
  go_wp2
  go_loopw [5, 6] (fun s5 s6 wr => ∃ (k n : Nat) (met : List Bool) (all : List Int), k ≤ l0.length ∧ s6 = .int .i64 k ∧ n ≤ 8 * k ∧ Aside0 (all.length = n) ∧ Aside0 (pickEnd l1 (checkEnts met n (l0.drop k)) = r) ∧ Aside0 (MetAll met all) ∧ Aside0 (wr.ownsRow w.heap.size 3 1 s5 n (all.map (Value.int .i64))) ∧ Aside0 (Below w.heap.size w wr))
    (fun _ s6 _ => l0.length - (intOf s6).toNat)
  case atStart => exact ⟨0, 0, met0, [], Nat.zero_le _, rfl, Nat.zero_le _, ⟨rfl⟩, hR, ⟨MetAll.nil⟩, ⟨World.ownsRow_nil _ _ _ _⟩, ⟨Below.refl _ w⟩⟩
  case round =>
    obtain ⟨k, n, met, all, hk, rfl, hn, HN, HA, HMA, HROW, HB⟩ := hrel
    clear hR
    generalize u5 = ov at *
    by_cases hlt : k < l0.length
    case neg =>
      obtain rfl : k = l0.length := by omega
      have ha := HA.out
      rw [List.drop_length, checkEnts] at ha
      have HAA : Aside0 ((if checkWs met none l1 then (if l1.length = n then placeChk l1 else 290) else 290) = r) := ⟨ha⟩
      obtain ⟨Ao, co, rfl, hco, hCo⟩ := slice_own HN.out HROW.out
      have HCO := Aside0.mk hco
      have HCA := Aside0.mk hCo
      clear ha HA hlt HR0 hu90 hCo hco HROW
      by_cases hln : l1.length = n
      case neg =>
        obtain rfl : r = 290 := by
          rw [← HAA.out]
          by_cases hc : checkWs met none l1 = true
          · rw [if_pos hc, if_neg hln]
          · rw [if_neg hc]
        have hne : ((l1.length : Int) != (n : Int)) = true := by rw [bne_iff_ne]; omega
        clear hln HAA
        go_wp2
        go_ret
        exact ⟨rfl, HB.out⟩
      case pos =>
        have HLN := Aside0.mk hln
        have hne : ((l1.length : Int) != (n : Int)) = false := by rw [hln]; simp
        have HBR := Aside0.mk (Below.refl wr.heap.size wr)
        clear hln
        go_wp2
        go_loopw [9] (fun s9 wi => ∃ (j : Nat), j ≤ l1.length ∧ s9 = .int .i64 j ∧ Aside0 (checkWs met (prevW l1 j) (l1.drop j) = checkWs met none l1) ∧ Aside0 (Below wr.heap.size wr wi))
          (fun s9 _ => l1.length - (intOf s9).toNat)
        case atStart => exact ⟨0, Nat.zero_le _, rfl, ⟨rfl⟩, HBR⟩
        case round =>
          obtain ⟨j, hj, rfl, HWS, HB1⟩ := hrel
          clear HBR
          by_cases hjl : j < l1.length
          case neg =>
            have hws := HWS.out
            rw [List.drop_eq_nil_of_le (by omega), checkWs] at hws
            obtain rfl : j = l1.length := by omega
            have haa := HAA.out
            rw [← hws, if_pos rfl, if_pos HLN.out] at haa
            clear hjl HWS HAA hws
            rcases check_cases l1 met0 (List.replicate 8 false) with hp | hp
            · have hv : mainsheetref13_Right.f K13 l1 = some true := H13.out.trans (by rw [show placeOk l1 = 0 from hp]; rfl)
              have HV := Aside0.mk hv
              obtain rfl : r = 0 := by rw [← haa]; exact hp
              clear haa hp hv
              go_wp2_with (go_at_call 38; refine (mainsheetref13_Right.calls K13 A1 c1 l1 true _ (Kd.C_below HR1.out (below_step HB.out HB1.out)) HC1.out HV.out).mono ?_; rintro e w5 ⟨rfl, hb5⟩; have HB5 := Aside0.mk (below_step (below_step HB.out HB1.out) hb5); clear hb5)
              go_ret
              exact ⟨rfl, HB5.out⟩
            · have hv : mainsheetref13_Right.f K13 l1 = some false := H13.out.trans (by rw [show placeOk l1 = 230 from hp]; rfl)
              have HV := Aside0.mk hv
              obtain rfl : r = 230 := by rw [← haa]; exact hp
              clear haa hp hv
              go_wp2_with (go_at_call 38; refine (mainsheetref13_Right.calls K13 A1 c1 l1 false _ (Kd.C_below HR1.out (below_step HB.out HB1.out)) HC1.out HV.out).mono ?_; rintro e w5 ⟨rfl, hb5⟩; have HB5 := Aside0.mk (below_step (below_step HB.out HB1.out) hb5); clear hb5)
              go_ret
              exact ⟨rfl, HB5.out⟩
          case pos =>
            obtain ⟨ad, rfl, hx0, hx1, hx2, hx3⟩ := at_T36 (Kd.C_below HR1.out (below_step HB.out HB1.out)) (j : Int) (by omega) (by omega)
            rw [Int.toNat_natCast] at hx0 hx1 hx2 hx3
            have hws := ws_step met l1 j hjl
            rw [HWS.out] at hws
            have hbad : badW met (prevW l1 j) (rd_T36 l1 (j : Int)).f0 = true → r = 290 := fun hb => by
              rw [← HAA.out, hws, if_pos hb]; rfl
            have HBAD := Aside0.mk hbad
            have HSTEP := Aside0.mk hws
            have hprev : ∀ m : Nat, j = m + 1 → wr.cell? (ad.add (m * 4)) = some (.int .i64 (rd_T36 l1 m).f0) := fun m e => by
              obtain ⟨ad2, e2, hv1, _⟩ := at_T36 (Kd.C_below HR1.out (below_step HB.out HB1.out)) (m : Int) (by omega) (by omega)
              injection e2 with e2
              subst e2
              rw [Int.toNat_natCast] at hv1
              exact hv1
            have hpv : ∀ m : Nat, j = m + 1 → prevW l1 j = some (rd_T36 l1 m).f0 := fun m e => by unfold prevW; rw [if_neg (by omega), e]; rfl
            have hp0 : j = 0 → prevW l1 j = none := fun e => by unfold prevW; rw [if_pos e]
            have HPREV := Aside0.mk hprev
            have HPV := Aside0.mk hpv
            have HP0 := Aside0.mk hp0
            clear hws hbad hprev hpv hp0
            generalize rd_T36 l1 (j : Int) = x at *
            obtain ⟨v, f1, ⟨mh, ms⟩⟩ := x
            simp only at hx0 hx1 hx2 hx3
            have hln' : all.length ≤ 1000000 := by have := HN.out; have := HLN.out; omega
            have hhas := has19_val all v (by omega) (all.length + 1) (by omega)
            have hCA : Kd.C (Kd.int .i64) wr Ao n all := by have := Kd.C_below HCA.out HB1.out; rw [HN.out] at this; exact this
            have HCAR := Aside0.mk hCA
            have hlen := HN.out
            clear hCA hln'
            cases hq : decide (v ∈ all) with
            | false =>
              rw [hq] at hhas
              have HHS := Aside0.mk hhas
              obtain rfl : r = 290 := HBAD.out (by
                unfold badW
                by_cases h1 : v < 1
                · simp [h1]
                · rw [HMA.out.2.2 v (by omega), hq]; simp)
              clear hhas hq
              have hb1 := HB1.out
              have HBB := Aside0.mk (below_step HB.out HB1.out)
              clear hb1
              go_wp2
              go_quiet ((go_at_call 83; exact Calls.quiet_of (has_call (all.length + 1) Ao co all n v false _ hlen (Kd.C_drewN HCAR.out _) HCO.out HHS.out)))
              go_wp2
              go_ret
              exact ⟨rfl, pw_below_drewN HBB.out nq⟩
            | true =>
              rw [hq] at hhas
              have HHS := Aside0.mk hhas
              have hrg := HMA.out.2.1 v (of_decide_eq_true hq)
              have hmet := HMA.out.2.2 v (by omega)
              rw [hq] at hmet
              have hfin : low (prevW l1 j) v = false → Aside0 (checkWs met (prevW l1 (j + 1)) (l1.drop (j + 1)) = checkWs met none l1) := fun hl => ⟨by
                rw [HSTEP.out, if_neg (by
                  unfold badW
                  have a1 : ¬ (v < 1) := by omega
                  have a2 : ¬ (16 < v) := by omega
                  simp only [hmet, a1, a2, hl, decide_false, Bool.or_false, Bool.not_true]; decide)]⟩
              have HFIN := Aside0.mk hfin
              have hbad4 : low (prevW l1 j) v = true → r = 290 := fun hl => HBAD.out (by unfold badW; simp only [hl, Bool.or_true])
              have HBAD4 := Aside0.mk hbad4
              have HBB := Aside0.mk (below_step HB.out HB1.out)
              clear hhas hq hmet hfin hbad4 hrg
              cases j with
              | zero =>
                have HF := HFIN.out (by rw [HP0.out rfl]; rfl)
                have ea : ad.add (0 * 4) = ad := by unfold Addr.add; simp
                rw [ea] at hx0 hx1 hx2 hx3
                clear ea
                go_wp2
                go_quiet ((go_at_call 83; exact Calls.quiet_of (has_call (all.length + 1) Ao co all n v true _ hlen (Kd.C_drewN HCAR.out _) HCO.out HHS.out)))
                go_wp2
                go_roundw
                case measure => simp only [intOf]; omega
                case rel => exact ⟨1, by omega, rfl, HF, ⟨pw_below_drewN HB1.out nq⟩⟩
              | succ m =>
                have hpc := HPREV.out m rfl
                have hpe := HPV.out m rfl
                have HPE := Aside0.mk hpe
                clear hpe
                generalize (rd_T36 l1 (m : Int)).f0 = u at *
                have hj1 : decide ((0 : Int) < (m : Int) + 1) = true := decide_eq_true (by omega)
                have hj2 : IntKind.i64.wrap ((m : Int) + 1 - 1) = (m : Int) := by rw [IntWalk.i64_in _ (by omega)]; omega
                by_cases d5 : v ≤ u
                · obtain rfl := HBAD4.out (by rw [HPE.out]; unfold low; simp only [d5, decide_true])
                  go_wp2
                  go_quiet ((go_at_call 83; exact Calls.quiet_of (has_call (all.length + 1) Ao co all n v true _ hlen (Kd.C_drewN HCAR.out _) HCO.out HHS.out)))
                  go_wp2
                  go_ret
                  exact ⟨rfl, pw_below_drewN HBB.out nq⟩
                · have HF := HFIN.out (by rw [HPE.out]; unfold low; simp only [d5, decide_false])
                  have hd5 : decide (v ≤ u) = false := decide_eq_false d5
                  clear d5
                  go_wp2
                  go_quiet ((go_at_call 83; exact Calls.quiet_of (has_call (all.length + 1) Ao co all n v true _ hlen (Kd.C_drewN HCAR.out _) HCO.out HHS.out)))
                  go_wp2
                  go_roundw
                  case measure => simp only [intOf]; omega
                  case rel => exact ⟨m + 1 + 1, by omega, by go_num, HF, ⟨pw_below_drewN HB1.out nq⟩⟩
    case pos =>
      obtain ⟨ad, Am, cm, rfl, hx0, hx1, hx2, hx3, hx4, hx5, hcm, hCm⟩ := at_T90 HR0.out (k : Int) (by omega) (by omega)
      rw [Int.toNat_natCast] at hx0
      replace hx0 := pw_cell_below HB.out hx0
      have hst := ents_step met n l0 k hlt
      clear hx1 hx2 hx3 hx4 hx5
      generalize rd_T90 l0 (k : Int) = x at *
      obtain ⟨ms, t123, t4, t5⟩ := x
      simp only at hx0 hcm hCm hst
      by_cases c1 : ms.length < 1
      · obtain rfl : r = 290 := by rw [← HA.out, hst, if_pos (.inl c1)]; rfl
        clear hst HA
        go_wp2
        go_ret
        exact ⟨rfl, HB.out⟩
      by_cases c2 : 8 < ms.length
      · obtain rfl : r = 290 := by rw [← HA.out, hst, if_pos (.inr c2)]; rfl
        clear hst HA
        go_wp2
        go_ret
        exact ⟨rfl, HB.out⟩
      rw [if_neg (by omega)] at hst
      have HST := Aside0.mk hst
      have HCM := Aside0.mk hCm
      have HCC := Aside0.mk hcm
      have HROW0 := HROW
      have HB0 := HB
      have HN0 := HN
      have HMA0 := HMA
      clear hst hCm HROW HB HN HMA
      go_wp2
      clear hx0
      go_loopw [5, 8] (fun s5 s8 wi => ∃ (j : Nat) (met1 : List Bool) (all1 : List Int), j ≤ ms.length ∧ s8 = .int .i64 j ∧ Aside0 (all1.length = n + j) ∧ Aside0 (checkMems met1 (prevAt ms j) (ms.drop j) = checkMems met none ms) ∧ Aside0 (MetAll met1 all1) ∧ Aside0 (wi.ownsRow w.heap.size 3 1 s5 (n + j) (all1.map (Value.int .i64))) ∧ Aside0 (Below w.heap.size w wi))
        (fun _ s8 _ => ms.length - (intOf s8).toNat)
      case atStart => exact ⟨0, met, all, Nat.zero_le _, rfl, HN0, ⟨rfl⟩, HMA0, HROW0, HB0⟩
      case round =>
        obtain ⟨j, met1, all1, hj, rfl, HN1, HMS, HM1, HROW1, HB1⟩ := hrel
        clear HROW0 HB0 HN0 HMA0
        generalize u5 = ow at *
        by_cases hjl : j < ms.length
        case neg =>
          obtain rfl : j = ms.length := by omega
          have hms := HMS.out
          rw [List.drop_length, checkMems] at hms
          have hst2 := HST.out
          rw [← hms] at hst2
          simp only at hst2
          have hnew : pickEnd l1 (checkEnts met1 (n + ms.length) (l0.drop (k + 1))) = r := by rw [← HA.out, hst2]
          have HNEW := Aside0.mk hnew
          clear hms hst2 hnew HA HST HMS
          go_wp2
          go_roundw
          case measure => simp only [intOf]; omega
          case rel => exact ⟨k + 1, n + ms.length, met1, all1, by omega, rfl, by omega, HN1, HNEW, HM1, HROW1, HB1⟩
        case pos =>
          obtain ⟨ai, rfl, hv0⟩ := Kd.at_int (Kd.C_below HCM.out HB1.out) (j : Int) (by omega) (by omega)
          rw [Int.toNat_natCast] at hv0
          have hms := mems_step met1 ms j hjl
          rw [HMS.out] at hms
          have hbad : badMem met1 (prevAt ms j) (rd ms j) = true → r = 290 := fun hb => by
            rw [← HA.out, HST.out, hms, if_pos hb]; rfl
          have HBAD := Aside0.mk hbad
          have HSTEP := Aside0.mk hms
          have hprev : ∀ m : Nat, j = m + 1 → wr.cell? (ai.add m) = some (.int .i64 (rd ms m)) := fun m e => by
            obtain ⟨ai2, e2, hv1⟩ := Kd.at_int (Kd.C_below HCM.out HB1.out) (m : Int) (by omega) (by omega)
            injection e2 with e2
            subst e2
            rw [Int.toNat_natCast] at hv1
            exact hv1
          have hpv : ∀ m : Nat, j = m + 1 → prevAt ms j = some (rd ms m) := fun m e => by unfold prevAt; rw [if_neg (by omega), e]; rfl
          have hp0 : j = 0 → prevAt ms j = none := fun e => by unfold prevAt; rw [if_pos e]
          have HPREV := Aside0.mk hprev
          have HPV := Aside0.mk hpv
          have HP0 := Aside0.mk hp0
          obtain ⟨Ao, co, rfl, hco, hCo⟩ := slice_own HN1.out HROW1.out
          have HCO := Aside0.mk hco
          have hlen := HN1.out
          have hCA : Kd.C (Kd.int .i64) wr Ao (n + j) all1 := by rw [hlen] at hCo; exact hCo
          have HCAR := Aside0.mk hCA
          clear hms hbad hprev hpv hp0 hco hCo hCA
          generalize rd ms (j : Int) = v at *
          have hall : all1.length ≤ 9000000 := by omega
          by_cases d1 : v < 1
          · obtain rfl := HBAD.out (by unfold badMem; simp only [d1, decide_true, Bool.true_or])
            go_wp2
            go_quiet (fail)
            go_wp2
            go_ret
            exact ⟨rfl, pw_below_drewN HB1.out nq⟩
          have hd1 : decide (v < 1) = false := decide_eq_false d1
          by_cases d2 : 16 < v
          · obtain rfl := HBAD.out (by unfold badMem; simp only [d2, decide_true, Bool.true_or, Bool.or_true])
            have hd2 : decide (16 < v) = true := decide_eq_true d2
            go_wp2
            go_quiet (fail)
            go_wp2
            go_ret
            exact ⟨rfl, pw_below_drewN HB1.out nq⟩
          have hd2 : decide (16 < v) = false := decide_eq_false d2
          have hhas := has19_val all1 v hall (all1.length + 1) (by omega)
          have hmet := HM1.out.2.2 v (by omega)
          have hfin : v ∉ all1 → low (prevAt ms j) v = false → Aside0 (checkMems (met1.set v.toNat true) (prevAt ms (j + 1)) (ms.drop (j + 1)) = checkMems met none ms) := fun hv hl => ⟨by
            rw [HSTEP.out, if_neg (by
              unfold badMem
              simp only [hmet, hd1, hd2, hl, decide_eq_false hv]; decide)]⟩
          have HFIN := Aside0.mk hfin
          have hbad4 : low (prevAt ms j) v = true → r = 290 := fun hl => HBAD.out (by unfold badMem; simp only [hl, Bool.or_true])
          have HBAD4 := Aside0.mk hbad4
          have hbad5 : v ∈ all1 → r = 290 := fun hv => HBAD.out (by unfold badMem; simp only [hmet, decide_eq_true hv, Bool.or_true, Bool.true_or])
          have HBAD5 := Aside0.mk hbad5
          have HSN := Aside0.mk (HM1.out.snoc v (by omega) (by omega))
          have hmp : (all1 ++ [v]).map (Value.int .i64) = all1.map (Value.int .i64) ++ [.int .i64 v] := by simp
          have HMP := Aside0.mk hmp
          have HAL := Aside0.mk hall
          clear hfin hbad4 hbad5 hmet hmp hall d1 d2
          cases j with
          | zero =>
            have ea : ai.add 0 = ai := by unfold Addr.add; simp
            rw [ea] at hv0
            clear ea
            by_cases hq : v ∈ all1
            · obtain rfl := HBAD5.out hq
              rw [decide_eq_true hq] at hhas
              have HHS := Aside0.mk hhas
              clear hhas
              go_wp2
              go_quiet ((go_at_call 83; exact Calls.quiet_of (has_call (all1.length + 1) Ao co all1 (n + 0) v true _ hlen (Kd.C_drewN HCAR.out _) HCO.out HHS.out)))
              go_wp2
              go_ret
              exact ⟨rfl, pw_below_drewN HB1.out nq⟩
            · have HF := HFIN.out hq (by rw [HP0.out rfl]; rfl)
              rw [decide_eq_false hq] at hhas
              have HHS := Aside0.mk hhas
              clear hhas
              go_wp2
              go_quiet ((go_at_call 83; exact Calls.quiet_of (has_call (all1.length + 1) Ao co all1 (n + 0) v false _ hlen (Kd.C_drewN HCAR.out _) HCO.out HHS.out)))
              generalize hwq : wr.drewN nq = wq
              have HRQ := Aside0.mk (show wq.ownsRow w.heap.size 3 1 (.slice Ao (n + 0) co) (n + 0) (all1.map (Value.int .i64)) from hwq ▸ pw_own_drewN HROW1.out nq)
              have HBQ := Aside0.mk (below_at hwq HB1.out)
              have hcv : wq.cell? ai = some (.int .i64 v) := by rw [← hwq]; exact hv0
              clear hwq
              go_wp2_with (at_builtin; refine wpList_append_own _ rfl _ _ 42 rfl w.heap.size 3 i0 (.int .i64 0) 1 8 Tryd.underlying42 hi hz0 hz1 hz2 rfl (by decide) _ _ _ rfl (HRQ.out.alloc _) ⟨wq.heap.size, 0, none⟩ 1 1 [.int .i64 v] rfl rfl (cell_one_new wq (.int .i64 v) 3) (by simp [Value.oneCell']) (by unfold maxLen; omega) (by omega) (by have := HBQ.out.size; simp; omega) ?_; intro v' w6 hown' hgrow' _; have HOWN := Aside0.mk hown'; have HGROW := Aside0.mk hgrow'; clear hown' hgrow')
              go_roundw
              case measure => simp only [intOf]; omega
              case rel => exact ⟨1, met1.set v.toNat true, all1 ++ [v], by omega, by go_num, ⟨by rw [List.length_append, HN1.out]; rfl⟩, HF, HSN, ⟨by rw [HMP.out]; exact HOWN.out⟩, ⟨(HBQ.out.alloc (by have := HBQ.out.size; omega) _).grown HGROW.out (by have := HBQ.out.size; simp; omega) (row_ge HRQ.out)⟩⟩
          | succ m =>
            have hpc := HPREV.out m rfl
            have hpe := HPV.out m rfl
            have ea : ai.add (m + 1) = ⟨ai.block, ai.off + (m + 1), none⟩ := by unfold Addr.add; simp
            rw [ea] at hv0
            clear ea
            have HPE := Aside0.mk hpe
            clear hpe
            generalize rd ms (m : Int) = u at *
            have hj1 : decide ((0 : Int) < (m : Int) + 1) = true := decide_eq_true (by omega)
            have hj2 : IntKind.i64.wrap ((m : Int) + 1 - 1) = (m : Int) := by rw [IntWalk.i64_in _ (by omega)]; omega
            by_cases d5 : v ≤ u
            · obtain rfl := HBAD4.out (by rw [HPE.out]; unfold low; simp only [d5, decide_true])
              have hd5 : decide (v ≤ u) = true := decide_eq_true d5
              go_wp2
              go_quiet (fail)
              go_wp2
              go_ret
              exact ⟨rfl, pw_below_drewN HB1.out nq⟩
            · have hd5 : decide (v ≤ u) = false := decide_eq_false d5
              by_cases hq : v ∈ all1
              · obtain rfl := HBAD5.out hq
                rw [decide_eq_true hq] at hhas
                have HHS := Aside0.mk hhas
                clear hhas d5
                go_wp2
                go_quiet ((go_at_call 83; exact Calls.quiet_of (has_call (all1.length + 1) Ao co all1 (n + (m + 1)) v true _ hlen (Kd.C_drewN HCAR.out _) HCO.out HHS.out)))
                go_wp2
                go_ret
                exact ⟨rfl, pw_below_drewN HB1.out nq⟩
              · have HF := HFIN.out hq (by rw [HPE.out]; unfold low; simp only [d5, decide_false])
                rw [decide_eq_false hq] at hhas
                have HHS := Aside0.mk hhas
                clear hhas d5
                go_wp2
                go_quiet ((go_at_call 83; exact Calls.quiet_of (has_call (all1.length + 1) Ao co all1 (n + (m + 1)) v false _ hlen (Kd.C_drewN HCAR.out _) HCO.out HHS.out)))
                generalize hwq : wr.drewN nq = wq
                have HRQ := Aside0.mk (show wq.ownsRow w.heap.size 3 1 (.slice Ao (n + (m + 1)) co) (n + (m + 1)) (all1.map (Value.int .i64)) from hwq ▸ pw_own_drewN HROW1.out nq)
                have HBQ := Aside0.mk (below_at hwq HB1.out)
                have hcv : wq.cell? ⟨ai.block, ai.off + (m + 1), none⟩ = some (.int .i64 v) := by rw [← hwq]; exact hv0
                clear hwq
                go_wp2_with (at_builtin; refine wpList_append_own _ rfl _ _ 42 rfl w.heap.size 3 i0 (.int .i64 0) 1 8 Tryd.underlying42 hi hz0 hz1 hz2 rfl (by decide) _ _ _ rfl (HRQ.out.alloc _) ⟨wq.heap.size, 0, none⟩ 1 1 [.int .i64 v] rfl rfl (cell_one_new wq (.int .i64 v) 3) (by simp [Value.oneCell']) (by unfold maxLen; omega) (by omega) (by have := HBQ.out.size; simp; omega) ?_; intro v' w6 hown' hgrow' _; have HOWN := Aside0.mk hown'; have HGROW := Aside0.mk hgrow'; clear hown' hgrow')
                go_roundw
                case measure => simp only [intOf]; omega
                case rel => exact ⟨m + 1 + 1, met1.set v.toNat true, all1 ++ [v], by omega, by go_num, ⟨by rw [List.length_append, HN1.out]; rfl⟩, HF, HSN, ⟨by rw [HMP.out]; exact HOWN.out⟩, ⟨(HBQ.out.alloc (by have := HBQ.out.size; omega) _).grown HGROW.out (by have := HBQ.out.size; simp; omega) (row_ge HRQ.out)⟩⟩
end Go.Proofs.YtdmieaidheelbaaDoor.Q
end
/- QFlaw19Askwhy -/
section
namespace Go.Proofs.YtdmieaidheelbaaDoor.Q
open Go.RowKit Go.Proofs.YtdmieaidheelbaaDoorW.PrintWords Go.Proofs.YtdmieaidheelbaaDoorW.PrintLast Go.Proofs.YtdmieaidheelbaaDoorW.PrintMore
attribute [local go_sem] max2_int min2_int max_two min_two max_three min_three max_four min_four
set_option linter.unusedVariables false
set_option linter.unusedSimpArgs false

def mainsheetlaw19_Ask_why.f (l0_0 : List (S90)) (l0_1 : List (S36)) (a0_2 : Int) : Option (Int) := (mainsheetref19_Error.f l0_0 l0_1).bind fun t421 => (if t421 = 0 then ((mainsheetref04_Right.f a0_2).bind fun t422 => (if t422 = true then (some 0) else (some 140))) else (some t421))
set_option maxHeartbeats 8000000 in
set_option maxRecDepth 100000 in
theorem mainsheetlaw19_Ask_why.calls (A0_0 : Option Addr) (c0_0 : Nat) (l0_0 : List (S90)) (A0_1 : Option Addr) (c0_1 : Nat) (l0_1 : List (S36)) (a0_2 : Int) (r : Int) (w : World) (hr0_0 : Kd.C k90 w A0_0 l0_0.length l0_0) (hc0_0 : l0_0.length ≤ c0_0) (hr0_1 : Kd.C k36 w A0_1 l0_1.length l0_1) (hc0_1 : l0_1.length ≤ c0_1) (h : mainsheetlaw19_Ask_why.f l0_0 l0_1 a0_2 = some r) :
  Calls Tryd.prog 33 #[.agg #[.slice A0_0 l0_0.length c0_0, .slice A0_1 l0_1.length c0_1, .int .u32 a0_2]] w fun e w' => e = .returned (.int .i64 r) ∧ Below w.heap.size w w' := by
 have hu41 := Tryd.underlying41
 have HR0_0 := Aside0.mk hr0_0
 have HC0_0 := Aside0.mk hc0_0
 clear hr0_0 hc0_0
 have HR0_1 := Aside0.mk hr0_1
 have HC0_1 := Aside0.mk hc0_1
 clear hr0_1 hc0_1
 have HB := Aside0.mk (Below.refl w.heap.size w)
 have H : ((mainsheetref19_Error.f l0_0 l0_1).bind fun t421 => (if t421 = 0 then ((mainsheetref04_Right.f a0_2).bind fun t422 => (if t422 = true then (some 0) else (some 140))) else (some t421))) = some r := h
 clear h
 replace H := Option.bind_eq_some_iff.mp H
 obtain ⟨t421, A20, H⟩ := H
 replace H : (if t421 = 0 then ((mainsheetref04_Right.f a0_2).bind fun t422 => (if t422 = true then (some 0) else (some 140))) else (some t421)) = some r := H
 have A2 := Aside0.mk A20
 clear A20
 by_cases c3 : t421 = 0
 ·rw [if_pos c3] at H
  have c3b0 : (t421 == 0) = true := beq_iff_eq.mpr c3
  have c3b1 : (t421 != 0) = false := bne_eq_false_iff_eq.mpr c3
  clear c3
  replace H := Option.bind_eq_some_iff.mp H
  obtain ⟨t422, A40, H⟩ := H
  replace H : (if t422 = true then (some 0) else (some 140)) = some r := H
  have A4 := Aside0.mk A40
  clear A40
  by_cases c5 : t422 = true
  ·subst c5
   have H1 : (some 0) = some r := by rw [if_pos rfl] at H; exact H
   clear H
   have H := H1
   clear H1
   obtain rfl := Option.some.inj H
   go_enter Tryd.func33, Tryd.ntmps33
   go_wp2_with (first | ((with_reducible refine gate_dst (N := 1) rfl ?_); refine box_event ?hg (N := 1) ?hd (cs := #[.slice A0_0 l0_0.length c0_0, .slice A0_1 l0_1.length c0_1, .int .u32 a0_2]) (t := 41) ?hr ?_; (case hd => rfl); (case hg => rfl); (case hr => first | (go_simp; done) | (go_simp; rfl)); intro gb420 hg w6 hbox hb; have n0_ := Aside0.mk (below_step (by repeat (first | (with_reducible first | exact HB.out | apply below_alloc | apply pw_below_drewN | apply below_drew1) | exact HB.out)) hb); have n1_ := Aside0.mk (hbox); have n2_ := Aside0.mk ((by rw [hg]; exact (below_size (by repeat (first | (with_reducible first | exact HB.out | apply below_alloc | apply pw_below_drewN | apply below_drew1) | exact HB.out))) : w.heap.size ≤ gb420)); have n3_ := Aside0.mk ((by rw [hg]; exact (below_size (by repeat (first | (with_reducible first | exact HB.out | apply below_alloc | apply pw_below_drewN | apply below_drew1) | exact HB.out))) : w.heap.size ≤ gb420)); clear HB; have HB := n0_; have BK420 := n1_; have GW420 := n2_; have GE420 := n3_; clear n0_ n1_ n2_ n3_; clear hb hbox hg; have hcz7_0 : w6.cell? ⟨gb420, 0, none⟩ = some (.slice A0_0 l0_0.length c0_0) := (blk_cell BK420.out 0).trans rfl; have hcz7_1 : w6.cell? ⟨gb420, 1, none⟩ = some (.slice A0_1 l0_1.length c0_1) := (blk_cell BK420.out 1).trans rfl; have hcz7_2 : w6.cell? ⟨gb420, 2, none⟩ = some (.int .u32 a0_2) := (blk_cell BK420.out 2).trans rfl; have hfz7_0 := blk_frozen BK420.out 0; have hfz7_1 := blk_frozen BK420.out 1; have hfz7_2 := blk_frozen BK420.out 2) | ((with_reducible refine gate_callee (f := 49) rfl ?_); refine goesL_ (some 8) rfl rfl Tryd.func49 (by kernel_rfl) rfl #[.slice A0_0 l0_0.length c0_0, .slice A0_1 l0_1.length c0_1] rfl (by (try simp only [List.map_toArray, List.map_cons, List.map_nil]); first | done | rfl | (simp only [List.length_drop, List.length_take]; rfl)) ?_; (with_reducible refine (mainsheetref19_Error.calls _ _ l0_0 _ _ l0_1 t421 _ ?side1 ?side2 ?side3 ?side4 A2.out).mono ?_); (case side1 => repeat (first | exact (Kd.C_below HR0_0.out HB.out) | (with_reducible refine Kd.C_alloc ?_ _) | (with_reducible refine Kd.C_drewN ?_ _) | (with_reducible refine Kd.C_drew ?_))); (case side2 => exact HC0_0.out); (case side3 => repeat (first | exact (Kd.C_below HR0_1.out HB.out) | (with_reducible refine Kd.C_alloc ?_ _) | (with_reducible refine Kd.C_drewN ?_ _) | (with_reducible refine Kd.C_drew ?_))); (case side4 => exact HC0_1.out); rintro e w8 ⟨rfl, hb⟩; refine ⟨_, rfl, ?_⟩; have n0_ := Aside0.mk (blk_below (g := gb420) (o := .cells #[.slice A0_0 l0_0.length c0_0, .slice A0_1 l0_1.length c0_1, .int .u32 a0_2] 41 (0, 0)) (by (with_reducible repeat (first | refine blk_drewN ?_ _ | refine blk_drew ?_ | refine blk_alloc ?_ _)); exact BK420.out) hb); have n1_ := Aside0.mk (below_step (by repeat (first | (with_reducible first | exact HB.out | apply below_alloc | apply pw_below_drewN | apply below_drew1 | refine below_set ?_ GE420.out) | exact HB.out)) hb); clear BK420; clear HB; have BK420 := n0_; have HB := n1_; clear n0_ n1_; (try clear hb); (try clear hb2); (try clear hk); (try clear hi); have hcz9_0 : w8.cell? ⟨gb420, 0, none⟩ = some (.slice A0_0 l0_0.length c0_0) := (blk_cell BK420.out 0).trans rfl; have hcz9_1 : w8.cell? ⟨gb420, 1, none⟩ = some (.slice A0_1 l0_1.length c0_1) := (blk_cell BK420.out 1).trans rfl; have hcz9_2 : w8.cell? ⟨gb420, 2, none⟩ = some (.int .u32 a0_2) := (blk_cell BK420.out 2).trans rfl; have hfz9_0 := blk_frozen BK420.out 0; have hfz9_1 := blk_frozen BK420.out 1; have hfz9_2 := blk_frozen BK420.out 2) | ((with_reducible refine gate_callee (f := 53) rfl ?_); refine goesL_ (some 14) rfl rfl Tryd.func53 (by kernel_rfl) rfl #[.int .u32 a0_2] rfl (by (try simp only [List.map_toArray, List.map_cons, List.map_nil]); first | done | rfl | (simp only [List.length_drop, List.length_take]; rfl)) ?_; (with_reducible refine (mainsheetref04_Right.calls a0_2 true _ A4.out).mono ?_); rintro e w' ⟨rfl, ⟨nd, rfl⟩⟩; refine ⟨_, rfl, ?_⟩))
   go_ret
   exact ⟨by first | rfl | (simp [errW_none, errW_some] <;> rfl) | (simp [*, errW_none, errW_some] <;> rfl), by repeat (first | (with_reducible first | exact HB.out | apply below_alloc | apply pw_below_drewN | apply below_drew1 | refine below_set ?_ GE420.out) | exact HB.out)⟩
  ·replace c5 := Bool.eq_false_iff.mpr c5
   subst c5
   have H1 : (some 140) = some r := by rw [if_neg (show ¬ (false = true) by decide)] at H; exact H
   clear H
   have H := H1
   clear H1
   obtain rfl := Option.some.inj H
   go_enter Tryd.func33, Tryd.ntmps33
   go_wp2_with (first | ((with_reducible refine gate_dst (N := 1) rfl ?_); refine box_event ?hg (N := 1) ?hd (cs := #[.slice A0_0 l0_0.length c0_0, .slice A0_1 l0_1.length c0_1, .int .u32 a0_2]) (t := 41) ?hr ?_; (case hd => rfl); (case hg => rfl); (case hr => first | (go_simp; done) | (go_simp; rfl)); intro gb420 hg w10 hbox hb; have n0_ := Aside0.mk (below_step (by repeat (first | (with_reducible first | exact HB.out | apply below_alloc | apply pw_below_drewN | apply below_drew1) | exact HB.out)) hb); have n1_ := Aside0.mk (hbox); have n2_ := Aside0.mk ((by rw [hg]; exact (below_size (by repeat (first | (with_reducible first | exact HB.out | apply below_alloc | apply pw_below_drewN | apply below_drew1) | exact HB.out))) : w.heap.size ≤ gb420)); have n3_ := Aside0.mk ((by rw [hg]; exact (below_size (by repeat (first | (with_reducible first | exact HB.out | apply below_alloc | apply pw_below_drewN | apply below_drew1) | exact HB.out))) : w.heap.size ≤ gb420)); clear HB; have HB := n0_; have BK420 := n1_; have GW420 := n2_; have GE420 := n3_; clear n0_ n1_ n2_ n3_; clear hb hbox hg; have hcz11_0 : w10.cell? ⟨gb420, 0, none⟩ = some (.slice A0_0 l0_0.length c0_0) := (blk_cell BK420.out 0).trans rfl; have hcz11_1 : w10.cell? ⟨gb420, 1, none⟩ = some (.slice A0_1 l0_1.length c0_1) := (blk_cell BK420.out 1).trans rfl; have hcz11_2 : w10.cell? ⟨gb420, 2, none⟩ = some (.int .u32 a0_2) := (blk_cell BK420.out 2).trans rfl; have hfz11_0 := blk_frozen BK420.out 0; have hfz11_1 := blk_frozen BK420.out 1; have hfz11_2 := blk_frozen BK420.out 2) | ((with_reducible refine gate_callee (f := 49) rfl ?_); refine goesL_ (some 8) rfl rfl Tryd.func49 (by kernel_rfl) rfl #[.slice A0_0 l0_0.length c0_0, .slice A0_1 l0_1.length c0_1] rfl (by (try simp only [List.map_toArray, List.map_cons, List.map_nil]); first | done | rfl | (simp only [List.length_drop, List.length_take]; rfl)) ?_; (with_reducible refine (mainsheetref19_Error.calls _ _ l0_0 _ _ l0_1 t421 _ ?side1 ?side2 ?side3 ?side4 A2.out).mono ?_); (case side1 => repeat (first | exact (Kd.C_below HR0_0.out HB.out) | (with_reducible refine Kd.C_alloc ?_ _) | (with_reducible refine Kd.C_drewN ?_ _) | (with_reducible refine Kd.C_drew ?_))); (case side2 => exact HC0_0.out); (case side3 => repeat (first | exact (Kd.C_below HR0_1.out HB.out) | (with_reducible refine Kd.C_alloc ?_ _) | (with_reducible refine Kd.C_drewN ?_ _) | (with_reducible refine Kd.C_drew ?_))); (case side4 => exact HC0_1.out); rintro e w12 ⟨rfl, hb⟩; refine ⟨_, rfl, ?_⟩; have n0_ := Aside0.mk (blk_below (g := gb420) (o := .cells #[.slice A0_0 l0_0.length c0_0, .slice A0_1 l0_1.length c0_1, .int .u32 a0_2] 41 (0, 0)) (by (with_reducible repeat (first | refine blk_drewN ?_ _ | refine blk_drew ?_ | refine blk_alloc ?_ _)); exact BK420.out) hb); have n1_ := Aside0.mk (below_step (by repeat (first | (with_reducible first | exact HB.out | apply below_alloc | apply pw_below_drewN | apply below_drew1 | refine below_set ?_ GE420.out) | exact HB.out)) hb); clear BK420; clear HB; have BK420 := n0_; have HB := n1_; clear n0_ n1_; (try clear hb); (try clear hb2); (try clear hk); (try clear hi); have hcz13_0 : w12.cell? ⟨gb420, 0, none⟩ = some (.slice A0_0 l0_0.length c0_0) := (blk_cell BK420.out 0).trans rfl; have hcz13_1 : w12.cell? ⟨gb420, 1, none⟩ = some (.slice A0_1 l0_1.length c0_1) := (blk_cell BK420.out 1).trans rfl; have hcz13_2 : w12.cell? ⟨gb420, 2, none⟩ = some (.int .u32 a0_2) := (blk_cell BK420.out 2).trans rfl; have hfz13_0 := blk_frozen BK420.out 0; have hfz13_1 := blk_frozen BK420.out 1; have hfz13_2 := blk_frozen BK420.out 2) | ((with_reducible refine gate_callee (f := 53) rfl ?_); refine goesL_ (some 14) rfl rfl Tryd.func53 (by kernel_rfl) rfl #[.int .u32 a0_2] rfl (by (try simp only [List.map_toArray, List.map_cons, List.map_nil]); first | done | rfl | (simp only [List.length_drop, List.length_take]; rfl)) ?_; (with_reducible refine (mainsheetref04_Right.calls a0_2 false _ A4.out).mono ?_); rintro e w' ⟨rfl, ⟨nd, rfl⟩⟩; refine ⟨_, rfl, ?_⟩))
   go_ret
   exact ⟨by first | rfl | (simp [errW_none, errW_some] <;> rfl) | (simp [*, errW_none, errW_some] <;> rfl), by repeat (first | (with_reducible first | exact HB.out | apply below_alloc | apply pw_below_drewN | apply below_drew1 | refine below_set ?_ GE420.out) | exact HB.out)⟩
 ·rw [if_neg c3] at H
  have c3b0 : (t421 == 0) = false := beq_eq_false_iff_ne.mpr c3
  have c3b1 : (t421 != 0) = true := bne_iff_ne.mpr c3
  obtain rfl := Option.some.inj H
  go_enter Tryd.func33, Tryd.ntmps33
  go_wp2_with (first | ((with_reducible refine gate_dst (N := 1) rfl ?_); refine box_event ?hg (N := 1) ?hd (cs := #[.slice A0_0 l0_0.length c0_0, .slice A0_1 l0_1.length c0_1, .int .u32 a0_2]) (t := 41) ?hr ?_; (case hd => rfl); (case hg => rfl); (case hr => first | (go_simp; done) | (go_simp; rfl)); intro gb420 hg w14 hbox hb; have n0_ := Aside0.mk (below_step (by repeat (first | (with_reducible first | exact HB.out | apply below_alloc | apply pw_below_drewN | apply below_drew1) | exact HB.out)) hb); have n1_ := Aside0.mk (hbox); have n2_ := Aside0.mk ((by rw [hg]; exact (below_size (by repeat (first | (with_reducible first | exact HB.out | apply below_alloc | apply pw_below_drewN | apply below_drew1) | exact HB.out))) : w.heap.size ≤ gb420)); have n3_ := Aside0.mk ((by rw [hg]; exact (below_size (by repeat (first | (with_reducible first | exact HB.out | apply below_alloc | apply pw_below_drewN | apply below_drew1) | exact HB.out))) : w.heap.size ≤ gb420)); clear HB; have HB := n0_; have BK420 := n1_; have GW420 := n2_; have GE420 := n3_; clear n0_ n1_ n2_ n3_; clear hb hbox hg; have hcz15_0 : w14.cell? ⟨gb420, 0, none⟩ = some (.slice A0_0 l0_0.length c0_0) := (blk_cell BK420.out 0).trans rfl; have hcz15_1 : w14.cell? ⟨gb420, 1, none⟩ = some (.slice A0_1 l0_1.length c0_1) := (blk_cell BK420.out 1).trans rfl; have hcz15_2 : w14.cell? ⟨gb420, 2, none⟩ = some (.int .u32 a0_2) := (blk_cell BK420.out 2).trans rfl; have hfz15_0 := blk_frozen BK420.out 0; have hfz15_1 := blk_frozen BK420.out 1; have hfz15_2 := blk_frozen BK420.out 2) | ((with_reducible refine gate_callee (f := 49) rfl ?_); refine goesL_ (some 8) rfl rfl Tryd.func49 (by kernel_rfl) rfl #[.slice A0_0 l0_0.length c0_0, .slice A0_1 l0_1.length c0_1] rfl (by (try simp only [List.map_toArray, List.map_cons, List.map_nil]); first | done | rfl | (simp only [List.length_drop, List.length_take]; rfl)) ?_; (with_reducible refine (mainsheetref19_Error.calls _ _ l0_0 _ _ l0_1 t421 _ ?side1 ?side2 ?side3 ?side4 A2.out).mono ?_); (case side1 => repeat (first | exact (Kd.C_below HR0_0.out HB.out) | (with_reducible refine Kd.C_alloc ?_ _) | (with_reducible refine Kd.C_drewN ?_ _) | (with_reducible refine Kd.C_drew ?_))); (case side2 => exact HC0_0.out); (case side3 => repeat (first | exact (Kd.C_below HR0_1.out HB.out) | (with_reducible refine Kd.C_alloc ?_ _) | (with_reducible refine Kd.C_drewN ?_ _) | (with_reducible refine Kd.C_drew ?_))); (case side4 => exact HC0_1.out); rintro e w16 ⟨rfl, hb⟩; refine ⟨_, rfl, ?_⟩; have n0_ := Aside0.mk (blk_below (g := gb420) (o := .cells #[.slice A0_0 l0_0.length c0_0, .slice A0_1 l0_1.length c0_1, .int .u32 a0_2] 41 (0, 0)) (by (with_reducible repeat (first | refine blk_drewN ?_ _ | refine blk_drew ?_ | refine blk_alloc ?_ _)); exact BK420.out) hb); have n1_ := Aside0.mk (below_step (by repeat (first | (with_reducible first | exact HB.out | apply below_alloc | apply pw_below_drewN | apply below_drew1 | refine below_set ?_ GE420.out) | exact HB.out)) hb); clear BK420; clear HB; have BK420 := n0_; have HB := n1_; clear n0_ n1_; (try clear hb); (try clear hb2); (try clear hk); (try clear hi)))
  go_ret
  exact ⟨by first | rfl | (simp [errW_none, errW_some] <;> rfl) | (simp [*, errW_none, errW_some] <;> rfl), by repeat (first | (with_reducible first | exact HB.out | apply below_alloc | apply pw_below_drewN | apply below_drew1 | refine below_set ?_ GE420.out) | exact HB.out)⟩

end Go.Proofs.YtdmieaidheelbaaDoor.Q
end
/- QFlaw19Askcopied -/
section
namespace Go.Proofs.YtdmieaidheelbaaDoor.Q
open Go.RowKit Go.Proofs.YtdmieaidheelbaaDoorW.PrintWords Go.Proofs.YtdmieaidheelbaaDoorW.PrintLast Go.Proofs.YtdmieaidheelbaaDoorW.PrintMore
attribute [local go_sem] max2_int min2_int max_two min_two max_three min_three max_four min_four
set_option linter.unusedVariables false
set_option linter.unusedSimpArgs false

end Go.Proofs.YtdmieaidheelbaaDoor.Q
end
/- QFref19Wish -/
section
namespace Go.Proofs.YtdmieaidheelbaaDoor.Q
open Go.RowKit Go.Proofs.YtdmieaidheelbaaDoorW.PrintWords Go.Proofs.YtdmieaidheelbaaDoorW.PrintLast Go.Proofs.YtdmieaidheelbaaDoorW.PrintMore
attribute [local go_sem] max2_int min2_int max_two min_two max_three min_three max_four min_four
set_option linter.unusedVariables false
set_option linter.unusedSimpArgs false

def mainsheetref19_Wish.l0 : Nat → List (S36) → Int → Int → Option (Int × Int × Int × Int)
 | 0, _, _, _ => none
 | k + 1, x0, x1, x5 => if x5 < (x0.length : Int) then (if 0 ≤ x5 then (if ((rd_T36 x0 x5).f0) = x1 then (some ((rd_T36 x0 x5).f0, (rd_T36 x0 x5).f1, (rd_T36 x0 x5).f2.f0, (rd_T36 x0 x5).f2.f1)) else (mainsheetref19_Wish.l0 k x0 x1 (wrap64 (x5 + 1)))) else (none)) else (some (0, 0, 0, 0))
def mainsheetref19_Wish.f (k : Nat) (l0 : List (S36)) (a1 : Int) : Option (Int × Int × Int × Int) := mainsheetref19_Wish.l0 k l0 a1 0
set_option maxHeartbeats 8000000 in
set_option maxRecDepth 100000 in
theorem mainsheetref19_Wish.calls (k : Nat) (A0 : Option Addr) (c0 : Nat) (l0 : List (S36)) (a1 : Int) (r1 : Int) (r2 : Int) (r3 : Int) (r4 : Int) (w : World) (hr0 : Kd.C k36 w A0 l0.length l0) (hc0 : l0.length ≤ c0) (h : mainsheetref19_Wish.f k l0 a1 = some (r1, r2, r3, r4)) :
  Calls Tryd.prog 78 #[.slice A0 l0.length c0, .int .i64 a1] w fun e w' => e = .returned (.agg #[.int .i64 r1, .int .i64 r2, .int .u32 r3, .int .u32 r4]) ∧ Below w.heap.size w w' := by
 have hu36 := Tryd.underlying36
 have HR0 := Aside0.mk hr0
 have HC0 := Aside0.mk hc0
 clear hr0 hc0
 have HB := Aside0.mk (Below.refl w.heap.size w)
 have H : (mainsheetref19_Wish.l0 k l0 a1 0) = some (r1, r2, r3, r4) := h
 clear h
 have H' := Aside0.mk H
 clear H
 go_enter Tryd.func78, Tryd.ntmps78
 go_wp2_with (first | ((with_reducible refine gate_dst (N := 4) rfl ?_); refine box_event ?hg (N := 4) ?hd (cs := #[.int .i64 0, .int .i64 0, .int .u32 0, .int .u32 0]) (t := 36) ?hr ?_; (case hd => rfl); (case hg => rfl); (case hr => first | (go_simp; done) | (go_simp; rfl)); intro gb423 hg w3 hbox hb; have n0_ := Aside0.mk (below_step (by repeat (first | (with_reducible first | exact HB.out | apply below_alloc | apply pw_below_drewN | apply below_drew1) | exact HB.out)) hb); have n1_ := Aside0.mk (hbox); have n2_ := Aside0.mk ((by rw [hg]; exact (below_size (by repeat (first | (with_reducible first | exact HB.out | apply below_alloc | apply pw_below_drewN | apply below_drew1) | exact HB.out))) : w.heap.size ≤ gb423)); have n3_ := Aside0.mk ((by rw [hg]; exact (below_size (by repeat (first | (with_reducible first | exact HB.out | apply below_alloc | apply pw_below_drewN | apply below_drew1) | exact HB.out))) : w.heap.size ≤ gb423)); clear HB; have HB := n0_; have BK423 := n1_; have GW423 := n2_; have GE423 := n3_; clear n0_ n1_ n2_ n3_; clear hb hbox hg))
 go_loopg [5] k (fun kq v5 w' => ∃ (x5_1 : Int) (x424000_1 : Int) (x424001_1 : Int) (x424002_1 : Int) (x424003_1 : Int), v5 = .int .i64 x5_1 ∧ Aside0 (mainsheetref19_Wish.l0 kq l0 a1 x5_1 = some (r1, r2, r3, r4)) ∧ Aside0 (kq ≤ k) ∧ Aside0 (w'.heap[gb423]? = some (.cells #[.int .i64 x424000_1, .int .i64 x424001_1, .int .u32 x424002_1, .int .u32 x424003_1] 36 (0, 0))) ∧ Aside0 (Below w.heap.size w w'))
 case atStart => exact ⟨(0), (0), (0), (0), (0), (by first | rfl | (simp; done) | (simp [*]; done)), H', ⟨Nat.le_refl _⟩, ⟨by (with_reducible repeat (first | refine blk_drewN ?_ _ | refine blk_drew ?_ | refine blk_alloc ?_ _)); exact BK423.out⟩, ⟨by repeat (first | (with_reducible first | exact HB.out | apply below_alloc | apply pw_below_drewN | apply below_drew1 | refine below_set ?_ GE423.out) | exact HB.out)⟩⟩
 case round =>
  clear H'
  try clear p2
  obtain ⟨x5_1, x424000_1, x424001_1, x424002_1, x424003_1, rfl, HA, HK1, BK423, HB⟩ := hrel
  cases gk with
  | zero => exact absurd HA.out (by simp [mainsheetref19_Wish.l0])
  | succ k1 =>
   have H := HA.out
   clear HA
   simp only [mainsheetref19_Wish.l0] at H
   by_cases c4 : x5_1 < (l0.length : Int)
   ·rw [if_pos c4] at H
    have c4b0 : decide (x5_1 < (l0.length : Int)) = true := decide_eq_true c4
    clear c4
    by_cases c5 : 0 ≤ x5_1
    ·rw [if_pos c5] at H
     have c5b0 : decide (0 ≤ x5_1) = true := decide_eq_true c5
     clear c5
     by_cases c6 : ((rd_T36 l0 x5_1).f0) = a1
     ·rw [if_pos c6] at H
      have c6b0 : (((rd_T36 l0 x5_1).f0) == a1) = true := beq_iff_eq.mpr c6
      have c6b1 : (((rd_T36 l0 x5_1).f0) != a1) = false := bne_eq_false_iff_eq.mpr c6
      clear c6
      simp only [Option.some.injEq, Prod.mk.injEq] at H
      obtain ⟨rfl, rfl, rfl, rfl⟩ := H
      have p424 : 0 ≤ (x5_1 : Int) := of_decide_eq_true (by first | (with_reducible assumption) | assumption)
      have q424 : x5_1 < (l0.length : Int) := of_decide_eq_true (by first | (with_reducible assumption) | assumption)
      obtain ⟨ad424, e424, hx424_0, hx424_1, hx424_2, hx424_3⟩ := at_T36 HR0.out x5_1 p424 q424
      cases e424
      replace hx424_0 := (HB.out.cell (World.block_lt_of_cell? w _ hx424_0)).trans hx424_0
      replace hx424_1 := (HB.out.cell (World.block_lt_of_cell? w _ hx424_1)).trans hx424_1
      replace hx424_2 := (HB.out.cell (World.block_lt_of_cell? w _ hx424_2)).trans hx424_2
      replace hx424_3 := (HB.out.cell (World.block_lt_of_cell? w _ hx424_3)).trans hx424_3
      replace p424 := eq_true p424
      replace q424 := eq_true q424
      have p425 : 0 ≤ (x5_1 : Int) := of_decide_eq_true (by first | (with_reducible assumption) | assumption)
      have q425 : x5_1 < (l0.length : Int) := of_decide_eq_true (by first | (with_reducible assumption) | assumption)
      obtain ⟨ad425, e425, hx425_0, hx425_1, hx425_2, hx425_3⟩ := at_T36 HR0.out x5_1 p425 q425
      obtain rfl : ad424 = ad425 := (by injection e425)
      replace hx425_0 := (HB.out.cell (World.block_lt_of_cell? w _ hx425_0)).trans hx425_0
      replace hx425_1 := (HB.out.cell (World.block_lt_of_cell? w _ hx425_1)).trans hx425_1
      replace hx425_2 := (HB.out.cell (World.block_lt_of_cell? w _ hx425_2)).trans hx425_2
      replace hx425_3 := (HB.out.cell (World.block_lt_of_cell? w _ hx425_3)).trans hx425_3
      replace p425 := eq_true p425
      replace q425 := eq_true q425
      have hcz7_0 : wr.cell? ⟨gb423, 0, none⟩ = some (.int .i64 x424000_1) := (blk_cell BK423.out 0).trans rfl
      have hcz7_1 : wr.cell? ⟨gb423, 1, none⟩ = some (.int .i64 x424001_1) := (blk_cell BK423.out 1).trans rfl
      have hcz7_2 : wr.cell? ⟨gb423, 2, none⟩ = some (.int .u32 x424002_1) := (blk_cell BK423.out 2).trans rfl
      have hcz7_3 : wr.cell? ⟨gb423, 3, none⟩ = some (.int .u32 x424003_1) := (blk_cell BK423.out 3).trans rfl
      have hfz7_0 := blk_frozen BK423.out 0
      have hfz7_1 := blk_frozen BK423.out 1
      have hfz7_2 := blk_frozen BK423.out 2
      have hfz7_3 := blk_frozen BK423.out 3
      go_wp2
      refine bodyPost_ret (results_cell_row rfl _ _ gb423 36 #[.int .i64 ((rd_T36 l0 x5_1).f0), .int .i64 ((rd_T36 l0 x5_1).f1), .int .u32 ((rd_T36 l0 x5_1).f2.f0), .int .u32 ((rd_T36 l0 x5_1).f2.f1)] (0, 0) _ rfl (by (with_reducible repeat (first | refine blk_drewN ?_ _ | refine blk_drew ?_ | refine blk_alloc ?_ _)); refine blk_put (cs := #[.int .i64 ((rd_T36 l0 x5_1).f0), .int .i64 ((rd_T36 l0 x5_1).f1), .int .u32 ((rd_T36 l0 x5_1).f2.f0), .int .u32 x424003_1]) ?_ 3 _ rfl; (with_reducible repeat (first | refine blk_drewN ?_ _ | refine blk_drew ?_ | refine blk_alloc ?_ _)); refine blk_put (cs := #[.int .i64 ((rd_T36 l0 x5_1).f0), .int .i64 ((rd_T36 l0 x5_1).f1), .int .u32 x424002_1, .int .u32 x424003_1]) ?_ 2 _ rfl; (with_reducible repeat (first | refine blk_drewN ?_ _ | refine blk_drew ?_ | refine blk_alloc ?_ _)); refine blk_put (cs := #[.int .i64 ((rd_T36 l0 x5_1).f0), .int .i64 x424001_1, .int .u32 x424002_1, .int .u32 x424003_1]) ?_ 1 _ rfl; (with_reducible repeat (first | refine blk_drewN ?_ _ | refine blk_drew ?_ | refine blk_alloc ?_ _)); refine blk_put (cs := #[.int .i64 x424000_1, .int .i64 x424001_1, .int .u32 x424002_1, .int .u32 x424003_1]) ?_ 0 _ rfl; (with_reducible repeat (first | refine blk_drewN ?_ _ | refine blk_drew ?_ | refine blk_alloc ?_ _)); exact BK423.out) Tryd.underlying36 rfl (by kernel_rfl)) rfl ?_
      exact ⟨by first | rfl | (simp [errW_none, errW_some] <;> rfl) | (simp [*, errW_none, errW_some] <;> rfl), by repeat (first | (with_reducible first | exact HB.out | apply below_alloc | apply pw_below_drewN | apply below_drew1 | refine below_set ?_ GE423.out) | exact HB.out)⟩
     ·rw [if_neg c6] at H
      have c6b0 : (((rd_T36 l0 x5_1).f0) == a1) = false := beq_eq_false_iff_ne.mpr c6
      have c6b1 : (((rd_T36 l0 x5_1).f0) != a1) = true := bne_iff_ne.mpr c6
      have H' := Aside0.mk H
      clear H
      have p424 : 0 ≤ (x5_1 : Int) := of_decide_eq_true (by first | (with_reducible assumption) | assumption)
      have q424 : x5_1 < (l0.length : Int) := of_decide_eq_true (by first | (with_reducible assumption) | assumption)
      obtain ⟨ad424, e424, hx424_0, hx424_1, hx424_2, hx424_3⟩ := at_T36 HR0.out x5_1 p424 q424
      cases e424
      replace hx424_0 := (HB.out.cell (World.block_lt_of_cell? w _ hx424_0)).trans hx424_0
      replace hx424_1 := (HB.out.cell (World.block_lt_of_cell? w _ hx424_1)).trans hx424_1
      replace hx424_2 := (HB.out.cell (World.block_lt_of_cell? w _ hx424_2)).trans hx424_2
      replace hx424_3 := (HB.out.cell (World.block_lt_of_cell? w _ hx424_3)).trans hx424_3
      replace p424 := eq_true p424
      replace q424 := eq_true q424
      go_wp2
      go_roundg k1
      case measure => have := HK1.out; omega
      case rel => exact ⟨(wrap64 (x5_1 + 1)), (x424000_1), (x424001_1), (x424002_1), (x424003_1), (by first | rfl | (simp; done) | (simp [*]; done)), H', ⟨by have := HK1.out; omega⟩, ⟨by (with_reducible repeat (first | refine blk_drewN ?_ _ | refine blk_drew ?_ | refine blk_alloc ?_ _)); exact BK423.out⟩, ⟨by repeat (first | (with_reducible first | exact HB.out | apply below_alloc | apply pw_below_drewN | apply below_drew1 | refine below_set ?_ GE423.out) | exact HB.out)⟩⟩
    ·rw [if_neg c5] at H
     exact absurd H (by simp)
   ·rw [if_neg c4] at H
    have c4b0 : decide (x5_1 < (l0.length : Int)) = false := decide_eq_false c4
    clear c4
    simp only [Option.some.injEq, Prod.mk.injEq] at H
    obtain ⟨rfl, rfl, rfl, rfl⟩ := H
    have hcz8_0 : wr.cell? ⟨gb423, 0, none⟩ = some (.int .i64 x424000_1) := (blk_cell BK423.out 0).trans rfl
    have hcz8_1 : wr.cell? ⟨gb423, 1, none⟩ = some (.int .i64 x424001_1) := (blk_cell BK423.out 1).trans rfl
    have hcz8_2 : wr.cell? ⟨gb423, 2, none⟩ = some (.int .u32 x424002_1) := (blk_cell BK423.out 2).trans rfl
    have hcz8_3 : wr.cell? ⟨gb423, 3, none⟩ = some (.int .u32 x424003_1) := (blk_cell BK423.out 3).trans rfl
    have hfz8_0 := blk_frozen BK423.out 0
    have hfz8_1 := blk_frozen BK423.out 1
    have hfz8_2 := blk_frozen BK423.out 2
    have hfz8_3 := blk_frozen BK423.out 3
    go_wp2
    refine bodyPost_ret (results_cell_row rfl _ _ gb423 36 #[.int .i64 0, .int .i64 0, .int .u32 0, .int .u32 0] (0, 0) _ rfl (by (with_reducible repeat (first | refine blk_drewN ?_ _ | refine blk_drew ?_ | refine blk_alloc ?_ _)); refine blk_put (cs := #[.int .i64 0, .int .i64 0, .int .u32 0, .int .u32 x424003_1]) ?_ 3 _ rfl; (with_reducible repeat (first | refine blk_drewN ?_ _ | refine blk_drew ?_ | refine blk_alloc ?_ _)); refine blk_put (cs := #[.int .i64 0, .int .i64 0, .int .u32 x424002_1, .int .u32 x424003_1]) ?_ 2 _ rfl; (with_reducible repeat (first | refine blk_drewN ?_ _ | refine blk_drew ?_ | refine blk_alloc ?_ _)); refine blk_put (cs := #[.int .i64 0, .int .i64 x424001_1, .int .u32 x424002_1, .int .u32 x424003_1]) ?_ 1 _ rfl; (with_reducible repeat (first | refine blk_drewN ?_ _ | refine blk_drew ?_ | refine blk_alloc ?_ _)); refine blk_put (cs := #[.int .i64 x424000_1, .int .i64 x424001_1, .int .u32 x424002_1, .int .u32 x424003_1]) ?_ 0 _ rfl; (with_reducible repeat (first | refine blk_drewN ?_ _ | refine blk_drew ?_ | refine blk_alloc ?_ _)); exact BK423.out) Tryd.underlying36 rfl (by kernel_rfl)) rfl ?_
    exact ⟨by first | rfl | (simp [errW_none, errW_some] <;> rfl) | (simp [*, errW_none, errW_some] <;> rfl), by repeat (first | (with_reducible first | exact HB.out | apply below_alloc | apply pw_below_drewN | apply below_drew1 | refine below_set ?_ GE423.out) | exact HB.out)⟩

end Go.Proofs.YtdmieaidheelbaaDoor.Q
end
/- QFref14has -/
section
namespace Go.Proofs.YtdmieaidheelbaaDoor.Q
open Go.RowKit Go.Proofs.YtdmieaidheelbaaDoorW.PrintWords Go.Proofs.YtdmieaidheelbaaDoorW.PrintLast Go.Proofs.YtdmieaidheelbaaDoorW.PrintMore
attribute [local go_sem] max2_int min2_int max_two min_two max_three min_three max_four min_four
set_option linter.unusedVariables false
set_option linter.unusedSimpArgs false

end Go.Proofs.YtdmieaidheelbaaDoor.Q
end
/- QFref14Match -/
section
namespace Go.Proofs.YtdmieaidheelbaaDoor.Q
open Go.RowKit Go.Proofs.YtdmieaidheelbaaDoorW.PrintWords Go.Proofs.YtdmieaidheelbaaDoorW.PrintLast Go.Proofs.YtdmieaidheelbaaDoorW.PrintMore
attribute [local go_sem] max2_int min2_int max_two min_two max_three min_three max_four min_four
set_option linter.unusedVariables false
set_option linter.unusedSimpArgs false


end Go.Proofs.YtdmieaidheelbaaDoor.Q
end
/- QFref19Takes -/
section
namespace Go.Proofs.YtdmieaidheelbaaDoor.Q
open Go.RowKit Go.Proofs.YtdmieaidheelbaaDoorW.PrintWords Go.Proofs.YtdmieaidheelbaaDoorW.PrintLast Go.Proofs.YtdmieaidheelbaaDoorW.PrintMore
attribute [local go_sem] max2_int min2_int max_two min_two max_three min_three max_four min_four
set_option linter.unusedVariables false
set_option linter.unusedSimpArgs false

end Go.Proofs.YtdmieaidheelbaaDoor.Q
end
/- QFref19Less -/
section
namespace Go.Proofs.YtdmieaidheelbaaDoor.Q
open Go.RowKit Go.Proofs.YtdmieaidheelbaaDoorW.PrintWords Go.Proofs.YtdmieaidheelbaaDoorW.PrintLast Go.Proofs.YtdmieaidheelbaaDoorW.PrintMore
attribute [local go_sem] max2_int min2_int max_two min_two max_three min_three max_four min_four
set_option linter.unusedVariables false
set_option linter.unusedSimpArgs false

end Go.Proofs.YtdmieaidheelbaaDoor.Q
end
/- QFref19Pick -/
section
namespace Go.Proofs.YtdmieaidheelbaaDoor.Q
open Go.RowKit Go.Proofs.YtdmieaidheelbaaDoorW.PrintWords Go.Proofs.YtdmieaidheelbaaDoorW.PrintLast Go.Proofs.YtdmieaidheelbaaDoorW.PrintMore
attribute [local go_sem] max2_int min2_int max_two min_two max_three min_three max_four min_four
set_option linter.unusedVariables false
set_option linter.unusedSimpArgs false


end Go.Proofs.YtdmieaidheelbaaDoor.Q
end
/- PurePickPicks0 -/
section
/- PickPicks, the plain law: the picture is the document's. -/
namespace Go.Proofs.YtdmieaidheelbaaDoor.Q
open Go Go.RowKit Go.Proofs.YtdmieaidheelbaaDoorW.PrintWords Go.Proofs.YtdmieaidheelbaaDoorW.PrintLast Go.Proofs.YtdmieaidheelbaaDoorW.PrintMore
set_option linter.unusedVariables false
set_option linter.unusedSimpArgs false

theorem rwish_loop (w : List S36) (hl : w.length ≤ 1000000) (v : Int) (d : Nat) : ∀ (k i : Nat), i + d = w.length → d < k →
    mainsheetref19_Wish.l0 k w v (i : Int) = some ((wishOf (w.drop i) v).f0, (wishOf (w.drop i) v).f1, (wishOf (w.drop i) v).f2.f0, (wishOf (w.drop i) v).f2.f1) := by
  induction d with
  | zero =>
    intro k i hi hk
    obtain ⟨k, rfl⟩ : ∃ m, k = m + 1 := ⟨k - 1, by omega⟩
    rw [mainsheetref19_Wish.l0, if_neg (by omega), List.drop_eq_nil_of_le (by omega)]
    rfl
  | succ d ih =>
    intro k i hi hk
    obtain ⟨k, rfl⟩ : ∃ m, k = m + 1 := ⟨k - 1, by omega⟩
    have hlt : i < w.length := by omega
    rw [mainsheetref19_Wish.l0, if_pos (by omega), if_pos (by omega), rd36_eq w i hlt, List.drop_eq_getElem_cons hlt]
    by_cases h : w[i].f0 = v
    · rw [if_pos h, wishOf_pos h]
    · rw [if_neg h, w64 _ (by omega) (by omega), show (i : Int) + 1 = ((i + 1 : Nat) : Int) by omega, ih k (i + 1) (by omega) (by omega), wishOf_neg h]
theorem rwish_val (w : List S36) (hl : w.length ≤ 1000000) (v : Int) (k : Nat) (hk : w.length < k) : mainsheetref19_Wish.f k w v = some ((wishOf w v).f0, (wishOf w v).f1, (wishOf w v).f2.f0, (wishOf w v).f2.f1) := by
  unfold mainsheetref19_Wish.f
  have := rwish_loop w hl v w.length k 0 (by omega) hk
  simpa using this
section
variable {l : List Ent} {w : List S36}
end

section
variable {l : List Ent} {w : List S36}
end
theorem why19_val (l : List Ent) (w : List S36) (a : Int) (hE : mainsheetref19_Error.f l w = some (pickCheck l w)) : mainsheetlaw19_Ask_why.f l w a = some (askedP l w a) := by
  unfold mainsheetlaw19_Ask_why.f askedP
  rw [hE, Option.bind_some, RRight_val, Option.bind_some]
  by_cases hc : pickCheck l w = 0
  · have e1 : ¬ (pickCheck l w ≠ 0) := fun h => h hc
    rw [if_pos hc, if_neg e1]
    by_cases ha : a < 256
    · have e2 : decide (a < 256) = true := decide_eq_true ha
      rw [if_pos e2, if_pos ha]
    · have e2 : ¬ (decide (a < 256) = true) := by simpa using ha
      rw [if_neg e2, if_neg ha]
  · rw [if_neg hc, if_pos hc]
end Go.Proofs.YtdmieaidheelbaaDoor.Q
end
/- QFref19At -/
section
namespace Go.Proofs.YtdmieaidheelbaaDoor.Q
open Go.RowKit Go.Proofs.YtdmieaidheelbaaDoorW.PrintWords Go.Proofs.YtdmieaidheelbaaDoorW.PrintLast Go.Proofs.YtdmieaidheelbaaDoorW.PrintMore
attribute [local go_sem] max2_int min2_int max_two min_two max_three min_three max_four min_four
set_option linter.unusedVariables false
set_option linter.unusedSimpArgs false

def mainsheetref19_At.l0 : Nat → List (S31) → Int → Int → Option (Int × Bool)
 | 0, _, _, _ => none
 | k + 1, x0, x1, x6 => if x6 < (x0.length : Int) then (if 0 ≤ x6 then (if ((rd_T31 x0 x6).f1) = x1 then (some ((rd_T31 x0 x6).f0, true)) else (mainsheetref19_At.l0 k x0 x1 (wrap64 (x6 + 1)))) else (none)) else (some (0, false))
def mainsheetref19_At.f (k : Nat) (l0 : List (S31)) (a1 : Int) : Option (Int × Bool) := mainsheetref19_At.l0 k l0 a1 0
set_option maxHeartbeats 8000000 in
set_option maxRecDepth 100000 in
theorem mainsheetref19_At.calls (k : Nat) (A0 : Option Addr) (c0 : Nat) (l0 : List (S31)) (a1 : Int) (r1 : Int) (r2 : Bool) (w : World) (hr0 : Kd.C k31 w A0 l0.length l0) (hc0 : l0.length ≤ c0) (h : mainsheetref19_At.f k l0 a1 = some (r1, r2)) :
  Calls Tryd.prog 29 #[.slice A0 l0.length c0, .int .i64 a1] w fun e w' => e = .returned (.tuple #[.int .i64 r1, .bool r2]) ∧ Drawn0 w w' := by
 have HR0 := Aside0.mk hr0
 have HC0 := Aside0.mk hc0
 clear hr0 hc0
 have H : (mainsheetref19_At.l0 k l0 a1 0) = some (r1, r2) := h
 clear h
 have H' := Aside0.mk H
 clear H
 go_enter Tryd.func29, Tryd.ntmps29
 go_wp2
 go_loopg [6] k (fun kq v6 w' => ∃ (x6_1 : Int), v6 = .int .i64 x6_1 ∧ Aside0 (mainsheetref19_At.l0 kq l0 a1 x6_1 = some (r1, r2)) ∧ Aside0 (kq ≤ k) ∧ Drawn0 w w')
 case atStart => exact ⟨(0), (by first | rfl | (simp; done) | (simp [*]; done)), H', ⟨Nat.le_refl _⟩, by repeat (first | exact Drawn0.refl _ | apply Drawn0.step)⟩
 case round =>
  clear H'
  try clear c2
  try clear p2
  obtain ⟨x6_1, rfl, HA, HK1, ⟨m1, rfl⟩⟩ := hrel
  cases gk with
  | zero => exact absurd HA.out (by simp [mainsheetref19_At.l0])
  | succ k1 =>
   have H := HA.out
   clear HA
   simp only [mainsheetref19_At.l0] at H
   by_cases c3 : x6_1 < (l0.length : Int)
   ·rw [if_pos c3] at H
    have c3b0 : decide (x6_1 < (l0.length : Int)) = true := decide_eq_true c3
    clear c3
    by_cases c4 : 0 ≤ x6_1
    ·rw [if_pos c4] at H
     have c4b0 : decide (0 ≤ x6_1) = true := decide_eq_true c4
     clear c4
     by_cases c5 : ((rd_T31 l0 x6_1).f1) = a1
     ·rw [if_pos c5] at H
      have c5b0 : (((rd_T31 l0 x6_1).f1) == a1) = true := beq_iff_eq.mpr c5
      have c5b1 : (((rd_T31 l0 x6_1).f1) != a1) = false := bne_eq_false_iff_eq.mpr c5
      clear c5
      simp only [Option.some.injEq, Prod.mk.injEq] at H
      obtain ⟨rfl, rfl⟩ := H
      have p412 : 0 ≤ (x6_1 : Int) := of_decide_eq_true (by first | (with_reducible assumption) | assumption)
      have q412 : x6_1 < (l0.length : Int) := of_decide_eq_true (by first | (with_reducible assumption) | assumption)
      obtain ⟨ad412, e412, hx412_0, hx412_1⟩ := at_T31 HR0.out x6_1 p412 q412
      cases e412
      replace p412 := eq_true p412
      replace q412 := eq_true q412
      have p413 : 0 ≤ (x6_1 : Int) := of_decide_eq_true (by first | (with_reducible assumption) | assumption)
      have q413 : x6_1 < (l0.length : Int) := of_decide_eq_true (by first | (with_reducible assumption) | assumption)
      obtain ⟨ad413, e413, hx413_0, hx413_1⟩ := at_T31 HR0.out x6_1 p413 q413
      obtain rfl : ad412 = ad413 := (by injection e413)
      replace p413 := eq_true p413
      replace q413 := eq_true q413
      go_wp2
      go_ret2
      exact ⟨by first | rfl | (simp; done) | (simp [*]; done), by repeat (first | exact Drawn0.refl _ | apply Drawn0.step)⟩
     ·rw [if_neg c5] at H
      have c5b0 : (((rd_T31 l0 x6_1).f1) == a1) = false := beq_eq_false_iff_ne.mpr c5
      have c5b1 : (((rd_T31 l0 x6_1).f1) != a1) = true := bne_iff_ne.mpr c5
      have H' := Aside0.mk H
      clear H
      have p412 : 0 ≤ (x6_1 : Int) := of_decide_eq_true (by first | (with_reducible assumption) | assumption)
      have q412 : x6_1 < (l0.length : Int) := of_decide_eq_true (by first | (with_reducible assumption) | assumption)
      obtain ⟨ad412, e412, hx412_0, hx412_1⟩ := at_T31 HR0.out x6_1 p412 q412
      cases e412
      replace p412 := eq_true p412
      replace q412 := eq_true q412
      go_wp2
      go_roundg k1
      case measure => have := HK1.out; omega
      case rel => exact ⟨(wrap64 (x6_1 + 1)), (by first | rfl | (simp; done) | (simp [*]; done)), H', ⟨by have := HK1.out; omega⟩, by repeat (first | exact Drawn0.refl _ | apply Drawn0.step)⟩
    ·rw [if_neg c4] at H
     exact absurd H (by simp)
   ·rw [if_neg c3] at H
    have c3b0 : decide (x6_1 < (l0.length : Int)) = false := decide_eq_false c3
    clear c3
    simp only [Option.some.injEq, Prod.mk.injEq] at H
    obtain ⟨rfl, rfl⟩ := H
    go_wp2
    go_ret2
    exact ⟨by first | rfl | (simp; done) | (simp [*]; done), by repeat (first | exact Drawn0.refl _ | apply Drawn0.step)⟩

end Go.Proofs.YtdmieaidheelbaaDoor.Q
end
/- QFref19On -/
section
namespace Go.Proofs.YtdmieaidheelbaaDoor.Q
open Go.RowKit Go.Proofs.YtdmieaidheelbaaDoorW.PrintWords Go.Proofs.YtdmieaidheelbaaDoorW.PrintLast Go.Proofs.YtdmieaidheelbaaDoorW.PrintMore
attribute [local go_sem] max2_int min2_int max_two min_two max_three min_three max_four min_four
set_option linter.unusedVariables false
set_option linter.unusedSimpArgs false

def mainsheetref19_On.l0 : Nat → List (S31) → Int → Int → Option (Int × Bool)
 | 0, _, _, _ => none
 | k + 1, x0, x1, x6 => if x6 < (x0.length : Int) then (if 0 ≤ x6 then (if ((rd_T31 x0 x6).f0) = x1 then (some ((rd_T31 x0 x6).f1, true)) else (mainsheetref19_On.l0 k x0 x1 (wrap64 (x6 + 1)))) else (none)) else (some (0, false))
def mainsheetref19_On.f (k : Nat) (l0 : List (S31)) (a1 : Int) : Option (Int × Bool) := mainsheetref19_On.l0 k l0 a1 0
set_option maxHeartbeats 8000000 in
set_option maxRecDepth 100000 in
theorem mainsheetref19_On.calls (k : Nat) (A0 : Option Addr) (c0 : Nat) (l0 : List (S31)) (a1 : Int) (r1 : Int) (r2 : Bool) (w : World) (hr0 : Kd.C k31 w A0 l0.length l0) (hc0 : l0.length ≤ c0) (h : mainsheetref19_On.f k l0 a1 = some (r1, r2)) :
  Calls Tryd.prog 28 #[.slice A0 l0.length c0, .int .i64 a1] w fun e w' => e = .returned (.tuple #[.int .i64 r1, .bool r2]) ∧ Drawn0 w w' := by
 have HR0 := Aside0.mk hr0
 have HC0 := Aside0.mk hc0
 clear hr0 hc0
 have H : (mainsheetref19_On.l0 k l0 a1 0) = some (r1, r2) := h
 clear h
 have H' := Aside0.mk H
 clear H
 go_enter Tryd.func28, Tryd.ntmps28
 go_wp2
 go_loopg [6] k (fun kq v6 w' => ∃ (x6_1 : Int), v6 = .int .i64 x6_1 ∧ Aside0 (mainsheetref19_On.l0 kq l0 a1 x6_1 = some (r1, r2)) ∧ Aside0 (kq ≤ k) ∧ Drawn0 w w')
 case atStart => exact ⟨(0), (by first | rfl | (simp; done) | (simp [*]; done)), H', ⟨Nat.le_refl _⟩, by repeat (first | exact Drawn0.refl _ | apply Drawn0.step)⟩
 case round =>
  clear H'
  try clear c2
  try clear p2
  obtain ⟨x6_1, rfl, HA, HK1, ⟨m1, rfl⟩⟩ := hrel
  cases gk with
  | zero => exact absurd HA.out (by simp [mainsheetref19_On.l0])
  | succ k1 =>
   have H := HA.out
   clear HA
   simp only [mainsheetref19_On.l0] at H
   by_cases c3 : x6_1 < (l0.length : Int)
   ·rw [if_pos c3] at H
    have c3b0 : decide (x6_1 < (l0.length : Int)) = true := decide_eq_true c3
    clear c3
    by_cases c4 : 0 ≤ x6_1
    ·rw [if_pos c4] at H
     have c4b0 : decide (0 ≤ x6_1) = true := decide_eq_true c4
     clear c4
     by_cases c5 : ((rd_T31 l0 x6_1).f0) = a1
     ·rw [if_pos c5] at H
      have c5b0 : (((rd_T31 l0 x6_1).f0) == a1) = true := beq_iff_eq.mpr c5
      have c5b1 : (((rd_T31 l0 x6_1).f0) != a1) = false := bne_eq_false_iff_eq.mpr c5
      clear c5
      simp only [Option.some.injEq, Prod.mk.injEq] at H
      obtain ⟨rfl, rfl⟩ := H
      have p410 : 0 ≤ (x6_1 : Int) := of_decide_eq_true (by first | (with_reducible assumption) | assumption)
      have q410 : x6_1 < (l0.length : Int) := of_decide_eq_true (by first | (with_reducible assumption) | assumption)
      obtain ⟨ad410, e410, hx410_0, hx410_1⟩ := at_T31 HR0.out x6_1 p410 q410
      cases e410
      replace p410 := eq_true p410
      replace q410 := eq_true q410
      have p411 : 0 ≤ (x6_1 : Int) := of_decide_eq_true (by first | (with_reducible assumption) | assumption)
      have q411 : x6_1 < (l0.length : Int) := of_decide_eq_true (by first | (with_reducible assumption) | assumption)
      obtain ⟨ad411, e411, hx411_0, hx411_1⟩ := at_T31 HR0.out x6_1 p411 q411
      obtain rfl : ad410 = ad411 := (by injection e411)
      replace p411 := eq_true p411
      replace q411 := eq_true q411
      go_wp2
      go_ret2
      exact ⟨by first | rfl | (simp; done) | (simp [*]; done), by repeat (first | exact Drawn0.refl _ | apply Drawn0.step)⟩
     ·rw [if_neg c5] at H
      have c5b0 : (((rd_T31 l0 x6_1).f0) == a1) = false := beq_eq_false_iff_ne.mpr c5
      have c5b1 : (((rd_T31 l0 x6_1).f0) != a1) = true := bne_iff_ne.mpr c5
      have H' := Aside0.mk H
      clear H
      have p410 : 0 ≤ (x6_1 : Int) := of_decide_eq_true (by first | (with_reducible assumption) | assumption)
      have q410 : x6_1 < (l0.length : Int) := of_decide_eq_true (by first | (with_reducible assumption) | assumption)
      obtain ⟨ad410, e410, hx410_0, hx410_1⟩ := at_T31 HR0.out x6_1 p410 q410
      cases e410
      replace p410 := eq_true p410
      replace q410 := eq_true q410
      go_wp2
      go_roundg k1
      case measure => have := HK1.out; omega
      case rel => exact ⟨(wrap64 (x6_1 + 1)), (by first | rfl | (simp; done) | (simp [*]; done)), H', ⟨by have := HK1.out; omega⟩, by repeat (first | exact Drawn0.refl _ | apply Drawn0.step)⟩
    ·rw [if_neg c4] at H
     exact absurd H (by simp)
   ·rw [if_neg c3] at H
    have c3b0 : decide (x6_1 < (l0.length : Int)) = false := decide_eq_false c3
    clear c3
    simp only [Option.some.injEq, Prod.mk.injEq] at H
    obtain ⟨rfl, rfl⟩ := H
    go_wp2
    go_ret2
    exact ⟨by first | rfl | (simp; done) | (simp [*]; done), by repeat (first | exact Drawn0.refl _ | apply Drawn0.step)⟩

end Go.Proofs.YtdmieaidheelbaaDoor.Q
end
/- QFref19Whole -/
section
namespace Go.Proofs.YtdmieaidheelbaaDoor.Q
open Go.RowKit Go.Proofs.YtdmieaidheelbaaDoorW.PrintWords Go.Proofs.YtdmieaidheelbaaDoorW.PrintLast Go.Proofs.YtdmieaidheelbaaDoorW.PrintMore
attribute [local go_sem] max2_int min2_int max_two min_two max_three min_three max_four min_four
set_option linter.unusedVariables false
set_option linter.unusedSimpArgs false

mutual
def mainsheetref19_Whole.l0 : Nat → List (S90) → List (S31) → Int → Option (Bool)
 | 0, _, _, _ => none
 | k + 1, x0, x1, x5 => if x5 < (x0.length : Int) then (mainsheetref19_Whole.l1 k x0 x1 x5 false true 0) else (some true)
def mainsheetref19_Whole.l1 : Nat → List (S90) → List (S31) → Int → Bool → Bool → Int → Option (Bool)
 | 0, _, _, _, _, _, _ => none
 | k + 1, x0, x1, x5, x6, x7, x8 => if 0 ≤ x5 then (if x5 < (x0.length : Int) then (if x8 < (((rd_T90 x0 x5).f0).length : Int) then (if 0 ≤ x8 then ((mainsheetref19_On.f k x1 (rd ((rd_T90 x0 x5).f0) x8)).bind fun bt417 => (if bt417.2 = true then (mainsheetref19_Whole.l1 k x0 x1 x5 true x7 (wrap64 (x8 + 1))) else (mainsheetref19_Whole.l1 k x0 x1 x5 x6 false (wrap64 (x8 + 1))))) else (none)) else (if x6 = true then (if x7 = true then (mainsheetref19_Whole.l0 k x0 x1 (wrap64 (x5 + 1))) else (some false)) else (mainsheetref19_Whole.l0 k x0 x1 (wrap64 (x5 + 1))))) else (none)) else (none)
end
def mainsheetref19_Whole.f (k : Nat) (l0 : List (S90)) (l1 : List (S31)) : Option (Bool) := mainsheetref19_Whole.l0 k l0 l1 0
set_option maxHeartbeats 8000000 in
set_option maxRecDepth 100000 in
theorem mainsheetref19_Whole.calls (k : Nat) (A0 : Option Addr) (c0 : Nat) (l0 : List (S90)) (A1 : Option Addr) (c1 : Nat) (l1 : List (S31)) (r : Bool) (w : World) (hr0 : Kd.C k90 w A0 l0.length l0) (hc0 : l0.length ≤ c0) (hr1 : Kd.C k31 w A1 l1.length l1) (hc1 : l1.length ≤ c1) (h : mainsheetref19_Whole.f k l0 l1 = some r) :
  Calls Tryd.prog 32 #[.slice A0 l0.length c0, .slice A1 l1.length c1] w fun e w' => e = .returned (.bool r) ∧ Drawn0 w w' := by
 have HR0 := Aside0.mk hr0
 have HC0 := Aside0.mk hc0
 clear hr0 hc0
 have HR1 := Aside0.mk hr1
 have HC1 := Aside0.mk hc1
 clear hr1 hc1
 have H : (mainsheetref19_Whole.l0 k l0 l1 0) = some r := h
 clear h
 have H' := Aside0.mk H
 clear H
 go_enter Tryd.func32, Tryd.ntmps32
 go_wp2
 go_loopg [5] k (fun kq v5 w' => ∃ (x5_1 : Int), v5 = .int .i64 x5_1 ∧ Aside0 (mainsheetref19_Whole.l0 kq l0 l1 x5_1 = some r) ∧ Aside0 (kq ≤ k) ∧ Drawn0 w w')
 case atStart => exact ⟨(0), (by first | rfl | (simp; done) | (simp [*]; done)), H', ⟨Nat.le_refl _⟩, by repeat (first | exact Drawn0.refl _ | apply Drawn0.step)⟩
 case round =>
  clear H'
  try clear c1
  try clear p2
  obtain ⟨x5_1, rfl, HA, HK1, ⟨m1, rfl⟩⟩ := hrel
  cases gk with
  | zero => exact absurd HA.out (by simp [mainsheetref19_Whole.l0])
  | succ k1 =>
   have H := HA.out
   clear HA
   simp only [mainsheetref19_Whole.l0] at H
   by_cases c3 : x5_1 < (l0.length : Int)
   ·rw [if_pos c3] at H
    have c3b0 : decide (x5_1 < (l0.length : Int)) = true := decide_eq_true c3
    clear c3
    have H' := Aside0.mk H
    clear H
    go_wp2
    go_loopg [6, 7, 8] k1 (fun kq v6 v7 v8 w' => ∃ (x6_2 : Bool) (x7_2 : Bool) (x8_2 : Int), v6 = .bool x6_2 ∧ v7 = .bool x7_2 ∧ v8 = .int .i64 x8_2 ∧ Aside0 (mainsheetref19_Whole.l1 kq l0 l1 x5_1 x6_2 x7_2 x8_2 = some r) ∧ Aside0 (kq ≤ k1) ∧ Drawn0 w w')
    case atStart => exact ⟨(false), (true), (0), (by first | rfl | (simp; done) | (simp [*]; done)), (by first | rfl | (simp; done) | (simp [*]; done)), (by first | rfl | (simp; done) | (simp [*]; done)), H', ⟨Nat.le_refl _⟩, by repeat (first | exact Drawn0.refl _ | apply Drawn0.step)⟩
    case round =>
     clear H'
     try clear c1
     try clear p2
     try clear c3
     try clear c3b0
     try clear p2
     obtain ⟨x6_2, x7_2, x8_2, rfl, rfl, rfl, HA, HK2, ⟨m2, rfl⟩⟩ := hrel
     cases gk with
     | zero => exact absurd HA.out (by simp [mainsheetref19_Whole.l1])
     | succ k2 =>
      have H := HA.out
      clear HA
      simp only [mainsheetref19_Whole.l1] at H
      by_cases c4 : 0 ≤ x5_1
      ·rw [if_pos c4] at H
       have c4b0 : decide (0 ≤ x5_1) = true := decide_eq_true c4
       clear c4
       by_cases c5 : x5_1 < (l0.length : Int)
       ·rw [if_pos c5] at H
        have c5b0 : decide (x5_1 < (l0.length : Int)) = true := decide_eq_true c5
        clear c5
        by_cases c6 : x8_2 < (((rd_T90 l0 x5_1).f0).length : Int)
        ·rw [if_pos c6] at H
         have c6b0 : decide (x8_2 < (((rd_T90 l0 x5_1).f0).length : Int)) = true := decide_eq_true c6
         clear c6
         by_cases c7 : 0 ≤ x8_2
         ·rw [if_pos c7] at H
          have c7b0 : decide (0 ≤ x8_2) = true := decide_eq_true c7
          clear c7
          replace H := Option.bind_eq_some_iff.mp H
          obtain ⟨⟨t417, t418⟩, A80, H⟩ := H
          replace H : (if t418 = true then (mainsheetref19_Whole.l1 k2 l0 l1 x5_1 true x7_2 (wrap64 (x8_2 + 1))) else (mainsheetref19_Whole.l1 k2 l0 l1 x5_1 x6_2 false (wrap64 (x8_2 + 1)))) = some r := H
          have A8 := Aside0.mk A80
          clear A80
          by_cases c9 : t418 = true
          ·subst c9
           have H1 : (mainsheetref19_Whole.l1 k2 l0 l1 x5_1 true x7_2 (wrap64 (x8_2 + 1))) = some r := by rw [if_pos rfl] at H; exact H
           clear H
           have H := H1
           clear H1
           have H' := Aside0.mk H
           clear H
           have p414 : 0 ≤ (x5_1 : Int) := of_decide_eq_true (by first | (with_reducible assumption) | assumption)
           have q414 : x5_1 < (l0.length : Int) := of_decide_eq_true (by first | (with_reducible assumption) | assumption)
           obtain ⟨ad414, A414_0, c414_0, e414, hx414_0, hx414_1, hx414_2, hx414_3, hx414_4, hx414_5, hl414_0, hi414_0⟩ := at_T90 HR0.out x5_1 p414 q414
           cases e414
           have HR414_0 := Aside0.mk hi414_0
           have HC414_0 := Aside0.mk hl414_0
           clear hi414_0 hl414_0
           replace p414 := eq_true p414
           replace q414 := eq_true q414
           have p415 : 0 ≤ (x5_1 : Int) := of_decide_eq_true (by first | (with_reducible assumption) | assumption)
           have q415 : x5_1 < (l0.length : Int) := of_decide_eq_true (by first | (with_reducible assumption) | assumption)
           obtain ⟨ad415, A415_0, c415_0, e415, hx415_0, hx415_1, hx415_2, hx415_3, hx415_4, hx415_5, hl415_0, hi415_0⟩ := at_T90 HR0.out x5_1 p415 q415
           obtain rfl : ad414 = ad415 := (by injection e415)
           have HR415_0 := Aside0.mk hi415_0
           have HC415_0 := Aside0.mk hl415_0
           clear hi415_0 hl415_0
           replace p415 := eq_true p415
           replace q415 := eq_true q415
           have ea_ := Option.some.inj (hx414_0.symm.trans hx415_0)
           injection ea_ with ea_ en_ ec_
           subst ea_
           subst ec_
           clear en_
           have p416 : 0 ≤ (x8_2 : Int) := of_decide_eq_true (by first | (with_reducible assumption) | assumption)
           have q416 : x8_2 < (((rd_T90 l0 x5_1).f0).length : Int) := of_decide_eq_true (by first | (with_reducible assumption) | assumption)
           obtain ⟨ad416, e416, hx416_0⟩ := Kd.at_int HR415_0.out x8_2 p416 q416
           cases e416
           replace p416 := eq_true p416
           replace q416 := eq_true q416
           go_wp2_with (first | ((with_reducible refine gate_callee (f := 28) rfl ?_); refine goesL_ (some 37) rfl rfl Tryd.func28 (by kernel_rfl) rfl #[.slice A1 l1.length c1, .int .i64 (rd ((rd_T90 l0 x5_1).f0) x8_2)] rfl (by (try simp only [List.map_toArray, List.map_cons, List.map_nil]); first | done | rfl | (simp only [List.length_drop, List.length_take]; rfl)) ?_; (with_reducible refine (mainsheetref19_On.calls k2 _ _ l1 (rd ((rd_T90 l0 x5_1).f0) x8_2) t417 true _ ?side1 ?side2 A8.out).mono ?_); (case side1 => repeat (first | exact HR1.out | (with_reducible refine Kd.C_alloc ?_ _) | (with_reducible refine Kd.C_drewN ?_ _) | (with_reducible refine Kd.C_drew ?_))); (case side2 => exact HC1.out); rintro e w' ⟨rfl, ⟨nd, rfl⟩⟩; refine ⟨_, rfl, ?_⟩))
           go_roundg k2
           case measure => have := HK1.out; have := HK2.out; omega
           case rel => exact ⟨(true), (x7_2), (wrap64 (x8_2 + 1)), (by first | rfl | (simp; done) | (simp [*]; done)), (by first | rfl | (simp; done) | (simp [*]; done)), (by first | rfl | (simp; done) | (simp [*]; done)), H', ⟨by have := HK1.out; have := HK2.out; omega⟩, by repeat (first | exact Drawn0.refl _ | apply Drawn0.step)⟩
          ·replace c9 := Bool.eq_false_iff.mpr c9
           subst c9
           have H1 : (mainsheetref19_Whole.l1 k2 l0 l1 x5_1 x6_2 false (wrap64 (x8_2 + 1))) = some r := by rw [if_neg (show ¬ (false = true) by decide)] at H; exact H
           clear H
           have H := H1
           clear H1
           have H' := Aside0.mk H
           clear H
           have p414 : 0 ≤ (x5_1 : Int) := of_decide_eq_true (by first | (with_reducible assumption) | assumption)
           have q414 : x5_1 < (l0.length : Int) := of_decide_eq_true (by first | (with_reducible assumption) | assumption)
           obtain ⟨ad414, A414_0, c414_0, e414, hx414_0, hx414_1, hx414_2, hx414_3, hx414_4, hx414_5, hl414_0, hi414_0⟩ := at_T90 HR0.out x5_1 p414 q414
           cases e414
           have HR414_0 := Aside0.mk hi414_0
           have HC414_0 := Aside0.mk hl414_0
           clear hi414_0 hl414_0
           replace p414 := eq_true p414
           replace q414 := eq_true q414
           have p415 : 0 ≤ (x5_1 : Int) := of_decide_eq_true (by first | (with_reducible assumption) | assumption)
           have q415 : x5_1 < (l0.length : Int) := of_decide_eq_true (by first | (with_reducible assumption) | assumption)
           obtain ⟨ad415, A415_0, c415_0, e415, hx415_0, hx415_1, hx415_2, hx415_3, hx415_4, hx415_5, hl415_0, hi415_0⟩ := at_T90 HR0.out x5_1 p415 q415
           obtain rfl : ad414 = ad415 := (by injection e415)
           have HR415_0 := Aside0.mk hi415_0
           have HC415_0 := Aside0.mk hl415_0
           clear hi415_0 hl415_0
           replace p415 := eq_true p415
           replace q415 := eq_true q415
           have ea_ := Option.some.inj (hx414_0.symm.trans hx415_0)
           injection ea_ with ea_ en_ ec_
           subst ea_
           subst ec_
           clear en_
           have p416 : 0 ≤ (x8_2 : Int) := of_decide_eq_true (by first | (with_reducible assumption) | assumption)
           have q416 : x8_2 < (((rd_T90 l0 x5_1).f0).length : Int) := of_decide_eq_true (by first | (with_reducible assumption) | assumption)
           obtain ⟨ad416, e416, hx416_0⟩ := Kd.at_int HR415_0.out x8_2 p416 q416
           cases e416
           replace p416 := eq_true p416
           replace q416 := eq_true q416
           go_wp2_with (first | ((with_reducible refine gate_callee (f := 28) rfl ?_); refine goesL_ (some 37) rfl rfl Tryd.func28 (by kernel_rfl) rfl #[.slice A1 l1.length c1, .int .i64 (rd ((rd_T90 l0 x5_1).f0) x8_2)] rfl (by (try simp only [List.map_toArray, List.map_cons, List.map_nil]); first | done | rfl | (simp only [List.length_drop, List.length_take]; rfl)) ?_; (with_reducible refine (mainsheetref19_On.calls k2 _ _ l1 (rd ((rd_T90 l0 x5_1).f0) x8_2) t417 false _ ?side1 ?side2 A8.out).mono ?_); (case side1 => repeat (first | exact HR1.out | (with_reducible refine Kd.C_alloc ?_ _) | (with_reducible refine Kd.C_drewN ?_ _) | (with_reducible refine Kd.C_drew ?_))); (case side2 => exact HC1.out); rintro e w' ⟨rfl, ⟨nd, rfl⟩⟩; refine ⟨_, rfl, ?_⟩))
           go_roundg k2
           case measure => have := HK1.out; have := HK2.out; omega
           case rel => exact ⟨(x6_2), (false), (wrap64 (x8_2 + 1)), (by first | rfl | (simp; done) | (simp [*]; done)), (by first | rfl | (simp; done) | (simp [*]; done)), (by first | rfl | (simp; done) | (simp [*]; done)), H', ⟨by have := HK1.out; have := HK2.out; omega⟩, by repeat (first | exact Drawn0.refl _ | apply Drawn0.step)⟩
         ·rw [if_neg c7] at H
          exact absurd H (by simp)
        ·rw [if_neg c6] at H
         have c6b0 : decide (x8_2 < (((rd_T90 l0 x5_1).f0).length : Int)) = false := decide_eq_false c6
         clear c6
         by_cases c10 : x6_2 = true
         ·subst c10
          have H1 : (if x7_2 = true then (mainsheetref19_Whole.l0 k2 l0 l1 (wrap64 (x5_1 + 1))) else (some false)) = some r := by rw [if_pos rfl] at H; exact H
          clear H
          have H := H1
          clear H1
          by_cases c11 : x7_2 = true
          ·subst c11
           have H1 : (mainsheetref19_Whole.l0 k2 l0 l1 (wrap64 (x5_1 + 1))) = some r := by rw [if_pos rfl] at H; exact H
           clear H
           have H := H1
           clear H1
           have H' := Aside0.mk H
           clear H
           have p414 : 0 ≤ (x5_1 : Int) := of_decide_eq_true (by first | (with_reducible assumption) | assumption)
           have q414 : x5_1 < (l0.length : Int) := of_decide_eq_true (by first | (with_reducible assumption) | assumption)
           obtain ⟨ad414, A414_0, c414_0, e414, hx414_0, hx414_1, hx414_2, hx414_3, hx414_4, hx414_5, hl414_0, hi414_0⟩ := at_T90 HR0.out x5_1 p414 q414
           cases e414
           have HR414_0 := Aside0.mk hi414_0
           have HC414_0 := Aside0.mk hl414_0
           clear hi414_0 hl414_0
           replace p414 := eq_true p414
           replace q414 := eq_true q414
           go_wp2
           go_roundg k2
           case measure => have := HK1.out; have := HK2.out; omega
           case rel => exact ⟨(wrap64 (x5_1 + 1)), (by first | rfl | (simp; done) | (simp [*]; done)), H', ⟨by have := HK1.out; have := HK2.out; omega⟩, by repeat (first | exact Drawn0.refl _ | apply Drawn0.step)⟩
          ·replace c11 := Bool.eq_false_iff.mpr c11
           subst c11
           have H1 : (some false) = some r := by rw [if_neg (show ¬ (false = true) by decide)] at H; exact H
           clear H
           have H := H1
           clear H1
           obtain rfl := Option.some.inj H
           have p414 : 0 ≤ (x5_1 : Int) := of_decide_eq_true (by first | (with_reducible assumption) | assumption)
           have q414 : x5_1 < (l0.length : Int) := of_decide_eq_true (by first | (with_reducible assumption) | assumption)
           obtain ⟨ad414, A414_0, c414_0, e414, hx414_0, hx414_1, hx414_2, hx414_3, hx414_4, hx414_5, hl414_0, hi414_0⟩ := at_T90 HR0.out x5_1 p414 q414
           cases e414
           have HR414_0 := Aside0.mk hi414_0
           have HC414_0 := Aside0.mk hl414_0
           clear hi414_0 hl414_0
           replace p414 := eq_true p414
           replace q414 := eq_true q414
           go_wp2
           go_ret
           exact ⟨by first | rfl | (simp; done) | (simp [*]; done), by repeat (first | exact Drawn0.refl _ | apply Drawn0.step)⟩
         ·replace c10 := Bool.eq_false_iff.mpr c10
          subst c10
          have H1 : (mainsheetref19_Whole.l0 k2 l0 l1 (wrap64 (x5_1 + 1))) = some r := by rw [if_neg (show ¬ (false = true) by decide)] at H; exact H
          clear H
          have H := H1
          clear H1
          have H' := Aside0.mk H
          clear H
          have p414 : 0 ≤ (x5_1 : Int) := of_decide_eq_true (by first | (with_reducible assumption) | assumption)
          have q414 : x5_1 < (l0.length : Int) := of_decide_eq_true (by first | (with_reducible assumption) | assumption)
          obtain ⟨ad414, A414_0, c414_0, e414, hx414_0, hx414_1, hx414_2, hx414_3, hx414_4, hx414_5, hl414_0, hi414_0⟩ := at_T90 HR0.out x5_1 p414 q414
          cases e414
          have HR414_0 := Aside0.mk hi414_0
          have HC414_0 := Aside0.mk hl414_0
          clear hi414_0 hl414_0
          replace p414 := eq_true p414
          replace q414 := eq_true q414
          go_wp2
          go_roundg k2
          case measure => have := HK1.out; have := HK2.out; omega
          case rel => exact ⟨(wrap64 (x5_1 + 1)), (by first | rfl | (simp; done) | (simp [*]; done)), H', ⟨by have := HK1.out; have := HK2.out; omega⟩, by repeat (first | exact Drawn0.refl _ | apply Drawn0.step)⟩
       ·rw [if_neg c5] at H
        exact absurd H (by simp)
      ·rw [if_neg c4] at H
       exact absurd H (by simp)
   ·rw [if_neg c3] at H
    have c3b0 : decide (x5_1 < (l0.length : Int)) = false := decide_eq_false c3
    clear c3
    obtain rfl := Option.some.inj H
    go_wp2
    go_ret
    exact ⟨by first | rfl | (simp; done) | (simp [*]; done), by repeat (first | exact Drawn0.refl _ | apply Drawn0.step)⟩

end Go.Proofs.YtdmieaidheelbaaDoor.Q
end
