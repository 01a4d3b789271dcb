/- Texts of the proof of PickPicks, joined. -/
import Derived.Test.YtdmieaidheelbaaDoorPkPickPicksc
/- QE1 -/
section
namespace Go.Proofs.YtdmieaidheelbaaDoor.Q
open Go.RowKit Go.Proofs.YtdmieaidheelbaaDoorW.PrintWords Go.Proofs.YtdmieaidheelbaaDoorW.PrintLast Go.Proofs.YtdmieaidheelbaaDoorW.PrintMore
attribute [local go_sem] max2_int min2_int max_two min_two max_three min_three max_four min_four
set_option linter.unusedVariables false
set_option linter.unusedSimpArgs false

theorem eqA31 (d : Nat) (w : World) (x0 y0 : Int) (x1 y1 : Int) :
  (Op.equalIn (d + 2) 31 (.agg #[.int .i64 x0, .int .i64 x1]) (.agg #[.int .i64 y0, .int .i64 y1])).run Tryd.prog w = .ok (x0 == y0 && (x1 == y1)) w := by
 refine eqA_of Tryd.underlying31 (by kernel_rfl) ?_
 refine eqf_cons (by rfl) (by go_simp; rfl) (by go_simp; rfl) (by go_simp) ?_
 exact eqf_last (by rfl) (by go_simp; rfl) (by go_simp; rfl) (by go_simp)
end Go.Proofs.YtdmieaidheelbaaDoor.Q
end
/- QFlaw13wakes -/
section
namespace Go.Proofs.YtdmieaidheelbaaDoor.Q
open Go.RowKit Go.Proofs.YtdmieaidheelbaaDoorW.PrintWords Go.Proofs.YtdmieaidheelbaaDoorW.PrintLast Go.Proofs.YtdmieaidheelbaaDoorW.PrintMore
attribute [local go_sem] max2_int min2_int max_two min_two max_three min_three max_four min_four
set_option linter.unusedVariables false
set_option linter.unusedSimpArgs false

attribute [local go_sem high] eqA31
end Go.Proofs.YtdmieaidheelbaaDoor.Q
end
/- PlaceP -/
section
/- The plain law of Place: rows in parts. -/
namespace Go.Proofs.YtdmieaidheelbaaDoor.Q
open Go Go.RowKit Go.Proofs.YtdmieaidheelbaaDoorW.PrintWords Go.Proofs.YtdmieaidheelbaaDoorW.PrintLast Go.Proofs.YtdmieaidheelbaaDoorW.PrintMore
set_option linter.unusedVariables false
set_option linter.unusedSimpArgs false

end Go.Proofs.YtdmieaidheelbaaDoor.Q
end
/- QRb -/
section
namespace Go.Proofs.YtdmieaidheelbaaDoor.Q
open Go.RowKit Go.Proofs.YtdmieaidheelbaaDoorW.PrintWords Go.Proofs.YtdmieaidheelbaaDoorW.PrintLast Go.Proofs.YtdmieaidheelbaaDoorW.PrintMore
attribute [local go_sem] max2_int min2_int max_two min_two max_three min_three max_four min_four
set_option linter.unusedVariables false
set_option linter.unusedSimpArgs false

mutual
def mainsheetref13_Right.l0 : Nat → List (S36) → Int → Option (Bool)
 | 0, _, _ => none
 | k + 1, x0, x3 => if x3 < (x0.length : Int) then (if 0 ≤ x3 then (if ((rd_T36 x0 x3).f0) < 1 then (mainsheetref13_Right.j1 k x0 x3 true ((rd_T36 x0 x3).f0) ((rd_T36 x0 x3).f1) ((rd_T36 x0 x3).f2.f0) ((rd_T36 x0 x3).f2.f1)) else (if ((rd_T36 x0 x3).f0) > 16 then (mainsheetref13_Right.j1 k x0 x3 true ((rd_T36 x0 x3).f0) ((rd_T36 x0 x3).f1) ((rd_T36 x0 x3).f2.f0) ((rd_T36 x0 x3).f2.f1)) else (if ((rd_T36 x0 x3).f1) < (-1) then (mainsheetref13_Right.j1 k x0 x3 true ((rd_T36 x0 x3).f0) ((rd_T36 x0 x3).f1) ((rd_T36 x0 x3).f2.f0) ((rd_T36 x0 x3).f2.f1)) else (if ((rd_T36 x0 x3).f1) > 7 then (mainsheetref13_Right.j1 k x0 x3 true ((rd_T36 x0 x3).f0) ((rd_T36 x0 x3).f1) ((rd_T36 x0 x3).f2.f0) ((rd_T36 x0 x3).f2.f1)) else ((mainsheetref07_Right.f ((rd_T36 x0 x3).f2.f0) ((rd_T36 x0 x3).f2.f1)).bind fun t175 => (mainsheetref13_Right.j1 k x0 x3 (!t175) ((rd_T36 x0 x3).f0) ((rd_T36 x0 x3).f1) ((rd_T36 x0 x3).f2.f0) ((rd_T36 x0 x3).f2.f1))))))) else (none)) else (some true)
def mainsheetref13_Right.j1 : Nat → List (S36) → Int → Bool → Int → Int → Int → Int → Option (Bool)
 | 0, _, _, _, _, _, _, _ => none
 | k + 1, x0, x3, x39, x175000, x175001, x175002, x175003 => if x39 = true then (some false) else (mainsheetref13_Right.l1 k x0 x3 0 x175000 x175001 x175002 x175003)
def mainsheetref13_Right.l1 : Nat → List (S36) → Int → Int → Int → Int → Int → Int → Option (Bool)
 | 0, _, _, _, _, _, _, _ => none
 | k + 1, x0, x3, x5, x175000, x175001, x175002, x175003 => if x5 < x3 then (if 0 ≤ x5 then (if x5 < (x0.length : Int) then (if ((rd_T36 x0 x5).f0) = x175000 then (some false) else (if x175001 ≥ 0 then (if ((rd_T36 x0 x5).f1) = x175001 then (some false) else (mainsheetref13_Right.l1 k x0 x3 (wrap64 (x5 + 1)) x175000 x175001 x175002 x175003)) else (mainsheetref13_Right.l1 k x0 x3 (wrap64 (x5 + 1)) x175000 x175001 x175002 x175003))) else (none)) else (none)) else (mainsheetref13_Right.l0 k x0 (wrap64 (x3 + 1)))
end
def mainsheetref13_Right.f (k : Nat) (l0 : List (S36)) : Option (Bool) := mainsheetref13_Right.l0 k l0 0
set_option maxHeartbeats 8000000 in
set_option maxRecDepth 100000 in
theorem mainsheetref13_Right.calls (k : Nat) (A0 : Option Addr) (c0 : Nat) (l0 : List (S36)) (r : Bool) (w : World) (hr0 : Kd.C k36 w A0 l0.length l0) (hc0 : l0.length ≤ c0) (h : mainsheetref13_Right.f k l0 = some r) :
  Calls Tryd.prog 38 #[.slice A0 l0.length c0] w fun e w' => e = .returned (.bool r) ∧ Below w.heap.size w w' := by
 have hu36 := Tryd.underlying36
 have hu34 := Tryd.underlying34
 have HR0 := Aside0.mk hr0
 have HC0 := Aside0.mk hc0
 clear hr0 hc0
 have HB := Aside0.mk (Below.refl w.heap.size w)
 have H : (mainsheetref13_Right.l0 k l0 0) = some r := h
 clear h
 have H' := Aside0.mk H
 clear H
 go_enter Tryd.func38, Tryd.ntmps38
 go_wp2
 repeat (go_quiet (fail); try go_wp2)
 go_loopg [3] k (fun kq v3 w' => ∃ (x3_1 : Int), v3 = .int .i64 x3_1 ∧ Aside0 (mainsheetref13_Right.l0 kq l0 x3_1 = some r) ∧ Aside0 (kq ≤ k) ∧ Aside0 (Below w.heap.size w w'))
 case atStart => exact ⟨(0), (by first | rfl | (simp; done) | (simp [*]; done)), H', ⟨Nat.le_refl _⟩, ⟨by repeat (first | (with_reducible first | exact HB.out | apply below_alloc | apply pw_below_drewN | apply below_drew1) | exact HB.out)⟩⟩
 case round =>
  clear H'
  obtain ⟨x3_1, rfl, HA, HK1, HB⟩ := hrel
  cases gk with
  | zero => exact absurd HA.out (by simp [mainsheetref13_Right.l0])
  | succ k1 =>
   have H := HA.out
   clear HA
   simp only [mainsheetref13_Right.l0] at H
   by_cases c2 : x3_1 < (l0.length : Int)
   ·rw [if_pos c2] at H
    have c2b0 : decide (x3_1 < (l0.length : Int)) = true := decide_eq_true c2
    clear c2
    by_cases c3 : 0 ≤ x3_1
    ·rw [if_pos c3] at H
     have c3b0 : decide (0 ≤ x3_1) = true := decide_eq_true c3
     clear c3
     have HC4 := Aside0.mk H
     clear H
     have p173 : 0 ≤ (x3_1 : Int) := of_decide_eq_true (by first | (with_reducible assumption) | assumption)
     have q173 : x3_1 < (l0.length : Int) := of_decide_eq_true (by first | (with_reducible assumption) | assumption)
     obtain ⟨ad173, e173, hx173_0, hx173_1, hx173_2, hx173_3⟩ := at_T36 HR0.out x3_1 p173 q173
     cases e173
     replace hx173_0 := (HB.out.cell (World.block_lt_of_cell? w _ hx173_0)).trans hx173_0
     replace hx173_1 := (HB.out.cell (World.block_lt_of_cell? w _ hx173_1)).trans hx173_1
     replace hx173_2 := (HB.out.cell (World.block_lt_of_cell? w _ hx173_2)).trans hx173_2
     replace hx173_3 := (HB.out.cell (World.block_lt_of_cell? w _ hx173_3)).trans hx173_3
     replace p173 := eq_true p173
     replace q173 := eq_true q173
     go_upto_region 5 with (first | ((with_reducible refine gate_dst (N := 4) rfl ?_); refine box_event ?hg (N := 4) ?hd (cs := #[.int .i64 0, .int .i64 0, .int .u32 0, .int .u32 0]) (t := 36) ?hr ?_; (case hd => rfl); (case hg => rfl); (case hr => first | (go_simp; done) | (go_simp; rfl)); intro gb174 hg w5 hbox hb; have n0_ := Aside0.mk (below_step (by repeat (first | (with_reducible first | exact HB.out | apply below_alloc | apply pw_below_drewN | apply below_drew1) | exact HB.out)) hb); have n1_ := Aside0.mk (hbox); have n2_ := Aside0.mk ((by rw [hg]; exact (below_size (by repeat (first | (with_reducible first | exact HB.out | apply below_alloc | apply pw_below_drewN | apply below_drew1) | exact HB.out))) : w.heap.size ≤ gb174)); have n3_ := Aside0.mk ((by rw [hg]; exact (below_size (by repeat (first | (with_reducible first | exact HB.out | apply below_alloc | apply pw_below_drewN | apply below_drew1) | exact HB.out))) : w.heap.size ≤ gb174)); clear HB; have HB := n0_; have BK174 := n1_; have GW174 := n2_; have GE174 := n3_; clear n0_ n1_ n2_ n3_; clear hb hbox hg; have hcz6_0 : w5.cell? ⟨gb174, 0, none⟩ = some (.int .i64 0) := (blk_cell BK174.out 0).trans rfl; have hcz6_1 : w5.cell? ⟨gb174, 1, none⟩ = some (.int .i64 0) := (blk_cell BK174.out 1).trans rfl; have hcz6_2 : w5.cell? ⟨gb174, 2, none⟩ = some (.int .u32 0) := (blk_cell BK174.out 2).trans rfl; have hcz6_3 : w5.cell? ⟨gb174, 3, none⟩ = some (.int .u32 0) := (blk_cell BK174.out 3).trans rfl; have hfz6_0 := blk_frozen BK174.out 0; have hfz6_1 := blk_frozen BK174.out 1; have hfz6_2 := blk_frozen BK174.out 2; have hfz6_3 := blk_frozen BK174.out 3))
     repeat (go_quiet (first | ((with_reducible refine gate_dst (N := 4) rfl ?_); refine box_event ?hg (N := 4) ?hd (cs := #[.int .i64 0, .int .i64 0, .int .u32 0, .int .u32 0]) (t := 36) ?hr ?_; (case hd => rfl); (case hg => rfl); (case hr => first | (go_simp; done) | (go_simp; rfl)); intro gb174 hg w5 hbox hb; have n0_ := Aside0.mk (below_step (by repeat (first | (with_reducible first | exact HB.out | apply below_alloc | apply pw_below_drewN | apply below_drew1) | exact HB.out)) hb); have n1_ := Aside0.mk (hbox); have n2_ := Aside0.mk ((by rw [hg]; exact (below_size (by repeat (first | (with_reducible first | exact HB.out | apply below_alloc | apply pw_below_drewN | apply below_drew1) | exact HB.out))) : w.heap.size ≤ gb174)); have n3_ := Aside0.mk ((by rw [hg]; exact (below_size (by repeat (first | (with_reducible first | exact HB.out | apply below_alloc | apply pw_below_drewN | apply below_drew1) | exact HB.out))) : w.heap.size ≤ gb174)); clear HB; have HB := n0_; have BK174 := n1_; have GW174 := n2_; have GE174 := n3_; clear n0_ n1_ n2_ n3_; clear hb hbox hg; have hcz6_0 : w5.cell? ⟨gb174, 0, none⟩ = some (.int .i64 0) := (blk_cell BK174.out 0).trans rfl; have hcz6_1 : w5.cell? ⟨gb174, 1, none⟩ = some (.int .i64 0) := (blk_cell BK174.out 1).trans rfl; have hcz6_2 : w5.cell? ⟨gb174, 2, none⟩ = some (.int .u32 0) := (blk_cell BK174.out 2).trans rfl; have hcz6_3 : w5.cell? ⟨gb174, 3, none⟩ = some (.int .u32 0) := (blk_cell BK174.out 3).trans rfl; have hfz6_0 := blk_frozen BK174.out 0; have hfz6_1 := blk_frozen BK174.out 1; have hfz6_2 := blk_frozen BK174.out 2; have hfz6_3 := blk_frozen BK174.out 3)); go_upto_region 5 with (first | ((with_reducible refine gate_dst (N := 4) rfl ?_); refine box_event ?hg (N := 4) ?hd (cs := #[.int .i64 0, .int .i64 0, .int .u32 0, .int .u32 0]) (t := 36) ?hr ?_; (case hd => rfl); (case hg => rfl); (case hr => first | (go_simp; done) | (go_simp; rfl)); intro gb174 hg w5 hbox hb; have n0_ := Aside0.mk (below_step (by repeat (first | (with_reducible first | exact HB.out | apply below_alloc | apply pw_below_drewN | apply below_drew1) | exact HB.out)) hb); have n1_ := Aside0.mk (hbox); have n2_ := Aside0.mk ((by rw [hg]; exact (below_size (by repeat (first | (with_reducible first | exact HB.out | apply below_alloc | apply pw_below_drewN | apply below_drew1) | exact HB.out))) : w.heap.size ≤ gb174)); have n3_ := Aside0.mk ((by rw [hg]; exact (below_size (by repeat (first | (with_reducible first | exact HB.out | apply below_alloc | apply pw_below_drewN | apply below_drew1) | exact HB.out))) : w.heap.size ≤ gb174)); clear HB; have HB := n0_; have BK174 := n1_; have GW174 := n2_; have GE174 := n3_; clear n0_ n1_ n2_ n3_; clear hb hbox hg; have hcz6_0 : w5.cell? ⟨gb174, 0, none⟩ = some (.int .i64 0) := (blk_cell BK174.out 0).trans rfl; have hcz6_1 : w5.cell? ⟨gb174, 1, none⟩ = some (.int .i64 0) := (blk_cell BK174.out 1).trans rfl; have hcz6_2 : w5.cell? ⟨gb174, 2, none⟩ = some (.int .u32 0) := (blk_cell BK174.out 2).trans rfl; have hcz6_3 : w5.cell? ⟨gb174, 3, none⟩ = some (.int .u32 0) := (blk_cell BK174.out 3).trans rfl; have hfz6_0 := blk_frozen BK174.out 0; have hfz6_1 := blk_frozen BK174.out 1; have hfz6_2 := blk_frozen BK174.out 2; have hfz6_3 := blk_frozen BK174.out 3)))
     (try simp only [Act.put, List.setIfInBounds_toArray, List.set_cons_zero, List.set_cons_succ])
     go_cut [39] (fun v39 wc => ∃ (kq : Nat) (x39_3 : Bool), v39 = .bool x39_3 ∧ Aside0 (mainsheetref13_Right.j1 kq l0 x3_1 x39_3 ((rd_T36 l0 x3_1).f0) ((rd_T36 l0 x3_1).f1) ((rd_T36 l0 x3_1).f2.f0) ((rd_T36 l0 x3_1).f2.f1) = some r) ∧ Aside0 (kq ≤ k1) ∧ Aside0 (wc.heap[gb174]? = some (.cells #[.int .i64 ((rd_T36 l0 x3_1).f0), .int .i64 ((rd_T36 l0 x3_1).f1), .int .u32 ((rd_T36 l0 x3_1).f2.f0), .int .u32 ((rd_T36 l0 x3_1).f2.f1)] 36 (0, 0))) ∧ Aside0 (Below w.heap.size w wc))
     case first =>
      have H := HC4.out
      clear HC4
      by_cases c7 : ((rd_T36 l0 x3_1).f0) < 1
      ·rw [if_pos c7] at H
       have c7b0 : decide (((rd_T36 l0 x3_1).f0) < 1) = true := decide_eq_true c7
       clear c7
       (first | rw [c7b0] | (simp only [i64_w, i32_w]; rw [c7b0]) | skip)
       have H' := Aside0.mk H
       clear H
       have hcz8_0 : w5.cell? ⟨gb174, 0, none⟩ = some (.int .i64 0) := (blk_cell BK174.out 0).trans rfl
       have hcz8_1 : w5.cell? ⟨gb174, 1, none⟩ = some (.int .i64 0) := (blk_cell BK174.out 1).trans rfl
       have hcz8_2 : w5.cell? ⟨gb174, 2, none⟩ = some (.int .u32 0) := (blk_cell BK174.out 2).trans rfl
       have hcz8_3 : w5.cell? ⟨gb174, 3, none⟩ = some (.int .u32 0) := (blk_cell BK174.out 3).trans rfl
       have hfz8_0 := blk_frozen BK174.out 0
       have hfz8_1 := blk_frozen BK174.out 1
       have hfz8_2 := blk_frozen BK174.out 2
       have hfz8_3 := blk_frozen BK174.out 3
       go_wp2
       repeat (go_quiet (fail); try go_wp2)
       go_meet
       case rel => exact ⟨_, (true), (by first | rfl | (simp; done) | (simp [*]; done)), H', ⟨by have := HK1.out; first | omega | exact Nat.le_refl _⟩, ⟨by (with_reducible repeat (first | refine blk_drewN ?_ _ | refine blk_drew ?_ | refine blk_alloc ?_ _)); refine blk_put (cs := #[.int .i64 ((rd_T36 l0 x3_1).f0), .int .i64 ((rd_T36 l0 x3_1).f1), .int .u32 ((rd_T36 l0 x3_1).f2.f0), .int .u32 0]) ?_ 3 _ rfl; (with_reducible repeat (first | refine blk_drewN ?_ _ | refine blk_drew ?_ | refine blk_alloc ?_ _)); refine blk_put (cs := #[.int .i64 ((rd_T36 l0 x3_1).f0), .int .i64 ((rd_T36 l0 x3_1).f1), .int .u32 0, .int .u32 0]) ?_ 2 _ rfl; (with_reducible repeat (first | refine blk_drewN ?_ _ | refine blk_drew ?_ | refine blk_alloc ?_ _)); refine blk_put (cs := #[.int .i64 ((rd_T36 l0 x3_1).f0), .int .i64 0, .int .u32 0, .int .u32 0]) ?_ 1 _ rfl; (with_reducible repeat (first | refine blk_drewN ?_ _ | refine blk_drew ?_ | refine blk_alloc ?_ _)); refine blk_put (cs := #[.int .i64 0, .int .i64 0, .int .u32 0, .int .u32 0]) ?_ 0 _ rfl; (with_reducible repeat (first | refine blk_drewN ?_ _ | refine blk_drew ?_ | refine blk_alloc ?_ _)); exact BK174.out⟩, ⟨by repeat (first | (with_reducible first | exact HB.out | apply below_alloc | apply pw_below_drewN | apply below_drew1 | refine below_set ?_ GE174.out) | exact HB.out)⟩⟩
      ·rw [if_neg c7] at H
       have c7b0 : decide (((rd_T36 l0 x3_1).f0) < 1) = false := decide_eq_false c7
       clear c7
       (first | rw [c7b0] | (simp only [i64_w, i32_w]; rw [c7b0]) | skip)
       by_cases c9 : ((rd_T36 l0 x3_1).f0) > 16
       ·rw [if_pos c9] at H
        have c9b0 : decide (16 < ((rd_T36 l0 x3_1).f0)) = true := decide_eq_true c9
        clear c9
        have H' := Aside0.mk H
        clear H
        have hcz10_0 : w5.cell? ⟨gb174, 0, none⟩ = some (.int .i64 0) := (blk_cell BK174.out 0).trans rfl
        have hcz10_1 : w5.cell? ⟨gb174, 1, none⟩ = some (.int .i64 0) := (blk_cell BK174.out 1).trans rfl
        have hcz10_2 : w5.cell? ⟨gb174, 2, none⟩ = some (.int .u32 0) := (blk_cell BK174.out 2).trans rfl
        have hcz10_3 : w5.cell? ⟨gb174, 3, none⟩ = some (.int .u32 0) := (blk_cell BK174.out 3).trans rfl
        have hfz10_0 := blk_frozen BK174.out 0
        have hfz10_1 := blk_frozen BK174.out 1
        have hfz10_2 := blk_frozen BK174.out 2
        have hfz10_3 := blk_frozen BK174.out 3
        go_wp2
        repeat (go_quiet (fail); try go_wp2)
        go_meet
        case rel => exact ⟨_, (true), (by first | rfl | (simp; done) | (simp [*]; done)), H', ⟨by have := HK1.out; first | omega | exact Nat.le_refl _⟩, ⟨by (with_reducible repeat (first | refine blk_drewN ?_ _ | refine blk_drew ?_ | refine blk_alloc ?_ _)); refine blk_put (cs := #[.int .i64 ((rd_T36 l0 x3_1).f0), .int .i64 ((rd_T36 l0 x3_1).f1), .int .u32 ((rd_T36 l0 x3_1).f2.f0), .int .u32 0]) ?_ 3 _ rfl; (with_reducible repeat (first | refine blk_drewN ?_ _ | refine blk_drew ?_ | refine blk_alloc ?_ _)); refine blk_put (cs := #[.int .i64 ((rd_T36 l0 x3_1).f0), .int .i64 ((rd_T36 l0 x3_1).f1), .int .u32 0, .int .u32 0]) ?_ 2 _ rfl; (with_reducible repeat (first | refine blk_drewN ?_ _ | refine blk_drew ?_ | refine blk_alloc ?_ _)); refine blk_put (cs := #[.int .i64 ((rd_T36 l0 x3_1).f0), .int .i64 0, .int .u32 0, .int .u32 0]) ?_ 1 _ rfl; (with_reducible repeat (first | refine blk_drewN ?_ _ | refine blk_drew ?_ | refine blk_alloc ?_ _)); refine blk_put (cs := #[.int .i64 0, .int .i64 0, .int .u32 0, .int .u32 0]) ?_ 0 _ rfl; (with_reducible repeat (first | refine blk_drewN ?_ _ | refine blk_drew ?_ | refine blk_alloc ?_ _)); exact BK174.out⟩, ⟨by repeat (first | (with_reducible first | exact HB.out | apply below_alloc | apply pw_below_drewN | apply below_drew1 | refine below_set ?_ GE174.out) | exact HB.out)⟩⟩
       ·rw [if_neg c9] at H
        have c9b0 : decide (16 < ((rd_T36 l0 x3_1).f0)) = false := decide_eq_false c9
        clear c9
        by_cases c11 : ((rd_T36 l0 x3_1).f1) < (-1)
        ·rw [if_pos c11] at H
         have c11b0 : decide (((rd_T36 l0 x3_1).f1) < (-1)) = true := decide_eq_true c11
         clear c11
         have H' := Aside0.mk H
         clear H
         have hcz12_0 : w5.cell? ⟨gb174, 0, none⟩ = some (.int .i64 0) := (blk_cell BK174.out 0).trans rfl
         have hcz12_1 : w5.cell? ⟨gb174, 1, none⟩ = some (.int .i64 0) := (blk_cell BK174.out 1).trans rfl
         have hcz12_2 : w5.cell? ⟨gb174, 2, none⟩ = some (.int .u32 0) := (blk_cell BK174.out 2).trans rfl
         have hcz12_3 : w5.cell? ⟨gb174, 3, none⟩ = some (.int .u32 0) := (blk_cell BK174.out 3).trans rfl
         have hfz12_0 := blk_frozen BK174.out 0
         have hfz12_1 := blk_frozen BK174.out 1
         have hfz12_2 := blk_frozen BK174.out 2
         have hfz12_3 := blk_frozen BK174.out 3
         go_wp2
         repeat (go_quiet (fail); try go_wp2)
         go_meet
         case rel => exact ⟨_, (true), (by first | rfl | (simp; done) | (simp [*]; done)), H', ⟨by have := HK1.out; first | omega | exact Nat.le_refl _⟩, ⟨by (with_reducible repeat (first | refine blk_drewN ?_ _ | refine blk_drew ?_ | refine blk_alloc ?_ _)); refine blk_put (cs := #[.int .i64 ((rd_T36 l0 x3_1).f0), .int .i64 ((rd_T36 l0 x3_1).f1), .int .u32 ((rd_T36 l0 x3_1).f2.f0), .int .u32 0]) ?_ 3 _ rfl; (with_reducible repeat (first | refine blk_drewN ?_ _ | refine blk_drew ?_ | refine blk_alloc ?_ _)); refine blk_put (cs := #[.int .i64 ((rd_T36 l0 x3_1).f0), .int .i64 ((rd_T36 l0 x3_1).f1), .int .u32 0, .int .u32 0]) ?_ 2 _ rfl; (with_reducible repeat (first | refine blk_drewN ?_ _ | refine blk_drew ?_ | refine blk_alloc ?_ _)); refine blk_put (cs := #[.int .i64 ((rd_T36 l0 x3_1).f0), .int .i64 0, .int .u32 0, .int .u32 0]) ?_ 1 _ rfl; (with_reducible repeat (first | refine blk_drewN ?_ _ | refine blk_drew ?_ | refine blk_alloc ?_ _)); refine blk_put (cs := #[.int .i64 0, .int .i64 0, .int .u32 0, .int .u32 0]) ?_ 0 _ rfl; (with_reducible repeat (first | refine blk_drewN ?_ _ | refine blk_drew ?_ | refine blk_alloc ?_ _)); exact BK174.out⟩, ⟨by repeat (first | (with_reducible first | exact HB.out | apply below_alloc | apply pw_below_drewN | apply below_drew1 | refine below_set ?_ GE174.out) | exact HB.out)⟩⟩
        ·rw [if_neg c11] at H
         have c11b0 : decide (((rd_T36 l0 x3_1).f1) < (-1)) = false := decide_eq_false c11
         clear c11
         by_cases c13 : ((rd_T36 l0 x3_1).f1) > 7
         ·rw [if_pos c13] at H
          have c13b0 : decide (7 < ((rd_T36 l0 x3_1).f1)) = true := decide_eq_true c13
          clear c13
          have H' := Aside0.mk H
          clear H
          have hcz14_0 : w5.cell? ⟨gb174, 0, none⟩ = some (.int .i64 0) := (blk_cell BK174.out 0).trans rfl
          have hcz14_1 : w5.cell? ⟨gb174, 1, none⟩ = some (.int .i64 0) := (blk_cell BK174.out 1).trans rfl
          have hcz14_2 : w5.cell? ⟨gb174, 2, none⟩ = some (.int .u32 0) := (blk_cell BK174.out 2).trans rfl
          have hcz14_3 : w5.cell? ⟨gb174, 3, none⟩ = some (.int .u32 0) := (blk_cell BK174.out 3).trans rfl
          have hfz14_0 := blk_frozen BK174.out 0
          have hfz14_1 := blk_frozen BK174.out 1
          have hfz14_2 := blk_frozen BK174.out 2
          have hfz14_3 := blk_frozen BK174.out 3
          go_wp2
          repeat (go_quiet (fail); try go_wp2)
          go_meet
          case rel => exact ⟨_, (true), (by first | rfl | (simp; done) | (simp [*]; done)), H', ⟨by have := HK1.out; first | omega | exact Nat.le_refl _⟩, ⟨by (with_reducible repeat (first | refine blk_drewN ?_ _ | refine blk_drew ?_ | refine blk_alloc ?_ _)); refine blk_put (cs := #[.int .i64 ((rd_T36 l0 x3_1).f0), .int .i64 ((rd_T36 l0 x3_1).f1), .int .u32 ((rd_T36 l0 x3_1).f2.f0), .int .u32 0]) ?_ 3 _ rfl; (with_reducible repeat (first | refine blk_drewN ?_ _ | refine blk_drew ?_ | refine blk_alloc ?_ _)); refine blk_put (cs := #[.int .i64 ((rd_T36 l0 x3_1).f0), .int .i64 ((rd_T36 l0 x3_1).f1), .int .u32 0, .int .u32 0]) ?_ 2 _ rfl; (with_reducible repeat (first | refine blk_drewN ?_ _ | refine blk_drew ?_ | refine blk_alloc ?_ _)); refine blk_put (cs := #[.int .i64 ((rd_T36 l0 x3_1).f0), .int .i64 0, .int .u32 0, .int .u32 0]) ?_ 1 _ rfl; (with_reducible repeat (first | refine blk_drewN ?_ _ | refine blk_drew ?_ | refine blk_alloc ?_ _)); refine blk_put (cs := #[.int .i64 0, .int .i64 0, .int .u32 0, .int .u32 0]) ?_ 0 _ rfl; (with_reducible repeat (first | refine blk_drewN ?_ _ | refine blk_drew ?_ | refine blk_alloc ?_ _)); exact BK174.out⟩, ⟨by repeat (first | (with_reducible first | exact HB.out | apply below_alloc | apply pw_below_drewN | apply below_drew1 | refine below_set ?_ GE174.out) | exact HB.out)⟩⟩
         ·rw [if_neg c13] at H
          have c13b0 : decide (7 < ((rd_T36 l0 x3_1).f1)) = false := decide_eq_false c13
          clear c13
          replace H := Option.bind_eq_some_iff.mp H
          obtain ⟨t175, A150, H⟩ := H
          replace H : (mainsheetref13_Right.j1 k1 l0 x3_1 (!t175) ((rd_T36 l0 x3_1).f0) ((rd_T36 l0 x3_1).f1) ((rd_T36 l0 x3_1).f2.f0) ((rd_T36 l0 x3_1).f2.f1)) = some r := H
          have A15 := Aside0.mk A150
          clear A150
          have H' := Aside0.mk H
          clear H
          have hcz16_0 : w5.cell? ⟨gb174, 0, none⟩ = some (.int .i64 0) := (blk_cell BK174.out 0).trans rfl
          have hcz16_1 : w5.cell? ⟨gb174, 1, none⟩ = some (.int .i64 0) := (blk_cell BK174.out 1).trans rfl
          have hcz16_2 : w5.cell? ⟨gb174, 2, none⟩ = some (.int .u32 0) := (blk_cell BK174.out 2).trans rfl
          have hcz16_3 : w5.cell? ⟨gb174, 3, none⟩ = some (.int .u32 0) := (blk_cell BK174.out 3).trans rfl
          have hfz16_0 := blk_frozen BK174.out 0
          have hfz16_1 := blk_frozen BK174.out 1
          have hfz16_2 := blk_frozen BK174.out 2
          have hfz16_3 := blk_frozen BK174.out 3
          go_wp2_with (first | (go_at_call 52; (with_reducible refine (mainsheetref07_Right.calls ((rd_T36 l0 x3_1).f2.f0) ((rd_T36 l0 x3_1).f2.f1) t175 _ A15.out).mono ?_); rintro e w17 ⟨rfl, hb⟩; have n0_ := Aside0.mk (blk_below (g := gb174) (o := .cells #[.int .i64 ((rd_T36 l0 x3_1).f0), .int .i64 ((rd_T36 l0 x3_1).f1), .int .u32 ((rd_T36 l0 x3_1).f2.f0), .int .u32 ((rd_T36 l0 x3_1).f2.f1)] 36 (0, 0)) (by (with_reducible repeat (first | refine blk_drewN ?_ _ | refine blk_drew ?_ | refine blk_alloc ?_ _)); refine blk_put (cs := #[.int .i64 ((rd_T36 l0 x3_1).f0), .int .i64 ((rd_T36 l0 x3_1).f1), .int .u32 ((rd_T36 l0 x3_1).f2.f0), .int .u32 0]) ?_ 3 _ rfl; (with_reducible repeat (first | refine blk_drewN ?_ _ | refine blk_drew ?_ | refine blk_alloc ?_ _)); refine blk_put (cs := #[.int .i64 ((rd_T36 l0 x3_1).f0), .int .i64 ((rd_T36 l0 x3_1).f1), .int .u32 0, .int .u32 0]) ?_ 2 _ rfl; (with_reducible repeat (first | refine blk_drewN ?_ _ | refine blk_drew ?_ | refine blk_alloc ?_ _)); refine blk_put (cs := #[.int .i64 ((rd_T36 l0 x3_1).f0), .int .i64 0, .int .u32 0, .int .u32 0]) ?_ 1 _ rfl; (with_reducible repeat (first | refine blk_drewN ?_ _ | refine blk_drew ?_ | refine blk_alloc ?_ _)); refine blk_put (cs := #[.int .i64 0, .int .i64 0, .int .u32 0, .int .u32 0]) ?_ 0 _ rfl; (with_reducible repeat (first | refine blk_drewN ?_ _ | refine blk_drew ?_ | refine blk_alloc ?_ _)); exact BK174.out) hb); have n1_ := Aside0.mk (below_step (by repeat (first | (with_reducible first | exact HB.out | apply below_alloc | apply pw_below_drewN | apply below_drew1 | refine below_set ?_ GE174.out) | exact HB.out)) hb); clear BK174; clear HB; have BK174 := n0_; have HB := n1_; clear n0_ n1_; (try clear hb); (try clear hb2); (try clear hk); (try clear hi)))
          repeat (go_quiet (first | (go_at_call 52; (with_reducible refine (mainsheetref07_Right.calls ((rd_T36 l0 x3_1).f2.f0) ((rd_T36 l0 x3_1).f2.f1) t175 _ A15.out).mono ?_); rintro e w17 ⟨rfl, hb⟩; have n0_ := Aside0.mk (blk_below (g := gb174) (o := .cells #[.int .i64 ((rd_T36 l0 x3_1).f0), .int .i64 ((rd_T36 l0 x3_1).f1), .int .u32 ((rd_T36 l0 x3_1).f2.f0), .int .u32 ((rd_T36 l0 x3_1).f2.f1)] 36 (0, 0)) (by (with_reducible repeat (first | refine blk_drewN ?_ _ | refine blk_drew ?_ | refine blk_alloc ?_ _)); refine blk_put (cs := #[.int .i64 ((rd_T36 l0 x3_1).f0), .int .i64 ((rd_T36 l0 x3_1).f1), .int .u32 ((rd_T36 l0 x3_1).f2.f0), .int .u32 0]) ?_ 3 _ rfl; (with_reducible repeat (first | refine blk_drewN ?_ _ | refine blk_drew ?_ | refine blk_alloc ?_ _)); refine blk_put (cs := #[.int .i64 ((rd_T36 l0 x3_1).f0), .int .i64 ((rd_T36 l0 x3_1).f1), .int .u32 0, .int .u32 0]) ?_ 2 _ rfl; (with_reducible repeat (first | refine blk_drewN ?_ _ | refine blk_drew ?_ | refine blk_alloc ?_ _)); refine blk_put (cs := #[.int .i64 ((rd_T36 l0 x3_1).f0), .int .i64 0, .int .u32 0, .int .u32 0]) ?_ 1 _ rfl; (with_reducible repeat (first | refine blk_drewN ?_ _ | refine blk_drew ?_ | refine blk_alloc ?_ _)); refine blk_put (cs := #[.int .i64 0, .int .i64 0, .int .u32 0, .int .u32 0]) ?_ 0 _ rfl; (with_reducible repeat (first | refine blk_drewN ?_ _ | refine blk_drew ?_ | refine blk_alloc ?_ _)); exact BK174.out) hb); have n1_ := Aside0.mk (below_step (by repeat (first | (with_reducible first | exact HB.out | apply below_alloc | apply pw_below_drewN | apply below_drew1 | refine below_set ?_ GE174.out) | exact HB.out)) hb); clear BK174; clear HB; have BK174 := n0_; have HB := n1_; clear n0_ n1_; (try clear hb); (try clear hb2); (try clear hk); (try clear hi))); try go_wp2_with (first | (go_at_call 52; (with_reducible refine (mainsheetref07_Right.calls ((rd_T36 l0 x3_1).f2.f0) ((rd_T36 l0 x3_1).f2.f1) t175 _ A15.out).mono ?_); rintro e w17 ⟨rfl, hb⟩; have n0_ := Aside0.mk (blk_below (g := gb174) (o := .cells #[.int .i64 ((rd_T36 l0 x3_1).f0), .int .i64 ((rd_T36 l0 x3_1).f1), .int .u32 ((rd_T36 l0 x3_1).f2.f0), .int .u32 ((rd_T36 l0 x3_1).f2.f1)] 36 (0, 0)) (by (with_reducible repeat (first | refine blk_drewN ?_ _ | refine blk_drew ?_ | refine blk_alloc ?_ _)); refine blk_put (cs := #[.int .i64 ((rd_T36 l0 x3_1).f0), .int .i64 ((rd_T36 l0 x3_1).f1), .int .u32 ((rd_T36 l0 x3_1).f2.f0), .int .u32 0]) ?_ 3 _ rfl; (with_reducible repeat (first | refine blk_drewN ?_ _ | refine blk_drew ?_ | refine blk_alloc ?_ _)); refine blk_put (cs := #[.int .i64 ((rd_T36 l0 x3_1).f0), .int .i64 ((rd_T36 l0 x3_1).f1), .int .u32 0, .int .u32 0]) ?_ 2 _ rfl; (with_reducible repeat (first | refine blk_drewN ?_ _ | refine blk_drew ?_ | refine blk_alloc ?_ _)); refine blk_put (cs := #[.int .i64 ((rd_T36 l0 x3_1).f0), .int .i64 0, .int .u32 0, .int .u32 0]) ?_ 1 _ rfl; (with_reducible repeat (first | refine blk_drewN ?_ _ | refine blk_drew ?_ | refine blk_alloc ?_ _)); refine blk_put (cs := #[.int .i64 0, .int .i64 0, .int .u32 0, .int .u32 0]) ?_ 0 _ rfl; (with_reducible repeat (first | refine blk_drewN ?_ _ | refine blk_drew ?_ | refine blk_alloc ?_ _)); exact BK174.out) hb); have n1_ := Aside0.mk (below_step (by repeat (first | (with_reducible first | exact HB.out | apply below_alloc | apply pw_below_drewN | apply below_drew1 | refine below_set ?_ GE174.out) | exact HB.out)) hb); clear BK174; clear HB; have BK174 := n0_; have HB := n1_; clear n0_ n1_; (try clear hb); (try clear hb2); (try clear hk); (try clear hi))))
          go_meet
          case rel => exact ⟨_, (!t175), (by first | rfl | (simp; done) | (simp [*]; done)), H', ⟨by have := HK1.out; first | omega | exact Nat.le_refl _⟩, ⟨by (with_reducible repeat (first | refine blk_drewN ?_ _ | refine blk_drew ?_ | refine blk_alloc ?_ _)); exact BK174.out⟩, ⟨by repeat (first | (with_reducible first | exact HB.out | apply below_alloc | apply pw_below_drewN | apply below_drew1 | refine below_set ?_ GE174.out) | exact HB.out)⟩⟩
     case rest =>
      clear HC4
      try clear c1
      try clear p1
      try clear q1
      try clear hx1
      try clear c2
      try clear c2b0
      try clear p2
      try clear c3
      try clear c3b0
      try clear c7
      try clear c7b0
      try clear c9
      try clear c9b0
      try clear c11
      try clear c11b0
      try clear c13
      try clear c13b0
      try clear p17
      try clear q17
      try clear hx17
      try clear hcz10_0
      try clear hcz10_1
      try clear hcz10_2
      try clear hcz10_3
      try clear hcz12_0
      try clear hcz12_1
      try clear hcz12_2
      try clear hcz12_3
      try clear hcz14_0
      try clear hcz14_1
      try clear hcz14_2
      try clear hcz14_3
      try clear hcz16_0
      try clear hcz16_1
      try clear hcz16_2
      try clear hcz16_3
      try clear hcz6_0
      try clear hcz6_1
      try clear hcz6_2
      try clear hcz6_3
      try clear hcz8_0
      try clear hcz8_1
      try clear hcz8_2
      try clear hcz8_3
      try clear hfz10_0
      try clear hfz10_1
      try clear hfz10_2
      try clear hfz10_3
      try clear hfz12_0
      try clear hfz12_1
      try clear hfz12_2
      try clear hfz12_3
      try clear hfz14_0
      try clear hfz14_1
      try clear hfz14_2
      try clear hfz14_3
      try clear hfz16_0
      try clear hfz16_1
      try clear hfz16_2
      try clear hfz16_3
      try clear hfz6_0
      try clear hfz6_1
      try clear hfz6_2
      try clear hfz6_3
      try clear hfz8_0
      try clear hfz8_1
      try clear hfz8_2
      try clear hfz8_3
      try clear hx173_0
      try clear hx173_1
      try clear hx173_2
      try clear hx173_3
      try clear p173
      try clear q173
      obtain ⟨kq, x39_3, rfl, HA, HJ3, BK174, HB⟩ := hcut
      cases kq with
      | zero => exact absurd HA.out (by simp [mainsheetref13_Right.j1])
      | succ kj3 =>
       have H := HA.out
       clear HA
       simp only [mainsheetref13_Right.j1] at H
       by_cases c18 : x39_3 = true
       ·subst c18
        have H1 : (some false) = some r := by rw [if_pos rfl] at H; exact H
        clear H
        have H := H1
        clear H1
        obtain rfl := Option.some.inj H
        go_wp2
        repeat (go_quiet (fail); try go_wp2)
        go_ret
        exact ⟨by first | rfl | (simp [errW_none, errW_some] <;> rfl) | (simp [*, errW_none, errW_some] <;> rfl), by repeat (first | (with_reducible first | exact HB.out | apply below_alloc | apply pw_below_drewN | apply below_drew1 | refine below_set ?_ GE174.out) | exact HB.out)⟩
       ·replace c18 := Bool.eq_false_iff.mpr c18
        subst c18
        have H1 : (mainsheetref13_Right.l1 kj3 l0 x3_1 0 ((rd_T36 l0 x3_1).f0) ((rd_T36 l0 x3_1).f1) ((rd_T36 l0 x3_1).f2.f0) ((rd_T36 l0 x3_1).f2.f1)) = some r := by rw [if_neg (show ¬ (false = true) by decide)] at H; exact H
        clear H
        have H := H1
        clear H1
        have H' := Aside0.mk H
        clear H
        go_wp2
        repeat (go_quiet (fail); try go_wp2)
        go_loopg [5] kj3 (fun kq v5 w' => ∃ (x5_3 : Int), v5 = .int .i64 x5_3 ∧ Aside0 (mainsheetref13_Right.l1 kq l0 x3_1 x5_3 ((rd_T36 l0 x3_1).f0) ((rd_T36 l0 x3_1).f1) ((rd_T36 l0 x3_1).f2.f0) ((rd_T36 l0 x3_1).f2.f1) = some r) ∧ Aside0 (kq ≤ kj3) ∧ Aside0 (w'.heap[gb174]? = some (.cells #[.int .i64 ((rd_T36 l0 x3_1).f0), .int .i64 ((rd_T36 l0 x3_1).f1), .int .u32 ((rd_T36 l0 x3_1).f2.f0), .int .u32 ((rd_T36 l0 x3_1).f2.f1)] 36 (0, 0))) ∧ Aside0 (Below w.heap.size w w'))
        case atStart => exact ⟨(0), (by first | rfl | (simp; done) | (simp [*]; done)), H', ⟨Nat.le_refl _⟩, ⟨by (with_reducible repeat (first | refine blk_drewN ?_ _ | refine blk_drew ?_ | refine blk_alloc ?_ _)); exact BK174.out⟩, ⟨by repeat (first | (with_reducible first | exact HB.out | apply below_alloc | apply pw_below_drewN | apply below_drew1 | refine below_set ?_ GE174.out) | exact HB.out)⟩⟩
        case round =>
         clear H'
         try clear c1
         try clear p1
         try clear q1
         try clear hx1
         try clear c2
         try clear c2b0
         try clear p2
         try clear c3
         try clear c3b0
         try clear c7
         try clear c7b0
         try clear c9
         try clear c9b0
         try clear c11
         try clear c11b0
         try clear c13
         try clear c13b0
         try clear p17
         try clear q17
         try clear hx17
         try clear c18
         try clear hcz10_0
         try clear hcz10_1
         try clear hcz10_2
         try clear hcz10_3
         try clear hcz12_0
         try clear hcz12_1
         try clear hcz12_2
         try clear hcz12_3
         try clear hcz14_0
         try clear hcz14_1
         try clear hcz14_2
         try clear hcz14_3
         try clear hcz16_0
         try clear hcz16_1
         try clear hcz16_2
         try clear hcz16_3
         try clear hcz6_0
         try clear hcz6_1
         try clear hcz6_2
         try clear hcz6_3
         try clear hcz8_0
         try clear hcz8_1
         try clear hcz8_2
         try clear hcz8_3
         try clear hfz10_0
         try clear hfz10_1
         try clear hfz10_2
         try clear hfz10_3
         try clear hfz12_0
         try clear hfz12_1
         try clear hfz12_2
         try clear hfz12_3
         try clear hfz14_0
         try clear hfz14_1
         try clear hfz14_2
         try clear hfz14_3
         try clear hfz16_0
         try clear hfz16_1
         try clear hfz16_2
         try clear hfz16_3
         try clear hfz6_0
         try clear hfz6_1
         try clear hfz6_2
         try clear hfz6_3
         try clear hfz8_0
         try clear hfz8_1
         try clear hfz8_2
         try clear hfz8_3
         try clear hx173_0
         try clear hx173_1
         try clear hx173_2
         try clear hx173_3
         try clear p1
         try clear p17
         try clear p173
         try clear p2
         try clear q1
         try clear q17
         try clear q173
         obtain ⟨x5_3, rfl, HA, HK3, BK174, HB⟩ := hrel
         cases gk with
         | zero => exact absurd HA.out (by simp [mainsheetref13_Right.l1])
         | succ k3 =>
          have H := HA.out
          clear HA
          simp only [mainsheetref13_Right.l1] at H
          by_cases c19 : x5_3 < x3_1
          ·rw [if_pos c19] at H
           have c19b0 : decide (x5_3 < x3_1) = true := decide_eq_true c19
           clear c19
           by_cases c20 : 0 ≤ x5_3
           ·rw [if_pos c20] at H
            have c20b0 : decide (0 ≤ x5_3) = true := decide_eq_true c20
            clear c20
            by_cases c21 : x5_3 < (l0.length : Int)
            ·rw [if_pos c21] at H
             have c21b0 : decide (x5_3 < (l0.length : Int)) = true := decide_eq_true c21
             clear c21
             by_cases c22 : ((rd_T36 l0 x5_3).f0) = ((rd_T36 l0 x3_1).f0)
             ·rw [if_pos c22] at H
              have c22b0 : (((rd_T36 l0 x5_3).f0) == ((rd_T36 l0 x3_1).f0)) = true := beq_iff_eq.mpr c22
              have c22b1 : (((rd_T36 l0 x5_3).f0) != ((rd_T36 l0 x3_1).f0)) = false := bne_eq_false_iff_eq.mpr c22
              clear c22
              obtain rfl := Option.some.inj H
              have p176 : 0 ≤ (x5_3 : Int) := of_decide_eq_true (by first | (with_reducible assumption) | assumption)
              have q176 : x5_3 < (l0.length : Int) := of_decide_eq_true (by first | (with_reducible assumption) | assumption)
              obtain ⟨ad176, e176, hx176_0, hx176_1, hx176_2, hx176_3⟩ := at_T36 HR0.out x5_3 p176 q176
              obtain rfl : ad173 = ad176 := (by injection e176)
              replace hx176_0 := (HB.out.cell (World.block_lt_of_cell? w _ hx176_0)).trans hx176_0
              replace hx176_1 := (HB.out.cell (World.block_lt_of_cell? w _ hx176_1)).trans hx176_1
              replace hx176_2 := (HB.out.cell (World.block_lt_of_cell? w _ hx176_2)).trans hx176_2
              replace hx176_3 := (HB.out.cell (World.block_lt_of_cell? w _ hx176_3)).trans hx176_3
              replace p176 := eq_true p176
              replace q176 := eq_true q176
              have hcz23_0 : wr.cell? ⟨gb174, 0, none⟩ = some (.int .i64 ((rd_T36 l0 x3_1).f0)) := (blk_cell BK174.out 0).trans rfl
              have hcz23_1 : wr.cell? ⟨gb174, 1, none⟩ = some (.int .i64 ((rd_T36 l0 x3_1).f1)) := (blk_cell BK174.out 1).trans rfl
              have hcz23_2 : wr.cell? ⟨gb174, 2, none⟩ = some (.int .u32 ((rd_T36 l0 x3_1).f2.f0)) := (blk_cell BK174.out 2).trans rfl
              have hcz23_3 : wr.cell? ⟨gb174, 3, none⟩ = some (.int .u32 ((rd_T36 l0 x3_1).f2.f1)) := (blk_cell BK174.out 3).trans rfl
              have hfz23_0 := blk_frozen BK174.out 0
              have hfz23_1 := blk_frozen BK174.out 1
              have hfz23_2 := blk_frozen BK174.out 2
              have hfz23_3 := blk_frozen BK174.out 3
              go_wp2
              repeat (go_quiet (fail); try go_wp2)
              go_ret
              exact ⟨by first | rfl | (simp [errW_none, errW_some] <;> rfl) | (simp [*, errW_none, errW_some] <;> rfl), by repeat (first | (with_reducible first | exact HB.out | apply below_alloc | apply pw_below_drewN | apply below_drew1 | refine below_set ?_ GE174.out) | exact HB.out)⟩
             ·rw [if_neg c22] at H
              have c22b0 : (((rd_T36 l0 x5_3).f0) == ((rd_T36 l0 x3_1).f0)) = false := beq_eq_false_iff_ne.mpr c22
              have c22b1 : (((rd_T36 l0 x5_3).f0) != ((rd_T36 l0 x3_1).f0)) = true := bne_iff_ne.mpr c22
              by_cases c24 : ((rd_T36 l0 x3_1).f1) ≥ 0
              ·rw [if_pos c24] at H
               have c24b0 : decide (0 ≤ ((rd_T36 l0 x3_1).f1)) = true := decide_eq_true c24
               clear c24
               by_cases c25 : ((rd_T36 l0 x5_3).f1) = ((rd_T36 l0 x3_1).f1)
               ·rw [if_pos c25] at H
                have c25b0 : (((rd_T36 l0 x5_3).f1) == ((rd_T36 l0 x3_1).f1)) = true := beq_iff_eq.mpr c25
                have c25b1 : (((rd_T36 l0 x5_3).f1) != ((rd_T36 l0 x3_1).f1)) = false := bne_eq_false_iff_eq.mpr c25
                clear c25
                obtain rfl := Option.some.inj H
                have p176 : 0 ≤ (x5_3 : Int) := of_decide_eq_true (by first | (with_reducible assumption) | assumption)
                have q176 : x5_3 < (l0.length : Int) := of_decide_eq_true (by first | (with_reducible assumption) | assumption)
                obtain ⟨ad176, e176, hx176_0, hx176_1, hx176_2, hx176_3⟩ := at_T36 HR0.out x5_3 p176 q176
                obtain rfl : ad173 = ad176 := (by injection e176)
                replace hx176_0 := (HB.out.cell (World.block_lt_of_cell? w _ hx176_0)).trans hx176_0
                replace hx176_1 := (HB.out.cell (World.block_lt_of_cell? w _ hx176_1)).trans hx176_1
                replace hx176_2 := (HB.out.cell (World.block_lt_of_cell? w _ hx176_2)).trans hx176_2
                replace hx176_3 := (HB.out.cell (World.block_lt_of_cell? w _ hx176_3)).trans hx176_3
                replace p176 := eq_true p176
                replace q176 := eq_true q176
                have hcz26_0 : wr.cell? ⟨gb174, 0, none⟩ = some (.int .i64 ((rd_T36 l0 x3_1).f0)) := (blk_cell BK174.out 0).trans rfl
                have hcz26_1 : wr.cell? ⟨gb174, 1, none⟩ = some (.int .i64 ((rd_T36 l0 x3_1).f1)) := (blk_cell BK174.out 1).trans rfl
                have hcz26_2 : wr.cell? ⟨gb174, 2, none⟩ = some (.int .u32 ((rd_T36 l0 x3_1).f2.f0)) := (blk_cell BK174.out 2).trans rfl
                have hcz26_3 : wr.cell? ⟨gb174, 3, none⟩ = some (.int .u32 ((rd_T36 l0 x3_1).f2.f1)) := (blk_cell BK174.out 3).trans rfl
                have hfz26_0 := blk_frozen BK174.out 0
                have hfz26_1 := blk_frozen BK174.out 1
                have hfz26_2 := blk_frozen BK174.out 2
                have hfz26_3 := blk_frozen BK174.out 3
                have p177 : 0 ≤ (x5_3 : Int) := of_decide_eq_true (by first | (with_reducible assumption) | assumption)
                have q177 : x5_3 < (l0.length : Int) := of_decide_eq_true (by first | (with_reducible assumption) | assumption)
                obtain ⟨ad177, e177, hx177_0, hx177_1, hx177_2, hx177_3⟩ := at_T36 HR0.out x5_3 p177 q177
                obtain rfl : ad173 = ad177 := (by injection e177)
                replace hx177_0 := (HB.out.cell (World.block_lt_of_cell? w _ hx177_0)).trans hx177_0
                replace hx177_1 := (HB.out.cell (World.block_lt_of_cell? w _ hx177_1)).trans hx177_1
                replace hx177_2 := (HB.out.cell (World.block_lt_of_cell? w _ hx177_2)).trans hx177_2
                replace hx177_3 := (HB.out.cell (World.block_lt_of_cell? w _ hx177_3)).trans hx177_3
                replace p177 := eq_true p177
                replace q177 := eq_true q177
                go_wp2
                repeat (go_quiet (fail); try go_wp2)
                go_ret
                exact ⟨by first | rfl | (simp [errW_none, errW_some] <;> rfl) | (simp [*, errW_none, errW_some] <;> rfl), by repeat (first | (with_reducible first | exact HB.out | apply below_alloc | apply pw_below_drewN | apply below_drew1 | refine below_set ?_ GE174.out) | exact HB.out)⟩
               ·rw [if_neg c25] at H
                have c25b0 : (((rd_T36 l0 x5_3).f1) == ((rd_T36 l0 x3_1).f1)) = false := beq_eq_false_iff_ne.mpr c25
                have c25b1 : (((rd_T36 l0 x5_3).f1) != ((rd_T36 l0 x3_1).f1)) = true := bne_iff_ne.mpr c25
                have H' := Aside0.mk H
                clear H
                have p176 : 0 ≤ (x5_3 : Int) := of_decide_eq_true (by first | (with_reducible assumption) | assumption)
                have q176 : x5_3 < (l0.length : Int) := of_decide_eq_true (by first | (with_reducible assumption) | assumption)
                obtain ⟨ad176, e176, hx176_0, hx176_1, hx176_2, hx176_3⟩ := at_T36 HR0.out x5_3 p176 q176
                obtain rfl : ad173 = ad176 := (by injection e176)
                replace hx176_0 := (HB.out.cell (World.block_lt_of_cell? w _ hx176_0)).trans hx176_0
                replace hx176_1 := (HB.out.cell (World.block_lt_of_cell? w _ hx176_1)).trans hx176_1
                replace hx176_2 := (HB.out.cell (World.block_lt_of_cell? w _ hx176_2)).trans hx176_2
                replace hx176_3 := (HB.out.cell (World.block_lt_of_cell? w _ hx176_3)).trans hx176_3
                replace p176 := eq_true p176
                replace q176 := eq_true q176
                have hcz27_0 : wr.cell? ⟨gb174, 0, none⟩ = some (.int .i64 ((rd_T36 l0 x3_1).f0)) := (blk_cell BK174.out 0).trans rfl
                have hcz27_1 : wr.cell? ⟨gb174, 1, none⟩ = some (.int .i64 ((rd_T36 l0 x3_1).f1)) := (blk_cell BK174.out 1).trans rfl
                have hcz27_2 : wr.cell? ⟨gb174, 2, none⟩ = some (.int .u32 ((rd_T36 l0 x3_1).f2.f0)) := (blk_cell BK174.out 2).trans rfl
                have hcz27_3 : wr.cell? ⟨gb174, 3, none⟩ = some (.int .u32 ((rd_T36 l0 x3_1).f2.f1)) := (blk_cell BK174.out 3).trans rfl
                have hfz27_0 := blk_frozen BK174.out 0
                have hfz27_1 := blk_frozen BK174.out 1
                have hfz27_2 := blk_frozen BK174.out 2
                have hfz27_3 := blk_frozen BK174.out 3
                have p177 : 0 ≤ (x5_3 : Int) := of_decide_eq_true (by first | (with_reducible assumption) | assumption)
                have q177 : x5_3 < (l0.length : Int) := of_decide_eq_true (by first | (with_reducible assumption) | assumption)
                obtain ⟨ad177, e177, hx177_0, hx177_1, hx177_2, hx177_3⟩ := at_T36 HR0.out x5_3 p177 q177
                obtain rfl : ad173 = ad177 := (by injection e177)
                replace hx177_0 := (HB.out.cell (World.block_lt_of_cell? w _ hx177_0)).trans hx177_0
                replace hx177_1 := (HB.out.cell (World.block_lt_of_cell? w _ hx177_1)).trans hx177_1
                replace hx177_2 := (HB.out.cell (World.block_lt_of_cell? w _ hx177_2)).trans hx177_2
                replace hx177_3 := (HB.out.cell (World.block_lt_of_cell? w _ hx177_3)).trans hx177_3
                replace p177 := eq_true p177
                replace q177 := eq_true q177
                go_wp2
                repeat (go_quiet (fail); try go_wp2)
                go_roundg k3
                case measure => have := HK1.out; have := HJ3.out; have := HK3.out; omega
                case rel => exact ⟨(wrap64 (x5_3 + 1)), (by first | rfl | (simp; done) | (simp [*]; done)), H', ⟨by have := HK1.out; have := HJ3.out; have := HK3.out; omega⟩, ⟨by (with_reducible repeat (first | refine blk_drewN ?_ _ | refine blk_drew ?_ | refine blk_alloc ?_ _)); exact BK174.out⟩, ⟨by repeat (first | (with_reducible first | exact HB.out | apply below_alloc | apply pw_below_drewN | apply below_drew1 | refine below_set ?_ GE174.out) | exact HB.out)⟩⟩
              ·rw [if_neg c24] at H
               have c24b0 : decide (0 ≤ ((rd_T36 l0 x3_1).f1)) = false := decide_eq_false c24
               clear c24
               have H' := Aside0.mk H
               clear H
               have p176 : 0 ≤ (x5_3 : Int) := of_decide_eq_true (by first | (with_reducible assumption) | assumption)
               have q176 : x5_3 < (l0.length : Int) := of_decide_eq_true (by first | (with_reducible assumption) | assumption)
               obtain ⟨ad176, e176, hx176_0, hx176_1, hx176_2, hx176_3⟩ := at_T36 HR0.out x5_3 p176 q176
               obtain rfl : ad173 = ad176 := (by injection e176)
               replace hx176_0 := (HB.out.cell (World.block_lt_of_cell? w _ hx176_0)).trans hx176_0
               replace hx176_1 := (HB.out.cell (World.block_lt_of_cell? w _ hx176_1)).trans hx176_1
               replace hx176_2 := (HB.out.cell (World.block_lt_of_cell? w _ hx176_2)).trans hx176_2
               replace hx176_3 := (HB.out.cell (World.block_lt_of_cell? w _ hx176_3)).trans hx176_3
               replace p176 := eq_true p176
               replace q176 := eq_true q176
               have hcz28_0 : wr.cell? ⟨gb174, 0, none⟩ = some (.int .i64 ((rd_T36 l0 x3_1).f0)) := (blk_cell BK174.out 0).trans rfl
               have hcz28_1 : wr.cell? ⟨gb174, 1, none⟩ = some (.int .i64 ((rd_T36 l0 x3_1).f1)) := (blk_cell BK174.out 1).trans rfl
               have hcz28_2 : wr.cell? ⟨gb174, 2, none⟩ = some (.int .u32 ((rd_T36 l0 x3_1).f2.f0)) := (blk_cell BK174.out 2).trans rfl
               have hcz28_3 : wr.cell? ⟨gb174, 3, none⟩ = some (.int .u32 ((rd_T36 l0 x3_1).f2.f1)) := (blk_cell BK174.out 3).trans rfl
               have hfz28_0 := blk_frozen BK174.out 0
               have hfz28_1 := blk_frozen BK174.out 1
               have hfz28_2 := blk_frozen BK174.out 2
               have hfz28_3 := blk_frozen BK174.out 3
               go_wp2
               repeat (go_quiet (fail); try go_wp2)
               go_roundg k3
               case measure => have := HK1.out; have := HJ3.out; have := HK3.out; omega
               case rel => exact ⟨(wrap64 (x5_3 + 1)), (by first | rfl | (simp; done) | (simp [*]; done)), H', ⟨by have := HK1.out; have := HJ3.out; have := HK3.out; omega⟩, ⟨by (with_reducible repeat (first | refine blk_drewN ?_ _ | refine blk_drew ?_ | refine blk_alloc ?_ _)); exact BK174.out⟩, ⟨by repeat (first | (with_reducible first | exact HB.out | apply below_alloc | apply pw_below_drewN | apply below_drew1 | refine below_set ?_ GE174.out) | exact HB.out)⟩⟩
            ·rw [if_neg c21] at H
             exact absurd H (by simp)
           ·rw [if_neg c20] at H
            exact absurd H (by simp)
          ·rw [if_neg c19] at H
           have c19b0 : decide (x5_3 < x3_1) = false := decide_eq_false c19
           clear c19
           have H' := Aside0.mk H
           clear H
           go_wp2
           repeat (go_quiet (fail); try go_wp2)
           go_roundg k3
           case measure => have := HK1.out; have := HJ3.out; have := HK3.out; omega
           case rel => exact ⟨(wrap64 (x3_1 + 1)), (by first | rfl | (simp; done) | (simp [*]; done)), H', ⟨by have := HK1.out; have := HJ3.out; have := HK3.out; omega⟩, ⟨by repeat (first | (with_reducible first | exact HB.out | apply below_alloc | apply pw_below_drewN | apply below_drew1 | refine below_set ?_ GE174.out) | exact HB.out)⟩⟩
    ·rw [if_neg c3] at H
     exact absurd H (by simp)
   ·rw [if_neg c2] at H
    have c2b0 : decide (x3_1 < (l0.length : Int)) = false := decide_eq_false c2
    clear c2
    obtain rfl := Option.some.inj H
    go_wp2
    repeat (go_quiet (fail); try go_wp2)
    go_ret
    exact ⟨by first | rfl | (simp [errW_none, errW_some] <;> rfl) | (simp [*, errW_none, errW_some] <;> rfl), by repeat (first | (with_reducible first | exact HB.out | apply below_alloc | apply pw_below_drewN | apply below_drew1) | exact HB.out)⟩

end Go.Proofs.YtdmieaidheelbaaDoor.Q
end
/- QRc -/
section
namespace Go.Proofs.YtdmieaidheelbaaDoor.Q
open Go.RowKit Go.Proofs.YtdmieaidheelbaaDoorW.PrintWords Go.Proofs.YtdmieaidheelbaaDoorW.PrintLast Go.Proofs.YtdmieaidheelbaaDoorW.PrintMore
attribute [local go_sem] max2_int min2_int max_two min_two max_three min_three max_four min_four
set_option linter.unusedVariables false
set_option linter.unusedSimpArgs false

attribute [local go_sem high] eqA31
def mainsheetref13_Takes.f (k : Nat) (a0_0 : Int) (a0_1 : Int) (a0_2 : Int) (a0_3 : Int) (a1 : Int) : Option (Int) := (mainsheetref07_Allows.f a0_2 a0_3 a1).bind fun t192 => ((mainsheetref04_Has.f t192 a0_1).bind fun t193 => (if t193 = true then (some a0_1) else ((mainsheetref07_Likes.f a0_2 a0_3 a1).bind fun t194 => ((mainsheetref04_Next.f k t194 (-1)).bind fun bt195 => (if bt195.2 = true then (some bt195.1) else (some (-1)))))))
set_option maxHeartbeats 8000000 in
set_option maxRecDepth 100000 in
theorem mainsheetref13_Takes.calls (k : Nat) (a0_0 : Int) (a0_1 : Int) (a0_2 : Int) (a0_3 : Int) (a1 : Int) (r : Int) (w : World) (h : mainsheetref13_Takes.f k a0_0 a0_1 a0_2 a0_3 a1 = some r) :
  Calls Tryd.prog 80 #[.agg #[.int .i64 a0_0, .int .i64 a0_1, .int .u32 a0_2, .int .u32 a0_3], .int .u32 a1] w fun e w' => e = .returned (.int .i64 r) ∧ Below w.heap.size w w' := by
 have hu36 := Tryd.underlying36
 have hu34 := Tryd.underlying34
 have HB := Aside0.mk (Below.refl w.heap.size w)
 have H : ((mainsheetref07_Allows.f a0_2 a0_3 a1).bind fun t192 => ((mainsheetref04_Has.f t192 a0_1).bind fun t193 => (if t193 = true then (some a0_1) else ((mainsheetref07_Likes.f a0_2 a0_3 a1).bind fun t194 => ((mainsheetref04_Next.f k t194 (-1)).bind fun bt195 => (if bt195.2 = true then (some bt195.1) else (some (-1)))))))) = some r := h
 clear h
 replace H := Option.bind_eq_some_iff.mp H
 obtain ⟨t192, A30, H⟩ := H
 replace H : ((mainsheetref04_Has.f t192 a0_1).bind fun t193 => (if t193 = true then (some a0_1) else ((mainsheetref07_Likes.f a0_2 a0_3 a1).bind fun t194 => ((mainsheetref04_Next.f k t194 (-1)).bind fun bt195 => (if bt195.2 = true then (some bt195.1) else (some (-1))))))) = some r := H
 have A3 := Aside0.mk A30
 clear A30
 replace H := Option.bind_eq_some_iff.mp H
 obtain ⟨t193, A40, H⟩ := H
 replace H : (if t193 = true then (some a0_1) else ((mainsheetref07_Likes.f a0_2 a0_3 a1).bind fun t194 => ((mainsheetref04_Next.f k t194 (-1)).bind fun bt195 => (if bt195.2 = true then (some bt195.1) else (some (-1)))))) = some r := H
 have A4 := Aside0.mk A40
 clear A40
 by_cases c5 : t193 = true
 ·subst c5
  have H1 : (some a0_1) = some r := by rw [if_pos rfl] at H; exact H
  clear H
  have H := H1
  clear H1
  obtain rfl := Option.some.inj H
  go_enter Tryd.func80, Tryd.ntmps80
  try go_wp2_with (first | ((with_reducible refine gate_dst (N := 2) rfl ?_); refine box_event ?hg (N := 2) ?hd (cs := #[.int .i64 a0_0, .int .i64 a0_1, .int .u32 a0_2, .int .u32 a0_3]) (t := 36) ?hr ?_; (case hd => rfl); (case hg => rfl); (case hr => first | (go_simp; done) | (go_simp; rfl)); intro gb191 hg w6 hbox hb; have n0_ := Aside0.mk (below_step (by repeat (first | (with_reducible first | exact HB.out | apply below_alloc | apply pw_below_drewN | apply below_drew1) | exact HB.out)) hb); have n1_ := Aside0.mk (hbox); have n2_ := Aside0.mk ((by rw [hg]; exact (below_size (by repeat (first | (with_reducible first | exact HB.out | apply below_alloc | apply pw_below_drewN | apply below_drew1) | exact HB.out))) : w.heap.size ≤ gb191)); have n3_ := Aside0.mk ((by rw [hg]; exact (below_size (by repeat (first | (with_reducible first | exact HB.out | apply below_alloc | apply pw_below_drewN | apply below_drew1) | exact HB.out))) : w.heap.size ≤ gb191)); clear HB; have HB := n0_; have BK191 := n1_; have GW191 := n2_; have GE191 := n3_; clear n0_ n1_ n2_ n3_; clear hb hbox hg))
  have n0_ := Aside0.mk (blk_drew BK191.out)
  have n1_ := Aside0.mk (below_drew1 HB.out)
  clear BK191
  clear HB
  have BK191 := n0_
  have HB := n1_
  clear n0_ n1_
  refine start_ (n := 7) (S := fun w' => w'.cell? ⟨gb191, 0, none⟩ = some (.int .i64 a0_0) ∧ w'.cell? ⟨gb191, 1, none⟩ = some (.int .i64 a0_1) ∧ w'.cell? ⟨gb191, 2, none⟩ = some (.int .u32 a0_2) ∧ w'.cell? ⟨gb191, 3, none⟩ = some (.int .u32 a0_3)) (ds := []) #[false, false, false, false, false, false, false] (by kernel_rfl) rfl rfl ⟨(blk_cell BK191.out 0).trans rfl, (blk_cell BK191.out 1).trans rfl, (blk_cell BK191.out 2).trans rfl, (blk_cell BK191.out 3).trans rfl⟩ (fun hHeld => ?_)
  generalize w6.drew = w7 at BK191 HB hHeld ⊢
  refine pure_ (i := 0) (N := some 7) (v := ?_) (a' := ?_) #[true, false, false, false, false, false, false] rfl rfl (by kernel_rfl) (fun _ _ _ h => h) (Or.inl ⟨by rfl, ?_⟩) ?_ ?_
  rotate_left
  ·intro w'
   go_simp
   with_reducible rfl
  rotate_left
  ·simp only [Act.put, List.setIfInBounds_toArray, List.set_cons_zero, List.set_cons_succ, i64_w, i32_w]
   rfl
  refine pure_ (i := 2) (N := some 9) (v := ?_) (a' := ?_) #[true, false, true, false, false, false, false] rfl rfl (by kernel_rfl) (fun _ _ _ h => h) (Or.inl ⟨by rfl, ?_⟩) ?_ ?_
  rotate_left
  ·intro w'
   go_simp
   with_reducible rfl
  rotate_left
  ·simp only [Act.put, List.setIfInBounds_toArray, List.set_cons_zero, List.set_cons_succ, i64_w, i32_w]
   rfl
  refine pure_ (i := 4) (N := some 11) (v := ?_) (a' := ?_) #[true, false, true, false, true, false, false] rfl rfl (by kernel_rfl) (fun _ _ _ h => h) (Or.inl ⟨by rfl, ?_⟩) ?_ ?_
  rotate_left
  ·intro w'
   go_simp
   with_reducible rfl
  rotate_left
  ·simp only [Act.put, List.setIfInBounds_toArray, List.set_cons_zero, List.set_cons_succ, i64_w, i32_w]
   rfl
  refine take_ (i := 1) (N := some 8) (v := ?_) (a' := ?_) #[true, true, true, false, true, false, false] rfl rfl (by kernel_rfl) (fun _ _ _ h => h) (Or.inl ⟨by rfl, ?_⟩) hHeld ?_ ?_
  rotate_left
  ·rintro w' ⟨s0, s1, s2, s3⟩
   go_simp
   with_reducible rfl
  rotate_left
  ·simp only [Act.put, List.setIfInBounds_toArray, List.set_cons_zero, List.set_cons_succ, i64_w, i32_w]
   rfl
  refine take_ (i := 5) (N := some 12) (v := ?_) (a' := ?_) #[true, true, true, false, true, true, false] rfl rfl (by kernel_rfl) (fun _ _ _ h => h) (Or.inl ⟨by rfl, ?_⟩) hHeld ?_ ?_
  rotate_left
  ·rintro w' ⟨s0, s1, s2, s3⟩
   go_simp
   with_reducible rfl
  rotate_left
  ·simp only [Act.put, List.setIfInBounds_toArray, List.set_cons_zero, List.set_cons_succ, i64_w, i32_w]
   rfl
  refine one_ (i := 3) (N := some 10) #[true, true, true, true, true, true, false] rfl rfl (by kernel_rfl) (by decide) (fun K hK => ?_)
  refine goes_ Tryd.func77 (by kernel_rfl) rfl #[.agg #[.int .u32 a0_2, .int .u32 a0_3], .int .u32 a1] (by rfl) rfl rfl (by (try simp only [List.map_toArray, List.map_cons, List.map_nil]); first | done | rfl | (simp only [List.length_drop, List.length_take]; rfl)) ?_
  with_reducible refine (mainsheetref07_Allows.calls a0_2 a0_3 a1 t192 _ A3.out).mono ?_
  rintro e w8 ⟨rfl, hb⟩
  refine ⟨_, rfl, ?_⟩
  have n0_ := Aside0.mk (blk_below (g := gb191) (o := .cells #[.int .i64 a0_0, .int .i64 a0_1, .int .u32 a0_2, .int .u32 a0_3] 36 (0, 0)) (by (with_reducible repeat (first | refine blk_drewN ?_ _ | refine blk_drew ?_ | refine blk_alloc ?_ _)); exact BK191.out) hb)
  have n1_ := Aside0.mk (below_step (by repeat (first | (with_reducible first | exact HB.out | apply below_alloc | apply pw_below_drewN | apply below_drew1 | refine below_set ?_ GE191.out) | exact HB.out)) hb)
  clear BK191
  clear HB
  have BK191 := n0_
  have HB := n1_
  clear n0_ n1_
  (try clear hb)
  (try clear hb2)
  (try clear hk)
  (try clear hi)
  refine hK.out _ _ ⟨(blk_cell BK191.out 0).trans rfl, (blk_cell BK191.out 1).trans rfl, (blk_cell BK191.out 2).trans rfl, (blk_cell BK191.out 3).trans rfl⟩ (fun hHeld => ?_)
  clear hK K
  refine norm_ (a' := ?_) ?_ ?_
  rotate_left
  ·show Act.put _ (some 10) _ = _
   simp only [Act.put, List.setIfInBounds_toArray, List.set_cons_zero, List.set_cons_succ, i64_w, i32_w]
   rfl
  refine one_ (i := 6) (N := some 13) #[true, true, true, true, true, true, true] rfl rfl (by kernel_rfl) (by decide) (fun K hK => ?_)
  refine goes_ Tryd.func76 (by kernel_rfl) rfl #[.int .u32 t192, .int .i64 a0_1] (by rfl) rfl rfl (by (try simp only [List.map_toArray, List.map_cons, List.map_nil]); first | done | rfl | (simp only [List.length_drop, List.length_take]; rfl)) ?_
  with_reducible refine (mainsheetref04_Has.calls t192 a0_1 true _ A4.out).mono ?_
  rintro e w' ⟨rfl, ⟨nd, rfl⟩⟩
  refine ⟨_, rfl, ?_⟩
  refine hK.out _ _ ⟨(blk_cell BK191.out 0).trans rfl, (blk_cell BK191.out 1).trans rfl, (blk_cell BK191.out 2).trans rfl, (blk_cell BK191.out 3).trans rfl⟩ (fun hHeld => ?_)
  clear hK K
  refine norm_ (a' := ?_) ?_ ?_
  rotate_left
  ·show Act.put _ (some 13) _ = _
   simp only [Act.put, List.setIfInBounds_toArray, List.set_cons_zero, List.set_cons_succ, i64_w, i32_w]
   rfl
  refine done_ (by kernel_rfl) ?_
  have hcz9_0 : w8.cell? ⟨gb191, 0, none⟩ = some (.int .i64 a0_0) := (blk_cell BK191.out 0).trans rfl
  have hcz9_1 : w8.cell? ⟨gb191, 1, none⟩ = some (.int .i64 a0_1) := (blk_cell BK191.out 1).trans rfl
  have hcz9_2 : w8.cell? ⟨gb191, 2, none⟩ = some (.int .u32 a0_2) := (blk_cell BK191.out 2).trans rfl
  have hcz9_3 : w8.cell? ⟨gb191, 3, none⟩ = some (.int .u32 a0_3) := (blk_cell BK191.out 3).trans rfl
  have hfz9_0 := blk_frozen BK191.out 0
  have hfz9_1 := blk_frozen BK191.out 1
  have hfz9_2 := blk_frozen BK191.out 2
  have hfz9_3 := blk_frozen BK191.out 3
  try go_wp2
  go_ret
  exact ⟨by first | rfl | (simp [errW_none, errW_some] <;> rfl) | (simp [*, errW_none, errW_some] <;> rfl), by repeat (first | (with_reducible first | exact HB.out | apply below_alloc | apply pw_below_drewN | apply below_drew1 | refine below_set ?_ GE191.out) | exact HB.out)⟩
 ·replace c5 := Bool.eq_false_iff.mpr c5
  subst c5
  have H1 : ((mainsheetref07_Likes.f a0_2 a0_3 a1).bind fun t194 => ((mainsheetref04_Next.f k t194 (-1)).bind fun bt195 => (if bt195.2 = true then (some bt195.1) else (some (-1))))) = some r := by rw [if_neg (show ¬ (false = true) by decide)] at H; exact H
  clear H
  have H := H1
  clear H1
  replace H := Option.bind_eq_some_iff.mp H
  obtain ⟨t194, A100, H⟩ := H
  replace H : ((mainsheetref04_Next.f k t194 (-1)).bind fun bt195 => (if bt195.2 = true then (some bt195.1) else (some (-1)))) = some r := H
  have A10 := Aside0.mk A100
  clear A100
  replace H := Option.bind_eq_some_iff.mp H
  obtain ⟨⟨t195, t196⟩, A110, H⟩ := H
  replace H : (if t196 = true then (some t195) else (some (-1))) = some r := H
  have A11 := Aside0.mk A110
  clear A110
  by_cases c12 : t196 = true
  ·subst c12
   have H1 : (some t195) = some r := by rw [if_pos rfl] at H; exact H
   clear H
   have H := H1
   clear H1
   obtain rfl := Option.some.inj H
   go_enter Tryd.func80, Tryd.ntmps80
   try go_wp2_with (first | ((with_reducible refine gate_dst (N := 2) rfl ?_); refine box_event ?hg (N := 2) ?hd (cs := #[.int .i64 a0_0, .int .i64 a0_1, .int .u32 a0_2, .int .u32 a0_3]) (t := 36) ?hr ?_; (case hd => rfl); (case hg => rfl); (case hr => first | (go_simp; done) | (go_simp; rfl)); intro gb191 hg w13 hbox hb; have n0_ := Aside0.mk (below_step (by repeat (first | (with_reducible first | exact HB.out | apply below_alloc | apply pw_below_drewN | apply below_drew1) | exact HB.out)) hb); have n1_ := Aside0.mk (hbox); have n2_ := Aside0.mk ((by rw [hg]; exact (below_size (by repeat (first | (with_reducible first | exact HB.out | apply below_alloc | apply pw_below_drewN | apply below_drew1) | exact HB.out))) : w.heap.size ≤ gb191)); have n3_ := Aside0.mk ((by rw [hg]; exact (below_size (by repeat (first | (with_reducible first | exact HB.out | apply below_alloc | apply pw_below_drewN | apply below_drew1) | exact HB.out))) : w.heap.size ≤ gb191)); clear HB; have HB := n0_; have BK191 := n1_; have GW191 := n2_; have GE191 := n3_; clear n0_ n1_ n2_ n3_; clear hb hbox hg))
   have n0_ := Aside0.mk (blk_drew BK191.out)
   have n1_ := Aside0.mk (below_drew1 HB.out)
   clear BK191
   clear HB
   have BK191 := n0_
   have HB := n1_
   clear n0_ n1_
   refine start_ (n := 7) (S := fun w' => w'.cell? ⟨gb191, 0, none⟩ = some (.int .i64 a0_0) ∧ w'.cell? ⟨gb191, 1, none⟩ = some (.int .i64 a0_1) ∧ w'.cell? ⟨gb191, 2, none⟩ = some (.int .u32 a0_2) ∧ w'.cell? ⟨gb191, 3, none⟩ = some (.int .u32 a0_3)) (ds := []) #[false, false, false, false, false, false, false] (by kernel_rfl) rfl rfl ⟨(blk_cell BK191.out 0).trans rfl, (blk_cell BK191.out 1).trans rfl, (blk_cell BK191.out 2).trans rfl, (blk_cell BK191.out 3).trans rfl⟩ (fun hHeld => ?_)
   generalize w13.drew = w14 at BK191 HB hHeld ⊢
   refine pure_ (i := 0) (N := some 7) (v := ?_) (a' := ?_) #[true, false, false, false, false, false, false] rfl rfl (by kernel_rfl) (fun _ _ _ h => h) (Or.inl ⟨by rfl, ?_⟩) ?_ ?_
   rotate_left
   ·intro w'
    go_simp
    with_reducible rfl
   rotate_left
   ·simp only [Act.put, List.setIfInBounds_toArray, List.set_cons_zero, List.set_cons_succ, i64_w, i32_w]
    rfl
   refine pure_ (i := 2) (N := some 9) (v := ?_) (a' := ?_) #[true, false, true, false, false, false, false] rfl rfl (by kernel_rfl) (fun _ _ _ h => h) (Or.inl ⟨by rfl, ?_⟩) ?_ ?_
   rotate_left
   ·intro w'
    go_simp
    with_reducible rfl
   rotate_left
   ·simp only [Act.put, List.setIfInBounds_toArray, List.set_cons_zero, List.set_cons_succ, i64_w, i32_w]
    rfl
   refine pure_ (i := 4) (N := some 11) (v := ?_) (a' := ?_) #[true, false, true, false, true, false, false] rfl rfl (by kernel_rfl) (fun _ _ _ h => h) (Or.inl ⟨by rfl, ?_⟩) ?_ ?_
   rotate_left
   ·intro w'
    go_simp
    with_reducible rfl
   rotate_left
   ·simp only [Act.put, List.setIfInBounds_toArray, List.set_cons_zero, List.set_cons_succ, i64_w, i32_w]
    rfl
   refine take_ (i := 1) (N := some 8) (v := ?_) (a' := ?_) #[true, true, true, false, true, false, false] rfl rfl (by kernel_rfl) (fun _ _ _ h => h) (Or.inl ⟨by rfl, ?_⟩) hHeld ?_ ?_
   rotate_left
   ·rintro w' ⟨s0, s1, s2, s3⟩
    go_simp
    with_reducible rfl
   rotate_left
   ·simp only [Act.put, List.setIfInBounds_toArray, List.set_cons_zero, List.set_cons_succ, i64_w, i32_w]
    rfl
   refine take_ (i := 5) (N := some 12) (v := ?_) (a' := ?_) #[true, true, true, false, true, true, false] rfl rfl (by kernel_rfl) (fun _ _ _ h => h) (Or.inl ⟨by rfl, ?_⟩) hHeld ?_ ?_
   rotate_left
   ·rintro w' ⟨s0, s1, s2, s3⟩
    go_simp
    with_reducible rfl
   rotate_left
   ·simp only [Act.put, List.setIfInBounds_toArray, List.set_cons_zero, List.set_cons_succ, i64_w, i32_w]
    rfl
   refine one_ (i := 3) (N := some 10) #[true, true, true, true, true, true, false] rfl rfl (by kernel_rfl) (by decide) (fun K hK => ?_)
   refine goes_ Tryd.func77 (by kernel_rfl) rfl #[.agg #[.int .u32 a0_2, .int .u32 a0_3], .int .u32 a1] (by rfl) rfl rfl (by (try simp only [List.map_toArray, List.map_cons, List.map_nil]); first | done | rfl | (simp only [List.length_drop, List.length_take]; rfl)) ?_
   with_reducible refine (mainsheetref07_Allows.calls a0_2 a0_3 a1 t192 _ A3.out).mono ?_
   rintro e w15 ⟨rfl, hb⟩
   refine ⟨_, rfl, ?_⟩
   have n0_ := Aside0.mk (blk_below (g := gb191) (o := .cells #[.int .i64 a0_0, .int .i64 a0_1, .int .u32 a0_2, .int .u32 a0_3] 36 (0, 0)) (by (with_reducible repeat (first | refine blk_drewN ?_ _ | refine blk_drew ?_ | refine blk_alloc ?_ _)); exact BK191.out) hb)
   have n1_ := Aside0.mk (below_step (by repeat (first | (with_reducible first | exact HB.out | apply below_alloc | apply pw_below_drewN | apply below_drew1 | refine below_set ?_ GE191.out) | exact HB.out)) hb)
   clear BK191
   clear HB
   have BK191 := n0_
   have HB := n1_
   clear n0_ n1_
   (try clear hb)
   (try clear hb2)
   (try clear hk)
   (try clear hi)
   refine hK.out _ _ ⟨(blk_cell BK191.out 0).trans rfl, (blk_cell BK191.out 1).trans rfl, (blk_cell BK191.out 2).trans rfl, (blk_cell BK191.out 3).trans rfl⟩ (fun hHeld => ?_)
   clear hK K
   refine norm_ (a' := ?_) ?_ ?_
   rotate_left
   ·show Act.put _ (some 10) _ = _
    simp only [Act.put, List.setIfInBounds_toArray, List.set_cons_zero, List.set_cons_succ, i64_w, i32_w]
    rfl
   refine one_ (i := 6) (N := some 13) #[true, true, true, true, true, true, true] rfl rfl (by kernel_rfl) (by decide) (fun K hK => ?_)
   refine goes_ Tryd.func76 (by kernel_rfl) rfl #[.int .u32 t192, .int .i64 a0_1] (by rfl) rfl rfl (by (try simp only [List.map_toArray, List.map_cons, List.map_nil]); first | done | rfl | (simp only [List.length_drop, List.length_take]; rfl)) ?_
   with_reducible refine (mainsheetref04_Has.calls t192 a0_1 false _ A4.out).mono ?_
   rintro e w' ⟨rfl, ⟨nd, rfl⟩⟩
   refine ⟨_, rfl, ?_⟩
   refine hK.out _ _ ⟨(blk_cell BK191.out 0).trans rfl, (blk_cell BK191.out 1).trans rfl, (blk_cell BK191.out 2).trans rfl, (blk_cell BK191.out 3).trans rfl⟩ (fun hHeld => ?_)
   clear hK K
   refine norm_ (a' := ?_) ?_ ?_
   rotate_left
   ·show Act.put _ (some 13) _ = _
    simp only [Act.put, List.setIfInBounds_toArray, List.set_cons_zero, List.set_cons_succ, i64_w, i32_w]
    rfl
   refine done_ (by kernel_rfl) ?_
   have hcz16_0 : w15.cell? ⟨gb191, 0, none⟩ = some (.int .i64 a0_0) := (blk_cell BK191.out 0).trans rfl
   have hcz16_1 : w15.cell? ⟨gb191, 1, none⟩ = some (.int .i64 a0_1) := (blk_cell BK191.out 1).trans rfl
   have hcz16_2 : w15.cell? ⟨gb191, 2, none⟩ = some (.int .u32 a0_2) := (blk_cell BK191.out 2).trans rfl
   have hcz16_3 : w15.cell? ⟨gb191, 3, none⟩ = some (.int .u32 a0_3) := (blk_cell BK191.out 3).trans rfl
   have hfz16_0 := blk_frozen BK191.out 0
   have hfz16_1 := blk_frozen BK191.out 1
   have hfz16_2 := blk_frozen BK191.out 2
   have hfz16_3 := blk_frozen BK191.out 3
   try go_wp2_with (first | ((with_reducible refine gate_callee (f := 87) rfl ?_); refine goesL_ (some 20) rfl rfl Tryd.func87 (by kernel_rfl) rfl #[.agg #[.int .u32 a0_2, .int .u32 a0_3], .int .u32 a1] rfl (by (try simp only [List.map_toArray, List.map_cons, List.map_nil]); first | done | rfl | (simp only [List.length_drop, List.length_take]; rfl)) ?_; (with_reducible refine (mainsheetref07_Likes.calls a0_2 a0_3 a1 t194 _ A10.out).mono ?_); rintro e w17 ⟨rfl, hb⟩; refine ⟨_, rfl, ?_⟩; have n0_ := Aside0.mk (blk_below (g := gb191) (o := .cells #[.int .i64 a0_0, .int .i64 a0_1, .int .u32 a0_2, .int .u32 a0_3] 36 (0, 0)) (by (with_reducible repeat (first | refine blk_drewN ?_ _ | refine blk_drew ?_ | refine blk_alloc ?_ _)); exact BK191.out) hb); have n1_ := Aside0.mk (below_step (by repeat (first | (with_reducible first | exact HB.out | apply below_alloc | apply pw_below_drewN | apply below_drew1 | refine below_set ?_ GE191.out) | exact HB.out)) hb); clear BK191; clear HB; have BK191 := n0_; have HB := n1_; clear n0_ n1_; (try clear hb); (try clear hb2); (try clear hk); (try clear hi)) | ((with_reducible refine gate_callee (f := 100) rfl ?_); refine goesL_ (some 21) rfl rfl Tryd.func100 (by kernel_rfl) rfl #[.int .u32 t194, .int .i64 (-1)] rfl (by (try simp only [List.map_toArray, List.map_cons, List.map_nil]); first | done | rfl | (simp only [List.length_drop, List.length_take]; rfl)) ?_; (with_reducible refine (mainsheetref04_Next.calls k t194 (-1) t195 true _ A11.out).mono ?_); rintro e w18 ⟨rfl, hb⟩; refine ⟨_, rfl, ?_⟩; have n0_ := Aside0.mk (blk_below (g := gb191) (o := .cells #[.int .i64 a0_0, .int .i64 a0_1, .int .u32 a0_2, .int .u32 a0_3] 36 (0, 0)) (by (with_reducible repeat (first | refine blk_drewN ?_ _ | refine blk_drew ?_ | refine blk_alloc ?_ _)); exact BK191.out) hb); have n1_ := Aside0.mk (below_step (by repeat (first | (with_reducible first | exact HB.out | apply below_alloc | apply pw_below_drewN | apply below_drew1 | refine below_set ?_ GE191.out) | exact HB.out)) hb); clear BK191; clear HB; have BK191 := n0_; have HB := n1_; clear n0_ n1_; (try clear hb); (try clear hb2); (try clear hk); (try clear hi)))
   go_ret
   exact ⟨by first | rfl | (simp [errW_none, errW_some] <;> rfl) | (simp [*, errW_none, errW_some] <;> rfl), by repeat (first | (with_reducible first | exact HB.out | apply below_alloc | apply pw_below_drewN | apply below_drew1 | refine below_set ?_ GE191.out) | exact HB.out)⟩
  ·replace c12 := Bool.eq_false_iff.mpr c12
   subst c12
   have H1 : (some (-1)) = some r := by rw [if_neg (show ¬ (false = true) by decide)] at H; exact H
   clear H
   have H := H1
   clear H1
   obtain rfl := Option.some.inj H
   go_enter Tryd.func80, Tryd.ntmps80
   try go_wp2_with (first | ((with_reducible refine gate_dst (N := 2) rfl ?_); refine box_event ?hg (N := 2) ?hd (cs := #[.int .i64 a0_0, .int .i64 a0_1, .int .u32 a0_2, .int .u32 a0_3]) (t := 36) ?hr ?_; (case hd => rfl); (case hg => rfl); (case hr => first | (go_simp; done) | (go_simp; rfl)); intro gb191 hg w19 hbox hb; have n0_ := Aside0.mk (below_step (by repeat (first | (with_reducible first | exact HB.out | apply below_alloc | apply pw_below_drewN | apply below_drew1) | exact HB.out)) hb); have n1_ := Aside0.mk (hbox); have n2_ := Aside0.mk ((by rw [hg]; exact (below_size (by repeat (first | (with_reducible first | exact HB.out | apply below_alloc | apply pw_below_drewN | apply below_drew1) | exact HB.out))) : w.heap.size ≤ gb191)); have n3_ := Aside0.mk ((by rw [hg]; exact (below_size (by repeat (first | (with_reducible first | exact HB.out | apply below_alloc | apply pw_below_drewN | apply below_drew1) | exact HB.out))) : w.heap.size ≤ gb191)); clear HB; have HB := n0_; have BK191 := n1_; have GW191 := n2_; have GE191 := n3_; clear n0_ n1_ n2_ n3_; clear hb hbox hg))
   have n0_ := Aside0.mk (blk_drew BK191.out)
   have n1_ := Aside0.mk (below_drew1 HB.out)
   clear BK191
   clear HB
   have BK191 := n0_
   have HB := n1_
   clear n0_ n1_
   refine start_ (n := 7) (S := fun w' => w'.cell? ⟨gb191, 0, none⟩ = some (.int .i64 a0_0) ∧ w'.cell? ⟨gb191, 1, none⟩ = some (.int .i64 a0_1) ∧ w'.cell? ⟨gb191, 2, none⟩ = some (.int .u32 a0_2) ∧ w'.cell? ⟨gb191, 3, none⟩ = some (.int .u32 a0_3)) (ds := []) #[false, false, false, false, false, false, false] (by kernel_rfl) rfl rfl ⟨(blk_cell BK191.out 0).trans rfl, (blk_cell BK191.out 1).trans rfl, (blk_cell BK191.out 2).trans rfl, (blk_cell BK191.out 3).trans rfl⟩ (fun hHeld => ?_)
   generalize w19.drew = w20 at BK191 HB hHeld ⊢
   refine pure_ (i := 0) (N := some 7) (v := ?_) (a' := ?_) #[true, false, false, false, false, false, false] rfl rfl (by kernel_rfl) (fun _ _ _ h => h) (Or.inl ⟨by rfl, ?_⟩) ?_ ?_
   rotate_left
   ·intro w'
    go_simp
    with_reducible rfl
   rotate_left
   ·simp only [Act.put, List.setIfInBounds_toArray, List.set_cons_zero, List.set_cons_succ, i64_w, i32_w]
    rfl
   refine pure_ (i := 2) (N := some 9) (v := ?_) (a' := ?_) #[true, false, true, false, false, false, false] rfl rfl (by kernel_rfl) (fun _ _ _ h => h) (Or.inl ⟨by rfl, ?_⟩) ?_ ?_
   rotate_left
   ·intro w'
    go_simp
    with_reducible rfl
   rotate_left
   ·simp only [Act.put, List.setIfInBounds_toArray, List.set_cons_zero, List.set_cons_succ, i64_w, i32_w]
    rfl
   refine pure_ (i := 4) (N := some 11) (v := ?_) (a' := ?_) #[true, false, true, false, true, false, false] rfl rfl (by kernel_rfl) (fun _ _ _ h => h) (Or.inl ⟨by rfl, ?_⟩) ?_ ?_
   rotate_left
   ·intro w'
    go_simp
    with_reducible rfl
   rotate_left
   ·simp only [Act.put, List.setIfInBounds_toArray, List.set_cons_zero, List.set_cons_succ, i64_w, i32_w]
    rfl
   refine take_ (i := 1) (N := some 8) (v := ?_) (a' := ?_) #[true, true, true, false, true, false, false] rfl rfl (by kernel_rfl) (fun _ _ _ h => h) (Or.inl ⟨by rfl, ?_⟩) hHeld ?_ ?_
   rotate_left
   ·rintro w' ⟨s0, s1, s2, s3⟩
    go_simp
    with_reducible rfl
   rotate_left
   ·simp only [Act.put, List.setIfInBounds_toArray, List.set_cons_zero, List.set_cons_succ, i64_w, i32_w]
    rfl
   refine take_ (i := 5) (N := some 12) (v := ?_) (a' := ?_) #[true, true, true, false, true, true, false] rfl rfl (by kernel_rfl) (fun _ _ _ h => h) (Or.inl ⟨by rfl, ?_⟩) hHeld ?_ ?_
   rotate_left
   ·rintro w' ⟨s0, s1, s2, s3⟩
    go_simp
    with_reducible rfl
   rotate_left
   ·simp only [Act.put, List.setIfInBounds_toArray, List.set_cons_zero, List.set_cons_succ, i64_w, i32_w]
    rfl
   refine one_ (i := 3) (N := some 10) #[true, true, true, true, true, true, false] rfl rfl (by kernel_rfl) (by decide) (fun K hK => ?_)
   refine goes_ Tryd.func77 (by kernel_rfl) rfl #[.agg #[.int .u32 a0_2, .int .u32 a0_3], .int .u32 a1] (by rfl) rfl rfl (by (try simp only [List.map_toArray, List.map_cons, List.map_nil]); first | done | rfl | (simp only [List.length_drop, List.length_take]; rfl)) ?_
   with_reducible refine (mainsheetref07_Allows.calls a0_2 a0_3 a1 t192 _ A3.out).mono ?_
   rintro e w21 ⟨rfl, hb⟩
   refine ⟨_, rfl, ?_⟩
   have n0_ := Aside0.mk (blk_below (g := gb191) (o := .cells #[.int .i64 a0_0, .int .i64 a0_1, .int .u32 a0_2, .int .u32 a0_3] 36 (0, 0)) (by (with_reducible repeat (first | refine blk_drewN ?_ _ | refine blk_drew ?_ | refine blk_alloc ?_ _)); exact BK191.out) hb)
   have n1_ := Aside0.mk (below_step (by repeat (first | (with_reducible first | exact HB.out | apply below_alloc | apply pw_below_drewN | apply below_drew1 | refine below_set ?_ GE191.out) | exact HB.out)) hb)
   clear BK191
   clear HB
   have BK191 := n0_
   have HB := n1_
   clear n0_ n1_
   (try clear hb)
   (try clear hb2)
   (try clear hk)
   (try clear hi)
   refine hK.out _ _ ⟨(blk_cell BK191.out 0).trans rfl, (blk_cell BK191.out 1).trans rfl, (blk_cell BK191.out 2).trans rfl, (blk_cell BK191.out 3).trans rfl⟩ (fun hHeld => ?_)
   clear hK K
   refine norm_ (a' := ?_) ?_ ?_
   rotate_left
   ·show Act.put _ (some 10) _ = _
    simp only [Act.put, List.setIfInBounds_toArray, List.set_cons_zero, List.set_cons_succ, i64_w, i32_w]
    rfl
   refine one_ (i := 6) (N := some 13) #[true, true, true, true, true, true, true] rfl rfl (by kernel_rfl) (by decide) (fun K hK => ?_)
   refine goes_ Tryd.func76 (by kernel_rfl) rfl #[.int .u32 t192, .int .i64 a0_1] (by rfl) rfl rfl (by (try simp only [List.map_toArray, List.map_cons, List.map_nil]); first | done | rfl | (simp only [List.length_drop, List.length_take]; rfl)) ?_
   with_reducible refine (mainsheetref04_Has.calls t192 a0_1 false _ A4.out).mono ?_
   rintro e w' ⟨rfl, ⟨nd, rfl⟩⟩
   refine ⟨_, rfl, ?_⟩
   refine hK.out _ _ ⟨(blk_cell BK191.out 0).trans rfl, (blk_cell BK191.out 1).trans rfl, (blk_cell BK191.out 2).trans rfl, (blk_cell BK191.out 3).trans rfl⟩ (fun hHeld => ?_)
   clear hK K
   refine norm_ (a' := ?_) ?_ ?_
   rotate_left
   ·show Act.put _ (some 13) _ = _
    simp only [Act.put, List.setIfInBounds_toArray, List.set_cons_zero, List.set_cons_succ, i64_w, i32_w]
    rfl
   refine done_ (by kernel_rfl) ?_
   have hcz22_0 : w21.cell? ⟨gb191, 0, none⟩ = some (.int .i64 a0_0) := (blk_cell BK191.out 0).trans rfl
   have hcz22_1 : w21.cell? ⟨gb191, 1, none⟩ = some (.int .i64 a0_1) := (blk_cell BK191.out 1).trans rfl
   have hcz22_2 : w21.cell? ⟨gb191, 2, none⟩ = some (.int .u32 a0_2) := (blk_cell BK191.out 2).trans rfl
   have hcz22_3 : w21.cell? ⟨gb191, 3, none⟩ = some (.int .u32 a0_3) := (blk_cell BK191.out 3).trans rfl
   have hfz22_0 := blk_frozen BK191.out 0
   have hfz22_1 := blk_frozen BK191.out 1
   have hfz22_2 := blk_frozen BK191.out 2
   have hfz22_3 := blk_frozen BK191.out 3
   try go_wp2_with (first | ((with_reducible refine gate_callee (f := 87) rfl ?_); refine goesL_ (some 20) rfl rfl Tryd.func87 (by kernel_rfl) rfl #[.agg #[.int .u32 a0_2, .int .u32 a0_3], .int .u32 a1] rfl (by (try simp only [List.map_toArray, List.map_cons, List.map_nil]); first | done | rfl | (simp only [List.length_drop, List.length_take]; rfl)) ?_; (with_reducible refine (mainsheetref07_Likes.calls a0_2 a0_3 a1 t194 _ A10.out).mono ?_); rintro e w23 ⟨rfl, hb⟩; refine ⟨_, rfl, ?_⟩; have n0_ := Aside0.mk (blk_below (g := gb191) (o := .cells #[.int .i64 a0_0, .int .i64 a0_1, .int .u32 a0_2, .int .u32 a0_3] 36 (0, 0)) (by (with_reducible repeat (first | refine blk_drewN ?_ _ | refine blk_drew ?_ | refine blk_alloc ?_ _)); exact BK191.out) hb); have n1_ := Aside0.mk (below_step (by repeat (first | (with_reducible first | exact HB.out | apply below_alloc | apply pw_below_drewN | apply below_drew1 | refine below_set ?_ GE191.out) | exact HB.out)) hb); clear BK191; clear HB; have BK191 := n0_; have HB := n1_; clear n0_ n1_; (try clear hb); (try clear hb2); (try clear hk); (try clear hi)) | ((with_reducible refine gate_callee (f := 100) rfl ?_); refine goesL_ (some 21) rfl rfl Tryd.func100 (by kernel_rfl) rfl #[.int .u32 t194, .int .i64 (-1)] rfl (by (try simp only [List.map_toArray, List.map_cons, List.map_nil]); first | done | rfl | (simp only [List.length_drop, List.length_take]; rfl)) ?_; (with_reducible refine (mainsheetref04_Next.calls k t194 (-1) t195 false _ A11.out).mono ?_); rintro e w24 ⟨rfl, hb⟩; refine ⟨_, rfl, ?_⟩; have n0_ := Aside0.mk (blk_below (g := gb191) (o := .cells #[.int .i64 a0_0, .int .i64 a0_1, .int .u32 a0_2, .int .u32 a0_3] 36 (0, 0)) (by (with_reducible repeat (first | refine blk_drewN ?_ _ | refine blk_drew ?_ | refine blk_alloc ?_ _)); exact BK191.out) hb); have n1_ := Aside0.mk (below_step (by repeat (first | (with_reducible first | exact HB.out | apply below_alloc | apply pw_below_drewN | apply below_drew1 | refine below_set ?_ GE191.out) | exact HB.out)) hb); clear BK191; clear HB; have BK191 := n0_; have HB := n1_; clear n0_ n1_; (try clear hb); (try clear hb2); (try clear hk); (try clear hi)))
   go_ret
   exact ⟨by first | rfl | (simp [errW_none, errW_some] <;> rfl) | (simp [*, errW_none, errW_some] <;> rfl), by repeat (first | (with_reducible first | exact HB.out | apply below_alloc | apply pw_below_drewN | apply below_drew1 | refine below_set ?_ GE191.out) | exact HB.out)⟩


def mainsheetref13_SamePuts.l0 : Nat → List (S31) → List (S31) → Int → Option (Bool)
 | 0, _, _, _ => none
 | k + 1, x0, x1, x5 => if x5 < (x0.length : Int) then (if 0 ≤ x5 then (if x5 < (x1.length : Int) then (if (!(((rd_T31 x0 x5).f0) == ((rd_T31 x1 x5).f0)) || (!(((rd_T31 x0 x5).f1) == ((rd_T31 x1 x5).f1)))) = true then (some false) else (mainsheetref13_SamePuts.l0 k x0 x1 (wrap64 (x5 + 1)))) else (none)) else (none)) else (some true)
def mainsheetref13_SamePuts.f (k : Nat) (l0 : List (S31)) (l1 : List (S31)) : Option (Bool) := if (l0.length : Int) = (l1.length : Int) then (mainsheetref13_SamePuts.l0 k l0 l1 0) else (some false)
set_option maxHeartbeats 8000000 in
set_option maxRecDepth 100000 in
theorem mainsheetref13_SamePuts.calls (k : Nat) (A0 : Option Addr) (c0 : Nat) (l0 : List (S31)) (A1 : Option Addr) (c1 : Nat) (l1 : List (S31)) (r : Bool) (w : World) (hr0 : Kd.C k31 w A0 l0.length l0) (hc0 : l0.length ≤ c0) (hr1 : Kd.C k31 w A1 l1.length l1) (hc1 : l1.length ≤ c1) (h : mainsheetref13_SamePuts.f k l0 l1 = some r) :
  Calls Tryd.prog 41 #[.slice A0 l0.length c0, .slice A1 l1.length c1] w fun e w' => e = .returned (.bool r) ∧ Drawn0 w w' := by
 have hu31 := Tryd.underlying31
 have HR0 := Aside0.mk hr0
 have HC0 := Aside0.mk hc0
 clear hr0 hc0
 have HR1 := Aside0.mk hr1
 have HC1 := Aside0.mk hc1
 clear hr1 hc1
 have H : (if (l0.length : Int) = (l1.length : Int) then (mainsheetref13_SamePuts.l0 k l0 l1 0) else (some false)) = some r := h
 clear h
 by_cases c3 : (l0.length : Int) = (l1.length : Int)
 ·rw [if_pos c3] at H
  have c3b0 : ((l0.length : Int) == (l1.length : Int)) = true := beq_iff_eq.mpr c3
  have c3b1 : ((l0.length : Int) != (l1.length : Int)) = false := bne_eq_false_iff_eq.mpr c3
  have c3b2 : (l0.length == l1.length) = true := by first | simpa using c3 | (simp at c3 ⊢; omega)
  clear c3
  have H' := Aside0.mk H
  clear H
  go_enter Tryd.func41, Tryd.ntmps41
  go_wp2
  repeat (go_quiet (fail); try go_wp2)
  go_loopg [5] k (fun kq v5 w' => ∃ (x5_1 : Int), v5 = .int .i64 x5_1 ∧ Aside0 (mainsheetref13_SamePuts.l0 kq l0 l1 x5_1 = some r) ∧ Aside0 (kq ≤ k) ∧ Drawn0 w w')
  case atStart => exact ⟨(0), (by first | rfl | (simp; done) | (simp [*]; done)), H', ⟨Nat.le_refl _⟩, by repeat (first | exact Drawn0.refl _ | apply Drawn0.step)⟩
  case round =>
   clear H'
   try clear c1
   try clear p2
   try clear c3
   try clear c3b0
   try clear c3b1
   try clear c3b2
   obtain ⟨x5_1, rfl, HA, HK1, ⟨m1, rfl⟩⟩ := hrel
   cases gk with
   | zero => exact absurd HA.out (by simp [mainsheetref13_SamePuts.l0])
   | succ k1 =>
    have H := HA.out
    clear HA
    simp only [mainsheetref13_SamePuts.l0] at H
    by_cases c4 : x5_1 < (l0.length : Int)
    ·rw [if_pos c4] at H
     have c4b0 : decide (x5_1 < (l0.length : Int)) = true := decide_eq_true c4
     clear c4
     by_cases c5 : 0 ≤ x5_1
     ·rw [if_pos c5] at H
      have c5b0 : decide (0 ≤ x5_1) = true := decide_eq_true c5
      clear c5
      by_cases c6 : x5_1 < (l1.length : Int)
      ·rw [if_pos c6] at H
       have c6b0 : decide (x5_1 < (l1.length : Int)) = true := decide_eq_true c6
       clear c6
       by_cases c7 : (!(((rd_T31 l0 x5_1).f0) == ((rd_T31 l1 x5_1).f0)) || (!(((rd_T31 l0 x5_1).f1) == ((rd_T31 l1 x5_1).f1)))) = true
       ·rw [if_pos c7] at H
        have c7b0 : (!(((rd_T31 l0 x5_1).f0) == ((rd_T31 l1 x5_1).f0)) || (!(((rd_T31 l0 x5_1).f1) == ((rd_T31 l1 x5_1).f1)))) = true := c7
        clear c7
        obtain rfl := Option.some.inj H
        have p208 : 0 ≤ (x5_1 : Int) := of_decide_eq_true (by first | (with_reducible assumption) | assumption)
        have q208 : x5_1 < (l0.length : Int) := of_decide_eq_true (by first | (with_reducible assumption) | assumption)
        obtain ⟨ad208, e208, hx208_0, hx208_1⟩ := at_T31 HR0.out x5_1 p208 q208
        cases e208
        replace p208 := eq_true p208
        replace q208 := eq_true q208
        have p209 : 0 ≤ (x5_1 : Int) := of_decide_eq_true (by first | (with_reducible assumption) | assumption)
        have q209 : x5_1 < (l1.length : Int) := of_decide_eq_true (by first | (with_reducible assumption) | assumption)
        obtain ⟨ad209, e209, hx209_0, hx209_1⟩ := at_T31 HR1.out x5_1 p209 q209
        cases e209
        replace p209 := eq_true p209
        replace q209 := eq_true q209
        go_wp2
        repeat (go_quiet (fail); try go_wp2)
        go_ret
        exact ⟨by first | rfl | (simp; done) | (simp [*]; done), by repeat (first | exact Drawn0.refl _ | apply Drawn0.step)⟩
       ·rw [if_neg c7] at H
        have c7b0 : (!(((rd_T31 l0 x5_1).f0) == ((rd_T31 l1 x5_1).f0)) || (!(((rd_T31 l0 x5_1).f1) == ((rd_T31 l1 x5_1).f1)))) = false := by simpa using c7
        clear c7
        have H' := Aside0.mk H
        clear H
        have p208 : 0 ≤ (x5_1 : Int) := of_decide_eq_true (by first | (with_reducible assumption) | assumption)
        have q208 : x5_1 < (l0.length : Int) := of_decide_eq_true (by first | (with_reducible assumption) | assumption)
        obtain ⟨ad208, e208, hx208_0, hx208_1⟩ := at_T31 HR0.out x5_1 p208 q208
        cases e208
        replace p208 := eq_true p208
        replace q208 := eq_true q208
        have p209 : 0 ≤ (x5_1 : Int) := of_decide_eq_true (by first | (with_reducible assumption) | assumption)
        have q209 : x5_1 < (l1.length : Int) := of_decide_eq_true (by first | (with_reducible assumption) | assumption)
        obtain ⟨ad209, e209, hx209_0, hx209_1⟩ := at_T31 HR1.out x5_1 p209 q209
        cases e209
        replace p209 := eq_true p209
        replace q209 := eq_true q209
        go_wp2
        repeat (go_quiet (fail); try go_wp2)
        go_roundg k1
        case measure => have := HK1.out; omega
        case rel => exact ⟨(wrap64 (x5_1 + 1)), (by first | rfl | (simp; done) | (simp [*]; done)), H', ⟨by have := HK1.out; omega⟩, by repeat (first | exact Drawn0.refl _ | apply Drawn0.step)⟩
      ·rw [if_neg c6] at H
       exact absurd H (by simp)
     ·rw [if_neg c5] at H
      exact absurd H (by simp)
    ·rw [if_neg c4] at H
     have c4b0 : decide (x5_1 < (l0.length : Int)) = false := decide_eq_false c4
     clear c4
     obtain rfl := Option.some.inj H
     go_wp2
     repeat (go_quiet (fail); try go_wp2)
     go_ret
     exact ⟨by first | rfl | (simp; done) | (simp [*]; done), by repeat (first | exact Drawn0.refl _ | apply Drawn0.step)⟩
 ·rw [if_neg c3] at H
  have c3b0 : ((l0.length : Int) == (l1.length : Int)) = false := beq_eq_false_iff_ne.mpr c3
  have c3b1 : ((l0.length : Int) != (l1.length : Int)) = true := bne_iff_ne.mpr c3
  have c3b2 : (l0.length == l1.length) = false := by first | simpa using c3 | (simp at c3 ⊢; omega)
  obtain rfl := Option.some.inj H
  go_enter Tryd.func41, Tryd.ntmps41
  go_wp2
  repeat (go_quiet (fail); try go_wp2)
  go_ret
  exact ⟨by first | rfl | (simp; done) | (simp [*]; done), by repeat (first | exact Drawn0.refl _ | apply Drawn0.step)⟩

end Go.Proofs.YtdmieaidheelbaaDoor.Q
end
/- Ref13 -/
section
/- What the document's functions of layers 4 and 7 answer: plain Lean. -/
namespace Go.Proofs.YtdmieaidheelbaaDoor.Q
open Go Go.RowKit Go.Proofs.YtdmieaidheelbaaDoorW.PrintWords Go.Proofs.YtdmieaidheelbaaDoorW.PrintLast Go.Proofs.YtdmieaidheelbaaDoorW.PrintMore
set_option linter.unusedVariables false
set_option linter.unusedSimpArgs false

theorem RRight_val (s : Int) : mainsheetref04_Right.f s = some (decide (s < 256)) := rfl
theorem MRight_val (h s : Nat) : mainsheetref07_Right.f (h : Int) (s : Int) = some (maskOk h s) := by
  have e1 : decide ((h : Int) < 256) = decide (h < 256) := decide_eq_decide.2 (by omega)
  have e2 : decide ((s : Int) < 256) = decide (s < 256) := decide_eq_decide.2 (by omega)
  have e3 : decide ((h : Int) > 0) = decide (h ≠ 0) := decide_eq_decide.2 (by omega)
  unfold mainsheetref07_Right.f maskOk
  rw [RRight_val, RRight_val, e1, e2, e3]
  simp only [Option.bind_some]
  cases decide (h < 256) <;> cases decide (s < 256) <;> rfl
theorem MAllows_val (h s p : Nat) (hh : h < 4294967296) (hp : p < 4294967296) : mainsheetref07_Allows.f (h : Int) (s : Int) (p : Int) = some ((h &&& p : Nat) : Int) := by
  unfold mainsheetref07_Allows.f; rw [and_nat h p hh hp]
theorem MLikes_val (h s p : Nat) (hh : h < 4294967296) (hs : s < 4294967296) (hp : p < 4294967296) : mainsheetref07_Likes.f (h : Int) (s : Int) (p : Int) = some (if h &&& p &&& s = 0 then ((h &&& p : Nat) : Int) else ((h &&& p &&& s : Nat) : Int)) := by
  have h1 : h &&& p < 4294967296 := Nat.lt_of_le_of_lt Nat.and_le_left hh
  unfold mainsheetref07_Likes.f
  rw [and_nat h p hh hp, and_nat _ s h1 hs]
  by_cases hc : h &&& p &&& s = 0
  · rw [if_neg (by omega), if_pos hc]
  · rw [if_pos (by omega), if_neg hc]
theorem RHas_val (s : Nat) (hs : s < 4294967296) (c : Int) : mainsheetref04_Has.f (s : Int) c = some (hasN s c) := by
  unfold mainsheetref04_Has.f mainsheetref04_Cpu.f hasN
  by_cases h0 : c ≥ 0
  · rw [if_pos h0]; simp only [Option.bind_some]
    by_cases h8 : c < 8
    · obtain ⟨n, rfl⟩ : ∃ n : Nat, c = n := ⟨c.toNat, by omega⟩
      have hn : n < 8 := by omega
      rw [if_pos (by simpa using h8), if_pos h0]
      have e : shr .u32 (s : Int) (n : Int) = ((s / 2 ^ n : Nat) : Int) := by
        unfold shr
        rw [Nat.min_eq_left (by show n ≤ 32; omega), Int.toNat_natCast]
        rw [Int.natCast_ediv]; simp
      rw [e, Int.toNat_natCast]
      have e2 : (((s / 2 ^ n : Nat) : Int)).tmod 2 = ((s / 2 ^ n % 2 : Nat) : Int) := by
        rw [Int.tmod_eq_emod_of_nonneg (Int.natCast_nonneg _)]; omega
      rw [e2]
      have e3 : s.testBit n = decide (s / 2 ^ n % 2 = 1) := by rw [Nat.testBit_eq_decide_div_mod_eq]
      rw [e3]
      have h3 : (n : Int) < 8 := h8
      by_cases hb : s / 2 ^ n % 2 = 1
      · simp [hb, h3]
      · have : s / 2 ^ n % 2 = 0 := by omega
        simp [this]
    · rw [if_neg (by simpa using h8)]; simp [h8]
  · rw [if_neg h0]; simp only [Option.bind_some]
    rw [if_neg (by simp)]; have : ¬ (0 ≤ c) := by omega
    simp [this]

def listFrom (s i : Nat) : List Int := (((List.range 8).drop i).filter fun c => s.testBit c).map fun (c : Nat) => (c : Int)
theorem listFrom_step (s i : Nat) (hi : i < 8) : listFrom s i = (if s.testBit i then [(i : Int)] else []) ++ listFrom s (i + 1) := by
  unfold listFrom
  rw [List.drop_eq_getElem_cons (by simpa using hi)]
  simp only [List.getElem_range, List.filter_cons]
  split <;> simp
theorem rlist_loop (s : Nat) (hs : s < 4294967296) (d : Nat) : ∀ (k i : Nat) (out : List Int), i ≤ 8 → 8 - i = d → d < k → out.length ≤ i → mainsheetref04_List.l0 k (s : Int) out (i : Int) = some (out ++ listFrom s i) := by
  induction d with
  | zero =>
    intro k i out hi hd hk ho
    obtain ⟨k, rfl⟩ : ∃ m, k = m + 1 := ⟨k - 1, by omega⟩
    obtain rfl : i = 8 := by omega
    simp only [mainsheetref04_List.l0]; rw [if_neg (by omega)]
    have : listFrom s 8 = [] := by unfold listFrom; rw [show (List.range 8).drop 8 = [] from rfl]; rfl
    rw [this, List.append_nil]
  | succ d ih =>
    intro k i out hi hd hk ho
    obtain ⟨k, rfl⟩ : ∃ m, k = m + 1 := ⟨k - 1, by omega⟩
    simp only [mainsheetref04_List.l0]
    rw [if_pos (by omega), RHas_val s hs]
    simp only [Option.bind_some]
    have hb : hasN s (i : Int) = s.testBit i := by
      unfold hasN
      have : (i : Int) < 8 := by omega
      simp [this]
    rw [hb, wrap_small _ (by omega) (by omega), show (i : Int) + 1 = ((i + 1 : Nat) : Int) by omega, listFrom_step s i (by omega)]
    cases s.testBit i with
    | true =>
      rw [if_pos rfl, if_pos (by omega), ih k (i + 1) _ (by omega) (by omega) (by omega) (by simp; omega)]
      simp
    | false =>
      rw [if_neg (by simp), ih k (i + 1) _ (by omega) (by omega) (by omega) (by omega)]
      simp
theorem RList_val (s : Nat) (hs : s < 4294967296) (k : Nat) (hk : 9 ≤ k) : mainsheetref04_List.f k (s : Int) = some (listOf (s : Int)) := by
  unfold mainsheetref04_List.f
  have := rlist_loop s hs 8 k 0 [] (by omega) (by omega) (by omega) (by simp)
  rw [show (0 : Int) = ((0 : Nat) : Int) from rfl, this]
  simp [listFrom, listOf]
theorem rnext_loop (l : List Int) (a : Int) (hl : l.length ≤ 1000) (d : Nat) : ∀ (k i : Nat), i ≤ l.length → l.length - i = d → d < k →
    mainsheetref04_Next.l0 k a l (l.length : Int) (i : Int) = some (match (l.drop i).find? fun c => decide (a < c) with | some c => (c, true) | none => (0, false)) := by
  induction d with
  | zero =>
    intro k i hi hd hk
    obtain ⟨k, rfl⟩ : ∃ m, k = m + 1 := ⟨k - 1, by omega⟩
    simp only [mainsheetref04_Next.l0]; rw [if_neg (by omega), List.drop_eq_nil_of_le (by omega)]; rfl
  | succ d ih =>
    intro k i hi hd hk
    obtain ⟨k, rfl⟩ : ∃ m, k = m + 1 := ⟨k - 1, by omega⟩
    have hlt : i < l.length := by omega
    have e : rd l (i : Int) = l[i] := by simp [rd, hlt]
    simp only [mainsheetref04_Next.l0]
    rw [if_pos (by omega), if_pos (by omega), if_pos (by omega), e, List.drop_eq_getElem_cons hlt, List.find?_cons]
    by_cases hc : l[i] > a
    · rw [if_pos hc]
      have : decide (a < l[i]) = true := by simpa using hc
      rw [this]
    · rw [if_neg hc, wrap_small _ (by omega) (by omega), show (i : Int) + 1 = ((i + 1 : Nat) : Int) by omega, ih k (i + 1) (by omega) (by omega) (by omega)]
      have : decide (a < l[i]) = false := by simpa using hc
      rw [this]
theorem RNext_val (s : Nat) (hs : s < 4294967296) (a : Int) (k : Nat) (hk : 9 ≤ k) : mainsheetref04_Next.f k (s : Int) a = some (nextOf (s : Int) a) := by
  have hl := listOf_len (s : Int)
  unfold mainsheetref04_Next.f
  rw [RList_val s hs k hk]
  simp only [Option.bind_some]
  rw [show (0 : Int) = ((0 : Nat) : Int) from rfl, rnext_loop (listOf (s : Int)) a (by omega) (listOf (s : Int)).length k 0 (by omega) (by omega) (by omega)]
  rfl
theorem same_loop (a b : List Int) (hl : a.length = b.length) (hb : a.length ≤ 1000000) (d : Nat) : ∀ (k i : Nat), i ≤ a.length → a.length - i = d → d < k →
    mainsheetref04_SameInts.l0 k a b (a.length : Int) (i : Int) = some (decide (a.drop i = b.drop i)) := by
  induction d with
  | zero =>
    intro k i hi hd hk
    obtain ⟨k, rfl⟩ : ∃ m, k = m + 1 := ⟨k - 1, by omega⟩
    simp only [mainsheetref04_SameInts.l0]; rw [if_neg (by omega), List.drop_eq_nil_of_le (by omega), List.drop_eq_nil_of_le (by omega)]; simp
  | succ d ih =>
    intro k i hi hd hk
    obtain ⟨k, rfl⟩ : ∃ m, k = m + 1 := ⟨k - 1, by omega⟩
    have hlt : i < a.length := by omega
    have e : rd a (i : Int) = a[i] := by simp [rd, hlt]
    have e2 : rd b (i : Int) = b[i]'(by omega) := by simp [rd, show i < b.length by omega]
    simp only [mainsheetref04_SameInts.l0]
    have da := List.drop_eq_getElem_cons hlt
    have db := List.drop_eq_getElem_cons (show i < b.length by omega)
    rw [if_pos (by omega), if_pos (by omega), if_pos (by omega), if_pos (by omega), e, e2, da, db]
    by_cases hc : a[i] = b[i]'(by omega)
    · rw [if_pos hc, wrap_small _ (by omega) (by omega), show (i : Int) + 1 = ((i + 1 : Nat) : Int) by omega, ih k (i + 1) (by omega) (by omega) (by omega), hc]
      exact congrArg some (decide_eq_decide.2 ⟨fun h => by rw [h], fun h => (List.cons.inj h).2⟩)
    · rw [if_neg hc]
      refine congrArg some ?_
      symm
      rw [decide_eq_false_iff_not]
      exact fun h => hc (List.cons.inj h).1
theorem Same_val (a b : List Int) (hb : a.length ≤ 1000000) (k : Nat) (hk : a.length < k) : mainsheetref04_SameInts.f k a b = some (decide (a = b)) := by
  unfold mainsheetref04_SameInts.f
  by_cases hl : a.length = b.length
  · rw [if_pos (by omega), show (0 : Int) = ((0 : Nat) : Int) from rfl, same_loop a b hl hb a.length k 0 (by omega) (by omega) (by omega)]
    simp
  · rw [if_neg (by omega)]
    congr 1
    symm
    rw [decide_eq_false_iff_not]
    intro h; subst h; exact hl rfl
end Go.Proofs.YtdmieaidheelbaaDoor.Q
/- What the document's functions of layer 13 answer: plain Lean. -/
namespace Go.Proofs.YtdmieaidheelbaaDoor.Q
open Go Go.RowKit Go.Proofs.YtdmieaidheelbaaDoorW.PrintWords Go.Proofs.YtdmieaidheelbaaDoorW.PrintLast Go.Proofs.YtdmieaidheelbaaDoorW.PrintMore
set_option linter.unusedVariables false
set_option linter.unusedSimpArgs false

def clash (x y : S36) : Bool := decide (y.f0 = x.f0) || (decide (0 ≤ x.f1) && decide (y.f1 = x.f1))
def rangeBad (x : S36) : Bool := decide (x.f0 < 1) || decide (16 < x.f0) || decide (x.f1 < -1) || decide (7 < x.f1) || !okM x.f2
def goodFrom (pre : List S36) : List S36 → Bool
  | [] => true
  | x :: l => !rangeBad x && !pre.any (clash x) && goodFrom (pre ++ [x]) l
theorem rd36_get (l : List S36) (i : Nat) (hi : i < l.length) : rd_T36 l (i : Int) = l[i] := by simp [rd_T36, hi]

theorem right13_l1 (l : List S36) (i : Nat) (x : S36) (hi : i ≤ l.length) (hl : l.length ≤ 1000000) (c d : Int) (r : Bool) (K : Nat) (hnext : ∀ k, K ≤ k → mainsheetref13_Right.l0 k l ((i + 1 : Nat) : Int) = some r) (n : Nat) : ∀ (k j : Nat), j ≤ i → i - j = n → K + n + 1 ≤ k →
    mainsheetref13_Right.l1 k l (i : Int) (j : Int) x.f0 x.f1 c d = some (if ((l.take i).drop j).any (clash x) then false else r) := by
  induction n with
  | zero =>
    intro k j hj hn hk
    obtain ⟨k, rfl⟩ : ∃ m, k = m + 1 := ⟨k - 1, by omega⟩
    rw [mainsheetref13_Right.l1, if_neg (by omega), wrap_small _ (by omega) (by omega), show (i : Int) + 1 = ((i + 1 : Nat) : Int) by omega, hnext k (by omega)]
    rw [List.drop_eq_nil_of_le (by rw [List.length_take]; omega)]
    rfl
  | succ n ih =>
    intro k j hj hn hk
    obtain ⟨k, rfl⟩ : ∃ m, k = m + 1 := ⟨k - 1, by omega⟩
    have hjl : j < l.length := by omega
    have hd : (l.take i).drop j = l[j] :: (l.take i).drop (j + 1) := by
      rw [List.drop_eq_getElem_cons (by rw [List.length_take]; omega)]
      simp
    rw [mainsheetref13_Right.l1, if_pos (by omega), if_pos (by omega), if_pos (by omega), rd36_get l j hjl, wrap_small _ (by omega) (by omega), show (j : Int) + 1 = ((j + 1 : Nat) : Int) by omega, hd, List.any_cons]
    unfold clash
    by_cases h1 : l[j].f0 = x.f0
    · rw [if_pos h1]; simp [h1]
    · rw [if_neg h1]
      by_cases h2 : x.f1 ≥ 0
      · rw [if_pos h2]
        by_cases h3 : l[j].f1 = x.f1
        · rw [if_pos h3]; simp [h3, h2]
        · rw [if_neg h3, ih k (j + 1) (by omega) (by omega) (by omega)]
          simp [h1, h3, clash]
      · rw [if_neg h2, ih k (j + 1) (by omega) (by omega) (by omega)]
        have : ¬ (0 ≤ x.f1) := h2
        simp [h1, this, clash]
theorem right13_j1 (l : List S36) (i : Nat) (x : S36) (b : Bool) (hi : i ≤ l.length) (hl : l.length ≤ 1000000) (c d : Int) (r : Bool) (K : Nat) (hnext : ∀ k, K ≤ k → mainsheetref13_Right.l0 k l ((i + 1 : Nat) : Int) = some r) (k : Nat) (hk : K + i + 2 ≤ k) :
    mainsheetref13_Right.j1 k l (i : Int) b x.f0 x.f1 c d = some (if b || (l.take i).any (clash x) then false else r) := by
  obtain ⟨k, rfl⟩ : ∃ m, k = m + 1 := ⟨k - 1, by omega⟩
  rw [mainsheetref13_Right.j1]
  cases b with
  | true => rw [if_pos rfl]; simp
  | false =>
    rw [if_neg (by simp), show (0 : Int) = ((0 : Nat) : Int) from rfl, right13_l1 l i x hi hl c d r K hnext i k 0 (by omega) (by omega) (by omega)]
    simp
theorem right13_l0 (l : List S36) (hl : l.length ≤ 1000000) (hwf : ∀ x ∈ l, Wf36 x) (n : Nat) : ∀ (i : Nat), i ≤ l.length → l.length - i = n → ∃ K, ∀ k, K ≤ k → mainsheetref13_Right.l0 k l (i : Int) = some (goodFrom (l.take i) (l.drop i)) := by
  induction n with
  | zero =>
    intro i hi hn
    refine ⟨1, fun k hk => ?_⟩
    obtain ⟨k, rfl⟩ : ∃ m, k = m + 1 := ⟨k - 1, by omega⟩
    rw [mainsheetref13_Right.l0, if_neg (by omega), List.drop_eq_nil_of_le (by omega)]
    rfl
  | succ n ih =>
    intro i hi hn
    obtain ⟨K, hK⟩ := ih (i + 1) (by omega) (by omega)
    refine ⟨K + i + 3, fun k hk => ?_⟩
    obtain ⟨k, rfl⟩ : ∃ m, k = m + 1 := ⟨k - 1, by omega⟩
    have hil : i < l.length := by omega
    obtain ⟨w1, w2, w3, w4⟩ := hwf l[i] (List.getElem_mem hil)
    have hj := fun b => right13_j1 l i l[i] b hi hl l[i].f2.f0 l[i].f2.f1 _ K hK k (by omega)
    have hm : mainsheetref07_Right.f l[i].f2.f0 l[i].f2.f1 = some (okM l[i].f2) := by
      have := MRight_val l[i].f2.f0.toNat l[i].f2.f1.toNat
      rw [show ((l[i].f2.f0.toNat : Nat) : Int) = l[i].f2.f0 by omega, show ((l[i].f2.f1.toNat : Nat) : Int) = l[i].f2.f1 by omega] at this
      exact this
    rw [mainsheetref13_Right.l0, if_pos (by omega), if_pos (by omega), rd36_get l i hil, hm, Option.bind_some, hj, hj, List.drop_eq_getElem_cons hil, goodFrom, ← List.take_succ_eq_append_getElem hil]
    unfold rangeBad
    by_cases c1 : l[i].f0 < 1
    · rw [if_pos c1]; simp [c1]
    · rw [if_neg c1]
      by_cases c2 : l[i].f0 > 16
      · rw [if_pos c2]; simp [c2]
      · rw [if_neg c2]
        by_cases c3 : l[i].f1 < -1
        · rw [if_pos c3]; simp [c3]
        · rw [if_neg c3]
          by_cases c4 : l[i].f1 > 7
          · rw [if_pos c4]; simp [c4]
          · rw [if_neg c4]
            have d2 : ¬ (16 < l[i].f0) := c2
            have d4 : ¬ (7 < l[i].f1) := c4
            simp only [c1, d2, c3, d4, decide_false, Bool.false_or]
            cases okM l[i].f2 <;> cases (l.take i).any (clash l[i]) <;> simp

def Marks (pre : List S36) (ms ts : List Bool) : Prop := ms.length = 17 ∧ ts.length = 8 ∧ (∀ v : Nat, v ≤ 16 → ms.getD v false = pre.any fun y => decide (y.f0 = v)) ∧ ∀ c : Nat, c < 8 → ts.getD c false = pre.any fun y => decide (y.f1 = c)
theorem any_snoc {α : Type} (p : α → Bool) (l : List α) (x : α) : (l ++ [x]).any p = (l.any p || p x) := by simp
theorem set_getD (l : List Bool) (i j : Nat) (hi : i < l.length) : (l.set i true).getD j false = (l.getD j false || decide (i = j)) := by
  rw [List.getD_eq_getElem?_getD, List.getD_eq_getElem?_getD, List.getElem?_set]
  by_cases h : i = j
  · subst h; rw [if_pos rfl, if_pos hi]; simp
  · rw [if_neg h]; simp [h]
theorem check_good (l : List S36) : ∀ (pre : List S36) (ms ts : List Bool), Marks pre ms ts → (checkFrom ms ts l = 0 ↔ goodFrom pre l = true) := by
  induction l with
  | nil => intro pre ms ts _; simp [checkFrom, goodFrom]
  | cons x l ih =>
    intro pre ms ts ⟨h1, h2, h3, h4⟩
    unfold checkFrom goodFrom
    have hb : badWish ms ts x = (rangeBad x || pre.any (clash x)) := by
      unfold badWish rangeBad
      by_cases c1 : x.f0 < 1
      · simp [c1]
      · by_cases c2 : 16 < x.f0
        · simp [c2]
        · by_cases c3 : x.f1 < -1
          · simp [c3]
          · by_cases c4 : 8 ≤ x.f1
            · have : 7 < x.f1 := by omega
              simp [c4, this]
            · have c4' : ¬ (7 < x.f1) := by omega
              have e3 := h3 x.f0.toNat (by omega)
              have hp : pre.any (clash x) = ((pre.any fun y => decide (y.f0 = x.f0)) || (decide (0 ≤ x.f1) && pre.any fun y => decide (y.f1 = x.f1))) := by
                clear ih h3 h4 e3
                induction pre with
                | nil => simp
                | cons y pre ihp =>
                  simp only [List.any_cons, ihp, clash]
                  cases decide (y.f0 = x.f0) <;> cases decide (0 ≤ x.f1) <;> cases decide (y.f1 = x.f1) <;> simp
              rw [show ((x.f0.toNat : Nat) : Int) = x.f0 by omega] at e3
              rw [hp, ← e3]
              simp only [c1, c2, c3, c4, c4', decide_false, Bool.false_or, Bool.or_false]
              by_cases c5 : 0 ≤ x.f1
              · have e4 := h4 x.f1.toNat (by omega)
                rw [show ((x.f1.toNat : Nat) : Int) = x.f1 by omega] at e4
                have c6 : -1 < x.f1 := by omega
                rw [← e4]
                simp only [c5, c6, decide_true, Bool.true_and]
                cases ms.getD x.f0.toNat false <;> cases okM x.f2 <;> cases ts.getD x.f1.toNat false <;> rfl
              · have c6 : ¬ (-1 < x.f1) := by omega
                simp only [c5, c6, decide_false, Bool.false_and, Bool.or_false]
                cases ms.getD x.f0.toNat false <;> cases okM x.f2 <;> rfl
    rw [hb]
    by_cases hg : (rangeBad x || pre.any (clash x)) = true
    · rw [if_pos hg]
      rw [Bool.or_eq_true] at hg
      rcases hg with hg | hg <;> simp [hg]
    · rw [if_neg hg]
      have hg' : rangeBad x = false ∧ pre.any (clash x) = false := by simpa using hg
      rw [hg'.1, hg'.2]
      simp only [Bool.not_false, Bool.true_and]
      have hr := hg'.1
      unfold rangeBad at hr
      simp only [Bool.or_eq_false_iff, decide_eq_false_iff_not] at hr
      obtain ⟨⟨⟨⟨r1, r2⟩, r3⟩, r4⟩, _⟩ := hr
      refine ih (pre ++ [x]) _ _ ⟨by simpa using h1, by split <;> simpa using h2, fun v hv => ?_, fun c hc => ?_⟩
      · rw [set_getD _ _ _ (by omega), h3 v hv, any_snoc]
        congr 1
        exact decide_eq_decide.2 (by omega)
      · rw [any_snoc, ← h4 c hc]
        split
        · rw [set_getD _ _ _ (by omega)]
          congr 1
          exact decide_eq_decide.2 (by omega)
        · have : decide (x.f1 = (c : Int)) = false := decide_eq_false (by omega)
          rw [this, Bool.or_false]
theorem marks_nil : Marks [] (List.replicate 17 false) (List.replicate 8 false) := by
  refine ⟨by simp, by simp, fun v hv => ?_, fun c hc => ?_⟩
  · rw [List.getD_eq_getElem?_getD, List.getElem?_replicate, if_pos (by omega)]; rfl
  · rw [List.getD_eq_getElem?_getD, List.getElem?_replicate, if_pos (by omega)]; rfl
def placeOk (l : List S36) : Int := checkFrom (List.replicate 17 false) (List.replicate 8 false) l
theorem check_cases (l : List S36) : ∀ ms ts, checkFrom ms ts l = 0 ∨ checkFrom ms ts l = 230 := by
  induction l with
  | nil => intro ms ts; exact .inl rfl
  | cons x l ih =>
    intro ms ts
    unfold checkFrom
    split
    · exact .inr rfl
    · exact ih _ _
theorem Right13_val (l : List S36) (hl : l.length ≤ 1000000) (hwf : ∀ x ∈ l, Wf36 x) : ∃ K, ∀ k, K ≤ k → mainsheetref13_Right.f k l = some (decide (placeOk l = 0)) := by
  obtain ⟨K, hK⟩ := right13_l0 l hl hwf l.length 0 (by omega) (by omega)
  refine ⟨K, fun k hk => ?_⟩
  have h := hK k hk
  have e : goodFrom (l.take 0) (l.drop 0) = decide (placeOk l = 0) := by
    have := check_good l [] _ _ marks_nil
    simp only [List.take_zero, List.drop_zero]
    unfold placeOk
    by_cases hg : goodFrom [] l = true
    · rw [hg, decide_eq_true (this.2 hg)]
    · rw [Bool.eq_false_iff.2 hg, decide_eq_false (fun hc => hg (this.1 hc))]
  rw [e] at h
  exact h
theorem places_ok (l : List S36) : ∀ (ms ts : List Bool), checkFrom ms ts l = 0 → ∀ x ∈ l, okM x.f2 = true := by
  induction l with
  | nil => intro ms ts _ x hx; simp at hx
  | cons y l ih =>
    intro ms ts h x hx
    unfold checkFrom at h
    split at h
    · cases h
    · next hb =>
      rcases List.mem_cons.1 hx with rfl | hx
      · cases ho : okM x.f2 with
        | true => rfl
        | false => exact absurd (bad6 (f0 := x.f0) (f1 := x.f1) (ms := ms) (ts := ts) ho) hb
      · exact ih _ _ h x hx
end Go.Proofs.YtdmieaidheelbaaDoor.Q
end
/- QFref19has -/
section
namespace Go.Proofs.YtdmieaidheelbaaDoor.Q
open Go.RowKit Go.Proofs.YtdmieaidheelbaaDoorW.PrintWords Go.Proofs.YtdmieaidheelbaaDoorW.PrintLast Go.Proofs.YtdmieaidheelbaaDoorW.PrintMore
attribute [local go_sem] max2_int min2_int max_two min_two max_three min_three max_four min_four
set_option linter.unusedVariables false
set_option linter.unusedSimpArgs false

def mainsheetref19_has.l0 : Nat → List Int → Int → Int → Option (Bool)
 | 0, _, _, _ => none
 | k + 1, x0, x1, x5 => if x5 < (x0.length : Int) then (if 0 ≤ x5 then (if (rd x0 x5) = x1 then (some true) else (mainsheetref19_has.l0 k x0 x1 (wrap64 (x5 + 1)))) else (none)) else (some false)
def mainsheetref19_has.f (k : Nat) (l0 : List Int) (a1 : Int) : Option (Bool) := mainsheetref19_has.l0 k l0 a1 0
set_option maxHeartbeats 8000000 in
set_option maxRecDepth 100000 in
theorem mainsheetref19_has.calls (k : Nat) (A0 : Option Addr) (c0 : Nat) (l0 : List Int) (a1 : Int) (r : Bool) (w : World) (hr0 : Kd.C (Kd.int .i64) w A0 l0.length l0) (hc0 : l0.length ≤ c0) (h : mainsheetref19_has.f k l0 a1 = some r) :
  Calls Tryd.prog 83 #[.slice A0 l0.length c0, .int .i64 a1] w fun e w' => e = .returned (.bool r) ∧ Drawn0 w w' := by
 have HR0 := Aside0.mk hr0
 have HC0 := Aside0.mk hc0
 clear hr0 hc0
 have H : (mainsheetref19_has.l0 k l0 a1 0) = some r := h
 clear h
 have H' := Aside0.mk H
 clear H
 go_enter Tryd.func83, Tryd.ntmps83
 go_wp2
 go_loopg [5] k (fun kq v5 w' => ∃ (x5_1 : Int), v5 = .int .i64 x5_1 ∧ Aside0 (mainsheetref19_has.l0 kq l0 a1 x5_1 = some r) ∧ Aside0 (kq ≤ k) ∧ Drawn0 w w')
 case atStart => exact ⟨(0), (by first | rfl | (simp; done) | (simp [*]; done)), H', ⟨Nat.le_refl _⟩, by repeat (first | exact Drawn0.refl _ | apply Drawn0.step)⟩
 case round =>
  clear H'
  try clear p2
  obtain ⟨x5_1, rfl, HA, HK1, ⟨m1, rfl⟩⟩ := hrel
  cases gk with
  | zero => exact absurd HA.out (by simp [mainsheetref19_has.l0])
  | succ k1 =>
   have H := HA.out
   clear HA
   simp only [mainsheetref19_has.l0] at H
   by_cases c3 : x5_1 < (l0.length : Int)
   ·rw [if_pos c3] at H
    have c3b0 : decide (x5_1 < (l0.length : Int)) = true := decide_eq_true c3
    clear c3
    by_cases c4 : 0 ≤ x5_1
    ·rw [if_pos c4] at H
     have c4b0 : decide (0 ≤ x5_1) = true := decide_eq_true c4
     clear c4
     by_cases c5 : (rd l0 x5_1) = a1
     ·rw [if_pos c5] at H
      have c5b0 : ((rd l0 x5_1) == a1) = true := beq_iff_eq.mpr c5
      have c5b1 : ((rd l0 x5_1) != a1) = false := bne_eq_false_iff_eq.mpr c5
      clear c5
      obtain rfl := Option.some.inj H
      have p419 : 0 ≤ (x5_1 : Int) := of_decide_eq_true (by first | (with_reducible assumption) | assumption)
      have q419 : x5_1 < (l0.length : Int) := of_decide_eq_true (by first | (with_reducible assumption) | assumption)
      obtain ⟨ad419, e419, hx419_0⟩ := Kd.at_int HR0.out x5_1 p419 q419
      cases e419
      replace p419 := eq_true p419
      replace q419 := eq_true q419
      go_wp2
      go_ret
      exact ⟨by first | rfl | (simp; done) | (simp [*]; done), by repeat (first | exact Drawn0.refl _ | apply Drawn0.step)⟩
     ·rw [if_neg c5] at H
      have c5b0 : ((rd l0 x5_1) == a1) = false := beq_eq_false_iff_ne.mpr c5
      have c5b1 : ((rd l0 x5_1) != a1) = true := bne_iff_ne.mpr c5
      have H' := Aside0.mk H
      clear H
      have p419 : 0 ≤ (x5_1 : Int) := of_decide_eq_true (by first | (with_reducible assumption) | assumption)
      have q419 : x5_1 < (l0.length : Int) := of_decide_eq_true (by first | (with_reducible assumption) | assumption)
      obtain ⟨ad419, e419, hx419_0⟩ := Kd.at_int HR0.out x5_1 p419 q419
      cases e419
      replace p419 := eq_true p419
      replace q419 := eq_true q419
      go_wp2
      go_roundg k1
      case measure => have := HK1.out; omega
      case rel => exact ⟨(wrap64 (x5_1 + 1)), (by first | rfl | (simp; done) | (simp [*]; done)), H', ⟨by have := HK1.out; omega⟩, by repeat (first | exact Drawn0.refl _ | apply Drawn0.step)⟩
    ·rw [if_neg c4] at H
     exact absurd H (by simp)
   ·rw [if_neg c3] at H
    have c3b0 : decide (x5_1 < (l0.length : Int)) = false := decide_eq_false c3
    clear c3
    obtain rfl := Option.some.inj H
    go_wp2
    go_ret
    exact ⟨by first | rfl | (simp; done) | (simp [*]; done), by repeat (first | exact Drawn0.refl _ | apply Drawn0.step)⟩

end Go.Proofs.YtdmieaidheelbaaDoor.Q
end
/- QFref19Choices -/
section
namespace Go.Proofs.YtdmieaidheelbaaDoor.Q
open Go.RowKit Go.Proofs.YtdmieaidheelbaaDoorW.PrintWords Go.Proofs.YtdmieaidheelbaaDoorW.PrintLast Go.Proofs.YtdmieaidheelbaaDoorW.PrintMore
attribute [local go_sem] max2_int min2_int max_two min_two max_three min_three max_four min_four
set_option linter.unusedVariables false
set_option linter.unusedSimpArgs false

mutual
def mainsheetref19_Choices.j0 : Nat → Int → Int → List Int → Option (List Int)
 | 0, _, _, _ => none
 | k + 1, x5, x6, x7 => mainsheetref19_Choices.l0 k x5 x6 x7 0
def mainsheetref19_Choices.l0 : Nat → Int → Int → List Int → Int → Option (List Int)
 | 0, _, _, _, _ => none
 | k + 1, x5, x6, x7, x8 => if x8 < 8 then ((mainsheetref04_Has.f x6 x8).bind fun t537 => (if t537 = true then ((mainsheetref19_has.f k x7 x8).bind fun t538 => (if t538 = true then (mainsheetref19_Choices.l0 k x5 x6 x7 (wrap64 (x8 + 1))) else (if x7.length < 17592186044416 then (mainsheetref19_Choices.l0 k x5 x6 (x7 ++ [x8]) (wrap64 (x8 + 1))) else (none)))) else (mainsheetref19_Choices.l0 k x5 x6 x7 (wrap64 (x8 + 1))))) else (mainsheetref19_Choices.l1 k x5 x7 0)
def mainsheetref19_Choices.l1 : Nat → Int → List Int → Int → Option (List Int)
 | 0, _, _, _ => none
 | k + 1, x5, x7, x9 => if x9 < 8 then ((mainsheetref04_Has.f x5 x9).bind fun t542 => (if t542 = true then ((mainsheetref19_has.f k x7 x9).bind fun t543 => (if t543 = true then (mainsheetref19_Choices.l1 k x5 x7 (wrap64 (x9 + 1))) else (if x7.length < 17592186044416 then (mainsheetref19_Choices.l1 k x5 (x7 ++ [x9]) (wrap64 (x9 + 1))) else (none)))) else (mainsheetref19_Choices.l1 k x5 x7 (wrap64 (x9 + 1))))) else (some x7)
end
def mainsheetref19_Choices.f (k : Nat) (a0_0 : Int) (a0_1 : Int) (a0_2 : Int) (a0_3 : Int) (a1 : Int) : Option (List Int) := (mainsheetref07_Allows.f a0_2 a0_3 a1).bind fun t531 => ((mainsheetref07_Likes.f a0_2 a0_3 a1).bind fun t532 => ((mainsheetref04_Has.f t531 a0_1).bind fun t533 => (if t533 = true then (if ([] : List Int).length < 17592186044416 then (mainsheetref19_Choices.j0 k t531 t532 (([] : List Int) ++ [a0_1])) else (none)) else (mainsheetref19_Choices.j0 k t531 t532 ([] : List Int)))))
set_option maxHeartbeats 8000000 in
set_option maxRecDepth 100000 in
theorem mainsheetref19_Choices.calls (k : Nat) (a0_0 : Int) (a0_1 : Int) (a0_2 : Int) (a0_3 : Int) (a1 : Int) (r : List Int) (w : World) (h : mainsheetref19_Choices.f k a0_0 a0_1 a0_2 a0_3 a1 = some r) :
  Calls Tryd.prog 54 #[.agg #[.int .i64 a0_0, .int .i64 a0_1, .int .u32 a0_2, .int .u32 a0_3], .int .u32 a1] w fun e w' => ∃ v0_ : Value, e = .returned (v0_) ∧ Kd.R (Kd.int .i64) 3 w' w.heap.size (fun _ => True) v0_ r ∧ Below w.heap.size w w' := by
 have hu36 := Tryd.underlying36
 have hu34 := Tryd.underlying34
 have HB := Aside0.mk (Below.refl w.heap.size w)
 have H : ((mainsheetref07_Allows.f a0_2 a0_3 a1).bind fun t531 => ((mainsheetref07_Likes.f a0_2 a0_3 a1).bind fun t532 => ((mainsheetref04_Has.f t531 a0_1).bind fun t533 => (if t533 = true then (if ([] : List Int).length < 17592186044416 then (mainsheetref19_Choices.j0 k t531 t532 (([] : List Int) ++ [a0_1])) else (none)) else (mainsheetref19_Choices.j0 k t531 t532 ([] : List Int)))))) = some r := h
 clear h
 replace H := Option.bind_eq_some_iff.mp H
 obtain ⟨t531, A30, H⟩ := H
 replace H : ((mainsheetref07_Likes.f a0_2 a0_3 a1).bind fun t532 => ((mainsheetref04_Has.f t531 a0_1).bind fun t533 => (if t533 = true then (if ([] : List Int).length < 17592186044416 then (mainsheetref19_Choices.j0 k t531 t532 (([] : List Int) ++ [a0_1])) else (none)) else (mainsheetref19_Choices.j0 k t531 t532 ([] : List Int))))) = some r := H
 have A3 := Aside0.mk A30
 clear A30
 replace H := Option.bind_eq_some_iff.mp H
 obtain ⟨t532, A40, H⟩ := H
 replace H : ((mainsheetref04_Has.f t531 a0_1).bind fun t533 => (if t533 = true then (if ([] : List Int).length < 17592186044416 then (mainsheetref19_Choices.j0 k t531 t532 (([] : List Int) ++ [a0_1])) else (none)) else (mainsheetref19_Choices.j0 k t531 t532 ([] : List Int)))) = some r := H
 have A4 := Aside0.mk A40
 clear A40
 replace H := Option.bind_eq_some_iff.mp H
 obtain ⟨t533, A50, H⟩ := H
 replace H : (if t533 = true then (if ([] : List Int).length < 17592186044416 then (mainsheetref19_Choices.j0 k t531 t532 (([] : List Int) ++ [a0_1])) else (none)) else (mainsheetref19_Choices.j0 k t531 t532 ([] : List Int))) = some r := H
 have A5 := Aside0.mk A50
 clear A50
 have HC6 := Aside0.mk H
 clear H
 go_enter Tryd.func54, Tryd.ntmps54
 go_upto_if 21 with (first | ((with_reducible refine gate_dst (N := 2) rfl ?_); refine box_event ?hg (N := 2) ?hd (cs := #[.int .i64 a0_0, .int .i64 a0_1, .int .u32 a0_2, .int .u32 a0_3]) (t := 36) ?hr ?_; (case hd => rfl); (case hg => rfl); (case hr => first | (go_simp; done) | (go_simp; rfl)); intro gb530 hg w7 hbox hb; have n0_ := Aside0.mk (below_step (by repeat (first | (with_reducible first | exact HB.out | apply below_alloc | apply pw_below_drewN | apply below_drew1) | exact HB.out)) hb); have n1_ := Aside0.mk (hbox); have n2_ := Aside0.mk ((by rw [hg]; exact (below_size (by repeat (first | (with_reducible first | exact HB.out | apply below_alloc | apply pw_below_drewN | apply below_drew1) | exact HB.out))) : w.heap.size ≤ gb530)); have n3_ := Aside0.mk ((by rw [hg]; exact (below_size (by repeat (first | (with_reducible first | exact HB.out | apply below_alloc | apply pw_below_drewN | apply below_drew1) | exact HB.out))) : w.heap.size ≤ gb530)); clear HB; have HB := n0_; have BK530 := n1_; have GW530 := n2_; have GE530 := n3_; clear n0_ n1_ n2_ n3_; clear hb hbox hg; have hcz8_0 : w7.cell? ⟨gb530, 0, none⟩ = some (.int .i64 a0_0) := (blk_cell BK530.out 0).trans rfl; have hcz8_1 : w7.cell? ⟨gb530, 1, none⟩ = some (.int .i64 a0_1) := (blk_cell BK530.out 1).trans rfl; have hcz8_2 : w7.cell? ⟨gb530, 2, none⟩ = some (.int .u32 a0_2) := (blk_cell BK530.out 2).trans rfl; have hcz8_3 : w7.cell? ⟨gb530, 3, none⟩ = some (.int .u32 a0_3) := (blk_cell BK530.out 3).trans rfl; have hfz8_0 := blk_frozen BK530.out 0; have hfz8_1 := blk_frozen BK530.out 1; have hfz8_2 := blk_frozen BK530.out 2; have hfz8_3 := blk_frozen BK530.out 3) | ((with_reducible refine gate_callee (f := 77) rfl ?_); refine goesL_ (some 13) rfl rfl Tryd.func77 (by kernel_rfl) rfl #[.agg #[.int .u32 a0_2, .int .u32 a0_3], .int .u32 a1] rfl (by (try simp only [List.map_toArray, List.map_cons, List.map_nil]); first | done | rfl | (simp only [List.length_drop, List.length_take]; rfl)) ?_; (with_reducible refine (mainsheetref07_Allows.calls a0_2 a0_3 a1 t531 _ A3.out).mono ?_); rintro e w9 ⟨rfl, hb⟩; refine ⟨_, rfl, ?_⟩; have n0_ := Aside0.mk (blk_below (g := gb530) (o := .cells #[.int .i64 a0_0, .int .i64 a0_1, .int .u32 a0_2, .int .u32 a0_3] 36 (0, 0)) (by (with_reducible repeat (first | refine blk_drewN ?_ _ | refine blk_drew ?_ | refine blk_alloc ?_ _)); exact BK530.out) hb); have n1_ := Aside0.mk (below_step (by repeat (first | (with_reducible first | exact HB.out | apply below_alloc | apply pw_below_drewN | apply below_drew1 | refine below_set ?_ GE530.out) | exact HB.out)) hb); clear BK530; clear HB; have BK530 := n0_; have HB := n1_; clear n0_ n1_; (try clear hb); (try clear hb2); (try clear hk); (try clear hi); have hcz10_0 : w9.cell? ⟨gb530, 0, none⟩ = some (.int .i64 a0_0) := (blk_cell BK530.out 0).trans rfl; have hcz10_1 : w9.cell? ⟨gb530, 1, none⟩ = some (.int .i64 a0_1) := (blk_cell BK530.out 1).trans rfl; have hcz10_2 : w9.cell? ⟨gb530, 2, none⟩ = some (.int .u32 a0_2) := (blk_cell BK530.out 2).trans rfl; have hcz10_3 : w9.cell? ⟨gb530, 3, none⟩ = some (.int .u32 a0_3) := (blk_cell BK530.out 3).trans rfl; have hfz10_0 := blk_frozen BK530.out 0; have hfz10_1 := blk_frozen BK530.out 1; have hfz10_2 := blk_frozen BK530.out 2; have hfz10_3 := blk_frozen BK530.out 3) | ((with_reducible refine gate_callee (f := 87) rfl ?_); refine goesL_ (some 17) rfl rfl Tryd.func87 (by kernel_rfl) rfl #[.agg #[.int .u32 a0_2, .int .u32 a0_3], .int .u32 a1] rfl (by (try simp only [List.map_toArray, List.map_cons, List.map_nil]); first | done | rfl | (simp only [List.length_drop, List.length_take]; rfl)) ?_; (with_reducible refine (mainsheetref07_Likes.calls a0_2 a0_3 a1 t532 _ A4.out).mono ?_); rintro e w11 ⟨rfl, hb⟩; refine ⟨_, rfl, ?_⟩; have n0_ := Aside0.mk (blk_below (g := gb530) (o := .cells #[.int .i64 a0_0, .int .i64 a0_1, .int .u32 a0_2, .int .u32 a0_3] 36 (0, 0)) (by (with_reducible repeat (first | refine blk_drewN ?_ _ | refine blk_drew ?_ | refine blk_alloc ?_ _)); exact BK530.out) hb); have n1_ := Aside0.mk (below_step (by repeat (first | (with_reducible first | exact HB.out | apply below_alloc | apply pw_below_drewN | apply below_drew1 | refine below_set ?_ GE530.out) | exact HB.out)) hb); clear BK530; clear HB; have BK530 := n0_; have HB := n1_; clear n0_ n1_; (try clear hb); (try clear hb2); (try clear hk); (try clear hi); have hcz12_0 : w11.cell? ⟨gb530, 0, none⟩ = some (.int .i64 a0_0) := (blk_cell BK530.out 0).trans rfl; have hcz12_1 : w11.cell? ⟨gb530, 1, none⟩ = some (.int .i64 a0_1) := (blk_cell BK530.out 1).trans rfl; have hcz12_2 : w11.cell? ⟨gb530, 2, none⟩ = some (.int .u32 a0_2) := (blk_cell BK530.out 2).trans rfl; have hcz12_3 : w11.cell? ⟨gb530, 3, none⟩ = some (.int .u32 a0_3) := (blk_cell BK530.out 3).trans rfl; have hfz12_0 := blk_frozen BK530.out 0; have hfz12_1 := blk_frozen BK530.out 1; have hfz12_2 := blk_frozen BK530.out 2; have hfz12_3 := blk_frozen BK530.out 3) | ((with_reducible refine gate_callee (f := 76) rfl ?_); refine goesL_ (some 21) rfl rfl Tryd.func76 (by kernel_rfl) rfl #[.int .u32 t531, .int .i64 a0_1] rfl (by (try simp only [List.map_toArray, List.map_cons, List.map_nil]); first | done | rfl | (simp only [List.length_drop, List.length_take]; rfl)) ?_; (with_reducible refine (mainsheetref04_Has.calls t531 a0_1 t533 _ A5.out).mono ?_); rintro e w' ⟨rfl, ⟨nd, rfl⟩⟩; refine ⟨_, rfl, ?_⟩))
 (try simp only [Act.put, List.setIfInBounds_toArray, List.set_cons_zero, List.set_cons_succ])
 go_cut [7] (fun v7 wc => ∃ (kq : Nat) (x7_5 : List Int), Aside0 (mainsheetref19_Choices.j0 kq t531 t532 x7_5 = some r) ∧ Aside0 (kq ≤ k) ∧ Aside0 (Kd.R (Kd.int .i64) 3 wc w.heap.size (fun _ => True) v7 x7_5) ∧ Aside0 (wc.heap[gb530]? = some (.cells #[.int .i64 a0_0, .int .i64 a0_1, .int .u32 a0_2, .int .u32 a0_3] 36 (0, 0))) ∧ Aside0 (Below w.heap.size w wc))
 case first =>
  have H := HC6.out
  clear HC6
  by_cases c13 : t533 = true
  ·subst c13
   have H1 : (if ([] : List Int).length < 17592186044416 then (mainsheetref19_Choices.j0 k t531 t532 (([] : List Int) ++ [a0_1])) else (none)) = some r := by rw [if_pos rfl] at H; exact H
   clear H
   have H := H1
   clear H1
   by_cases c14 : ([] : List Int).length < 17592186044416
   ·rw [if_pos c14] at H
    have LMc14 := Aside0.mk c14
    clear c14
    obtain ⟨y534, hy534⟩ : ∃ y_ : List Int, y_ = (([] : List Int) ++ [a0_1]) := ⟨_, rfl⟩
    replace H : (mainsheetref19_Choices.j0 k t531 t532 y534) = some r := by first | (rw [hy534]; with_reducible exact H) | (have H2_ := (Option.bind_some _ _).symm.trans H; rw [hy534]; with_reducible exact H2_) | (have H2_ := (Option.bind_some _ _).symm.trans H; with_reducible exact H2_) | with_reducible exact H | (rw [hy534]; exact H) | exact H
    have Ny534 := Aside0.mk hy534
    clear hy534
    have H' := Aside0.mk H
    clear H
    have hcz15_0 : w11.cell? ⟨gb530, 0, none⟩ = some (.int .i64 a0_0) := (blk_cell BK530.out 0).trans rfl
    have hcz15_1 : w11.cell? ⟨gb530, 1, none⟩ = some (.int .i64 a0_1) := (blk_cell BK530.out 1).trans rfl
    have hcz15_2 : w11.cell? ⟨gb530, 2, none⟩ = some (.int .u32 a0_2) := (blk_cell BK530.out 2).trans rfl
    have hcz15_3 : w11.cell? ⟨gb530, 3, none⟩ = some (.int .u32 a0_3) := (blk_cell BK530.out 3).trans rfl
    have hfz15_0 := blk_frozen BK530.out 0
    have hfz15_1 := blk_frozen BK530.out 1
    have hfz15_2 := blk_frozen BK530.out 2
    have hfz15_3 := blk_frozen BK530.out 3
    go_wp2_with (first | ((with_reducible refine gate_builtin (b := .append) (xs := #[.tmp 22, .tmp 25]) rfl ?_); at_builtin; refine Kd.R_append (Kd.int .i64) (w0 := w) w.heap.size rfl (.tmp 22) (.tmp 25) 42 3 (.int .i64 0) 8 rfl Tryd.underlying42 info3 rfl (by decide) (by omega) (.slice none 0 0) ([] : List Int) a0_1 [.int .i64 a0_1] (fun _ => True) (fun _ => False) rfl rfl ?aP (fun _ hk => hk.elim) ?aF ?aO ?aB ?aS ?aL ?_; (case aP => exact rfl); (case aB => exact (by repeat (first | (with_reducible first | exact HB.out | apply below_alloc | apply pw_below_drewN | apply below_drew1 | refine below_set ?_ GE530.out) | exact HB.out))); (case aF => exact (fun _ _ => trivial)); (case aO => exact ((Kd.R_nil _ _ _ _ (fun _ => True)))); (case aS => exact (below_size (by repeat (first | (with_reducible first | exact HB.out | apply below_alloc | apply pw_below_drewN | apply below_drew1 | refine below_set ?_ GE530.out) | exact HB.out)))); (case aL => have := LMc14.out; omega); intro v535 w16 ho hb hg hat; rw [← Ny534.out] at ho; have n0_ := Aside0.mk (blk_grown (g := gb530) (o := .cells #[.int .i64 a0_0, .int .i64 a0_1, .int .u32 a0_2, .int .u32 a0_3] 36 (0, 0)) (by (with_reducible repeat (first | refine blk_drewN ?_ _ | refine blk_drew ?_ | refine blk_alloc ?_ _)); exact BK530.out) hg (by simp [Value.ownBlock])); have n1_ := Aside0.mk (hb); have n2_ := Aside0.mk (ho); clear BK530; clear HB; have BK530 := n0_; have HB := n1_; have HO536 := n2_; clear n0_ n1_ n2_; clear ho hb hg hat))
    go_meet
    case rel => exact ⟨_, (y534), H', ⟨by first | omega | exact Nat.le_refl _⟩, ⟨by (with_reducible repeat (first | apply Kd.R_alloc | apply Kd.R_drewN | apply Kd.R_drew)); exact HO536.out⟩, ⟨by (with_reducible repeat (first | refine blk_drewN ?_ _ | refine blk_drew ?_ | refine blk_alloc ?_ _)); exact BK530.out⟩, ⟨by repeat (first | (with_reducible first | exact HB.out | apply below_alloc | apply pw_below_drewN | apply below_drew1 | refine below_set ?_ GE530.out) | exact HB.out)⟩⟩
   ·rw [if_neg c14] at H
    exact absurd H (by simp)
  ·replace c13 := Bool.eq_false_iff.mpr c13
   subst c13
   have H1 : (mainsheetref19_Choices.j0 k t531 t532 ([] : List Int)) = some r := by rw [if_neg (show ¬ (false = true) by decide)] at H; exact H
   clear H
   have H := H1
   clear H1
   have H' := Aside0.mk H
   clear H
   go_wp2
   go_meet
   case rel => exact ⟨_, (([] : List Int)), H', ⟨by first | omega | exact Nat.le_refl _⟩, ⟨by first | exact Kd.R_nil _ _ _ _ _ | exact Kd.N_nil _ _ _ _ _ | exact Kd.V_nil _ _ _ _ _ | exact Kd.Q_nil _ _ _ _ _ | exact Kd.S_nil _ _ _ _ _⟩, ⟨by (with_reducible repeat (first | refine blk_drewN ?_ _ | refine blk_drew ?_ | refine blk_alloc ?_ _)); exact BK530.out⟩, ⟨by repeat (first | (with_reducible first | exact HB.out | apply below_alloc | apply pw_below_drewN | apply below_drew1 | refine below_set ?_ GE530.out) | exact HB.out)⟩⟩
 case rest =>
  clear HC6
  try clear c1
  try clear p2
  try clear c5
  try clear c7
  try clear c8
  try clear c13
  try clear c14
  try clear hcz10_0
  try clear hcz10_1
  try clear hcz10_2
  try clear hcz10_3
  try clear hcz12_0
  try clear hcz12_1
  try clear hcz12_2
  try clear hcz12_3
  try clear hcz15_0
  try clear hcz15_1
  try clear hcz15_2
  try clear hcz15_3
  try clear hcz8_0
  try clear hcz8_1
  try clear hcz8_2
  try clear hcz8_3
  try clear hfz10_0
  try clear hfz10_1
  try clear hfz10_2
  try clear hfz10_3
  try clear hfz12_0
  try clear hfz12_1
  try clear hfz12_2
  try clear hfz12_3
  try clear hfz15_0
  try clear hfz15_1
  try clear hfz15_2
  try clear hfz15_3
  try clear hfz8_0
  try clear hfz8_1
  try clear hfz8_2
  try clear hfz8_3
  obtain ⟨kq, x7_5, HA, HJ5, HO_7, BK530, HB⟩ := hcut
  cases kq with
  | zero => exact absurd HA.out (by simp [mainsheetref19_Choices.j0])
  | succ kj5 =>
   have H := HA.out
   clear HA
   simp only [mainsheetref19_Choices.j0] at H
   have H' := Aside0.mk H
   clear H
   go_wp2
   go_loopg [7, 8] kj5 (fun kq v7 v8 w' => ∃ (x7_2 : List Int) (x8_2 : Int), v8 = .int .i64 x8_2 ∧ Aside0 (mainsheetref19_Choices.l0 kq t531 t532 x7_2 x8_2 = some r) ∧ Aside0 (kq ≤ kj5) ∧ Aside0 (Kd.R (Kd.int .i64) 3 w' w.heap.size (fun _ => True) v7 x7_2) ∧ Aside0 (w'.heap[gb530]? = some (.cells #[.int .i64 a0_0, .int .i64 a0_1, .int .u32 a0_2, .int .u32 a0_3] 36 (0, 0))) ∧ Aside0 (Below w.heap.size w w'))
   case atStart => exact ⟨(x7_5), (0), (by first | rfl | (simp; done) | (simp [*]; done)), H', ⟨Nat.le_refl _⟩, ⟨by (with_reducible repeat (first | apply Kd.R_alloc | apply Kd.R_drewN | apply Kd.R_drew)); exact HO_7.out⟩, ⟨by (with_reducible repeat (first | refine blk_drewN ?_ _ | refine blk_drew ?_ | refine blk_alloc ?_ _)); exact BK530.out⟩, ⟨by repeat (first | (with_reducible first | exact HB.out | apply below_alloc | apply pw_below_drewN | apply below_drew1 | refine below_set ?_ GE530.out) | exact HB.out)⟩⟩
   case round =>
    clear H'
    try clear c1
    try clear p2
    try clear c5
    try clear c7
    try clear c8
    try clear c13
    try clear c14
    try clear hcz10_0
    try clear hcz10_1
    try clear hcz10_2
    try clear hcz10_3
    try clear hcz12_0
    try clear hcz12_1
    try clear hcz12_2
    try clear hcz12_3
    try clear hcz15_0
    try clear hcz15_1
    try clear hcz15_2
    try clear hcz15_3
    try clear hcz8_0
    try clear hcz8_1
    try clear hcz8_2
    try clear hcz8_3
    try clear hfz10_0
    try clear hfz10_1
    try clear hfz10_2
    try clear hfz10_3
    try clear hfz12_0
    try clear hfz12_1
    try clear hfz12_2
    try clear hfz12_3
    try clear hfz15_0
    try clear hfz15_1
    try clear hfz15_2
    try clear hfz15_3
    try clear hfz8_0
    try clear hfz8_1
    try clear hfz8_2
    try clear hfz8_3
    try clear p2
    obtain ⟨x7_2, x8_2, rfl, HA, HK2, HO_7, BK530, HB⟩ := hrel
    cases gk with
    | zero => exact absurd HA.out (by simp [mainsheetref19_Choices.l0])
    | succ k2 =>
     have H := HA.out
     clear HA
     simp only [mainsheetref19_Choices.l0] at H
     by_cases c17 : x8_2 < 8
     ·rw [if_pos c17] at H
      have c17b0 : decide (x8_2 < 8) = true := decide_eq_true c17
      clear c17
      replace H := Option.bind_eq_some_iff.mp H
      obtain ⟨t537, A180, H⟩ := H
      replace H : (if t537 = true then ((mainsheetref19_has.f k2 x7_2 x8_2).bind fun t538 => (if t538 = true then (mainsheetref19_Choices.l0 k2 t531 t532 x7_2 (wrap64 (x8_2 + 1))) else (if x7_2.length < 17592186044416 then (mainsheetref19_Choices.l0 k2 t531 t532 (x7_2 ++ [x8_2]) (wrap64 (x8_2 + 1))) else (none)))) else (mainsheetref19_Choices.l0 k2 t531 t532 x7_2 (wrap64 (x8_2 + 1)))) = some r := H
      have A18 := Aside0.mk A180
      clear A180
      by_cases c19 : t537 = true
      ·subst c19
       have H1 : ((mainsheetref19_has.f k2 x7_2 x8_2).bind fun t538 => (if t538 = true then (mainsheetref19_Choices.l0 k2 t531 t532 x7_2 (wrap64 (x8_2 + 1))) else (if x7_2.length < 17592186044416 then (mainsheetref19_Choices.l0 k2 t531 t532 (x7_2 ++ [x8_2]) (wrap64 (x8_2 + 1))) else (none)))) = some r := by rw [if_pos rfl] at H; exact H
       clear H
       have H := H1
       clear H1
       replace H := Option.bind_eq_some_iff.mp H
       obtain ⟨t538, A200, H⟩ := H
       replace H : (if t538 = true then (mainsheetref19_Choices.l0 k2 t531 t532 x7_2 (wrap64 (x8_2 + 1))) else (if x7_2.length < 17592186044416 then (mainsheetref19_Choices.l0 k2 t531 t532 (x7_2 ++ [x8_2]) (wrap64 (x8_2 + 1))) else (none))) = some r := H
       have A20 := Aside0.mk A200
       clear A200
       by_cases c21 : t538 = true
       ·subst c21
        have H1 : (mainsheetref19_Choices.l0 k2 t531 t532 x7_2 (wrap64 (x8_2 + 1))) = some r := by rw [if_pos rfl] at H; exact H
        clear H
        have H := H1
        clear H1
        have H' := Aside0.mk H
        clear H
        go_wp2_with (first | ((with_reducible refine gate_callee (f := 76) rfl ?_); refine goesL_ (some 33) rfl rfl Tryd.func76 (by kernel_rfl) rfl #[.int .u32 t532, .int .i64 x8_2] rfl (by (try simp only [List.map_toArray, List.map_cons, List.map_nil]); first | done | rfl | (simp only [List.length_drop, List.length_take]; rfl)) ?_; (with_reducible refine (mainsheetref04_Has.calls t532 x8_2 true _ A18.out).mono ?_); rintro e w' ⟨rfl, ⟨nd, rfl⟩⟩; refine ⟨_, rfl, ?_⟩; obtain ⟨Ao22, co22, eo22⟩ := Kd.R_slice HO_7.out; subst eo22) | (go_at_call 83; (with_reducible refine (mainsheetref19_has.calls k2 _ _ x7_2 x8_2 true _ ?side1 ?side2 A20.out).mono ?_); (case side1 => repeat (first | exact (Kd.R_reads' HO_7.out).2.2 | (with_reducible refine Kd.C_alloc ?_ _) | (with_reducible refine Kd.C_drewN ?_ _) | (with_reducible refine Kd.C_drew ?_))); (case side2 => exact (Kd.R_reads' HO_7.out).2.1); rintro e w' ⟨rfl, ⟨nd, rfl⟩⟩))
        go_roundg k2
        case measure => have := HJ5.out; have := HK2.out; omega
        case rel => exact ⟨(x7_2), (wrap64 (x8_2 + 1)), (by first | rfl | (simp; done) | (simp [*]; done)), H', ⟨by have := HJ5.out; have := HK2.out; omega⟩, ⟨by (with_reducible repeat (first | apply Kd.R_alloc | apply Kd.R_drewN | apply Kd.R_drew)); exact HO_7.out⟩, ⟨by (with_reducible repeat (first | refine blk_drewN ?_ _ | refine blk_drew ?_ | refine blk_alloc ?_ _)); exact BK530.out⟩, ⟨by repeat (first | (with_reducible first | exact HB.out | apply below_alloc | apply pw_below_drewN | apply below_drew1 | refine below_set ?_ GE530.out) | exact HB.out)⟩⟩
       ·replace c21 := Bool.eq_false_iff.mpr c21
        subst c21
        have H1 : (if x7_2.length < 17592186044416 then (mainsheetref19_Choices.l0 k2 t531 t532 (x7_2 ++ [x8_2]) (wrap64 (x8_2 + 1))) else (none)) = some r := by rw [if_neg (show ¬ (false = true) by decide)] at H; exact H
        clear H
        have H := H1
        clear H1
        by_cases c23 : x7_2.length < 17592186044416
        ·rw [if_pos c23] at H
         have LMc23 := Aside0.mk c23
         clear c23
         obtain ⟨y539, hy539⟩ : ∃ y_ : List Int, y_ = (x7_2 ++ [x8_2]) := ⟨_, rfl⟩
         replace H : (mainsheetref19_Choices.l0 k2 t531 t532 y539 (wrap64 (x8_2 + 1))) = some r := by first | (rw [hy539]; with_reducible exact H) | (have H2_ := (Option.bind_some _ _).symm.trans H; rw [hy539]; with_reducible exact H2_) | (have H2_ := (Option.bind_some _ _).symm.trans H; with_reducible exact H2_) | with_reducible exact H | (rw [hy539]; exact H) | exact H
         have Ny539 := Aside0.mk hy539
         clear hy539
         have H' := Aside0.mk H
         clear H
         go_wp2_with (first | ((with_reducible refine gate_callee (f := 76) rfl ?_); refine goesL_ (some 33) rfl rfl Tryd.func76 (by kernel_rfl) rfl #[.int .u32 t532, .int .i64 x8_2] rfl (by (try simp only [List.map_toArray, List.map_cons, List.map_nil]); first | done | rfl | (simp only [List.length_drop, List.length_take]; rfl)) ?_; (with_reducible refine (mainsheetref04_Has.calls t532 x8_2 true _ A18.out).mono ?_); rintro e w' ⟨rfl, ⟨nd, rfl⟩⟩; refine ⟨_, rfl, ?_⟩; obtain ⟨Ao24, co24, eo24⟩ := Kd.R_slice HO_7.out; subst eo24) | (go_at_call 83; (with_reducible refine (mainsheetref19_has.calls k2 _ _ x7_2 x8_2 false _ ?side1 ?side2 A20.out).mono ?_); (case side1 => repeat (first | exact (Kd.R_reads' HO_7.out).2.2 | (with_reducible refine Kd.C_alloc ?_ _) | (with_reducible refine Kd.C_drewN ?_ _) | (with_reducible refine Kd.C_drew ?_))); (case side2 => exact (Kd.R_reads' HO_7.out).2.1); rintro e w' ⟨rfl, ⟨nd, rfl⟩⟩) | ((with_reducible refine gate_builtin (b := .append) (xs := #[.tmp 40, .tmp 42]) rfl ?_); at_builtin; refine Kd.R_append (Kd.int .i64) (w0 := w) w.heap.size rfl (.tmp 40) (.tmp 42) 42 3 (.int .i64 0) 8 rfl Tryd.underlying42 info3 rfl (by decide) (by omega) (.slice Ao24 x7_2.length co24) x7_2 x8_2 [.int .i64 x8_2] (fun _ => True) (fun _ => False) rfl rfl ?aP (fun _ hk => hk.elim) ?aF ?aO ?aB ?aS ?aL ?_; (case aP => exact rfl); (case aB => exact (by repeat (first | (with_reducible first | exact HB.out | apply below_alloc | apply pw_below_drewN | apply below_drew1 | refine below_set ?_ GE530.out) | exact HB.out))); (case aF => exact (fun _ _ => trivial)); (case aO => exact (by (with_reducible repeat (first | apply Kd.R_alloc | apply Kd.R_drewN | apply Kd.R_drew)); exact HO_7.out)); (case aS => exact (below_size (by repeat (first | (with_reducible first | exact HB.out | apply below_alloc | apply pw_below_drewN | apply below_drew1 | refine below_set ?_ GE530.out) | exact HB.out)))); (case aL => have := LMc23.out; omega); intro v540 w25 ho hb hg hat; rw [← Ny539.out] at ho; have n0_ := Aside0.mk (blk_grown (g := gb530) (o := .cells #[.int .i64 a0_0, .int .i64 a0_1, .int .u32 a0_2, .int .u32 a0_3] 36 (0, 0)) (by (with_reducible repeat (first | refine blk_drewN ?_ _ | refine blk_drew ?_ | refine blk_alloc ?_ _)); exact BK530.out) hg (Kd.R_ne HO_7.out BK530.out (by decide))); have n1_ := Aside0.mk (hb); have n2_ := Aside0.mk (ho); clear BK530; clear HB; clear HO_7; have BK530 := n0_; have HB := n1_; have HO541 := n2_; clear n0_ n1_ n2_; clear ho hb hg hat))
         go_roundg k2
         case measure => have := HJ5.out; have := HK2.out; omega
         case rel => exact ⟨(y539), (wrap64 (x8_2 + 1)), (by first | rfl | (simp; done) | (simp [*]; done)), H', ⟨by have := HJ5.out; have := HK2.out; omega⟩, ⟨by (with_reducible repeat (first | apply Kd.R_alloc | apply Kd.R_drewN | apply Kd.R_drew)); exact HO541.out⟩, ⟨by (with_reducible repeat (first | refine blk_drewN ?_ _ | refine blk_drew ?_ | refine blk_alloc ?_ _)); exact BK530.out⟩, ⟨by repeat (first | (with_reducible first | exact HB.out | apply below_alloc | apply pw_below_drewN | apply below_drew1 | refine below_set ?_ GE530.out) | exact HB.out)⟩⟩
        ·rw [if_neg c23] at H
         exact absurd H (by simp)
      ·replace c19 := Bool.eq_false_iff.mpr c19
       subst c19
       have H1 : (mainsheetref19_Choices.l0 k2 t531 t532 x7_2 (wrap64 (x8_2 + 1))) = some r := by rw [if_neg (show ¬ (false = true) by decide)] at H; exact H
       clear H
       have H := H1
       clear H1
       have H' := Aside0.mk H
       clear H
       go_wp2_with (first | ((with_reducible refine gate_callee (f := 76) rfl ?_); refine goesL_ (some 33) rfl rfl Tryd.func76 (by kernel_rfl) rfl #[.int .u32 t532, .int .i64 x8_2] rfl (by (try simp only [List.map_toArray, List.map_cons, List.map_nil]); first | done | rfl | (simp only [List.length_drop, List.length_take]; rfl)) ?_; (with_reducible refine (mainsheetref04_Has.calls t532 x8_2 false _ A18.out).mono ?_); rintro e w' ⟨rfl, ⟨nd, rfl⟩⟩; refine ⟨_, rfl, ?_⟩))
       go_roundg k2
       case measure => have := HJ5.out; have := HK2.out; omega
       case rel => exact ⟨(x7_2), (wrap64 (x8_2 + 1)), (by first | rfl | (simp; done) | (simp [*]; done)), H', ⟨by have := HJ5.out; have := HK2.out; omega⟩, ⟨by (with_reducible repeat (first | apply Kd.R_alloc | apply Kd.R_drewN | apply Kd.R_drew)); exact HO_7.out⟩, ⟨by (with_reducible repeat (first | refine blk_drewN ?_ _ | refine blk_drew ?_ | refine blk_alloc ?_ _)); exact BK530.out⟩, ⟨by repeat (first | (with_reducible first | exact HB.out | apply below_alloc | apply pw_below_drewN | apply below_drew1 | refine below_set ?_ GE530.out) | exact HB.out)⟩⟩
     ·rw [if_neg c17] at H
      have c17b0 : decide (x8_2 < 8) = false := decide_eq_false c17
      clear c17
      have H' := Aside0.mk H
      clear H
      go_wp2
      go_loopg [7, 9] k2 (fun kq v7 v9 w' => ∃ (x7_3 : List Int) (x9_3 : Int), v9 = .int .i64 x9_3 ∧ Aside0 (mainsheetref19_Choices.l1 kq t531 x7_3 x9_3 = some r) ∧ Aside0 (kq ≤ k2) ∧ Aside0 (Kd.R (Kd.int .i64) 3 w' w.heap.size (fun _ => True) v7 x7_3) ∧ Aside0 (w'.heap[gb530]? = some (.cells #[.int .i64 a0_0, .int .i64 a0_1, .int .u32 a0_2, .int .u32 a0_3] 36 (0, 0))) ∧ Aside0 (Below w.heap.size w w'))
      case atStart => exact ⟨(x7_2), (0), (by first | rfl | (simp; done) | (simp [*]; done)), H', ⟨Nat.le_refl _⟩, ⟨by (with_reducible repeat (first | apply Kd.R_alloc | apply Kd.R_drewN | apply Kd.R_drew)); exact HO_7.out⟩, ⟨by (with_reducible repeat (first | refine blk_drewN ?_ _ | refine blk_drew ?_ | refine blk_alloc ?_ _)); exact BK530.out⟩, ⟨by repeat (first | (with_reducible first | exact HB.out | apply below_alloc | apply pw_below_drewN | apply below_drew1 | refine below_set ?_ GE530.out) | exact HB.out)⟩⟩
      case round =>
       clear H'
       try clear c1
       try clear c2
       try clear p2
       try clear c5
       try clear p6
       try clear c7
       try clear c8
       try clear c13
       try clear c14
       try clear c17
       try clear c17b0
       try clear c19
       try clear c21
       try clear c23
       try clear hcz10_0
       try clear hcz10_1
       try clear hcz10_2
       try clear hcz10_3
       try clear hcz12_0
       try clear hcz12_1
       try clear hcz12_2
       try clear hcz12_3
       try clear hcz15_0
       try clear hcz15_1
       try clear hcz15_2
       try clear hcz15_3
       try clear hcz8_0
       try clear hcz8_1
       try clear hcz8_2
       try clear hcz8_3
       try clear hfz10_0
       try clear hfz10_1
       try clear hfz10_2
       try clear hfz10_3
       try clear hfz12_0
       try clear hfz12_1
       try clear hfz12_2
       try clear hfz12_3
       try clear hfz15_0
       try clear hfz15_1
       try clear hfz15_2
       try clear hfz15_3
       try clear hfz8_0
       try clear hfz8_1
       try clear hfz8_2
       try clear hfz8_3
       try clear p2
       obtain ⟨x7_3, x9_3, rfl, HA, HK3, HO_7, BK530, HB⟩ := hrel
       cases gk with
       | zero => exact absurd HA.out (by simp [mainsheetref19_Choices.l1])
       | succ k3 =>
        have H := HA.out
        clear HA
        simp only [mainsheetref19_Choices.l1] at H
        by_cases c26 : x9_3 < 8
        ·rw [if_pos c26] at H
         have c26b0 : decide (x9_3 < 8) = true := decide_eq_true c26
         clear c26
         replace H := Option.bind_eq_some_iff.mp H
         obtain ⟨t542, A270, H⟩ := H
         replace H : (if t542 = true then ((mainsheetref19_has.f k3 x7_3 x9_3).bind fun t543 => (if t543 = true then (mainsheetref19_Choices.l1 k3 t531 x7_3 (wrap64 (x9_3 + 1))) else (if x7_3.length < 17592186044416 then (mainsheetref19_Choices.l1 k3 t531 (x7_3 ++ [x9_3]) (wrap64 (x9_3 + 1))) else (none)))) else (mainsheetref19_Choices.l1 k3 t531 x7_3 (wrap64 (x9_3 + 1)))) = some r := H
         have A27 := Aside0.mk A270
         clear A270
         by_cases c28 : t542 = true
         ·subst c28
          have H1 : ((mainsheetref19_has.f k3 x7_3 x9_3).bind fun t543 => (if t543 = true then (mainsheetref19_Choices.l1 k3 t531 x7_3 (wrap64 (x9_3 + 1))) else (if x7_3.length < 17592186044416 then (mainsheetref19_Choices.l1 k3 t531 (x7_3 ++ [x9_3]) (wrap64 (x9_3 + 1))) else (none)))) = some r := by rw [if_pos rfl] at H; exact H
          clear H
          have H := H1
          clear H1
          replace H := Option.bind_eq_some_iff.mp H
          obtain ⟨t543, A290, H⟩ := H
          replace H : (if t543 = true then (mainsheetref19_Choices.l1 k3 t531 x7_3 (wrap64 (x9_3 + 1))) else (if x7_3.length < 17592186044416 then (mainsheetref19_Choices.l1 k3 t531 (x7_3 ++ [x9_3]) (wrap64 (x9_3 + 1))) else (none))) = some r := H
          have A29 := Aside0.mk A290
          clear A290
          by_cases c30 : t543 = true
          ·subst c30
           have H1 : (mainsheetref19_Choices.l1 k3 t531 x7_3 (wrap64 (x9_3 + 1))) = some r := by rw [if_pos rfl] at H; exact H
           clear H
           have H := H1
           clear H1
           have H' := Aside0.mk H
           clear H
           go_wp2_with (first | ((with_reducible refine gate_callee (f := 76) rfl ?_); refine goesL_ (some 50) rfl rfl Tryd.func76 (by kernel_rfl) rfl #[.int .u32 t531, .int .i64 x9_3] rfl (by (try simp only [List.map_toArray, List.map_cons, List.map_nil]); first | done | rfl | (simp only [List.length_drop, List.length_take]; rfl)) ?_; (with_reducible refine (mainsheetref04_Has.calls t531 x9_3 true _ A27.out).mono ?_); rintro e w' ⟨rfl, ⟨nd, rfl⟩⟩; refine ⟨_, rfl, ?_⟩; obtain ⟨Ao31, co31, eo31⟩ := Kd.R_slice HO_7.out; subst eo31) | (go_at_call 83; (with_reducible refine (mainsheetref19_has.calls k3 _ _ x7_3 x9_3 true _ ?side1 ?side2 A29.out).mono ?_); (case side1 => repeat (first | exact (Kd.R_reads' HO_7.out).2.2 | (with_reducible refine Kd.C_alloc ?_ _) | (with_reducible refine Kd.C_drewN ?_ _) | (with_reducible refine Kd.C_drew ?_))); (case side2 => exact (Kd.R_reads' HO_7.out).2.1); rintro e w' ⟨rfl, ⟨nd, rfl⟩⟩))
           go_roundg k3
           case measure => have := HJ5.out; have := HK2.out; have := HK3.out; omega
           case rel => exact ⟨(x7_3), (wrap64 (x9_3 + 1)), (by first | rfl | (simp; done) | (simp [*]; done)), H', ⟨by have := HJ5.out; have := HK2.out; have := HK3.out; omega⟩, ⟨by (with_reducible repeat (first | apply Kd.R_alloc | apply Kd.R_drewN | apply Kd.R_drew)); exact HO_7.out⟩, ⟨by (with_reducible repeat (first | refine blk_drewN ?_ _ | refine blk_drew ?_ | refine blk_alloc ?_ _)); exact BK530.out⟩, ⟨by repeat (first | (with_reducible first | exact HB.out | apply below_alloc | apply pw_below_drewN | apply below_drew1 | refine below_set ?_ GE530.out) | exact HB.out)⟩⟩
          ·replace c30 := Bool.eq_false_iff.mpr c30
           subst c30
           have H1 : (if x7_3.length < 17592186044416 then (mainsheetref19_Choices.l1 k3 t531 (x7_3 ++ [x9_3]) (wrap64 (x9_3 + 1))) else (none)) = some r := by rw [if_neg (show ¬ (false = true) by decide)] at H; exact H
           clear H
           have H := H1
           clear H1
           by_cases c32 : x7_3.length < 17592186044416
           ·rw [if_pos c32] at H
            have LMc32 := Aside0.mk c32
            clear c32
            obtain ⟨y544, hy544⟩ : ∃ y_ : List Int, y_ = (x7_3 ++ [x9_3]) := ⟨_, rfl⟩
            replace H : (mainsheetref19_Choices.l1 k3 t531 y544 (wrap64 (x9_3 + 1))) = some r := by first | (rw [hy544]; with_reducible exact H) | (have H2_ := (Option.bind_some _ _).symm.trans H; rw [hy544]; with_reducible exact H2_) | (have H2_ := (Option.bind_some _ _).symm.trans H; with_reducible exact H2_) | with_reducible exact H | (rw [hy544]; exact H) | exact H
            have Ny544 := Aside0.mk hy544
            clear hy544
            have H' := Aside0.mk H
            clear H
            go_wp2_with (first | ((with_reducible refine gate_callee (f := 76) rfl ?_); refine goesL_ (some 50) rfl rfl Tryd.func76 (by kernel_rfl) rfl #[.int .u32 t531, .int .i64 x9_3] rfl (by (try simp only [List.map_toArray, List.map_cons, List.map_nil]); first | done | rfl | (simp only [List.length_drop, List.length_take]; rfl)) ?_; (with_reducible refine (mainsheetref04_Has.calls t531 x9_3 true _ A27.out).mono ?_); rintro e w' ⟨rfl, ⟨nd, rfl⟩⟩; refine ⟨_, rfl, ?_⟩; obtain ⟨Ao33, co33, eo33⟩ := Kd.R_slice HO_7.out; subst eo33) | (go_at_call 83; (with_reducible refine (mainsheetref19_has.calls k3 _ _ x7_3 x9_3 false _ ?side1 ?side2 A29.out).mono ?_); (case side1 => repeat (first | exact (Kd.R_reads' HO_7.out).2.2 | (with_reducible refine Kd.C_alloc ?_ _) | (with_reducible refine Kd.C_drewN ?_ _) | (with_reducible refine Kd.C_drew ?_))); (case side2 => exact (Kd.R_reads' HO_7.out).2.1); rintro e w' ⟨rfl, ⟨nd, rfl⟩⟩) | ((with_reducible refine gate_builtin (b := .append) (xs := #[.tmp 57, .tmp 59]) rfl ?_); at_builtin; refine Kd.R_append (Kd.int .i64) (w0 := w) w.heap.size rfl (.tmp 57) (.tmp 59) 42 3 (.int .i64 0) 8 rfl Tryd.underlying42 info3 rfl (by decide) (by omega) (.slice Ao33 x7_3.length co33) x7_3 x9_3 [.int .i64 x9_3] (fun _ => True) (fun _ => False) rfl rfl ?aP (fun _ hk => hk.elim) ?aF ?aO ?aB ?aS ?aL ?_; (case aP => exact rfl); (case aB => exact (by repeat (first | (with_reducible first | exact HB.out | apply below_alloc | apply pw_below_drewN | apply below_drew1 | refine below_set ?_ GE530.out) | exact HB.out))); (case aF => exact (fun _ _ => trivial)); (case aO => exact (by (with_reducible repeat (first | apply Kd.R_alloc | apply Kd.R_drewN | apply Kd.R_drew)); exact HO_7.out)); (case aS => exact (below_size (by repeat (first | (with_reducible first | exact HB.out | apply below_alloc | apply pw_below_drewN | apply below_drew1 | refine below_set ?_ GE530.out) | exact HB.out)))); (case aL => have := LMc32.out; omega); intro v545 w34 ho hb hg hat; rw [← Ny544.out] at ho; have n0_ := Aside0.mk (blk_grown (g := gb530) (o := .cells #[.int .i64 a0_0, .int .i64 a0_1, .int .u32 a0_2, .int .u32 a0_3] 36 (0, 0)) (by (with_reducible repeat (first | refine blk_drewN ?_ _ | refine blk_drew ?_ | refine blk_alloc ?_ _)); exact BK530.out) hg (Kd.R_ne HO_7.out BK530.out (by decide))); have n1_ := Aside0.mk (hb); have n2_ := Aside0.mk (ho); clear BK530; clear HB; clear HO_7; have BK530 := n0_; have HB := n1_; have HO546 := n2_; clear n0_ n1_ n2_; clear ho hb hg hat))
            go_roundg k3
            case measure => have := HJ5.out; have := HK2.out; have := HK3.out; omega
            case rel => exact ⟨(y544), (wrap64 (x9_3 + 1)), (by first | rfl | (simp; done) | (simp [*]; done)), H', ⟨by have := HJ5.out; have := HK2.out; have := HK3.out; omega⟩, ⟨by (with_reducible repeat (first | apply Kd.R_alloc | apply Kd.R_drewN | apply Kd.R_drew)); exact HO546.out⟩, ⟨by (with_reducible repeat (first | refine blk_drewN ?_ _ | refine blk_drew ?_ | refine blk_alloc ?_ _)); exact BK530.out⟩, ⟨by repeat (first | (with_reducible first | exact HB.out | apply below_alloc | apply pw_below_drewN | apply below_drew1 | refine below_set ?_ GE530.out) | exact HB.out)⟩⟩
           ·rw [if_neg c32] at H
            exact absurd H (by simp)
         ·replace c28 := Bool.eq_false_iff.mpr c28
          subst c28
          have H1 : (mainsheetref19_Choices.l1 k3 t531 x7_3 (wrap64 (x9_3 + 1))) = some r := by rw [if_neg (show ¬ (false = true) by decide)] at H; exact H
          clear H
          have H := H1
          clear H1
          have H' := Aside0.mk H
          clear H
          go_wp2_with (first | ((with_reducible refine gate_callee (f := 76) rfl ?_); refine goesL_ (some 50) rfl rfl Tryd.func76 (by kernel_rfl) rfl #[.int .u32 t531, .int .i64 x9_3] rfl (by (try simp only [List.map_toArray, List.map_cons, List.map_nil]); first | done | rfl | (simp only [List.length_drop, List.length_take]; rfl)) ?_; (with_reducible refine (mainsheetref04_Has.calls t531 x9_3 false _ A27.out).mono ?_); rintro e w' ⟨rfl, ⟨nd, rfl⟩⟩; refine ⟨_, rfl, ?_⟩))
          go_roundg k3
          case measure => have := HJ5.out; have := HK2.out; have := HK3.out; omega
          case rel => exact ⟨(x7_3), (wrap64 (x9_3 + 1)), (by first | rfl | (simp; done) | (simp [*]; done)), H', ⟨by have := HJ5.out; have := HK2.out; have := HK3.out; omega⟩, ⟨by (with_reducible repeat (first | apply Kd.R_alloc | apply Kd.R_drewN | apply Kd.R_drew)); exact HO_7.out⟩, ⟨by (with_reducible repeat (first | refine blk_drewN ?_ _ | refine blk_drew ?_ | refine blk_alloc ?_ _)); exact BK530.out⟩, ⟨by repeat (first | (with_reducible first | exact HB.out | apply below_alloc | apply pw_below_drewN | apply below_drew1 | refine below_set ?_ GE530.out) | exact HB.out)⟩⟩
        ·rw [if_neg c26] at H
         have c26b0 : decide (x9_3 < 8) = false := decide_eq_false c26
         clear c26
         obtain rfl := Option.some.inj H
         go_wp2
         go_ret
         exact ⟨_, by first | rfl | (simp [errW_none, errW_some] <;> rfl) | (simp [*, errW_none, errW_some] <;> rfl), by (with_reducible repeat (first | apply Kd.R_alloc | apply Kd.R_drewN | apply Kd.R_drew)); exact HO_7.out, by repeat (first | (with_reducible first | exact HB.out | apply below_alloc | apply pw_below_drewN | apply below_drew1 | refine below_set ?_ GE530.out) | exact HB.out)⟩

end Go.Proofs.YtdmieaidheelbaaDoor.Q
end
/- QFlaw19wakes -/
section
namespace Go.Proofs.YtdmieaidheelbaaDoor.Q
open Go.RowKit Go.Proofs.YtdmieaidheelbaaDoorW.PrintWords Go.Proofs.YtdmieaidheelbaaDoorW.PrintLast Go.Proofs.YtdmieaidheelbaaDoorW.PrintMore
attribute [local go_sem] max2_int min2_int max_two min_two max_three min_three max_four min_four
set_option linter.unusedVariables false
set_option linter.unusedSimpArgs false

attribute [local go_sem high] eqA31
def mainsheetlaw19_wakes.f  : Option (Bool) := (pick_Pick.f (([(⟨(([3] : List Int)), (⟨(⟨0, 0⟩ : S86), 0⟩ : S88), 0, false⟩ : S90), (⟨(([1, 2] : List Int)), (⟨(⟨0, 0⟩ : S86), 0⟩ : S88), 0, false⟩ : S90), (⟨(([4] : List Int)), (⟨(⟨0, 0⟩ : S86), 0⟩ : S88), 0, false⟩ : S90)] : List (S90))) (([(⟨1, (-1), (⟨3, 0⟩ : S34)⟩ : S36), (⟨2, (-1), (⟨3, 0⟩ : S34)⟩ : S36), (⟨3, 1, (⟨3, 0⟩ : S34)⟩ : S36), (⟨4, (-1), (⟨3, 0⟩ : S34)⟩ : S36)] : List (S36))) 3).bind fun bt337 => (if bt337.2.2 = 0 then (if (bt337.1.length : Int) = 2 then (if 0 < (bt337.1.length : Int) then (if (((rd_T31 bt337.1 0).f0) == 3 && (((rd_T31 bt337.1 0).f1) == 1)) = true then (if 1 < (bt337.1.length : Int) then (if (((rd_T31 bt337.1 1).f0) == 4 && (((rd_T31 bt337.1 1).f1) == 0)) = true then (some ((bt337.2.1.length : Int) == 2)) else (some false)) else (none)) else (some false)) else (none)) else (some false)) else (some false))
set_option maxHeartbeats 8000000 in
set_option maxRecDepth 100000 in
theorem mainsheetlaw19_wakes.calls  (r : Bool) (w : World) (hT : TabW w) (h : mainsheetlaw19_wakes.f  = some r) :
  Calls Tryd.prog 18 #[] w fun e w' => e = .returned (.bool r) ∧ Below w.heap.size w w' := by
 have HT := Aside0.mk hT
 clear hT
 have hu34 := Tryd.underlying34
 have hu90 := Tryd.underlying90
 have hu36 := Tryd.underlying36
 have hu31 := Tryd.underlying31
 have HB := Aside0.mk (Below.refl w.heap.size w)
 have H : ((pick_Pick.f (([(⟨(([3] : List Int)), (⟨(⟨0, 0⟩ : S86), 0⟩ : S88), 0, false⟩ : S90), (⟨(([1, 2] : List Int)), (⟨(⟨0, 0⟩ : S86), 0⟩ : S88), 0, false⟩ : S90), (⟨(([4] : List Int)), (⟨(⟨0, 0⟩ : S86), 0⟩ : S88), 0, false⟩ : S90)] : List (S90))) (([(⟨1, (-1), (⟨3, 0⟩ : S34)⟩ : S36), (⟨2, (-1), (⟨3, 0⟩ : S34)⟩ : S36), (⟨3, 1, (⟨3, 0⟩ : S34)⟩ : S36), (⟨4, (-1), (⟨3, 0⟩ : S34)⟩ : S36)] : List (S36))) 3).bind fun bt337 => (if bt337.2.2 = 0 then (if (bt337.1.length : Int) = 2 then (if 0 < (bt337.1.length : Int) then (if (((rd_T31 bt337.1 0).f0) == 3 && (((rd_T31 bt337.1 0).f1) == 1)) = true then (if 1 < (bt337.1.length : Int) then (if (((rd_T31 bt337.1 1).f0) == 4 && (((rd_T31 bt337.1 1).f1) == 0)) = true then (some ((bt337.2.1.length : Int) == 2)) else (some false)) else (none)) else (some false)) else (none)) else (some false)) else (some false))) = some r := h
 clear h
 obtain ⟨y322, hy322⟩ : ∃ y_ : List Int, y_ = (([3] : List Int)) := ⟨_, rfl⟩
 replace H : ((pick_Pick.f (([(⟨y322, (⟨(⟨0, 0⟩ : S86), 0⟩ : S88), 0, false⟩ : S90), (⟨(([1, 2] : List Int)), (⟨(⟨0, 0⟩ : S86), 0⟩ : S88), 0, false⟩ : S90), (⟨(([4] : List Int)), (⟨(⟨0, 0⟩ : S86), 0⟩ : S88), 0, false⟩ : S90)] : List (S90))) (([(⟨1, (-1), (⟨3, 0⟩ : S34)⟩ : S36), (⟨2, (-1), (⟨3, 0⟩ : S34)⟩ : S36), (⟨3, 1, (⟨3, 0⟩ : S34)⟩ : S36), (⟨4, (-1), (⟨3, 0⟩ : S34)⟩ : S36)] : List (S36))) 3).bind fun bt337 => (if bt337.2.2 = 0 then (if (bt337.1.length : Int) = 2 then (if 0 < (bt337.1.length : Int) then (if (((rd_T31 bt337.1 0).f0) == 3 && (((rd_T31 bt337.1 0).f1) == 1)) = true then (if 1 < (bt337.1.length : Int) then (if (((rd_T31 bt337.1 1).f0) == 4 && (((rd_T31 bt337.1 1).f1) == 0)) = true then (some ((bt337.2.1.length : Int) == 2)) else (some false)) else (none)) else (some false)) else (none)) else (some false)) else (some false))) = some r := by first | (rw [hy322]; with_reducible exact H) | (have H2_ := (Option.bind_some _ _).symm.trans H; rw [hy322]; with_reducible exact H2_) | (have H2_ := (Option.bind_some _ _).symm.trans H; with_reducible exact H2_) | with_reducible exact H | (rw [hy322]; exact H) | exact H
 have Ny322 := Aside0.mk hy322
 clear hy322
 obtain ⟨y325, hy325⟩ : ∃ y_ : List Int, y_ = (([1, 2] : List Int)) := ⟨_, rfl⟩
 replace H : ((pick_Pick.f (([(⟨y322, (⟨(⟨0, 0⟩ : S86), 0⟩ : S88), 0, false⟩ : S90), (⟨y325, (⟨(⟨0, 0⟩ : S86), 0⟩ : S88), 0, false⟩ : S90), (⟨(([4] : List Int)), (⟨(⟨0, 0⟩ : S86), 0⟩ : S88), 0, false⟩ : S90)] : List (S90))) (([(⟨1, (-1), (⟨3, 0⟩ : S34)⟩ : S36), (⟨2, (-1), (⟨3, 0⟩ : S34)⟩ : S36), (⟨3, 1, (⟨3, 0⟩ : S34)⟩ : S36), (⟨4, (-1), (⟨3, 0⟩ : S34)⟩ : S36)] : List (S36))) 3).bind fun bt337 => (if bt337.2.2 = 0 then (if (bt337.1.length : Int) = 2 then (if 0 < (bt337.1.length : Int) then (if (((rd_T31 bt337.1 0).f0) == 3 && (((rd_T31 bt337.1 0).f1) == 1)) = true then (if 1 < (bt337.1.length : Int) then (if (((rd_T31 bt337.1 1).f0) == 4 && (((rd_T31 bt337.1 1).f1) == 0)) = true then (some ((bt337.2.1.length : Int) == 2)) else (some false)) else (none)) else (some false)) else (none)) else (some false)) else (some false))) = some r := by first | (rw [hy325]; with_reducible exact H) | (have H2_ := (Option.bind_some _ _).symm.trans H; rw [hy325]; with_reducible exact H2_) | (have H2_ := (Option.bind_some _ _).symm.trans H; with_reducible exact H2_) | with_reducible exact H | (rw [hy325]; exact H) | exact H
 have Ny325 := Aside0.mk hy325
 clear hy325
 obtain ⟨y328, hy328⟩ : ∃ y_ : List Int, y_ = (([4] : List Int)) := ⟨_, rfl⟩
 replace H : ((pick_Pick.f (([(⟨y322, (⟨(⟨0, 0⟩ : S86), 0⟩ : S88), 0, false⟩ : S90), (⟨y325, (⟨(⟨0, 0⟩ : S86), 0⟩ : S88), 0, false⟩ : S90), (⟨y328, (⟨(⟨0, 0⟩ : S86), 0⟩ : S88), 0, false⟩ : S90)] : List (S90))) (([(⟨1, (-1), (⟨3, 0⟩ : S34)⟩ : S36), (⟨2, (-1), (⟨3, 0⟩ : S34)⟩ : S36), (⟨3, 1, (⟨3, 0⟩ : S34)⟩ : S36), (⟨4, (-1), (⟨3, 0⟩ : S34)⟩ : S36)] : List (S36))) 3).bind fun bt337 => (if bt337.2.2 = 0 then (if (bt337.1.length : Int) = 2 then (if 0 < (bt337.1.length : Int) then (if (((rd_T31 bt337.1 0).f0) == 3 && (((rd_T31 bt337.1 0).f1) == 1)) = true then (if 1 < (bt337.1.length : Int) then (if (((rd_T31 bt337.1 1).f0) == 4 && (((rd_T31 bt337.1 1).f1) == 0)) = true then (some ((bt337.2.1.length : Int) == 2)) else (some false)) else (none)) else (some false)) else (none)) else (some false)) else (some false))) = some r := by first | (rw [hy328]; with_reducible exact H) | (have H2_ := (Option.bind_some _ _).symm.trans H; rw [hy328]; with_reducible exact H2_) | (have H2_ := (Option.bind_some _ _).symm.trans H; with_reducible exact H2_) | with_reducible exact H | (rw [hy328]; exact H) | exact H
 have Ny328 := Aside0.mk hy328
 clear hy328
 obtain ⟨y331, hy331⟩ : ∃ y_ : List (S90), y_ = (([(⟨y322, (⟨(⟨0, 0⟩ : S86), 0⟩ : S88), 0, false⟩ : S90), (⟨y325, (⟨(⟨0, 0⟩ : S86), 0⟩ : S88), 0, false⟩ : S90), (⟨y328, (⟨(⟨0, 0⟩ : S86), 0⟩ : S88), 0, false⟩ : S90)] : List (S90))) := ⟨_, rfl⟩
 replace H : ((pick_Pick.f y331 (([(⟨1, (-1), (⟨3, 0⟩ : S34)⟩ : S36), (⟨2, (-1), (⟨3, 0⟩ : S34)⟩ : S36), (⟨3, 1, (⟨3, 0⟩ : S34)⟩ : S36), (⟨4, (-1), (⟨3, 0⟩ : S34)⟩ : S36)] : List (S36))) 3).bind fun bt337 => (if bt337.2.2 = 0 then (if (bt337.1.length : Int) = 2 then (if 0 < (bt337.1.length : Int) then (if (((rd_T31 bt337.1 0).f0) == 3 && (((rd_T31 bt337.1 0).f1) == 1)) = true then (if 1 < (bt337.1.length : Int) then (if (((rd_T31 bt337.1 1).f0) == 4 && (((rd_T31 bt337.1 1).f1) == 0)) = true then (some ((bt337.2.1.length : Int) == 2)) else (some false)) else (none)) else (some false)) else (none)) else (some false)) else (some false))) = some r := by first | (rw [hy331]; with_reducible exact H) | (have H2_ := (Option.bind_some _ _).symm.trans H; rw [hy331]; with_reducible exact H2_) | (have H2_ := (Option.bind_some _ _).symm.trans H; with_reducible exact H2_) | with_reducible exact H | (rw [hy331]; exact H) | exact H
 have Ny331 := Aside0.mk hy331
 clear hy331
 obtain ⟨y334, hy334⟩ : ∃ y_ : List (S36), y_ = (([(⟨1, (-1), (⟨3, 0⟩ : S34)⟩ : S36), (⟨2, (-1), (⟨3, 0⟩ : S34)⟩ : S36), (⟨3, 1, (⟨3, 0⟩ : S34)⟩ : S36), (⟨4, (-1), (⟨3, 0⟩ : S34)⟩ : S36)] : List (S36))) := ⟨_, rfl⟩
 replace H : ((pick_Pick.f y331 y334 3).bind fun bt337 => (if bt337.2.2 = 0 then (if (bt337.1.length : Int) = 2 then (if 0 < (bt337.1.length : Int) then (if (((rd_T31 bt337.1 0).f0) == 3 && (((rd_T31 bt337.1 0).f1) == 1)) = true then (if 1 < (bt337.1.length : Int) then (if (((rd_T31 bt337.1 1).f0) == 4 && (((rd_T31 bt337.1 1).f1) == 0)) = true then (some ((bt337.2.1.length : Int) == 2)) else (some false)) else (none)) else (some false)) else (none)) else (some false)) else (some false))) = some r := by first | (rw [hy334]; with_reducible exact H) | (have H2_ := (Option.bind_some _ _).symm.trans H; rw [hy334]; with_reducible exact H2_) | (have H2_ := (Option.bind_some _ _).symm.trans H; with_reducible exact H2_) | with_reducible exact H | (rw [hy334]; exact H) | exact H
 have Ny334 := Aside0.mk hy334
 clear hy334
 replace H := Option.bind_eq_some_iff.mp H
 obtain ⟨⟨t337, t338, t339⟩, A10, H⟩ := H
 replace H : (if t339 = 0 then (if (t337.length : Int) = 2 then (if 0 < (t337.length : Int) then (if (((rd_T31 t337 0).f0) == 3 && (((rd_T31 t337 0).f1) == 1)) = true then (if 1 < (t337.length : Int) then (if (((rd_T31 t337 1).f0) == 4 && (((rd_T31 t337 1).f1) == 0)) = true then (some ((t338.length : Int) == 2)) else (some false)) else (none)) else (some false)) else (none)) else (some false)) else (some false)) = some r := H
 have A1 := Aside0.mk A10
 clear A10
 by_cases c2 : t339 = 0
 ·rw [if_pos c2] at H
  have c2b0 : (t339 == 0) = true := beq_iff_eq.mpr c2
  have c2b1 : (t339 != 0) = false := bne_eq_false_iff_eq.mpr c2
  clear c2
  by_cases c3 : (t337.length : Int) = 2
  ·rw [if_pos c3] at H
   have c3b0 : ((t337.length : Int) == 2) = true := beq_iff_eq.mpr c3
   have c3b1 : ((t337.length : Int) != 2) = false := bne_eq_false_iff_eq.mpr c3
   clear c3
   by_cases c4 : 0 < (t337.length : Int)
   ·rw [if_pos c4] at H
    have c4b0 : decide (0 < (t337.length : Int)) = true := decide_eq_true c4
    have c4b1 : decide (0 < t337.length) = true := decide_eq_true (by omega)
    clear c4
    by_cases c5 : (((rd_T31 t337 0).f0) == 3 && (((rd_T31 t337 0).f1) == 1)) = true
    ·rw [if_pos c5] at H
     have c5b0 : (((rd_T31 t337 0).f0) == 3 && (((rd_T31 t337 0).f1) == 1)) = true := c5
     (try (have c5b1 : decide (((rd_T31 t337 0).f0) = 3 && (((rd_T31 t337 0).f1) == 1)) = true := by simpa using c5))
     (try (have c5b2 : (((rd_T31 t337 0).f0) == 3 && (((rd_T31 t337 0).f1) == 1)) = true := by simpa using c5))
     clear c5
     by_cases c6 : 1 < (t337.length : Int)
     ·rw [if_pos c6] at H
      have c6b0 : decide (1 < (t337.length : Int)) = true := decide_eq_true c6
      have c6b1 : decide (1 < t337.length) = true := decide_eq_true (by omega)
      clear c6
      by_cases c7 : (((rd_T31 t337 1).f0) == 4 && (((rd_T31 t337 1).f1) == 0)) = true
      ·rw [if_pos c7] at H
       have c7b0 : (((rd_T31 t337 1).f0) == 4 && (((rd_T31 t337 1).f1) == 0)) = true := c7
       (try (have c7b1 : decide (((rd_T31 t337 1).f0) = 4 && (((rd_T31 t337 1).f1) == 0)) = true := by simpa using c7))
       (try (have c7b2 : (((rd_T31 t337 1).f0) == 4 && (((rd_T31 t337 1).f1) == 0)) = true := by simpa using c7))
       clear c7
       obtain rfl := Option.some.inj H
       go_enter Tryd.func18, Tryd.ntmps18
       go_wp2_with (first | ((with_reducible refine gate_dst (N := 1) rfl ?_); (try (refine gate_guard (by rfl) ?_; dsimp only)); refine box_event ?hg (N := 1) ?hd (cs := #[.int .u32 0, .int .u32 0]) (t := 34) ?hr ?_; (case hd => rfl); (case hg => rfl); (case hr => first | (go_simp; done) | (go_simp; rfl)); intro gb321 hg w8 hbox hb; have n0_ := Aside0.mk (below_step (by repeat (first | (with_reducible first | exact HB.out | apply below_alloc | apply pw_below_drewN | apply below_drew1) | exact HB.out)) hb); have n1_ := Aside0.mk (hbox); have n2_ := Aside0.mk ((by rw [hg]; exact (below_size (by repeat (first | (with_reducible first | exact HB.out | apply below_alloc | apply pw_below_drewN | apply below_drew1) | exact HB.out))) : w.heap.size ≤ gb321)); have n3_ := Aside0.mk ((by rw [hg]; exact (below_size (by repeat (first | (with_reducible first | exact HB.out | apply below_alloc | apply pw_below_drewN | apply below_drew1) | exact HB.out))) : w.heap.size ≤ gb321)); clear HB; have HB := n0_; have BK321 := n1_; have GW321 := n2_; have GE321 := n3_; clear n0_ n1_ n2_ n3_; clear hb hbox hg; have hcz9_0 : w8.cell? ⟨gb321, 0, none⟩ = some (.int .u32 0) := (blk_cell BK321.out 0).trans rfl; have hcz9_1 : w8.cell? ⟨gb321, 1, none⟩ = some (.int .u32 0) := (blk_cell BK321.out 1).trans rfl; have hfz9_0 := blk_frozen BK321.out 0; have hfz9_1 := blk_frozen BK321.out 1) | ((with_reducible refine gate_dst (N := 8) rfl ?_); (try (refine gate_guard (by rfl) ?_; dsimp only)); refine Kd.R_lit (Kd.int .i64) _ 3 ?hg (N := 8) ?hd (xs := ([3] : List Int)) (inner := [.int .i64 3]) (ok := fun _ => True) (okp := fun _ => True) ?hr ?hp (fun _ hk => hk) trivial (Below.refl _ _) (Nat.le_refl _) (by simp) ?_; (case hd => rfl); (case hg => rfl); (case hr => first | (go_simp; done) | (go_simp; rfl)); (case hp => exact (Reps.one (show Kd.M (Kd.int .i64) _ _ _ 3 [.int .i64 3] from rfl) (Reps.none _ _))); intro v323 w10 ho11 hb hg_ hnew_; clear hg_ hnew_; (first | rw [← Ny322.out] at ho11 | (simp only [Int.reduceToNat] at ho11; rw [← Ny322.out] at ho11)); have n0_ := Aside0.mk (Kd.R_lower ho11 (below_size (by repeat (first | (with_reducible first | exact HB.out | apply below_alloc | apply pw_below_drewN | apply below_drew1 | refine below_set ?_ GE321.out) | exact HB.out)))); have n1_ := Aside0.mk (blk_below (g := gb321) (o := .cells #[.int .u32 3, .int .u32 0] 34 (0, 0)) (by (with_reducible repeat (first | refine blk_drewN ?_ _ | refine blk_drew ?_ | refine blk_alloc ?_ _)); refine blk_put (cs := #[.int .u32 3, .int .u32 0]) ?_ 1 _ rfl; (with_reducible repeat (first | refine blk_drewN ?_ _ | refine blk_drew ?_ | refine blk_alloc ?_ _)); refine blk_put (cs := #[.int .u32 0, .int .u32 0]) ?_ 0 _ rfl; (with_reducible repeat (first | refine blk_drewN ?_ _ | refine blk_drew ?_ | refine blk_alloc ?_ _)); exact BK321.out) hb); have n2_ := Aside0.mk (below_step (by repeat (first | (with_reducible first | exact HB.out | apply below_alloc | apply pw_below_drewN | apply below_drew1 | refine below_set ?_ GE321.out) | exact HB.out)) hb); clear BK321; clear HB; have HO324 := n0_; have BK321 := n1_; have HB := n2_; clear n0_ n1_ n2_; clear hb ho11; obtain ⟨Ao12, co12, eo12⟩ := Kd.R_slice HO324.out; subst eo12) | ((with_reducible refine gate_dst (N := 10) rfl ?_); (try (refine gate_guard (by rfl) ?_; dsimp only)); refine Kd.R_lit (Kd.int .i64) _ 3 ?hg (N := 10) ?hd (xs := ([1, 2] : List Int)) (inner := [.int .i64 1, .int .i64 2]) (ok := fun _ => True) (okp := fun _ => True) ?hr ?hp (fun _ hk => hk) trivial (Below.refl _ _) (Nat.le_refl _) (by simp) ?_; (case hd => rfl); (case hg => rfl); (case hr => first | (go_simp; done) | (go_simp; rfl)); (case hp => exact (Reps.one (show Kd.M (Kd.int .i64) _ _ _ 1 [.int .i64 1] from rfl) (Reps.one (show Kd.M (Kd.int .i64) _ _ _ 2 [.int .i64 2] from rfl) (Reps.none _ _)))); intro v326 w13 ho14 hb hg_ hnew_; clear hg_ hnew_; (first | rw [← Ny325.out] at ho14 | (simp only [Int.reduceToNat] at ho14; rw [← Ny325.out] at ho14)); have n0_ := Aside0.mk (Kd.R_elder' (by (with_reducible repeat (first | apply Kd.R_alloc | apply Kd.R_drewN | apply Kd.R_drew)); exact HO324.out) (Kd.R_base ho14) hb); have n1_ := Aside0.mk (Kd.R_lower (Kd.R_new' ho14 (Kd.R_lt (by (with_reducible repeat (first | apply Kd.R_alloc | apply Kd.R_drewN | apply Kd.R_drew)); exact HO324.out))) (below_size (by repeat (first | (with_reducible first | exact HB.out | apply below_alloc | apply pw_below_drewN | apply below_drew1 | refine below_set ?_ GE321.out) | exact HB.out)))); have n2_ := Aside0.mk (blk_below (g := gb321) (o := .cells #[.int .u32 3, .int .u32 0] 34 (0, 0)) (by (with_reducible repeat (first | refine blk_drewN ?_ _ | refine blk_drew ?_ | refine blk_alloc ?_ _)); exact BK321.out) hb); have n3_ := Aside0.mk (below_step (by repeat (first | (with_reducible first | exact HB.out | apply below_alloc | apply pw_below_drewN | apply below_drew1 | refine below_set ?_ GE321.out) | exact HB.out)) hb); clear HO324; clear BK321; clear HB; have HO324 := n0_; have HO327 := n1_; have BK321 := n2_; have HB := n3_; clear n0_ n1_ n2_ n3_; clear hb ho14; obtain ⟨Ao15, co15, eo15⟩ := Kd.R_slice HO327.out; subst eo15) | ((with_reducible refine gate_dst (N := 12) rfl ?_); (try (refine gate_guard (by rfl) ?_; dsimp only)); refine Kd.R_lit (Kd.int .i64) _ 3 ?hg (N := 12) ?hd (xs := ([4] : List Int)) (inner := [.int .i64 4]) (ok := fun _ => True) (okp := fun _ => True) ?hr ?hp (fun _ hk => hk) trivial (Below.refl _ _) (Nat.le_refl _) (by simp) ?_; (case hd => rfl); (case hg => rfl); (case hr => first | (go_simp; done) | (go_simp; rfl)); (case hp => exact (Reps.one (show Kd.M (Kd.int .i64) _ _ _ 4 [.int .i64 4] from rfl) (Reps.none _ _))); intro v329 w16 ho17 hb hg_ hnew_; clear hg_ hnew_; (first | rw [← Ny328.out] at ho17 | (simp only [Int.reduceToNat] at ho17; rw [← Ny328.out] at ho17)); have n0_ := Aside0.mk (Kd.R_elder' (by (with_reducible repeat (first | apply Kd.R_alloc | apply Kd.R_drewN | apply Kd.R_drew)); exact HO324.out) (Kd.R_base ho17) hb); have n1_ := Aside0.mk (Kd.R_elder' (by (with_reducible repeat (first | apply Kd.R_alloc | apply Kd.R_drewN | apply Kd.R_drew)); exact HO327.out) (Kd.R_base ho17) hb); have n2_ := Aside0.mk (Kd.R_lower (Kd.R_new' (Kd.R_new' ho17 (Kd.R_lt (by (with_reducible repeat (first | apply Kd.R_alloc | apply Kd.R_drewN | apply Kd.R_drew)); exact HO324.out))) (Kd.R_lt (by (with_reducible repeat (first | apply Kd.R_alloc | apply Kd.R_drewN | apply Kd.R_drew)); exact HO327.out))) (below_size (by repeat (first | (with_reducible first | exact HB.out | apply below_alloc | apply pw_below_drewN | apply below_drew1 | refine below_set ?_ GE321.out) | exact HB.out)))); have n3_ := Aside0.mk (blk_below (g := gb321) (o := .cells #[.int .u32 3, .int .u32 0] 34 (0, 0)) (by (with_reducible repeat (first | refine blk_drewN ?_ _ | refine blk_drew ?_ | refine blk_alloc ?_ _)); exact BK321.out) hb); have n4_ := Aside0.mk (below_step (by repeat (first | (with_reducible first | exact HB.out | apply below_alloc | apply pw_below_drewN | apply below_drew1 | refine below_set ?_ GE321.out) | exact HB.out)) hb); clear HO324; clear HO327; clear BK321; clear HB; have HO324 := n0_; have HO327 := n1_; have HO330 := n2_; have BK321 := n3_; have HB := n4_; clear n0_ n1_ n2_ n3_ n4_; clear hb ho17; obtain ⟨Ao18, co18, eo18⟩ := Kd.R_slice HO330.out; subst eo18) | ((with_reducible refine gate_dst (N := 14) rfl ?_); (try (refine gate_guard (by rfl) ?_; dsimp only)); refine Kd.N_lit k90 _ 90 ?hg (N' := 14) ?hd (xs := ([(⟨y322, (⟨(⟨0, 0⟩ : S86), 0⟩ : S88), 0, false⟩ : S90), (⟨y325, (⟨(⟨0, 0⟩ : S86), 0⟩ : S88), 0, false⟩ : S90), (⟨y328, (⟨(⟨0, 0⟩ : S86), 0⟩ : S88), 0, false⟩ : S90)] : List (S90))) (inner := [.slice Ao12 y322.length co12, .int .u64 0, .int .u64 0, .int .u64 0, .int .u64 0, .bool false, .slice Ao15 y325.length co15, .int .u64 0, .int .u64 0, .int .u64 0, .int .u64 0, .bool false, .slice Ao18 y328.length co18, .int .u64 0, .int .u64 0, .int .u64 0, .int .u64 0, .bool false]) (ok := (fun k_ => k_ ≠ gb321)) (okp := (fun k_ => k_ ≠ gb321)) ?hr ?hp (fun _ hk => hk) ((show ∀ k_, w16.heap.size ≤ k_ → (fun k_ => k_ ≠ gb321) k_ from fun k_ hk => Kd.freshB (g := gb321) (o := .cells #[.int .u32 3, .int .u32 0] 34 (0, 0)) (by (with_reducible repeat (first | refine blk_drewN ?_ _ | refine blk_drew ?_ | refine blk_alloc ?_ _)); exact BK321.out) k_ hk) _ (Nat.le_refl _)) (Below.refl _ _) (Nat.le_refl _) (by simp) ?_; (case hd => rfl); (case hg => rfl); (case hr => first | (go_simp; done) | (go_simp; rfl)); (case hp => exact (Reps.c6 (show Kd.FK k90 _ _ (⟨y322, (⟨(⟨0, 0⟩ : S86), 0⟩ : S88), 0, false⟩ : S90) [.slice Ao12 y322.length co12, .int .u64 0, .int .u64 0, .int .u64 0, .int .u64 0, .bool false] from (k90_mkF _ _ (⟨y322, (⟨(⟨0, 0⟩ : S86), 0⟩ : S88), 0, false⟩ : S90) (Kd.R_reads' (Kd.R_mono (ok' := (fun k_ => k_ ≠ gb321)) (Kd.R_types (HO324.out) BK321.out (by decide)) (fun k_ hk => hk.2))).2.1 (Kd.R_F (Kd.R_mono (ok' := (fun k_ => k_ ≠ gb321)) (Kd.R_types (HO324.out) BK321.out (by decide)) (fun k_ hk => hk.2))))) (Reps.c6 (show Kd.FK k90 _ _ (⟨y325, (⟨(⟨0, 0⟩ : S86), 0⟩ : S88), 0, false⟩ : S90) [.slice Ao15 y325.length co15, .int .u64 0, .int .u64 0, .int .u64 0, .int .u64 0, .bool false] from (k90_mkF _ _ (⟨y325, (⟨(⟨0, 0⟩ : S86), 0⟩ : S88), 0, false⟩ : S90) (Kd.R_reads' (Kd.R_mono (ok' := (fun k_ => k_ ≠ gb321)) (Kd.R_types (HO327.out) BK321.out (by decide)) (fun k_ hk => hk.2))).2.1 (Kd.R_F (Kd.R_mono (ok' := (fun k_ => k_ ≠ gb321)) (Kd.R_types (HO327.out) BK321.out (by decide)) (fun k_ hk => hk.2))))) (Reps.c6 (show Kd.FK k90 _ _ (⟨y328, (⟨(⟨0, 0⟩ : S86), 0⟩ : S88), 0, false⟩ : S90) [.slice Ao18 y328.length co18, .int .u64 0, .int .u64 0, .int .u64 0, .int .u64 0, .bool false] from (k90_mkF _ _ (⟨y328, (⟨(⟨0, 0⟩ : S86), 0⟩ : S88), 0, false⟩ : S90) (Kd.R_reads' (Kd.R_mono (ok' := (fun k_ => k_ ≠ gb321)) (Kd.R_types (HO330.out) BK321.out (by decide)) (fun k_ hk => hk.2))).2.1 (Kd.R_F (Kd.R_mono (ok' := (fun k_ => k_ ≠ gb321)) (Kd.R_types (HO330.out) BK321.out (by decide)) (fun k_ hk => hk.2))))) (Reps.none _ _))))); intro v332 w19 ho20 hb hg_ hnew_; clear hg_ hnew_; (first | rw [← Ny331.out] at ho20 | (simp only [Int.reduceToNat] at ho20; rw [← Ny331.out] at ho20)); have n0_ := Aside0.mk (Kd.N_lower ho20 (below_size (by repeat (first | (with_reducible first | exact HB.out | apply below_alloc | apply pw_below_drewN | apply below_drew1 | refine below_set ?_ GE321.out) | exact HB.out)))); have n1_ := Aside0.mk (blk_below (g := gb321) (o := .cells #[.int .u32 3, .int .u32 0] 34 (0, 0)) (by (with_reducible repeat (first | refine blk_drewN ?_ _ | refine blk_drew ?_ | refine blk_alloc ?_ _)); exact BK321.out) hb); have n2_ := Aside0.mk (below_step (by repeat (first | (with_reducible first | exact HB.out | apply below_alloc | apply pw_below_drewN | apply below_drew1 | refine below_set ?_ GE321.out) | exact HB.out)) hb); clear BK321; clear HB; clear HO324; clear HO327; clear HO330; have HO333 := n0_; have BK321 := n1_; have HB := n2_; clear n0_ n1_ n2_; clear hb ho20; have hcz21_0 : w19.cell? ⟨gb321, 0, none⟩ = some (.int .u32 3) := (blk_cell BK321.out 0).trans rfl; have hcz21_1 : w19.cell? ⟨gb321, 1, none⟩ = some (.int .u32 0) := (blk_cell BK321.out 1).trans rfl; have hfz21_0 := blk_frozen BK321.out 0; have hfz21_1 := blk_frozen BK321.out 1) | ((with_reducible refine gate_dst (N := 23) rfl ?_); (try (refine gate_guard (by rfl) ?_; dsimp only)); refine Kd.R_lit k36 _ 36 ?hg (N := 23) ?hd (xs := ([(⟨1, (-1), (⟨3, 0⟩ : S34)⟩ : S36), (⟨2, (-1), (⟨3, 0⟩ : S34)⟩ : S36), (⟨3, 1, (⟨3, 0⟩ : S34)⟩ : S36), (⟨4, (-1), (⟨3, 0⟩ : S34)⟩ : S36)] : List (S36))) (inner := [.int .i64 1, .int .i64 (-1), .int .u32 3, .int .u32 0, .int .i64 2, .int .i64 (-1), .int .u32 3, .int .u32 0, .int .i64 3, .int .i64 1, .int .u32 3, .int .u32 0, .int .i64 4, .int .i64 (-1), .int .u32 3, .int .u32 0]) (ok := fun _ => True) (okp := fun _ => True) ?hr ?hp (fun _ hk => hk) trivial (Below.refl _ _) (Nat.le_refl _) (by simp) ?_; (case hd => rfl); (case hg => rfl); (case hr => first | (go_simp; done) | (go_simp; rfl)); (case hp => exact (Reps.c4 (show Kd.M k36 _ _ _ (⟨1, (-1), (⟨3, 0⟩ : S34)⟩ : S36) [.int .i64 1, .int .i64 (-1), .int .u32 3, .int .u32 0] from (k36_mkM _ _ _ (⟨1, (-1), (⟨3, 0⟩ : S34)⟩ : S36) )) (Reps.c4 (show Kd.M k36 _ _ _ (⟨2, (-1), (⟨3, 0⟩ : S34)⟩ : S36) [.int .i64 2, .int .i64 (-1), .int .u32 3, .int .u32 0] from (k36_mkM _ _ _ (⟨2, (-1), (⟨3, 0⟩ : S34)⟩ : S36) )) (Reps.c4 (show Kd.M k36 _ _ _ (⟨3, 1, (⟨3, 0⟩ : S34)⟩ : S36) [.int .i64 3, .int .i64 1, .int .u32 3, .int .u32 0] from (k36_mkM _ _ _ (⟨3, 1, (⟨3, 0⟩ : S34)⟩ : S36) )) (Reps.c4 (show Kd.M k36 _ _ _ (⟨4, (-1), (⟨3, 0⟩ : S34)⟩ : S36) [.int .i64 4, .int .i64 (-1), .int .u32 3, .int .u32 0] from (k36_mkM _ _ _ (⟨4, (-1), (⟨3, 0⟩ : S34)⟩ : S36) )) (Reps.none _ _)))))); intro v335 w22 ho23 hb hg_ hnew_; clear hg_ hnew_; (first | rw [← Ny334.out] at ho23 | (simp only [Int.reduceToNat] at ho23; rw [← Ny334.out] at ho23)); have n0_ := Aside0.mk (Kd.N_elder' (by (with_reducible repeat (first | apply Kd.N_alloc | apply Kd.N_drewN | apply Kd.N_drew)); exact HO333.out) (Kd.R_base ho23) hb); have n1_ := Aside0.mk (Kd.R_lower ho23 (below_size (by repeat (first | (with_reducible first | exact HB.out | apply below_alloc | apply pw_below_drewN | apply below_drew1 | refine below_set ?_ GE321.out) | exact HB.out)))); have n2_ := Aside0.mk (blk_below (g := gb321) (o := .cells #[.int .u32 3, .int .u32 0] 34 (0, 0)) (by (with_reducible repeat (first | refine blk_drewN ?_ _ | refine blk_drew ?_ | refine blk_alloc ?_ _)); exact BK321.out) hb); have n3_ := Aside0.mk (below_step (by repeat (first | (with_reducible first | exact HB.out | apply below_alloc | apply pw_below_drewN | apply below_drew1 | refine below_set ?_ GE321.out) | exact HB.out)) hb); clear HO333; clear BK321; clear HB; have HO333 := n0_; have HO336 := n1_; have BK321 := n2_; have HB := n3_; clear n0_ n1_ n2_ n3_; clear hb ho23; obtain ⟨Ao24, co24, eo24⟩ := Kd.N_slice HO333.out; subst eo24; obtain ⟨Ao25, co25, eo25⟩ := Kd.R_slice HO336.out; subst eo25) | ((with_reducible refine gate_callee (f := 20) rfl ?_); refine goesL_ (some 27) rfl rfl Tryd.func20 (by kernel_rfl) rfl #[.slice Ao24 y331.length co24, .slice Ao25 y334.length co25, .int .u32 3] rfl (by (try simp only [List.map_toArray, List.map_cons, List.map_nil]); first | done | rfl | (simp only [List.length_drop, List.length_take]; rfl)) ?_; (with_reducible refine (pick_Pick.calls _ _ y331 _ _ y334 3 t337 t338 t339 _ ?side1 ?side2 ?side3 ?side4 ?tb A1.out).mono ?_); (case tb => exact HT.out.step (by repeat (first | (with_reducible first | exact HB.out | apply below_alloc | apply pw_below_drewN | apply below_drew1 | refine below_set ?_ GE321.out) | exact HB.out))); (case side1 => repeat (first | exact (Kd.N_reads' HO333.out).2.2 | (with_reducible refine Kd.C_alloc ?_ _) | (with_reducible refine Kd.C_drewN ?_ _) | (with_reducible refine Kd.C_drew ?_))); (case side2 => exact (Kd.N_reads' HO333.out).2.1); (case side3 => repeat (first | exact (Kd.R_reads' HO336.out).2.2 | (with_reducible refine Kd.C_alloc ?_ _) | (with_reducible refine Kd.C_drewN ?_ _) | (with_reducible refine Kd.C_drew ?_))); (case side4 => exact (Kd.R_reads' HO336.out).2.1); rintro e w26 ⟨v340, v342, rfl, ho0, ho1, hb⟩; refine ⟨_, rfl, ?_⟩; have n0_ := Aside0.mk (Kd.N_mono (Kd.N_told (Kd.N_told (Kd.N_old (by (with_reducible repeat (first | apply Kd.N_alloc | apply Kd.N_drewN | apply Kd.N_drew)); exact HO333.out) hb) (Kd.R_base ho0)) (Kd.R_base ho1)) (fun _ h_ => h_.1)); have n1_ := Aside0.mk (Kd.R_below (by (with_reducible repeat (first | apply Kd.R_alloc | apply Kd.R_drewN | apply Kd.R_drew)); exact HO336.out) hb); have n2_ := Aside0.mk (Kd.R_lower ho0 (below_size (by repeat (first | (with_reducible first | exact HB.out | apply below_alloc | apply pw_below_drewN | apply below_drew1 | refine below_set ?_ GE321.out) | exact HB.out)))); have n3_ := Aside0.mk (Kd.R_lower ho1 (below_size (by repeat (first | (with_reducible first | exact HB.out | apply below_alloc | apply pw_below_drewN | apply below_drew1 | refine below_set ?_ GE321.out) | exact HB.out)))); have n4_ := Aside0.mk (blk_below (g := gb321) (o := .cells #[.int .u32 3, .int .u32 0] 34 (0, 0)) (by (with_reducible repeat (first | refine blk_drewN ?_ _ | refine blk_drew ?_ | refine blk_alloc ?_ _)); exact BK321.out) hb); have n5_ := Aside0.mk (below_step (by repeat (first | (with_reducible first | exact HB.out | apply below_alloc | apply pw_below_drewN | apply below_drew1 | refine below_set ?_ GE321.out) | exact HB.out)) hb); clear HO333; clear HO336; clear BK321; clear HB; have HO333 := n0_; have HO336 := n1_; have HO341 := n2_; have HO343 := n3_; have BK321 := n4_; have HB := n5_; clear n0_ n1_ n2_ n3_ n4_ n5_; (try clear hb); (try clear hb2); (try clear hk); (try clear hi); (try clear ho0); (try clear ho1); obtain ⟨Ao27, co27, eo27⟩ := Kd.R_slice HO341.out; subst eo27; have p344 : 0 ≤ (0 : Int) := (by omega); have q344 : 0 < (t337.length : Int) := of_decide_eq_true (by first | (with_reducible assumption) | assumption); obtain ⟨ad344, e344, hx344_0, hx344_1⟩ := at_T31 (Kd.R_reads' HO341.out).2.2 0 p344 q344; cases e344; have qi344 : (0 < t337.length) = True := eq_true (by omega); (try rw [show ((0 : Int)).toNat = 0 from rfl] at hx344_0); (try rw [show 0 * 2 = 0 from rfl] at hx344_0); (try rw [Addr.add_zero'] at hx344_0); (try rw [show ((0 : Int)).toNat = 0 from rfl] at hx344_1); (try rw [show 0 * 2 = 0 from rfl] at hx344_1); (try rw [Addr.add_zero'] at hx344_1); replace p344 := eq_true p344; replace q344 := eq_true q344; have p345 : 0 ≤ (1 : Int) := (by omega); have q345 : 1 < (t337.length : Int) := of_decide_eq_true (by first | (with_reducible assumption) | assumption); obtain ⟨ad345, e345, hx345_0, hx345_1⟩ := at_T31 (Kd.R_reads' HO341.out).2.2 1 p345 q345; obtain rfl : ad344 = ad345 := (by injection e345); (try simp only [show (1 : Int).toNat = 1 from rfl, Nat.reduceMul, Nat.reduceEqDiff, Go.Addr.add, ↓reduceIte] at hx345_0); (try simp only [show (1 : Int).toNat = 1 from rfl, Nat.reduceMul, Nat.reduceEqDiff, Go.Addr.add, ↓reduceIte] at hx345_1); have qi345 : (1 < t337.length) = True := eq_true (by omega); (try rw [show ((1 : Int)).toNat = 1 from rfl] at hx345_0); (try rw [show 1 * 2 = 2 from rfl] at hx345_0); (try rw [show ((1 : Int)).toNat = 1 from rfl] at hx345_1); (try rw [show 1 * 2 = 2 from rfl] at hx345_1); replace p345 := eq_true p345; replace q345 := eq_true q345; obtain ⟨Ao28, co28, eo28⟩ := Kd.R_slice HO343.out; subst eo28))
       go_ret
       exact ⟨by first | rfl | (simp [errW_none, errW_some] <;> rfl) | (simp [*, errW_none, errW_some] <;> rfl), by repeat (first | (with_reducible first | exact HB.out | apply below_alloc | apply pw_below_drewN | apply below_drew1 | refine below_set ?_ GE321.out) | exact HB.out)⟩
      ·rw [if_neg c7] at H
       have c7b0 : (((rd_T31 t337 1).f0) == 4 && (((rd_T31 t337 1).f1) == 0)) = false := by simpa using c7
       (try (have c7b1 : decide (((rd_T31 t337 1).f0) = 4 && (((rd_T31 t337 1).f1) == 0)) = false := by simpa using c7))
       (try (have c7b2 : (((rd_T31 t337 1).f0) == 4 && (((rd_T31 t337 1).f1) == 0)) = false := by simpa using c7))
       (try (have c7b3 : ¬ (((rd_T31 t337 1).f0) = 4 && (((rd_T31 t337 1).f1) == 0)) := by simpa using c7))
       clear c7
       obtain rfl := Option.some.inj H
       go_enter Tryd.func18, Tryd.ntmps18
       go_wp2_with (first | ((with_reducible refine gate_dst (N := 1) rfl ?_); (try (refine gate_guard (by rfl) ?_; dsimp only)); refine box_event ?hg (N := 1) ?hd (cs := #[.int .u32 0, .int .u32 0]) (t := 34) ?hr ?_; (case hd => rfl); (case hg => rfl); (case hr => first | (go_simp; done) | (go_simp; rfl)); intro gb321 hg w29 hbox hb; have n0_ := Aside0.mk (below_step (by repeat (first | (with_reducible first | exact HB.out | apply below_alloc | apply pw_below_drewN | apply below_drew1) | exact HB.out)) hb); have n1_ := Aside0.mk (hbox); have n2_ := Aside0.mk ((by rw [hg]; exact (below_size (by repeat (first | (with_reducible first | exact HB.out | apply below_alloc | apply pw_below_drewN | apply below_drew1) | exact HB.out))) : w.heap.size ≤ gb321)); have n3_ := Aside0.mk ((by rw [hg]; exact (below_size (by repeat (first | (with_reducible first | exact HB.out | apply below_alloc | apply pw_below_drewN | apply below_drew1) | exact HB.out))) : w.heap.size ≤ gb321)); clear HB; have HB := n0_; have BK321 := n1_; have GW321 := n2_; have GE321 := n3_; clear n0_ n1_ n2_ n3_; clear hb hbox hg; have hcz30_0 : w29.cell? ⟨gb321, 0, none⟩ = some (.int .u32 0) := (blk_cell BK321.out 0).trans rfl; have hcz30_1 : w29.cell? ⟨gb321, 1, none⟩ = some (.int .u32 0) := (blk_cell BK321.out 1).trans rfl; have hfz30_0 := blk_frozen BK321.out 0; have hfz30_1 := blk_frozen BK321.out 1) | ((with_reducible refine gate_dst (N := 8) rfl ?_); (try (refine gate_guard (by rfl) ?_; dsimp only)); refine Kd.R_lit (Kd.int .i64) _ 3 ?hg (N := 8) ?hd (xs := ([3] : List Int)) (inner := [.int .i64 3]) (ok := fun _ => True) (okp := fun _ => True) ?hr ?hp (fun _ hk => hk) trivial (Below.refl _ _) (Nat.le_refl _) (by simp) ?_; (case hd => rfl); (case hg => rfl); (case hr => first | (go_simp; done) | (go_simp; rfl)); (case hp => exact (Reps.one (show Kd.M (Kd.int .i64) _ _ _ 3 [.int .i64 3] from rfl) (Reps.none _ _))); intro v323 w31 ho32 hb hg_ hnew_; clear hg_ hnew_; (first | rw [← Ny322.out] at ho32 | (simp only [Int.reduceToNat] at ho32; rw [← Ny322.out] at ho32)); have n0_ := Aside0.mk (Kd.R_lower ho32 (below_size (by repeat (first | (with_reducible first | exact HB.out | apply below_alloc | apply pw_below_drewN | apply below_drew1 | refine below_set ?_ GE321.out) | exact HB.out)))); have n1_ := Aside0.mk (blk_below (g := gb321) (o := .cells #[.int .u32 3, .int .u32 0] 34 (0, 0)) (by (with_reducible repeat (first | refine blk_drewN ?_ _ | refine blk_drew ?_ | refine blk_alloc ?_ _)); refine blk_put (cs := #[.int .u32 3, .int .u32 0]) ?_ 1 _ rfl; (with_reducible repeat (first | refine blk_drewN ?_ _ | refine blk_drew ?_ | refine blk_alloc ?_ _)); refine blk_put (cs := #[.int .u32 0, .int .u32 0]) ?_ 0 _ rfl; (with_reducible repeat (first | refine blk_drewN ?_ _ | refine blk_drew ?_ | refine blk_alloc ?_ _)); exact BK321.out) hb); have n2_ := Aside0.mk (below_step (by repeat (first | (with_reducible first | exact HB.out | apply below_alloc | apply pw_below_drewN | apply below_drew1 | refine below_set ?_ GE321.out) | exact HB.out)) hb); clear BK321; clear HB; have HO324 := n0_; have BK321 := n1_; have HB := n2_; clear n0_ n1_ n2_; clear hb ho32; obtain ⟨Ao33, co33, eo33⟩ := Kd.R_slice HO324.out; subst eo33) | ((with_reducible refine gate_dst (N := 10) rfl ?_); (try (refine gate_guard (by rfl) ?_; dsimp only)); refine Kd.R_lit (Kd.int .i64) _ 3 ?hg (N := 10) ?hd (xs := ([1, 2] : List Int)) (inner := [.int .i64 1, .int .i64 2]) (ok := fun _ => True) (okp := fun _ => True) ?hr ?hp (fun _ hk => hk) trivial (Below.refl _ _) (Nat.le_refl _) (by simp) ?_; (case hd => rfl); (case hg => rfl); (case hr => first | (go_simp; done) | (go_simp; rfl)); (case hp => exact (Reps.one (show Kd.M (Kd.int .i64) _ _ _ 1 [.int .i64 1] from rfl) (Reps.one (show Kd.M (Kd.int .i64) _ _ _ 2 [.int .i64 2] from rfl) (Reps.none _ _)))); intro v326 w34 ho35 hb hg_ hnew_; clear hg_ hnew_; (first | rw [← Ny325.out] at ho35 | (simp only [Int.reduceToNat] at ho35; rw [← Ny325.out] at ho35)); have n0_ := Aside0.mk (Kd.R_elder' (by (with_reducible repeat (first | apply Kd.R_alloc | apply Kd.R_drewN | apply Kd.R_drew)); exact HO324.out) (Kd.R_base ho35) hb); have n1_ := Aside0.mk (Kd.R_lower (Kd.R_new' ho35 (Kd.R_lt (by (with_reducible repeat (first | apply Kd.R_alloc | apply Kd.R_drewN | apply Kd.R_drew)); exact HO324.out))) (below_size (by repeat (first | (with_reducible first | exact HB.out | apply below_alloc | apply pw_below_drewN | apply below_drew1 | refine below_set ?_ GE321.out) | exact HB.out)))); have n2_ := Aside0.mk (blk_below (g := gb321) (o := .cells #[.int .u32 3, .int .u32 0] 34 (0, 0)) (by (with_reducible repeat (first | refine blk_drewN ?_ _ | refine blk_drew ?_ | refine blk_alloc ?_ _)); exact BK321.out) hb); have n3_ := Aside0.mk (below_step (by repeat (first | (with_reducible first | exact HB.out | apply below_alloc | apply pw_below_drewN | apply below_drew1 | refine below_set ?_ GE321.out) | exact HB.out)) hb); clear HO324; clear BK321; clear HB; have HO324 := n0_; have HO327 := n1_; have BK321 := n2_; have HB := n3_; clear n0_ n1_ n2_ n3_; clear hb ho35; obtain ⟨Ao36, co36, eo36⟩ := Kd.R_slice HO327.out; subst eo36) | ((with_reducible refine gate_dst (N := 12) rfl ?_); (try (refine gate_guard (by rfl) ?_; dsimp only)); refine Kd.R_lit (Kd.int .i64) _ 3 ?hg (N := 12) ?hd (xs := ([4] : List Int)) (inner := [.int .i64 4]) (ok := fun _ => True) (okp := fun _ => True) ?hr ?hp (fun _ hk => hk) trivial (Below.refl _ _) (Nat.le_refl _) (by simp) ?_; (case hd => rfl); (case hg => rfl); (case hr => first | (go_simp; done) | (go_simp; rfl)); (case hp => exact (Reps.one (show Kd.M (Kd.int .i64) _ _ _ 4 [.int .i64 4] from rfl) (Reps.none _ _))); intro v329 w37 ho38 hb hg_ hnew_; clear hg_ hnew_; (first | rw [← Ny328.out] at ho38 | (simp only [Int.reduceToNat] at ho38; rw [← Ny328.out] at ho38)); have n0_ := Aside0.mk (Kd.R_elder' (by (with_reducible repeat (first | apply Kd.R_alloc | apply Kd.R_drewN | apply Kd.R_drew)); exact HO324.out) (Kd.R_base ho38) hb); have n1_ := Aside0.mk (Kd.R_elder' (by (with_reducible repeat (first | apply Kd.R_alloc | apply Kd.R_drewN | apply Kd.R_drew)); exact HO327.out) (Kd.R_base ho38) hb); have n2_ := Aside0.mk (Kd.R_lower (Kd.R_new' (Kd.R_new' ho38 (Kd.R_lt (by (with_reducible repeat (first | apply Kd.R_alloc | apply Kd.R_drewN | apply Kd.R_drew)); exact HO324.out))) (Kd.R_lt (by (with_reducible repeat (first | apply Kd.R_alloc | apply Kd.R_drewN | apply Kd.R_drew)); exact HO327.out))) (below_size (by repeat (first | (with_reducible first | exact HB.out | apply below_alloc | apply pw_below_drewN | apply below_drew1 | refine below_set ?_ GE321.out) | exact HB.out)))); have n3_ := Aside0.mk (blk_below (g := gb321) (o := .cells #[.int .u32 3, .int .u32 0] 34 (0, 0)) (by (with_reducible repeat (first | refine blk_drewN ?_ _ | refine blk_drew ?_ | refine blk_alloc ?_ _)); exact BK321.out) hb); have n4_ := Aside0.mk (below_step (by repeat (first | (with_reducible first | exact HB.out | apply below_alloc | apply pw_below_drewN | apply below_drew1 | refine below_set ?_ GE321.out) | exact HB.out)) hb); clear HO324; clear HO327; clear BK321; clear HB; have HO324 := n0_; have HO327 := n1_; have HO330 := n2_; have BK321 := n3_; have HB := n4_; clear n0_ n1_ n2_ n3_ n4_; clear hb ho38; obtain ⟨Ao39, co39, eo39⟩ := Kd.R_slice HO330.out; subst eo39) | ((with_reducible refine gate_dst (N := 14) rfl ?_); (try (refine gate_guard (by rfl) ?_; dsimp only)); refine Kd.N_lit k90 _ 90 ?hg (N' := 14) ?hd (xs := ([(⟨y322, (⟨(⟨0, 0⟩ : S86), 0⟩ : S88), 0, false⟩ : S90), (⟨y325, (⟨(⟨0, 0⟩ : S86), 0⟩ : S88), 0, false⟩ : S90), (⟨y328, (⟨(⟨0, 0⟩ : S86), 0⟩ : S88), 0, false⟩ : S90)] : List (S90))) (inner := [.slice Ao33 y322.length co33, .int .u64 0, .int .u64 0, .int .u64 0, .int .u64 0, .bool false, .slice Ao36 y325.length co36, .int .u64 0, .int .u64 0, .int .u64 0, .int .u64 0, .bool false, .slice Ao39 y328.length co39, .int .u64 0, .int .u64 0, .int .u64 0, .int .u64 0, .bool false]) (ok := (fun k_ => k_ ≠ gb321)) (okp := (fun k_ => k_ ≠ gb321)) ?hr ?hp (fun _ hk => hk) ((show ∀ k_, w37.heap.size ≤ k_ → (fun k_ => k_ ≠ gb321) k_ from fun k_ hk => Kd.freshB (g := gb321) (o := .cells #[.int .u32 3, .int .u32 0] 34 (0, 0)) (by (with_reducible repeat (first | refine blk_drewN ?_ _ | refine blk_drew ?_ | refine blk_alloc ?_ _)); exact BK321.out) k_ hk) _ (Nat.le_refl _)) (Below.refl _ _) (Nat.le_refl _) (by simp) ?_; (case hd => rfl); (case hg => rfl); (case hr => first | (go_simp; done) | (go_simp; rfl)); (case hp => exact (Reps.c6 (show Kd.FK k90 _ _ (⟨y322, (⟨(⟨0, 0⟩ : S86), 0⟩ : S88), 0, false⟩ : S90) [.slice Ao33 y322.length co33, .int .u64 0, .int .u64 0, .int .u64 0, .int .u64 0, .bool false] from (k90_mkF _ _ (⟨y322, (⟨(⟨0, 0⟩ : S86), 0⟩ : S88), 0, false⟩ : S90) (Kd.R_reads' (Kd.R_mono (ok' := (fun k_ => k_ ≠ gb321)) (Kd.R_types (HO324.out) BK321.out (by decide)) (fun k_ hk => hk.2))).2.1 (Kd.R_F (Kd.R_mono (ok' := (fun k_ => k_ ≠ gb321)) (Kd.R_types (HO324.out) BK321.out (by decide)) (fun k_ hk => hk.2))))) (Reps.c6 (show Kd.FK k90 _ _ (⟨y325, (⟨(⟨0, 0⟩ : S86), 0⟩ : S88), 0, false⟩ : S90) [.slice Ao36 y325.length co36, .int .u64 0, .int .u64 0, .int .u64 0, .int .u64 0, .bool false] from (k90_mkF _ _ (⟨y325, (⟨(⟨0, 0⟩ : S86), 0⟩ : S88), 0, false⟩ : S90) (Kd.R_reads' (Kd.R_mono (ok' := (fun k_ => k_ ≠ gb321)) (Kd.R_types (HO327.out) BK321.out (by decide)) (fun k_ hk => hk.2))).2.1 (Kd.R_F (Kd.R_mono (ok' := (fun k_ => k_ ≠ gb321)) (Kd.R_types (HO327.out) BK321.out (by decide)) (fun k_ hk => hk.2))))) (Reps.c6 (show Kd.FK k90 _ _ (⟨y328, (⟨(⟨0, 0⟩ : S86), 0⟩ : S88), 0, false⟩ : S90) [.slice Ao39 y328.length co39, .int .u64 0, .int .u64 0, .int .u64 0, .int .u64 0, .bool false] from (k90_mkF _ _ (⟨y328, (⟨(⟨0, 0⟩ : S86), 0⟩ : S88), 0, false⟩ : S90) (Kd.R_reads' (Kd.R_mono (ok' := (fun k_ => k_ ≠ gb321)) (Kd.R_types (HO330.out) BK321.out (by decide)) (fun k_ hk => hk.2))).2.1 (Kd.R_F (Kd.R_mono (ok' := (fun k_ => k_ ≠ gb321)) (Kd.R_types (HO330.out) BK321.out (by decide)) (fun k_ hk => hk.2))))) (Reps.none _ _))))); intro v332 w40 ho41 hb hg_ hnew_; clear hg_ hnew_; (first | rw [← Ny331.out] at ho41 | (simp only [Int.reduceToNat] at ho41; rw [← Ny331.out] at ho41)); have n0_ := Aside0.mk (Kd.N_lower ho41 (below_size (by repeat (first | (with_reducible first | exact HB.out | apply below_alloc | apply pw_below_drewN | apply below_drew1 | refine below_set ?_ GE321.out) | exact HB.out)))); have n1_ := Aside0.mk (blk_below (g := gb321) (o := .cells #[.int .u32 3, .int .u32 0] 34 (0, 0)) (by (with_reducible repeat (first | refine blk_drewN ?_ _ | refine blk_drew ?_ | refine blk_alloc ?_ _)); exact BK321.out) hb); have n2_ := Aside0.mk (below_step (by repeat (first | (with_reducible first | exact HB.out | apply below_alloc | apply pw_below_drewN | apply below_drew1 | refine below_set ?_ GE321.out) | exact HB.out)) hb); clear BK321; clear HB; clear HO324; clear HO327; clear HO330; have HO333 := n0_; have BK321 := n1_; have HB := n2_; clear n0_ n1_ n2_; clear hb ho41; have hcz42_0 : w40.cell? ⟨gb321, 0, none⟩ = some (.int .u32 3) := (blk_cell BK321.out 0).trans rfl; have hcz42_1 : w40.cell? ⟨gb321, 1, none⟩ = some (.int .u32 0) := (blk_cell BK321.out 1).trans rfl; have hfz42_0 := blk_frozen BK321.out 0; have hfz42_1 := blk_frozen BK321.out 1) | ((with_reducible refine gate_dst (N := 23) rfl ?_); (try (refine gate_guard (by rfl) ?_; dsimp only)); refine Kd.R_lit k36 _ 36 ?hg (N := 23) ?hd (xs := ([(⟨1, (-1), (⟨3, 0⟩ : S34)⟩ : S36), (⟨2, (-1), (⟨3, 0⟩ : S34)⟩ : S36), (⟨3, 1, (⟨3, 0⟩ : S34)⟩ : S36), (⟨4, (-1), (⟨3, 0⟩ : S34)⟩ : S36)] : List (S36))) (inner := [.int .i64 1, .int .i64 (-1), .int .u32 3, .int .u32 0, .int .i64 2, .int .i64 (-1), .int .u32 3, .int .u32 0, .int .i64 3, .int .i64 1, .int .u32 3, .int .u32 0, .int .i64 4, .int .i64 (-1), .int .u32 3, .int .u32 0]) (ok := fun _ => True) (okp := fun _ => True) ?hr ?hp (fun _ hk => hk) trivial (Below.refl _ _) (Nat.le_refl _) (by simp) ?_; (case hd => rfl); (case hg => rfl); (case hr => first | (go_simp; done) | (go_simp; rfl)); (case hp => exact (Reps.c4 (show Kd.M k36 _ _ _ (⟨1, (-1), (⟨3, 0⟩ : S34)⟩ : S36) [.int .i64 1, .int .i64 (-1), .int .u32 3, .int .u32 0] from (k36_mkM _ _ _ (⟨1, (-1), (⟨3, 0⟩ : S34)⟩ : S36) )) (Reps.c4 (show Kd.M k36 _ _ _ (⟨2, (-1), (⟨3, 0⟩ : S34)⟩ : S36) [.int .i64 2, .int .i64 (-1), .int .u32 3, .int .u32 0] from (k36_mkM _ _ _ (⟨2, (-1), (⟨3, 0⟩ : S34)⟩ : S36) )) (Reps.c4 (show Kd.M k36 _ _ _ (⟨3, 1, (⟨3, 0⟩ : S34)⟩ : S36) [.int .i64 3, .int .i64 1, .int .u32 3, .int .u32 0] from (k36_mkM _ _ _ (⟨3, 1, (⟨3, 0⟩ : S34)⟩ : S36) )) (Reps.c4 (show Kd.M k36 _ _ _ (⟨4, (-1), (⟨3, 0⟩ : S34)⟩ : S36) [.int .i64 4, .int .i64 (-1), .int .u32 3, .int .u32 0] from (k36_mkM _ _ _ (⟨4, (-1), (⟨3, 0⟩ : S34)⟩ : S36) )) (Reps.none _ _)))))); intro v335 w43 ho44 hb hg_ hnew_; clear hg_ hnew_; (first | rw [← Ny334.out] at ho44 | (simp only [Int.reduceToNat] at ho44; rw [← Ny334.out] at ho44)); have n0_ := Aside0.mk (Kd.N_elder' (by (with_reducible repeat (first | apply Kd.N_alloc | apply Kd.N_drewN | apply Kd.N_drew)); exact HO333.out) (Kd.R_base ho44) hb); have n1_ := Aside0.mk (Kd.R_lower ho44 (below_size (by repeat (first | (with_reducible first | exact HB.out | apply below_alloc | apply pw_below_drewN | apply below_drew1 | refine below_set ?_ GE321.out) | exact HB.out)))); have n2_ := Aside0.mk (blk_below (g := gb321) (o := .cells #[.int .u32 3, .int .u32 0] 34 (0, 0)) (by (with_reducible repeat (first | refine blk_drewN ?_ _ | refine blk_drew ?_ | refine blk_alloc ?_ _)); exact BK321.out) hb); have n3_ := Aside0.mk (below_step (by repeat (first | (with_reducible first | exact HB.out | apply below_alloc | apply pw_below_drewN | apply below_drew1 | refine below_set ?_ GE321.out) | exact HB.out)) hb); clear HO333; clear BK321; clear HB; have HO333 := n0_; have HO336 := n1_; have BK321 := n2_; have HB := n3_; clear n0_ n1_ n2_ n3_; clear hb ho44; obtain ⟨Ao45, co45, eo45⟩ := Kd.N_slice HO333.out; subst eo45; obtain ⟨Ao46, co46, eo46⟩ := Kd.R_slice HO336.out; subst eo46) | ((with_reducible refine gate_callee (f := 20) rfl ?_); refine goesL_ (some 27) rfl rfl Tryd.func20 (by kernel_rfl) rfl #[.slice Ao45 y331.length co45, .slice Ao46 y334.length co46, .int .u32 3] rfl (by (try simp only [List.map_toArray, List.map_cons, List.map_nil]); first | done | rfl | (simp only [List.length_drop, List.length_take]; rfl)) ?_; (with_reducible refine (pick_Pick.calls _ _ y331 _ _ y334 3 t337 t338 t339 _ ?side1 ?side2 ?side3 ?side4 ?tb A1.out).mono ?_); (case tb => exact HT.out.step (by repeat (first | (with_reducible first | exact HB.out | apply below_alloc | apply pw_below_drewN | apply below_drew1 | refine below_set ?_ GE321.out) | exact HB.out))); (case side1 => repeat (first | exact (Kd.N_reads' HO333.out).2.2 | (with_reducible refine Kd.C_alloc ?_ _) | (with_reducible refine Kd.C_drewN ?_ _) | (with_reducible refine Kd.C_drew ?_))); (case side2 => exact (Kd.N_reads' HO333.out).2.1); (case side3 => repeat (first | exact (Kd.R_reads' HO336.out).2.2 | (with_reducible refine Kd.C_alloc ?_ _) | (with_reducible refine Kd.C_drewN ?_ _) | (with_reducible refine Kd.C_drew ?_))); (case side4 => exact (Kd.R_reads' HO336.out).2.1); rintro e w47 ⟨v340, v342, rfl, ho0, ho1, hb⟩; refine ⟨_, rfl, ?_⟩; have n0_ := Aside0.mk (Kd.N_mono (Kd.N_told (Kd.N_told (Kd.N_old (by (with_reducible repeat (first | apply Kd.N_alloc | apply Kd.N_drewN | apply Kd.N_drew)); exact HO333.out) hb) (Kd.R_base ho0)) (Kd.R_base ho1)) (fun _ h_ => h_.1)); have n1_ := Aside0.mk (Kd.R_below (by (with_reducible repeat (first | apply Kd.R_alloc | apply Kd.R_drewN | apply Kd.R_drew)); exact HO336.out) hb); have n2_ := Aside0.mk (Kd.R_lower ho0 (below_size (by repeat (first | (with_reducible first | exact HB.out | apply below_alloc | apply pw_below_drewN | apply below_drew1 | refine below_set ?_ GE321.out) | exact HB.out)))); have n3_ := Aside0.mk (Kd.R_lower ho1 (below_size (by repeat (first | (with_reducible first | exact HB.out | apply below_alloc | apply pw_below_drewN | apply below_drew1 | refine below_set ?_ GE321.out) | exact HB.out)))); have n4_ := Aside0.mk (blk_below (g := gb321) (o := .cells #[.int .u32 3, .int .u32 0] 34 (0, 0)) (by (with_reducible repeat (first | refine blk_drewN ?_ _ | refine blk_drew ?_ | refine blk_alloc ?_ _)); exact BK321.out) hb); have n5_ := Aside0.mk (below_step (by repeat (first | (with_reducible first | exact HB.out | apply below_alloc | apply pw_below_drewN | apply below_drew1 | refine below_set ?_ GE321.out) | exact HB.out)) hb); clear HO333; clear HO336; clear BK321; clear HB; have HO333 := n0_; have HO336 := n1_; have HO341 := n2_; have HO343 := n3_; have BK321 := n4_; have HB := n5_; clear n0_ n1_ n2_ n3_ n4_ n5_; (try clear hb); (try clear hb2); (try clear hk); (try clear hi); (try clear ho0); (try clear ho1); obtain ⟨Ao48, co48, eo48⟩ := Kd.R_slice HO341.out; subst eo48; have p344 : 0 ≤ (0 : Int) := (by omega); have q344 : 0 < (t337.length : Int) := of_decide_eq_true (by first | (with_reducible assumption) | assumption); obtain ⟨ad344, e344, hx344_0, hx344_1⟩ := at_T31 (Kd.R_reads' HO341.out).2.2 0 p344 q344; cases e344; have qi344 : (0 < t337.length) = True := eq_true (by omega); (try rw [show ((0 : Int)).toNat = 0 from rfl] at hx344_0); (try rw [show 0 * 2 = 0 from rfl] at hx344_0); (try rw [Addr.add_zero'] at hx344_0); (try rw [show ((0 : Int)).toNat = 0 from rfl] at hx344_1); (try rw [show 0 * 2 = 0 from rfl] at hx344_1); (try rw [Addr.add_zero'] at hx344_1); replace p344 := eq_true p344; replace q344 := eq_true q344; have p345 : 0 ≤ (1 : Int) := (by omega); have q345 : 1 < (t337.length : Int) := of_decide_eq_true (by first | (with_reducible assumption) | assumption); obtain ⟨ad345, e345, hx345_0, hx345_1⟩ := at_T31 (Kd.R_reads' HO341.out).2.2 1 p345 q345; obtain rfl : ad344 = ad345 := (by injection e345); (try simp only [show (1 : Int).toNat = 1 from rfl, Nat.reduceMul, Nat.reduceEqDiff, Go.Addr.add, ↓reduceIte] at hx345_0); (try simp only [show (1 : Int).toNat = 1 from rfl, Nat.reduceMul, Nat.reduceEqDiff, Go.Addr.add, ↓reduceIte] at hx345_1); have qi345 : (1 < t337.length) = True := eq_true (by omega); (try rw [show ((1 : Int)).toNat = 1 from rfl] at hx345_0); (try rw [show 1 * 2 = 2 from rfl] at hx345_0); (try rw [show ((1 : Int)).toNat = 1 from rfl] at hx345_1); (try rw [show 1 * 2 = 2 from rfl] at hx345_1); replace p345 := eq_true p345; replace q345 := eq_true q345))
       go_ret
       exact ⟨by first | rfl | (simp [errW_none, errW_some] <;> rfl) | (simp [*, errW_none, errW_some] <;> rfl), by repeat (first | (with_reducible first | exact HB.out | apply below_alloc | apply pw_below_drewN | apply below_drew1 | refine below_set ?_ GE321.out) | exact HB.out)⟩
     ·rw [if_neg c6] at H
      exact absurd H (by simp)
    ·rw [if_neg c5] at H
     have c5b0 : (((rd_T31 t337 0).f0) == 3 && (((rd_T31 t337 0).f1) == 1)) = false := by simpa using c5
     (try (have c5b1 : decide (((rd_T31 t337 0).f0) = 3 && (((rd_T31 t337 0).f1) == 1)) = false := by simpa using c5))
     (try (have c5b2 : (((rd_T31 t337 0).f0) == 3 && (((rd_T31 t337 0).f1) == 1)) = false := by simpa using c5))
     (try (have c5b3 : ¬ (((rd_T31 t337 0).f0) = 3 && (((rd_T31 t337 0).f1) == 1)) := by simpa using c5))
     clear c5
     obtain rfl := Option.some.inj H
     go_enter Tryd.func18, Tryd.ntmps18
     go_wp2_with (first | ((with_reducible refine gate_dst (N := 1) rfl ?_); (try (refine gate_guard (by rfl) ?_; dsimp only)); refine box_event ?hg (N := 1) ?hd (cs := #[.int .u32 0, .int .u32 0]) (t := 34) ?hr ?_; (case hd => rfl); (case hg => rfl); (case hr => first | (go_simp; done) | (go_simp; rfl)); intro gb321 hg w49 hbox hb; have n0_ := Aside0.mk (below_step (by repeat (first | (with_reducible first | exact HB.out | apply below_alloc | apply pw_below_drewN | apply below_drew1) | exact HB.out)) hb); have n1_ := Aside0.mk (hbox); have n2_ := Aside0.mk ((by rw [hg]; exact (below_size (by repeat (first | (with_reducible first | exact HB.out | apply below_alloc | apply pw_below_drewN | apply below_drew1) | exact HB.out))) : w.heap.size ≤ gb321)); have n3_ := Aside0.mk ((by rw [hg]; exact (below_size (by repeat (first | (with_reducible first | exact HB.out | apply below_alloc | apply pw_below_drewN | apply below_drew1) | exact HB.out))) : w.heap.size ≤ gb321)); clear HB; have HB := n0_; have BK321 := n1_; have GW321 := n2_; have GE321 := n3_; clear n0_ n1_ n2_ n3_; clear hb hbox hg; have hcz50_0 : w49.cell? ⟨gb321, 0, none⟩ = some (.int .u32 0) := (blk_cell BK321.out 0).trans rfl; have hcz50_1 : w49.cell? ⟨gb321, 1, none⟩ = some (.int .u32 0) := (blk_cell BK321.out 1).trans rfl; have hfz50_0 := blk_frozen BK321.out 0; have hfz50_1 := blk_frozen BK321.out 1) | ((with_reducible refine gate_dst (N := 8) rfl ?_); (try (refine gate_guard (by rfl) ?_; dsimp only)); refine Kd.R_lit (Kd.int .i64) _ 3 ?hg (N := 8) ?hd (xs := ([3] : List Int)) (inner := [.int .i64 3]) (ok := fun _ => True) (okp := fun _ => True) ?hr ?hp (fun _ hk => hk) trivial (Below.refl _ _) (Nat.le_refl _) (by simp) ?_; (case hd => rfl); (case hg => rfl); (case hr => first | (go_simp; done) | (go_simp; rfl)); (case hp => exact (Reps.one (show Kd.M (Kd.int .i64) _ _ _ 3 [.int .i64 3] from rfl) (Reps.none _ _))); intro v323 w51 ho52 hb hg_ hnew_; clear hg_ hnew_; (first | rw [← Ny322.out] at ho52 | (simp only [Int.reduceToNat] at ho52; rw [← Ny322.out] at ho52)); have n0_ := Aside0.mk (Kd.R_lower ho52 (below_size (by repeat (first | (with_reducible first | exact HB.out | apply below_alloc | apply pw_below_drewN | apply below_drew1 | refine below_set ?_ GE321.out) | exact HB.out)))); have n1_ := Aside0.mk (blk_below (g := gb321) (o := .cells #[.int .u32 3, .int .u32 0] 34 (0, 0)) (by (with_reducible repeat (first | refine blk_drewN ?_ _ | refine blk_drew ?_ | refine blk_alloc ?_ _)); refine blk_put (cs := #[.int .u32 3, .int .u32 0]) ?_ 1 _ rfl; (with_reducible repeat (first | refine blk_drewN ?_ _ | refine blk_drew ?_ | refine blk_alloc ?_ _)); refine blk_put (cs := #[.int .u32 0, .int .u32 0]) ?_ 0 _ rfl; (with_reducible repeat (first | refine blk_drewN ?_ _ | refine blk_drew ?_ | refine blk_alloc ?_ _)); exact BK321.out) hb); have n2_ := Aside0.mk (below_step (by repeat (first | (with_reducible first | exact HB.out | apply below_alloc | apply pw_below_drewN | apply below_drew1 | refine below_set ?_ GE321.out) | exact HB.out)) hb); clear BK321; clear HB; have HO324 := n0_; have BK321 := n1_; have HB := n2_; clear n0_ n1_ n2_; clear hb ho52; obtain ⟨Ao53, co53, eo53⟩ := Kd.R_slice HO324.out; subst eo53) | ((with_reducible refine gate_dst (N := 10) rfl ?_); (try (refine gate_guard (by rfl) ?_; dsimp only)); refine Kd.R_lit (Kd.int .i64) _ 3 ?hg (N := 10) ?hd (xs := ([1, 2] : List Int)) (inner := [.int .i64 1, .int .i64 2]) (ok := fun _ => True) (okp := fun _ => True) ?hr ?hp (fun _ hk => hk) trivial (Below.refl _ _) (Nat.le_refl _) (by simp) ?_; (case hd => rfl); (case hg => rfl); (case hr => first | (go_simp; done) | (go_simp; rfl)); (case hp => exact (Reps.one (show Kd.M (Kd.int .i64) _ _ _ 1 [.int .i64 1] from rfl) (Reps.one (show Kd.M (Kd.int .i64) _ _ _ 2 [.int .i64 2] from rfl) (Reps.none _ _)))); intro v326 w54 ho55 hb hg_ hnew_; clear hg_ hnew_; (first | rw [← Ny325.out] at ho55 | (simp only [Int.reduceToNat] at ho55; rw [← Ny325.out] at ho55)); have n0_ := Aside0.mk (Kd.R_elder' (by (with_reducible repeat (first | apply Kd.R_alloc | apply Kd.R_drewN | apply Kd.R_drew)); exact HO324.out) (Kd.R_base ho55) hb); have n1_ := Aside0.mk (Kd.R_lower (Kd.R_new' ho55 (Kd.R_lt (by (with_reducible repeat (first | apply Kd.R_alloc | apply Kd.R_drewN | apply Kd.R_drew)); exact HO324.out))) (below_size (by repeat (first | (with_reducible first | exact HB.out | apply below_alloc | apply pw_below_drewN | apply below_drew1 | refine below_set ?_ GE321.out) | exact HB.out)))); have n2_ := Aside0.mk (blk_below (g := gb321) (o := .cells #[.int .u32 3, .int .u32 0] 34 (0, 0)) (by (with_reducible repeat (first | refine blk_drewN ?_ _ | refine blk_drew ?_ | refine blk_alloc ?_ _)); exact BK321.out) hb); have n3_ := Aside0.mk (below_step (by repeat (first | (with_reducible first | exact HB.out | apply below_alloc | apply pw_below_drewN | apply below_drew1 | refine below_set ?_ GE321.out) | exact HB.out)) hb); clear HO324; clear BK321; clear HB; have HO324 := n0_; have HO327 := n1_; have BK321 := n2_; have HB := n3_; clear n0_ n1_ n2_ n3_; clear hb ho55; obtain ⟨Ao56, co56, eo56⟩ := Kd.R_slice HO327.out; subst eo56) | ((with_reducible refine gate_dst (N := 12) rfl ?_); (try (refine gate_guard (by rfl) ?_; dsimp only)); refine Kd.R_lit (Kd.int .i64) _ 3 ?hg (N := 12) ?hd (xs := ([4] : List Int)) (inner := [.int .i64 4]) (ok := fun _ => True) (okp := fun _ => True) ?hr ?hp (fun _ hk => hk) trivial (Below.refl _ _) (Nat.le_refl _) (by simp) ?_; (case hd => rfl); (case hg => rfl); (case hr => first | (go_simp; done) | (go_simp; rfl)); (case hp => exact (Reps.one (show Kd.M (Kd.int .i64) _ _ _ 4 [.int .i64 4] from rfl) (Reps.none _ _))); intro v329 w57 ho58 hb hg_ hnew_; clear hg_ hnew_; (first | rw [← Ny328.out] at ho58 | (simp only [Int.reduceToNat] at ho58; rw [← Ny328.out] at ho58)); have n0_ := Aside0.mk (Kd.R_elder' (by (with_reducible repeat (first | apply Kd.R_alloc | apply Kd.R_drewN | apply Kd.R_drew)); exact HO324.out) (Kd.R_base ho58) hb); have n1_ := Aside0.mk (Kd.R_elder' (by (with_reducible repeat (first | apply Kd.R_alloc | apply Kd.R_drewN | apply Kd.R_drew)); exact HO327.out) (Kd.R_base ho58) hb); have n2_ := Aside0.mk (Kd.R_lower (Kd.R_new' (Kd.R_new' ho58 (Kd.R_lt (by (with_reducible repeat (first | apply Kd.R_alloc | apply Kd.R_drewN | apply Kd.R_drew)); exact HO324.out))) (Kd.R_lt (by (with_reducible repeat (first | apply Kd.R_alloc | apply Kd.R_drewN | apply Kd.R_drew)); exact HO327.out))) (below_size (by repeat (first | (with_reducible first | exact HB.out | apply below_alloc | apply pw_below_drewN | apply below_drew1 | refine below_set ?_ GE321.out) | exact HB.out)))); have n3_ := Aside0.mk (blk_below (g := gb321) (o := .cells #[.int .u32 3, .int .u32 0] 34 (0, 0)) (by (with_reducible repeat (first | refine blk_drewN ?_ _ | refine blk_drew ?_ | refine blk_alloc ?_ _)); exact BK321.out) hb); have n4_ := Aside0.mk (below_step (by repeat (first | (with_reducible first | exact HB.out | apply below_alloc | apply pw_below_drewN | apply below_drew1 | refine below_set ?_ GE321.out) | exact HB.out)) hb); clear HO324; clear HO327; clear BK321; clear HB; have HO324 := n0_; have HO327 := n1_; have HO330 := n2_; have BK321 := n3_; have HB := n4_; clear n0_ n1_ n2_ n3_ n4_; clear hb ho58; obtain ⟨Ao59, co59, eo59⟩ := Kd.R_slice HO330.out; subst eo59) | ((with_reducible refine gate_dst (N := 14) rfl ?_); (try (refine gate_guard (by rfl) ?_; dsimp only)); refine Kd.N_lit k90 _ 90 ?hg (N' := 14) ?hd (xs := ([(⟨y322, (⟨(⟨0, 0⟩ : S86), 0⟩ : S88), 0, false⟩ : S90), (⟨y325, (⟨(⟨0, 0⟩ : S86), 0⟩ : S88), 0, false⟩ : S90), (⟨y328, (⟨(⟨0, 0⟩ : S86), 0⟩ : S88), 0, false⟩ : S90)] : List (S90))) (inner := [.slice Ao53 y322.length co53, .int .u64 0, .int .u64 0, .int .u64 0, .int .u64 0, .bool false, .slice Ao56 y325.length co56, .int .u64 0, .int .u64 0, .int .u64 0, .int .u64 0, .bool false, .slice Ao59 y328.length co59, .int .u64 0, .int .u64 0, .int .u64 0, .int .u64 0, .bool false]) (ok := (fun k_ => k_ ≠ gb321)) (okp := (fun k_ => k_ ≠ gb321)) ?hr ?hp (fun _ hk => hk) ((show ∀ k_, w57.heap.size ≤ k_ → (fun k_ => k_ ≠ gb321) k_ from fun k_ hk => Kd.freshB (g := gb321) (o := .cells #[.int .u32 3, .int .u32 0] 34 (0, 0)) (by (with_reducible repeat (first | refine blk_drewN ?_ _ | refine blk_drew ?_ | refine blk_alloc ?_ _)); exact BK321.out) k_ hk) _ (Nat.le_refl _)) (Below.refl _ _) (Nat.le_refl _) (by simp) ?_; (case hd => rfl); (case hg => rfl); (case hr => first | (go_simp; done) | (go_simp; rfl)); (case hp => exact (Reps.c6 (show Kd.FK k90 _ _ (⟨y322, (⟨(⟨0, 0⟩ : S86), 0⟩ : S88), 0, false⟩ : S90) [.slice Ao53 y322.length co53, .int .u64 0, .int .u64 0, .int .u64 0, .int .u64 0, .bool false] from (k90_mkF _ _ (⟨y322, (⟨(⟨0, 0⟩ : S86), 0⟩ : S88), 0, false⟩ : S90) (Kd.R_reads' (Kd.R_mono (ok' := (fun k_ => k_ ≠ gb321)) (Kd.R_types (HO324.out) BK321.out (by decide)) (fun k_ hk => hk.2))).2.1 (Kd.R_F (Kd.R_mono (ok' := (fun k_ => k_ ≠ gb321)) (Kd.R_types (HO324.out) BK321.out (by decide)) (fun k_ hk => hk.2))))) (Reps.c6 (show Kd.FK k90 _ _ (⟨y325, (⟨(⟨0, 0⟩ : S86), 0⟩ : S88), 0, false⟩ : S90) [.slice Ao56 y325.length co56, .int .u64 0, .int .u64 0, .int .u64 0, .int .u64 0, .bool false] from (k90_mkF _ _ (⟨y325, (⟨(⟨0, 0⟩ : S86), 0⟩ : S88), 0, false⟩ : S90) (Kd.R_reads' (Kd.R_mono (ok' := (fun k_ => k_ ≠ gb321)) (Kd.R_types (HO327.out) BK321.out (by decide)) (fun k_ hk => hk.2))).2.1 (Kd.R_F (Kd.R_mono (ok' := (fun k_ => k_ ≠ gb321)) (Kd.R_types (HO327.out) BK321.out (by decide)) (fun k_ hk => hk.2))))) (Reps.c6 (show Kd.FK k90 _ _ (⟨y328, (⟨(⟨0, 0⟩ : S86), 0⟩ : S88), 0, false⟩ : S90) [.slice Ao59 y328.length co59, .int .u64 0, .int .u64 0, .int .u64 0, .int .u64 0, .bool false] from (k90_mkF _ _ (⟨y328, (⟨(⟨0, 0⟩ : S86), 0⟩ : S88), 0, false⟩ : S90) (Kd.R_reads' (Kd.R_mono (ok' := (fun k_ => k_ ≠ gb321)) (Kd.R_types (HO330.out) BK321.out (by decide)) (fun k_ hk => hk.2))).2.1 (Kd.R_F (Kd.R_mono (ok' := (fun k_ => k_ ≠ gb321)) (Kd.R_types (HO330.out) BK321.out (by decide)) (fun k_ hk => hk.2))))) (Reps.none _ _))))); intro v332 w60 ho61 hb hg_ hnew_; clear hg_ hnew_; (first | rw [← Ny331.out] at ho61 | (simp only [Int.reduceToNat] at ho61; rw [← Ny331.out] at ho61)); have n0_ := Aside0.mk (Kd.N_lower ho61 (below_size (by repeat (first | (with_reducible first | exact HB.out | apply below_alloc | apply pw_below_drewN | apply below_drew1 | refine below_set ?_ GE321.out) | exact HB.out)))); have n1_ := Aside0.mk (blk_below (g := gb321) (o := .cells #[.int .u32 3, .int .u32 0] 34 (0, 0)) (by (with_reducible repeat (first | refine blk_drewN ?_ _ | refine blk_drew ?_ | refine blk_alloc ?_ _)); exact BK321.out) hb); have n2_ := Aside0.mk (below_step (by repeat (first | (with_reducible first | exact HB.out | apply below_alloc | apply pw_below_drewN | apply below_drew1 | refine below_set ?_ GE321.out) | exact HB.out)) hb); clear BK321; clear HB; clear HO324; clear HO327; clear HO330; have HO333 := n0_; have BK321 := n1_; have HB := n2_; clear n0_ n1_ n2_; clear hb ho61; have hcz62_0 : w60.cell? ⟨gb321, 0, none⟩ = some (.int .u32 3) := (blk_cell BK321.out 0).trans rfl; have hcz62_1 : w60.cell? ⟨gb321, 1, none⟩ = some (.int .u32 0) := (blk_cell BK321.out 1).trans rfl; have hfz62_0 := blk_frozen BK321.out 0; have hfz62_1 := blk_frozen BK321.out 1) | ((with_reducible refine gate_dst (N := 23) rfl ?_); (try (refine gate_guard (by rfl) ?_; dsimp only)); refine Kd.R_lit k36 _ 36 ?hg (N := 23) ?hd (xs := ([(⟨1, (-1), (⟨3, 0⟩ : S34)⟩ : S36), (⟨2, (-1), (⟨3, 0⟩ : S34)⟩ : S36), (⟨3, 1, (⟨3, 0⟩ : S34)⟩ : S36), (⟨4, (-1), (⟨3, 0⟩ : S34)⟩ : S36)] : List (S36))) (inner := [.int .i64 1, .int .i64 (-1), .int .u32 3, .int .u32 0, .int .i64 2, .int .i64 (-1), .int .u32 3, .int .u32 0, .int .i64 3, .int .i64 1, .int .u32 3, .int .u32 0, .int .i64 4, .int .i64 (-1), .int .u32 3, .int .u32 0]) (ok := fun _ => True) (okp := fun _ => True) ?hr ?hp (fun _ hk => hk) trivial (Below.refl _ _) (Nat.le_refl _) (by simp) ?_; (case hd => rfl); (case hg => rfl); (case hr => first | (go_simp; done) | (go_simp; rfl)); (case hp => exact (Reps.c4 (show Kd.M k36 _ _ _ (⟨1, (-1), (⟨3, 0⟩ : S34)⟩ : S36) [.int .i64 1, .int .i64 (-1), .int .u32 3, .int .u32 0] from (k36_mkM _ _ _ (⟨1, (-1), (⟨3, 0⟩ : S34)⟩ : S36) )) (Reps.c4 (show Kd.M k36 _ _ _ (⟨2, (-1), (⟨3, 0⟩ : S34)⟩ : S36) [.int .i64 2, .int .i64 (-1), .int .u32 3, .int .u32 0] from (k36_mkM _ _ _ (⟨2, (-1), (⟨3, 0⟩ : S34)⟩ : S36) )) (Reps.c4 (show Kd.M k36 _ _ _ (⟨3, 1, (⟨3, 0⟩ : S34)⟩ : S36) [.int .i64 3, .int .i64 1, .int .u32 3, .int .u32 0] from (k36_mkM _ _ _ (⟨3, 1, (⟨3, 0⟩ : S34)⟩ : S36) )) (Reps.c4 (show Kd.M k36 _ _ _ (⟨4, (-1), (⟨3, 0⟩ : S34)⟩ : S36) [.int .i64 4, .int .i64 (-1), .int .u32 3, .int .u32 0] from (k36_mkM _ _ _ (⟨4, (-1), (⟨3, 0⟩ : S34)⟩ : S36) )) (Reps.none _ _)))))); intro v335 w63 ho64 hb hg_ hnew_; clear hg_ hnew_; (first | rw [← Ny334.out] at ho64 | (simp only [Int.reduceToNat] at ho64; rw [← Ny334.out] at ho64)); have n0_ := Aside0.mk (Kd.N_elder' (by (with_reducible repeat (first | apply Kd.N_alloc | apply Kd.N_drewN | apply Kd.N_drew)); exact HO333.out) (Kd.R_base ho64) hb); have n1_ := Aside0.mk (Kd.R_lower ho64 (below_size (by repeat (first | (with_reducible first | exact HB.out | apply below_alloc | apply pw_below_drewN | apply below_drew1 | refine below_set ?_ GE321.out) | exact HB.out)))); have n2_ := Aside0.mk (blk_below (g := gb321) (o := .cells #[.int .u32 3, .int .u32 0] 34 (0, 0)) (by (with_reducible repeat (first | refine blk_drewN ?_ _ | refine blk_drew ?_ | refine blk_alloc ?_ _)); exact BK321.out) hb); have n3_ := Aside0.mk (below_step (by repeat (first | (with_reducible first | exact HB.out | apply below_alloc | apply pw_below_drewN | apply below_drew1 | refine below_set ?_ GE321.out) | exact HB.out)) hb); clear HO333; clear BK321; clear HB; have HO333 := n0_; have HO336 := n1_; have BK321 := n2_; have HB := n3_; clear n0_ n1_ n2_ n3_; clear hb ho64; obtain ⟨Ao65, co65, eo65⟩ := Kd.N_slice HO333.out; subst eo65; obtain ⟨Ao66, co66, eo66⟩ := Kd.R_slice HO336.out; subst eo66) | ((with_reducible refine gate_callee (f := 20) rfl ?_); refine goesL_ (some 27) rfl rfl Tryd.func20 (by kernel_rfl) rfl #[.slice Ao65 y331.length co65, .slice Ao66 y334.length co66, .int .u32 3] rfl (by (try simp only [List.map_toArray, List.map_cons, List.map_nil]); first | done | rfl | (simp only [List.length_drop, List.length_take]; rfl)) ?_; (with_reducible refine (pick_Pick.calls _ _ y331 _ _ y334 3 t337 t338 t339 _ ?side1 ?side2 ?side3 ?side4 ?tb A1.out).mono ?_); (case tb => exact HT.out.step (by repeat (first | (with_reducible first | exact HB.out | apply below_alloc | apply pw_below_drewN | apply below_drew1 | refine below_set ?_ GE321.out) | exact HB.out))); (case side1 => repeat (first | exact (Kd.N_reads' HO333.out).2.2 | (with_reducible refine Kd.C_alloc ?_ _) | (with_reducible refine Kd.C_drewN ?_ _) | (with_reducible refine Kd.C_drew ?_))); (case side2 => exact (Kd.N_reads' HO333.out).2.1); (case side3 => repeat (first | exact (Kd.R_reads' HO336.out).2.2 | (with_reducible refine Kd.C_alloc ?_ _) | (with_reducible refine Kd.C_drewN ?_ _) | (with_reducible refine Kd.C_drew ?_))); (case side4 => exact (Kd.R_reads' HO336.out).2.1); rintro e w67 ⟨v340, v342, rfl, ho0, ho1, hb⟩; refine ⟨_, rfl, ?_⟩; have n0_ := Aside0.mk (Kd.N_mono (Kd.N_told (Kd.N_told (Kd.N_old (by (with_reducible repeat (first | apply Kd.N_alloc | apply Kd.N_drewN | apply Kd.N_drew)); exact HO333.out) hb) (Kd.R_base ho0)) (Kd.R_base ho1)) (fun _ h_ => h_.1)); have n1_ := Aside0.mk (Kd.R_below (by (with_reducible repeat (first | apply Kd.R_alloc | apply Kd.R_drewN | apply Kd.R_drew)); exact HO336.out) hb); have n2_ := Aside0.mk (Kd.R_lower ho0 (below_size (by repeat (first | (with_reducible first | exact HB.out | apply below_alloc | apply pw_below_drewN | apply below_drew1 | refine below_set ?_ GE321.out) | exact HB.out)))); have n3_ := Aside0.mk (Kd.R_lower ho1 (below_size (by repeat (first | (with_reducible first | exact HB.out | apply below_alloc | apply pw_below_drewN | apply below_drew1 | refine below_set ?_ GE321.out) | exact HB.out)))); have n4_ := Aside0.mk (blk_below (g := gb321) (o := .cells #[.int .u32 3, .int .u32 0] 34 (0, 0)) (by (with_reducible repeat (first | refine blk_drewN ?_ _ | refine blk_drew ?_ | refine blk_alloc ?_ _)); exact BK321.out) hb); have n5_ := Aside0.mk (below_step (by repeat (first | (with_reducible first | exact HB.out | apply below_alloc | apply pw_below_drewN | apply below_drew1 | refine below_set ?_ GE321.out) | exact HB.out)) hb); clear HO333; clear HO336; clear BK321; clear HB; have HO333 := n0_; have HO336 := n1_; have HO341 := n2_; have HO343 := n3_; have BK321 := n4_; have HB := n5_; clear n0_ n1_ n2_ n3_ n4_ n5_; (try clear hb); (try clear hb2); (try clear hk); (try clear hi); (try clear ho0); (try clear ho1); obtain ⟨Ao68, co68, eo68⟩ := Kd.R_slice HO341.out; subst eo68; have p344 : 0 ≤ (0 : Int) := (by omega); have q344 : 0 < (t337.length : Int) := of_decide_eq_true (by first | (with_reducible assumption) | assumption); obtain ⟨ad344, e344, hx344_0, hx344_1⟩ := at_T31 (Kd.R_reads' HO341.out).2.2 0 p344 q344; cases e344; have qi344 : (0 < t337.length) = True := eq_true (by omega); (try rw [show ((0 : Int)).toNat = 0 from rfl] at hx344_0); (try rw [show 0 * 2 = 0 from rfl] at hx344_0); (try rw [Addr.add_zero'] at hx344_0); (try rw [show ((0 : Int)).toNat = 0 from rfl] at hx344_1); (try rw [show 0 * 2 = 0 from rfl] at hx344_1); (try rw [Addr.add_zero'] at hx344_1); replace p344 := eq_true p344; replace q344 := eq_true q344))
     go_ret
     exact ⟨by first | rfl | (simp [errW_none, errW_some] <;> rfl) | (simp [*, errW_none, errW_some] <;> rfl), by repeat (first | (with_reducible first | exact HB.out | apply below_alloc | apply pw_below_drewN | apply below_drew1 | refine below_set ?_ GE321.out) | exact HB.out)⟩
   ·rw [if_neg c4] at H
    exact absurd H (by simp)
  ·rw [if_neg c3] at H
   have c3b0 : ((t337.length : Int) == 2) = false := beq_eq_false_iff_ne.mpr c3
   have c3b1 : ((t337.length : Int) != 2) = true := bne_iff_ne.mpr c3
   obtain rfl := Option.some.inj H
   go_enter Tryd.func18, Tryd.ntmps18
   go_wp2_with (first | ((with_reducible refine gate_dst (N := 1) rfl ?_); (try (refine gate_guard (by rfl) ?_; dsimp only)); refine box_event ?hg (N := 1) ?hd (cs := #[.int .u32 0, .int .u32 0]) (t := 34) ?hr ?_; (case hd => rfl); (case hg => rfl); (case hr => first | (go_simp; done) | (go_simp; rfl)); intro gb321 hg w69 hbox hb; have n0_ := Aside0.mk (below_step (by repeat (first | (with_reducible first | exact HB.out | apply below_alloc | apply pw_below_drewN | apply below_drew1) | exact HB.out)) hb); have n1_ := Aside0.mk (hbox); have n2_ := Aside0.mk ((by rw [hg]; exact (below_size (by repeat (first | (with_reducible first | exact HB.out | apply below_alloc | apply pw_below_drewN | apply below_drew1) | exact HB.out))) : w.heap.size ≤ gb321)); have n3_ := Aside0.mk ((by rw [hg]; exact (below_size (by repeat (first | (with_reducible first | exact HB.out | apply below_alloc | apply pw_below_drewN | apply below_drew1) | exact HB.out))) : w.heap.size ≤ gb321)); clear HB; have HB := n0_; have BK321 := n1_; have GW321 := n2_; have GE321 := n3_; clear n0_ n1_ n2_ n3_; clear hb hbox hg; have hcz70_0 : w69.cell? ⟨gb321, 0, none⟩ = some (.int .u32 0) := (blk_cell BK321.out 0).trans rfl; have hcz70_1 : w69.cell? ⟨gb321, 1, none⟩ = some (.int .u32 0) := (blk_cell BK321.out 1).trans rfl; have hfz70_0 := blk_frozen BK321.out 0; have hfz70_1 := blk_frozen BK321.out 1) | ((with_reducible refine gate_dst (N := 8) rfl ?_); (try (refine gate_guard (by rfl) ?_; dsimp only)); refine Kd.R_lit (Kd.int .i64) _ 3 ?hg (N := 8) ?hd (xs := ([3] : List Int)) (inner := [.int .i64 3]) (ok := fun _ => True) (okp := fun _ => True) ?hr ?hp (fun _ hk => hk) trivial (Below.refl _ _) (Nat.le_refl _) (by simp) ?_; (case hd => rfl); (case hg => rfl); (case hr => first | (go_simp; done) | (go_simp; rfl)); (case hp => exact (Reps.one (show Kd.M (Kd.int .i64) _ _ _ 3 [.int .i64 3] from rfl) (Reps.none _ _))); intro v323 w71 ho72 hb hg_ hnew_; clear hg_ hnew_; (first | rw [← Ny322.out] at ho72 | (simp only [Int.reduceToNat] at ho72; rw [← Ny322.out] at ho72)); have n0_ := Aside0.mk (Kd.R_lower ho72 (below_size (by repeat (first | (with_reducible first | exact HB.out | apply below_alloc | apply pw_below_drewN | apply below_drew1 | refine below_set ?_ GE321.out) | exact HB.out)))); have n1_ := Aside0.mk (blk_below (g := gb321) (o := .cells #[.int .u32 3, .int .u32 0] 34 (0, 0)) (by (with_reducible repeat (first | refine blk_drewN ?_ _ | refine blk_drew ?_ | refine blk_alloc ?_ _)); refine blk_put (cs := #[.int .u32 3, .int .u32 0]) ?_ 1 _ rfl; (with_reducible repeat (first | refine blk_drewN ?_ _ | refine blk_drew ?_ | refine blk_alloc ?_ _)); refine blk_put (cs := #[.int .u32 0, .int .u32 0]) ?_ 0 _ rfl; (with_reducible repeat (first | refine blk_drewN ?_ _ | refine blk_drew ?_ | refine blk_alloc ?_ _)); exact BK321.out) hb); have n2_ := Aside0.mk (below_step (by repeat (first | (with_reducible first | exact HB.out | apply below_alloc | apply pw_below_drewN | apply below_drew1 | refine below_set ?_ GE321.out) | exact HB.out)) hb); clear BK321; clear HB; have HO324 := n0_; have BK321 := n1_; have HB := n2_; clear n0_ n1_ n2_; clear hb ho72; obtain ⟨Ao73, co73, eo73⟩ := Kd.R_slice HO324.out; subst eo73) | ((with_reducible refine gate_dst (N := 10) rfl ?_); (try (refine gate_guard (by rfl) ?_; dsimp only)); refine Kd.R_lit (Kd.int .i64) _ 3 ?hg (N := 10) ?hd (xs := ([1, 2] : List Int)) (inner := [.int .i64 1, .int .i64 2]) (ok := fun _ => True) (okp := fun _ => True) ?hr ?hp (fun _ hk => hk) trivial (Below.refl _ _) (Nat.le_refl _) (by simp) ?_; (case hd => rfl); (case hg => rfl); (case hr => first | (go_simp; done) | (go_simp; rfl)); (case hp => exact (Reps.one (show Kd.M (Kd.int .i64) _ _ _ 1 [.int .i64 1] from rfl) (Reps.one (show Kd.M (Kd.int .i64) _ _ _ 2 [.int .i64 2] from rfl) (Reps.none _ _)))); intro v326 w74 ho75 hb hg_ hnew_; clear hg_ hnew_; (first | rw [← Ny325.out] at ho75 | (simp only [Int.reduceToNat] at ho75; rw [← Ny325.out] at ho75)); have n0_ := Aside0.mk (Kd.R_elder' (by (with_reducible repeat (first | apply Kd.R_alloc | apply Kd.R_drewN | apply Kd.R_drew)); exact HO324.out) (Kd.R_base ho75) hb); have n1_ := Aside0.mk (Kd.R_lower (Kd.R_new' ho75 (Kd.R_lt (by (with_reducible repeat (first | apply Kd.R_alloc | apply Kd.R_drewN | apply Kd.R_drew)); exact HO324.out))) (below_size (by repeat (first | (with_reducible first | exact HB.out | apply below_alloc | apply pw_below_drewN | apply below_drew1 | refine below_set ?_ GE321.out) | exact HB.out)))); have n2_ := Aside0.mk (blk_below (g := gb321) (o := .cells #[.int .u32 3, .int .u32 0] 34 (0, 0)) (by (with_reducible repeat (first | refine blk_drewN ?_ _ | refine blk_drew ?_ | refine blk_alloc ?_ _)); exact BK321.out) hb); have n3_ := Aside0.mk (below_step (by repeat (first | (with_reducible first | exact HB.out | apply below_alloc | apply pw_below_drewN | apply below_drew1 | refine below_set ?_ GE321.out) | exact HB.out)) hb); clear HO324; clear BK321; clear HB; have HO324 := n0_; have HO327 := n1_; have BK321 := n2_; have HB := n3_; clear n0_ n1_ n2_ n3_; clear hb ho75; obtain ⟨Ao76, co76, eo76⟩ := Kd.R_slice HO327.out; subst eo76) | ((with_reducible refine gate_dst (N := 12) rfl ?_); (try (refine gate_guard (by rfl) ?_; dsimp only)); refine Kd.R_lit (Kd.int .i64) _ 3 ?hg (N := 12) ?hd (xs := ([4] : List Int)) (inner := [.int .i64 4]) (ok := fun _ => True) (okp := fun _ => True) ?hr ?hp (fun _ hk => hk) trivial (Below.refl _ _) (Nat.le_refl _) (by simp) ?_; (case hd => rfl); (case hg => rfl); (case hr => first | (go_simp; done) | (go_simp; rfl)); (case hp => exact (Reps.one (show Kd.M (Kd.int .i64) _ _ _ 4 [.int .i64 4] from rfl) (Reps.none _ _))); intro v329 w77 ho78 hb hg_ hnew_; clear hg_ hnew_; (first | rw [← Ny328.out] at ho78 | (simp only [Int.reduceToNat] at ho78; rw [← Ny328.out] at ho78)); have n0_ := Aside0.mk (Kd.R_elder' (by (with_reducible repeat (first | apply Kd.R_alloc | apply Kd.R_drewN | apply Kd.R_drew)); exact HO324.out) (Kd.R_base ho78) hb); have n1_ := Aside0.mk (Kd.R_elder' (by (with_reducible repeat (first | apply Kd.R_alloc | apply Kd.R_drewN | apply Kd.R_drew)); exact HO327.out) (Kd.R_base ho78) hb); have n2_ := Aside0.mk (Kd.R_lower (Kd.R_new' (Kd.R_new' ho78 (Kd.R_lt (by (with_reducible repeat (first | apply Kd.R_alloc | apply Kd.R_drewN | apply Kd.R_drew)); exact HO324.out))) (Kd.R_lt (by (with_reducible repeat (first | apply Kd.R_alloc | apply Kd.R_drewN | apply Kd.R_drew)); exact HO327.out))) (below_size (by repeat (first | (with_reducible first | exact HB.out | apply below_alloc | apply pw_below_drewN | apply below_drew1 | refine below_set ?_ GE321.out) | exact HB.out)))); have n3_ := Aside0.mk (blk_below (g := gb321) (o := .cells #[.int .u32 3, .int .u32 0] 34 (0, 0)) (by (with_reducible repeat (first | refine blk_drewN ?_ _ | refine blk_drew ?_ | refine blk_alloc ?_ _)); exact BK321.out) hb); have n4_ := Aside0.mk (below_step (by repeat (first | (with_reducible first | exact HB.out | apply below_alloc | apply pw_below_drewN | apply below_drew1 | refine below_set ?_ GE321.out) | exact HB.out)) hb); clear HO324; clear HO327; clear BK321; clear HB; have HO324 := n0_; have HO327 := n1_; have HO330 := n2_; have BK321 := n3_; have HB := n4_; clear n0_ n1_ n2_ n3_ n4_; clear hb ho78; obtain ⟨Ao79, co79, eo79⟩ := Kd.R_slice HO330.out; subst eo79) | ((with_reducible refine gate_dst (N := 14) rfl ?_); (try (refine gate_guard (by rfl) ?_; dsimp only)); refine Kd.N_lit k90 _ 90 ?hg (N' := 14) ?hd (xs := ([(⟨y322, (⟨(⟨0, 0⟩ : S86), 0⟩ : S88), 0, false⟩ : S90), (⟨y325, (⟨(⟨0, 0⟩ : S86), 0⟩ : S88), 0, false⟩ : S90), (⟨y328, (⟨(⟨0, 0⟩ : S86), 0⟩ : S88), 0, false⟩ : S90)] : List (S90))) (inner := [.slice Ao73 y322.length co73, .int .u64 0, .int .u64 0, .int .u64 0, .int .u64 0, .bool false, .slice Ao76 y325.length co76, .int .u64 0, .int .u64 0, .int .u64 0, .int .u64 0, .bool false, .slice Ao79 y328.length co79, .int .u64 0, .int .u64 0, .int .u64 0, .int .u64 0, .bool false]) (ok := (fun k_ => k_ ≠ gb321)) (okp := (fun k_ => k_ ≠ gb321)) ?hr ?hp (fun _ hk => hk) ((show ∀ k_, w77.heap.size ≤ k_ → (fun k_ => k_ ≠ gb321) k_ from fun k_ hk => Kd.freshB (g := gb321) (o := .cells #[.int .u32 3, .int .u32 0] 34 (0, 0)) (by (with_reducible repeat (first | refine blk_drewN ?_ _ | refine blk_drew ?_ | refine blk_alloc ?_ _)); exact BK321.out) k_ hk) _ (Nat.le_refl _)) (Below.refl _ _) (Nat.le_refl _) (by simp) ?_; (case hd => rfl); (case hg => rfl); (case hr => first | (go_simp; done) | (go_simp; rfl)); (case hp => exact (Reps.c6 (show Kd.FK k90 _ _ (⟨y322, (⟨(⟨0, 0⟩ : S86), 0⟩ : S88), 0, false⟩ : S90) [.slice Ao73 y322.length co73, .int .u64 0, .int .u64 0, .int .u64 0, .int .u64 0, .bool false] from (k90_mkF _ _ (⟨y322, (⟨(⟨0, 0⟩ : S86), 0⟩ : S88), 0, false⟩ : S90) (Kd.R_reads' (Kd.R_mono (ok' := (fun k_ => k_ ≠ gb321)) (Kd.R_types (HO324.out) BK321.out (by decide)) (fun k_ hk => hk.2))).2.1 (Kd.R_F (Kd.R_mono (ok' := (fun k_ => k_ ≠ gb321)) (Kd.R_types (HO324.out) BK321.out (by decide)) (fun k_ hk => hk.2))))) (Reps.c6 (show Kd.FK k90 _ _ (⟨y325, (⟨(⟨0, 0⟩ : S86), 0⟩ : S88), 0, false⟩ : S90) [.slice Ao76 y325.length co76, .int .u64 0, .int .u64 0, .int .u64 0, .int .u64 0, .bool false] from (k90_mkF _ _ (⟨y325, (⟨(⟨0, 0⟩ : S86), 0⟩ : S88), 0, false⟩ : S90) (Kd.R_reads' (Kd.R_mono (ok' := (fun k_ => k_ ≠ gb321)) (Kd.R_types (HO327.out) BK321.out (by decide)) (fun k_ hk => hk.2))).2.1 (Kd.R_F (Kd.R_mono (ok' := (fun k_ => k_ ≠ gb321)) (Kd.R_types (HO327.out) BK321.out (by decide)) (fun k_ hk => hk.2))))) (Reps.c6 (show Kd.FK k90 _ _ (⟨y328, (⟨(⟨0, 0⟩ : S86), 0⟩ : S88), 0, false⟩ : S90) [.slice Ao79 y328.length co79, .int .u64 0, .int .u64 0, .int .u64 0, .int .u64 0, .bool false] from (k90_mkF _ _ (⟨y328, (⟨(⟨0, 0⟩ : S86), 0⟩ : S88), 0, false⟩ : S90) (Kd.R_reads' (Kd.R_mono (ok' := (fun k_ => k_ ≠ gb321)) (Kd.R_types (HO330.out) BK321.out (by decide)) (fun k_ hk => hk.2))).2.1 (Kd.R_F (Kd.R_mono (ok' := (fun k_ => k_ ≠ gb321)) (Kd.R_types (HO330.out) BK321.out (by decide)) (fun k_ hk => hk.2))))) (Reps.none _ _))))); intro v332 w80 ho81 hb hg_ hnew_; clear hg_ hnew_; (first | rw [← Ny331.out] at ho81 | (simp only [Int.reduceToNat] at ho81; rw [← Ny331.out] at ho81)); have n0_ := Aside0.mk (Kd.N_lower ho81 (below_size (by repeat (first | (with_reducible first | exact HB.out | apply below_alloc | apply pw_below_drewN | apply below_drew1 | refine below_set ?_ GE321.out) | exact HB.out)))); have n1_ := Aside0.mk (blk_below (g := gb321) (o := .cells #[.int .u32 3, .int .u32 0] 34 (0, 0)) (by (with_reducible repeat (first | refine blk_drewN ?_ _ | refine blk_drew ?_ | refine blk_alloc ?_ _)); exact BK321.out) hb); have n2_ := Aside0.mk (below_step (by repeat (first | (with_reducible first | exact HB.out | apply below_alloc | apply pw_below_drewN | apply below_drew1 | refine below_set ?_ GE321.out) | exact HB.out)) hb); clear BK321; clear HB; clear HO324; clear HO327; clear HO330; have HO333 := n0_; have BK321 := n1_; have HB := n2_; clear n0_ n1_ n2_; clear hb ho81; have hcz82_0 : w80.cell? ⟨gb321, 0, none⟩ = some (.int .u32 3) := (blk_cell BK321.out 0).trans rfl; have hcz82_1 : w80.cell? ⟨gb321, 1, none⟩ = some (.int .u32 0) := (blk_cell BK321.out 1).trans rfl; have hfz82_0 := blk_frozen BK321.out 0; have hfz82_1 := blk_frozen BK321.out 1) | ((with_reducible refine gate_dst (N := 23) rfl ?_); (try (refine gate_guard (by rfl) ?_; dsimp only)); refine Kd.R_lit k36 _ 36 ?hg (N := 23) ?hd (xs := ([(⟨1, (-1), (⟨3, 0⟩ : S34)⟩ : S36), (⟨2, (-1), (⟨3, 0⟩ : S34)⟩ : S36), (⟨3, 1, (⟨3, 0⟩ : S34)⟩ : S36), (⟨4, (-1), (⟨3, 0⟩ : S34)⟩ : S36)] : List (S36))) (inner := [.int .i64 1, .int .i64 (-1), .int .u32 3, .int .u32 0, .int .i64 2, .int .i64 (-1), .int .u32 3, .int .u32 0, .int .i64 3, .int .i64 1, .int .u32 3, .int .u32 0, .int .i64 4, .int .i64 (-1), .int .u32 3, .int .u32 0]) (ok := fun _ => True) (okp := fun _ => True) ?hr ?hp (fun _ hk => hk) trivial (Below.refl _ _) (Nat.le_refl _) (by simp) ?_; (case hd => rfl); (case hg => rfl); (case hr => first | (go_simp; done) | (go_simp; rfl)); (case hp => exact (Reps.c4 (show Kd.M k36 _ _ _ (⟨1, (-1), (⟨3, 0⟩ : S34)⟩ : S36) [.int .i64 1, .int .i64 (-1), .int .u32 3, .int .u32 0] from (k36_mkM _ _ _ (⟨1, (-1), (⟨3, 0⟩ : S34)⟩ : S36) )) (Reps.c4 (show Kd.M k36 _ _ _ (⟨2, (-1), (⟨3, 0⟩ : S34)⟩ : S36) [.int .i64 2, .int .i64 (-1), .int .u32 3, .int .u32 0] from (k36_mkM _ _ _ (⟨2, (-1), (⟨3, 0⟩ : S34)⟩ : S36) )) (Reps.c4 (show Kd.M k36 _ _ _ (⟨3, 1, (⟨3, 0⟩ : S34)⟩ : S36) [.int .i64 3, .int .i64 1, .int .u32 3, .int .u32 0] from (k36_mkM _ _ _ (⟨3, 1, (⟨3, 0⟩ : S34)⟩ : S36) )) (Reps.c4 (show Kd.M k36 _ _ _ (⟨4, (-1), (⟨3, 0⟩ : S34)⟩ : S36) [.int .i64 4, .int .i64 (-1), .int .u32 3, .int .u32 0] from (k36_mkM _ _ _ (⟨4, (-1), (⟨3, 0⟩ : S34)⟩ : S36) )) (Reps.none _ _)))))); intro v335 w83 ho84 hb hg_ hnew_; clear hg_ hnew_; (first | rw [← Ny334.out] at ho84 | (simp only [Int.reduceToNat] at ho84; rw [← Ny334.out] at ho84)); have n0_ := Aside0.mk (Kd.N_elder' (by (with_reducible repeat (first | apply Kd.N_alloc | apply Kd.N_drewN | apply Kd.N_drew)); exact HO333.out) (Kd.R_base ho84) hb); have n1_ := Aside0.mk (Kd.R_lower ho84 (below_size (by repeat (first | (with_reducible first | exact HB.out | apply below_alloc | apply pw_below_drewN | apply below_drew1 | refine below_set ?_ GE321.out) | exact HB.out)))); have n2_ := Aside0.mk (blk_below (g := gb321) (o := .cells #[.int .u32 3, .int .u32 0] 34 (0, 0)) (by (with_reducible repeat (first | refine blk_drewN ?_ _ | refine blk_drew ?_ | refine blk_alloc ?_ _)); exact BK321.out) hb); have n3_ := Aside0.mk (below_step (by repeat (first | (with_reducible first | exact HB.out | apply below_alloc | apply pw_below_drewN | apply below_drew1 | refine below_set ?_ GE321.out) | exact HB.out)) hb); clear HO333; clear BK321; clear HB; have HO333 := n0_; have HO336 := n1_; have BK321 := n2_; have HB := n3_; clear n0_ n1_ n2_ n3_; clear hb ho84; obtain ⟨Ao85, co85, eo85⟩ := Kd.N_slice HO333.out; subst eo85; obtain ⟨Ao86, co86, eo86⟩ := Kd.R_slice HO336.out; subst eo86) | ((with_reducible refine gate_callee (f := 20) rfl ?_); refine goesL_ (some 27) rfl rfl Tryd.func20 (by kernel_rfl) rfl #[.slice Ao85 y331.length co85, .slice Ao86 y334.length co86, .int .u32 3] rfl (by (try simp only [List.map_toArray, List.map_cons, List.map_nil]); first | done | rfl | (simp only [List.length_drop, List.length_take]; rfl)) ?_; (with_reducible refine (pick_Pick.calls _ _ y331 _ _ y334 3 t337 t338 t339 _ ?side1 ?side2 ?side3 ?side4 ?tb A1.out).mono ?_); (case tb => exact HT.out.step (by repeat (first | (with_reducible first | exact HB.out | apply below_alloc | apply pw_below_drewN | apply below_drew1 | refine below_set ?_ GE321.out) | exact HB.out))); (case side1 => repeat (first | exact (Kd.N_reads' HO333.out).2.2 | (with_reducible refine Kd.C_alloc ?_ _) | (with_reducible refine Kd.C_drewN ?_ _) | (with_reducible refine Kd.C_drew ?_))); (case side2 => exact (Kd.N_reads' HO333.out).2.1); (case side3 => repeat (first | exact (Kd.R_reads' HO336.out).2.2 | (with_reducible refine Kd.C_alloc ?_ _) | (with_reducible refine Kd.C_drewN ?_ _) | (with_reducible refine Kd.C_drew ?_))); (case side4 => exact (Kd.R_reads' HO336.out).2.1); rintro e w87 ⟨v340, v342, rfl, ho0, ho1, hb⟩; refine ⟨_, rfl, ?_⟩; have n0_ := Aside0.mk (Kd.N_mono (Kd.N_told (Kd.N_told (Kd.N_old (by (with_reducible repeat (first | apply Kd.N_alloc | apply Kd.N_drewN | apply Kd.N_drew)); exact HO333.out) hb) (Kd.R_base ho0)) (Kd.R_base ho1)) (fun _ h_ => h_.1)); have n1_ := Aside0.mk (Kd.R_below (by (with_reducible repeat (first | apply Kd.R_alloc | apply Kd.R_drewN | apply Kd.R_drew)); exact HO336.out) hb); have n2_ := Aside0.mk (Kd.R_lower ho0 (below_size (by repeat (first | (with_reducible first | exact HB.out | apply below_alloc | apply pw_below_drewN | apply below_drew1 | refine below_set ?_ GE321.out) | exact HB.out)))); have n3_ := Aside0.mk (Kd.R_lower ho1 (below_size (by repeat (first | (with_reducible first | exact HB.out | apply below_alloc | apply pw_below_drewN | apply below_drew1 | refine below_set ?_ GE321.out) | exact HB.out)))); have n4_ := Aside0.mk (blk_below (g := gb321) (o := .cells #[.int .u32 3, .int .u32 0] 34 (0, 0)) (by (with_reducible repeat (first | refine blk_drewN ?_ _ | refine blk_drew ?_ | refine blk_alloc ?_ _)); exact BK321.out) hb); have n5_ := Aside0.mk (below_step (by repeat (first | (with_reducible first | exact HB.out | apply below_alloc | apply pw_below_drewN | apply below_drew1 | refine below_set ?_ GE321.out) | exact HB.out)) hb); clear HO333; clear HO336; clear BK321; clear HB; have HO333 := n0_; have HO336 := n1_; have HO341 := n2_; have HO343 := n3_; have BK321 := n4_; have HB := n5_; clear n0_ n1_ n2_ n3_ n4_ n5_; (try clear hb); (try clear hb2); (try clear hk); (try clear hi); (try clear ho0); (try clear ho1); obtain ⟨Ao88, co88, eo88⟩ := Kd.R_slice HO341.out; subst eo88))
   go_ret
   exact ⟨by first | rfl | (simp [errW_none, errW_some] <;> rfl) | (simp [*, errW_none, errW_some] <;> rfl), by repeat (first | (with_reducible first | exact HB.out | apply below_alloc | apply pw_below_drewN | apply below_drew1 | refine below_set ?_ GE321.out) | exact HB.out)⟩
 ·rw [if_neg c2] at H
  have c2b0 : (t339 == 0) = false := beq_eq_false_iff_ne.mpr c2
  have c2b1 : (t339 != 0) = true := bne_iff_ne.mpr c2
  obtain rfl := Option.some.inj H
  go_enter Tryd.func18, Tryd.ntmps18
  go_wp2_with (first | ((with_reducible refine gate_dst (N := 1) rfl ?_); (try (refine gate_guard (by rfl) ?_; dsimp only)); refine box_event ?hg (N := 1) ?hd (cs := #[.int .u32 0, .int .u32 0]) (t := 34) ?hr ?_; (case hd => rfl); (case hg => rfl); (case hr => first | (go_simp; done) | (go_simp; rfl)); intro gb321 hg w89 hbox hb; have n0_ := Aside0.mk (below_step (by repeat (first | (with_reducible first | exact HB.out | apply below_alloc | apply pw_below_drewN | apply below_drew1) | exact HB.out)) hb); have n1_ := Aside0.mk (hbox); have n2_ := Aside0.mk ((by rw [hg]; exact (below_size (by repeat (first | (with_reducible first | exact HB.out | apply below_alloc | apply pw_below_drewN | apply below_drew1) | exact HB.out))) : w.heap.size ≤ gb321)); have n3_ := Aside0.mk ((by rw [hg]; exact (below_size (by repeat (first | (with_reducible first | exact HB.out | apply below_alloc | apply pw_below_drewN | apply below_drew1) | exact HB.out))) : w.heap.size ≤ gb321)); clear HB; have HB := n0_; have BK321 := n1_; have GW321 := n2_; have GE321 := n3_; clear n0_ n1_ n2_ n3_; clear hb hbox hg; have hcz90_0 : w89.cell? ⟨gb321, 0, none⟩ = some (.int .u32 0) := (blk_cell BK321.out 0).trans rfl; have hcz90_1 : w89.cell? ⟨gb321, 1, none⟩ = some (.int .u32 0) := (blk_cell BK321.out 1).trans rfl; have hfz90_0 := blk_frozen BK321.out 0; have hfz90_1 := blk_frozen BK321.out 1) | ((with_reducible refine gate_dst (N := 8) rfl ?_); (try (refine gate_guard (by rfl) ?_; dsimp only)); refine Kd.R_lit (Kd.int .i64) _ 3 ?hg (N := 8) ?hd (xs := ([3] : List Int)) (inner := [.int .i64 3]) (ok := fun _ => True) (okp := fun _ => True) ?hr ?hp (fun _ hk => hk) trivial (Below.refl _ _) (Nat.le_refl _) (by simp) ?_; (case hd => rfl); (case hg => rfl); (case hr => first | (go_simp; done) | (go_simp; rfl)); (case hp => exact (Reps.one (show Kd.M (Kd.int .i64) _ _ _ 3 [.int .i64 3] from rfl) (Reps.none _ _))); intro v323 w91 ho92 hb hg_ hnew_; clear hg_ hnew_; (first | rw [← Ny322.out] at ho92 | (simp only [Int.reduceToNat] at ho92; rw [← Ny322.out] at ho92)); have n0_ := Aside0.mk (Kd.R_lower ho92 (below_size (by repeat (first | (with_reducible first | exact HB.out | apply below_alloc | apply pw_below_drewN | apply below_drew1 | refine below_set ?_ GE321.out) | exact HB.out)))); have n1_ := Aside0.mk (blk_below (g := gb321) (o := .cells #[.int .u32 3, .int .u32 0] 34 (0, 0)) (by (with_reducible repeat (first | refine blk_drewN ?_ _ | refine blk_drew ?_ | refine blk_alloc ?_ _)); refine blk_put (cs := #[.int .u32 3, .int .u32 0]) ?_ 1 _ rfl; (with_reducible repeat (first | refine blk_drewN ?_ _ | refine blk_drew ?_ | refine blk_alloc ?_ _)); refine blk_put (cs := #[.int .u32 0, .int .u32 0]) ?_ 0 _ rfl; (with_reducible repeat (first | refine blk_drewN ?_ _ | refine blk_drew ?_ | refine blk_alloc ?_ _)); exact BK321.out) hb); have n2_ := Aside0.mk (below_step (by repeat (first | (with_reducible first | exact HB.out | apply below_alloc | apply pw_below_drewN | apply below_drew1 | refine below_set ?_ GE321.out) | exact HB.out)) hb); clear BK321; clear HB; have HO324 := n0_; have BK321 := n1_; have HB := n2_; clear n0_ n1_ n2_; clear hb ho92; obtain ⟨Ao93, co93, eo93⟩ := Kd.R_slice HO324.out; subst eo93) | ((with_reducible refine gate_dst (N := 10) rfl ?_); (try (refine gate_guard (by rfl) ?_; dsimp only)); refine Kd.R_lit (Kd.int .i64) _ 3 ?hg (N := 10) ?hd (xs := ([1, 2] : List Int)) (inner := [.int .i64 1, .int .i64 2]) (ok := fun _ => True) (okp := fun _ => True) ?hr ?hp (fun _ hk => hk) trivial (Below.refl _ _) (Nat.le_refl _) (by simp) ?_; (case hd => rfl); (case hg => rfl); (case hr => first | (go_simp; done) | (go_simp; rfl)); (case hp => exact (Reps.one (show Kd.M (Kd.int .i64) _ _ _ 1 [.int .i64 1] from rfl) (Reps.one (show Kd.M (Kd.int .i64) _ _ _ 2 [.int .i64 2] from rfl) (Reps.none _ _)))); intro v326 w94 ho95 hb hg_ hnew_; clear hg_ hnew_; (first | rw [← Ny325.out] at ho95 | (simp only [Int.reduceToNat] at ho95; rw [← Ny325.out] at ho95)); have n0_ := Aside0.mk (Kd.R_elder' (by (with_reducible repeat (first | apply Kd.R_alloc | apply Kd.R_drewN | apply Kd.R_drew)); exact HO324.out) (Kd.R_base ho95) hb); have n1_ := Aside0.mk (Kd.R_lower (Kd.R_new' ho95 (Kd.R_lt (by (with_reducible repeat (first | apply Kd.R_alloc | apply Kd.R_drewN | apply Kd.R_drew)); exact HO324.out))) (below_size (by repeat (first | (with_reducible first | exact HB.out | apply below_alloc | apply pw_below_drewN | apply below_drew1 | refine below_set ?_ GE321.out) | exact HB.out)))); have n2_ := Aside0.mk (blk_below (g := gb321) (o := .cells #[.int .u32 3, .int .u32 0] 34 (0, 0)) (by (with_reducible repeat (first | refine blk_drewN ?_ _ | refine blk_drew ?_ | refine blk_alloc ?_ _)); exact BK321.out) hb); have n3_ := Aside0.mk (below_step (by repeat (first | (with_reducible first | exact HB.out | apply below_alloc | apply pw_below_drewN | apply below_drew1 | refine below_set ?_ GE321.out) | exact HB.out)) hb); clear HO324; clear BK321; clear HB; have HO324 := n0_; have HO327 := n1_; have BK321 := n2_; have HB := n3_; clear n0_ n1_ n2_ n3_; clear hb ho95; obtain ⟨Ao96, co96, eo96⟩ := Kd.R_slice HO327.out; subst eo96) | ((with_reducible refine gate_dst (N := 12) rfl ?_); (try (refine gate_guard (by rfl) ?_; dsimp only)); refine Kd.R_lit (Kd.int .i64) _ 3 ?hg (N := 12) ?hd (xs := ([4] : List Int)) (inner := [.int .i64 4]) (ok := fun _ => True) (okp := fun _ => True) ?hr ?hp (fun _ hk => hk) trivial (Below.refl _ _) (Nat.le_refl _) (by simp) ?_; (case hd => rfl); (case hg => rfl); (case hr => first | (go_simp; done) | (go_simp; rfl)); (case hp => exact (Reps.one (show Kd.M (Kd.int .i64) _ _ _ 4 [.int .i64 4] from rfl) (Reps.none _ _))); intro v329 w97 ho98 hb hg_ hnew_; clear hg_ hnew_; (first | rw [← Ny328.out] at ho98 | (simp only [Int.reduceToNat] at ho98; rw [← Ny328.out] at ho98)); have n0_ := Aside0.mk (Kd.R_elder' (by (with_reducible repeat (first | apply Kd.R_alloc | apply Kd.R_drewN | apply Kd.R_drew)); exact HO324.out) (Kd.R_base ho98) hb); have n1_ := Aside0.mk (Kd.R_elder' (by (with_reducible repeat (first | apply Kd.R_alloc | apply Kd.R_drewN | apply Kd.R_drew)); exact HO327.out) (Kd.R_base ho98) hb); have n2_ := Aside0.mk (Kd.R_lower (Kd.R_new' (Kd.R_new' ho98 (Kd.R_lt (by (with_reducible repeat (first | apply Kd.R_alloc | apply Kd.R_drewN | apply Kd.R_drew)); exact HO324.out))) (Kd.R_lt (by (with_reducible repeat (first | apply Kd.R_alloc | apply Kd.R_drewN | apply Kd.R_drew)); exact HO327.out))) (below_size (by repeat (first | (with_reducible first | exact HB.out | apply below_alloc | apply pw_below_drewN | apply below_drew1 | refine below_set ?_ GE321.out) | exact HB.out)))); have n3_ := Aside0.mk (blk_below (g := gb321) (o := .cells #[.int .u32 3, .int .u32 0] 34 (0, 0)) (by (with_reducible repeat (first | refine blk_drewN ?_ _ | refine blk_drew ?_ | refine blk_alloc ?_ _)); exact BK321.out) hb); have n4_ := Aside0.mk (below_step (by repeat (first | (with_reducible first | exact HB.out | apply below_alloc | apply pw_below_drewN | apply below_drew1 | refine below_set ?_ GE321.out) | exact HB.out)) hb); clear HO324; clear HO327; clear BK321; clear HB; have HO324 := n0_; have HO327 := n1_; have HO330 := n2_; have BK321 := n3_; have HB := n4_; clear n0_ n1_ n2_ n3_ n4_; clear hb ho98; obtain ⟨Ao99, co99, eo99⟩ := Kd.R_slice HO330.out; subst eo99) | ((with_reducible refine gate_dst (N := 14) rfl ?_); (try (refine gate_guard (by rfl) ?_; dsimp only)); refine Kd.N_lit k90 _ 90 ?hg (N' := 14) ?hd (xs := ([(⟨y322, (⟨(⟨0, 0⟩ : S86), 0⟩ : S88), 0, false⟩ : S90), (⟨y325, (⟨(⟨0, 0⟩ : S86), 0⟩ : S88), 0, false⟩ : S90), (⟨y328, (⟨(⟨0, 0⟩ : S86), 0⟩ : S88), 0, false⟩ : S90)] : List (S90))) (inner := [.slice Ao93 y322.length co93, .int .u64 0, .int .u64 0, .int .u64 0, .int .u64 0, .bool false, .slice Ao96 y325.length co96, .int .u64 0, .int .u64 0, .int .u64 0, .int .u64 0, .bool false, .slice Ao99 y328.length co99, .int .u64 0, .int .u64 0, .int .u64 0, .int .u64 0, .bool false]) (ok := (fun k_ => k_ ≠ gb321)) (okp := (fun k_ => k_ ≠ gb321)) ?hr ?hp (fun _ hk => hk) ((show ∀ k_, w97.heap.size ≤ k_ → (fun k_ => k_ ≠ gb321) k_ from fun k_ hk => Kd.freshB (g := gb321) (o := .cells #[.int .u32 3, .int .u32 0] 34 (0, 0)) (by (with_reducible repeat (first | refine blk_drewN ?_ _ | refine blk_drew ?_ | refine blk_alloc ?_ _)); exact BK321.out) k_ hk) _ (Nat.le_refl _)) (Below.refl _ _) (Nat.le_refl _) (by simp) ?_; (case hd => rfl); (case hg => rfl); (case hr => first | (go_simp; done) | (go_simp; rfl)); (case hp => exact (Reps.c6 (show Kd.FK k90 _ _ (⟨y322, (⟨(⟨0, 0⟩ : S86), 0⟩ : S88), 0, false⟩ : S90) [.slice Ao93 y322.length co93, .int .u64 0, .int .u64 0, .int .u64 0, .int .u64 0, .bool false] from (k90_mkF _ _ (⟨y322, (⟨(⟨0, 0⟩ : S86), 0⟩ : S88), 0, false⟩ : S90) (Kd.R_reads' (Kd.R_mono (ok' := (fun k_ => k_ ≠ gb321)) (Kd.R_types (HO324.out) BK321.out (by decide)) (fun k_ hk => hk.2))).2.1 (Kd.R_F (Kd.R_mono (ok' := (fun k_ => k_ ≠ gb321)) (Kd.R_types (HO324.out) BK321.out (by decide)) (fun k_ hk => hk.2))))) (Reps.c6 (show Kd.FK k90 _ _ (⟨y325, (⟨(⟨0, 0⟩ : S86), 0⟩ : S88), 0, false⟩ : S90) [.slice Ao96 y325.length co96, .int .u64 0, .int .u64 0, .int .u64 0, .int .u64 0, .bool false] from (k90_mkF _ _ (⟨y325, (⟨(⟨0, 0⟩ : S86), 0⟩ : S88), 0, false⟩ : S90) (Kd.R_reads' (Kd.R_mono (ok' := (fun k_ => k_ ≠ gb321)) (Kd.R_types (HO327.out) BK321.out (by decide)) (fun k_ hk => hk.2))).2.1 (Kd.R_F (Kd.R_mono (ok' := (fun k_ => k_ ≠ gb321)) (Kd.R_types (HO327.out) BK321.out (by decide)) (fun k_ hk => hk.2))))) (Reps.c6 (show Kd.FK k90 _ _ (⟨y328, (⟨(⟨0, 0⟩ : S86), 0⟩ : S88), 0, false⟩ : S90) [.slice Ao99 y328.length co99, .int .u64 0, .int .u64 0, .int .u64 0, .int .u64 0, .bool false] from (k90_mkF _ _ (⟨y328, (⟨(⟨0, 0⟩ : S86), 0⟩ : S88), 0, false⟩ : S90) (Kd.R_reads' (Kd.R_mono (ok' := (fun k_ => k_ ≠ gb321)) (Kd.R_types (HO330.out) BK321.out (by decide)) (fun k_ hk => hk.2))).2.1 (Kd.R_F (Kd.R_mono (ok' := (fun k_ => k_ ≠ gb321)) (Kd.R_types (HO330.out) BK321.out (by decide)) (fun k_ hk => hk.2))))) (Reps.none _ _))))); intro v332 w100 ho101 hb hg_ hnew_; clear hg_ hnew_; (first | rw [← Ny331.out] at ho101 | (simp only [Int.reduceToNat] at ho101; rw [← Ny331.out] at ho101)); have n0_ := Aside0.mk (Kd.N_lower ho101 (below_size (by repeat (first | (with_reducible first | exact HB.out | apply below_alloc | apply pw_below_drewN | apply below_drew1 | refine below_set ?_ GE321.out) | exact HB.out)))); have n1_ := Aside0.mk (blk_below (g := gb321) (o := .cells #[.int .u32 3, .int .u32 0] 34 (0, 0)) (by (with_reducible repeat (first | refine blk_drewN ?_ _ | refine blk_drew ?_ | refine blk_alloc ?_ _)); exact BK321.out) hb); have n2_ := Aside0.mk (below_step (by repeat (first | (with_reducible first | exact HB.out | apply below_alloc | apply pw_below_drewN | apply below_drew1 | refine below_set ?_ GE321.out) | exact HB.out)) hb); clear BK321; clear HB; clear HO324; clear HO327; clear HO330; have HO333 := n0_; have BK321 := n1_; have HB := n2_; clear n0_ n1_ n2_; clear hb ho101; have hcz102_0 : w100.cell? ⟨gb321, 0, none⟩ = some (.int .u32 3) := (blk_cell BK321.out 0).trans rfl; have hcz102_1 : w100.cell? ⟨gb321, 1, none⟩ = some (.int .u32 0) := (blk_cell BK321.out 1).trans rfl; have hfz102_0 := blk_frozen BK321.out 0; have hfz102_1 := blk_frozen BK321.out 1) | ((with_reducible refine gate_dst (N := 23) rfl ?_); (try (refine gate_guard (by rfl) ?_; dsimp only)); refine Kd.R_lit k36 _ 36 ?hg (N := 23) ?hd (xs := ([(⟨1, (-1), (⟨3, 0⟩ : S34)⟩ : S36), (⟨2, (-1), (⟨3, 0⟩ : S34)⟩ : S36), (⟨3, 1, (⟨3, 0⟩ : S34)⟩ : S36), (⟨4, (-1), (⟨3, 0⟩ : S34)⟩ : S36)] : List (S36))) (inner := [.int .i64 1, .int .i64 (-1), .int .u32 3, .int .u32 0, .int .i64 2, .int .i64 (-1), .int .u32 3, .int .u32 0, .int .i64 3, .int .i64 1, .int .u32 3, .int .u32 0, .int .i64 4, .int .i64 (-1), .int .u32 3, .int .u32 0]) (ok := fun _ => True) (okp := fun _ => True) ?hr ?hp (fun _ hk => hk) trivial (Below.refl _ _) (Nat.le_refl _) (by simp) ?_; (case hd => rfl); (case hg => rfl); (case hr => first | (go_simp; done) | (go_simp; rfl)); (case hp => exact (Reps.c4 (show Kd.M k36 _ _ _ (⟨1, (-1), (⟨3, 0⟩ : S34)⟩ : S36) [.int .i64 1, .int .i64 (-1), .int .u32 3, .int .u32 0] from (k36_mkM _ _ _ (⟨1, (-1), (⟨3, 0⟩ : S34)⟩ : S36) )) (Reps.c4 (show Kd.M k36 _ _ _ (⟨2, (-1), (⟨3, 0⟩ : S34)⟩ : S36) [.int .i64 2, .int .i64 (-1), .int .u32 3, .int .u32 0] from (k36_mkM _ _ _ (⟨2, (-1), (⟨3, 0⟩ : S34)⟩ : S36) )) (Reps.c4 (show Kd.M k36 _ _ _ (⟨3, 1, (⟨3, 0⟩ : S34)⟩ : S36) [.int .i64 3, .int .i64 1, .int .u32 3, .int .u32 0] from (k36_mkM _ _ _ (⟨3, 1, (⟨3, 0⟩ : S34)⟩ : S36) )) (Reps.c4 (show Kd.M k36 _ _ _ (⟨4, (-1), (⟨3, 0⟩ : S34)⟩ : S36) [.int .i64 4, .int .i64 (-1), .int .u32 3, .int .u32 0] from (k36_mkM _ _ _ (⟨4, (-1), (⟨3, 0⟩ : S34)⟩ : S36) )) (Reps.none _ _)))))); intro v335 w103 ho104 hb hg_ hnew_; clear hg_ hnew_; (first | rw [← Ny334.out] at ho104 | (simp only [Int.reduceToNat] at ho104; rw [← Ny334.out] at ho104)); have n0_ := Aside0.mk (Kd.N_elder' (by (with_reducible repeat (first | apply Kd.N_alloc | apply Kd.N_drewN | apply Kd.N_drew)); exact HO333.out) (Kd.R_base ho104) hb); have n1_ := Aside0.mk (Kd.R_lower ho104 (below_size (by repeat (first | (with_reducible first | exact HB.out | apply below_alloc | apply pw_below_drewN | apply below_drew1 | refine below_set ?_ GE321.out) | exact HB.out)))); have n2_ := Aside0.mk (blk_below (g := gb321) (o := .cells #[.int .u32 3, .int .u32 0] 34 (0, 0)) (by (with_reducible repeat (first | refine blk_drewN ?_ _ | refine blk_drew ?_ | refine blk_alloc ?_ _)); exact BK321.out) hb); have n3_ := Aside0.mk (below_step (by repeat (first | (with_reducible first | exact HB.out | apply below_alloc | apply pw_below_drewN | apply below_drew1 | refine below_set ?_ GE321.out) | exact HB.out)) hb); clear HO333; clear BK321; clear HB; have HO333 := n0_; have HO336 := n1_; have BK321 := n2_; have HB := n3_; clear n0_ n1_ n2_ n3_; clear hb ho104; obtain ⟨Ao105, co105, eo105⟩ := Kd.N_slice HO333.out; subst eo105; obtain ⟨Ao106, co106, eo106⟩ := Kd.R_slice HO336.out; subst eo106) | ((with_reducible refine gate_callee (f := 20) rfl ?_); refine goesL_ (some 27) rfl rfl Tryd.func20 (by kernel_rfl) rfl #[.slice Ao105 y331.length co105, .slice Ao106 y334.length co106, .int .u32 3] rfl (by (try simp only [List.map_toArray, List.map_cons, List.map_nil]); first | done | rfl | (simp only [List.length_drop, List.length_take]; rfl)) ?_; (with_reducible refine (pick_Pick.calls _ _ y331 _ _ y334 3 t337 t338 t339 _ ?side1 ?side2 ?side3 ?side4 ?tb A1.out).mono ?_); (case tb => exact HT.out.step (by repeat (first | (with_reducible first | exact HB.out | apply below_alloc | apply pw_below_drewN | apply below_drew1 | refine below_set ?_ GE321.out) | exact HB.out))); (case side1 => repeat (first | exact (Kd.N_reads' HO333.out).2.2 | (with_reducible refine Kd.C_alloc ?_ _) | (with_reducible refine Kd.C_drewN ?_ _) | (with_reducible refine Kd.C_drew ?_))); (case side2 => exact (Kd.N_reads' HO333.out).2.1); (case side3 => repeat (first | exact (Kd.R_reads' HO336.out).2.2 | (with_reducible refine Kd.C_alloc ?_ _) | (with_reducible refine Kd.C_drewN ?_ _) | (with_reducible refine Kd.C_drew ?_))); (case side4 => exact (Kd.R_reads' HO336.out).2.1); rintro e w107 ⟨v340, v342, rfl, ho0, ho1, hb⟩; refine ⟨_, rfl, ?_⟩; have n0_ := Aside0.mk (Kd.N_mono (Kd.N_told (Kd.N_told (Kd.N_old (by (with_reducible repeat (first | apply Kd.N_alloc | apply Kd.N_drewN | apply Kd.N_drew)); exact HO333.out) hb) (Kd.R_base ho0)) (Kd.R_base ho1)) (fun _ h_ => h_.1)); have n1_ := Aside0.mk (Kd.R_below (by (with_reducible repeat (first | apply Kd.R_alloc | apply Kd.R_drewN | apply Kd.R_drew)); exact HO336.out) hb); have n2_ := Aside0.mk (Kd.R_lower ho0 (below_size (by repeat (first | (with_reducible first | exact HB.out | apply below_alloc | apply pw_below_drewN | apply below_drew1 | refine below_set ?_ GE321.out) | exact HB.out)))); have n3_ := Aside0.mk (Kd.R_lower ho1 (below_size (by repeat (first | (with_reducible first | exact HB.out | apply below_alloc | apply pw_below_drewN | apply below_drew1 | refine below_set ?_ GE321.out) | exact HB.out)))); have n4_ := Aside0.mk (blk_below (g := gb321) (o := .cells #[.int .u32 3, .int .u32 0] 34 (0, 0)) (by (with_reducible repeat (first | refine blk_drewN ?_ _ | refine blk_drew ?_ | refine blk_alloc ?_ _)); exact BK321.out) hb); have n5_ := Aside0.mk (below_step (by repeat (first | (with_reducible first | exact HB.out | apply below_alloc | apply pw_below_drewN | apply below_drew1 | refine below_set ?_ GE321.out) | exact HB.out)) hb); clear HO333; clear HO336; clear BK321; clear HB; have HO333 := n0_; have HO336 := n1_; have HO341 := n2_; have HO343 := n3_; have BK321 := n4_; have HB := n5_; clear n0_ n1_ n2_ n3_ n4_ n5_; (try clear hb); (try clear hb2); (try clear hk); (try clear hi); (try clear ho0); (try clear ho1)))
  go_ret
  exact ⟨by first | rfl | (simp [errW_none, errW_some] <;> rfl) | (simp [*, errW_none, errW_some] <;> rfl), by repeat (first | (with_reducible first | exact HB.out | apply below_alloc | apply pw_below_drewN | apply below_drew1 | refine below_set ?_ GE321.out) | exact HB.out)⟩

end Go.Proofs.YtdmieaidheelbaaDoor.Q
end
/- PureChoices -/
section
/- PickChoices, the plain law: a member's choices are the document's. -/
namespace Go.Proofs.YtdmieaidheelbaaDoor.Q
open Go Go.RowKit Go.Proofs.YtdmieaidheelbaaDoorW.PrintWords Go.Proofs.YtdmieaidheelbaaDoorW.PrintLast Go.Proofs.YtdmieaidheelbaaDoorW.PrintMore
set_option linter.unusedVariables false
set_option linter.unusedSimpArgs false

theorem wakes19 : mainsheetlaw19_wakes.f = some true := by decide +kernel
theorem has19_loop (xs : List Int) (v : Int) (hl : xs.length ≤ 9000000) (d : Nat) : ∀ (k i : Nat), i + d = xs.length → d < k → mainsheetref19_has.l0 k xs v (i : Int) = some (decide (v ∈ xs.drop i)) := by
  induction d with
  | zero =>
    intro k i hi hk
    obtain ⟨k, rfl⟩ : ∃ m, k = m + 1 := ⟨k - 1, by omega⟩
    rw [mainsheetref19_has.l0, if_neg (by omega), List.drop_eq_nil_of_le (by omega)]; simp
  | succ d ih =>
    intro k i hi hk
    obtain ⟨k, rfl⟩ : ∃ m, k = m + 1 := ⟨k - 1, by omega⟩
    have hlt : i < xs.length := by omega
    rw [List.drop_eq_getElem_cons hlt, mainsheetref19_has.l0, if_pos (by omega), if_pos (by omega), rd_eq _ _ hlt]
    by_cases e : xs[i] = v
    · rw [if_pos e, decide_eq_true (by rw [e]; exact List.mem_cons_self)]
    · rw [if_neg e, w64 _ (by omega) (by omega), show (i : Int) + 1 = ((i + 1 : Nat) : Int) by omega, ih k (i + 1) (by omega) (by omega)]
      congr 2
      exact propext ⟨fun h => List.mem_cons_of_mem _ h, fun h => (List.mem_cons.1 h).resolve_left (fun h => e h.symm)⟩
theorem has19_val (xs : List Int) (v : Int) (hl : xs.length ≤ 9000000) (k : Nat) (hk : xs.length < k) : mainsheetref19_has.f k xs v = some (decide (v ∈ xs)) := by
  unfold mainsheetref19_has.f
  rw [show (0 : Int) = ((0 : Nat) : Int) from rfl, has19_loop xs v hl xs.length k 0 (by omega) hk, List.drop_zero]

def moreFrom (s i : Nat) (out : List Int) : List Int := out ++ (listFrom s i).filter fun c => decide (c ∉ out)
theorem listFrom_lo (s i : Nat) : ∀ c ∈ listFrom s i, (i : Int) ≤ c := by
  intro c hc
  unfold listFrom at hc
  obtain ⟨n, hn, rfl⟩ := List.mem_map.1 hc
  have h1 := (List.mem_filter.1 hn).1
  obtain ⟨j, hj, e⟩ := List.mem_iff_getElem.1 h1
  rw [List.getElem_drop, List.getElem_range] at e
  omega
theorem more_step (s i : Nat) (hi : i < 8) (out : List Int) : moreFrom s i out = if s.testBit i = true ∧ (i : Int) ∉ out then moreFrom s (i + 1) (out ++ [(i : Int)]) else moreFrom s (i + 1) out := by
  unfold moreFrom
  rw [listFrom_step s i hi]
  by_cases hb : s.testBit i = true
  · rw [if_pos hb]
    by_cases ho : (i : Int) ∈ out
    · rw [if_neg (fun h => h.2 ho)]
      simp [ho]
    · rw [if_pos ⟨hb, ho⟩, List.filter_append, List.filter_cons, decide_eq_true ho, if_pos rfl, List.filter_nil, List.append_assoc]
      congr 2
      refine List.filter_congr fun c hc => ?_
      have := listFrom_lo s (i + 1) c hc
      have hne : c ≠ (i : Int) := by omega
      simp [hne]
  · rw [if_neg hb, if_neg (fun h => hb h.1)]
    simp
theorem hasN_nat (s i : Nat) (hi : i < 8) : hasN s (i : Int) = s.testBit i := by
  unfold hasN
  have h1 : (0 : Int) ≤ i := by omega
  have h2 : (i : Int) < 8 := by omega
  simp [h1, h2]
theorem rc_l1 (all : Nat) (ha : all < 256) (d : Nat) : ∀ (k i : Nat) (out : List Int), i + d = 8 → out.length ≤ i + 8 + 1 → d + 30 < k → mainsheetref19_Choices.l1 k (all : Int) out (i : Int) = some (moreFrom all i out) := by
  induction d with
  | zero =>
    intro k i out hi ho hk
    obtain ⟨k, rfl⟩ : ∃ m, k = m + 1 := ⟨k - 1, by omega⟩
    obtain rfl : i = 8 := by omega
    rw [mainsheetref19_Choices.l1, if_neg (by omega)]
    unfold moreFrom listFrom
    rw [show (List.range 8).drop 8 = [] from rfl]; simp
  | succ d ih =>
    intro k i out hi ho hk
    obtain ⟨k, rfl⟩ : ∃ m, k = m + 1 := ⟨k - 1, by omega⟩
    have hi8 : i < 8 := by omega
    rw [mainsheetref19_Choices.l1, if_pos (by omega), RHas_val _ (by omega), Option.bind_some, hasN_nat _ _ hi8, more_step all i hi8 out, w64 _ (by omega) (by omega), show (i : Int) + 1 = ((i + 1 : Nat) : Int) by omega]
    by_cases hb : all.testBit i = true
    · rw [if_pos hb, has19_val _ _ (by omega) _ (by omega), Option.bind_some]
      by_cases hm : (i : Int) ∈ out
      · rw [if_pos (by simpa using hm), if_neg (fun h => h.2 hm)]
        exact ih k (i + 1) out (by omega) (by omega) (by omega)
      · rw [if_neg (by simpa using hm), if_pos (by omega), if_pos ⟨hb, hm⟩]
        exact ih k (i + 1) _ (by omega) (by simp; omega) (by omega)
    · rw [if_neg hb, if_neg (fun h => hb h.1)]
      exact ih k (i + 1) out (by omega) (by omega) (by omega)
theorem rc_l0 (all likes : Nat) (ha : all < 256) (hl : likes < 256) (d : Nat) : ∀ (k i : Nat) (out : List Int), i + d = 8 → out.length ≤ i + 1 → d + 60 < k → mainsheetref19_Choices.l0 k (all : Int) (likes : Int) out (i : Int) = some (moreFrom all 0 (moreFrom likes i out)) := by
  induction d with
  | zero =>
    intro k i out hi ho hk
    obtain ⟨k, rfl⟩ : ∃ m, k = m + 1 := ⟨k - 1, by omega⟩
    obtain rfl : i = 8 := by omega
    have e : moreFrom likes 8 out = out := by
      unfold moreFrom listFrom
      rw [show (List.range 8).drop 8 = [] from rfl]; simp
    rw [mainsheetref19_Choices.l0, if_neg (by omega), e]
    exact rc_l1 all ha 8 k 0 out (by omega) (by omega) (by omega)
  | succ d ih =>
    intro k i out hi ho hk
    obtain ⟨k, rfl⟩ : ∃ m, k = m + 1 := ⟨k - 1, by omega⟩
    have hi8 : i < 8 := by omega
    rw [mainsheetref19_Choices.l0, if_pos (by omega), RHas_val _ (by omega), Option.bind_some, hasN_nat _ _ hi8, more_step likes i hi8 out, w64 _ (by omega) (by omega), show (i : Int) + 1 = ((i + 1 : Nat) : Int) by omega]
    by_cases hb : likes.testBit i = true
    · rw [if_pos hb, has19_val _ _ (by omega) _ (by omega), Option.bind_some]
      by_cases hm : (i : Int) ∈ out
      · rw [if_pos (by simpa using hm), if_neg (fun h => h.2 hm)]
        exact ih k (i + 1) out (by omega) (by omega) (by omega)
      · rw [if_neg (by simpa using hm), if_pos (by omega), if_pos ⟨hb, hm⟩]
        exact ih k (i + 1) _ (by omega) (by simp; omega) (by omega)
    · rw [if_neg hb, if_neg (fun h => hb h.1)]
      exact ih k (i + 1) out (by omega) (by omega) (by omega)
theorem list_filter (s t : Nat) (p : Int → Bool) (h : ∀ c : Nat, c < 8 → t.testBit c = (s.testBit c && p c)) : (listOf (s : Int)).filter p = listOf (t : Int) := by
  unfold listOf
  rw [List.filter_map, List.filter_filter]
  congr 1
  refine List.filter_congr fun c hc => ?_
  have hc8 : c < 8 := by simpa using hc
  rw [Int.toNat_natCast, Int.toNat_natCast, h c hc8]
  simp [Bool.and_comm]
theorem more_zero (s : Nat) (out : List Int) : moreFrom s 0 out = out ++ (listOf (s : Int)).filter fun c => decide (c ∉ out) := rfl
theorem more_choices (h s p : Nat) (at_ : Int) : moreFrom (allowsN h s p) 0 (moreFrom (likesN h s p) 0 (if hasN (allowsN h s p) at_ then [at_] else [])) = choicesM h s p at_ := by
  have hA := allowsN_lt h s p
  have hL := likesN_lt h s p
  unfold choicesM
  rw [more_zero, more_zero]
  by_cases ha : hasN (allowsN h s p) at_ = true
  · rw [if_pos ha, if_pos ha]
    have h8 : 0 ≤ at_ ∧ at_ < 8 := by unfold hasN at ha; simp only [Bool.and_eq_true, decide_eq_true_eq] at ha; exact ha.1
    have hp := pow_lt256 at_.toNat (by omega)
    have e1 : (listOf (likesN h s p : Int)).filter (fun c => decide (c ∉ [at_])) = listOf (minus (likesN h s p) (2 ^ at_.toNat) : Nat) := list_filter _ _ _ (fun c hc => by
      rw [minus_bit _ _ _ hp hc, pow_bit]
      by_cases e : (c : Int) = at_
      · rw [decide_eq_true (show at_.toNat = c by omega), decide_eq_false (by simp [e])]; simp
      · rw [decide_eq_false (show ¬ at_.toNat = c by omega), decide_eq_true (by simp [e])]; rfl)
    rw [e1]
    have e2 : (listOf (allowsN h s p : Int)).filter (fun c => decide (c ∉ [at_] ++ listOf (minus (likesN h s p) (2 ^ at_.toNat) : Nat))) = listOf (minus (minus (allowsN h s p) (2 ^ at_.toNat)) (minus (likesN h s p) (2 ^ at_.toNat)) : Nat) := list_filter _ _ _ (fun c hc => by
      rw [minus_bit _ _ _ (minus_lt _ _ hL) hc, minus_bit _ _ _ hp hc, minus_bit _ _ _ hp hc, pow_bit]
      by_cases e : (c : Int) = at_
      · rw [decide_eq_true (show at_.toNat = c by omega), decide_eq_false (by simp [e])]; simp
      · rw [decide_eq_false (show ¬ at_.toNat = c by omega)]
        by_cases hb : (likesN h s p).testBit c = true
        · rw [decide_eq_false (by
            intro hn
            refine hn (List.mem_append_right _ ((mem_listOf _ _).2 ⟨by omega, by omega, ?_⟩))
            rw [Int.toNat_natCast, minus_bit _ _ _ hp hc, pow_bit, decide_eq_false (show ¬ at_.toNat = c by omega), hb]; rfl), hb]; simp
        · rw [decide_eq_true (by
            intro hn
            rcases List.mem_append.1 hn with hn | hn
            · exact e (mem_one hn)
            · have h3 := ((mem_listOf _ _).1 hn).2.2
              rw [Int.toNat_natCast, minus_bit _ _ _ hp hc] at h3
              simp [Bool.eq_false_iff.2 hb] at h3), Bool.eq_false_iff.2 hb]; simp)
    rw [e2]
    simp
  · rw [if_neg ha, if_neg ha]
    have e1 : (listOf (likesN h s p : Int)).filter (fun c => decide (c ∉ ([] : List Int))) = listOf (likesN h s p : Nat) := by simp
    rw [e1, List.nil_append]
    have e2 : (listOf (allowsN h s p : Int)).filter (fun c => decide (c ∉ listOf (likesN h s p : Nat))) = listOf (minus (allowsN h s p) (likesN h s p) : Nat) := list_filter _ _ _ (fun c hc => by
      rw [minus_bit _ _ _ hL hc]
      by_cases hb : (likesN h s p).testBit c = true
      · rw [decide_eq_false (by intro hn; exact hn ((mem_listOf _ _).2 ⟨by omega, by omega, by rw [Int.toNat_natCast]; exact hb⟩)), hb]; simp
      · rw [decide_eq_true (by
          intro hn
          have h3 := ((mem_listOf _ _).1 hn).2.2
          rw [Int.toNat_natCast] at h3; exact hb h3), Bool.eq_false_iff.2 hb]; simp)
    rw [e2]
theorem RChoices_val (h s p : Nat) (v at_ : Int) (hm : maskOk h s = true) (hp : p < 256) (k : Nat) (hk : 100 < k) : mainsheetref19_Choices.f k v at_ (h : Int) (s : Int) (p : Int) = some (choicesM h s p at_) := by
  have hm' := hm
  unfold maskOk at hm'
  simp only [Bool.and_eq_true, decide_eq_true_eq] at hm'
  obtain ⟨⟨hh, hs⟩, hz⟩ := hm'
  have hA := allowsN_lt h s p
  have hL := likesN_lt h s p
  have ea : (h &&& p : Nat) = allowsN h s p := by unfold allowsN; rw [hm, decide_eq_true hp]; rfl
  have el : (if h &&& p &&& s = 0 then ((h &&& p : Nat) : Int) else ((h &&& p &&& s : Nat) : Int)) = ((likesN h s p : Nat) : Int) := by
    unfold likesN
    rw [ea]
    split <;> rfl
  unfold mainsheetref19_Choices.f
  rw [MAllows_val h s p (by omega) (by omega), Option.bind_some, MLikes_val h s p (by omega) (by omega) (by omega), Option.bind_some, el, ea, RHas_val _ (by omega), Option.bind_some]
  obtain ⟨k, rfl⟩ : ∃ m, k = m + 1 := ⟨k - 1, by omega⟩
  have hmc := more_choices h s p at_
  by_cases ha : hasN (allowsN h s p) at_ = true
  · rw [if_pos ha] at hmc ⊢
    rw [if_pos (by simp), mainsheetref19_Choices.j0, show (0 : Int) = ((0 : Nat) : Int) from rfl, rc_l0 _ _ hA hL 8 k 0 _ (by omega) (by simp) (by omega)]
    exact congrArg some hmc
  · rw [if_neg ha] at hmc ⊢
    rw [mainsheetref19_Choices.j0, show (0 : Int) = ((0 : Nat) : Int) from rfl, rc_l0 _ _ hA hL 8 k 0 _ (by omega) (by simp) (by omega)]
    exact congrArg some hmc
end Go.Proofs.YtdmieaidheelbaaDoor.Q
end
