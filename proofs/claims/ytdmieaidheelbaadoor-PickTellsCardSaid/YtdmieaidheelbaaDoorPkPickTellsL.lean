/- For every input the Go function mainsheet/mainsheetlaw19.PickTells returns true and leaves its arguments as they read: its row, and the card that ties the listed table of math/bits to the program's text. -/
import Derived.Test.YtdmieaidheelbaaDoorCards
import Derived.Test.YtdmieaidheelbaaDoorTie
import Derived.WalkKit
import Derived.ProofKit
import Derived.OpenShut
import Derived.ChangeOld
import Derived.Below
import Derived.SizedLaws
import Derived.SevenTiedAt
import Derived.Test.YtdmieaidheelbaaDoorPkPickTellse
namespace Go.Proofs.YtdmieaidheelbaaDoor.pickTells
open Go Go.ChangeShapes Go.WideShapes Go.ChangeAt Go.RowKit Go.Proofs.YtdmieaidheelbaaDoor.Q
set_option linter.unusedVariables false
theorem own : ownKnob Tryd.prog.godebug = none := by kernel_rfl
theorem laidOut : laidOutB Tryd.prog = true := by kernel_rfl
set_option maxRecDepth 100000 in
theorem lifted (os : Os) (started : os.Started) (H : Type) (enc : TypeId × Value → H) :
    ReturnsInHanded {} Tryd.checked os 6 .any (fun w args => (Rows.pickTellsSpec.pre enc Tryd.prog Tryd.f6 [] false w args ∧ laidMetH Tryd.prog theLaid w) ∧ sizedMet enc Tryd.prog Tryd.f6 (OpenSpec.ofChange Rows.pickTellsSpec) false w args)
      (Rows.pickTellsSpec.post enc Tryd.prog Tryd.f6 false true false false) := by
  refine returnsInHanded_of_change_and (C := Tryd.checked) (X := fun w _ => laidMetH Tryd.prog theLaid w) (fun _ _ _ hh h => h.of_heap hh) own started (by kernel_rfl) Tryd.func6
    (ChangeSpec.witness_shaped (enc := enc) (C := Tryd.checked) (os := os) (X := fun w _ => laidMetH Tryd.prog theLaid w) false (World.doorLaid Tryd.prog 400 os) #[.agg #[.slice none 0 0, .slice none 0 0, .int .u32 0], .slice none 0 0, .slice none 0 0] 8 rfl (World.shaped_of_RefB (by kernel_rfl) (by kernel_rfl)) (by kernel_rfl) (by kernel_rfl) (by kernel_rfl) (door_met os _)) ?_
  intro W base args ds gs before hval0 hW _ _ hL _
  have hval : ∀ (j : Nat) t v, Tryd.f6.params[j]? = some t → args[j]? = some v → Value.okWide Tryd.prog W .any base t v := hval0
  have hW' := hW
  obtain ⟨p, q, hA0, hV, rfl, hfz, hnd⟩ := hW
  have hA : DataW.TrodAll enc Tryd.prog W 0 (fun _ => true) true Tryd.f6.params.toList args.toList ds p := hA0
  rw [Tryd.params6] at hA hval
  obtain ⟨v0, vs0, d0, ds0, p0, q0, hargs, rfl, rfl, h0, r0⟩ := trodAll_cons hA
  obtain ⟨v1, vs1, d1, ds1, p1, q1, rfl, rfl, rfl, h1, r1⟩ := trodAll_cons r0
  obtain ⟨v2, vs2, d2, ds2, p2, q2, rfl, rfl, rfl, h2, r2⟩ := trodAll_cons r1
  obtain ⟨rfl, rfl, rfl⟩ := trodAll_nil r2
  obtain rfl : args = #[v0, v1, v2] := by cases args; simp_all
  obtain ⟨rfl, rfl⟩ := trodVars_none hV
  have ok0 := (hval 0 41 v0 rfl rfl)
  have k0 := h0
  have lt0 : ∀ x ∈ p0, x.block < W.heap.size := by obtain ⟨m, hm⟩ := k0; exact DataW.trod_lt m _ _ _ hm
  obtain ⟨A0, l0, c0, B0, m0, b0, a0, rfl, hc0, hb0, hC0, hD0, hw0, hx0⟩ := open_ask ok0 h0
  obtain ⟨A1, n1, c1, rfl⟩ := okWide_slice Tryd.underlying26 (hval 1 26 v1 rfl rfl)
  have k1 := h1
  have lt1 : ∀ x ∈ p1, x.block < W.heap.size := by obtain ⟨m, hm⟩ := k1; exact DataW.trod_lt m _ _ _ hm
  obtain ⟨l1, hl1, hc1, hC1, hw1⟩ := (show ∃ xs : List S31, xs.length = n1 ∧ n1 ≤ c1 ∧ Go.Proofs.YtdmieaidheelbaaDoorW.PrintWords.Kd.C k31 W A1 n1 xs ∧ ∀ x ∈ xs, (fun p => (Lit.int .i64 p.f0).wf = true ∧ (Lit.int .i64 p.f1).wf = true) x from by obtain ⟨fuel, hf⟩ := h1; exact rowOf Tryd.underlying26 (by kernel_rfl) elem_put (by simpa [Value.cells] using hf))
  subst hl1
  obtain ⟨A2, n2, c2, rfl⟩ := okWide_slice Tryd.underlying26 (hval 2 26 v2 rfl rfl)
  have k2 := h2
  have lt2 : ∀ x ∈ p2, x.block < W.heap.size := by obtain ⟨m, hm⟩ := k2; exact DataW.trod_lt m _ _ _ hm
  obtain ⟨l2, hl2, hc2, hC2, hw2⟩ := (show ∃ xs : List S31, xs.length = n2 ∧ n2 ≤ c2 ∧ Go.Proofs.YtdmieaidheelbaaDoorW.PrintWords.Kd.C k31 W A2 n2 xs ∧ ∀ x ∈ xs, (fun p => (Lit.int .i64 p.f0).wf = true ∧ (Lit.int .i64 p.f1).wf = true) x from by obtain ⟨fuel, hf⟩ := h2; exact rowOf Tryd.underlying26 (by kernel_rfl) elem_put (by simpa [Value.cells] using hf))
  subst hl2
  have hT := of_laid hL
  refine (mainsheetlaw19_PickTells.calls A0 c0 l0 B0 b0 m0 a0 A1 c1 l1 A2 c2 l2 W hC0 hc0 hD0 hb0 hw0 (u32_range hx0).1 (u32_range hx0).2 hC1 hc1 hw1 hC2 hc2 hw2 hT).mono fun e W' ⟨he, bel⟩ => ?_
  subst he
  exact ⟨_, rfl, _, _, _, [], _, [], hW', trodAll_mk1 (shut_bool Tryd.underlying4 _), (trodAll_cons_mk (Below.trod laidOut (by kernel_rfl) (of_decide_eq_true (by kernel_rfl)) k0 bel lt0) (trodAll_cons_mk (Below.trod laidOut (by kernel_rfl) (of_decide_eq_true (by kernel_rfl)) k1 bel lt1) (trodAll_cons_mk (Below.trod laidOut (by kernel_rfl) (of_decide_eq_true (by kernel_rfl)) k2 bel lt2) trodAll_mk0))), rfl, bel.frame _, fun h => by cases h⟩
theorem row_holds : Rows.PickTellsSaid :=
  OpenClaim.holds_of_wide 6 Tryd.f6 rfl rfl rfl rfl rfl rfl rfl ⟨rfl, rfl, rfl, rfl, rfl⟩ rfl rfl rfl rfl rfl (by kernel_rfl) Tryd.func6 (by kernel_rfl)
    (of_decide_eq_true (by kernel_rfl)) (by unfold Func.isWrapper; first | (rw [if_pos (by decide +kernel)]; kernel_rfl) | (rw [if_neg (by decide +kernel)]; exact ⟨rfl, rfl⟩))
    (fun os started H enc _ => lifted os started H enc)
theorem card_holds : Rows.PickTellsCardSaid :=
  Claim7.holds_tied_plain_at .later [] [.data] true (true, "5eaf5742e215172989a54d5c054ba89262936cae5f8ba45b3983073b3a6a37b4") false
    row_holds (fun _ h => by cases h) (by kernel_rfl) (fun _ h => by cases h) pickTells_row_tie rfl ⟨rfl, rfl⟩ (by kernel_rfl) rfl
    (fun f fn hf hfn => by
      obtain rfl : f = 6 := Option.some.inj ((show Tryd.prog.funcNamed "mainsheet/mainsheetlaw19.PickTells" = some 6 by kernel_rfl).symm.trans hf) |>.symm
      obtain rfl : fn = Tryd.f6 := (Option.some.inj (Tryd.func6.symm.trans hfn)).symm
      exact ⟨by kernel_rfl, fun j t ht => by
        rw [Tryd.params6] at ht
        have hm : t ∈ [41, 26, 26] := by simpa using Array.mem_of_getElem? ht
        have hall : ([41, 26, 26].all fun u => !Tryd.prog.wantsStandIn u) = true := by kernel_rfl
        exact (show Tryd.prog.wantsStandIn t = false by simpa using List.all_eq_true.1 hall t hm)⟩)
    (by kernel_rfl)
#print axioms card_holds
end Go.Proofs.YtdmieaidheelbaaDoor.pickTells
namespace Go.Proofs.YtdmieaidheelbaaDoor
/-- The card, under a short name, for the claim. -/
theorem pickTells_card_holds : Rows.PickTellsCardSaid := pickTells.card_holds
end Go.Proofs.YtdmieaidheelbaaDoor
