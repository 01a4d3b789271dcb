/- The listed table gives the walks their word TabW; the door's heap meets the condition. -/
import Derived.Test.YtlfljoihcjmnkaaDoorRows
import Derived.Test.YtlfljoihcjmnkaaDoorSet
import Derived.ProofKit
import Derived.LaidMore
import Derived.OpenShut
import Derived.Stop.Joined
import Derived.ChangeAt
namespace Go.Proofs.YtlfljoihcjmnkaaDoor.Q
open Go Go.ChangeShapes Go.WideShapes Go.ChangeAt Go.RowKit
set_option linter.unusedVariables false

abbrev theLaid : List (String × DataW Unit) := [("math/bits.deBruijn32tab", Rows.laid_math_bits_deBruijn32tab)]
theorem gTab : Tryd.prog.globalNamed "math/bits.deBruijn32tab" = some 0 := by kernel_rfl
theorem tTab : (Tryd.prog.globals[0]?).map (·.type) = some 69 := by kernel_rfl

theorem door_met (os : Os) (args : Array Value) : laidMetH Tryd.prog theLaid ((World.doorLaid Tryd.prog 400 os).forCall (fun _ _ => 0) ⟨#[], args, []⟩).memory :=
  laidMetH_of_parts3 (fuel := 8) (laidMet_of_run' 8 (by kernel_rfl) (by kernel_rfl)) (by kernel_rfl) (by kernel_rfl)

set_option maxRecDepth 100000 in
theorem of_laid {W : World} (h : laidMetH Tryd.prog theLaid W) : TabW W := by
  rw [MakeChecks.laidMetH_plain _ _ _ (by kernel_rfl)] at h
  obtain ⟨ps, ⟨g0, t0, cs0, f0, p0, q0, hg0, ht0, hv0, hd0, _, _⟩, _, _⟩ := h
  obtain rfl := Option.some.inj (gTab.symm.trans hg0)
  obtain rfl := Option.some.inj (tTab.symm.trans ht0)
  obtain ⟨xs, m1, rfl, hx1, hlen, hn3, hel⟩ := DataW.trod_array Tryd.underlying69 hd0
  have c5 : Tryd.prog.cellsOf 5 = 1 := by kernel_rfl
  simp only [Prod.mk.injEq] at hx1
  have hl : xs.map (·.1) = Lib.deBruijn32tab.map fun n => .lit (.int .u8 (n : Int)) := by
    have := hx1.1
    unfold Rows.laid_math_bits_deBruijn32tab at this
    injection this with this
    rw [← this]; rfl
  intro j hj
  have h0 := hel j hj
  rw [c5, Nat.mul_one] at h0
  have hxj : xs[j]? = some (xs[j]'(by omega)) := List.getElem?_eq_getElem (by omega)
  rw [hxj] at h0
  obtain ⟨k, e1, e2, _⟩ := DataW.trod_int Tryd.underlying5 h0
  have hm : (xs.map (·.1))[j]? = some (.lit (.int .u8 k)) := by rw [List.getElem?_map, hxj, e2]; rfl
  rw [hl, List.getElem?_map] at hm
  have hk : k = (Lib.deBruijn32tab.getD j 0 : Nat) := by
    have hj2 : j < Lib.deBruijn32tab.length := by simpa [Lib.deBruijn32tab] using hj
    rw [List.getElem?_eq_getElem hj2] at hm
    rw [List.getD_eq_getElem?_getD, List.getElem?_eq_getElem hj2]
    simp only [Option.map_some, Option.some.injEq, DataW.lit.injEq, Lit.int.injEq, true_and] at hm
    exact hm.symm
  have hc := World.var?_cell hg0 hv0 j
  rw [hc]
  have : cs0.toList[j]? = some (.int .u8 k) := by
    have h1 : ((cs0.toList.drop j).take 1)[0]? = some (.int .u8 k) := by rw [e1]; rfl
    rw [List.getElem?_take, List.getElem?_drop] at h1
    simpa using h1
  rw [← Array.getElem?_toList, this, hk]
#print axioms of_laid
#print axioms door_met
end Go.Proofs.YtlfljoihcjmnkaaDoor.Q
