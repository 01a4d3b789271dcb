/- Texts of the proof of PickWhole, joined. -/
import Derived.Test.YtdmieaidheelbaaDoorPkPickWholee
/- OpenPick -/
section
/- What a law of layer 19 is handed: a wish, and an ask (its two rows and the free pCPUs), opened to the words of the walks. -/
namespace Go.Proofs.YtdmieaidheelbaaDoor.Q
open Go Go.ChangeShapes Go.WideShapes Go.ChangeAt Go.RowKit
set_option linter.unusedVariables false
set_option maxRecDepth 100000
open Go.Proofs.YtdmieaidheelbaaDoorW.PrintWords
section
variable {H : Type} {enc : TypeId × Value → H} {w : World} {base : Nat} {spare : Nat → Bool} {held : Bool}
theorem three_of {α : Type} {l : List α} (h : l.length = 3) : ∃ a b c, l = [a, b, c] := by
  match l, h with
  | [a, b, c], _ => exact ⟨a, b, c, rfl⟩
theorem open_row {α : Type} {t e : TypeId} {d : Kd α} {Wf : α → Prop} (ht : Tryd.prog.underlying t = some (.slice e)) (hC : Tryd.prog.cellsOf e = d.sz) (hE : Elem enc w base spare held e d Wf)
    {fuel : Nat} {c : Value} {x : DataW H × List MemPlace} (h : DataW.trod enc Tryd.prog w base spare held fuel t [c] = some x) :
    ∃ (A : Option Addr) (l : List α) (cap : Nat), c = .slice A l.length cap ∧ l.length ≤ cap ∧ Kd.C d w A l.length l ∧ ∀ y ∈ l, Wf y := by
  obtain ⟨A, len, cap, rfl⟩ : ∃ A len cap, c = .slice A len cap := by
    rcases Go.Deep.open_slice ht h with ⟨e, _⟩ | ⟨a, l, c, _, _, _, _, e, _⟩
    · injection e with e; exact ⟨_, _, _, e⟩
    · injection e with e; exact ⟨_, _, _, e⟩
  obtain ⟨l, hml, hcap, hC, hw⟩ := rowOf ht hC hE h
  subst hml
  exact ⟨A, l, cap, rfl, hcap, hC, hw⟩
theorem open_ask {v : Value} {b2 : Nat} {d : DataW H} {p : List MemPlace} (ok : Value.okWide Tryd.prog w .any b2 41 v) (h : DataW.Trod enc Tryd.prog w base spare held 41 v d p) :
    ∃ (A : Option Addr) (l : List S90) (c : Nat) (B : Option Addr) (m : List S36) (b : Nat) (a : Int), v = .agg #[.slice A l.length c, .slice B m.length b, .int .u32 a] ∧ l.length ≤ c ∧ m.length ≤ b ∧ Kd.C k90 w A l.length l ∧ Kd.C k36 w B m.length m ∧ (∀ x ∈ m, Wf36 x) ∧ (Lit.int .u32 a).wf = true := by
  obtain ⟨cs, rfl, hsz⟩ := okWide_struct Tryd.underlying41 ok
  obtain ⟨fuel, hf⟩ := h
  obtain ⟨xs, n, _, _, hlen, hxl, hg⟩ := DataW.trod_struct Tryd.underlying41 hf
  have hc : Tryd.prog.cellsOf 41 = 3 := by kernel_rfl
  have ce : Tryd.prog.cellsOf 39 = 1 := by kernel_rfl
  have cw : Tryd.prog.cellsOf 22 = 1 := by kernel_rfl
  have cu : Tryd.prog.cellsOf 24 = 1 := by kernel_rfl
  have c1 : Tryd.prog.cellsOf 90 = k90.sz := by kernel_rfl
  have c2 : Tryd.prog.cellsOf 36 = k36.sz := by kernel_rfl
  obtain ⟨c0, c1', c2', hcs⟩ := three_of (hlen.trans hc)
  have hcs' : cs.toList = [c0, c1', c2'] := hcs
  rw [show (Value.agg cs).cells.toList = [c0, c1', c2'] from hcs] at hg
  have h0 : DataW.trod enc Tryd.prog w base spare held n 39 (([c0, c1', c2'].drop 0).take (Tryd.prog.cellsOf 39)) = xs[0]? := hg 0 _ rfl
  rw [ce] at h0
  have h1 : DataW.trod enc Tryd.prog w base spare held n 22 (([c0, c1', c2'].drop 1).take (Tryd.prog.cellsOf 22)) = xs[1]? := hg 1 _ rfl
  rw [cw] at h1
  have h2 : DataW.trod enc Tryd.prog w base spare held n 24 (([c0, c1', c2'].drop 2).take (Tryd.prog.cellsOf 24)) = xs[2]? := hg 2 _ rfl
  rw [cu] at h2
  have hx2 : xs.length = 3 := hxl
  obtain ⟨a, rfl, wa⟩ := int_field (by omega) Tryd.underlying24 h2
  rw [List.getElem?_eq_getElem (by omega)] at h0 h1
  obtain ⟨A, l, c, rfl, hlc, hC, _⟩ := open_row Tryd.underlying39 c1 elem_entity h0
  obtain ⟨B, m, b, rfl, hmb, hD, hw⟩ := open_row Tryd.underlying22 c2 elem_wish h1
  refine ⟨A, l, c, B, m, b, a, ?_, hlc, hmb, hC, hD, hw, wa⟩
  obtain ⟨q⟩ := cs
  simp only at hcs'
  rw [hcs']
end
end Go.Proofs.YtdmieaidheelbaaDoor.Q
end
