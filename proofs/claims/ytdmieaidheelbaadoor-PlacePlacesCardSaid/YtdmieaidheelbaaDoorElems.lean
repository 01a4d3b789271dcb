/- The element types of the laws' slices: what their cells are. -/
import Derived.Test.YtdmieaidheelbaaDoorOpen
namespace Go.Proofs.YtdmieaidheelbaaDoor.Q
open Go Go.ChangeShapes Go.WideShapes Go.ChangeAt Go.RowKit Go.Proofs.YtdmieaidheelbaaDoorW.PrintWords Go.Proofs.YtdmieaidheelbaaDoorW.PrintLast Go.Proofs.YtdmieaidheelbaaDoorW.PrintMore
set_option linter.unusedVariables false

theorem two_of {α : Type} {l : List α} (h : l.length = 2) : ∃ a b, l = [a, b] := by
  match l, h with
  | [a, b], _ => exact ⟨a, b, rfl⟩
theorem four_of {α : Type} {l : List α} (h : l.length = 4) : ∃ a b c d, l = [a, b, c, d] := by
  match l, h with
  | [a, b, c, d], _ => exact ⟨a, b, c, d, rfl⟩
theorem six_of {α : Type} {l : List α} (h : l.length = 6) : ∃ a b c d e f, l = [a, b, c, d, e, f] := by
  match l, h with
  | [a, b, c, d, e, f], _ => exact ⟨a, b, c, d, e, f, rfl⟩
section
variable {H : Type} {enc : TypeId × Value → H} {w : World} {base : Nat} {spare : Nat → Bool} {held : Bool}
theorem int_field {t : TypeId} {k : IntKind} {fuel : Nat} {c : Value} {xs : List (DataW H × List MemPlace)} {i : Nat} (hi : i < xs.length) (ht : Tryd.prog.underlying t = some (.int k)) (h : DataW.trod enc Tryd.prog w base spare held fuel t [c] = xs[i]?) :
    ∃ n, c = .int k n ∧ (Lit.int k n).wf = true := by
  rw [List.getElem?_eq_getElem hi] at h
  obtain ⟨n, e, _, hw⟩ := DataW.trod_int ht h
  exact ⟨n, by injection e, hw⟩
theorem bool_field {t : TypeId} {fuel : Nat} {c : Value} {xs : List (DataW H × List MemPlace)} {i : Nat} (hi : i < xs.length) (ht : Tryd.prog.underlying t = some .bool) (h : DataW.trod enc Tryd.prog w base spare held fuel t [c] = xs[i]?) : ∃ b, c = .bool b := by
  rw [List.getElem?_eq_getElem hi] at h
  obtain ⟨n, e, _⟩ := DataW.trod_bool ht h
  exact ⟨n, by injection e⟩
theorem u32_range {n : Int} (h : (Lit.int .u32 n).wf = true) : 0 ≤ n ∧ n < 4294967296 := by
  have := bounds_u32 h
  omega

theorem elem_int : Elem enc w base spare held 3 (Kd.int .i64) (fun n => (Lit.int .i64 n).wf = true) := fun fuel cs x h => by
  obtain ⟨n, e, _, hw⟩ := DataW.trod_int Tryd.underlying3 h
  exact ⟨n, e, hw⟩
theorem elem_put : Elem enc w base spare held 31 k31 (fun _ => True) := fun fuel cs x h => by
  obtain ⟨xs, n, _, _, hlen, hxl, hf⟩ := DataW.trod_struct Tryd.underlying31 h
  have hc : Tryd.prog.cellsOf 31 = 2 := by kernel_rfl
  have ci : Tryd.prog.cellsOf 3 = 1 := by kernel_rfl
  obtain ⟨c0, c1, rfl⟩ := two_of (hlen.trans hc)
  have h0 : DataW.trod enc Tryd.prog w base spare held n 3 (([c0, c1].drop 0).take (Tryd.prog.cellsOf 3)) = xs[0]? := hf 0 _ rfl
  rw [ci] at h0
  have h1 : DataW.trod enc Tryd.prog w base spare held n 3 (([c0, c1].drop 1).take (Tryd.prog.cellsOf 3)) = xs[1]? := hf 1 _ rfl
  rw [ci] at h1
  have hx2 : xs.length = 2 := hxl
  obtain ⟨a, rfl, _⟩ := int_field (by omega) Tryd.underlying3 h0
  obtain ⟨b, rfl, _⟩ := int_field (by omega) Tryd.underlying3 h1
  exact ⟨⟨a, b⟩, k31_mk w ⟨a, b⟩, trivial⟩
theorem elem_mask : Elem enc w base spare held 34 k34 Wf34 := fun fuel cs x h => by
  obtain ⟨xs, n, _, _, hlen, hxl, hf⟩ := DataW.trod_struct Tryd.underlying34 h
  have hc : Tryd.prog.cellsOf 34 = 2 := by kernel_rfl
  have ci : Tryd.prog.cellsOf 24 = 1 := by kernel_rfl
  obtain ⟨c0, c1, rfl⟩ := two_of (hlen.trans hc)
  have h0 : DataW.trod enc Tryd.prog w base spare held n 24 (([c0, c1].drop 0).take (Tryd.prog.cellsOf 24)) = xs[0]? := hf 0 _ rfl
  rw [ci] at h0
  have h1 : DataW.trod enc Tryd.prog w base spare held n 24 (([c0, c1].drop 1).take (Tryd.prog.cellsOf 24)) = xs[1]? := hf 1 _ rfl
  rw [ci] at h1
  have hx2 : xs.length = 2 := hxl
  obtain ⟨a, rfl, wa⟩ := int_field (by omega) Tryd.underlying24 h0
  obtain ⟨b, rfl, wb⟩ := int_field (by omega) Tryd.underlying24 h1
  have ra := u32_range wa
  have rb := u32_range wb
  exact ⟨⟨a, b⟩, k34_mk w ⟨a, b⟩, ra.1, ra.2, rb.1, rb.2⟩
theorem elem_wish : Elem enc w base spare held 36 k36 Wf36 := fun fuel cs x h => by
  obtain ⟨xs, n, _, _, hlen, hxl, hf⟩ := DataW.trod_struct Tryd.underlying36 h
  have hc : Tryd.prog.cellsOf 36 = 4 := by kernel_rfl
  have ci : Tryd.prog.cellsOf 3 = 1 := by kernel_rfl
  have cm : Tryd.prog.cellsOf 34 = 2 := by kernel_rfl
  obtain ⟨c0, c1, c2, c3, rfl⟩ := four_of (hlen.trans hc)
  have h0 : DataW.trod enc Tryd.prog w base spare held n 3 (([c0, c1, c2, c3].drop 0).take (Tryd.prog.cellsOf 3)) = xs[0]? := hf 0 _ rfl
  rw [ci] at h0
  have h1 : DataW.trod enc Tryd.prog w base spare held n 3 (([c0, c1, c2, c3].drop 1).take (Tryd.prog.cellsOf 3)) = xs[1]? := hf 1 _ rfl
  rw [ci] at h1
  have h2 : DataW.trod enc Tryd.prog w base spare held n 34 (([c0, c1, c2, c3].drop 2).take (Tryd.prog.cellsOf 34)) = xs[2]? := hf 2 _ rfl
  rw [cm] at h2
  have hx2 : xs.length = 3 := hxl
  obtain ⟨a, rfl, _⟩ := int_field (by omega) Tryd.underlying3 h0
  obtain ⟨b, rfl, _⟩ := int_field (by omega) Tryd.underlying3 h1
  rw [List.getElem?_eq_getElem (by omega)] at h2
  obtain ⟨m, hm, hw⟩ := elem_mask (enc := enc) (w := w) (base := base) (spare := spare) (held := held) _ _ _ h2
  have e : [c2, c3] = [.int .u32 m.f0, .int .u32 m.f1] := k34_open hm
  injection e with e1 e
  injection e with e2 _
  subst e1 e2
  exact ⟨⟨a, b, m⟩, k36_mk w ⟨a, b, m⟩, hw⟩
theorem elem_entity : Elem enc w base spare held 90 k90 (fun _ => True) := fun fuel cs x h => by
  obtain ⟨xs, n, _, _, hlen, hxl, hf⟩ := DataW.trod_struct Tryd.underlying90 h
  have hc : Tryd.prog.cellsOf 90 = 6 := by kernel_rfl
  have ci : Tryd.prog.cellsOf 3 = 1 := by kernel_rfl
  have cl : Tryd.prog.cellsOf 42 = 1 := by kernel_rfl
  have cf : Tryd.prog.cellsOf 88 = 3 := by kernel_rfl
  have cu : Tryd.prog.cellsOf 84 = 1 := by kernel_rfl
  have cb : Tryd.prog.cellsOf 4 = 1 := by kernel_rfl
  obtain ⟨c0, c1, c2, c3, c4, c5, rfl⟩ := six_of (hlen.trans hc)
  have h0 : DataW.trod enc Tryd.prog w base spare held n 42 (([c0, c1, c2, c3, c4, c5].drop 0).take (Tryd.prog.cellsOf 42)) = xs[0]? := hf 0 _ rfl
  rw [cl] at h0
  have h1 : DataW.trod enc Tryd.prog w base spare held n 88 (([c0, c1, c2, c3, c4, c5].drop 1).take (Tryd.prog.cellsOf 88)) = xs[1]? := hf 1 _ rfl
  rw [cf] at h1
  have h2 : DataW.trod enc Tryd.prog w base spare held n 84 (([c0, c1, c2, c3, c4, c5].drop 4).take (Tryd.prog.cellsOf 84)) = xs[2]? := hf 2 _ rfl
  rw [cu] at h2
  have h3 : DataW.trod enc Tryd.prog w base spare held n 4 (([c0, c1, c2, c3, c4, c5].drop 5).take (Tryd.prog.cellsOf 4)) = xs[3]? := hf 3 _ rfl
  rw [cb] at h3
  have hx2 : xs.length = 4 := hxl
  obtain ⟨o, rfl, _⟩ := int_field (by omega) Tryd.underlying84 h2
  obtain ⟨b, rfl⟩ := bool_field (by omega) Tryd.underlying4 h3
  -- the members
  rw [List.getElem?_eq_getElem (by omega)] at h0
  obtain ⟨A, len, cap, rfl⟩ : ∃ A len cap, c0 = .slice A len cap := by
    rcases Go.Deep.open_slice Tryd.underlying42 h0 with ⟨e, _⟩ | ⟨a, l, c, _, _, _, _, e, _⟩
    · injection e with e; exact ⟨_, _, _, e⟩
    · injection e with e; exact ⟨_, _, _, e⟩
  obtain ⟨ms, hml, hcap, hC, _⟩ := rowOf (d := Kd.int .i64) Tryd.underlying42 ci elem_int h0
  subst hml
  -- the time
  rw [List.getElem?_eq_getElem (by omega)] at h1
  obtain ⟨ys, n1, _, _, hlen1, hyl, hg⟩ := DataW.trod_struct Tryd.underlying88 h1
  have cw : Tryd.prog.cellsOf 86 = 2 := by kernel_rfl
  have g0 : DataW.trod enc Tryd.prog w base spare held n1 86 (([c1, c2, c3].drop 0).take (Tryd.prog.cellsOf 86)) = ys[0]? := hg 0 _ rfl
  rw [cw] at g0
  have g1 : DataW.trod enc Tryd.prog w base spare held n1 84 (([c1, c2, c3].drop 2).take (Tryd.prog.cellsOf 84)) = ys[1]? := hg 1 _ rfl
  rw [cu] at g1
  have hy2 : ys.length = 2 := hyl
  obtain ⟨w1, rfl, _⟩ := int_field (by omega) Tryd.underlying84 g1
  rw [List.getElem?_eq_getElem (by omega)] at g0
  obtain ⟨zs, n2, _, _, hlen2, hzl, hk⟩ := DataW.trod_struct Tryd.underlying86 g0
  have k0 : DataW.trod enc Tryd.prog w base spare held n2 84 (([c1, c2].drop 0).take (Tryd.prog.cellsOf 84)) = zs[0]? := hk 0 _ rfl
  rw [cu] at k0
  have k1 : DataW.trod enc Tryd.prog w base spare held n2 84 (([c1, c2].drop 1).take (Tryd.prog.cellsOf 84)) = zs[1]? := hk 1 _ rfl
  rw [cu] at k1
  have hz2 : zs.length = 2 := hzl
  obtain ⟨hi, rfl, _⟩ := int_field (by omega) Tryd.underlying84 k0
  obtain ⟨lo, rfl, _⟩ := int_field (by omega) Tryd.underlying84 k1
  exact ⟨⟨ms, ⟨⟨hi, lo⟩, w1⟩, o, b⟩, k90_mk w ⟨ms, ⟨⟨hi, lo⟩, w1⟩, o, b⟩ hcap hC, trivial⟩
end
end Go.Proofs.YtdmieaidheelbaaDoor.Q
