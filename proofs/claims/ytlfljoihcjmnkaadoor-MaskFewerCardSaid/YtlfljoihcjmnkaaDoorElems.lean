/- The element types of the laws' slices: what their cells are. -/
import Derived.Test.YtlfljoihcjmnkaaDoorOpen
namespace Go.Proofs.YtlfljoihcjmnkaaDoor.Q
open Go Go.ChangeShapes Go.WideShapes Go.ChangeAt Go.RowKit Go.Proofs.YtlfljoihcjmnkaaDoorW.PrintWords Go.Proofs.YtlfljoihcjmnkaaDoorW.PrintLast Go.Proofs.YtlfljoihcjmnkaaDoorW.PrintMore
set_option linter.unusedVariables false

theorem two_of {α : Type} {l : List α} (h : l.length = 2) : ∃ a b, l = [a, b] := by
  match l, h with
  | [a, b], _ => exact ⟨a, b, rfl⟩
theorem four_of {α : Type} {l : List α} (h : l.length = 4) : ∃ a b c d, l = [a, b, c, d] := by
  match l, h with
  | [a, b, c, d], _ => exact ⟨a, b, c, d, rfl⟩
theorem six_of {α : Type} {l : List α} (h : l.length = 6) : ∃ a b c d e f, l = [a, b, c, d, e, f] := by
  match l, h with
  | [a, b, c, d, e, f], _ => exact ⟨a, b, c, d, e, f, rfl⟩
section
variable {H : Type} {enc : TypeId × Value → H} {w : World} {base : Nat} {spare : Nat → Bool} {held : Bool}
theorem int_field {t : TypeId} {k : IntKind} {fuel : Nat} {c : Value} {xs : List (DataW H × List MemPlace)} {i : Nat} (hi : i < xs.length) (ht : Tryd.prog.underlying t = some (.int k)) (h : DataW.trod enc Tryd.prog w base spare held fuel t [c] = xs[i]?) :
    ∃ n, c = .int k n ∧ (Lit.int k n).wf = true := by
  rw [List.getElem?_eq_getElem hi] at h
  obtain ⟨n, e, _, hw⟩ := DataW.trod_int ht h
  exact ⟨n, by injection e, hw⟩
theorem bool_field {t : TypeId} {fuel : Nat} {c : Value} {xs : List (DataW H × List MemPlace)} {i : Nat} (hi : i < xs.length) (ht : Tryd.prog.underlying t = some .bool) (h : DataW.trod enc Tryd.prog w base spare held fuel t [c] = xs[i]?) : ∃ b, c = .bool b := by
  rw [List.getElem?_eq_getElem hi] at h
  obtain ⟨n, e, _⟩ := DataW.trod_bool ht h
  exact ⟨n, by injection e⟩
theorem u32_range {n : Int} (h : (Lit.int .u32 n).wf = true) : 0 ≤ n ∧ n < 4294967296 := by
  have := bounds_u32 h
  omega

theorem elem_int : Elem enc w base spare held 3 (Kd.int .i64) (fun n => (Lit.int .i64 n).wf = true) := fun fuel cs x h => by
  obtain ⟨n, e, _, hw⟩ := DataW.trod_int Tryd.underlying3 h
  exact ⟨n, e, hw⟩
theorem elem_mask : Elem enc w base spare held 31 k31 Wf34 := fun fuel cs x h => by
  obtain ⟨xs, n, _, _, hlen, hxl, hf⟩ := DataW.trod_struct Tryd.underlying31 h
  have hc : Tryd.prog.cellsOf 31 = 2 := by kernel_rfl
  have ci : Tryd.prog.cellsOf 24 = 1 := by kernel_rfl
  obtain ⟨c0, c1, rfl⟩ := two_of (hlen.trans hc)
  have h0 : DataW.trod enc Tryd.prog w base spare held n 24 (([c0, c1].drop 0).take (Tryd.prog.cellsOf 24)) = xs[0]? := hf 0 _ rfl
  rw [ci] at h0
  have h1 : DataW.trod enc Tryd.prog w base spare held n 24 (([c0, c1].drop 1).take (Tryd.prog.cellsOf 24)) = xs[1]? := hf 1 _ rfl
  rw [ci] at h1
  have hx2 : xs.length = 2 := hxl
  obtain ⟨a, rfl, wa⟩ := int_field (by omega) Tryd.underlying24 h0
  obtain ⟨b, rfl, wb⟩ := int_field (by omega) Tryd.underlying24 h1
  have ra := u32_range wa
  have rb := u32_range wb
  exact ⟨⟨a, b⟩, k31_mk w ⟨a, b⟩, ra.1, ra.2, rb.1, rb.2⟩
theorem open_mask {v : Value} {b2 : Nat} {d : DataW H} {p : List MemPlace} (ok : Value.okWide Tryd.prog w .any b2 31 v) (h : DataW.Trod enc Tryd.prog w base spare held 31 v d p) :
    ∃ m : S31, v = .agg #[.int .u32 m.f0, .int .u32 m.f1] ∧ Wf34 m := by
  obtain ⟨cs, rfl, hsz⟩ := okWide_struct Tryd.underlying31 ok
  obtain ⟨fuel, hf⟩ := h
  obtain ⟨m, hm, hw⟩ := elem_mask (enc := enc) (w := w) (base := base) (spare := spare) (held := held) _ _ _ hf
  have e : (Value.agg cs).cells.toList = [.int .u32 m.f0, .int .u32 m.f1] := k31_open hm
  refine ⟨m, ?_, hw⟩
  have e2 : cs.toList = [.int .u32 m.f0, .int .u32 m.f1] := e
  obtain ⟨l⟩ := cs
  simp only at e2
  rw [e2]
end
/-- a row as the printed laws ask it where they cut it -/
theorem heap_mask : Kd.Heap k31 := Kd.heap_iso _ (Kd.heap_pair (Kd.heap_int _) (Kd.heap_int _))
theorem view_of {W : World} {A : Option Addr} {c : Nat} {l : List S31} (hC : Kd.C k31 W A l.length l) (hc : l.length ≤ c) (b : Nat) : Kd.V k31 31 W b (fun k => k < W.heap.size) (.slice A l.length c) l :=
  Kd.V_mk hc (Kd.C_F heap_mask hC)
end Go.Proofs.YtlfljoihcjmnkaaDoor.Q
