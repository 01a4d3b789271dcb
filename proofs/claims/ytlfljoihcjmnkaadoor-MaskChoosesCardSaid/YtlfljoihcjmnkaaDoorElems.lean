import Derived.Test.YtlfljoihcjmnkaaDoorRows
import Derived.Test.YtlfljoihcjmnkaaDoorSet
import Derived.ProofKit
import Derived.LaidMore
import Derived.OpenShut
import Derived.Stop.Joined
import Derived.ChangeAt
import Derived.Test.YtlfljoihcjmnkaaDoorQ0
import Derived.Test.YtlfljoihcjmnkaaDoorMasks
import Derived.Deep.Slices
import Derived.ChangeSame
/- The listed table gives the walks their word TabW; the door's heap meets the condition. -/
namespace Go.Proofs.YtlfljoihcjmnkaaDoor.Q
open Go Go.ChangeShapes Go.WideShapes Go.ChangeAt Go.RowKit
set_option linter.unusedVariables false

abbrev theLaid : List (String × DataW Unit) := [("math/bits.deBruijn32tab", Rows.laid_math_bits_deBruijn32tab)]
theorem gTab : Tryd.prog.globalNamed "math/bits.deBruijn32tab" = some 0 := by kernel_rfl
theorem tTab : (Tryd.prog.globals[0]?).map (·.type) = some 69 := by kernel_rfl

theorem door_met (os : Os) (args : Array Value) : laidMetH Tryd.prog theLaid ((World.doorLaid Tryd.prog 400 os).forCall (fun _ _ => 0) ⟨#[], args, []⟩).memory :=
  laidMetH_of_parts3 (fuel := 8) (laidMet_of_run' 8 (by kernel_rfl) (by kernel_rfl)) (by kernel_rfl) (by kernel_rfl)

set_option maxRecDepth 100000 in
theorem of_laid {W : World} (h : laidMetH Tryd.prog theLaid W) : TabW W := by
  rw [MakeChecks.laidMetH_plain _ _ _ (by kernel_rfl)] at h
  obtain ⟨ps, ⟨g0, t0, cs0, f0, p0, q0, hg0, ht0, hv0, hd0, _, _⟩, _, _⟩ := h
  obtain rfl := Option.some.inj (gTab.symm.trans hg0)
  obtain rfl := Option.some.inj (tTab.symm.trans ht0)
  obtain ⟨xs, m1, rfl, hx1, hlen, hn3, hel⟩ := DataW.trod_array Tryd.underlying69 hd0
  have c5 : Tryd.prog.cellsOf 5 = 1 := by kernel_rfl
  simp only [Prod.mk.injEq] at hx1
  have hl : xs.map (·.1) = Lib.deBruijn32tab.map fun n => .lit (.int .u8 (n : Int)) := by
    have := hx1.1
    unfold Rows.laid_math_bits_deBruijn32tab at this
    injection this with this
    rw [← this]; rfl
  intro j hj
  have h0 := hel j hj
  rw [c5, Nat.mul_one] at h0
  have hxj : xs[j]? = some (xs[j]'(by omega)) := List.getElem?_eq_getElem (by omega)
  rw [hxj] at h0
  obtain ⟨k, e1, e2, _⟩ := DataW.trod_int Tryd.underlying5 h0
  have hm : (xs.map (·.1))[j]? = some (.lit (.int .u8 k)) := by rw [List.getElem?_map, hxj, e2]; rfl
  rw [hl, List.getElem?_map] at hm
  have hk : k = (Lib.deBruijn32tab.getD j 0 : Nat) := by
    have hj2 : j < Lib.deBruijn32tab.length := by simpa [Lib.deBruijn32tab] using hj
    rw [List.getElem?_eq_getElem hj2] at hm
    rw [List.getD_eq_getElem?_getD, List.getElem?_eq_getElem hj2]
    simp only [Option.map_some, Option.some.injEq, DataW.lit.injEq, Lit.int.injEq, true_and] at hm
    exact hm.symm
  have hc := World.var?_cell hg0 hv0 j
  rw [hc]
  have : cs0.toList[j]? = some (.int .u8 k) := by
    have h1 : ((cs0.toList.drop j).take 1)[0]? = some (.int .u8 k) := by rw [e1]; rfl
    rw [List.getElem?_take, List.getElem?_drop] at h1
    simpa using h1
  rw [← Array.getElem?_toList, this, hk]
#print axioms of_laid
#print axioms door_met
end Go.Proofs.YtlfljoihcjmnkaaDoor.Q
/- A law's arguments, opened: slices of structs as lists of records. -/
namespace Go.Proofs.YtlfljoihcjmnkaaDoor.Q
open Go Go.ChangeShapes Go.WideShapes Go.ChangeAt Go.RowKit Go.Proofs.YtlfljoihcjmnkaaDoorW.PrintWords Go.Proofs.YtlfljoihcjmnkaaDoorW.PrintLast Go.Proofs.YtlfljoihcjmnkaaDoorW.PrintMore
set_option linter.unusedVariables false

theorem add_of_add' (a : Addr) (i j : Nat) : (a.add i).add j = a.add (i + j) := by
  unfold Addr.add
  by_cases hi : i = 0 <;> by_cases hj : j = 0 <;> simp [hi, hj, Nat.add_assoc]
section
variable {H : Type} {enc : TypeId × Value → H} {w : World} {base : Nat} {spare : Nat → Bool} {held : Bool}

/-- an element type's reading: what its cells are -/
def Elem {α : Type} (enc : TypeId × Value → H) (w : World) (base : Nat) (spare : Nat → Bool) (held : Bool) (t : TypeId) (d : Kd α) (Wf : α → Prop) : Prop :=
  ∀ (fuel : Nat) (cs : List Value) (x : DataW H × List MemPlace), DataW.trod enc Tryd.prog w base spare held fuel t cs = some x → ∃ a : α, d.K w a cs ∧ Wf a

theorem C_of_elems {α : Type} (d : Kd α) (Wf : α → Prop) (a : Addr) (n : Nat) (hn : n ≤ maxLen) (h : ∀ i, i < n → ∃ (x : α) (c : List Value), Wf x ∧ d.K w x c ∧ ∀ j u, c[j]? = some u → w.cell? (a.add (i * d.sz + j)) = some u) :
    ∃ xs : List α, xs.length = n ∧ Kd.C d w (some a) n xs ∧ ∀ x ∈ xs, Wf x := by
  have h' : ∀ m, m ≤ n → ∃ xs : List α, xs.length = m ∧ (∀ x ∈ xs, Wf x) ∧ ∀ j p, xs[j]? = some p → ∃ c, c.length = d.sz ∧ d.K w p c ∧ ∀ i u, c[i]? = some u → w.cell? (a.add (j * d.sz + i)) = some u := by
    intro m
    induction m with
    | zero => intro _; exact ⟨[], rfl, by simp, by simp⟩
    | succ m ih =>
      intro hm
      obtain ⟨xs, h1, h2, h3⟩ := ih (by omega)
      obtain ⟨x, c, hx, hK, hc⟩ := h m (by omega)
      refine ⟨xs ++ [x], by simp [h1], fun y hy => ?_, fun j p hj => ?_⟩
      · rcases List.mem_append.1 hy with hy | hy
        · exact h2 y hy
        · obtain rfl : y = x := by simpa using hy
          exact hx
      · rcases Nat.lt_or_ge j xs.length with hlt | hge
        · rw [List.getElem?_append_left hlt] at hj
          exact h3 j p hj
        · rw [List.getElem?_append_right hge] at hj
          have hj0 : j - xs.length = 0 := by
            rcases Nat.eq_zero_or_pos (j - xs.length) with h0 | h0
            · exact h0
            · rw [List.getElem?_eq_none (by simp; omega)] at hj; cases hj
          rw [hj0] at hj
          obtain rfl : x = p := by simpa using hj
          obtain rfl : j = m := by omega
          exact ⟨c, d.K_len hK, hK, hc⟩
  obtain ⟨xs, h1, h2, h3⟩ := h' n (Nat.le_refl _)
  exact ⟨xs, h1, ⟨h1, by unfold maxLen at hn; omega, fun _ => ⟨a, rfl, h3⟩⟩, h2⟩

/-- a slice of such elements -/
theorem rowOf {α : Type} {t e : TypeId} {d : Kd α} {Wf : α → Prop} (ht : Tryd.prog.underlying t = some (.slice e)) (hC : Tryd.prog.cellsOf e = d.sz) (hE : Elem enc w base spare held e d Wf)
    {fuel : Nat} {A : Option Addr} {len cap : Nat} {x : DataW H × List MemPlace} (h : DataW.trod enc Tryd.prog w base spare held fuel t [.slice A len cap] = some x) :
    ∃ xs : List α, xs.length = len ∧ len ≤ cap ∧ Kd.C d w A len xs ∧ ∀ x ∈ xs, Wf x := by
  rcases Go.Deep.open_slice ht h with ⟨hcs, _⟩ | ⟨a, l, c, m, n, D, Pl, hcs, hb, hl, hm, hmm, hx, hi⟩
  · injection hcs with hcs
    injection hcs with h1 h2 h3
    subst h1 h2 h3
    exact ⟨[], rfl, Nat.le_refl _, ⟨rfl, by omega, fun h => absurd h (by omega)⟩, by simp⟩
  · injection hcs with hcs
    injection hcs with h1 h2 h3
    subst h1 h2 h3
    obtain ⟨xs, h1, h2, h3⟩ := C_of_elems (w := w) d Wf a len (by omega) (fun i hi2 => by
      obtain ⟨cs', hc, ht'⟩ := hi i (by rw [hmm]; split <;> omega)
      rw [hC] at hc
      obtain ⟨_, hlen, hcell⟩ := World.cells?_some hc
      obtain ⟨x, hK, hx⟩ := hE n cs' _ ht'
      refine ⟨x, cs', hx, hK, fun j u hu => ?_⟩
      have hj : j < d.sz := by rw [← hlen]; exact (List.getElem?_eq_some_iff.1 hu).1
      rw [← add_of_add', hcell j hj, hu])
    exact ⟨xs, h1, hl, h2, h3⟩
end
end Go.Proofs.YtlfljoihcjmnkaaDoor.Q
/- The element types of the laws' slices: what their cells are. -/
namespace Go.Proofs.YtlfljoihcjmnkaaDoor.Q
open Go Go.ChangeShapes Go.WideShapes Go.ChangeAt Go.RowKit Go.Proofs.YtlfljoihcjmnkaaDoorW.PrintWords Go.Proofs.YtlfljoihcjmnkaaDoorW.PrintLast Go.Proofs.YtlfljoihcjmnkaaDoorW.PrintMore
set_option linter.unusedVariables false

theorem two_of {α : Type} {l : List α} (h : l.length = 2) : ∃ a b, l = [a, b] := by
  match l, h with
  | [a, b], _ => exact ⟨a, b, rfl⟩
theorem four_of {α : Type} {l : List α} (h : l.length = 4) : ∃ a b c d, l = [a, b, c, d] := by
  match l, h with
  | [a, b, c, d], _ => exact ⟨a, b, c, d, rfl⟩
theorem six_of {α : Type} {l : List α} (h : l.length = 6) : ∃ a b c d e f, l = [a, b, c, d, e, f] := by
  match l, h with
  | [a, b, c, d, e, f], _ => exact ⟨a, b, c, d, e, f, rfl⟩
section
variable {H : Type} {enc : TypeId × Value → H} {w : World} {base : Nat} {spare : Nat → Bool} {held : Bool}
theorem int_field {t : TypeId} {k : IntKind} {fuel : Nat} {c : Value} {xs : List (DataW H × List MemPlace)} {i : Nat} (hi : i < xs.length) (ht : Tryd.prog.underlying t = some (.int k)) (h : DataW.trod enc Tryd.prog w base spare held fuel t [c] = xs[i]?) :
    ∃ n, c = .int k n ∧ (Lit.int k n).wf = true := by
  rw [List.getElem?_eq_getElem hi] at h
  obtain ⟨n, e, _, hw⟩ := DataW.trod_int ht h
  exact ⟨n, by injection e, hw⟩
theorem bool_field {t : TypeId} {fuel : Nat} {c : Value} {xs : List (DataW H × List MemPlace)} {i : Nat} (hi : i < xs.length) (ht : Tryd.prog.underlying t = some .bool) (h : DataW.trod enc Tryd.prog w base spare held fuel t [c] = xs[i]?) : ∃ b, c = .bool b := by
  rw [List.getElem?_eq_getElem hi] at h
  obtain ⟨n, e, _⟩ := DataW.trod_bool ht h
  exact ⟨n, by injection e⟩
theorem u32_range {n : Int} (h : (Lit.int .u32 n).wf = true) : 0 ≤ n ∧ n < 4294967296 := by
  have := bounds_u32 h
  omega

theorem elem_int : Elem enc w base spare held 3 (Kd.int .i64) (fun n => (Lit.int .i64 n).wf = true) := fun fuel cs x h => by
  obtain ⟨n, e, _, hw⟩ := DataW.trod_int Tryd.underlying3 h
  exact ⟨n, e, hw⟩
theorem elem_mask : Elem enc w base spare held 31 k31 Wf34 := fun fuel cs x h => by
  obtain ⟨xs, n, _, _, hlen, hxl, hf⟩ := DataW.trod_struct Tryd.underlying31 h
  have hc : Tryd.prog.cellsOf 31 = 2 := by kernel_rfl
  have ci : Tryd.prog.cellsOf 24 = 1 := by kernel_rfl
  obtain ⟨c0, c1, rfl⟩ := two_of (hlen.trans hc)
  have h0 : DataW.trod enc Tryd.prog w base spare held n 24 (([c0, c1].drop 0).take (Tryd.prog.cellsOf 24)) = xs[0]? := hf 0 _ rfl
  rw [ci] at h0
  have h1 : DataW.trod enc Tryd.prog w base spare held n 24 (([c0, c1].drop 1).take (Tryd.prog.cellsOf 24)) = xs[1]? := hf 1 _ rfl
  rw [ci] at h1
  have hx2 : xs.length = 2 := hxl
  obtain ⟨a, rfl, wa⟩ := int_field (by omega) Tryd.underlying24 h0
  obtain ⟨b, rfl, wb⟩ := int_field (by omega) Tryd.underlying24 h1
  have ra := u32_range wa
  have rb := u32_range wb
  exact ⟨⟨a, b⟩, k31_mk w ⟨a, b⟩, ra.1, ra.2, rb.1, rb.2⟩
theorem open_mask {v : Value} {b2 : Nat} {d : DataW H} {p : List MemPlace} (ok : Value.okWide Tryd.prog w .any b2 31 v) (h : DataW.Trod enc Tryd.prog w base spare held 31 v d p) :
    ∃ m : S31, v = .agg #[.int .u32 m.f0, .int .u32 m.f1] ∧ Wf34 m := by
  obtain ⟨cs, rfl, hsz⟩ := okWide_struct Tryd.underlying31 ok
  obtain ⟨fuel, hf⟩ := h
  obtain ⟨m, hm, hw⟩ := elem_mask (enc := enc) (w := w) (base := base) (spare := spare) (held := held) _ _ _ hf
  have e : (Value.agg cs).cells.toList = [.int .u32 m.f0, .int .u32 m.f1] := k31_open hm
  refine ⟨m, ?_, hw⟩
  have e2 : cs.toList = [.int .u32 m.f0, .int .u32 m.f1] := e
  obtain ⟨l⟩ := cs
  simp only at e2
  rw [e2]
end
/-- a row as the printed laws ask it where they cut it -/
theorem heap_mask : Kd.Heap k31 := Kd.heap_iso _ (Kd.heap_pair (Kd.heap_int _) (Kd.heap_int _))
theorem view_of {W : World} {A : Option Addr} {c : Nat} {l : List S31} (hC : Kd.C k31 W A l.length l) (hc : l.length ≤ c) (b : Nat) : Kd.V k31 31 W b (fun k => k < W.heap.size) (.slice A l.length c) l :=
  Kd.V_mk hc (Kd.C_F heap_mask hC)
end Go.Proofs.YtlfljoihcjmnkaaDoor.Q
