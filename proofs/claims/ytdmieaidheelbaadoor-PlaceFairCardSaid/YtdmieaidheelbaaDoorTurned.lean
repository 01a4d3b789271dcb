/- What a loop over an iterator may turn: the words that its invariants are made of. -/
import Derived.Test.YtdmieaidheelbaaDoorSetB
namespace Go.Proofs.YtdmieaidheelbaaDoor.Q
open Go Go.RowKit Go.Shelf Go.Proofs.YtdmieaidheelbaaDoor.Rng Go.Proofs.YtdmieaidheelbaaDoorW.PrintWords
set_option linter.unusedVariables false

/-- below `base`, the blocks of `own` alone may have turned -/
structure Turned (base : Nat) (own : Nat → Prop) (w w' : World) : Prop where
  os : w'.os = w.os
  tape : w'.tape = w.tape
  output : w'.output = w.output
  size : w.heap.size ≤ w'.heap.size
  block : ∀ k, k < base → ¬ own k → w'.heap[k]? = w.heap[k]?
variable {base : Nat} {own : Nat → Prop}
theorem Turned.refl (base : Nat) (own : Nat → Prop) (w : World) : Turned base own w w := ⟨rfl, rfl, rfl, Nat.le_refl _, fun _ _ _ => rfl⟩
theorem Turned.trans {a b c : World} (h : Turned base own a b) (k : Turned base own b c) : Turned base own a c :=
  ⟨k.os.trans h.os, k.tape.trans h.tape, k.output.trans h.output, Nat.le_trans h.size k.size, fun i hi hn => (k.block i hi hn).trans (h.block i hi hn)⟩
theorem Turned.weaken {own' : Nat → Prop} {a b : World} (h : Turned base own a b) (hw : ∀ k, own k → own' k) : Turned base own' a b := ⟨h.os, h.tape, h.output, h.size, fun k hk hn => h.block k hk (fun e => hn (hw k e))⟩
theorem Turned.alloc {a w : World} (h : Turned base own a w) (hB : base ≤ w.heap.size) (o : Obj) : Turned base own a (w.alloc o) :=
  h.trans ⟨rfl, rfl, rfl, by simp, fun k hk _ => Below.heap_alloc _ _ _ (by omega)⟩
theorem Turned.setCell {a w : World} (h : Turned base own a w) {p : Addr} (hp : own p.block ∨ base ≤ p.block) (u : Value) : Turned base own a (w.setCell p u) :=
  h.trans ⟨rfl, rfl, rfl, by simp [World.setCell], fun k hk hn => Below.heap_setCell _ _ _ _ (fun e => by subst e; rcases hp with hp | hp; exact hn hp; omega)⟩
theorem Turned.grown {a w w' : World} {row : Option Nat} (h : Turned base own a w) (hg : w.grownBy w' row) (hB : base ≤ w.heap.size) (hr : ∀ k, row = some k → own k ∨ base ≤ k) : Turned base own a w' :=
  h.trans ⟨hg.os, hg.tape, hg.output, hg.size, fun k hk hn => hg.block k (by omega) (fun e => by rcases hr k e.symm with h | h; exact hn h; omega)⟩
theorem Turned.step {a w w' : World} (h : Turned base own a w) (hB : base ≤ w.heap.size) (hb : Below w.heap.size w w') : Turned base own a w' :=
  h.trans ⟨hb.os, hb.tape, hb.output, hb.size, fun k hk _ => hb.block k (by omega)⟩
theorem Turned.drew {a w : World} (h : Turned base own a w) : Turned base own a w.drew := ⟨h.os, h.tape, h.output, h.size, h.block⟩
theorem Turned.below {n₀ : Nat} {w w' : World} (h : Turned base own w w') (hn : n₀ ≤ base) (ho : ∀ k, own k → n₀ ≤ k) : Below n₀ w w' :=
  ⟨h.os, h.tape, h.output, h.size, fun k hk => h.block k (by omega) (fun e => by have := ho k e; omega)⟩
theorem Turned.same {keep : Nat → Prop} {w w' : World} (h : Turned base own w w') (hk : ∀ k, keep k → k < base ∧ ¬ own k) : Same keep w w' := fun k hk' => h.block k (hk k hk').1 (hk k hk').2
theorem Turned.boxed {w w' : World} (h : Turned base own w w') {b : Nat} {t : TypeId} {v : Value} (hb : Boxed w b t v) (hlt : b < base) (hn : ¬ own b) : Boxed w' b t v := (h.block b hlt hn).trans hb
theorem Turned.tab {w w' : World} (h : Turned base own w w') (hT : TabW w) (hp : 0 < base) (hn : ¬ own 0) : TabW w' := hT.same (h.block 0 hp hn)

/-- block B holds a slice that owns the cells xs, laid from `base` on -/
def Held (W : World) (base B : Nat) (t e : TypeId) (size k : Nat) (xs : List Value) : Prop := ∃ v, Boxed W B t v ∧ W.ownsRow base e size v k xs
theorem row_far {W Y : World} {base : Nat} {e : TypeId} {size : Nat} {v : Value} {k : Nat} {xs : List Value} {r : Nat} (h : W.ownsRow base e size v k xs) (hg : W.grownBy Y (some r)) (hr : r < base ∨ ∃ o : Obj, W.heap[r]? = some o ∧ o.isCells = false) : Y.ownsRow base e size v k xs := by
  refine h.kept hg ?_
  rcases h.2 with ⟨rfl, _⟩ | ⟨g, cap, cur, rfl, hgb, hgc, _⟩
  · exact .inl rfl
  · refine .inr (fun e => ?_)
    obtain rfl : g = r := by simpa [Value.ownBlock] using e
    rcases hr with hr | ⟨o, ho, hcl⟩
    · omega
    · rw [hgc] at ho; cases ho; cases hcl
theorem Held.far {W Y : World} {base B : Nat} {t e : TypeId} {size k : Nat} {xs : List Value} {r : Nat} (h : Held W base B t e size k xs) (hg : W.grownBy Y (some r)) (hr : (r < base ∧ r ≠ B) ∨ ∃ o : Obj, W.heap[r]? = some o ∧ o.isCells = false) : Held Y base B t e size k xs := by
  obtain ⟨v, h1, h2⟩ := h
  refine ⟨v, h1.kept hg (fun e => ?_), row_far h2 hg (hr.imp_left And.left)⟩
  obtain rfl : B = r := by injection e
  rcases hr with ⟨_, hr⟩ | ⟨o, ho, hcl⟩
  · exact hr rfl
  · rw [show W.heap[B]? = _ from h1] at ho; cases ho; cases hcl
theorem Held.step {W Y : World} {base B : Nat} {t e : TypeId} {size k : Nat} {xs : List Value} (h : Held W base B t e size k xs) (hb : Below W.heap.size W Y) : Held Y base B t e size k xs := by
  obtain ⟨v, h1, h2⟩ := h
  exact ⟨v, (hb.block B h1.lt).trans h1, pw_own_below h2 hb⟩
theorem Held.alloc {W : World} {base B : Nat} {t e : TypeId} {size k : Nat} {xs : List Value} (h : Held W base B t e size k xs) (o : Obj) : Held (W.alloc o) base B t e size k xs := h.step ((Below.refl _ _).alloc (Nat.le_refl _) _)

/-- behind an append into what a box holds -/
theorem appended2 {W w1 : World} {base B : Nat} {own : Nat → Prop} {t e : TypeId} {size : Nat} {v v' : Value} {k m : Nat} {xs ys : List Value} {tmp : Obj}
    (hv : Boxed W B t v) (hte : t ≠ e) (hrow : W.ownsRow base e size v k xs) (hb : base ≤ W.heap.size) (hB : own B)
    (hown' : w1.ownsRow base e size v' m ys) (hgrow : (W.alloc tmp).grownBy w1 v.ownBlock) :
    Boxed w1 B t v ∧ Held (w1.setCell ⟨B, 0, none⟩ v') base B t e size m ys ∧ KeepsOthers W (w1.setCell ⟨B, 0, none⟩ v') ∧ Turned base own W (w1.setCell ⟨B, 0, none⟩ v') := by
  have hv1 : Boxed w1 B t v := (hv.alloc tmp).kept hgrow (hv.not_row hte hrow)
  refine ⟨hv1, ⟨v', hv1.set v', hown'.kept (grownBy_setCell' w1 B v') (.inr (hv1.not_row hte hown').symm)⟩, ?_, ?_⟩
  · refine ((KeepsOthers.alloc W tmp).trans (KeepsOthers.of_grownBy hgrow fun j o ej hj => ?_)).trans (KeepsOthers.setCell _ _ _)
    rcases (hrow.alloc tmp).2 with ⟨rfl, _⟩ | ⟨g, cap, cur, rfl, _, hgb, _⟩
    · simp [Value.ownBlock] at ej
    · obtain rfl : g = j := by simpa [Value.ownBlock] using ej
      rw [hgb] at hj; cases hj; rfl
  · refine (((Turned.refl base own W).alloc hb tmp).grown hgrow (by simp; omega) fun j ej => ?_).setCell (p := ⟨B, 0, none⟩) (.inl hB) v'
    rcases hrow.2 with ⟨rfl, _⟩ | ⟨g, cap, cur, rfl, hgb, _, _⟩
    · simp [Value.ownBlock] at ej
    · obtain rfl : g = j := by simpa [Value.ownBlock] using ej
      exact .inr hgb
end Go.Proofs.YtdmieaidheelbaaDoor.Q
