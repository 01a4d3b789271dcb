/- A range over a function whose iterator keeps its state in a captured cell: the statement's law, out of the library's two laws on a round and on the statement. -/
import Derived.RangeFuncNested
import Derived.RangeFuncBound
import Derived.RangeFuncCalls
import Derived.RangeFuncLeaves
import Derived.RangeFuncBox
import Derived.WalkKit
import Derived.OwnWalkIn
import Derived.TacticsInMore
import Derived.LoopNIn
import Derived.LoopIn
namespace Go.Proofs.YtlfljoihcjmnkaaDoor.Rng
open Go Go.RowKit

/-- what lies in the blocks of `keep` is as it was -/
def Same (keep : Nat → Prop) (A B : World) : Prop := ∀ k, keep k → B.heap[k]? = A.heap[k]?
theorem Same.refl (keep : Nat → Prop) (A : World) : Same keep A A := fun _ _ => rfl
theorem Same.trans {keep : Nat → Prop} {A B C : World} (h : Same keep A B) (k : Same keep B C) : Same keep A C := fun i hi => (k i hi).trans (h i hi)

/-- The contract of an iterator value whose elements are known ahead: `c` is the block of its own variable, `keep` the blocks that a round must leave alone. -/
def Iter {α : Type} (P : Program) (g : Nat) (lb : Array Value) (encs : α → Array Value) (c : Nat) (keep : Nat → Prop) (xs : List α) (w0 : World) : Prop :=
  ∀ (l : Nat) (J : List α → World → Prop) (Jx : World → Prop) (W : World), Below w0.heap.size w0 W →
    (∀ pre A B, J pre A → A.grownBy B (some c) → J pre B) →
    (∀ pre x post W1, xs = pre ++ x :: post → J pre W1 → YieldAt Fence.wide 7 P l (encs x) W1 fun e W' =>
      (e = .returned (.bool true) ∧ J (pre ++ [x]) W' ∧ Same keep W1 W') ∨ (e = .returned (.bool false) ∧ Jx W')) →
    J [] W → CallsIn Fence.wide 8 P g (#[.func (.yield l) #[] #[]] ++ lb) W fun e W' => (∃ v, e = .returned v) ∧ (J xs W' ∨ Jx W')

/-- how the body of a round may be left -/
def post {α : Type} (B : Nat) (keep : Nat → Prop) (I : List α → World → Prop) (Ix : Code → World → Prop) (xs : List α) (W : World) : Exit → Act → World → Prop
  | .normal, _, W' => KeepsFrom B W W' ∧ Same keep W W' ∧ I xs W'
  | .ret, _, W' => KeepsFrom B W W' ∧ Ix .ret W'
  | .exit id, _, W' => KeepsFrom B W W' ∧ Ix (.exit id) W'
  | .goto t, _, W' => KeepsFrom B W W' ∧ Ix (.goto t) W'
  | .panic _, _, _ => False
  | .outgrown, _, _ => False

/-- the invariant minds neither the iterator's steps nor the book-keeping of the loop -/
def Calm {β : Type} (B c : Nat) (I : β → World → Prop) : Prop :=
  ∀ s X Y r, I s X → X.grownBy Y (some r) → (r = c ∨ (B ≤ r ∧ ∃ o : Obj, X.heap[r]? = some o ∧ o.isCells = false)) → I s Y
/-- .. the book-keeping alone -/
def CalmB {β : Type} (B : Nat) (I : β → World → Prop) : Prop :=
  ∀ s X Y r, I s X → X.grownBy Y (some r) → (B ≤ r ∧ ∃ o : Obj, X.heap[r]? = some o ∧ o.isCells = false) → I s Y

theorem grownBy_weak {X Y : World} (h : X.grownBy Y none) (r : Nat) : X.grownBy Y (some r) := ⟨h.os, h.tape, h.output, h.size, fun k hk _ => h.block k hk (by simp)⟩
theorem Calm.putObj {β : Type} {B c : Nat} {I : β → World → Prop} (h : Calm B c I) {s : β} {W : World} {l : Nat} {o : Obj} (o' : Obj) (hs : I s W) (hB : B ≤ l) (hl : W.heap[l]? = some o) (ho : o.isCells = false) : I s (W.putObj l o') :=
  h s W _ l hs (grownBy_putObj' W l o') (.inr ⟨hB, o, hl, ho⟩)
theorem CalmB.putObj {β : Type} {B : Nat} {I : β → World → Prop} (h : CalmB B I) {s : β} {W : World} {l : Nat} {o : Obj} (o' : Obj) (hs : I s W) (hB : B ≤ l) (hl : W.heap[l]? = some o) (ho : o.isCells = false) : I s (W.putObj l o') :=
  h s W _ l hs (grownBy_putObj' W l o') ⟨hB, o, hl, ho⟩
theorem Calm.alloc {β : Type} {B c : Nat} {I : β → World → Prop} (h : Calm B c I) {s : β} {W : World} (o : Obj) (hs : I s W) : I s (W.alloc o) :=
  h s W _ c hs (grownBy_weak (World.grownBy_alloc W o none) c) (.inl rfl)

variable {P : Program}
/-- THE STATEMENT. -/
theorem wpIn_range {α : Type} {g : Operand} {ps : Array Tmp} {assign body : Code} {Q : Exit → Act → World → Prop} {a : Act} {w : World}
    {gf : Nat} {lb : Array Value} (hg : a.eval g = .func (.func gf) #[] lb) (eg : ∀ args w, (callFunc gf args).run P w = .ok (.enter gf args) w)
    {encs : α → Array Value} {c : Nat} {keep : Nat → Prop} {xs : List α} (hit : Iter P gf lb encs c keep xs w) (hps : ∀ x, (encs x).size = ps.size)
    (hc : c < w.heap.size) (hkeep : ∀ k, keep k → k < w.heap.size)
    (I : List α → World → Prop) (Ix : Code → World → Prop) (hI : Calm w.heap.size c I) (hIx : CalmB w.heap.size Ix) (h0 : I [] w)
    (Ax : List α → α → Act → World → Prop) (hAx : CalmB w.heap.size (fun (s : List α × α × Act) W => Ax s.1 s.2.1 s.2.2 W))
    (hassign : ∀ (l : Nat) (pre : List α) (x : α) (rest : List α) (W : World) (K : Act → World → Prop), xs = pre ++ x :: rest → w.heap.size ≤ W.heap.size → I pre W →
      (∀ a' W', KeepsFrom w.heap.size W W' → Same keep W W' → Ax pre x a' W' → K a' W') →
      assign.wpIn (Fence.wide.inRound l) 7 P (Exit.then K (fun _ _ _ => False)) { tmps := (ps.zip (encs x)).foldl (fun t (p, v) => t.setIfInBounds p v) a.tmps, defers := [] } W)
    (hbody : ∀ (l : Nat) (pre : List α) (x : α) (rest : List α) (a' : Act) (W : World), xs = pre ++ x :: rest → w.heap.size ≤ W.heap.size → Ax pre x a' W →
      body.wpIn (Fence.wide.inRound l) 7 P (post w.heap.size keep I Ix (pre ++ [x]) W) a' W)
    (hdone : ∀ (D : Nat) (W : World), w.heap.size ≤ D → I xs W → W.heap[D]? = some (.deferred (some [])) → Q .normal { a with defers := { target := .collected D, args := #[] } :: a.defers } W)
    (hstop : ∀ (D : Nat) (j : Code) (W : World), w.heap.size ≤ D → Ix j W → W.heap[D]? = some (.deferred (some [])) → j.wpIn Fence.wide 9 P Q { a with defers := { target := .collected D, args := #[] } :: a.defers } W) :
    (Code.rangeFunc g ps assign body).wpIn Fence.wide 9 P Q a w := by
  refine wpIn_rangeFunc ?_
  intro fn _
  obtain ⟨rec, hrec⟩ : ∃ rec : LoopState → Option Code → Loop, rec = fun st pe => { state := st, pending := pe, fn, tmps := a.tmps, params := ps, assign, body, defers := w.heap.size } := ⟨_, rfl⟩
  obtain ⟨W1, hW1⟩ : ∃ W1, (w.alloc (.deferred (some []))).alloc (.loop (rec .ready none)) = W1 := ⟨_, rfl⟩
  have hrun := run_enterLoop_outer (P := P) (w := w) fn a.tmps ps assign body
  rw [show ((w.alloc (.deferred (some []))).alloc (.loop { state := .ready, pending := none, fn, tmps := a.tmps, params := ps, assign, body, defers := w.heap.size })) = W1 by rw [← hW1, hrec]] at hrun
  have hL : W1.heap[w.heap.size + 1]? = some (.loop (rec .ready none)) := by
    have := World.alloc_heap_new (w.alloc (.deferred (some []))) (.loop (rec .ready none)); rw [World.size_alloc, hW1] at this; exact this
  have hD : W1.heap[w.heap.size]? = some (.deferred (some [])) := by
    rw [← hW1]; exact (Below.heap_alloc _ _ _ (by simp)).trans (World.alloc_heap_new w _)
  have hI1 : I [] W1 := by rw [← hW1]; exact hI.alloc _ (hI.alloc _ h0)
  have hB1 : Below w.heap.size w W1 := by rw [← hW1]; exact ((Below.refl _ w).alloc (Nat.le_refl _) _).alloc (by simp) _
  clear hW1 h0
  -- the two blocks of book-keeping lie on through whatever turns one block that is not they
  have far : ∀ {X Y : World} {k : Nat} {o : Obj}, X.grownBy Y (some c) → w.heap.size ≤ k → X.heap[k]? = some o → Y.heap[k]? = some o := fun hg' hk ho =>
    (hg'.block _ (Array.getElem?_eq_some_iff.1 ho).1 (fun e => by cases e; omega)).trans ho
  refine ⟨w.heap.size + 1, _, W1, { target := .fn (.func gf) lb, args := #[.func (.yield (w.heap.size + 1)) #[] #[]] }, W1, gf, #[.func (.yield (w.heap.size + 1)) #[] #[]] ++ lb, W1, hrun, ?_, fun _ _ => trivial, ?_, fun h => by simp [Fence.wide] at h, ?_⟩
  · simp only [resolve, hg]
    simp [go_sem]
  · simp [invoke, go_sem, eg]
  refine (hit (w.heap.size + 1)
    (fun pre W => (I pre W ∧ w.heap.size ≤ W.heap.size) ∧ W.heap[w.heap.size + 1]? = some (.loop (rec .ready none)) ∧ W.heap[w.heap.size]? = some (.deferred (some [])))
    (fun W => ∃ j, Ix j W ∧ W.heap[w.heap.size + 1]? = some (.loop (rec .done (some j))) ∧ W.heap[w.heap.size]? = some (.deferred (some [])))
    W1 hB1 (fun s X Y hs hg' => ⟨⟨hI s X Y c hs.1.1 hg' (.inl rfl), Nat.le_trans hs.1.2 hg'.size⟩, far hg' (by omega) hs.2.1, far hg' (Nat.le_refl _) hs.2.2⟩) ?_ ⟨⟨hI1, hB1.size⟩, hL, hD⟩).mono ?_
  · -- a round
    rintro pre x rest W hx ⟨⟨hi, hsz⟩, hl, hk⟩
    have hlt := (Array.getElem?_eq_some_iff.1 hl).1
    have hy := run_yield (P := P) (args := encs x) hl (by rw [hrec]; exact hps x)
    rw [hrec] at hy
    refine ⟨fn, _, assign, body, hy, roundIn_of_wpIn trivial (hassign _ pre x rest W _ hx hsz hi ?_)⟩
    intro a' Wa hkf hsm hax
    replace hl := hkf.same _ _ (by omega) hl rfl
    replace hk := hkf.same _ _ (Nat.le_refl _) hk rfl
    replace hlt := (Array.getElem?_eq_some_iff.1 hl).1
    refine ⟨_, run_beginRound hl (by rw [hrec]), ?_⟩
    obtain ⟨Wb, hWb⟩ : ∃ Wb, Wa.putObj (w.heap.size + 1) (.loop { rec .ready none with state := .busy }) = Wb := ⟨_, rfl⟩
    have hlb : Wb.heap[w.heap.size + 1]? = some (.loop { rec .ready none with state := .busy }) := by rw [← hWb]; exact World.putObj_heap_same hlt
    have hkb : Wb.heap[w.heap.size]? = some (.deferred (some [])) := by rw [← hWb]; exact (World.putObj_heap_other (by omega)).trans hk
    have haxb : Ax pre x a' Wb := by rw [← hWb]; exact hAx.putObj (s := (pre, x, a')) _ hax (by omega) hl rfl
    have hszb : w.heap.size ≤ Wb.heap.size := by have := hkf.size; rw [← hWb]; simp only [World.putObj_size]; omega
    have hsmb : Same keep W Wb := hsm.trans (fun k hk' => by rw [← hWb]; exact World.putObj_heap_other (by have := hkeep k hk'; omega))
    rw [hWb]
    clear hWb
    refine wpIn_mono (hbody _ pre x rest a' Wb hx hszb haxb) ?_
    have fin : ∀ (jump : Option Code) (W3 : World), KeepsFrom w.heap.size Wb W3 → ∃ W4, (Instr.endRound (w.heap.size + 1) jump).run P W3 = .ok (.bool jump.isNone) W4 ∧ W4 = W3.putObj (w.heap.size + 1) (.loop (rec (if jump.isNone then .ready else .done) jump)) ∧
        W3.heap[w.heap.size + 1]? = some (.loop { rec .ready none with state := .busy }) ∧
        W4.heap[w.heap.size + 1]? = some (.loop (rec (if jump.isNone then .ready else .done) jump)) ∧ W4.heap[w.heap.size]? = some (.deferred (some [])) := fun jump W3 h3 => by
      have hl3 := h3.same _ _ (by omega) hlb rfl
      have hr3 := run_endRound (P := P) jump hl3
      have he : Obj.loop { ({ rec .ready none with state := .busy } : Loop) with state := if jump.isNone then .ready else .done, pending := jump } = .loop (rec (if jump.isNone then .ready else .done) jump) := by rw [hrec]
      rw [he] at hr3
      exact ⟨_, hr3, rfl, hl3, World.putObj_heap_same (Array.getElem?_eq_some_iff.1 hl3).1, (World.putObj_heap_other (by omega)).trans (h3.same _ _ (Nat.le_refl _) hkb rfl)⟩
    rintro e a3 W3 hp
    cases e with
    | normal =>
      obtain ⟨h3, hs3, hi3⟩ := hp
      obtain ⟨W4, hr, hW4, hl3, hl4, hk4⟩ := fin none W3 h3
      refine ⟨_, W4, hr, .inl ⟨rfl, ⟨⟨by rw [hW4]; exact hI.putObj _ hi3 (by omega) hl3 rfl, ?_⟩, hl4, hk4⟩, (hsmb.trans hs3).trans ?_⟩⟩
      · have := h3.size; rw [hW4]; simp only [World.putObj_size]; omega
      · intro k hk'; rw [hW4]; exact World.putObj_heap_other (by have := hkeep k hk'; omega)
    | ret =>
      obtain ⟨h3, hi3⟩ := hp
      obtain ⟨W4, hr, hW4, hl3, hl4, hk4⟩ := fin (some .ret) W3 h3
      exact ⟨_, W4, hr, .inr ⟨rfl, .ret, by rw [hW4]; exact hIx.putObj _ hi3 (by omega) hl3 rfl, hl4, hk4⟩⟩
    | exit id =>
      obtain ⟨h3, hi3⟩ := hp
      obtain ⟨W4, hr, hW4, hl3, hl4, hk4⟩ := fin (some (.exit id)) W3 h3
      exact ⟨_, W4, hr, .inr ⟨rfl, .exit id, by rw [hW4]; exact hIx.putObj _ hi3 (by omega) hl3 rfl, hl4, hk4⟩⟩
    | goto t =>
      obtain ⟨h3, hi3⟩ := hp
      obtain ⟨W4, hr, hW4, hl3, hl4, hk4⟩ := fin (some (.goto t)) W3 h3
      exact ⟨_, W4, hr, .inr ⟨rfl, .goto t, by rw [hW4]; exact hIx.putObj _ hi3 (by omega) hl3 rfl, hl4, hk4⟩⟩
    | panic ch => exact hp.elim
    | outgrown => exact hp.elim
  · -- behind the iterator
    rintro e W2 ⟨⟨v, rfl⟩, (⟨⟨hi, _⟩, hl, hk⟩ | ⟨j, hi, hl, hk⟩)⟩
    · have hend := run_endLoop (P := P) hl (by rw [hrec]; simp)
      rw [show (rec .ready none).pending = none by rw [hrec]] at hend
      exact ⟨none, _, hend, hdone _ _ (Nat.le_refl _) (hI.putObj _ hi (by omega) hl rfl) ((World.putObj_heap_other (by omega)).trans hk)⟩
    · have hend := run_endLoop (P := P) hl (by rw [hrec]; simp)
      rw [show (rec .done (some j)).pending = some j by rw [hrec]] at hend
      exact ⟨some j, _, hend, hstop _ j _ (Nat.le_refl _) (hIx.putObj _ hi (by omega) hl rfl) ((World.putObj_heap_other (by omega)).trans hk)⟩
#print axioms wpIn_range
end Go.Proofs.YtlfljoihcjmnkaaDoor.Rng
