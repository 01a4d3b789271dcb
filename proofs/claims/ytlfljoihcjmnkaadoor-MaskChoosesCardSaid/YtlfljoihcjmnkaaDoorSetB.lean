/- cpuset.Next and cpuset.List, by their contracts, at every set. -/
import Derived.Test.YtlfljoihcjmnkaaDoorSet
namespace Go.Proofs.YtlfljoihcjmnkaaDoor.Q
open Go Go.RowKit Go.Shelf Go.Proofs.YtlfljoihcjmnkaaDoor.Rng Go.Proofs.YtlfljoihcjmnkaaDoorW.PrintWords
set_option linter.unusedVariables false
set_option linter.unusedSimpArgs false
attribute [local go_sem] Oper.semAt_some

theorem Iter.later {α : Type} {P : Program} {g : Nat} {lb : Array Value} {encs : α → Array Value} {c : Nat} {keep : Nat → Prop} {xs : List α} {w0 w1 : World} (h : Iter P g lb encs c keep xs w0) (hb : Below w0.heap.size w0 w1) : Iter P g lb encs c keep xs w1 :=
  fun l J Jx W hW hJ hY h0 => h l J Jx W (hb.trans (hW.mono hb.size)) hJ hY h0

/-- cells abide the book-keeping -/
theorem boxed_far {W Y : World} {r b : Nat} {t : TypeId} {v : Value} {B : Nat} (h : Boxed W b t v) (hg : W.grownBy Y (some r)) (hr : B ≤ r ∧ ∃ o : Obj, W.heap[r]? = some o ∧ o.isCells = false) : Boxed Y b t v :=
  h.kept hg (fun e => by
    obtain rfl : b = r := by injection e
    obtain ⟨_, o, ho, hc⟩ := hr
    rw [show W.heap[b]? = _ from h] at ho; cases ho; cases hc)
theorem below_far {B n₀ : Nat} {w W Y : World} {r : Nat} (h : Below n₀ w W) (hn : n₀ ≤ w.heap.size) (hB : n₀ ≤ B) (hg : W.grownBy Y (some r)) (hr : B ≤ r) : Below n₀ w Y :=
  h.grown hg (Nat.le_trans hn h.size) (fun k e => by cases e; omega)

set_option maxHeartbeats 1000000 in
theorem in_calls (s : Int) (w : World) : Calls Tryd.prog 41 #[.int .u32 s] w fun e w' =>
    e = .returned (.func (.func 43) #[] #[.pointer (some ⟨w.heap.size, 0, none⟩)]) ∧ w' = w.alloc (.cells #[.int .u32 s] 24) := by
  go_enter Tryd.func41, Tryd.ntmps41
  go_wp2
  go_ret
  exact ⟨rfl, rfl⟩

def nextOf (s after : Int) : Int × Bool := match (listOf s).find? fun c => decide (after < c) with | some c => (c, true) | none => (0, false)
def cpuset_Next.f (a0 : Int) (a1 : Int) : Option (Int × Bool) := if 0 ≤ a0 ∧ a0 < 4294967296 then some (nextOf a0 a1) else none

theorem find_none_of {α : Type} (p : α → Bool) (l : List α) (h : ∀ x ∈ l, p x = false) : l.find? p = none := by
  rw [List.find?_eq_none]; intro x hx; simp [h x hx]
theorem find_some_of {α : Type} (p : α → Bool) (pre post : List α) (x : α) (h : ∀ y ∈ pre, p y = false) (hx : p x = true) : (pre ++ x :: post).find? p = some x := by
  rw [List.find?_append, find_none_of p pre h]; simp [hx]

set_option maxRecDepth 100000 in
set_option maxHeartbeats 2000000 in
theorem cpuset_Next.calls (a0 : Int) (a1 : Int) (r1 : Int) (r2 : Bool) (w : World) (hT : TabW w) (h : cpuset_Next.f a0 a1 = some (r1, r2)) :
    Calls Tryd.prog 35 #[.int .u32 a0, .int .i64 a1] w fun e w' => e = .returned (.tuple #[.int .i64 r1, .bool r2]) ∧ Below w.heap.size w w' := by
  unfold cpuset_Next.f at h
  by_cases hr : 0 ≤ a0 ∧ a0 < 4294967296
  case neg => rw [if_neg hr] at h; cases h
  rw [if_pos hr] at h
  have hN : nextOf a0 a1 = (r1, r2) := Option.some.inj h
  clear h
  obtain ⟨s, rfl⟩ : ∃ s : Nat, a0 = s := ⟨a0.toNat, by omega⟩
  have hs : s < 4294967296 := by omega
  clear hr
  have HN := Lib.hid hN
  clear hN
  refine (callsIn_wide (n := 9)).1 ?_
  refine callsIn_of_wp_marks Tryd.func35 rfl trivial ?_ rfl
  simp only [Tryd.ntmps35, List.size_toArray, List.length_cons, List.length_nil, Nat.reduceAdd, Nat.reduceSub, Array.replicate_succ, Array.replicate_zero, List.push_toArray, List.append_toArray, List.nil_append, List.cons_append]
  gi_wp2_with (refine ⟨trivial, ?_⟩; gi_at_call 41; refine (callsIn_wide.2 (in_calls s _)).mono ?_; rintro e w' ⟨rfl, rfl⟩)
  have b0 := Boxed.new w 3 (.int .i64 a1)
  have b1 := Boxed.new (w.alloc (.cells #[.int .i64 a1] 3)) 3 (.int .i64 0)
  have b2 := Boxed.new ((w.alloc (.cells #[.int .i64 a1] 3)).alloc (.cells #[.int .i64 0] 3)) 4 (.bool false)
  have b3 := Boxed.new (((w.alloc (.cells #[.int .i64 a1] 3)).alloc (.cells #[.int .i64 0] 3)).alloc (.cells #[.bool false] 4)) 24 (.int .u32 s)
  simp only [World.size_alloc] at b1 b2 b3
  have hB : Below w.heap.size w ((((w.alloc (.cells #[.int .i64 a1] 3)).alloc (.cells #[.int .i64 0] 3)).alloc (.cells #[.bool false] 4)).alloc (.cells #[.int .u32 s] 24)) :=
    ((((Below.refl _ w).alloc (Nat.le_refl _) _).alloc (by simp) _).alloc (by simp; omega) _).alloc (by simp; omega) _
  have hT1 := hT.step hB
  have hpos := hT.pos
  replace b0 := ((b0.alloc (.cells #[.int .i64 0] 3)).alloc (.cells #[.bool false] 4)).alloc (.cells #[.int .u32 s] 24)
  replace b1 := (b1.alloc (.cells #[.bool false] 4)).alloc (.cells #[.int .u32 s] 24)
  replace b2 := b2.alloc (.cells #[.int .u32 s] 24)
  have hit := in1_iter (w.heap.size + 1 + 1 + 1) s hs _ b3 hT1 (by omega)
  have hsz : ((((w.alloc (.cells #[.int .i64 a1] 3)).alloc (.cells #[.int .i64 0] 3)).alloc (.cells #[.bool false] 4)).alloc (.cells #[.int .u32 s] 24)).heap.size = w.heap.size + 4 := by simp
  obtain ⟨w4, hw4⟩ : ∃ w4, ((((w.alloc (.cells #[.int .i64 a1] 3)).alloc (.cells #[.int .i64 0] 3)).alloc (.cells #[.bool false] 4)).alloc (.cells #[.int .u32 s] 24)) = w4 := ⟨_, rfl⟩
  rw [hw4] at b0 b1 b2 b3 hB hT1 hit hsz ⊢
  clear hw4
  refine wpIn_range (gf := 43) (lb := #[.pointer (some ⟨w.heap.size + 1 + 1 + 1, 0, none⟩)]) rfl (enters_of Tryd.func43 (by kernel_rfl) rfl) hit (fun _ => rfl) (by omega) (fun k hk => by omega)
    (fun pre W => (∀ y ∈ pre, decide (a1 < y) = false) ∧ Boxed W w.heap.size 3 (.int .i64 a1) ∧ Boxed W (w.heap.size + 1) 3 (.int .i64 0) ∧ Boxed W (w.heap.size + 1 + 1) 4 (.bool false) ∧ Below w.heap.size w W)
    (fun j W => j = .ret ∧ ∃ c, nextOf s a1 = (c, true) ∧ Boxed W (w.heap.size + 1) 3 (.int .i64 c) ∧ Boxed W (w.heap.size + 1 + 1) 4 (.bool true) ∧ Below w.heap.size w W)
    ?calm ?calmx ⟨by simp, b0, b1, b2, hB⟩
    (fun pre x a' W => ((∀ y ∈ pre, decide (a1 < y) = false) ∧ Boxed W w.heap.size 3 (.int .i64 a1) ∧ Boxed W (w.heap.size + 1) 3 (.int .i64 0) ∧ Boxed W (w.heap.size + 1 + 1) 4 (.bool false) ∧ Below w.heap.size w W) ∧
      a' = { tmps := #[.int .u32 s, .int .i64 a1, undef, .pointer (some ⟨w.heap.size, 0, none⟩), .pointer (some ⟨w.heap.size + 1, 0, none⟩), .pointer (some ⟨w.heap.size + 1 + 1, 0, none⟩), .int .i64 x, .int .u32 s, .func (.func 43) #[] #[.pointer (some ⟨w.heap.size + 1 + 1 + 1, 0, none⟩)], .int .i64 x, undef, undef, undef, undef], defers := [] })
    ?calma ?assign ?body ?done ?stop
  case calm =>
    rintro pre X Y r ⟨h1, h2, h3, h4, h5⟩ hg (rfl | hr)
    · exact ⟨h1, h2.kept hg (by simp <;> omega), h3.kept hg (by simp <;> omega), h4.kept hg (by simp <;> omega), below_far h5 (Nat.le_refl _) (Nat.le_refl _) hg (by omega)⟩
    · exact ⟨h1, boxed_far h2 hg hr, boxed_far h3 hg hr, boxed_far h4 hg hr, below_far h5 (Nat.le_refl _) (B := w.heap.size) (Nat.le_refl _) hg (by omega)⟩
  case calmx =>
    rintro j X Y r ⟨h1, c, h2, h3, h4, h5⟩ hg hr
    exact ⟨h1, c, h2, boxed_far h3 hg hr, boxed_far h4 hg hr, below_far h5 (Nat.le_refl _) (B := w.heap.size) (Nat.le_refl _) hg (by omega)⟩
  case calma =>
    rintro ⟨pre, x, a'⟩ X Y r ⟨⟨h1, h2, h3, h4, h5⟩, h6⟩ hg hr
    exact ⟨⟨h1, boxed_far h2 hg hr, boxed_far h3 hg hr, boxed_far h4 hg hr, below_far h5 (Nat.le_refl _) (B := w.heap.size) (Nat.le_refl _) hg (by omega)⟩, h6⟩
  case assign =>
    intro l pre x rest W K hx hsz1 hI hK
    gi_wp2
    exact hK _ _ (KeepsFrom.refl _ _) (Same.refl _ _) ⟨hI, rfl⟩
  case body =>
    rintro l pre x rest a' W hx hsz1 ⟨⟨h1, h2, h3, h4, h5⟩, rfl⟩
    have c2 := h2.cell
    have c3 := h3.cell
    have f3 := h3.frozen
    have c4 := h4.cell
    have f4 := h4.frozen
    clear hB hit HN hT hT1
    by_cases hlt : a1 < x
    · gi_wp2
      have hf : nextOf s a1 = (x, true) := by
        unfold nextOf
        rw [hx, find_some_of _ pre rest x h1 (by simpa using hlt)]
      have hne : w.heap.size + 1 ≠ w.heap.size + 1 + 1 := by omega
      exact ⟨((KeepsOthers.setCell _ _ _).trans (KeepsOthers.setCell _ _ _)).from _, rfl, x, hf, (h3.set _).other hne _, (h4.other hne.symm _).set _, (h5.setCell (p := ⟨w.heap.size + 1, 0, none⟩) (by simp) _).setCell (p := ⟨w.heap.size + 1 + 1, 0, none⟩) (by simp; omega) _⟩
    · gi_wp2
      refine ⟨KeepsFrom.refl _ _, Same.refl _ _, fun y hy => ?_, h2, h3, h4, h5⟩
      rcases List.mem_append.1 hy with h | h
      · simpa using h1 y h
      · have : y = x := by simpa using h
        subst this; simpa using hlt
  case done =>
    rintro D W hD ⟨h1, h2, h3, h4, h5⟩ hK
    have c3 := h3.cell
    have f3 := h3.frozen
    have c4 := h4.cell
    have f4 := h4.frozen
    have hDw : w.heap.size ≤ D := by omega
    clear hB hit hT hT1 hsz b0 b1 b2 b3
    gi_wp2
    have hne : w.heap.size + 1 ≠ w.heap.size + 1 + 1 := by omega
    have hK' := ((KeepsOthers.setCell W ⟨w.heap.size + 1, 0, none⟩ (.int .i64 0)).trans (KeepsOthers.setCell _ ⟨w.heap.size + 1 + 1, 0, none⟩ (.bool false))).same D _ hK rfl
    refine ⟨by simp, .inl ⟨_, _, rfl, run_takeDeferred hK', ?_⟩⟩
    have n1 := boxed_far (B := 0) ((h3.set (.int .i64 0)).other hne (.bool false)) (grownBy_putObj' _ D (.deferred none)) ⟨Nat.zero_le _, _, hK', rfl⟩
    have n2 := boxed_far (B := 0) ((h4.other hne.symm (.int .i64 0)).set (.bool false)) (grownBy_putObj' _ D (.deferred none)) ⟨Nat.zero_le _, _, hK', rfl⟩
    have d1 := n1.cell
    have d2 := n2.cell
    have e1 : r1 = 0 ∧ r2 = false := by
      have hn := HN.out
      unfold nextOf at hn
      rw [find_none_of _ _ h1] at hn
      injection hn with e1 e2
      exact ⟨e1.symm, e2.symm⟩
    obtain ⟨rfl, rfl⟩ := e1
    refine ⟨.tuple #[.int .i64 0, .bool false], ?_, rfl, below_far ((h5.setCell (p := ⟨w.heap.size + 1, 0, none⟩) (by simp) _).setCell (p := ⟨w.heap.size + 1 + 1, 0, none⟩) (by simp; omega) _) (Nat.le_refl _) (B := w.heap.size) (Nat.le_refl _) (grownBy_putObj' _ D _) (by omega)⟩
    simp [results, Tryd.f35, go_sem, d1, d2]
  case stop =>
    rintro D j W hD ⟨rfl, c, hc, h3, h4, h5⟩ hK
    have hDw : w.heap.size ≤ D := by omega
    clear hB hit hT hT1 hsz b0 b1 b2 b3
    gi_wp2
    refine ⟨by simp, .inl ⟨_, _, rfl, run_takeDeferred hK, ?_⟩⟩
    have n1 := boxed_far (B := 0) h3 (grownBy_putObj' _ D (.deferred none)) ⟨Nat.zero_le _, _, hK, rfl⟩
    have n2 := boxed_far (B := 0) h4 (grownBy_putObj' _ D (.deferred none)) ⟨Nat.zero_le _, _, hK, rfl⟩
    have d1 := n1.cell
    have d2 := n2.cell
    obtain ⟨rfl, rfl⟩ : r1 = c ∧ r2 = true := by
      have hn := HN.out
      rw [hc] at hn
      injection hn with e1 e2
      exact ⟨e1.symm, e2.symm⟩
    refine ⟨.tuple #[.int .i64 r1, .bool true], ?_, rfl, below_far h5 (Nat.le_refl _) (B := w.heap.size) (Nat.le_refl _) (grownBy_putObj' _ D _) (by omega)⟩
    simp [results, Tryd.f35, go_sem, d1, d2]

theorem gb_below {a b d : World} {r : Option Nat} (h : a.grownBy b r) (k : Below a.heap.size b d) : a.grownBy d r :=
  ⟨k.os.trans h.os, k.tape.trans h.tape, k.output.trans h.output, Nat.le_trans h.size k.size, fun i hi hne => (k.block i hi).trans (h.block i hi hne)⟩
theorem ownsRow_lower {w : World} {base b : Nat} {e : TypeId} {size : Nat} {v : Value} {n : Nat} {xs : List Value} (h : w.ownsRow base e size v n xs) (hb : b ≤ base) : w.ownsRow b e size v n xs := by
  obtain ⟨h1, h2⟩ := h
  refine ⟨h1, ?_⟩
  rcases h2 with h2 | ⟨g, cap, cur, hv, hg, r⟩
  · exact .inl h2
  · exact .inr ⟨g, cap, cur, hv, by omega, r⟩
theorem infoInt : (Tryd.prog.info? 3).map (fun i => (i.zero, i.size, i.bytes)) = some (some (.int .i64 0), 1, 8) := by kernel_rfl

set_option maxRecDepth 100000 in
set_option maxHeartbeats 2000000 in
/-- slices.AppendSeq(nil, seq): what an iterator gives, in that order; the iterator's own variable turns, and nothing else that lay. -/
theorem appendSeq_calls (gf : Nat) (lb : Array Value) (c : Nat) (keep : Nat → Prop) (xs : List Int) (w : World) (hit : Iter Tryd.prog gf lb (fun x : Int => #[.int .i64 x]) c keep xs w) (hc : c < w.heap.size) (hkeep : ∀ k, keep k → k < w.heap.size) (hlen : xs.length ≤ 8)
    (eg : ∀ args w, (callFunc gf args).run Tryd.prog w = .ok (.enter gf args) w) :
    Calls Tryd.prog 42 #[.slice none 0 0, .func (.func gf) #[] lb] w fun e w' => ∃ v, e = .returned v ∧ w'.ownsRow w.heap.size 3 1 v xs.length (xs.map (Value.int .i64)) ∧ w.grownBy w' (some c) := by
  obtain ⟨i0, hi, hz0, hz1, hz2⟩ := info_parts infoInt
  have HL := Lib.hid hlen
  clear hlen
  refine (callsIn_wide (n := 9)).1 ?_
  refine callsIn_of_wp_marks Tryd.func42 rfl trivial ?_ rfl
  simp only [Tryd.ntmps42, List.size_toArray, List.length_cons, List.length_nil, Nat.reduceAdd, Nat.reduceSub, Array.replicate_succ, Array.replicate_zero, List.push_toArray, List.append_toArray, List.nil_append, List.cons_append]
  gi_wp2
  have b0 := Boxed.new w 26 (.slice none 0 0)
  have hB : Below w.heap.size w (w.alloc (.cells #[.slice none 0 0] 26)) := (Below.refl _ w).alloc (Nat.le_refl _) _
  have hsz : (w.alloc (.cells #[.slice none 0 0] 26)).heap.size = w.heap.size + 1 := by simp
  replace hit := Iter.later hit hB
  obtain ⟨w1, hw1⟩ : ∃ w1, w.alloc (.cells #[.slice none 0 0] 26) = w1 := ⟨_, rfl⟩
  rw [hw1] at b0 hB hsz hit ⊢
  clear hw1
  refine wpIn_range (gf := gf) (lb := lb) rfl eg hit (fun _ => rfl) (by omega) (fun k hk => by have := hkeep k hk; omega)
    (fun pre W => (∃ v, Boxed W w.heap.size 26 v ∧ W.ownsRow w.heap.size 3 1 v pre.length (pre.map (Value.int .i64))) ∧ w.grownBy W (some c))
    (fun _ _ => False)
    ?calm (fun _ _ _ _ h _ _ => h.elim) ⟨⟨_, b0, World.ownsRow_nil _ _ _ _⟩, gb_of_below hB _⟩
    (fun pre x a' W => ((∃ v, Boxed W w.heap.size 26 v ∧ W.ownsRow w.heap.size 3 1 v pre.length (pre.map (Value.int .i64))) ∧ w.grownBy W (some c)) ∧
      a' = { tmps := #[.slice none 0 0, .func (.func gf) #[] lb, .pointer (some ⟨w.heap.size, 0, none⟩), undef, .slice none 0 0, .int .i64 x, .func (.func gf) #[] lb, .int .i64 x, undef, undef, undef, undef, undef], defers := [] })
    ?calma ?assign ?body ?done (fun _ _ _ _ h _ => h.elim)
  case calm =>
    rintro pre X Y r ⟨⟨v, h1, h2⟩, h3⟩ hg hr
    have hne : w.heap.size ≠ r := by
      rcases hr with rfl | ⟨_, o, ho, hcl⟩
      · omega
      · intro e; subst e; rw [show X.heap[_]? = _ from h1] at ho; cases ho; cases hcl
    refine ⟨⟨v, h1.kept hg (fun e => hne (by injection e)), h2.kept hg ?_⟩, gb_trans h3 hg (fun j e => by cases e; rcases hr with rfl | ⟨h, _⟩ <;> omega)⟩
    rcases h2.2 with ⟨rfl, _⟩ | ⟨g, cap, cur, rfl, hgb, hgc, _⟩
    · exact .inl rfl
    · refine .inr (fun e => ?_)
      obtain rfl : g = r := by simpa [Value.ownBlock] using e
      rcases hr with rfl | ⟨_, o, ho, hcl⟩
      · omega
      · rw [hgc] at ho; cases ho; cases hcl
  case calma =>
    rintro ⟨pre, x, a'⟩ X Y r ⟨⟨⟨v, h1, h2⟩, h3⟩, h4⟩ hg hr
    refine ⟨⟨⟨v, boxed_far h1 hg hr, h2.kept hg ?_⟩, gb_trans h3 hg (fun j e => by cases e; omega)⟩, h4⟩
    rcases h2.2 with ⟨rfl, _⟩ | ⟨g, cap, cur, rfl, hgb, hgc, _⟩
    · exact .inl rfl
    · refine .inr (fun e => ?_)
      obtain rfl : g = r := by simpa [Value.ownBlock] using e
      obtain ⟨_, o, ho, hcl⟩ := hr
      rw [hgc] at ho; cases ho; cases hcl
  case assign =>
    intro l pre x rest W K hx hsz1 hI hK
    gi_wp2
    exact hK _ _ (KeepsFrom.refl _ _) (Same.refl _ _) ⟨hI, rfl⟩
  case body =>
    rintro l pre x rest a' W hx hsz1 ⟨⟨⟨v, hv, hrow⟩, hB3⟩, rfl⟩
    have c0 := hv.cell
    have hpl : pre.length < 8 := by have := HL.out; rw [hx] at this; simp at this; omega
    have hW := hB3.size
    have HX := Lib.hid hx
    clear hB hit hx
    gi_wp2_with (gi_at_builtin; refine wpListIn_append_own _ rfl _ _ 26 rfl w.heap.size 3 i0 (.int .i64 0) 1 8 Tryd.underlying26 hi hz0 hz1 hz2 rfl (by decide) _ _ _ rfl (hrow.alloc _) ⟨W.heap.size, 0, none⟩ 1 1 [.int .i64 x] rfl rfl (cell_one_new _ _ _) (by simp [Value.oneCell']) (by unfold maxLen; omega) (by omega) (by simp; omega) ?_; intro v' w2 hown' hgrow _; obtain ⟨g', cap', rfl⟩ := ownsRow_succ hown'; obtain ⟨hv1, hv2, hr2, hk2, hb2⟩ := hv.appended (by decide) hrow hW (Nat.le_refl _) hown' hgrow; have hc1 := hv1.cell; have hf1 := hv1.frozen)
    have hsame : ∀ k, keep k → (w2.setCell ⟨w.heap.size, 0, none⟩ (.slice (some ⟨g', 0, none⟩) (pre.length + 1) cap')).heap[k]? = W.heap[k]? := fun k hk => hb2.block k (hkeep k hk)
    exact ⟨hk2.from _, hsame, ⟨_, hv2, by simpa using hr2⟩, gb_below hB3 hb2⟩
  case done =>
    rintro D W hD ⟨⟨v, hv, hrow⟩, hB3⟩ hK
    have hc0 := hv.cell
    clear hB hit
    gi_wp2
    refine ⟨by simp, .inl ⟨_, _, rfl, run_takeDeferred hK, ?_⟩⟩
    exact ⟨_, results_tmp rfl _ _ _, v, rfl, ownsRow_putObj hrow _ hK rfl, gb_trans hB3 (grownBy_putObj' _ D _) (fun j e => by cases e; omega)⟩

set_option maxHeartbeats 1000000 in
/-- slices.Collect(seq) -/
theorem collect_calls (gf : Nat) (lb : Array Value) (c : Nat) (keep : Nat → Prop) (xs : List Int) (w : World) (hit : Iter Tryd.prog gf lb (fun x : Int => #[.int .i64 x]) c keep xs w) (hc : c < w.heap.size) (hkeep : ∀ k, keep k → k < w.heap.size) (hlen : xs.length ≤ 8)
    (eg : ∀ args w, (callFunc gf args).run Tryd.prog w = .ok (.enter gf args) w) :
    Calls Tryd.prog 40 #[.func (.func gf) #[] lb] w fun e w' => ∃ v, e = .returned v ∧ w'.ownsRow w.heap.size 3 1 v xs.length (xs.map (Value.int .i64)) ∧ w.grownBy w' (some c) := by
  go_enter Tryd.func40, Tryd.ntmps40
  go_wp2_with (go_at_call 42; refine (appendSeq_calls gf lb c keep xs w hit hc hkeep hlen eg).mono ?_; rintro e w' ⟨v, rfl, h1, h2⟩)
  go_ret
  exact ⟨v, rfl, h1, h2⟩

def cpuset_List.f (a0 : Int) : Option (List Int) := if 0 ≤ a0 ∧ a0 < 4294967296 then some (listOf a0) else none
theorem listOf_len (s : Int) : (listOf s).length ≤ 8 := by
  unfold listOf
  rw [List.length_map]
  have := List.length_filter_le (fun c => s.toNat.testBit c) (List.range 8)
  simpa using this

set_option maxHeartbeats 1000000 in
theorem cpuset_List.calls (a0 : Int) (r : List Int) (w : World) (hT : TabW w) (h : cpuset_List.f a0 = some r) :
    Calls Tryd.prog 30 #[.int .u32 a0] w fun e w' => ∃ v0_ : Value, e = .returned (v0_) ∧ Kd.R (Kd.int .i64) 3 w' w.heap.size (fun _ => True) v0_ r ∧ Below w.heap.size w w' := by
  unfold cpuset_List.f at h
  by_cases hr : 0 ≤ a0 ∧ a0 < 4294967296
  case neg => rw [if_neg hr] at h; cases h
  rw [if_pos hr] at h
  obtain rfl : listOf a0 = r := Option.some.inj h
  clear h
  obtain ⟨s, rfl⟩ : ∃ s : Nat, a0 = s := ⟨a0.toNat, by omega⟩
  have hs : s < 4294967296 := by omega
  clear hr
  have b0 := Boxed.new w 24 (.int .u32 s)
  have hB : Below w.heap.size w (w.alloc (.cells #[.int .u32 s] 24)) := (Below.refl _ w).alloc (Nat.le_refl _) _
  have hit := in1_iter w.heap.size s hs _ b0 (hT.step hB) hT.pos
  have hpos := hT.pos
  have C := collect_calls 43 #[.pointer (some ⟨w.heap.size, 0, none⟩)] w.heap.size _ (listOf s) _ hit (by simp) (fun k hk => by simp; omega) (listOf_len _) (enters_of Tryd.func43 (by kernel_rfl) rfl)
  have HC := Lib.hid C
  clear C hit b0 hT
  go_enter Tryd.func30, Tryd.ntmps30
  go_wp2_with (first
    | (go_at_call 41; refine (in_calls s _).mono ?_; rintro e w' ⟨rfl, rfl⟩)
    | (go_at_call 40; refine HC.out.mono ?_; rintro e w' ⟨v, rfl, h1, h2⟩))
  go_ret
  refine ⟨v, rfl, Kd.R_of_own ?_ (fun _ _ => trivial), ?_⟩
  · have := ownsRow_lower h1 (b := w.heap.size) (by simp)
    exact this
  · exact ⟨h2.os.trans hB.os, h2.tape.trans hB.tape, h2.output.trans hB.output, Nat.le_trans hB.size h2.size, fun k hk => (h2.block k (by simp; omega) (fun e => by cases e; omega)).trans (hB.block k hk)⟩

#print axioms cpuset_List.calls
end Go.Proofs.YtlfljoihcjmnkaaDoor.Q
