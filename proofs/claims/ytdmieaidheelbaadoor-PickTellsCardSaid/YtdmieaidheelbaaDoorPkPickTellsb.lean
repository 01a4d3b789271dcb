/- Texts of the proof of PickTells, joined. -/
import Derived.Test.YtdmieaidheelbaaDoorRows
import Derived.ProofKit
import Derived.LaidMore
import Derived.OpenShut
import Derived.Stop.Joined
import Derived.ChangeAt
import Derived.Deep.Slices
import Derived.ChangeSame
import Derived.Maps.OwnIn
import Derived.Maps.Own
import Derived.Maps.OwnSet
import Derived.Maps.OwnOps
import Derived.Maps.Views
import Derived.Deep.RegionWith
import Derived.BigRegion
import Derived.WalkSpells
import Derived.Lib.LazyBuf
import Derived.Laws.OwnMore
import Derived.Lib.Tables
import Derived.Test.YtdmieaidheelbaaDoorPkPickTellsa
/- SetB -/
section
/- cpuset.Next and cpuset.List, by their contracts, at every set. -/
namespace Go.Proofs.YtdmieaidheelbaaDoor.Q
open Go Go.RowKit Go.Shelf Go.Proofs.YtdmieaidheelbaaDoor.Rng Go.Proofs.YtdmieaidheelbaaDoorW.PrintWords
set_option linter.unusedVariables false
set_option linter.unusedSimpArgs false
attribute [local go_sem] Oper.semAt_some

theorem Iter.later {α : Type} {P : Program} {g : Nat} {lb : Array Value} {encs : α → Array Value} {c : Nat} {keep : Nat → Prop} {xs : List α} {w0 w1 : World} (h : Iter P g lb encs c keep xs w0) (hb : Below w0.heap.size w0 w1) : Iter P g lb encs c keep xs w1 :=
  fun l J Jx W hW hJ hY h0 => h l J Jx W (hb.trans (hW.mono hb.size)) hJ hY h0

theorem boxed_far {W Y : World} {r b : Nat} {t : TypeId} {v : Value} {B : Nat} (h : Boxed W b t v) (hg : W.grownBy Y (some r)) (hr : B ≤ r ∧ ∃ o : Obj, W.heap[r]? = some o ∧ o.isCells = false) : Boxed Y b t v :=
  h.kept hg (fun e => by
    obtain rfl : b = r := by injection e
    obtain ⟨_, o, ho, hc⟩ := hr
    rw [show W.heap[b]? = _ from h] at ho; cases ho; cases hc)
theorem below_far {B n₀ : Nat} {w W Y : World} {r : Nat} (h : Below n₀ w W) (hn : n₀ ≤ w.heap.size) (hB : n₀ ≤ B) (hg : W.grownBy Y (some r)) (hr : B ≤ r) : Below n₀ w Y :=
  h.grown hg (Nat.le_trans hn h.size) (fun k e => by cases e; omega)

set_option maxHeartbeats 1000000 in
theorem in_calls (s : Int) (w : World) : Calls Tryd.prog 95 #[.int .u32 s] w fun e w' =>
    e = .returned (.func (.func 109) #[] #[.pointer (some ⟨w.heap.size, 0, none⟩)]) ∧ w' = w.alloc (.cells #[.int .u32 s] 24) := by
  go_enter Tryd.func95, Tryd.ntmps95
  go_wp2
  go_ret
  exact ⟨rfl, rfl⟩

def nextOf (s after : Int) : Int × Bool := match (listOf s).find? fun c => decide (after < c) with | some c => (c, true) | none => (0, false)
def cpuset_Next.f (a0 : Int) (a1 : Int) : Option (Int × Bool) := if 0 ≤ a0 ∧ a0 < 4294967296 then some (nextOf a0 a1) else none

theorem find_none_of {α : Type} (p : α → Bool) (l : List α) (h : ∀ x ∈ l, p x = false) : l.find? p = none := by
  rw [List.find?_eq_none]; intro x hx; simp [h x hx]
theorem find_some_of {α : Type} (p : α → Bool) (pre post : List α) (x : α) (h : ∀ y ∈ pre, p y = false) (hx : p x = true) : (pre ++ x :: post).find? p = some x := by
  rw [List.find?_append, find_none_of p pre h]; simp [hx]

set_option maxRecDepth 100000 in
set_option maxHeartbeats 2000000 in
theorem cpuset_Next.calls (a0 : Int) (a1 : Int) (r1 : Int) (r2 : Bool) (w : World) (hT : TabW w) (h : cpuset_Next.f a0 a1 = some (r1, r2)) :
    Calls Tryd.prog 104 #[.int .u32 a0, .int .i64 a1] w fun e w' => e = .returned (.tuple #[.int .i64 r1, .bool r2]) ∧ Below w.heap.size w w' := by
  unfold cpuset_Next.f at h
  by_cases hr : 0 ≤ a0 ∧ a0 < 4294967296
  case neg => rw [if_neg hr] at h; cases h
  rw [if_pos hr] at h
  have hN : nextOf a0 a1 = (r1, r2) := Option.some.inj h
  clear h
  obtain ⟨s, rfl⟩ : ∃ s : Nat, a0 = s := ⟨a0.toNat, by omega⟩
  have hs : s < 4294967296 := by omega
  clear hr
  have HN := Lib.hid hN
  clear hN
  refine (callsIn_wide (n := 9)).1 ?_
  refine callsIn_of_wp_marks Tryd.func104 rfl trivial ?_ rfl
  simp only [Tryd.ntmps104, List.size_toArray, List.length_cons, List.length_nil, Nat.reduceAdd, Nat.reduceSub, Array.replicate_succ, Array.replicate_zero, List.push_toArray, List.append_toArray, List.nil_append, List.cons_append]
  gi_wp2_with (refine ⟨trivial, ?_⟩; gi_at_call 95; refine (callsIn_wide.2 (in_calls s _)).mono ?_; rintro e w' ⟨rfl, rfl⟩)
  have b0 := Boxed.new w 3 (.int .i64 a1)
  have b1 := Boxed.new (w.alloc (.cells #[.int .i64 a1] 3)) 3 (.int .i64 0)
  have b2 := Boxed.new ((w.alloc (.cells #[.int .i64 a1] 3)).alloc (.cells #[.int .i64 0] 3)) 4 (.bool false)
  have b3 := Boxed.new (((w.alloc (.cells #[.int .i64 a1] 3)).alloc (.cells #[.int .i64 0] 3)).alloc (.cells #[.bool false] 4)) 24 (.int .u32 s)
  simp only [World.size_alloc] at b1 b2 b3
  have hB : Below w.heap.size w ((((w.alloc (.cells #[.int .i64 a1] 3)).alloc (.cells #[.int .i64 0] 3)).alloc (.cells #[.bool false] 4)).alloc (.cells #[.int .u32 s] 24)) :=
    ((((Below.refl _ w).alloc (Nat.le_refl _) _).alloc (by simp) _).alloc (by simp; omega) _).alloc (by simp; omega) _
  have hT1 := hT.step hB
  have hpos := hT.pos
  replace b0 := ((b0.alloc (.cells #[.int .i64 0] 3)).alloc (.cells #[.bool false] 4)).alloc (.cells #[.int .u32 s] 24)
  replace b1 := (b1.alloc (.cells #[.bool false] 4)).alloc (.cells #[.int .u32 s] 24)
  replace b2 := b2.alloc (.cells #[.int .u32 s] 24)
  have hit := in1_iter (w.heap.size + 1 + 1 + 1) s hs _ b3 hT1 (by omega)
  have hsz : ((((w.alloc (.cells #[.int .i64 a1] 3)).alloc (.cells #[.int .i64 0] 3)).alloc (.cells #[.bool false] 4)).alloc (.cells #[.int .u32 s] 24)).heap.size = w.heap.size + 4 := by simp
  obtain ⟨w4, hw4⟩ : ∃ w4, ((((w.alloc (.cells #[.int .i64 a1] 3)).alloc (.cells #[.int .i64 0] 3)).alloc (.cells #[.bool false] 4)).alloc (.cells #[.int .u32 s] 24)) = w4 := ⟨_, rfl⟩
  rw [hw4] at b0 b1 b2 b3 hB hT1 hit hsz ⊢
  clear hw4
  refine wpIn_range (gf := 109) (lb := #[.pointer (some ⟨w.heap.size + 1 + 1 + 1, 0, none⟩)]) rfl (enters_of Tryd.func109 (by kernel_rfl) rfl) hit (fun _ => rfl) (by omega) (fun k hk => by omega)
    (fun pre W => (∀ y ∈ pre, decide (a1 < y) = false) ∧ Boxed W w.heap.size 3 (.int .i64 a1) ∧ Boxed W (w.heap.size + 1) 3 (.int .i64 0) ∧ Boxed W (w.heap.size + 1 + 1) 4 (.bool false) ∧ Below w.heap.size w W)
    (fun j W => j = .ret ∧ ∃ c, nextOf s a1 = (c, true) ∧ Boxed W (w.heap.size + 1) 3 (.int .i64 c) ∧ Boxed W (w.heap.size + 1 + 1) 4 (.bool true) ∧ Below w.heap.size w W)
    ?calm ?calmx ⟨by simp, b0, b1, b2, hB⟩
    (fun pre x a' W => ((∀ y ∈ pre, decide (a1 < y) = false) ∧ Boxed W w.heap.size 3 (.int .i64 a1) ∧ Boxed W (w.heap.size + 1) 3 (.int .i64 0) ∧ Boxed W (w.heap.size + 1 + 1) 4 (.bool false) ∧ Below w.heap.size w W) ∧
      a' = { tmps := #[.int .u32 s, .int .i64 a1, undef, .pointer (some ⟨w.heap.size, 0, none⟩), .pointer (some ⟨w.heap.size + 1, 0, none⟩), .pointer (some ⟨w.heap.size + 1 + 1, 0, none⟩), .int .i64 x, .int .u32 s, .func (.func 109) #[] #[.pointer (some ⟨w.heap.size + 1 + 1 + 1, 0, none⟩)], .int .i64 x, undef, undef, undef, undef], defers := [] })
    ?calma ?assign ?body ?done ?stop
  case calm =>
    rintro pre X Y r ⟨h1, h2, h3, h4, h5⟩ hg (rfl | hr)
    · exact ⟨h1, h2.kept hg (by simp <;> omega), h3.kept hg (by simp <;> omega), h4.kept hg (by simp <;> omega), below_far h5 (Nat.le_refl _) (Nat.le_refl _) hg (by omega)⟩
    · exact ⟨h1, boxed_far h2 hg hr, boxed_far h3 hg hr, boxed_far h4 hg hr, below_far h5 (Nat.le_refl _) (B := w.heap.size) (Nat.le_refl _) hg (by omega)⟩
  case calmx =>
    rintro j X Y r ⟨h1, c, h2, h3, h4, h5⟩ hg hr
    exact ⟨h1, c, h2, boxed_far h3 hg hr, boxed_far h4 hg hr, below_far h5 (Nat.le_refl _) (B := w.heap.size) (Nat.le_refl _) hg (by omega)⟩
  case calma =>
    rintro ⟨pre, x, a'⟩ X Y r ⟨⟨h1, h2, h3, h4, h5⟩, h6⟩ hg hr
    exact ⟨⟨h1, boxed_far h2 hg hr, boxed_far h3 hg hr, boxed_far h4 hg hr, below_far h5 (Nat.le_refl _) (B := w.heap.size) (Nat.le_refl _) hg (by omega)⟩, h6⟩
  case assign =>
    intro l pre x rest W K hx hsz1 hI hK
    gi_wp2
    exact hK _ _ (KeepsFrom.refl _ _) (Same.refl _ _) ⟨hI, rfl⟩
  case body =>
    rintro l pre x rest a' W hx hsz1 ⟨⟨h1, h2, h3, h4, h5⟩, rfl⟩
    have c2 := h2.cell
    have c3 := h3.cell
    have f3 := h3.frozen
    have c4 := h4.cell
    have f4 := h4.frozen
    clear hB hit HN hT hT1
    by_cases hlt : a1 < x
    · gi_wp2
      have hf : nextOf s a1 = (x, true) := by
        unfold nextOf
        rw [hx, find_some_of _ pre rest x h1 (by simpa using hlt)]
      have hne : w.heap.size + 1 ≠ w.heap.size + 1 + 1 := by omega
      exact ⟨((KeepsOthers.setCell _ _ _).trans (KeepsOthers.setCell _ _ _)).from _, rfl, x, hf, (h3.set _).other hne _, (h4.other hne.symm _).set _, (h5.setCell (p := ⟨w.heap.size + 1, 0, none⟩) (by simp) _).setCell (p := ⟨w.heap.size + 1 + 1, 0, none⟩) (by simp; omega) _⟩
    · gi_wp2
      refine ⟨KeepsFrom.refl _ _, Same.refl _ _, fun y hy => ?_, h2, h3, h4, h5⟩
      rcases List.mem_append.1 hy with h | h
      · simpa using h1 y h
      · have : y = x := by simpa using h
        subst this; simpa using hlt
  case done =>
    rintro D W hD ⟨h1, h2, h3, h4, h5⟩ hK
    have c3 := h3.cell
    have f3 := h3.frozen
    have c4 := h4.cell
    have f4 := h4.frozen
    have hDw : w.heap.size ≤ D := by omega
    clear hB hit hT hT1 hsz b0 b1 b2 b3
    gi_wp2
    have hne : w.heap.size + 1 ≠ w.heap.size + 1 + 1 := by omega
    have hK' := ((KeepsOthers.setCell W ⟨w.heap.size + 1, 0, none⟩ (.int .i64 0)).trans (KeepsOthers.setCell _ ⟨w.heap.size + 1 + 1, 0, none⟩ (.bool false))).same D _ hK rfl
    refine ⟨by simp, .inl ⟨_, _, rfl, run_takeDeferred hK', ?_⟩⟩
    have n1 := boxed_far (B := 0) ((h3.set (.int .i64 0)).other hne (.bool false)) (grownBy_putObj' _ D (.deferred none)) ⟨Nat.zero_le _, _, hK', rfl⟩
    have n2 := boxed_far (B := 0) ((h4.other hne.symm (.int .i64 0)).set (.bool false)) (grownBy_putObj' _ D (.deferred none)) ⟨Nat.zero_le _, _, hK', rfl⟩
    have d1 := n1.cell
    have d2 := n2.cell
    have e1 : r1 = 0 ∧ r2 = false := by
      have hn := HN.out
      unfold nextOf at hn
      rw [find_none_of _ _ h1] at hn
      injection hn with e1 e2
      exact ⟨e1.symm, e2.symm⟩
    obtain ⟨rfl, rfl⟩ := e1
    refine ⟨.tuple #[.int .i64 0, .bool false], ?_, rfl, below_far ((h5.setCell (p := ⟨w.heap.size + 1, 0, none⟩) (by simp) _).setCell (p := ⟨w.heap.size + 1 + 1, 0, none⟩) (by simp; omega) _) (Nat.le_refl _) (B := w.heap.size) (Nat.le_refl _) (grownBy_putObj' _ D _) (by omega)⟩
    simp [results, Tryd.f104, go_sem, d1, d2]
  case stop =>
    rintro D j W hD ⟨rfl, c, hc, h3, h4, h5⟩ hK
    have hDw : w.heap.size ≤ D := by omega
    clear hB hit hT hT1 hsz b0 b1 b2 b3
    gi_wp2
    refine ⟨by simp, .inl ⟨_, _, rfl, run_takeDeferred hK, ?_⟩⟩
    have n1 := boxed_far (B := 0) h3 (grownBy_putObj' _ D (.deferred none)) ⟨Nat.zero_le _, _, hK, rfl⟩
    have n2 := boxed_far (B := 0) h4 (grownBy_putObj' _ D (.deferred none)) ⟨Nat.zero_le _, _, hK, rfl⟩
    have d1 := n1.cell
    have d2 := n2.cell
    obtain ⟨rfl, rfl⟩ : r1 = c ∧ r2 = true := by
      have hn := HN.out
      rw [hc] at hn
      injection hn with e1 e2
      exact ⟨e1.symm, e2.symm⟩
    refine ⟨.tuple #[.int .i64 r1, .bool true], ?_, rfl, below_far h5 (Nat.le_refl _) (B := w.heap.size) (Nat.le_refl _) (grownBy_putObj' _ D _) (by omega)⟩
    simp [results, Tryd.f104, go_sem, d1, d2]

theorem gb_below {a b d : World} {r : Option Nat} (h : a.grownBy b r) (k : Below a.heap.size b d) : a.grownBy d r :=
  ⟨k.os.trans h.os, k.tape.trans h.tape, k.output.trans h.output, Nat.le_trans h.size k.size, fun i hi hne => (k.block i hi).trans (h.block i hi hne)⟩
theorem ownsRow_lower {w : World} {base b : Nat} {e : TypeId} {size : Nat} {v : Value} {n : Nat} {xs : List Value} (h : w.ownsRow base e size v n xs) (hb : b ≤ base) : w.ownsRow b e size v n xs := by
  obtain ⟨h1, h2⟩ := h
  refine ⟨h1, ?_⟩
  rcases h2 with h2 | ⟨g, cap, cur, hv, hg, r⟩
  · exact .inl h2
  · exact .inr ⟨g, cap, cur, hv, by omega, r⟩
theorem infoInt : (Tryd.prog.info? 3).map (fun i => (i.zero, i.size, i.bytes)) = some (some (.int .i64 0), 1, 8) := by kernel_rfl

set_option maxRecDepth 100000 in
set_option maxHeartbeats 2000000 in
theorem appendSeq_calls (gf : Nat) (lb : Array Value) (c : Nat) (keep : Nat → Prop) (xs : List Int) (w : World) (hit : Iter Tryd.prog gf lb (fun x : Int => #[.int .i64 x]) c keep xs w) (hc : c < w.heap.size) (hkeep : ∀ k, keep k → k < w.heap.size) (hlen : xs.length ≤ 8)
    (eg : ∀ args w, (callFunc gf args).run Tryd.prog w = .ok (.enter gf args) w) :
    Calls Tryd.prog 108 #[.slice none 0 0, .func (.func gf) #[] lb] w fun e w' => ∃ v, e = .returned v ∧ w'.ownsRow w.heap.size 3 1 v xs.length (xs.map (Value.int .i64)) ∧ w.grownBy w' (some c) := by
  obtain ⟨i0, hi, hz0, hz1, hz2⟩ := info_parts infoInt
  have HL := Lib.hid hlen
  clear hlen
  refine (callsIn_wide (n := 9)).1 ?_
  refine callsIn_of_wp_marks Tryd.func108 rfl trivial ?_ rfl
  simp only [Tryd.ntmps108, List.size_toArray, List.length_cons, List.length_nil, Nat.reduceAdd, Nat.reduceSub, Array.replicate_succ, Array.replicate_zero, List.push_toArray, List.append_toArray, List.nil_append, List.cons_append]
  gi_wp2
  have b0 := Boxed.new w 42 (.slice none 0 0)
  have hB : Below w.heap.size w (w.alloc (.cells #[.slice none 0 0] 42)) := (Below.refl _ w).alloc (Nat.le_refl _) _
  have hsz : (w.alloc (.cells #[.slice none 0 0] 42)).heap.size = w.heap.size + 1 := by simp
  replace hit := Iter.later hit hB
  obtain ⟨w1, hw1⟩ : ∃ w1, w.alloc (.cells #[.slice none 0 0] 42) = w1 := ⟨_, rfl⟩
  rw [hw1] at b0 hB hsz hit ⊢
  clear hw1
  refine wpIn_range (gf := gf) (lb := lb) rfl eg hit (fun _ => rfl) (by omega) (fun k hk => by have := hkeep k hk; omega)
    (fun pre W => (∃ v, Boxed W w.heap.size 42 v ∧ W.ownsRow w.heap.size 3 1 v pre.length (pre.map (Value.int .i64))) ∧ w.grownBy W (some c))
    (fun _ _ => False)
    ?calm (fun _ _ _ _ h _ _ => h.elim) ⟨⟨_, b0, World.ownsRow_nil _ _ _ _⟩, gb_of_below hB _⟩
    (fun pre x a' W => ((∃ v, Boxed W w.heap.size 42 v ∧ W.ownsRow w.heap.size 3 1 v pre.length (pre.map (Value.int .i64))) ∧ w.grownBy W (some c)) ∧
      a' = { tmps := #[.slice none 0 0, .func (.func gf) #[] lb, .pointer (some ⟨w.heap.size, 0, none⟩), undef, .slice none 0 0, .int .i64 x, .func (.func gf) #[] lb, .int .i64 x, undef, undef, undef, undef, undef], defers := [] })
    ?calma ?assign ?body ?done (fun _ _ _ _ h _ => h.elim)
  case calm =>
    rintro pre X Y r ⟨⟨v, h1, h2⟩, h3⟩ hg hr
    have hne : w.heap.size ≠ r := by
      rcases hr with rfl | ⟨_, o, ho, hcl⟩
      · omega
      · intro e; subst e; rw [show X.heap[_]? = _ from h1] at ho; cases ho; cases hcl
    refine ⟨⟨v, h1.kept hg (fun e => hne (by injection e)), h2.kept hg ?_⟩, gb_trans h3 hg (fun j e => by cases e; rcases hr with rfl | ⟨h, _⟩ <;> omega)⟩
    rcases h2.2 with ⟨rfl, _⟩ | ⟨g, cap, cur, rfl, hgb, hgc, _⟩
    · exact .inl rfl
    · refine .inr (fun e => ?_)
      obtain rfl : g = r := by simpa [Value.ownBlock] using e
      rcases hr with rfl | ⟨_, o, ho, hcl⟩
      · omega
      · rw [hgc] at ho; cases ho; cases hcl
  case calma =>
    rintro ⟨pre, x, a'⟩ X Y r ⟨⟨⟨v, h1, h2⟩, h3⟩, h4⟩ hg hr
    refine ⟨⟨⟨v, boxed_far h1 hg hr, h2.kept hg ?_⟩, gb_trans h3 hg (fun j e => by cases e; omega)⟩, h4⟩
    rcases h2.2 with ⟨rfl, _⟩ | ⟨g, cap, cur, rfl, hgb, hgc, _⟩
    · exact .inl rfl
    · refine .inr (fun e => ?_)
      obtain rfl : g = r := by simpa [Value.ownBlock] using e
      obtain ⟨_, o, ho, hcl⟩ := hr
      rw [hgc] at ho; cases ho; cases hcl
  case assign =>
    intro l pre x rest W K hx hsz1 hI hK
    gi_wp2
    exact hK _ _ (KeepsFrom.refl _ _) (Same.refl _ _) ⟨hI, rfl⟩
  case body =>
    rintro l pre x rest a' W hx hsz1 ⟨⟨⟨v, hv, hrow⟩, hB3⟩, rfl⟩
    have c0 := hv.cell
    have hpl : pre.length < 8 := by have := HL.out; rw [hx] at this; simp at this; omega
    have hW := hB3.size
    have HX := Lib.hid hx
    clear hB hit hx
    gi_wp2_with (gi_at_builtin; refine wpListIn_append_own _ rfl _ _ 42 rfl w.heap.size 3 i0 (.int .i64 0) 1 8 Tryd.underlying42 hi hz0 hz1 hz2 rfl (by decide) _ _ _ rfl (hrow.alloc _) ⟨W.heap.size, 0, none⟩ 1 1 [.int .i64 x] rfl rfl (cell_one_new _ _ _) (by simp [Value.oneCell']) (by unfold maxLen; omega) (by omega) (by simp; omega) ?_; intro v' w2 hown' hgrow _; obtain ⟨g', cap', rfl⟩ := ownsRow_succ hown'; obtain ⟨hv1, hv2, hr2, hk2, hb2⟩ := hv.appended (by decide) hrow hW (Nat.le_refl _) hown' hgrow; have hc1 := hv1.cell; have hf1 := hv1.frozen)
    have hsame : ∀ k, keep k → (w2.setCell ⟨w.heap.size, 0, none⟩ (.slice (some ⟨g', 0, none⟩) (pre.length + 1) cap')).heap[k]? = W.heap[k]? := fun k hk => hb2.block k (hkeep k hk)
    exact ⟨hk2.from _, hsame, ⟨_, hv2, by simpa using hr2⟩, gb_below hB3 hb2⟩
  case done =>
    rintro D W hD ⟨⟨v, hv, hrow⟩, hB3⟩ hK
    have hc0 := hv.cell
    clear hB hit
    gi_wp2
    refine ⟨by simp, .inl ⟨_, _, rfl, run_takeDeferred hK, ?_⟩⟩
    exact ⟨_, results_tmp rfl _ _ _, v, rfl, ownsRow_putObj hrow _ hK rfl, gb_trans hB3 (grownBy_putObj' _ D _) (fun j e => by cases e; omega)⟩

set_option maxHeartbeats 1000000 in
theorem collect_calls (gf : Nat) (lb : Array Value) (c : Nat) (keep : Nat → Prop) (xs : List Int) (w : World) (hit : Iter Tryd.prog gf lb (fun x : Int => #[.int .i64 x]) c keep xs w) (hc : c < w.heap.size) (hkeep : ∀ k, keep k → k < w.heap.size) (hlen : xs.length ≤ 8)
    (eg : ∀ args w, (callFunc gf args).run Tryd.prog w = .ok (.enter gf args) w) :
    Calls Tryd.prog 94 #[.func (.func gf) #[] lb] w fun e w' => ∃ v, e = .returned v ∧ w'.ownsRow w.heap.size 3 1 v xs.length (xs.map (Value.int .i64)) ∧ w.grownBy w' (some c) := by
  go_enter Tryd.func94, Tryd.ntmps94
  go_wp2_with (go_at_call 108; refine (appendSeq_calls gf lb c keep xs w hit hc hkeep hlen eg).mono ?_; rintro e w' ⟨v, rfl, h1, h2⟩)
  go_ret
  exact ⟨v, rfl, h1, h2⟩

def cpuset_List.f (a0 : Int) : Option (List Int) := if 0 ≤ a0 ∧ a0 < 4294967296 then some (listOf a0) else none
theorem listOf_len (s : Int) : (listOf s).length ≤ 8 := by
  unfold listOf
  rw [List.length_map]
  have := List.length_filter_le (fun c => s.toNat.testBit c) (List.range 8)
  simpa using this

set_option maxHeartbeats 1000000 in
theorem cpuset_List.calls (a0 : Int) (r : List Int) (w : World) (hT : TabW w) (h : cpuset_List.f a0 = some r) :
    Calls Tryd.prog 68 #[.int .u32 a0] w fun e w' => ∃ v0_ : Value, e = .returned (v0_) ∧ Kd.R (Kd.int .i64) 3 w' w.heap.size (fun _ => True) v0_ r ∧ Below w.heap.size w w' := by
  unfold cpuset_List.f at h
  by_cases hr : 0 ≤ a0 ∧ a0 < 4294967296
  case neg => rw [if_neg hr] at h; cases h
  rw [if_pos hr] at h
  obtain rfl : listOf a0 = r := Option.some.inj h
  clear h
  obtain ⟨s, rfl⟩ : ∃ s : Nat, a0 = s := ⟨a0.toNat, by omega⟩
  have hs : s < 4294967296 := by omega
  clear hr
  have b0 := Boxed.new w 24 (.int .u32 s)
  have hB : Below w.heap.size w (w.alloc (.cells #[.int .u32 s] 24)) := (Below.refl _ w).alloc (Nat.le_refl _) _
  have hit := in1_iter w.heap.size s hs _ b0 (hT.step hB) hT.pos
  have hpos := hT.pos
  have C := collect_calls 109 #[.pointer (some ⟨w.heap.size, 0, none⟩)] w.heap.size _ (listOf s) _ hit (by simp) (fun k hk => by simp; omega) (listOf_len _) (enters_of Tryd.func109 (by kernel_rfl) rfl)
  have HC := Lib.hid C
  clear C hit b0 hT
  go_enter Tryd.func68, Tryd.ntmps68
  go_wp2_with (first
    | (go_at_call 95; refine (in_calls s _).mono ?_; rintro e w' ⟨rfl, rfl⟩)
    | (go_at_call 94; refine HC.out.mono ?_; rintro e w' ⟨v, rfl, h1, h2⟩))
  go_ret
  refine ⟨v, rfl, Kd.R_of_own ?_ (fun _ _ => trivial), ?_⟩
  · have := ownsRow_lower h1 (b := w.heap.size) (by simp)
    exact this
  · exact ⟨h2.os.trans hB.os, h2.tape.trans hB.tape, h2.output.trans hB.output, Nat.le_trans hB.size h2.size, fun k hk => (h2.block k (by simp; omega) (fun e => by cases e; omega)).trans (hB.block k hk)⟩

end Go.Proofs.YtdmieaidheelbaaDoor.Q
end
/- QMb -/
section
namespace Go.Proofs.YtdmieaidheelbaaDoor.Q
open Go.RowKit Go.Proofs.YtdmieaidheelbaaDoorW.PrintWords Go.Proofs.YtdmieaidheelbaaDoorW.PrintLast Go.Proofs.YtdmieaidheelbaaDoorW.PrintMore
attribute [local go_sem] max2_int min2_int max_two min_two max_three min_three max_four min_four
set_option linter.unusedVariables false
set_option linter.unusedSimpArgs false

def mask_Best.f (k : Nat) (a0_0 : Int) (a0_1 : Int) (a1 : Int) (a2 : Int) : Option (Int × Bool) := (mask_Allows.f k a0_0 a0_1 a1).bind fun t799 => ((cpuset_Has.f t799 a2).bind fun t800 => (if t800 = true then (some (a2, true)) else ((mask_Likes.f k a0_0 a0_1 a1).bind fun t801 => ((cpuset_Next.f t801 (-1)).bind fun bt802 => (some (bt802.1, bt802.2))))))
set_option maxHeartbeats 8000000 in
set_option maxRecDepth 100000 in
theorem mask_Best.calls (k : Nat) (a0_0 : Int) (a0_1 : Int) (a1 : Int) (a2 : Int) (r1 : Int) (r2 : Bool) (w : World) (hT : TabW w) (h : mask_Best.f k a0_0 a0_1 a1 a2 = some (r1, r2)) :
  Calls Tryd.prog 89 #[.agg #[.int .u32 a0_0, .int .u32 a0_1], .int .u32 a1, .int .i64 a2] w fun e w' => e = .returned (.tuple #[.int .i64 r1, .bool r2]) ∧ Below w.heap.size w w' := by
 have HT := Aside0.mk hT
 clear hT
 have hu34 := Tryd.underlying34
 have HB := Aside0.mk (Below.refl w.heap.size w)
 have H : ((mask_Allows.f k a0_0 a0_1 a1).bind fun t799 => ((cpuset_Has.f t799 a2).bind fun t800 => (if t800 = true then (some (a2, true)) else ((mask_Likes.f k a0_0 a0_1 a1).bind fun t801 => ((cpuset_Next.f t801 (-1)).bind fun bt802 => (some (bt802.1, bt802.2))))))) = some (r1, r2) := h
 clear h
 replace H := Option.bind_eq_some_iff.mp H
 obtain ⟨t799, A40, H⟩ := H
 replace H : ((cpuset_Has.f t799 a2).bind fun t800 => (if t800 = true then (some (a2, true)) else ((mask_Likes.f k a0_0 a0_1 a1).bind fun t801 => ((cpuset_Next.f t801 (-1)).bind fun bt802 => (some (bt802.1, bt802.2)))))) = some (r1, r2) := H
 have A4 := Aside0.mk A40
 clear A40
 replace H := Option.bind_eq_some_iff.mp H
 obtain ⟨t800, A50, H⟩ := H
 replace H : (if t800 = true then (some (a2, true)) else ((mask_Likes.f k a0_0 a0_1 a1).bind fun t801 => ((cpuset_Next.f t801 (-1)).bind fun bt802 => (some (bt802.1, bt802.2))))) = some (r1, r2) := H
 have A5 := Aside0.mk A50
 clear A50
 by_cases c6 : t800 = true
 ·subst c6
  have H1 : (some (a2, true)) = some (r1, r2) := by rw [if_pos rfl] at H; exact H
  clear H
  have H := H1
  clear H1
  simp only [Option.some.injEq, Prod.mk.injEq] at H
  obtain ⟨rfl, rfl⟩ := H
  go_enter Tryd.func89, Tryd.ntmps89
  go_wp2_with (first | ((with_reducible refine gate_dst (N := 3) rfl ?_); refine box_event ?hg (N := 3) ?hd (cs := #[.int .u32 a0_0, .int .u32 a0_1]) (t := 34) ?hr ?_; (case hd => rfl); (case hg => rfl); (case hr => first | (go_simp; done) | (go_simp; rfl)); intro gb798 hg w7 hbox hb; have n0_ := Aside0.mk (below_step (by repeat (first | (with_reducible first | exact HB.out | apply below_alloc | apply pw_below_drewN | apply below_drew1) | exact HB.out)) hb); have n1_ := Aside0.mk (hbox); have n2_ := Aside0.mk ((by rw [hg]; exact (below_size (by repeat (first | (with_reducible first | exact HB.out | apply below_alloc | apply pw_below_drewN | apply below_drew1) | exact HB.out))) : w.heap.size ≤ gb798)); have n3_ := Aside0.mk ((by rw [hg]; exact (below_size (by repeat (first | (with_reducible first | exact HB.out | apply below_alloc | apply pw_below_drewN | apply below_drew1) | exact HB.out))) : w.heap.size ≤ gb798)); clear HB; have HB := n0_; have BK798 := n1_; have GW798 := n2_; have GE798 := n3_; clear n0_ n1_ n2_ n3_; clear hb hbox hg; have hcz8_0 : w7.cell? ⟨gb798, 0, none⟩ = some (.int .u32 a0_0) := (blk_cell BK798.out 0).trans rfl; have hcz8_1 : w7.cell? ⟨gb798, 1, none⟩ = some (.int .u32 a0_1) := (blk_cell BK798.out 1).trans rfl; have hfz8_0 := blk_frozen BK798.out 0; have hfz8_1 := blk_frozen BK798.out 1) | ((with_reducible refine gate_callee (f := 22) rfl ?_); refine goesL_ (some 10) rfl rfl Tryd.func22 (by kernel_rfl) rfl #[.agg #[.int .u32 a0_0, .int .u32 a0_1], .int .u32 a1] rfl (by (try simp only [List.map_toArray, List.map_cons, List.map_nil]); first | done | rfl | (simp only [List.length_drop, List.length_take]; rfl)) ?_; (with_reducible refine (mask_Allows.calls k a0_0 a0_1 a1 t799 _ A4.out).mono ?_); rintro e w9 ⟨rfl, hb⟩; refine ⟨_, rfl, ?_⟩; have n0_ := Aside0.mk (blk_below (g := gb798) (o := .cells #[.int .u32 a0_0, .int .u32 a0_1] 34 (0, 0)) (by (with_reducible repeat (first | refine blk_drewN ?_ _ | refine blk_drew ?_ | refine blk_alloc ?_ _)); exact BK798.out) hb); have n1_ := Aside0.mk (below_step (by repeat (first | (with_reducible first | exact HB.out | apply below_alloc | apply pw_below_drewN | apply below_drew1 | refine below_set ?_ GE798.out) | exact HB.out)) hb); clear BK798; clear HB; have BK798 := n0_; have HB := n1_; clear n0_ n1_; (try clear hb); (try clear hb2); (try clear hk); (try clear hi)) | ((with_reducible refine gate_callee (f := 21) rfl ?_); refine goesL_ (some 12) rfl rfl Tryd.func21 (by kernel_rfl) rfl #[.int .u32 t799, .int .i64 a2] rfl (by (try simp only [List.map_toArray, List.map_cons, List.map_nil]); first | done | rfl | (simp only [List.length_drop, List.length_take]; rfl)) ?_; (with_reducible refine (cpuset_Has.calls t799 a2 true _ A5.out).mono ?_); rintro e w' ⟨rfl, ⟨nd, rfl⟩⟩; refine ⟨_, rfl, ?_⟩))
  go_ret2
  exact ⟨by first | rfl | (simp [errW_none, errW_some] <;> rfl) | (simp [*, errW_none, errW_some] <;> rfl), by repeat (first | (with_reducible first | exact HB.out | apply below_alloc | apply pw_below_drewN | apply below_drew1 | refine below_set ?_ GE798.out) | exact HB.out)⟩
 ·replace c6 := Bool.eq_false_iff.mpr c6
  subst c6
  have H1 : ((mask_Likes.f k a0_0 a0_1 a1).bind fun t801 => ((cpuset_Next.f t801 (-1)).bind fun bt802 => (some (bt802.1, bt802.2)))) = some (r1, r2) := by rw [if_neg (show ¬ (false = true) by decide)] at H; exact H
  clear H
  have H := H1
  clear H1
  replace H := Option.bind_eq_some_iff.mp H
  obtain ⟨t801, A100, H⟩ := H
  replace H : ((cpuset_Next.f t801 (-1)).bind fun bt802 => (some (bt802.1, bt802.2))) = some (r1, r2) := H
  have A10 := Aside0.mk A100
  clear A100
  replace H := Option.bind_eq_some_iff.mp H
  obtain ⟨⟨t802, t803⟩, A110, H⟩ := H
  replace H : (some (t802, t803)) = some (r1, r2) := H
  have A11 := Aside0.mk A110
  clear A110
  simp only [Option.some.injEq, Prod.mk.injEq] at H
  obtain ⟨rfl, rfl⟩ := H
  go_enter Tryd.func89, Tryd.ntmps89
  go_wp2_with (first | ((with_reducible refine gate_dst (N := 3) rfl ?_); refine box_event ?hg (N := 3) ?hd (cs := #[.int .u32 a0_0, .int .u32 a0_1]) (t := 34) ?hr ?_; (case hd => rfl); (case hg => rfl); (case hr => first | (go_simp; done) | (go_simp; rfl)); intro gb798 hg w12 hbox hb; have n0_ := Aside0.mk (below_step (by repeat (first | (with_reducible first | exact HB.out | apply below_alloc | apply pw_below_drewN | apply below_drew1) | exact HB.out)) hb); have n1_ := Aside0.mk (hbox); have n2_ := Aside0.mk ((by rw [hg]; exact (below_size (by repeat (first | (with_reducible first | exact HB.out | apply below_alloc | apply pw_below_drewN | apply below_drew1) | exact HB.out))) : w.heap.size ≤ gb798)); have n3_ := Aside0.mk ((by rw [hg]; exact (below_size (by repeat (first | (with_reducible first | exact HB.out | apply below_alloc | apply pw_below_drewN | apply below_drew1) | exact HB.out))) : w.heap.size ≤ gb798)); clear HB; have HB := n0_; have BK798 := n1_; have GW798 := n2_; have GE798 := n3_; clear n0_ n1_ n2_ n3_; clear hb hbox hg; have hcz13_0 : w12.cell? ⟨gb798, 0, none⟩ = some (.int .u32 a0_0) := (blk_cell BK798.out 0).trans rfl; have hcz13_1 : w12.cell? ⟨gb798, 1, none⟩ = some (.int .u32 a0_1) := (blk_cell BK798.out 1).trans rfl; have hfz13_0 := blk_frozen BK798.out 0; have hfz13_1 := blk_frozen BK798.out 1) | ((with_reducible refine gate_callee (f := 22) rfl ?_); refine goesL_ (some 10) rfl rfl Tryd.func22 (by kernel_rfl) rfl #[.agg #[.int .u32 a0_0, .int .u32 a0_1], .int .u32 a1] rfl (by (try simp only [List.map_toArray, List.map_cons, List.map_nil]); first | done | rfl | (simp only [List.length_drop, List.length_take]; rfl)) ?_; (with_reducible refine (mask_Allows.calls k a0_0 a0_1 a1 t799 _ A4.out).mono ?_); rintro e w14 ⟨rfl, hb⟩; refine ⟨_, rfl, ?_⟩; have n0_ := Aside0.mk (blk_below (g := gb798) (o := .cells #[.int .u32 a0_0, .int .u32 a0_1] 34 (0, 0)) (by (with_reducible repeat (first | refine blk_drewN ?_ _ | refine blk_drew ?_ | refine blk_alloc ?_ _)); exact BK798.out) hb); have n1_ := Aside0.mk (below_step (by repeat (first | (with_reducible first | exact HB.out | apply below_alloc | apply pw_below_drewN | apply below_drew1 | refine below_set ?_ GE798.out) | exact HB.out)) hb); clear BK798; clear HB; have BK798 := n0_; have HB := n1_; clear n0_ n1_; (try clear hb); (try clear hb2); (try clear hk); (try clear hi)) | ((with_reducible refine gate_callee (f := 21) rfl ?_); refine goesL_ (some 12) rfl rfl Tryd.func21 (by kernel_rfl) rfl #[.int .u32 t799, .int .i64 a2] rfl (by (try simp only [List.map_toArray, List.map_cons, List.map_nil]); first | done | rfl | (simp only [List.length_drop, List.length_take]; rfl)) ?_; (with_reducible refine (cpuset_Has.calls t799 a2 false _ A5.out).mono ?_); rintro e w' ⟨rfl, ⟨nd, rfl⟩⟩; refine ⟨_, rfl, ?_⟩; have hcz15_0 : w14.cell? ⟨gb798, 0, none⟩ = some (.int .u32 a0_0) := (blk_cell BK798.out 0).trans rfl; have hcz15_1 : w14.cell? ⟨gb798, 1, none⟩ = some (.int .u32 a0_1) := (blk_cell BK798.out 1).trans rfl; have hfz15_0 := blk_frozen BK798.out 0; have hfz15_1 := blk_frozen BK798.out 1) | ((with_reducible refine gate_callee (f := 86) rfl ?_); refine goesL_ (some 16) rfl rfl Tryd.func86 (by kernel_rfl) rfl #[.agg #[.int .u32 a0_0, .int .u32 a0_1], .int .u32 a1] rfl (by (try simp only [List.map_toArray, List.map_cons, List.map_nil]); first | done | rfl | (simp only [List.length_drop, List.length_take]; rfl)) ?_; (with_reducible refine (mask_Likes.calls k a0_0 a0_1 a1 t801 _ A10.out).mono ?_); rintro e w16 ⟨rfl, hb⟩; refine ⟨_, rfl, ?_⟩; have n0_ := Aside0.mk (blk_below (g := gb798) (o := .cells #[.int .u32 a0_0, .int .u32 a0_1] 34 (0, 0)) (by (with_reducible repeat (first | refine blk_drewN ?_ _ | refine blk_drew ?_ | refine blk_alloc ?_ _)); exact BK798.out) hb); have n1_ := Aside0.mk (below_step (by repeat (first | (with_reducible first | exact HB.out | apply below_alloc | apply pw_below_drewN | apply below_drew1 | refine below_set ?_ GE798.out) | exact HB.out)) hb); clear BK798; clear HB; have BK798 := n0_; have HB := n1_; clear n0_ n1_; (try clear hb); (try clear hb2); (try clear hk); (try clear hi)) | ((with_reducible refine gate_callee (f := 104) rfl ?_); refine goesL_ (some 17) rfl rfl Tryd.func104 (by kernel_rfl) rfl #[.int .u32 t801, .int .i64 (-1)] rfl (by (try simp only [List.map_toArray, List.map_cons, List.map_nil]); first | done | rfl | (simp only [List.length_drop, List.length_take]; rfl)) ?_; (with_reducible refine (cpuset_Next.calls t801 (-1) t802 t803 _ ?tb A11.out).mono ?_); (case tb => exact HT.out.step (by repeat (first | (with_reducible first | exact HB.out | apply below_alloc | apply pw_below_drewN | apply below_drew1 | refine below_set ?_ GE798.out) | exact HB.out))); rintro e w17 ⟨rfl, hb⟩; refine ⟨_, rfl, ?_⟩; have n0_ := Aside0.mk (blk_below (g := gb798) (o := .cells #[.int .u32 a0_0, .int .u32 a0_1] 34 (0, 0)) (by (with_reducible repeat (first | refine blk_drewN ?_ _ | refine blk_drew ?_ | refine blk_alloc ?_ _)); exact BK798.out) hb); have n1_ := Aside0.mk (below_step (by repeat (first | (with_reducible first | exact HB.out | apply below_alloc | apply pw_below_drewN | apply below_drew1 | refine below_set ?_ GE798.out) | exact HB.out)) hb); clear BK798; clear HB; have BK798 := n0_; have HB := n1_; clear n0_ n1_; (try clear hb); (try clear hb2); (try clear hk); (try clear hi)))
  go_ret2
  exact ⟨by first | rfl | (simp [errW_none, errW_some] <;> rfl) | (simp [*, errW_none, errW_some] <;> rfl), by repeat (first | (with_reducible first | exact HB.out | apply below_alloc | apply pw_below_drewN | apply below_drew1 | refine below_set ?_ GE798.out) | exact HB.out)⟩

end Go.Proofs.YtdmieaidheelbaaDoor.Q
end
/- Masks -/
section
/- What the printed functions of cpuset and mask answer, over natural numbers: plain Lean. -/
namespace Go.Proofs.YtdmieaidheelbaaDoor.Q
open Go Go.RowKit Go.Proofs.YtdmieaidheelbaaDoorW.PrintWords Go.Proofs.YtdmieaidheelbaaDoorW.PrintLast Go.Proofs.YtdmieaidheelbaaDoorW.PrintMore
set_option linter.unusedVariables false
set_option linter.unusedSimpArgs false

theorem wrap_small (n : Int) (h0 : -9223372036854775808 ≤ n) (h1 : n ≤ 9223372036854775807) : wrap64 n = n := by unfold wrap64; omega

theorem andNot_nat (a b : Nat) (ha : a < 4294967296) (hb : b < 256) : bits .andNot .u32 (a : Int) (b : Int) = ((a &&& (4294967295 - b) : Nat) : Int) := u32_andNot_nat a b ha (by omega)
def minus (a b : Nat) : Nat := a &&& (255 - b)
theorem testBit_255sub (b c : Nat) (hb : b < 256) (hc : c < 8) : (255 - b).testBit c = !b.testBit c := by
  have h := Nat.testBit_two_pow_sub_succ (n := 8) (x := b) (by omega) c
  rw [show 2 ^ 8 - (b + 1) = 255 - b by omega] at h
  rw [h]; simp [hc]
theorem testBit_max_sub (b c : Nat) (hb : b < 4294967296) (hc : c < 32) : (4294967295 - b).testBit c = !b.testBit c := by
  have h := Nat.testBit_two_pow_sub_succ (n := 32) (x := b) (by omega) c
  rw [show 2 ^ 32 - (b + 1) = 4294967295 - b by omega] at h
  rw [h]; simp [hc]
theorem testBit_high (a c : Nat) (ha : a < 256) (hc : 8 ≤ c) : a.testBit c = false := by
  have h : 2 ^ 8 ≤ 2 ^ c := Nat.pow_le_pow_right (by decide) hc
  exact Nat.testBit_lt_two_pow (by omega)
theorem eq_of_bits (a b : Nat) (ha : a < 256) (hb : b < 256) (h : ∀ c, c < 8 → a.testBit c = b.testBit c) : a = b := by
  refine Nat.eq_of_testBit_eq fun c => ?_
  rcases Nat.lt_or_ge c 8 with hc | hc
  · exact h c hc
  · rw [testBit_high a c ha hc, testBit_high b c hb hc]
theorem andNot_byte (a b : Nat) (ha : a < 256) (hb : b < 256) : bits .andNot .u32 (a : Int) (b : Int) = ((minus a b : Nat) : Int) := by
  rw [andNot_nat a b (by omega) hb]
  congr 1
  have h1 : a &&& (4294967295 - b) < 256 := Nat.lt_of_le_of_lt Nat.and_le_left ha
  have h2 : minus a b < 256 := Nat.lt_of_le_of_lt Nat.and_le_left ha
  refine eq_of_bits _ _ h1 h2 fun c hc => ?_
  unfold minus
  rw [Nat.testBit_and, Nat.testBit_and, testBit_max_sub b c (by omega) (by omega), testBit_255sub b c hb hc]
theorem minus_lt (a b : Nat) (ha : a < 256) : minus a b < 256 := Nat.lt_of_le_of_lt Nat.and_le_left ha
theorem minus_bit (a b c : Nat) (hb : b < 256) (hc : c < 8) : (minus a b).testBit c = (a.testBit c && !b.testBit c) := by
  unfold minus; rw [Nat.testBit_and, testBit_255sub b c hb hc]
theorem and_lt256 (a b : Nat) (ha : a < 256) : a &&& b < 256 := Nat.lt_of_le_of_lt Nat.and_le_left ha
theorem or_lt256 (a b : Nat) (ha : a < 256) (hb : b < 256) : a ||| b < 256 := by
  have := Nat.or_lt_two_pow (n := 8) (x := a) (y := b) (by omega) (by omega); simpa using this
theorem and_nat (a b : Nat) (ha : a < 4294967296) (hb : b < 4294967296) : bits .and .u32 (a : Int) (b : Int) = ((a &&& b : Nat) : Int) := u32_and_nat a b ha hb
theorem or_nat (a b : Nat) (ha : a < 4294967296) (hb : b < 4294967296) : bits .or .u32 (a : Int) (b : Int) = ((a ||| b : Nat) : Int) := u32_or_nat a b ha hb
theorem shl_one (c : Nat) (hc : c < 8) : shl .u32 1 (c : Int) = ((2 ^ c : Nat) : Int) := by
  have : c = 0 ∨ c = 1 ∨ c = 2 ∨ c = 3 ∨ c = 4 ∨ c = 5 ∨ c = 6 ∨ c = 7 := by omega
  rcases this with rfl | rfl | rfl | rfl | rfl | rfl | rfl | rfl <;> decide +kernel
theorem pow_lt256 (c : Nat) (hc : c < 8) : 2 ^ c < 256 := by
  have := Nat.pow_lt_pow_right (a := 2) (by omega) hc; simpa using this
theorem pow_bit (c d : Nat) : (2 ^ c).testBit d = decide (c = d) := Nat.testBit_two_pow

theorem hi_zero (s : Nat) (hs : s < 4294967296) : (bits .andNot .u32 (s : Int) 255 = 0) ↔ s < 256 := by
  have e : bits .andNot .u32 (s : Int) 255 = ((s &&& 4294967040 : Nat) : Int) := andNot_nat s 255 hs (by omega)
  rw [e]
  have hd : s = s % 256 + 256 * (s / 256) := by omega
  have hk : s &&& 4294967040 = 256 * (s / 256) := by
    refine Nat.eq_of_testBit_eq fun c => ?_
    rw [Nat.testBit_and, show (4294967040 : Nat) = 4294967295 - 255 by rfl]
    rcases Nat.lt_or_ge c 32 with hc | hc
    · rw [testBit_max_sub 255 c (by omega) hc]
      rw [show (256 : Nat) * (s / 256) = 2 ^ 8 * (s / 2 ^ 8) by simp, Nat.testBit_two_pow_mul, Nat.testBit_div_two_pow]
      rcases Nat.lt_or_ge c 8 with h8 | h8
      · rw [testBit_255 c h8]; simp; omega
      · rw [testBit_high 255 c (by omega) h8]; simp [h8, show c - 8 + 8 = c by omega]
    · have h1 : s.testBit c = false := Nat.testBit_lt_two_pow (Nat.lt_of_lt_of_le (show s < 2 ^ 32 by omega) (Nat.pow_le_pow_right (by omega) hc))
      rw [h1]
      have h2 : (256 * (s / 256)).testBit c = false := Nat.testBit_lt_two_pow (Nat.lt_of_lt_of_le (show 256 * (s / 256) < 2 ^ 32 by omega) (Nat.pow_le_pow_right (by omega) hc))
      rw [h2]; rfl
  rw [hk]; omega
theorem Check_val (s : Nat) (hs : s < 4294967296) : cpuset_Check.f (s : Int) = some (if s < 256 then 0 else 140) := by
  unfold cpuset_Check.f
  by_cases h : s < 256
  · rw [if_pos ((hi_zero s hs).2 h), if_pos h]
  · rw [if_neg (fun e => h ((hi_zero s hs).1 e)), if_neg h]

def maskOk (h s : Nat) : Bool := decide (h < 256) && decide (s < 256) && decide (h ≠ 0)
def Wf34 (m : S34) : Prop := 0 ≤ m.f0 ∧ m.f0 < 4294967296 ∧ 0 ≤ m.f1 ∧ m.f1 < 4294967296
instance (m : S34) : Decidable (Wf34 m) := inferInstanceAs (Decidable (_ ∧ _ ∧ _ ∧ _))
def okM (m : S34) : Bool := maskOk m.f0.toNat m.f1.toNat
theorem right_loop (l : List S34) (hl : l.length < 9223372036854775807) (hwf : ∀ m ∈ l, Wf34 m) (d : Nat) : ∀ (k i : Nat), i ≤ l.length → l.length - i = d → d < k →
    mask_right.l0 k l (l.length : Int) (i : Int) = some ((l.drop i).all okM) := by
  induction d with
  | zero =>
    intro k i hi hd hk
    obtain ⟨k, rfl⟩ : ∃ m, k = m + 1 := ⟨k - 1, by omega⟩
    obtain rfl : i = l.length := by omega
    simp only [mask_right.l0]; rw [if_neg (by omega)]; simp
  | succ d ih =>
    intro k i hi hd hk
    obtain ⟨k, rfl⟩ : ∃ m, k = m + 1 := ⟨k - 1, by omega⟩
    have hlt : i < l.length := by omega
    have hget : rd_T34 l (i : Int) = l[i] := by simp [rd_T34, hlt]
    obtain ⟨h1, h2, h3, h4⟩ := hwf l[i] (List.getElem_mem hlt)
    have e0 : l[i].f0 = ((l[i].f0.toNat : Nat) : Int) := by omega
    have e1 : l[i].f1 = ((l[i].f1.toNat : Nat) : Int) := by omega
    rw [List.drop_eq_getElem_cons hlt, List.all_cons]
    simp only [mask_right.l0]
    rw [if_pos (by omega), if_pos (by omega), if_pos (by omega), hget]
    rw [e0, e1, Check_val _ (by omega), Check_val _ (by omega)]
    simp only [Option.bind_some]
    have hok : okM l[i] = (decide (l[i].f0.toNat < 256) && decide (l[i].f1.toNat < 256) && decide (l[i].f0.toNat ≠ 0)) := rfl
    rw [hok]
    by_cases c0 : l[i].f0.toNat < 256
    · by_cases c1 : l[i].f1.toNat < 256
      · by_cases c2 : l[i].f0.toNat = 0
        · simp [c0, c1, c2]
        · have hz : ¬ ((l[i].f0.toNat : Int) = 0) := by omega
          rw [if_pos c0, if_pos c1, if_pos rfl, if_pos rfl, if_neg hz, wrap_small _ (by omega) (by omega)]
          rw [show (i : Int) + 1 = ((i + 1 : Nat) : Int) by omega, ih k (i + 1) (by omega) (by omega) (by omega)]
          simp only [c0, c1, c2, decide_true, Bool.true_and, ne_eq, not_false_eq_true]
      · simp [c0, c1]
    · simp [c0]
theorem right_val (h s : Nat) (hh : h < 4294967296) (hs : s < 4294967296) (k : Nat) (hk : 2 ≤ k) : mask_right.f k [(⟨h, s⟩ : S34)] = some (maskOk h s) := by
  unfold mask_right.f
  rw [show (0 : Int) = ((0 : Nat) : Int) from rfl, right_loop _ (by simp) (by simp [Wf34]; omega) 1 k 0 (by simp) (by simp) (by omega)]
  simp [okM]
theorem MCheck_val (h s : Nat) (hh : h < 4294967296) (hs : s < 4294967296) (k : Nat) (hk : 2 ≤ k) : mask_Check.f k (h : Int) (s : Int) = some (if maskOk h s then 0 else 170) := by
  unfold mask_Check.f
  rw [right_val h s hh hs k hk]
  cases maskOk h s <;> simp
def allowsN (h s p : Nat) : Nat := if maskOk h s && decide (p < 256) then h &&& p else 0
theorem allowsN_lt (h s p : Nat) : allowsN h s p < 256 := by
  unfold allowsN
  split
  · next hc => simp [maskOk] at hc; exact and_lt256 _ _ hc.1.1.1
  · omega
theorem Allows_val (h s p : Nat) (hh : h < 4294967296) (hs : s < 4294967296) (hp : p < 4294967296) (k : Nat) (hk : 2 ≤ k) : mask_Allows.f k (h : Int) (s : Int) (p : Int) = some (allowsN h s p : Int) := by
  unfold mask_Allows.f allowsN
  rw [right_val h s hh hs k hk]
  simp only [Option.bind_some]
  cases hm : maskOk h s with
  | false => simp
  | true =>
    rw [Check_val p hp]
    by_cases hc : p < 256 <;> simp [hc, and_nat h p hh hp]
def likesN (h s p : Nat) : Nat := if allowsN h s p &&& s = 0 then allowsN h s p else allowsN h s p &&& s
theorem likesN_lt (h s p : Nat) : likesN h s p < 256 := by
  unfold likesN; split
  · exact allowsN_lt h s p
  · exact and_lt256 _ _ (allowsN_lt h s p)
theorem Likes_val (h s p : Nat) (hh : h < 4294967296) (hs : s < 4294967296) (hp : p < 4294967296) (k : Nat) (hk : 2 ≤ k) : mask_Likes.f k (h : Int) (s : Int) (p : Int) = some (likesN h s p : Int) := by
  unfold mask_Likes.f likesN
  rw [Allows_val h s p hh hs hp k hk]
  have hlt := allowsN_lt h s p
  simp only [Option.bind_some]
  rw [and_nat _ s (by omega) hs]
  by_cases hc : allowsN h s p &&& s = 0
  · rw [if_pos (by omega), if_pos hc]
  · rw [if_neg (by omega), if_neg hc]
def hasN (s : Nat) (c : Int) : Bool := decide (0 ≤ c) && decide (c < 8) && s.testBit c.toNat
theorem Has_val (s : Nat) (hs : s < 4294967296) (c : Int) : cpuset_Has.f (s : Int) c = some (hasN s c) := by
  unfold cpuset_Has.f cpuset_bit.f hasN
  by_cases h0 : c < 0
  · rw [if_pos h0]; simp only [Option.bind_some]
    rw [show (0 : Int) = ((0 : Nat) : Int) from rfl, and_nat s 0 hs (by omega)]
    have : ¬ (0 ≤ c) := by omega
    simp [this]
  · by_cases h8 : c ≥ 8
    · rw [if_neg h0, if_pos h8]; simp only [Option.bind_some]
      rw [show (0 : Int) = ((0 : Nat) : Int) from rfl, and_nat s 0 hs (by omega)]
      have : ¬ (c < 8) := by omega
      simp [this]
    · obtain ⟨n, rfl⟩ : ∃ n : Nat, c = n := ⟨c.toNat, by omega⟩
      have hn : n < 8 := by omega
      rw [if_neg h0, if_neg h8, if_pos (by omega)]; simp only [Option.bind_some]
      rw [shl_one n hn, and_nat s _ hs (by have := pow_lt256 n hn; omega)]
      have hb : s &&& 2 ^ n = if s.testBit n then 2 ^ n else 0 := by
        refine Nat.eq_of_testBit_eq fun d => ?_
        rw [Nat.testBit_and, pow_bit]
        by_cases hd : n = d
        · subst hd; cases hs2 : s.testBit n <;> simp
        · cases hs2 : s.testBit n <;> simp [hd, pow_bit]
      rw [hb]
      have hp : 0 < 2 ^ n := Nat.two_pow_pos n
      have h3 : (n : Int) < 8 := by omega
      cases hs2 : s.testBit n
      · simp [hs2]
      · have : ((2 ^ n : Nat) : Int) ≠ 0 := by omega
        simp only [if_true, Int.toNat_natCast, hs2, h3, Int.natCast_nonneg, decide_true, Bool.and_true]
        simpa using this
def bestN (h s p : Nat) (at_ : Int) : Int × Bool := if hasN (allowsN h s p) at_ then (at_, true) else nextOf (likesN h s p) (-1)
theorem u32r (s : Nat) (hs : s < 4294967296) : 0 ≤ (s : Int) ∧ (s : Int) < 4294967296 := ⟨Int.natCast_nonneg s, by omega⟩
theorem Next_val (s : Nat) (hs : s < 4294967296) (c : Int) : cpuset_Next.f (s : Int) c = some (nextOf s c) := by
  rw [cpuset_Next.f, if_pos (u32r s hs)]
theorem List_val (s : Nat) (hs : s < 4294967296) : cpuset_List.f (s : Int) = some (listOf s) := by
  rw [cpuset_List.f, if_pos (u32r s hs)]
theorem Best_val (h s p : Nat) (at_ : Int) (hh : h < 4294967296) (hs : s < 4294967296) (hp : p < 4294967296) (k : Nat) (hk : 2 ≤ k) : mask_Best.f k (h : Int) (s : Int) (p : Int) at_ = some (bestN h s p at_) := by
  have hlt : allowsN h s p < 4294967296 := Nat.lt_of_lt_of_le (allowsN_lt h s p) (by decide)
  have hlt' : likesN h s p < 4294967296 := Nat.lt_of_lt_of_le (likesN_lt h s p) (by decide)
  have e1 := Allows_val h s p hh hs hp k hk
  have e2 := Has_val (allowsN h s p) hlt at_
  have e3 := Likes_val h s p hh hs hp k hk
  have e4 := Next_val (likesN h s p) hlt' (-1)
  unfold mask_Best.f bestN
  rw [e1, Option.bind_some, e2, Option.bind_some, e3, Option.bind_some, e4, Option.bind_some]
  generalize hasN (allowsN h s p) at_ = b
  generalize nextOf (likesN h s p) (-1) = n
  cases b <;> rfl
end Go.Proofs.YtdmieaidheelbaaDoor.Q
end
/- PlaceCheck -/
section
/- place.Check by its contract: at every row of wishes. -/
namespace Go.Proofs.YtdmieaidheelbaaDoor.Q
open Go Go.RowKit Go.Proofs.YtdmieaidheelbaaDoorW.PrintWords Go.Proofs.YtdmieaidheelbaaDoorW.PrintLast Go.Proofs.YtdmieaidheelbaaDoorW.PrintMore
set_option linter.unusedVariables false
set_option linter.unusedSimpArgs false

def badWish (ms ts : List Bool) (x : S36) : Bool :=
  decide (x.f0 < 1) || decide (16 < x.f0) || ms.getD x.f0.toNat false || decide (x.f1 < -1) || decide (8 ≤ x.f1) || !okM x.f2 || (decide (-1 < x.f1) && ts.getD x.f1.toNat false)
def checkFrom (ms ts : List Bool) : List S36 → Int
  | [] => 0
  | x :: l => if badWish ms ts x then 230 else checkFrom (ms.set x.f0.toNat true) (if -1 < x.f1 then ts.set x.f1.toNat true else ts) l
def Wf36 (x : S36) : Prop := Wf34 x.f2
instance (x : S36) : Decidable (Wf36 x) := inferInstanceAs (Decidable (Wf34 x.f2))
def place_Check.f (l0 : List S36) : Option Int := if (∀ x ∈ l0, Wf36 x) ∧ l0.length ≤ 1000000 then some (checkFrom (List.replicate 17 false) (List.replicate 8 false) l0) else none

def Bools (w : World) (g : Nat) (t : TypeId) (bs : List Bool) : Prop := w.heap[g]? = some (.cells (bs.map Value.bool).toArray t (0, 0))
theorem Bools.cell {w : World} {g : Nat} {t : TypeId} {bs : List Bool} (h : Bools w g t bs) (i : Nat) (hi : i < bs.length) : w.cell? ⟨g, i, none⟩ = some (.bool (bs.getD i false)) := by
  rw [blk_cell h i]; simp [hi]
theorem Bools.frozen {w : World} {g : Nat} {t : TypeId} {bs : List Bool} (h : Bools w g t bs) (i : Nat) : w.frozen? ⟨g, i, none⟩ = false := blk_frozen h i
theorem Bools.set {w : World} {g : Nat} {t : TypeId} {bs : List Bool} (h : Bools w g t bs) (i : Nat) (b : Bool) : Bools (w.setCell ⟨g, i, none⟩ (.bool b)) g t (bs.set i b) := by
  have := blk_set h i (.bool b)
  unfold Bools
  rw [this]
  congr 2
  simp [List.map_set]
theorem Bools.far {w : World} {g : Nat} {t : TypeId} {bs : List Bool} (h : Bools w g t bs) {p : Addr} (hp : g ≠ p.block) (u : Value) : Bools (w.setCell p u) g t bs := blk_far h hp u
theorem Bools.alloc {w : World} {g : Nat} {t : TypeId} {bs : List Bool} (h : Bools w g t bs) (o : Obj) : Bools (w.alloc o) g t bs := (Below.heap_alloc w o g (blk_lt h)).trans h
section
variable {ms ts : List Bool} {f0 f1 : Int} {m : S34}
theorem bad1 (h : f0 < 1) : badWish ms ts ⟨f0, f1, m⟩ = true := by simp only [badWish, h, decide_true, Bool.true_or]
theorem bad2 (h : 16 < f0) : badWish ms ts ⟨f0, f1, m⟩ = true := by simp only [badWish, h, decide_true, Bool.true_or, Bool.or_true]
theorem bad3 {v : Nat} (h : ms.getD v false = true) : badWish ms ts ⟨(v : Int), f1, m⟩ = true := by simp only [badWish, Int.toNat_natCast, h, Bool.true_or, Bool.or_true]
theorem bad4 (h : f1 < -1) : badWish ms ts ⟨f0, f1, m⟩ = true := by simp only [badWish, h, decide_true, Bool.true_or, Bool.or_true]
theorem bad5 (h : 8 ≤ f1) : badWish ms ts ⟨f0, f1, m⟩ = true := by simp only [badWish, h, decide_true, Bool.true_or, Bool.or_true]
theorem bad6 (h : okM m = false) : badWish ms ts ⟨f0, f1, m⟩ = true := by simp only [badWish, h, Bool.not_false, Bool.true_or, Bool.or_true]
theorem bad7 {u : Nat} (h : ts.getD u false = true) : badWish ms ts ⟨f0, (u : Int), m⟩ = true := by
  have : (-1 : Int) < u := by omega
  simp only [badWish, Int.toNat_natCast, h, this, decide_true, Bool.and_true, Bool.or_true]
theorem good8 {v : Nat} (h1 : (1 : Int) ≤ v) (h2 : (v : Int) ≤ 16) (h3 : ms.getD v false = false) (h4 : -1 ≤ f1) (h5 : f1 ≤ 7) (h6 : okM m = true) (h7 : -1 < f1 → ts.getD f1.toNat false = false) : badWish ms ts ⟨(v : Int), f1, m⟩ = false := by
  have a1 : ¬ ((v : Int) < 1) := by omega
  have a2 : ¬ (16 < (v : Int)) := by omega
  have a4 : ¬ (f1 < -1) := by omega
  have a5 : ¬ (8 ≤ f1) := by omega
  simp only [badWish, Int.toNat_natCast, a1, a2, h3, a4, a5, h6, decide_false, Bool.false_or, Bool.not_true]
  by_cases h : -1 < f1
  · rw [h7 h]; simp
  · simp [h]
end
theorem check_step (ms ts : List Bool) (l : List S36) (k : Nat) (hk : k < l.length) : checkFrom ms ts (l.drop k) =
    if badWish ms ts (rd_T36 l k) then 230 else checkFrom (ms.set (rd_T36 l k).f0.toNat true) (if -1 < (rd_T36 l k).f1 then ts.set (rd_T36 l k).f1.toNat true else ts) (l.drop (k + 1)) := by
  rw [List.drop_eq_getElem_cons hk, checkFrom]
  have : rd_T36 l (k : Int) = l[k] := by simp [rd_T36, hk]
  rw [this]
theorem rd36_mem (l : List S36) (k : Nat) (hk : k < l.length) : rd_T36 l (k : Int) ∈ l := by
  have : rd_T36 l (k : Int) = l[k] := by simp [rd_T36, hk]
  rw [this]; exact List.getElem_mem hk

set_option maxRecDepth 100000 in
set_option maxHeartbeats 8000000 in
theorem place_Check.calls (A0 : Option Addr) (c0 : Nat) (l0 : List (S36)) (r : Int) (w : World) (hr0 : Kd.C k36 w A0 l0.length l0) (hc0 : l0.length ≤ c0) (h : place_Check.f l0 = some r) :
    Calls Tryd.prog 37 #[.slice A0 l0.length c0] w fun e w' => e = .returned (.int .i64 r) ∧ Below w.heap.size w w' := by
  unfold place_Check.f at h
  by_cases hwl : (∀ x ∈ l0, Wf36 x) ∧ l0.length ≤ 1000000
  case neg => rw [if_neg hwl] at h; cases h
  rw [if_pos hwl] at h
  obtain ⟨hwf, hlm⟩ := hwl
  have hR := Aside0.mk (Option.some.inj h)
  clear h
  have hu36 := Tryd.underlying36
  have HR0 := Aside0.mk hr0
  have HWF := Aside0.mk hwf
  have HC0 := Aside0.mk hc0
  clear hr0 hwf hc0
  go_enter Tryd.func37, Tryd.ntmps37
  go_wp2
  go_loopw [9] (fun i wr => ∃ (k : Nat) (ms ts : List Bool), k ≤ l0.length ∧ i = .int .i64 k ∧ Aside0 (checkFrom ms ts (l0.drop k) = r) ∧ ms.length = 17 ∧ ts.length = 8 ∧ Aside0 (Bools wr w.heap.size 114 ms) ∧ Aside0 (Bools wr (w.heap.size + 1) 115 ts) ∧ Aside0 (Below w.heap.size w wr))
    (fun i _ => l0.length - (intOf i).toNat)
  case atStart =>
    exact ⟨0, _, _, Nat.zero_le _, rfl, hR, by simp, by simp, ⟨(Bools.alloc (bs := List.replicate 17 false) (heap_alloc_new w _) _)⟩, ⟨by have := heap_alloc_new (w.alloc (.cells (List.replicate 17 (Value.bool false)).toArray 114)) (.cells (List.replicate 8 (Value.bool false)).toArray 115); rw [World.size_alloc] at this; exact this⟩, ⟨((Below.refl _ w).alloc (Nat.le_refl _) _).alloc (by simp) _⟩⟩
  case round =>
    obtain ⟨k, ms, ts, hk, rfl, HA, hml, htl, HM, HT, HB⟩ := hrel
    clear hR
    by_cases hlt : k < l0.length
    case neg =>
      obtain rfl : r = 0 := by
        have := HA.out
        rw [List.drop_eq_nil_of_le (by omega)] at this
        exact this.symm
      have hge : l0.length ≤ k := by omega
      clear hlt
      go_wp2
      go_ret
      exact ⟨rfl, HB.out⟩
    case pos =>
    obtain ⟨ad, rfl, hx0, hx1, hx2, hx3⟩ := at_T36 (Kd.C_below HR0.out HB.out) (k : Int) (by omega) (by omega)
    have hst := check_step ms ts l0 k hlt
    rw [HA.out] at hst
    have hwx : Wf36 (rd_T36 l0 (k : Int)) := HWF.out _ (rd36_mem l0 k hlt)
    rw [Int.toNat_natCast] at hx0 hx1 hx2 hx3
    generalize rd_T36 l0 (k : Int) = x at *
    obtain ⟨f0, f1, ⟨mh, ms'⟩⟩ := x
    obtain ⟨hw1, hw2, hw3, hw4⟩ := hwx
    simp only at hx0 hx1 hx2 hx3 hw1 hw2 hw3 hw4 hst
    have hsz : w.heap.size + 1 < wr.heap.size := blk_lt HT.out
    have HSZ := Aside0.mk hsz
    clear HA
    by_cases c1 : f0 < 1
    · obtain rfl : r = 230 := by rw [hst, if_pos (bad1 c1)]
      clear hst
      go_wp2
      go_ret
      exact ⟨rfl, below_alloc HB.out _⟩
    replace c1 : 1 ≤ f0 := by omega
    by_cases c2 : 16 < f0
    · obtain rfl : r = 230 := by rw [hst, if_pos (bad2 c2)]
      clear hst
      go_wp2
      go_ret
      exact ⟨rfl, below_alloc HB.out _⟩
    replace c2 : f0 ≤ 16 := by omega
    obtain ⟨v, rfl⟩ : ∃ v : Nat, f0 = v := ⟨f0.toNat, by omega⟩
    have hmv := (HM.out.alloc (.cells #[.int .i64 (v : Int), .int .i64 f1, .int .u32 mh, .int .u32 ms'] 36)).cell v (by omega)
    rw [Int.toNat_natCast] at hst
    cases c3 : ms.getD v false with
    | true =>
      obtain rfl : r = 230 := by rw [hst, if_pos (bad3 c3)]
      clear hst
      rw [c3] at hmv
      clear c3
      go_wp2
      go_ret
      exact ⟨rfl, below_alloc HB.out _⟩
    | false =>
    rw [c3] at hmv
    by_cases c4 : f1 < -1
    · obtain rfl : r = 230 := by rw [hst, if_pos (bad4 c4)]
      clear hst c3
      go_wp2
      go_ret
      exact ⟨rfl, below_alloc HB.out _⟩
    replace c4 : -1 ≤ f1 := by omega
    by_cases c5 : 8 ≤ f1
    · obtain rfl : r = 230 := by rw [hst, if_pos (bad5 c5)]
      clear hst c3
      go_wp2
      go_ret
      exact ⟨rfl, below_alloc HB.out _⟩
    replace c5 : f1 ≤ 7 := by omega
    have HM6 : mask_Check.f 2 mh ms' = some (if okM ⟨mh, ms'⟩ then 0 else 170) := by
      have := MCheck_val mh.toNat ms'.toNat (by omega) (by omega) 2 (by omega)
      rw [show ((mh.toNat : Nat) : Int) = mh by omega, show ((ms'.toNat : Nat) : Int) = ms' by omega] at this
      exact this
    have HS := Aside0.mk hst
    clear hst
    cases c6 : okM ⟨mh, ms'⟩ with
    | false =>
      obtain rfl : r = 230 := by rw [HS.out, if_pos (bad6 c6)]
      rw [c6] at HM6
      have HM7 := Aside0.mk HM6
      clear HM6 c6 c3
      go_wp2_with (go_at_call 79; refine (mask_Check.calls 2 mh ms' 170 _ HM7.out).mono ?_; rintro e w1 ⟨rfl, hb1⟩; have HB1 := Aside0.mk hb1; clear hb1)
      go_ret
      exact ⟨rfl, below_step (below_alloc HB.out _) HB1.out⟩
    | true =>
    rw [c6] at HM6
    have HM7 := Aside0.mk HM6
    have C36 := Aside0.mk (And.intro c3 c6)
    clear HM6 c6 c3
    have hbc : ∀ {w1 : World}, Below (wr.heap.size + 1) (wr.alloc (.cells #[.int .i64 v, .int .i64 f1, .int .u32 mh, .int .u32 ms'] 36)) w1 →
        Bools w1 w.heap.size 114 ms ∧ Bools w1 (w.heap.size + 1) 115 ts ∧ w1.cell? ⟨wr.heap.size, 0, none⟩ = some (.int .i64 v) ∧ w1.cell? ⟨wr.heap.size, 1, none⟩ = some (.int .i64 f1) ∧ w1.cell? ⟨wr.heap.size, 2, none⟩ = some (.int .u32 mh) ∧ w1.cell? ⟨wr.heap.size, 3, none⟩ = some (.int .u32 ms') := fun hb => by
      have hn := heap_alloc_new wr (.cells #[.int .i64 (v : Int), .int .i64 f1, .int .u32 mh, .int .u32 ms'] 36)
      have hn1 := (hb.block wr.heap.size (by omega)).trans hn
      exact ⟨(hb.block _ (by omega)).trans (HM.out.alloc _), (hb.block _ (by omega)).trans (HT.out.alloc _), blk_cell hn1 0, blk_cell hn1 1, blk_cell hn1 2, blk_cell hn1 3⟩
    have HBC := Aside0.mk (fun w1 => @hbc w1)
    clear hbc
    by_cases c7 : -1 < f1
    · obtain ⟨u, rfl⟩ : ∃ u : Nat, f1 = u := ⟨f1.toNat, by omega⟩
      have hu8 : u < 8 := by omega
      cases c8 : ts.getD u false with
      | true =>
        obtain rfl : r = 230 := by rw [HS.out, if_pos (bad7 c8)]
        have C8 := Aside0.mk c8
        clear c8 hmv
        have hmv := (HM.out.alloc (.cells #[.int .i64 (v : Int), .int .i64 (u : Int), .int .u32 mh, .int .u32 ms'] 36)).cell v (by omega)
        rw [C36.out.1] at hmv
        go_wp2_with (go_at_call 79; refine (mask_Check.calls 2 mh ms' 0 _ HM7.out).mono ?_; rintro e w1 ⟨rfl, hb1⟩; obtain ⟨HM2, HT2, k0, k1, k2, k3⟩ := HBC.out w1 (by simpa using hb1); have HB1 := Aside0.mk (below_step (below_alloc HB.out _) hb1); clear hb1; have m1 := HM2.cell v (by omega); have m2 := HM2.frozen v; have HM3 := Aside0.mk HM2; have HT3 := Aside0.mk HT2; have m3 := HT2.cell u (by omega); rw [C8.out] at m3; clear HM2 HT2)
        go_ret
        exact ⟨rfl, HB1.out⟩
      | false =>
        have C8 := Aside0.mk c8
        have HS2 := HS.out
        rw [good8 c1 c2 C36.out.1 c4 c5 C36.out.2 (fun _ => by rw [Int.toNat_natCast]; exact c8), if_neg (by simp), if_pos c7, Int.toNat_natCast] at HS2
        have HS3 := Aside0.mk HS2.symm
        clear c8 HS HS2
        go_wp2_with (go_at_call 79; refine (mask_Check.calls 2 mh ms' 0 _ HM7.out).mono ?_; rintro e w1 ⟨rfl, hb1⟩; obtain ⟨HM2, HT2, k0, k1, k2, k3⟩ := HBC.out w1 (by simpa using hb1); have HB1 := Aside0.mk (below_step (below_alloc HB.out _) hb1); clear hb1; have m1 := HM2.cell v (by omega); have m2 := HM2.frozen v; have HM3 := Aside0.mk HM2; have HT3 := Aside0.mk HT2; have m3 := HT2.cell u (by omega); have m4 := HT2.frozen u; rw [C8.out] at m3; clear HM2 HT2)
        go_roundw
        case rel =>
          refine ⟨k + 1, ms.set v true, ts.set u true, by omega, by go_num, HS3, by simpa using hml, by simpa using htl, ⟨(HM3.out.set v true).far (by simp) _⟩, ⟨(HT3.out.far (by simp) _).set u true⟩, ⟨?_⟩⟩
          exact (HB1.out.setCell (p := ⟨w.heap.size, v, none⟩) (Nat.le_refl _) _).setCell (p := ⟨w.heap.size + 1, u, none⟩) (by simp) _
        case measure => simp [intOf]; omega
    · obtain rfl : f1 = -1 := by omega
      have HS2 := HS.out
      rw [good8 c1 c2 C36.out.1 c4 c5 C36.out.2 (fun h => absurd h c7), if_neg (by simp), if_neg c7] at HS2
      have HS3 := Aside0.mk HS2.symm
      clear HS HS2 c7 c4 c5
      go_wp2_with (go_at_call 79; refine (mask_Check.calls 2 mh ms' 0 _ HM7.out).mono ?_; rintro e w1 ⟨rfl, hb1⟩; obtain ⟨HM2, HT2, k0, k1, k2, k3⟩ := HBC.out w1 (by simpa using hb1); have HB1 := Aside0.mk (below_step (below_alloc HB.out _) hb1); clear hb1; have m1 := HM2.cell v (by omega); have m2 := HM2.frozen v; have HM3 := Aside0.mk HM2; have HT3 := Aside0.mk HT2; clear HM2 HT2)
      go_roundw
      case rel =>
        refine ⟨k + 1, ms.set v true, ts, by omega, by go_num, HS3, by simpa using hml, by simpa using htl, ⟨HM3.out.set v true⟩, ⟨HT3.out.far (by simp) _⟩, ⟨?_⟩⟩
        exact HB1.out.setCell (p := ⟨w.heap.size, v, none⟩) (Nat.le_refl _) _
      case measure => simp [intOf]; omega
end Go.Proofs.YtdmieaidheelbaaDoor.Q
end
/- Elems -/
section
/- The listed table gives the walks their word TabW; the door's heap meets the condition. -/
namespace Go.Proofs.YtdmieaidheelbaaDoor.Q
open Go Go.ChangeShapes Go.WideShapes Go.ChangeAt Go.RowKit
set_option linter.unusedVariables false

abbrev theLaid : List (String × DataW Unit) := [("math/bits.deBruijn32tab", Rows.laid_math_bits_deBruijn32tab)]
theorem gTab : Tryd.prog.globalNamed "math/bits.deBruijn32tab" = some 0 := by kernel_rfl
theorem tTab : (Tryd.prog.globals[0]?).map (·.type) = some 160 := by kernel_rfl

theorem door_met (os : Os) (args : Array Value) : laidMetH Tryd.prog theLaid ((World.doorLaid Tryd.prog 400 os).forCall (fun _ _ => 0) ⟨#[], args, []⟩).memory :=
  laidMetH_of_parts3 (fuel := 8) (laidMet_of_run' 8 (by kernel_rfl) (by kernel_rfl)) (by kernel_rfl) (by kernel_rfl)

set_option maxRecDepth 100000 in
theorem of_laid {W : World} (h : laidMetH Tryd.prog theLaid W) : TabW W := by
  rw [MakeChecks.laidMetH_plain _ _ _ (by kernel_rfl)] at h
  obtain ⟨ps, ⟨g0, t0, cs0, f0, p0, q0, hg0, ht0, hv0, hd0, _, _⟩, _, _⟩ := h
  obtain rfl := Option.some.inj (gTab.symm.trans hg0)
  obtain rfl := Option.some.inj (tTab.symm.trans ht0)
  obtain ⟨xs, m1, rfl, hx1, hlen, hn3, hel⟩ := DataW.trod_array Tryd.underlying160 hd0
  have c5 : Tryd.prog.cellsOf 5 = 1 := by kernel_rfl
  simp only [Prod.mk.injEq] at hx1
  have hl : xs.map (·.1) = Lib.deBruijn32tab.map fun n => .lit (.int .u8 (n : Int)) := by
    have := hx1.1
    unfold Rows.laid_math_bits_deBruijn32tab at this
    injection this with this
    rw [← this]; rfl
  intro j hj
  have h0 := hel j hj
  rw [c5, Nat.mul_one] at h0
  have hxj : xs[j]? = some (xs[j]'(by omega)) := List.getElem?_eq_getElem (by omega)
  rw [hxj] at h0
  obtain ⟨k, e1, e2, _⟩ := DataW.trod_int Tryd.underlying5 h0
  have hm : (xs.map (·.1))[j]? = some (.lit (.int .u8 k)) := by rw [List.getElem?_map, hxj, e2]; rfl
  rw [hl, List.getElem?_map] at hm
  have hk : k = (Lib.deBruijn32tab.getD j 0 : Nat) := by
    have hj2 : j < Lib.deBruijn32tab.length := by simpa [Lib.deBruijn32tab] using hj
    rw [List.getElem?_eq_getElem hj2] at hm
    rw [List.getD_eq_getElem?_getD, List.getElem?_eq_getElem hj2]
    simp only [Option.map_some, Option.some.injEq, DataW.lit.injEq, Lit.int.injEq, true_and] at hm
    exact hm.symm
  have hc := World.var?_cell hg0 hv0 j
  rw [hc]
  have : cs0.toList[j]? = some (.int .u8 k) := by
    have h1 : ((cs0.toList.drop j).take 1)[0]? = some (.int .u8 k) := by rw [e1]; rfl
    rw [List.getElem?_take, List.getElem?_drop] at h1
    simpa using h1
  rw [← Array.getElem?_toList, this, hk]
end Go.Proofs.YtdmieaidheelbaaDoor.Q
/- A law's arguments, opened: slices of structs as lists of records. -/
namespace Go.Proofs.YtdmieaidheelbaaDoor.Q
open Go Go.ChangeShapes Go.WideShapes Go.ChangeAt Go.RowKit Go.Proofs.YtdmieaidheelbaaDoorW.PrintWords Go.Proofs.YtdmieaidheelbaaDoorW.PrintLast Go.Proofs.YtdmieaidheelbaaDoorW.PrintMore
set_option linter.unusedVariables false

theorem add_of_add' (a : Addr) (i j : Nat) : (a.add i).add j = a.add (i + j) := by
  unfold Addr.add
  by_cases hi : i = 0 <;> by_cases hj : j = 0 <;> simp [hi, hj, Nat.add_assoc]
section
variable {H : Type} {enc : TypeId × Value → H} {w : World} {base : Nat} {spare : Nat → Bool} {held : Bool}

def Elem {α : Type} (enc : TypeId × Value → H) (w : World) (base : Nat) (spare : Nat → Bool) (held : Bool) (t : TypeId) (d : Kd α) (Wf : α → Prop) : Prop :=
  ∀ (fuel : Nat) (cs : List Value) (x : DataW H × List MemPlace), DataW.trod enc Tryd.prog w base spare held fuel t cs = some x → ∃ a : α, d.K w a cs ∧ Wf a

theorem C_of_elems {α : Type} (d : Kd α) (Wf : α → Prop) (a : Addr) (n : Nat) (hn : n ≤ maxLen) (h : ∀ i, i < n → ∃ (x : α) (c : List Value), Wf x ∧ d.K w x c ∧ ∀ j u, c[j]? = some u → w.cell? (a.add (i * d.sz + j)) = some u) :
    ∃ xs : List α, xs.length = n ∧ Kd.C d w (some a) n xs ∧ ∀ x ∈ xs, Wf x := by
  have h' : ∀ m, m ≤ n → ∃ xs : List α, xs.length = m ∧ (∀ x ∈ xs, Wf x) ∧ ∀ j p, xs[j]? = some p → ∃ c, c.length = d.sz ∧ d.K w p c ∧ ∀ i u, c[i]? = some u → w.cell? (a.add (j * d.sz + i)) = some u := by
    intro m
    induction m with
    | zero => intro _; exact ⟨[], rfl, by simp, by simp⟩
    | succ m ih =>
      intro hm
      obtain ⟨xs, h1, h2, h3⟩ := ih (by omega)
      obtain ⟨x, c, hx, hK, hc⟩ := h m (by omega)
      refine ⟨xs ++ [x], by simp [h1], fun y hy => ?_, fun j p hj => ?_⟩
      · rcases List.mem_append.1 hy with hy | hy
        · exact h2 y hy
        · obtain rfl : y = x := by simpa using hy
          exact hx
      · rcases Nat.lt_or_ge j xs.length with hlt | hge
        · rw [List.getElem?_append_left hlt] at hj
          exact h3 j p hj
        · rw [List.getElem?_append_right hge] at hj
          have hj0 : j - xs.length = 0 := by
            rcases Nat.eq_zero_or_pos (j - xs.length) with h0 | h0
            · exact h0
            · rw [List.getElem?_eq_none (by simp; omega)] at hj; cases hj
          rw [hj0] at hj
          obtain rfl : x = p := by simpa using hj
          obtain rfl : j = m := by omega
          exact ⟨c, d.K_len hK, hK, hc⟩
  obtain ⟨xs, h1, h2, h3⟩ := h' n (Nat.le_refl _)
  exact ⟨xs, h1, ⟨h1, by unfold maxLen at hn; omega, fun _ => ⟨a, rfl, h3⟩⟩, h2⟩

theorem rowOf {α : Type} {t e : TypeId} {d : Kd α} {Wf : α → Prop} (ht : Tryd.prog.underlying t = some (.slice e)) (hC : Tryd.prog.cellsOf e = d.sz) (hE : Elem enc w base spare held e d Wf)
    {fuel : Nat} {A : Option Addr} {len cap : Nat} {x : DataW H × List MemPlace} (h : DataW.trod enc Tryd.prog w base spare held fuel t [.slice A len cap] = some x) :
    ∃ xs : List α, xs.length = len ∧ len ≤ cap ∧ Kd.C d w A len xs ∧ ∀ x ∈ xs, Wf x := by
  rcases Go.Deep.open_slice ht h with ⟨hcs, _⟩ | ⟨a, l, c, m, n, D, Pl, hcs, hb, hl, hm, hmm, hx, hi⟩
  · injection hcs with hcs
    injection hcs with h1 h2 h3
    subst h1 h2 h3
    exact ⟨[], rfl, Nat.le_refl _, ⟨rfl, by omega, fun h => absurd h (by omega)⟩, by simp⟩
  · injection hcs with hcs
    injection hcs with h1 h2 h3
    subst h1 h2 h3
    obtain ⟨xs, h1, h2, h3⟩ := C_of_elems (w := w) d Wf a len (by omega) (fun i hi2 => by
      obtain ⟨cs', hc, ht'⟩ := hi i (by rw [hmm]; split <;> omega)
      rw [hC] at hc
      obtain ⟨_, hlen, hcell⟩ := World.cells?_some hc
      obtain ⟨x, hK, hx⟩ := hE n cs' _ ht'
      refine ⟨x, cs', hx, hK, fun j u hu => ?_⟩
      have hj : j < d.sz := by rw [← hlen]; exact (List.getElem?_eq_some_iff.1 hu).1
      rw [← add_of_add', hcell j hj, hu])
    exact ⟨xs, h1, hl, h2, h3⟩
end
end Go.Proofs.YtdmieaidheelbaaDoor.Q
/- The element types of the laws' slices: what their cells are. -/
namespace Go.Proofs.YtdmieaidheelbaaDoor.Q
open Go Go.ChangeShapes Go.WideShapes Go.ChangeAt Go.RowKit Go.Proofs.YtdmieaidheelbaaDoorW.PrintWords Go.Proofs.YtdmieaidheelbaaDoorW.PrintLast Go.Proofs.YtdmieaidheelbaaDoorW.PrintMore
set_option linter.unusedVariables false

theorem two_ofE {α : Type} {l : List α} (h : l.length = 2) : ∃ a b, l = [a, b] := by
  match l, h with
  | [a, b], _ => exact ⟨a, b, rfl⟩
theorem four_ofE {α : Type} {l : List α} (h : l.length = 4) : ∃ a b c d, l = [a, b, c, d] := by
  match l, h with
  | [a, b, c, d], _ => exact ⟨a, b, c, d, rfl⟩
theorem six_ofE {α : Type} {l : List α} (h : l.length = 6) : ∃ a b c d e f, l = [a, b, c, d, e, f] := by
  match l, h with
  | [a, b, c, d, e, f], _ => exact ⟨a, b, c, d, e, f, rfl⟩
section
variable {H : Type} {enc : TypeId × Value → H} {w : World} {base : Nat} {spare : Nat → Bool} {held : Bool}
theorem int_field {t : TypeId} {k : IntKind} {fuel : Nat} {c : Value} {xs : List (DataW H × List MemPlace)} {i : Nat} (hi : i < xs.length) (ht : Tryd.prog.underlying t = some (.int k)) (h : DataW.trod enc Tryd.prog w base spare held fuel t [c] = xs[i]?) :
    ∃ n, c = .int k n ∧ (Lit.int k n).wf = true := by
  rw [List.getElem?_eq_getElem hi] at h
  obtain ⟨n, e, _, hw⟩ := DataW.trod_int ht h
  exact ⟨n, by injection e, hw⟩
theorem bool_field {t : TypeId} {fuel : Nat} {c : Value} {xs : List (DataW H × List MemPlace)} {i : Nat} (hi : i < xs.length) (ht : Tryd.prog.underlying t = some .bool) (h : DataW.trod enc Tryd.prog w base spare held fuel t [c] = xs[i]?) : ∃ b, c = .bool b := by
  rw [List.getElem?_eq_getElem hi] at h
  obtain ⟨n, e, _⟩ := DataW.trod_bool ht h
  exact ⟨n, by injection e⟩
theorem u32_range {n : Int} (h : (Lit.int .u32 n).wf = true) : 0 ≤ n ∧ n < 4294967296 := by
  have := bounds_u32 h
  omega

theorem elem_int : Elem enc w base spare held 3 (Kd.int .i64) (fun n => (Lit.int .i64 n).wf = true) := fun fuel cs x h => by
  obtain ⟨n, e, _, hw⟩ := DataW.trod_int Tryd.underlying3 h
  exact ⟨n, e, hw⟩
theorem elem_put : Elem enc w base spare held 31 k31 (fun p => (Lit.int .i64 p.f0).wf = true ∧ (Lit.int .i64 p.f1).wf = true) := fun fuel cs x h => by
  obtain ⟨xs, n, _, _, hlen, hxl, hf⟩ := DataW.trod_struct Tryd.underlying31 h
  have hc : Tryd.prog.cellsOf 31 = 2 := by kernel_rfl
  have ci : Tryd.prog.cellsOf 3 = 1 := by kernel_rfl
  obtain ⟨c0, c1, rfl⟩ := two_ofE (hlen.trans hc)
  have h0 : DataW.trod enc Tryd.prog w base spare held n 3 (([c0, c1].drop 0).take (Tryd.prog.cellsOf 3)) = xs[0]? := hf 0 _ rfl
  rw [ci] at h0
  have h1 : DataW.trod enc Tryd.prog w base spare held n 3 (([c0, c1].drop 1).take (Tryd.prog.cellsOf 3)) = xs[1]? := hf 1 _ rfl
  rw [ci] at h1
  have hx2 : xs.length = 2 := hxl
  obtain ⟨a, rfl, wa⟩ := int_field (by omega) Tryd.underlying3 h0
  obtain ⟨b, rfl, wb⟩ := int_field (by omega) Tryd.underlying3 h1
  exact ⟨⟨a, b⟩, k31_mk w ⟨a, b⟩, wa, wb⟩
theorem elem_mask : Elem enc w base spare held 34 k34 Wf34 := fun fuel cs x h => by
  obtain ⟨xs, n, _, _, hlen, hxl, hf⟩ := DataW.trod_struct Tryd.underlying34 h
  have hc : Tryd.prog.cellsOf 34 = 2 := by kernel_rfl
  have ci : Tryd.prog.cellsOf 24 = 1 := by kernel_rfl
  obtain ⟨c0, c1, rfl⟩ := two_ofE (hlen.trans hc)
  have h0 : DataW.trod enc Tryd.prog w base spare held n 24 (([c0, c1].drop 0).take (Tryd.prog.cellsOf 24)) = xs[0]? := hf 0 _ rfl
  rw [ci] at h0
  have h1 : DataW.trod enc Tryd.prog w base spare held n 24 (([c0, c1].drop 1).take (Tryd.prog.cellsOf 24)) = xs[1]? := hf 1 _ rfl
  rw [ci] at h1
  have hx2 : xs.length = 2 := hxl
  obtain ⟨a, rfl, wa⟩ := int_field (by omega) Tryd.underlying24 h0
  obtain ⟨b, rfl, wb⟩ := int_field (by omega) Tryd.underlying24 h1
  have ra := u32_range wa
  have rb := u32_range wb
  exact ⟨⟨a, b⟩, k34_mk w ⟨a, b⟩, ra.1, ra.2, rb.1, rb.2⟩
theorem elem_wish : Elem enc w base spare held 36 k36 Wf36 := fun fuel cs x h => by
  obtain ⟨xs, n, _, _, hlen, hxl, hf⟩ := DataW.trod_struct Tryd.underlying36 h
  have hc : Tryd.prog.cellsOf 36 = 4 := by kernel_rfl
  have ci : Tryd.prog.cellsOf 3 = 1 := by kernel_rfl
  have cm : Tryd.prog.cellsOf 34 = 2 := by kernel_rfl
  obtain ⟨c0, c1, c2, c3, rfl⟩ := four_ofE (hlen.trans hc)
  have h0 : DataW.trod enc Tryd.prog w base spare held n 3 (([c0, c1, c2, c3].drop 0).take (Tryd.prog.cellsOf 3)) = xs[0]? := hf 0 _ rfl
  rw [ci] at h0
  have h1 : DataW.trod enc Tryd.prog w base spare held n 3 (([c0, c1, c2, c3].drop 1).take (Tryd.prog.cellsOf 3)) = xs[1]? := hf 1 _ rfl
  rw [ci] at h1
  have h2 : DataW.trod enc Tryd.prog w base spare held n 34 (([c0, c1, c2, c3].drop 2).take (Tryd.prog.cellsOf 34)) = xs[2]? := hf 2 _ rfl
  rw [cm] at h2
  have hx2 : xs.length = 3 := hxl
  obtain ⟨a, rfl, _⟩ := int_field (by omega) Tryd.underlying3 h0
  obtain ⟨b, rfl, _⟩ := int_field (by omega) Tryd.underlying3 h1
  rw [List.getElem?_eq_getElem (by omega)] at h2
  obtain ⟨m, hm, hw⟩ := elem_mask (enc := enc) (w := w) (base := base) (spare := spare) (held := held) _ _ _ h2
  have e : [c2, c3] = [.int .u32 m.f0, .int .u32 m.f1] := k34_open hm
  injection e with e1 e
  injection e with e2 _
  subst e1 e2
  exact ⟨⟨a, b, m⟩, k36_mk w ⟨a, b, m⟩, hw⟩
theorem elem_entity : Elem enc w base spare held 90 k90 (fun _ => True) := fun fuel cs x h => by
  obtain ⟨xs, n, _, _, hlen, hxl, hf⟩ := DataW.trod_struct Tryd.underlying90 h
  have hc : Tryd.prog.cellsOf 90 = 6 := by kernel_rfl
  have ci : Tryd.prog.cellsOf 3 = 1 := by kernel_rfl
  have cl : Tryd.prog.cellsOf 42 = 1 := by kernel_rfl
  have cf : Tryd.prog.cellsOf 88 = 3 := by kernel_rfl
  have cu : Tryd.prog.cellsOf 84 = 1 := by kernel_rfl
  have cb : Tryd.prog.cellsOf 4 = 1 := by kernel_rfl
  obtain ⟨c0, c1, c2, c3, c4, c5, rfl⟩ := six_ofE (hlen.trans hc)
  have h0 : DataW.trod enc Tryd.prog w base spare held n 42 (([c0, c1, c2, c3, c4, c5].drop 0).take (Tryd.prog.cellsOf 42)) = xs[0]? := hf 0 _ rfl
  rw [cl] at h0
  have h1 : DataW.trod enc Tryd.prog w base spare held n 88 (([c0, c1, c2, c3, c4, c5].drop 1).take (Tryd.prog.cellsOf 88)) = xs[1]? := hf 1 _ rfl
  rw [cf] at h1
  have h2 : DataW.trod enc Tryd.prog w base spare held n 84 (([c0, c1, c2, c3, c4, c5].drop 4).take (Tryd.prog.cellsOf 84)) = xs[2]? := hf 2 _ rfl
  rw [cu] at h2
  have h3 : DataW.trod enc Tryd.prog w base spare held n 4 (([c0, c1, c2, c3, c4, c5].drop 5).take (Tryd.prog.cellsOf 4)) = xs[3]? := hf 3 _ rfl
  rw [cb] at h3
  have hx2 : xs.length = 4 := hxl
  obtain ⟨o, rfl, _⟩ := int_field (by omega) Tryd.underlying84 h2
  obtain ⟨b, rfl⟩ := bool_field (by omega) Tryd.underlying4 h3
  rw [List.getElem?_eq_getElem (by omega)] at h0
  obtain ⟨A, len, cap, rfl⟩ : ∃ A len cap, c0 = .slice A len cap := by
    rcases Go.Deep.open_slice Tryd.underlying42 h0 with ⟨e, _⟩ | ⟨a, l, c, _, _, _, _, e, _⟩
    · injection e with e; exact ⟨_, _, _, e⟩
    · injection e with e; exact ⟨_, _, _, e⟩
  obtain ⟨ms, hml, hcap, hC, _⟩ := rowOf (d := Kd.int .i64) Tryd.underlying42 ci elem_int h0
  subst hml
  rw [List.getElem?_eq_getElem (by omega)] at h1
  obtain ⟨ys, n1, _, _, hlen1, hyl, hg⟩ := DataW.trod_struct Tryd.underlying88 h1
  have cw : Tryd.prog.cellsOf 86 = 2 := by kernel_rfl
  have g0 : DataW.trod enc Tryd.prog w base spare held n1 86 (([c1, c2, c3].drop 0).take (Tryd.prog.cellsOf 86)) = ys[0]? := hg 0 _ rfl
  rw [cw] at g0
  have g1 : DataW.trod enc Tryd.prog w base spare held n1 84 (([c1, c2, c3].drop 2).take (Tryd.prog.cellsOf 84)) = ys[1]? := hg 1 _ rfl
  rw [cu] at g1
  have hy2 : ys.length = 2 := hyl
  obtain ⟨w1, rfl, _⟩ := int_field (by omega) Tryd.underlying84 g1
  rw [List.getElem?_eq_getElem (by omega)] at g0
  obtain ⟨zs, n2, _, _, hlen2, hzl, hk⟩ := DataW.trod_struct Tryd.underlying86 g0
  have k0 : DataW.trod enc Tryd.prog w base spare held n2 84 (([c1, c2].drop 0).take (Tryd.prog.cellsOf 84)) = zs[0]? := hk 0 _ rfl
  rw [cu] at k0
  have k1 : DataW.trod enc Tryd.prog w base spare held n2 84 (([c1, c2].drop 1).take (Tryd.prog.cellsOf 84)) = zs[1]? := hk 1 _ rfl
  rw [cu] at k1
  have hz2 : zs.length = 2 := hzl
  obtain ⟨hi, rfl, _⟩ := int_field (by omega) Tryd.underlying84 k0
  obtain ⟨lo, rfl, _⟩ := int_field (by omega) Tryd.underlying84 k1
  exact ⟨⟨ms, ⟨⟨hi, lo⟩, w1⟩, o, b⟩, k90_mk w ⟨ms, ⟨⟨hi, lo⟩, w1⟩, o, b⟩ hcap hC, trivial⟩
end
end Go.Proofs.YtdmieaidheelbaaDoor.Q
end
/- GangP -/
section
/- The plain law of package gang's match: paths that make one longer find a match of rows just if there is one. Lists and numbers alone. -/
namespace Go.Proofs.YtdmieaidheelbaaDoor.Q

def matchFrom : List (List Int) → List Int → Option (List Int)
  | [], taken => some taken
  | row :: rest, taken => row.findSome? fun c => if c ∈ taken then none else matchFrom rest (taken ++ [c])

def Sdr : List (List Int) → List Int → List Int → Prop
  | [], _, f => f = []
  | row :: rest, taken, f => ∃ c g, f = c :: g ∧ c ∈ row ∧ c ∉ taken ∧ Sdr rest (taken ++ [c]) g

theorem match_sdr (rows : List (List Int)) : ∀ taken m, matchFrom rows taken = some m → ∃ f, m = taken ++ f ∧ Sdr rows taken f := by
  induction rows with
  | nil => intro taken m h; exact ⟨[], by simpa [matchFrom] using h.symm, rfl⟩
  | cons row rest ih =>
    intro taken m h
    unfold matchFrom at h
    obtain ⟨c, hc, hm⟩ := List.exists_of_findSome?_eq_some h
    split at hm
    · cases hm
    · next hn =>
      obtain ⟨g, rfl, hg⟩ := ih _ _ hm
      exact ⟨c :: g, by simp, c, g, rfl, hc, hn, hg⟩
theorem sdr_match (rows : List (List Int)) : ∀ taken f, Sdr rows taken f → (matchFrom rows taken).isSome = true := by
  induction rows with
  | nil => intro taken f h; rfl
  | cons row rest ih =>
    rintro taken f ⟨c, g, rfl, hc, hn, hg⟩
    unfold matchFrom
    rw [List.findSome?_isSome_iff]
    exact ⟨c, hc, by rw [if_neg hn]; exact ih _ _ hg⟩
def rowAt (rows : List (List Int)) (i : Nat) : List Int := rows.getD i []
theorem sdr_fun (rows : List (List Int)) : ∀ taken f, Sdr rows taken f → (∀ i, i < rows.length → f.getD i 0 ∈ rowAt rows i ∧ f.getD i 0 ∉ taken) ∧ ∀ i j, i < rows.length → j < rows.length → f.getD i 0 = f.getD j 0 → i = j := by
  induction rows with
  | nil => intro taken f _; exact ⟨fun i hi => absurd hi (by simp), fun i j hi => absurd hi (by simp)⟩
  | cons row rest ih =>
    rintro taken f ⟨c, g, rfl, hc, hn, hg⟩
    obtain ⟨h1, h2⟩ := ih _ _ hg
    refine ⟨fun i hi => ?_, fun i j hi hj e => ?_⟩
    · cases i with
      | zero => exact ⟨by simpa [rowAt] using hc, by simpa using hn⟩
      | succ i =>
        have := h1 i (by simpa using hi)
        refine ⟨by simpa [rowAt] using this.1, fun h => this.2 ?_⟩
        simp only [List.getD_cons_succ] at h
        exact List.mem_append_left _ h
    · cases i with
      | zero =>
        cases j with
        | zero => rfl
        | succ j =>
          have := (h1 j (by simpa using hj)).2
          simp only [List.getD_cons_succ, List.getD_cons_zero] at e
          exact absurd (by simp [e]) this
      | succ i =>
        cases j with
        | zero =>
          have := (h1 i (by simpa using hi)).2
          simp only [List.getD_cons_succ, List.getD_cons_zero] at e
          exact absurd (by simp [← e]) this
        | succ j =>
          simp only [List.getD_cons_succ] at e
          rw [h2 i j (by simpa using hi) (by simpa using hj) e]
theorem fun_sdr (g : Nat → Int) : ∀ (rows : List (List Int)) (k : Nat) (taken : List Int), (∀ i, i < rows.length → g (k + i) ∈ rowAt rows i) → (∀ i j, i < k + rows.length → j < k + rows.length → g i = g j → i = j) → (∀ c ∈ taken, ∃ i, i < k ∧ c = g i) → ∃ f, Sdr rows taken f := by
  intro rows
  induction rows with
  | nil => intro k taken _ _ _; exact ⟨[], rfl⟩
  | cons row rest ih =>
    intro k taken h1 h2 h3
    obtain ⟨f, hf⟩ := ih (k + 1) (taken ++ [g k]) (fun i hi => by
        have := h1 (i + 1) (by simpa using hi)
        rw [show k + (i + 1) = k + 1 + i by omega] at this
        simpa [rowAt] using this)
      (fun i j hi hj e => h2 i j (by simp; omega) (by simp; omega) e)
      (fun c hc => by
        rcases List.mem_append.1 hc with hc | hc
        · obtain ⟨i, hi, rfl⟩ := h3 c hc
          exact ⟨i, by omega, rfl⟩
        · exact ⟨k, by omega, by simpa using hc⟩)
    refine ⟨g k :: f, g k, f, rfl, by have := h1 0 (by simp); simpa [rowAt] using this, fun hc => ?_, hf⟩
    obtain ⟨i, hi, e⟩ := h3 _ hc
    have := h2 k i (by simp) (by simp; omega) e
    omega

theorem nodup_le : ∀ (xs ys : List Int), xs.Nodup → (∀ x ∈ xs, x ∈ ys) → xs.length ≤ ys.length := by
  intro xs
  induction xs with
  | nil => intro ys _ _; simp
  | cons x xs ih =>
    intro ys hn hs
    obtain ⟨h1, h2⟩ := List.nodup_cons.1 hn
    have hx := hs x (by simp)
    have := ih (ys.erase x) h2 (fun y hy => (List.mem_erase_of_ne (fun e => h1 (by rw [← e]; exact hy))).2 (hs y (by simp [hy])))
    rw [List.length_erase_of_mem hx] at this
    have : 0 < ys.length := List.length_pos_of_mem hx
    simp; omega
theorem nodup_map (f : Int → Int) : ∀ (xs : List Int), xs.Nodup → (∀ x ∈ xs, ∀ y ∈ xs, f x = f y → x = y) → (xs.map f).Nodup := by
  intro xs
  induction xs with
  | nil => intro _ _; simp
  | cons x xs ih =>
    intro hn hi
    obtain ⟨h1, h2⟩ := List.nodup_cons.1 hn
    refine List.nodup_cons.2 ⟨fun h => ?_, ih h2 (fun a ha b hb => hi a (by simp [ha]) b (by simp [hb]))⟩
    obtain ⟨y, hy, e⟩ := List.mem_map.1 h
    have := hi y (by simp [hy]) x (by simp) e
    exact h1 (this ▸ hy)

section
variable (rows : List (List Int))
structure Before (a : Int → Bool) (h : Int → Option Nat) (i : Nat) : Prop where
  inj : ∀ c c' j, a c = false → a c' = false → h c = some j → h c' = some j → c = c'
  ok : ∀ c j, a c = false → h c = some j → j < rows.length ∧ c ∈ rowAt rows j
  new : ∀ c, a c = false → h c ≠ some i
  lt : i < rows.length
structure Found (a : Int → Bool) (h : Int → Option Nat) (i : Nat) (h' : Int → Option Nat) : Prop where
  keep : ∀ c, a c = true → h' c = h c
  inj : ∀ c c' j, a c = false → a c' = false → h' c = some j → h' c' = some j → c = c'
  ok : ∀ c j, a c = false → h' c = some j → j < rows.length ∧ c ∈ rowAt rows j ∧ (j = i ∨ ∃ c0, a c0 = false ∧ h c0 = some j)
  all : ∀ j, (j = i ∨ ∃ c0, a c0 = false ∧ h c0 = some j) → ∃ c, a c = false ∧ h' c = some j
structure Shut (a : Int → Bool) (h : Int → Option Nat) (a' : Int → Bool) : Prop where
  mono : ∀ c, a c = true → a' c = true
  shut : ∀ c, a' c = true → a c = false → (0 ≤ c ∧ c < 8) ∧ ∃ j, h c = some j ∧ j < rows.length ∧ ∀ c' ∈ rowAt rows j, a' c' = true
variable {rows}
def put (h : Int → Option Nat) (c : Int) (i : Nat) : Int → Option Nat := fun x => if x = c then some i else h x
def ask (a : Int → Bool) (c : Int) : Int → Bool := fun x => if x = c then true else a x
theorem Shut.refl (a : Int → Bool) (h : Int → Option Nat) : Shut rows a h a := ⟨fun _ h => h, fun c h1 h2 => by rw [h1] at h2; cases h2⟩
theorem Before.free {a a1 : Int → Bool} {h : Int → Option Nat} {i : Nat} {c : Int} (hb : Before rows a h i) (hs : Shut rows a h a1) (hc : c ∈ rowAt rows i) (hn : a1 c = false) (hh : h c = none) : Found rows a h i (put h c i) := by
  have hac : a c = false := by cases e : a c with | false => rfl | true => rw [hs.mono c e] at hn; cases hn
  refine ⟨fun x hx => ?_, fun x y j hx hy e1 e2 => ?_, fun x j hx e => ?_, fun j hj => ?_⟩
  · unfold put; rw [if_neg (fun e => by rw [e, hac] at hx; cases hx)]
  · unfold put at e1 e2
    split at e1
    · next g1 =>
      split at e2
      · next g2 => rw [g1, g2]
      · cases e1; exact absurd e2 (hb.new y hy)
    · split at e2
      · cases e2; exact absurd e1 (hb.new x hx)
      · exact hb.inj x y j hx hy e1 e2
  · unfold put at e
    split at e
    · next g => cases e; exact ⟨hb.lt, g ▸ hc, .inl rfl⟩
    · exact ⟨(hb.ok x j hx e).1, (hb.ok x j hx e).2, .inr ⟨x, hx, e⟩⟩
  · rcases hj with rfl | ⟨c0, h0, h1⟩
    · exact ⟨c, hac, by simp [put]⟩
    · exact ⟨c0, h0, by unfold put; rw [if_neg (fun e => by rw [e, hh] at h1; cases h1)]; exact h1⟩
theorem Before.next {a a1 : Int → Bool} {h : Int → Option Nat} {i j : Nat} {c : Int} (hb : Before rows a h i) (hs : Shut rows a h a1) (hn : a1 c = false) (hh : h c = some j) : Before rows (ask a1 c) h j := by
  have low : ∀ x, ask a1 c x = false → x ≠ c ∧ a x = false := fun x hx => by
    unfold ask at hx
    split at hx
    · cases hx
    · next g => exact ⟨g, by cases e : a x with | false => rfl | true => rw [hs.mono x e] at hx; cases hx⟩
  have hac : a c = false := by cases e : a c with | false => rfl | true => rw [hs.mono c e] at hn; cases hn
  exact ⟨fun x y k hx hy e1 e2 => hb.inj x y k (low x hx).2 (low y hy).2 e1 e2, fun x k hx e => hb.ok x k (low x hx).2 e, fun x hx e => (low x hx).1 (hb.inj x c j (low x hx).2 hac e hh), (hb.ok c j hac hh).1⟩
theorem Found.back {a a1 : Int → Bool} {h h2 : Int → Option Nat} {i j : Nat} {c : Int} (hb : Before rows a h i) (hs : Shut rows a h a1) (hc : c ∈ rowAt rows i) (hn : a1 c = false) (hh : h c = some j) (hf : Found rows (ask a1 c) h j h2) : Found rows a h i (put h2 c i) := by
  have hac : a c = false := by cases e : a c with | false => rfl | true => rw [hs.mono c e] at hn; cases hn
  have low : ∀ x, ask a1 c x = false → x ≠ c ∧ a x = false := fun x hx => by
    unfold ask at hx
    split at hx
    · cases hx
    · next g => exact ⟨g, by cases e : a x with | false => rfl | true => rw [hs.mono x e] at hx; cases hx⟩
  have hji : j ≠ i := fun e => hb.new c hac (e ▸ hh)
  have key : ∀ x k, a x = false → x ≠ c → h2 x = some k → (∃ y, y ≠ c ∧ a y = false ∧ h y = some k ∧ (ask a1 c x = true → y = x)) ∧ k < rows.length ∧ c ≠ x ∧ x ∈ rowAt rows k ∨ (k = j ∧ ask a1 c x = false ∧ k < rows.length ∧ x ∈ rowAt rows k) := by
    intro x k hx hxc e
    cases g : ask a1 c x with
    | true =>
      rw [hf.keep x g] at e
      exact .inl ⟨⟨x, hxc, hx, e, fun _ => rfl⟩, (hb.ok x k hx e).1, Ne.symm hxc, (hb.ok x k hx e).2⟩
    | false =>
      obtain ⟨q1, q2, q3⟩ := hf.ok x k g e
      rcases q3 with rfl | ⟨c0, g0, g1⟩
      · exact .inr ⟨rfl, rfl, q1, q2⟩
      · exact .inl ⟨⟨c0, (low c0 g0).1, (low c0 g0).2, g1, fun h => by cases h⟩, q1, Ne.symm hxc, q2⟩
  have noti : ∀ x, a x = false → x ≠ c → h2 x ≠ some i := fun x hx hxc e => by
    rcases key x i hx hxc e with ⟨⟨y, _, hy, hyk, _⟩, _⟩ | ⟨hk, _⟩
    · exact hb.new y hy hyk
    · exact hji hk.symm
  refine ⟨fun x hx => ?_, fun x y k hx hy e1 e2 => ?_, fun x k hx e => ?_, fun k hk => ?_⟩
  · have hxc : x ≠ c := fun e => by rw [e, hac] at hx; cases hx
    unfold put; rw [if_neg hxc]
    exact hf.keep x (by unfold ask; rw [if_neg hxc]; exact hs.mono x hx)
  · unfold put at e1 e2
    split at e1
    · next g1 =>
      split at e2
      · next g2 => rw [g1, g2]
      · next g2 => cases e1; exact absurd e2 (noti y hy g2)
    · next g1 =>
      split at e2
      · next g2 => cases e2; exact absurd e1 (noti x hx g1)
      · next g2 =>
        cases p : ask a1 c x with
        | false =>
          cases q : ask a1 c y with
          | false => exact hf.inj x y k p q e1 e2
          | true =>
            rw [hf.keep y q] at e2
            rcases (hf.ok x k p e1).2.2 with rfl | ⟨c0, g0, g3⟩
            · exact absurd (hb.inj y c k hy hac e2 hh) g2
            · have := hb.inj y c0 k hy (low c0 g0).2 e2 g3
              rw [← this, q] at g0; cases g0
        | true =>
          rw [hf.keep x p] at e1
          cases q : ask a1 c y with
          | false =>
            rcases (hf.ok y k q e2).2.2 with rfl | ⟨c0, g0, g3⟩
            · exact absurd (hb.inj x c k hx hac e1 hh) g1
            · have := hb.inj x c0 k hx (low c0 g0).2 e1 g3
              rw [← this, p] at g0; cases g0
          | true =>
            rw [hf.keep y q] at e2
            exact hb.inj x y k hx hy e1 e2
  · unfold put at e
    split at e
    · next g => cases e; exact ⟨hb.lt, g ▸ hc, .inl rfl⟩
    · next g =>
      rcases key x k hx g e with ⟨⟨y, _, hy, hyk, _⟩, q1, _, q2⟩ | ⟨rfl, _, q1, q2⟩
      · exact ⟨q1, q2, .inr ⟨y, hy, hyk⟩⟩
      · exact ⟨q1, q2, .inr ⟨c, hac, hh⟩⟩
  · rcases hk with rfl | ⟨c0, h0, h1⟩
    · exact ⟨c, hac, by simp [put]⟩
    · by_cases g : c0 = c
      · subst g
        rw [hh] at h1
        obtain ⟨x, hx, e⟩ := hf.all k (.inl (by cases h1; rfl))
        exact ⟨x, (low x hx).2, by unfold put; rw [if_neg (low x hx).1]; exact e⟩
      · cases p : ask a1 c c0 with
        | true => exact ⟨c0, h0, by unfold put; rw [if_neg g, hf.keep c0 p]; exact h1⟩
        | false =>
          obtain ⟨x, hx, e⟩ := hf.all k (.inr ⟨c0, p, h1⟩)
          exact ⟨x, (low x hx).2, by unfold put; rw [if_neg (low x hx).1]; exact e⟩
theorem Shut.more {a a1 a2 : Int → Bool} {h : Int → Option Nat} {j : Nat} {c : Int} (hs : Shut rows a h a1) (hc : 0 ≤ c ∧ c < 8) (hh : h c = some j) (hj : j < rows.length) (h2 : Shut rows (ask a1 c) h a2) (hr : ∀ c' ∈ rowAt rows j, a2 c' = true) : Shut rows a h a2 := by
  have up : ∀ x, a1 x = true → a2 x = true := fun x hx => h2.mono x (by unfold ask; split <;> simp [hx])
  refine ⟨fun x hx => up x (hs.mono x hx), fun x hx hxa => ?_⟩
  by_cases g : x = c
  · subst g
    exact ⟨hc, j, hh, hj, hr⟩
  · cases p : a1 x with
    | true =>
      obtain ⟨q1, k, q2, q3, q4⟩ := hs.shut x p hxa
      exact ⟨q1, k, q2, q3, fun y hy => up y (q4 y hy)⟩
    | false => exact h2.shut x hx (by unfold ask; rw [if_neg g]; exact p)

structure Sat (rows : List (List Int)) (h : Int → Option Nat) (i : Nat) : Prop where
  inj : ∀ c c' j, h c = some j → h c' = some j → c = c'
  ok : ∀ c j, h c = some j → j < i ∧ c ∈ rowAt rows j
  all : ∀ j, j < i → ∃ c, h c = some j
theorem Sat.nil (rows : List (List Int)) : Sat rows (fun _ => none) 0 := ⟨(fun _ _ _ h => by cases h), (fun _ _ h => by cases h), (fun _ h => by omega)⟩
def noneAsked : Int → Bool := fun _ => false
theorem Sat.before {h : Int → Option Nat} {i : Nat} (hs : Sat rows h i) (hi : i < rows.length) : Before rows noneAsked h i :=
  ⟨fun c c' j _ _ => hs.inj c c' j, fun c j _ e => ⟨by have := (hs.ok c j e).1; omega, (hs.ok c j e).2⟩, fun c _ e => by have := (hs.ok c i e).1; omega, hi⟩
theorem Sat.step {h h' : Int → Option Nat} {i : Nat} (hs : Sat rows h i) (hf : Found rows noneAsked h i h') : Sat rows h' (i + 1) :=
  ⟨fun c c' j e1 e2 => hf.inj c c' j rfl rfl e1 e2, fun c j e => by
      obtain ⟨h1, h2, h3⟩ := hf.ok c j rfl e
      refine ⟨?_, h2⟩
      rcases h3 with rfl | ⟨c0, _, g⟩
      · omega
      · have := (hs.ok c0 j g).1; omega,
    fun j hj => by
      by_cases e : j = i
      · obtain ⟨c, _, hc⟩ := hf.all j (.inl e); exact ⟨c, hc⟩
      · obtain ⟨c0, g⟩ := hs.all j (by omega)
        obtain ⟨c, _, hc⟩ := hf.all j (.inr ⟨c0, rfl, g⟩); exact ⟨c, hc⟩⟩
theorem Sat.done {h : Int → Option Nat} (hs : Sat rows h rows.length) : (matchFrom rows []).isSome = true := by
  have hg : ∀ j, ∃ c, j < rows.length → h c = some j := fun j => by
    by_cases hj : j < rows.length
    · obtain ⟨c, hc⟩ := hs.all j hj; exact ⟨c, fun _ => hc⟩
    · exact ⟨0, fun h => absurd h hj⟩
  obtain ⟨f, hf⟩ := fun_sdr (fun j => (hg j).choose) rows 0 [] (fun i hi => by
      have := (hg i).choose_spec hi
      rw [Nat.zero_add]
      exact (hs.ok _ _ this).2)
    (fun i j hi hj e => by
      have h1 := (hg i).choose_spec (by omega)
      have h2 := (hg j).choose_spec (by omega)
      rw [e, h2] at h1
      exact (Option.some.inj h1).symm)
    (fun c hc => by cases hc)
  exact sdr_match rows [] f hf
theorem Sat.fail {h : Int → Option Nat} {i : Nat} {a' : Int → Bool} (hs : Sat rows h i) (hi : i < rows.length) (hsh : Shut rows noneAsked h a') (hr : ∀ c ∈ rowAt rows i, a' c = true) : (matchFrom rows []).isSome = false := by
  cases hm : (matchFrom rows []).isSome with
  | false => rfl
  | true =>
    exfalso
    obtain ⟨m, hm⟩ := Option.isSome_iff_exists.1 hm
    obtain ⟨f, _, hf⟩ := match_sdr rows [] m hm
    obtain ⟨g1, g2⟩ := sdr_fun rows [] f hf
    have hA : ∃ A : List Int, A.Nodup ∧ ∀ c, c ∈ A ↔ a' c = true := by
      refine ⟨[0, 1, 2, 3, 4, 5, 6, 7].filter a', List.Pairwise.filter _ (by decide), fun c => ?_⟩
      rw [List.mem_filter]
      refine ⟨fun h => h.2, fun h => ⟨?_, h⟩⟩
      have := (hsh.shut c h rfl).1
      have : c = 0 ∨ c = 1 ∨ c = 2 ∨ c = 3 ∨ c = 4 ∨ c = 5 ∨ c = 6 ∨ c = 7 := by omega
      simpa using this
    obtain ⟨A, hAn, hA⟩ := hA
    have hj : ∀ c ∈ A, ∃ j, h c = some j ∧ j < rows.length ∧ ∀ c' ∈ rowAt rows j, c' ∈ A := fun c hc => by
      obtain ⟨_, j, h1, h2, h3⟩ := hsh.shut c ((hA c).1 hc) rfl
      exact ⟨j, h1, h2, fun c' hc' => (hA c').2 (h3 c' hc')⟩
    have hle := nodup_le (f.getD i 0 :: A.map (fun c => f.getD ((h c).getD 0) 0)) A ?_ ?_
    · simp at hle
      omega
    · refine List.nodup_cons.2 ⟨fun hx => ?_, nodup_map _ _ hAn (fun x hx y hy e => ?_)⟩
      · obtain ⟨c, hc, e⟩ := List.mem_map.1 hx
        obtain ⟨j, h1, h2, _⟩ := hj c hc
        rw [h1, Option.getD_some] at e
        have := g2 j i h2 hi e
        subst this
        have := (hs.ok c _ h1).1
        omega
      · obtain ⟨j, h1, h2, _⟩ := hj x hx
        obtain ⟨j', h1', h2', _⟩ := hj y hy
        rw [h1, h1', Option.getD_some, Option.getD_some] at e
        have := g2 j j' h2 h2' e
        subst this
        exact hs.inj x y j h1 h1'
    · intro x hx
      rcases List.mem_cons.1 hx with rfl | hx
      · exact (hA _).2 (hr _ (g1 i hi).1)
      · obtain ⟨c, hc, rfl⟩ := List.mem_map.1 hx
        obtain ⟨j, h1, h2, h3⟩ := hj c hc
        rw [h1, Option.getD_some]
        exact h3 _ (g1 j h2).1
end

def one (b : Bool) : Nat := if b then 0 else 1
def unasked (a : Int → Bool) : Nat := one (a 0) + one (a 1) + one (a 2) + one (a 3) + one (a 4) + one (a 5) + one (a 6) + one (a 7)
theorem one_le (b : Bool) : one b ≤ 1 := by cases b <;> decide
theorem unasked_le (a : Int → Bool) : unasked a ≤ 8 := by
  have := one_le (a 0); have := one_le (a 1); have := one_le (a 2); have := one_le (a 3); have := one_le (a 4); have := one_le (a 5); have := one_le (a 6); have := one_le (a 7)
  unfold unasked; omega
theorem unasked_ask (a : Int → Bool) (c : Int) (hc : 0 ≤ c ∧ c < 8) (hn : a c = false) : unasked (ask a c) + 1 = unasked a := by
  have : c = 0 ∨ c = 1 ∨ c = 2 ∨ c = 3 ∨ c = 4 ∨ c = 5 ∨ c = 6 ∨ c = 7 := by omega
  rcases this with rfl | rfl | rfl | rfl | rfl | rfl | rfl | rfl <;> simp [unasked, ask, hn, one] <;> omega

theorem match_singles (rest : List (List Int)) : ∀ (out pre : List Int), (pre ++ out).Nodup → matchFrom (out.map (fun c => [c]) ++ rest) pre = matchFrom rest (pre ++ out) := by
  intro out
  induction out with
  | nil => intro pre _; simp
  | cons c out ih =>
    intro pre h
    have hn : c ∉ pre := fun hc => by
      have := (List.nodup_append.1 h).2.2 c hc c (by simp)
      exact this rfl
    rw [List.map_cons, List.cons_append, matchFrom]
    simp only [List.findSome?_cons, List.findSome?_nil]
    rw [if_neg hn, ih (pre ++ [c]) (by simpa using h)]
    rw [List.append_assoc, List.singleton_append]
    cases matchFrom rest (pre ++ c :: out) <;> rfl
end Go.Proofs.YtdmieaidheelbaaDoor.Q
end
/- Turned -/
section
/- What a loop over an iterator may turn: the words that its invariants are made of. -/
namespace Go.Proofs.YtdmieaidheelbaaDoor.Q
open Go Go.RowKit Go.Shelf Go.Proofs.YtdmieaidheelbaaDoor.Rng Go.Proofs.YtdmieaidheelbaaDoorW.PrintWords
set_option linter.unusedVariables false

structure Turned (base : Nat) (own : Nat → Prop) (w w' : World) : Prop where
  os : w'.os = w.os
  tape : w'.tape = w.tape
  output : w'.output = w.output
  size : w.heap.size ≤ w'.heap.size
  block : ∀ k, k < base → ¬ own k → w'.heap[k]? = w.heap[k]?
variable {base : Nat} {own : Nat → Prop}
theorem Turned.refl (base : Nat) (own : Nat → Prop) (w : World) : Turned base own w w := ⟨rfl, rfl, rfl, Nat.le_refl _, fun _ _ _ => rfl⟩
theorem Turned.trans {a b c : World} (h : Turned base own a b) (k : Turned base own b c) : Turned base own a c :=
  ⟨k.os.trans h.os, k.tape.trans h.tape, k.output.trans h.output, Nat.le_trans h.size k.size, fun i hi hn => (k.block i hi hn).trans (h.block i hi hn)⟩
theorem Turned.weaken {own' : Nat → Prop} {a b : World} (h : Turned base own a b) (hw : ∀ k, own k → own' k) : Turned base own' a b := ⟨h.os, h.tape, h.output, h.size, fun k hk hn => h.block k hk (fun e => hn (hw k e))⟩
theorem Turned.alloc {a w : World} (h : Turned base own a w) (hB : base ≤ w.heap.size) (o : Obj) : Turned base own a (w.alloc o) :=
  h.trans ⟨rfl, rfl, rfl, by simp, fun k hk _ => Below.heap_alloc _ _ _ (by omega)⟩
theorem Turned.setCell {a w : World} (h : Turned base own a w) {p : Addr} (hp : own p.block ∨ base ≤ p.block) (u : Value) : Turned base own a (w.setCell p u) :=
  h.trans ⟨rfl, rfl, rfl, by simp [World.setCell], fun k hk hn => Below.heap_setCell _ _ _ _ (fun e => by subst e; rcases hp with hp | hp; exact hn hp; omega)⟩
theorem Turned.grown {a w w' : World} {row : Option Nat} (h : Turned base own a w) (hg : w.grownBy w' row) (hB : base ≤ w.heap.size) (hr : ∀ k, row = some k → own k ∨ base ≤ k) : Turned base own a w' :=
  h.trans ⟨hg.os, hg.tape, hg.output, hg.size, fun k hk hn => hg.block k (by omega) (fun e => by rcases hr k e.symm with h | h; exact hn h; omega)⟩
theorem Turned.drew {a w : World} (h : Turned base own a w) : Turned base own a w.drew := ⟨h.os, h.tape, h.output, h.size, h.block⟩
theorem Turned.below {n₀ : Nat} {w w' : World} (h : Turned base own w w') (hn : n₀ ≤ base) (ho : ∀ k, own k → n₀ ≤ k) : Below n₀ w w' :=
  ⟨h.os, h.tape, h.output, h.size, fun k hk => h.block k (by omega) (fun e => by have := ho k e; omega)⟩
theorem Turned.same {keep : Nat → Prop} {w w' : World} (h : Turned base own w w') (hk : ∀ k, keep k → k < base ∧ ¬ own k) : Same keep w w' := fun k hk' => h.block k (hk k hk').1 (hk k hk').2
theorem Turned.boxed {w w' : World} (h : Turned base own w w') {b : Nat} {t : TypeId} {v : Value} (hb : Boxed w b t v) (hlt : b < base) (hn : ¬ own b) : Boxed w' b t v := (h.block b hlt hn).trans hb
def Held (W : World) (base B : Nat) (t e : TypeId) (size k : Nat) (xs : List Value) : Prop := ∃ v, Boxed W B t v ∧ W.ownsRow base e size v k xs
theorem row_far {W Y : World} {base : Nat} {e : TypeId} {size : Nat} {v : Value} {k : Nat} {xs : List Value} {r : Nat} (h : W.ownsRow base e size v k xs) (hg : W.grownBy Y (some r)) (hr : r < base ∨ ∃ o : Obj, W.heap[r]? = some o ∧ o.isCells = false) : Y.ownsRow base e size v k xs := by
  refine h.kept hg ?_
  rcases h.2 with ⟨rfl, _⟩ | ⟨g, cap, cur, rfl, hgb, hgc, _⟩
  · exact .inl rfl
  · refine .inr (fun e => ?_)
    obtain rfl : g = r := by simpa [Value.ownBlock] using e
    rcases hr with hr | ⟨o, ho, hcl⟩
    · omega
    · rw [hgc] at ho; cases ho; cases hcl
theorem Held.far {W Y : World} {base B : Nat} {t e : TypeId} {size k : Nat} {xs : List Value} {r : Nat} (h : Held W base B t e size k xs) (hg : W.grownBy Y (some r)) (hr : (r < base ∧ r ≠ B) ∨ ∃ o : Obj, W.heap[r]? = some o ∧ o.isCells = false) : Held Y base B t e size k xs := by
  obtain ⟨v, h1, h2⟩ := h
  refine ⟨v, h1.kept hg (fun e => ?_), row_far h2 hg (hr.imp_left And.left)⟩
  obtain rfl : B = r := by injection e
  rcases hr with ⟨_, hr⟩ | ⟨o, ho, hcl⟩
  · exact hr rfl
  · rw [show W.heap[B]? = _ from h1] at ho; cases ho; cases hcl
theorem Held.step {W Y : World} {base B : Nat} {t e : TypeId} {size k : Nat} {xs : List Value} (h : Held W base B t e size k xs) (hb : Below W.heap.size W Y) : Held Y base B t e size k xs := by
  obtain ⟨v, h1, h2⟩ := h
  exact ⟨v, (hb.block B h1.lt).trans h1, pw_own_below h2 hb⟩
theorem Held.alloc {W : World} {base B : Nat} {t e : TypeId} {size k : Nat} {xs : List Value} (h : Held W base B t e size k xs) (o : Obj) : Held (W.alloc o) base B t e size k xs := h.step ((Below.refl _ _).alloc (Nat.le_refl _) _)

theorem appended2 {W w1 : World} {base B : Nat} {own : Nat → Prop} {t e : TypeId} {size : Nat} {v v' : Value} {k m : Nat} {xs ys : List Value} {tmp : Obj}
    (hv : Boxed W B t v) (hte : t ≠ e) (hrow : W.ownsRow base e size v k xs) (hb : base ≤ W.heap.size) (hB : own B)
    (hown' : w1.ownsRow base e size v' m ys) (hgrow : (W.alloc tmp).grownBy w1 v.ownBlock) :
    Boxed w1 B t v ∧ Held (w1.setCell ⟨B, 0, none⟩ v') base B t e size m ys ∧ KeepsOthers W (w1.setCell ⟨B, 0, none⟩ v') ∧ Turned base own W (w1.setCell ⟨B, 0, none⟩ v') := by
  have hv1 : Boxed w1 B t v := (hv.alloc tmp).kept hgrow (hv.not_row hte hrow)
  refine ⟨hv1, ⟨v', hv1.set v', hown'.kept (grownBy_setCell' w1 B v') (.inr (hv1.not_row hte hown').symm)⟩, ?_, ?_⟩
  · refine ((KeepsOthers.alloc W tmp).trans (KeepsOthers.of_grownBy hgrow fun j o ej hj => ?_)).trans (KeepsOthers.setCell _ _ _)
    rcases (hrow.alloc tmp).2 with ⟨rfl, _⟩ | ⟨g, cap, cur, rfl, _, hgb, _⟩
    · simp [Value.ownBlock] at ej
    · obtain rfl : g = j := by simpa [Value.ownBlock] using ej
      rw [hgb] at hj; cases hj; rfl
  · refine (((Turned.refl base own W).alloc hb tmp).grown hgrow (by simp; omega) fun j ej => ?_).setCell (p := ⟨B, 0, none⟩) (.inl hB) v'
    rcases hrow.2 with ⟨rfl, _⟩ | ⟨g, cap, cur, rfl, hgb, _, _⟩
    · simp [Value.ownBlock] at ej
    · obtain rfl : g = j := by simpa [Value.ownBlock] using ej
      exact .inr hgb
end Go.Proofs.YtdmieaidheelbaaDoor.Q
end
/- Gang -/
section
/- gang.matching by its contract: the recursive closure that seeks a path, over two maps. -/
namespace Go.Proofs.YtdmieaidheelbaaDoor.Q
open Go Go.RowKit Go.Shelf Go.Proofs.YtdmieaidheelbaaDoor.Rng Go.Proofs.YtdmieaidheelbaaDoorW.PrintWords Go.Proofs.YtdmieaidheelbaaDoorW.PrintLast Go.Proofs.YtdmieaidheelbaaDoorW.PrintMore
open Go.Maps (Keyed IsMap)
set_option linter.unusedVariables false
set_option linter.unusedSimpArgs false

theorem lawG : Keyed Tryd.prog 3 := Maps.int_keyed Tryd.underlying3
theorem wfG {n : Int} (h0 : -1000000 ≤ n) (h1 : n ≤ 1000000) : (Lit.int .i64 n).wf = true := by
  have a : IntKind.i64.min = -9223372036854775808 := by decide +kernel
  have b : IntKind.i64.max = 9223372036854775807 := by decide +kernel
  show (decide (IntKind.i64.min ≤ n) && decide (n ≤ IntKind.i64.max)) = true
  rw [a, b]; simp; omega
theorem plainElem_bool_inv {P : Program} {e : TypeId} (he : P.underlying e = some .bool) {v : Value} {z : DataW Unit × List MemPlace} (h : plainElem P e v = some z) : ∃ a, v = .bool a ∧ z = (.lit (.bool a), []) := by
  unfold plainElem at h
  rw [he] at h
  cases v <;> simp at h
  obtain rfl := h
  exact ⟨_, rfl, rfl⟩
theorem keyG {n : Int} (h : (Lit.int .i64 n).wf = true) : WideAt.IsKeyLit (.int .i64 n) := lawG.key (Maps.keyOf_int_mk Tryd.underlying3 h)
theorem lit_ne {v c : Int} (h : v ≠ c) : Lit.int .i64 v ≠ Lit.int .i64 c := fun e => by injection e with _ e; exact h e

def AskMap (a : Int → Bool) (D : DataW Unit) : Prop := ∀ v : Int, (Lit.int .i64 v).wf = true → D.atKey (.int .i64 v) (.lit (.bool false)) = .lit (.bool (a v))
theorem AskMap.nil : AskMap noneAsked (.map []) := fun v _ => rfl
theorem AskMap.store {a : Int → Bool} {D : DataW Unit} (h : AskMap a D) (hD : IsMap D) {c : Int} (hc : (Lit.int .i64 c).wf = true) : AskMap (ask a c) (D.put (.int .i64 c) (.lit (.bool true))) := fun v hv => by
  unfold ask
  by_cases e : v = c
  · subst e
    rw [if_pos rfl]; exact Maps.atKey_put_same hD (keyG hc) _ _
  · rw [if_neg e, Maps.atKey_put_other (lit_ne e)]; exact h v hv
def HasMap (h : Int → Option Nat) (D : DataW Unit) : Prop := ∀ v : Int, (Lit.int .i64 v).wf = true → match h v with
  | some j => Maps.has D (.int .i64 v) = true ∧ D.atKey (.int .i64 v) (.lit (.int .i64 0)) = .lit (.int .i64 (j : Nat))
  | none => Maps.has D (.int .i64 v) = false
theorem HasMap.nil : HasMap (fun _ => none) (.map []) := fun v _ => by simp [Maps.has_eq]
theorem HasMap.store {g : Int → Option Nat} {D : DataW Unit} (h : HasMap g D) (hD : IsMap D) {c : Int} (hc : (Lit.int .i64 c).wf = true) (i : Nat) : HasMap (put g c i) (D.put (.int .i64 c) (.lit (.int .i64 (i : Nat)))) := fun v hv => by
  unfold put
  by_cases e : v = c
  · subst e
    rw [if_pos rfl]
    exact ⟨Maps.has_put_same hD (keyG hc) _, Maps.atKey_put_same hD (keyG hc) _ _⟩
  · rw [if_neg e]
    have := h v hv
    revert this
    cases g v with
    | none => intro h; simp only at h ⊢; rw [Maps.has_put_other (lit_ne e)]; exact h
    | some c => intro h; simp only at h ⊢; rw [Maps.has_put_other (lit_ne e), Maps.atKey_put_other (lit_ne e)]; exact h

def RowsAt (W : World) (n₀ : Nat) (A : Option Addr) (rows : List (List Int)) : Prop := ∀ i, i < rows.length → ∃ ad Ai ci, A = some ad ∧ ad.block < n₀ ∧ W.cell? (ad.add i) = some (.slice Ai (rowAt rows i).length ci) ∧
  ∀ k, k < (rowAt rows i).length → ∃ ai, Ai = some ai ∧ ai.block < n₀ ∧ W.cell? (ai.add k) = some (.int .i64 (rd (rowAt rows i) k))
theorem addr_block (a : Addr) (n : Nat) : (a.add n).block = a.block := by unfold Addr.add; split <;> rfl
theorem RowsAt.of {w : World} {A : Option Addr} {rows : List (List Int)} (h : Kd.C (Kd.slice 3 (Kd.int .i64)) w A rows.length rows) : RowsAt w w.heap.size A rows := fun i hi => by
  obtain ⟨ad, Ai, ci, e, h0, h1, h2⟩ := at_L7 h (i : Int) (by omega) (by omega)
  rw [Int.toNat_natCast] at h0
  have er : rd_L7 rows (i : Int) = rowAt rows i := by simp [rd_L7, rowAt]
  rw [er] at h0 h2
  refine ⟨ad, Ai, ci, e, by have := World.block_lt_of_cell? w _ h0; rwa [addr_block] at this, h0, fun k hk => ?_⟩
  obtain ⟨ai, e2, hx⟩ := Kd.at_int h2 (k : Int) (by omega) (by omega)
  rw [Int.toNat_natCast] at hx
  exact ⟨ai, e2, by have := World.block_lt_of_cell? w _ hx; rwa [addr_block] at this, hx⟩
theorem RowsAt.same {W W' : World} {n₀ : Nat} {A : Option Addr} {rows : List (List Int)} (h : RowsAt W n₀ A rows) (hs : ∀ k, k < n₀ → W'.heap[k]? = W.heap[k]?) : RowsAt W' n₀ A rows := fun i hi => by
  obtain ⟨ad, Ai, ci, e, hb, h0, h1⟩ := h i hi
  refine ⟨ad, Ai, ci, e, hb, (World.cell?_of_block (w := W) (hs _ (by rw [addr_block]; exact hb))).trans h0, fun k hk => ?_⟩
  obtain ⟨ai, e2, hb2, hx⟩ := h1 k hk
  exact ⟨ai, e2, hb2, (World.cell?_of_block (w := W) (hs _ (by rw [addr_block]; exact hb2))).trans hx⟩

def GiveW (W : World) (n₀ : Nat) (A : Option Addr) (cap : Nat) (rows : List (List Int)) : Prop :=
  Boxed W n₀ 141 (.slice A rows.length cap) ∧ Boxed W (n₀ + 1 + 1) 70 (.map (some (n₀ + 1))) ∧
  Boxed W (n₀ + 1 + 1 + 1) 169 (.func (.func 133) #[] #[.pointer (some ⟨n₀, 0, none⟩), .pointer (some ⟨n₀ + 1 + 1, 0, none⟩), .pointer (some ⟨n₀ + 1 + 1 + 1, 0, none⟩)]) ∧ RowsAt W n₀ A rows
theorem GiveW.turned {W W' : World} {n₀ ba : Nat} {A : Option Addr} {cap : Nat} {rows : List (List Int)} (h : GiveW W n₀ A cap rows) (ht : Turned W.heap.size (fun k => k = n₀ + 1 ∨ k = ba) W W') (hba : n₀ + 4 ≤ ba) : GiveW W' n₀ A cap rows := by
  obtain ⟨h1, h2, h3, h4⟩ := h
  have := h3.lt
  exact ⟨ht.boxed h1 h1.lt (by omega), ht.boxed h2 h2.lt (by omega), ht.boxed h3 h3.lt (by omega), h4.same (fun k hk => ht.block k (by omega) (by omega))⟩
theorem GiveW.step {W W' : World} {n₀ : Nat} {A : Option Addr} {cap : Nat} {rows : List (List Int)} (h : GiveW W n₀ A cap rows) (hb : Below W.heap.size W W') : GiveW W' n₀ A cap rows := by
  obtain ⟨h1, h2, h3, h4⟩ := h
  have := h3.lt
  exact ⟨(hb.block _ h1.lt).trans h1, (hb.block _ h2.lt).trans h2, (hb.block _ h3.lt).trans h3, h4.same (fun k hk => hb.block k (by omega))⟩

def Gave (rows : List (List Int)) (a : Int → Bool) (h : Int → Option Nat) (i n₀ ba na nh : Nat) (W : World) (e : Ending) (W' : World) : Prop :=
  ∃ (r : Bool) (a' : Int → Bool) (h' : Int → Option Nat) (na' nh' : Nat) (Da' Dh' : DataW Unit), e = .returned (.bool r) ∧ Turned W.heap.size (fun k => k = n₀ + 1 ∨ k = ba) W W' ∧
    W'.ownsMap Tryd.prog 3 (plainElem Tryd.prog 4) ba na' Da' ∧ AskMap a' Da' ∧ W'.ownsMap Tryd.prog 3 (plainElem Tryd.prog 3) (n₀ + 1) nh' Dh' ∧ HasMap h' Dh' ∧
    na' + unasked a' ≤ na + unasked a ∧ nh' + unasked a' ≤ nh + unasked a ∧
    (match r with | true => Found rows a h i h' | false => h' = h ∧ Shut rows a h a' ∧ ∀ c ∈ rowAt rows i, a' c = true)
theorem turned_map {base b : Nat} {own : Nat → Prop} {W W1 W2 : World} (h : Turned base own W W1) (hg : W1.grownBy W2 (some b)) (hb : own b) (hs : base ≤ W1.heap.size) : Turned base own W W2 :=
  h.grown hg hs (fun k e => by cases e; exact .inl hb)
theorem turned_lower {b base : Nat} {own : Nat → Prop} {W W1 : World} (h : Turned b own W W1) (hb : base ≤ b) : Turned base own W W1 := ⟨h.os, h.tape, h.output, h.size, fun k hk hn => h.block k (by omega) hn⟩
theorem lit_inj {a b : Int} {p q : List MemPlace} (h : ((DataW.lit (.int .i64 a) : DataW Unit), p) = (.lit (.int .i64 b), q)) : a = b := by
  injection h with h _
  injection h with h
  injection h
theorem unasked_mono {rows : List (List Int)} {a a1 : Int → Bool} {h : Int → Option Nat} (hs : Shut rows a h a1) : unasked a1 ≤ unasked a := by
  have one_mono : ∀ c, one (a1 c) ≤ one (a c) := fun c => by
    cases e : a c with
    | true => rw [hs.mono c e]; exact Nat.le_refl _
    | false => exact one_le _
  have := one_mono 0; have := one_mono 1; have := one_mono 2; have := one_mono 3; have := one_mono 4; have := one_mono 5; have := one_mono 6; have := one_mono 7
  unfold unasked; omega
set_option maxRecDepth 100000 in
set_option maxHeartbeats 4000000 in
theorem gives_step (n₀ : Nat) (A : Option Addr) (cap : Nat) (rows : List (List Int)) (hokr : ∀ i, i < rows.length → (rowAt rows i).length ≤ 1000000 ∧ ∀ c ∈ rowAt rows i, 0 ≤ c ∧ c < 8) (hrl : rows.length ≤ 8)
    (ba : Nat) (hba : n₀ + 4 ≤ ba) (i : Nat) (a : Int → Bool) (h : Int → Option Nat) (na nh : Nat) (Da Dh : DataW Unit) (W : World) (hb : Before rows a h i) (hg : GiveW W n₀ A cap rows)
    (hma : W.ownsMap Tryd.prog 3 (plainElem Tryd.prog 4) ba na Da) (ham : AskMap a Da) (hmh : W.ownsMap Tryd.prog 3 (plainElem Tryd.prog 3) (n₀ + 1) nh Dh) (hhm : HasMap h Dh)
    (hna : na + unasked a ≤ 1000) (hnh : nh + unasked a ≤ 1000)
    (ih : ∀ i1 a1 na1 nh1 Da1 Dh1 W1, unasked a1 < unasked a → Before rows a1 h i1 → GiveW W1 n₀ A cap rows → W1.ownsMap Tryd.prog 3 (plainElem Tryd.prog 4) ba na1 Da1 → AskMap a1 Da1 →
      W1.ownsMap Tryd.prog 3 (plainElem Tryd.prog 3) (n₀ + 1) nh1 Dh1 → HasMap h Dh1 → na1 + unasked a1 ≤ 1000 → nh1 + unasked a1 ≤ 1000 →
      Calls Tryd.prog 133 #[.int .i64 i1, .map (some ba), .pointer (some ⟨n₀, 0, none⟩), .pointer (some ⟨n₀ + 1 + 1, 0, none⟩), .pointer (some ⟨n₀ + 1 + 1 + 1, 0, none⟩)] W1 (Gave rows a1 h i1 n₀ ba na1 nh1 W1)) :
    Calls Tryd.prog 133 #[.int .i64 i, .map (some ba), .pointer (some ⟨n₀, 0, none⟩), .pointer (some ⟨n₀ + 1 + 1, 0, none⟩), .pointer (some ⟨n₀ + 1 + 1 + 1, 0, none⟩)] W (Gave rows a h i n₀ ba na nh W) := by
  have hil := hb.lt
  obtain ⟨hrw, hrg⟩ := hokr i hil
  have HG := Aside0.mk hg
  obtain ⟨h1, h2, h3, h4⟩ := hg
  obtain ⟨ad, Ai, ci, rfl, had, hx, hrow⟩ := h4 i hil
  have c1 := h1.cell
  have c3 := h3.lt
  have HIH := Aside0.mk ih
  have HB := Aside0.mk hb
  have HMA := Aside0.mk hma
  have HAM := Aside0.mk ham
  have HMH := Aside0.mk hmh
  have HHM := Aside0.mk hhm
  have HRG := Aside0.mk hrg
  have HRW := Aside0.mk hrow
  have HSZ := Aside0.mk c3
  clear ih hb hma ham hmh hhm h1 h2 h3 h4 hrg hrow hokr c3
  have hrow : rowAt rows i = rowAt rows i := rfl
  go_enter Tryd.func133, Tryd.ntmps133
  go_wp2
  clear c1 hx hrow
  generalize hrr : rowAt rows i = row at *
  have HRR := Aside0.mk hrr
  clear hrr
  go_loopw [17] (fun s17 wr => ∃ (k : Nat) (a1 : Int → Bool) (na1 nh1 : Nat) (Da1 Dh1 : DataW Unit), k ≤ row.length ∧ s17 = .int .i64 k ∧ Aside0 (Turned W.heap.size (fun k => k = n₀ + 1 ∨ k = ba) W wr) ∧ Aside0 (GiveW wr n₀ (some ad) cap rows) ∧
      Aside0 (wr.ownsMap Tryd.prog 3 (plainElem Tryd.prog 4) ba na1 Da1) ∧ Aside0 (AskMap a1 Da1) ∧ Aside0 (wr.ownsMap Tryd.prog 3 (plainElem Tryd.prog 3) (n₀ + 1) nh1 Dh1) ∧ Aside0 (HasMap h Dh1) ∧
      Aside0 (na1 + unasked a1 ≤ na + unasked a) ∧ Aside0 (nh1 + unasked a1 ≤ nh + unasked a) ∧ Aside0 (Shut rows a h a1) ∧ Aside0 (∀ c ∈ row.take k, a1 c = true))
    (fun s17 _ => row.length - (intOf s17).toNat)
  case atStart => exact ⟨0, a, na, nh, Da, Dh, Nat.zero_le _, rfl, ⟨Turned.refl _ _ _⟩, HG, HMA, HAM, HMH, HHM, ⟨Nat.le_refl _⟩, ⟨Nat.le_refl _⟩, ⟨Shut.refl _ _⟩, ⟨fun c hc => by simp at hc⟩⟩
  case round =>
    obtain ⟨k, a1, na1, nh1, Da1, Dh1, hk, rfl, HT, HGr, HMA1, HAM1, HMH1, HHM1, HNA, HNH, HSH, HTK⟩ := hrel
    clear HMA HAM HMH HHM
    by_cases hlt : k < row.length
    case neg =>
      obtain rfl : k = row.length := by omega
      have htk := HTK.out
      rw [List.take_length] at htk
      have HTL := Aside0.mk htk
      clear htk HTK hlt HRW
      go_wp2
      go_ret
      exact ⟨false, a1, h, na1, nh1, Da1, Dh1, rfl, HT.out, HMA1.out, HAM1.out, HMH1.out, HHM1.out, HNA.out, HNH.out, rfl, HSH.out, by rw [HRR.out]; exact HTL.out⟩
    case pos =>
    obtain ⟨ai, rfl, hai, hcell0⟩ := HRW.out k hlt
    have hsz := HSZ.out
    have hcell := (World.cell?_of_block (w := W) (HT.out.block _ (by rw [addr_block]; omega) (by rw [addr_block]; omega))).trans hcell0
    have hst := List.take_succ_eq_append_getElem hlt
    have er : row[k] = rd row (k : Int) := by simp [rd, hlt]
    rw [er] at hst
    have hmem : rd row (k : Int) ∈ row := by rw [← er]; exact List.getElem_mem hlt
    have HST := Aside0.mk hst
    clear hst er hcell0
    generalize rd row (k : Int) = c at *
    obtain ⟨hc0, hc8⟩ := HRG.out c hmem
    have hwc := wfG (n := c) (by omega) (by omega)
    have hkey := Maps.keyOf_int_mk Tryd.underlying3 hwc
    obtain ⟨v1, ps1, hrun1, hv1⟩ := HMA1.out.lookup lawG Tryd.underlying108 (show (zeroValue 4).run Tryd.prog wr = .ok (.bool false) wr by kernel_rfl) (plainElem_bool Tryd.underlying4 false) hkey
    obtain ⟨q, rfl, hq⟩ := plainElem_bool_inv Tryd.underlying4 hv1
    have hqa : q = a1 c := by
      have := congrArg Prod.fst hq
      simp only at this
      rw [HAM1.out c hwc] at this
      injection this with this
      injection this with this
      exact this.symm
    clear hq hv1
    cases ha : a1 c with
    | true =>
      rw [ha] at hqa
      subst hqa
      have HA := Aside0.mk ha
      clear ha hkey hwc
      go_wp2
      go_roundw
      case measure => simp only [intOf]; omega
      case rel =>
        refine ⟨k + 1, a1, na1, nh1, Da1, Dh1, by omega, rfl, HT, HGr, HMA1, HAM1, HMH1, HHM1, HNA, HNH, HSH, ⟨?_⟩⟩
        rw [HST.out]
        intro x hx
        rcases List.mem_append.1 hx with hx | hx
        · exact HTK.out x hx
        · obtain rfl : x = c := by simpa using hx
          exact HA.out
    | false =>
      rw [ha] at hqa
      subst hqa
      have HA := Aside0.mk ha
      have HWC := Aside0.mk hwc
      have HKEY := Aside0.mk hkey
      have hna1 : na1 < maxLen := by have := HNA.out; unfold maxLen; omega
      have hnh1 : nh1 < maxLen := by have := HNH.out; unfold maxLen; omega
      have HNM := Aside0.mk (And.intro hna1 hnh1)
      have hmx := HHM1.out c hwc
      clear ha hkey hwc hna1 hnh1
      cases hh : h c with
      | none =>
        rw [hh] at hmx
        simp only at hmx
        have HMX := Aside0.mk hmx
        have HH := Aside0.mk hh
        clear hmx hh
        go_wp2_with (first
          | (at_mapUpdate; refine wpList_mapUpdate_own _ rfl _ _ _ 108 rfl 3 4 lawG Tryd.underlying108 _ ba na1 Da1 rfl HMA1.out HNM.out.1 _ _ (.int .i64 c) rfl rfl HKEY.out (.lit (.bool true)) [] (plainElem_bool Tryd.underlying4 true) ?_; intro W5 hM5 hg5;
             have hT5 := turned_map HT.out hg5 (.inr rfl) HT.out.size; have HG5 := Aside0.mk (HG.out.turned hT5 hba); have hmh5 := HMH1.out.kept hg5 (by simp; omega);
             obtain ⟨v2, ps2, hrun2, hv2⟩ := hmh5.look_ok lawG Tryd.underlying70 (show (zeroValue 3).run Tryd.prog W5 = .ok (.int .i64 0) W5 by kernel_rfl) (plainElem_int Tryd.underlying3 (wfG (n := 0) (by omega) (by omega))) HKEY.out;
             obtain ⟨d, rfl, _, _⟩ := plainElem_int_inv Tryd.underlying3 hv2; rw [HMX.out] at hrun2; have cBh := HG5.out.2.1.cell; have HT5 := Aside0.mk hT5; have HMH5 := Aside0.mk hmh5; have HMA5 := Aside0.mk hM5; clear hT5 hmh5 hM5 hv2 hg5)
          | (at_mapUpdate; refine wpList_mapUpdate_own _ rfl _ _ _ 70 rfl 3 3 lawG Tryd.underlying70 _ (n₀ + 1) nh1 Dh1 rfl HMH5.out HNM.out.2 _ _ (.int .i64 c) rfl rfl HKEY.out (.lit (.int .i64 (i : Nat))) [] (plainElem_int Tryd.underlying3 (wfG (by omega) (by omega))) ?_; intro W6 hM6 hg6; have HM6 := Aside0.mk hM6; have HG6 := Aside0.mk hg6; clear hM6 hg6))
        go_ret
        have hu := unasked_ask a1 c ⟨hc0, hc8⟩ HA.out
        exact ⟨true, ask a1 c, put h c i, na1 + 1, nh1 + 1, _, _, rfl, turned_map HT5.out HG6.out (.inl rfl) HT5.out.size, HMA5.out.kept HG6.out (by simp; omega), HAM1.out.store HMA1.out.isMap HWC.out, HM6.out, HHM1.out.store HMH1.out.isMap HWC.out i,
          by have := HNA.out; omega, by have := HNH.out; omega, HB.out.free HSH.out (by rw [HRR.out]; exact hmem) HA.out HH.out⟩
      | some j =>
        rw [hh] at hmx
        simp only at hmx
        have HMX := Aside0.mk hmx
        have HH := Aside0.mk hh
        have HU := Aside0.mk (unasked_ask a1 c ⟨hc0, hc8⟩ HA.out)
        clear hmx hh
        go_wp2_with (first
          | (at_mapUpdate; refine wpList_mapUpdate_own _ rfl _ _ _ 108 rfl 3 4 lawG Tryd.underlying108 _ ba na1 Da1 rfl HMA1.out HNM.out.1 _ _ (.int .i64 c) rfl rfl HKEY.out (.lit (.bool true)) [] (plainElem_bool Tryd.underlying4 true) ?_; intro W5 hM5 hg5;
             have hT5 := turned_map HT.out hg5 (.inr rfl) HT.out.size; have HG5 := Aside0.mk (HG.out.turned hT5 hba); have hmh5 := HMH1.out.kept hg5 (by simp; omega);
             obtain ⟨v2, ps2, hrun2, hv2⟩ := hmh5.look_ok lawG Tryd.underlying70 (show (zeroValue 3).run Tryd.prog W5 = .ok (.int .i64 0) W5 by kernel_rfl) (plainElem_int Tryd.underlying3 (wfG (n := 0) (by omega) (by omega))) HKEY.out;
             obtain ⟨d, rfl, hd, _⟩ := plainElem_int_inv Tryd.underlying3 hv2; rw [HMX.out.1] at hrun2; have hdj := lit_inj (hd.symm.trans (congrArg (fun z => (z, ps2)) HMX.out.2)); subst hdj; have cBh := HG5.out.2.1.cell; have cBg := HG5.out.2.2.1.cell; have HT5 := Aside0.mk hT5; have HMH5 := Aside0.mk hmh5; have HMA5 := Aside0.mk hM5; clear hT5 hmh5 hM5 hv2 hg5 hd)
          | (go_at_call 133; refine (HIH.out j (ask a1 c) (na1 + 1) nh1 _ Dh1 W5 (by have := HU.out; have := unasked_mono HSH.out; omega) (HB.out.next HSH.out HA.out HH.out) HG5.out HMA5.out (HAM1.out.store HMA1.out.isMap HWC.out) HMH5.out HHM1.out (by have := HNA.out; have := HU.out; omega) (by have := HNH.out; have := HU.out; omega)).mono ?_;
             intro e W6 hgave; obtain ⟨r, a2, h2, na2, nh2, Da2, Dh2, rfl, hT6, hMA6, hAM6, hMH6, hHM6, hna2, hnh2, hf⟩ := hgave; have HG6 := Aside0.mk (HG5.out.turned hT6 hba); have HT6 := Aside0.mk (HT5.out.trans (turned_lower hT6 HT5.out.size)); have HMA6 := Aside0.mk hMA6; have HAM6 := Aside0.mk hAM6; have HMH6 := Aside0.mk hMH6; have HHM6 := Aside0.mk hHM6; have HNA6 := Aside0.mk hna2; have HNH6 := Aside0.mk hnh2; have HF6 := Aside0.mk hf; have cBh6 := HG6.out.2.1.cell; clear hT6 hMA6 hAM6 hMH6 hHM6 hna2 hnh2 hf cBh cBg)
          | (at_mapUpdate; refine wpList_mapUpdate_own _ rfl _ _ _ 70 rfl 3 3 lawG Tryd.underlying70 _ (n₀ + 1) nh2 Dh2 rfl HMH6.out (by have := HNH6.out; have := HNH.out; have := HU.out; unfold maxLen; omega) _ _ (.int .i64 c) rfl rfl HKEY.out (.lit (.int .i64 (i : Nat))) [] (plainElem_int Tryd.underlying3 (wfG (by omega) (by omega))) ?_; intro W7 hM7 hg7; have HM7 := Aside0.mk hM7; have HG7 := Aside0.mk hg7; clear hM7 hg7))
        · have hr : r = true := by assumption
          subst hr
          have hf : Found rows (ask a1 c) h j h2 := HF6.out
          go_ret
          exact ⟨true, a2, put h2 c i, na2, nh2 + 1, _, _, rfl, turned_map HT6.out HG7.out (.inl rfl) HT6.out.size, HMA6.out.kept HG7.out (by simp; omega), HAM6.out, HM7.out, HHM6.out.store HMH6.out.isMap HWC.out i,
            by have := HNA6.out; have := HNA.out; have := HU.out; omega, by have := HNH6.out; have := HNH.out; have := HU.out; omega, hf.back HB.out HSH.out (by rw [HRR.out]; exact hmem) HA.out HH.out⟩
        · have hr : r = false := by first | assumption | (have q : (!r) = true := (by assumption); simpa using q) | (have q : ¬ (r = true) := (by assumption); simpa using q)
          subst hr
          have HFF : Aside0 (h2 = h ∧ Shut rows (ask a1 c) h a2 ∧ ∀ c ∈ rowAt rows j, a2 c = true) := HF6
          clear HF6
          go_roundw
          case measure => simp only [intOf]; omega
          case rel =>
            obtain ⟨rfl, hs2, hr2⟩ := HFF.out
            have up : ∀ x, ask a1 c x = true → a2 x = true := hs2.mono
            refine ⟨k + 1, a2, na2, nh2, Da2, Dh2, by omega, rfl, HT6, HG6, HMA6, HAM6, HMH6, HHM6, ⟨by have := HNA6.out; have := HNA.out; have := HU.out; omega⟩, ⟨by have := HNH6.out; have := HNH.out; have := HU.out; omega⟩,
              ⟨HSH.out.more ⟨hc0, hc8⟩ HH.out (HB.out.next HSH.out HA.out HH.out).lt hs2 hr2⟩, ⟨?_⟩⟩
            rw [HST.out]
            intro x hx
            rcases List.mem_append.1 hx with hx | hx
            · exact up x (by unfold ask; rw [HTK.out x hx]; simp)
            · obtain rfl : x = c := by simpa using hx
              exact up x (by unfold ask; simp)
theorem gives_calls (n₀ : Nat) (A : Option Addr) (cap : Nat) (rows : List (List Int)) (hokr : ∀ i, i < rows.length → (rowAt rows i).length ≤ 1000000 ∧ ∀ c ∈ rowAt rows i, 0 ≤ c ∧ c < 8) (hrl : rows.length ≤ 8) (ba : Nat) (hba : n₀ + 4 ≤ ba) (h : Int → Option Nat) :
    ∀ (d i : Nat) (a : Int → Bool) (na nh : Nat) (Da Dh : DataW Unit) (W : World), unasked a ≤ d → Before rows a h i → GiveW W n₀ A cap rows → W.ownsMap Tryd.prog 3 (plainElem Tryd.prog 4) ba na Da → AskMap a Da →
      W.ownsMap Tryd.prog 3 (plainElem Tryd.prog 3) (n₀ + 1) nh Dh → HasMap h Dh → na + unasked a ≤ 1000 → nh + unasked a ≤ 1000 →
      Calls Tryd.prog 133 #[.int .i64 i, .map (some ba), .pointer (some ⟨n₀, 0, none⟩), .pointer (some ⟨n₀ + 1 + 1, 0, none⟩), .pointer (some ⟨n₀ + 1 + 1 + 1, 0, none⟩)] W (Gave rows a h i n₀ ba na nh W) := by
  intro d
  induction d with
  | zero =>
    intro i a na nh Da Dh W hd hb hg hma ham hmh hhm hna hnh
    exact gives_step n₀ A cap rows hokr hrl ba hba i a h na nh Da Dh W hb hg hma ham hmh hhm hna hnh (fun i1 a1 na1 nh1 Da1 Dh1 W1 hlt => by omega)
  | succ d ih =>
    intro i a na nh Da Dh W hd hb hg hma ham hmh hhm hna hnh
    exact gives_step n₀ A cap rows hokr hrl ba hba i a h na nh Da Dh W hb hg hma ham hmh hhm hna hnh (fun i1 a1 na1 nh1 Da1 Dh1 W1 hlt => ih i1 a1 na1 nh1 Da1 Dh1 W1 (by omega))
theorem run_store_funcG {P : Program} {w : World} {a : Addr} {m : Mode} (f : Fn) (x y : Array Value) : (store a (.func f x y) m).run P w = stored P w a (.func f x y) m := run_store P w a _ m rfl
attribute [local go_sem] run_store_funcG
def okRows (rows : List (List Int)) : Prop := rows.length ≤ 8 ∧ ∀ i, i < rows.length → (rowAt rows i).length ≤ 1000000 ∧ ∀ c ∈ rowAt rows i, 0 ≤ c ∧ c < 8

set_option maxRecDepth 100000 in
set_option maxHeartbeats 4000000 in
theorem matching_calls (A0 : Option Addr) (c0 : Nat) (rows : List (List Int)) (w : World) (hr0 : RowsAt w w.heap.size A0 rows) (hok : okRows rows) :
    Calls Tryd.prog 124 #[.slice A0 rows.length c0] w fun e w' => e = .returned (.bool (matchFrom rows []).isSome) ∧ Below w.heap.size w w' := by
  obtain ⟨hrl, hokr⟩ := hok
  have hmm := @run_makeMap Tryd.prog
  have HR := Aside0.mk hr0
  have HOK := Aside0.mk hokr
  clear hr0 hokr
  obtain ⟨fv, hfv⟩ : ∃ fv : Value, fv = .func (.func 133) #[] #[.pointer (some ⟨w.heap.size, 0, none⟩), .pointer (some ⟨w.heap.size + 1 + 1, 0, none⟩), .pointer (some ⟨w.heap.size + 1 + 1 + 1, 0, none⟩)] := ⟨_, rfl⟩
  obtain ⟨w1, hw1⟩ : ∃ w1, w.alloc (.cells #[.slice A0 rows.length c0] 141) = w1 := ⟨_, rfl⟩
  have b0 := Boxed.new w 141 (.slice A0 rows.length c0)
  have s1 : w1.heap.size = w.heap.size + 1 := by rw [← hw1]; simp
  rw [hw1] at b0
  have hB1 : Below w.heap.size w w1 := by rw [← hw1]; exact (Below.refl _ w).alloc (Nat.le_refl _) _
  have m1 := World.ownsMap_made (H := Unit) w1 Tryd.prog 3 (plainElem Tryd.prog 3)
  obtain ⟨w2, hw2⟩ : ∃ w2, w1.alloc (.map #[] 0) = w2 := ⟨_, rfl⟩
  rw [hw2] at m1
  have s2 : w2.heap.size = w.heap.size + 2 := by rw [← hw2]; simp [s1]
  have b0' : Boxed w2 w.heap.size 141 (.slice A0 rows.length c0) := by rw [← hw2]; exact b0.alloc _
  have hB2 : Below w.heap.size w w2 := by rw [← hw2]; exact hB1.alloc (by omega) _
  obtain ⟨w3, hw3⟩ : ∃ w3, w2.alloc (.cells #[.map (some (w.heap.size + 1))] 70) = w3 := ⟨_, rfl⟩
  have b1 := Boxed.new w2 70 (.map (some (w.heap.size + 1)))
  rw [hw3] at b1
  have s3 : w3.heap.size = w.heap.size + 3 := by rw [← hw3]; simp [s2]
  have b0'' : Boxed w3 w.heap.size 141 (.slice A0 rows.length c0) := by rw [← hw3]; exact b0'.alloc _
  have m2 := by rw [s1] at m1; exact m1.alloc (.cells #[.map (some (w.heap.size + 1))] 70)
  rw [hw3] at m2
  have hB3 : Below w.heap.size w w3 := by rw [← hw3]; exact hB2.alloc (by omega) _
  obtain ⟨w4, hw4⟩ : ∃ w4, w3.alloc (.cells #[fv] 169) = w4 := ⟨_, rfl⟩
  have b2 := Boxed.new w3 169 fv
  rw [hw4, s3] at b2
  rw [s2] at b1
  have s4 : w4.heap.size = w.heap.size + 4 := by rw [← hw4]; simp [s3]
  have b1' : Boxed w4 (w.heap.size + 2) 70 (.map (some (w.heap.size + 1))) := by rw [← hw4]; exact b1.alloc _
  have b0''' : Boxed w4 w.heap.size 141 (.slice A0 rows.length c0) := by rw [← hw4]; exact b0''.alloc _
  have m3 := m2.alloc (.cells #[fv] 169)
  rw [hw4] at m3
  have hB4 : Below w.heap.size w w4 := by rw [← hw4]; exact hB3.alloc (by omega) _
  have hchain : (((w.alloc (.cells #[.slice A0 rows.length c0] 141)).alloc (.map #[] 0)).alloc (.cells #[.map (some (w.heap.size + 1))] 70)).alloc (.cells #[fv] 169) = w4 := by rw [hw1, hw2, hw3, hw4]
  have HCH := Aside0.mk hchain
  have mw : GiveW w4 w.heap.size A0 c0 rows := ⟨b0''', b1', by rw [← hfv]; exact b2, HR.out.same (W' := w4) (fun k hk => hB4.block k hk)⟩
  have MW := Aside0.mk mw
  have MM : Aside0 (w4.ownsMap Tryd.prog 3 (plainElem Tryd.prog 3) (w.heap.size + 1) 0 (.map [])) := ⟨m3⟩
  have HB4 := Aside0.mk hB4
  clear b0 b0' b0'' b0''' b1 b1' b2 m1 m2 m3 hB1 hB2 hB3 hB4 hchain hw1 hw2 hw3 hw4 s1 s2 s3 s4 mw
  rw [hfv] at HCH
  clear hfv
  go_enter Tryd.func124, Tryd.ntmps124
  go_wp2
  go_loopw [10] (fun s10 wr => ∃ (i : Nat) (g : Int → Option Nat) (nh : Nat) (Dh : DataW Unit), i ≤ rows.length ∧ s10 = .int .i64 i ∧ nh ≤ 8 * i ∧ Aside0 (GiveW wr w.heap.size A0 c0 rows) ∧
      Aside0 (wr.ownsMap Tryd.prog 3 (plainElem Tryd.prog 3) (w.heap.size + 1) nh Dh) ∧ Aside0 (HasMap g Dh) ∧ Aside0 (Sat rows g i) ∧ Aside0 (Below w.heap.size w wr))
    (fun s10 _ => rows.length - (intOf s10).toNat)
  case atStart => exact ⟨0, fun _ => none, 0, .map [], Nat.zero_le _, rfl, Nat.zero_le _, ⟨by rw [HCH.out]; exact MW.out⟩, ⟨by rw [HCH.out]; exact MM.out⟩, ⟨HasMap.nil⟩, ⟨Sat.nil rows⟩, ⟨by rw [HCH.out]; exact HB4.out⟩⟩
  case round =>
    obtain ⟨i, g, nh, Dh, hi, rfl, hnh, HG, HM, HH, HS, HB⟩ := hrel
    clear HCH MW MM HB4
    by_cases hlt : i < rows.length
    case neg =>
      obtain rfl : i = rows.length := by omega
      have hd := HS.out.done
      have HD := Aside0.mk hd
      clear hlt hd HS HOK HR
      go_wp2
      go_ret
      exact ⟨by rw [HD.out]; rfl, HB.out⟩
    case pos =>
      have c4 := HG.out.2.2.1.cell
      have hsz := HG.out.2.2.1.lt
      have HBA : Aside0 (Below wr.heap.size wr (wr.alloc (.map #[] 0))) := ⟨(Below.refl _ _).alloc (Nat.le_refl _) _⟩
      have HMD := Aside0.mk (World.ownsMap_made (H := Unit) wr Tryd.prog 3 (plainElem Tryd.prog 4))
      have HU := Aside0.mk (unasked_le noneAsked)
      have HBS := Aside0.mk HB.out.size
      go_wp2_with (go_at_call 133; refine (gives_calls w.heap.size A0 c0 rows HOK.out hrl wr.heap.size (by omega) g 8 i noneAsked 0 nh _ Dh _ HU.out (HS.out.before hlt) (HG.out.step HBA.out) HMD.out AskMap.nil (HM.out.alloc _) HH.out (by have := HU.out; omega) (by have := HU.out; omega)).mono ?_; intro e W6 hgave; obtain ⟨r, a2, h2, na2, nh2, Da2, Dh2, rfl, hT6, hMA6, hAM6, hMH6, hHM6, hna2, hnh2, hf⟩ := hgave; have HG6 := Aside0.mk ((HG.out.step HBA.out).turned hT6 (by omega)); have HT6 := Aside0.mk hT6; have HMH6 := Aside0.mk hMH6; have HHM6 := Aside0.mk hHM6; have HNH6 := Aside0.mk hnh2; have HF6 := Aside0.mk hf; clear hT6 hMA6 hAM6 hMH6 hHM6 hna2 hnh2 hf c4)
      all_goals have HBT := Aside0.mk (fun (ht : Turned (wr.alloc (.map #[] 0)).heap.size (fun k => k = w.heap.size + 1 ∨ k = wr.heap.size) (wr.alloc (.map #[] 0)) W6) => ((HB.out.alloc HBS.out (.map #[] 0)).trans (ht.below (n₀ := w.heap.size) (by simp; omega) (by rintro k (rfl | rfl) <;> omega)) : Below w.heap.size w W6))
      · have hr : r = false := by first | assumption | (have q : (!r) = true := (by assumption); simpa using q)
        subst hr
        have HFF : Aside0 (h2 = g ∧ Shut rows noneAsked g a2 ∧ ∀ c ∈ rowAt rows i, a2 c = true) := HF6
        have hd := HS.out.fail hlt HFF.out.2.1 HFF.out.2.2
        have HD := Aside0.mk hd
        clear hd HF6
        go_ret
        exact ⟨by rw [HD.out]; rfl, HBT.out HT6.out⟩
      · have hr : r = true := by first | assumption | (have q : (!r) = false := (by assumption); simpa using q)
        subst hr
        have HFF : Aside0 (Found rows noneAsked g i h2) := HF6
        clear HF6
        go_roundw
        case measure => simp only [intOf]; omega
        case rel => exact ⟨i + 1, h2, nh2, Dh2, by omega, rfl, by have := HNH6.out; have := HU.out; omega, HG6, HMH6, HHM6, ⟨HS.out.step HFF.out⟩, ⟨HBT.out HT6.out⟩⟩
def gang_matching.f (l0 : List (List Int)) : Option Bool := if l0.length ≤ 8 ∧ ∀ r ∈ l0, r.length ≤ 1000000 ∧ ∀ c ∈ r, 0 ≤ c ∧ c < 8 then some (matchFrom l0 []).isSome else none
theorem okRows_of {l0 : List (List Int)} (h : l0.length ≤ 8 ∧ ∀ r ∈ l0, r.length ≤ 1000000 ∧ ∀ c ∈ r, 0 ≤ c ∧ c < 8) : okRows l0 :=
  ⟨h.1, fun i hi => by have e : rowAt l0 i = l0[i] := by simp [rowAt, hi]
                       rw [e]; exact h.2 _ (List.getElem_mem hi)⟩
theorem gang_matching.calls (A0 : Option Addr) (c0 : Nat) (l0 : List (List Int)) (r : Bool) (w : World) (hr0 : Kd.C (Kd.slice 3 (Kd.int .i64)) w A0 l0.length l0) (hc0 : l0.length ≤ c0) (h : gang_matching.f l0 = some r) :
    Calls Tryd.prog 124 #[.slice A0 l0.length c0] w fun e w' => e = .returned (.bool r) ∧ Below w.heap.size w w' := by
  unfold gang_matching.f at h
  split at h
  case isFalse => cases h
  case isTrue hok =>
    obtain rfl := Option.some.inj h
    exact matching_calls A0 c0 l0 w (RowsAt.of hr0) (okRows_of hok)

abbrev KMix (w0 : World) : Kd (List Int) := Kd.mix 3 (Kd.int .i64) (Kd.int .i64) w0
theorem mix_one {w0 w : World} {base : Nat} {ok : Nat → Prop} {x : List Int} {cs : List Value} (h : (KMix w0).M w base ok x cs) : ∃ v, cs = [v] := by
  rcases h with ⟨A, c, rfl, _⟩ | ⟨v, rfl, _⟩ <;> exact ⟨_, rfl⟩
theorem mix_C {w0 w : World} (hb : Below w0.heap.size w0 w) {A : Option Addr} {n : Nat} {xs : List (List Int)} (h : (KMix w0).C w A n xs) : (Kd.slice 3 (Kd.int .i64)).C w A n xs :=
  Kd.C_read (d := Kd.slice 3 (Kd.int .i64)) (dm := KMix w0) rfl (fun x cs hk => Kd.mix_read rfl (fun _ _ h => h) hb hk) h
theorem mix_row {w0 w : World} {base : Nat} {ok : Nat → Prop} {x : List Int} {cs : List Value} (h : (Kd.slice 3 (Kd.int .i64)).M w base ok x cs) : (KMix w0).M w base ok x cs := Or.inr h
def slices_Clone_int_int.f (l0 : List (List Int)) : Option (List (List Int)) := if 0 < l0.length ∧ l0.length ≤ 1000000 then some l0 else none
theorem info42' : (Tryd.prog.info? 42).map (fun i => (i.zero, i.size, i.bytes)) = some (some (.slice none 0 0), 1, 24) := by kernel_rfl

set_option maxRecDepth 100000 in
set_option maxHeartbeats 4000000 in
theorem slices_Clone_int_int.calls (w0 : World) (A0 : Option Addr) (c0 : Nat) (l0 : List (List Int)) (r : List (List Int)) (w : World) (hr00 : Kd.C (Kd.slice 3 (Kd.int .i64)) w0 A0 l0.length l0) (hb0 : Below w0.heap.size w0 w) (hc0 : l0.length ≤ c0) (h : slices_Clone_int_int.f l0 = some r) :
    Calls Tryd.prog 125 #[.slice A0 l0.length c0] w fun e w' => ∃ v, e = .returned v ∧ Kd.S (KMix w0) 42 w' w.heap.size (fun _ => True) v r ∧ Below w.heap.size w w' := by
  unfold slices_Clone_int_int.f at h
  split at h
  case isFalse => cases h
  case isTrue hl =>
  obtain rfl := Option.some.inj h
  obtain ⟨ad, rfl, _⟩ := hr00.2.2 hl.1
  obtain ⟨news, hnr, hnc⟩ := ReadsRow.inner_ hr00
  have hnw : ∀ j u, news[j]? = some u → w.cell? (ad.add j) = some u := fun j u hu => pw_cell_below hb0 (hnc j u hu)
  have hnl : news.length = l0.length := by have := hnr.1; simpa [Kd.slice] using this
  have hone : ∀ u ∈ news, u.oneCell' = true := by
    intro u hu
    obtain ⟨j, hj, rfl⟩ := List.mem_iff_getElem.1 hu
    obtain ⟨A, c, e, _⟩ := hnr.2 j l0[j] (List.getElem?_eq_getElem (by omega))
    have h0 : ((news.drop (j * (Kd.slice 3 (Kd.int .i64)).sz)).take (Kd.slice 3 (Kd.int .i64)).sz)[0]? = some news[j] := by
      show ((news.drop (j * 1)).take 1)[0]? = _
      simp [hj]
    rw [e] at h0
    simp at h0
    rw [← h0]; rfl
  have HNW := Aside0.mk hnw
  have HNR := Aside0.mk hnr
  have HONE := Aside0.mk hone
  obtain ⟨i0, hi, hz0, hz1, hz2⟩ := info_parts info42'
  have hrow := World.ownsRow_lit (base := w.heap.size) (e := 42) (size := 1) w #[] 0 (Nat.le_refl _) (Nat.zero_le _) rfl
  have HROW := Aside0.mk hrow
  have hnil := Lib.run_eql_slice_nil (P := Tryd.prog) w 141 42 (some ad) l0.length c0 0 0 Tryd.underlying141
  clear hnw hnr hone hr00 hb0 hnc h hrow
  have HNL := Aside0.mk hnl
  clear hnl
  go_enter Tryd.func125, Tryd.ntmps125
  go_wp2_with (at_builtin; refine wpList_append_own _ rfl _ _ 141 rfl w.heap.size 42 i0 (.slice none 0 0) 1 24 Tryd.underlying141 hi hz0 hz1 hz2 rfl (by decide) _ _ _ rfl HROW.out ad l0.length c0 news rfl (by rw [HNL.out, Nat.mul_one]) (fun j u hu => pw_cell_below ((Below.refl _ _).alloc (Nat.le_refl _) _) (HNW.out j u hu)) HONE.out (by unfold maxLen; omega) (by omega) (by simp) ?_; intro v' w6 hown' hgrow' _; have HOWN := Aside0.mk hown'; have HGROW := Aside0.mk hgrow'; clear hown' hgrow')
  go_ret
  refine ⟨_, rfl, ⟨fun _ => 0, fun _ _ => trivial, news, ?_, ?_, ?_⟩, ?_⟩
  · have := HOWN.out
    have h2 : w6.ownsRow w.heap.size 42 1 v' l0.length news := by simpa using this
    rw [List.length_zipIdx]; exact h2
  · rw [List.length_zipIdx, HNL.out]; show l0.length = l0.length * 1; omega
  · rintro j ⟨x, j'⟩ hj
    have hx : l0[j]? = some x := by
      rw [List.getElem?_zipIdx] at hj
      obtain ⟨y, hy, e⟩ := Option.map_eq_some_iff.1 hj
      injection e with e _
      rw [hy, e]
    exact Or.inl (HNR.out.2 j x hx)
  · exact ((Below.refl _ _).alloc (Nat.le_refl _) _).grown HGROW.out (by simp) (fun k e => by have e2 : w.heap.size = k := Option.some.inj e; omega)
end Go.Proofs.YtdmieaidheelbaaDoor.Q
end
/- Ones -/
section
/- math/bits.OnesCount32, of a byte, by hand. -/
namespace Go.Proofs.YtdmieaidheelbaaDoor.Q
open Go Go.RowKit Go.Proofs.YtdmieaidheelbaaDoorW.PrintWords Go.Proofs.YtdmieaidheelbaaDoorW.PrintLast Go.Proofs.YtdmieaidheelbaaDoorW.PrintMore
set_option linter.unusedVariables false
set_option linter.unusedSimpArgs false

def ones (s : Nat) : Nat := (List.range 8).countP (fun c => s.testBit c)
def bits_OnesCount32.f (a0 : Int) : Option (Int) := if 0 ≤ a0 ∧ a0 < 256 then some (ones a0.toNat : Int) else none
theorem pop8_ones : ∀ n : Fin 256, Lib.pop8 (n.val : Int) = (ones n.val : Int) := by decide +kernel
theorem ones_le : ∀ n : Fin 256, ones n.val ≤ 8 := by decide +kernel

set_option maxHeartbeats 8000000 in
set_option maxRecDepth 100000 in
theorem bits_OnesCount32.calls (a0 : Int) (r : Int) (w : World) (h : bits_OnesCount32.f a0 = some r) :
    Calls Tryd.prog 59 #[.int .u32 a0] w fun e w' => e = .returned (.int .i64 r) ∧ Drawn0 w w' := by
  unfold bits_OnesCount32.f at h
  split at h
  case isFalse => cases h
  case isTrue hb =>
  obtain rfl := Option.some.inj h
  clear h
  obtain ⟨k, rfl⟩ : ∃ k : Nat, a0 = (k : Int) := ⟨a0.toNat, by omega⟩
  have hk : k < 256 := by omega
  have e0 : Go.bits .and .u32 0 255 = 0 := by decide +kernel
  have e1 : ((k : Int) / 16777216) = 0 := by omega
  have e2 : Go.bits .and .u32 ((k : Int) / 65536) 255 = 0 := by rw [show ((k : Int) / 65536) = 0 by omega]; exact e0
  have e3 : Go.bits .and .u32 ((k : Int) / 256) 255 = 0 := by rw [show ((k : Int) / 256) = 0 by omega]; exact e0
  have e4 : Go.bits .and .u32 (k : Int) 255 = (k : Int) := by
    have h1 : Go.bits .and .u32 (k : Int) 255 = ((k &&& 255 : Nat) : Int) := and_nat k 255 (by omega) (by omega)
    rw [h1, show k &&& 255 = k by rw [Nat.and_two_pow_sub_one_eq_mod k 8]; omega]
  have b1 : 0 ≤ ((k : Int) / 16777216) := by omega
  have c1 : ((k : Int) / 16777216) ≤ 255 := by omega
  have b2 : 0 ≤ Go.bits .and .u32 ((k : Int) / 65536) 255 := by omega
  have c2 : Go.bits .and .u32 ((k : Int) / 65536) 255 ≤ 255 := by omega
  have b3 : 0 ≤ Go.bits .and .u32 ((k : Int) / 256) 255 := by omega
  have c3 : Go.bits .and .u32 ((k : Int) / 256) 255 ≤ 255 := by omega
  have b4 : 0 ≤ Go.bits .and .u32 (k : Int) 255 := by omega
  have c4 : Go.bits .and .u32 (k : Int) 255 ≤ 255 := by omega
  have b5 : 0 ≤ (k : Int) := by omega
  have c5 : (k : Int) ≤ 255 := by omega
  have z0 : Lib.pop8 0 = 0 := by decide +kernel
  have zk : Lib.pop8 (k : Int) = (ones k : Int) := pop8_ones ⟨k, hk⟩
  have zl : ones k ≤ 8 := ones_le ⟨k, hk⟩
  have key : ((Lib.pop8 ((k : Int) / 16777216) + Lib.pop8 (Go.bits .and .u32 ((k : Int) / 65536) 255)) % 256 + Lib.pop8 (Go.bits .and .u32 ((k : Int) / 256) 255)) % 256 = 0 := by rw [e1, e2, e3, z0]; rfl
  have key2 : Lib.pop8 (Go.bits .and .u32 (k : Int) 255) = (ones k : Int) := by rw [e4, zk]
  go_enter Tryd.func59, Tryd.ntmps59
  go_wp2
  generalize hB : (ByteArray.mk (List.toArray _)) = B
  have hB' : B = Lib.pop8tab := by rw [← hB]; kernel_rfl
  clear hB
  subst hB'
  go_region
  go_wp2
  go_ret
  refine ⟨?_, by repeat (first | exact Drawn0.refl _ | apply Drawn0.step)⟩
  simp [e1, e2, e3, e4, z0, zk]
end Go.Proofs.YtdmieaidheelbaaDoor.Q
end
/- QFslicesIndexintint -/
section
namespace Go.Proofs.YtdmieaidheelbaaDoor.Q
open Go.RowKit Go.Proofs.YtdmieaidheelbaaDoorW.PrintWords Go.Proofs.YtdmieaidheelbaaDoorW.PrintLast Go.Proofs.YtdmieaidheelbaaDoorW.PrintMore
attribute [local go_sem] max2_int min2_int max_two min_two max_three min_three max_four min_four
set_option linter.unusedVariables false
set_option linter.unusedSimpArgs false

def slices_Index_int_int.l0 : Nat → List Int → Int → Int → Int → Option (Int)
 | 0, _, _, _, _ => none
 | k + 1, x0, x1, x7, x8 => if x8 < x7 then (if 0 ≤ x8 then (if x8 < (x0.length : Int) then (if x1 = (rd x0 x8) then (some x8) else (slices_Index_int_int.l0 k x0 x1 x7 (wrap64 (x8 + 1)))) else (none)) else (none)) else (some (-1))
def slices_Index_int_int.f (k : Nat) (l0 : List Int) (a1 : Int) : Option (Int) := slices_Index_int_int.l0 k l0 a1 (l0.length : Int) 0
set_option maxHeartbeats 8000000 in
set_option maxRecDepth 100000 in
theorem slices_Index_int_int.calls (k : Nat) (A0 : Option Addr) (c0 : Nat) (l0 : List Int) (a1 : Int) (r : Int) (w : World) (hr0 : Kd.C (Kd.int .i64) w A0 l0.length l0) (hc0 : l0.length ≤ c0) (h : slices_Index_int_int.f k l0 a1 = some r) :
  Calls Tryd.prog 107 #[.slice A0 l0.length c0, .int .i64 a1] w fun e w' => e = .returned (.int .i64 r) ∧ Drawn0 w w' := by
 have HR0 := Aside0.mk hr0
 have HC0 := Aside0.mk hc0
 clear hr0 hc0
 have H : (slices_Index_int_int.l0 k l0 a1 (l0.length : Int) 0) = some r := h
 clear h
 have H' := Aside0.mk H
 clear H
 go_enter Tryd.func107, Tryd.ntmps107
 go_wp2
 go_loopg [8] k (fun kq v8 w' => ∃ (x8_1 : Int), v8 = .int .i64 x8_1 ∧ Aside0 (slices_Index_int_int.l0 kq l0 a1 (l0.length : Int) x8_1 = some r) ∧ Aside0 (kq ≤ k) ∧ Drawn0 w w')
 case atStart => exact ⟨(0), (by first | rfl | (simp; done) | (simp [*]; done)), H', ⟨Nat.le_refl _⟩, by repeat (first | exact Drawn0.refl _ | apply Drawn0.step)⟩
 case round =>
  clear H'
  try clear c1
  try clear p2
  obtain ⟨x8_1, rfl, HA, HK1, ⟨m1, rfl⟩⟩ := hrel
  cases gk with
  | zero => exact absurd HA.out (by simp [slices_Index_int_int.l0])
  | succ k1 =>
   have H := HA.out
   clear HA
   simp only [slices_Index_int_int.l0] at H
   by_cases c3 : x8_1 < (l0.length : Int)
   ·rw [if_pos c3] at H
    have c3b0 : decide (x8_1 < (l0.length : Int)) = true := decide_eq_true c3
    clear c3
    by_cases c4 : 0 ≤ x8_1
    ·rw [if_pos c4] at H
     have c4b0 : decide (0 ≤ x8_1) = true := decide_eq_true c4
     clear c4
     by_cases c5 : x8_1 < (l0.length : Int)
     ·rw [if_pos c5] at H
      have c5b0 : decide (x8_1 < (l0.length : Int)) = true := decide_eq_true c5
      clear c5
      by_cases c6 : a1 = (rd l0 x8_1)
      ·rw [if_pos c6] at H
       have c6b0 : (a1 == (rd l0 x8_1)) = true := beq_iff_eq.mpr c6
       have c6b1 : (a1 != (rd l0 x8_1)) = false := bne_eq_false_iff_eq.mpr c6
       clear c6
       obtain rfl := Option.some.inj H
       have p353 : 0 ≤ (x8_1 : Int) := of_decide_eq_true (by first | (with_reducible assumption) | assumption)
       have q353 : x8_1 < (l0.length : Int) := of_decide_eq_true (by first | (with_reducible assumption) | assumption)
       obtain ⟨ad353, e353, hx353_0⟩ := Kd.at_int HR0.out x8_1 p353 q353
       cases e353
       replace p353 := eq_true p353
       replace q353 := eq_true q353
       go_wp2
       go_ret
       exact ⟨by first | rfl | (simp; done) | (simp [*]; done), by repeat (first | exact Drawn0.refl _ | apply Drawn0.step)⟩
      ·rw [if_neg c6] at H
       have c6b0 : (a1 == (rd l0 x8_1)) = false := beq_eq_false_iff_ne.mpr c6
       have c6b1 : (a1 != (rd l0 x8_1)) = true := bne_iff_ne.mpr c6
       have H' := Aside0.mk H
       clear H
       have p353 : 0 ≤ (x8_1 : Int) := of_decide_eq_true (by first | (with_reducible assumption) | assumption)
       have q353 : x8_1 < (l0.length : Int) := of_decide_eq_true (by first | (with_reducible assumption) | assumption)
       obtain ⟨ad353, e353, hx353_0⟩ := Kd.at_int HR0.out x8_1 p353 q353
       cases e353
       replace p353 := eq_true p353
       replace q353 := eq_true q353
       go_wp2
       go_roundg k1
       case measure => have := HK1.out; omega
       case rel => exact ⟨(wrap64 (x8_1 + 1)), (by first | rfl | (simp; done) | (simp [*]; done)), H', ⟨by have := HK1.out; omega⟩, by repeat (first | exact Drawn0.refl _ | apply Drawn0.step)⟩
     ·rw [if_neg c5] at H
      exact absurd H (by simp)
    ·rw [if_neg c4] at H
     exact absurd H (by simp)
   ·rw [if_neg c3] at H
    have c3b0 : decide (x8_1 < (l0.length : Int)) = false := decide_eq_false c3
    clear c3
    obtain rfl := Option.some.inj H
    go_wp2
    go_ret
    exact ⟨by first | rfl | (simp; done) | (simp [*]; done), by repeat (first | exact Drawn0.refl _ | apply Drawn0.step)⟩

end Go.Proofs.YtdmieaidheelbaaDoor.Q
end
/- QFslicesContainsintint -/
section
namespace Go.Proofs.YtdmieaidheelbaaDoor.Q
open Go.RowKit Go.Proofs.YtdmieaidheelbaaDoorW.PrintWords Go.Proofs.YtdmieaidheelbaaDoorW.PrintLast Go.Proofs.YtdmieaidheelbaaDoorW.PrintMore
attribute [local go_sem] max2_int min2_int max_two min_two max_three min_three max_four min_four
set_option linter.unusedVariables false
set_option linter.unusedSimpArgs false

def slices_Contains_int_int.f (k : Nat) (l0 : List Int) (a1 : Int) : Option (Bool) := (slices_Index_int_int.f k l0 a1).bind fun t354 => (some (decide (t354 ≥ 0)))
set_option maxHeartbeats 8000000 in
set_option maxRecDepth 100000 in
theorem slices_Contains_int_int.calls (k : Nat) (A0 : Option Addr) (c0 : Nat) (l0 : List Int) (a1 : Int) (r : Bool) (w : World) (hr0 : Kd.C (Kd.int .i64) w A0 l0.length l0) (hc0 : l0.length ≤ c0) (h : slices_Contains_int_int.f k l0 a1 = some r) :
  Calls Tryd.prog 93 #[.slice A0 l0.length c0, .int .i64 a1] w fun e w' => e = .returned (.bool r) ∧ Drawn0 w w' := by
 have HR0 := Aside0.mk hr0
 have HC0 := Aside0.mk hc0
 clear hr0 hc0
 have H : ((slices_Index_int_int.f k l0 a1).bind fun t354 => (some (decide (t354 ≥ 0)))) = some r := h
 clear h
 replace H := Option.bind_eq_some_iff.mp H
 obtain ⟨t354, A30, H⟩ := H
 replace H : (some (decide (t354 ≥ 0))) = some r := H
 have A3 := Aside0.mk A30
 clear A30
 obtain rfl := Option.some.inj H
 go_enter Tryd.func93, Tryd.ntmps93
 go_wp2_with (first | ((with_reducible refine gate_callee (f := 107) rfl ?_); refine goesL_ (some 7) rfl rfl Tryd.func107 (by kernel_rfl) rfl #[.slice A0 l0.length c0, .int .i64 a1] rfl (by (try simp only [List.map_toArray, List.map_cons, List.map_nil]); first | done | rfl | (simp only [List.length_drop, List.length_take]; rfl)) ?_; (with_reducible refine (slices_Index_int_int.calls k _ _ l0 a1 t354 _ ?side1 ?side2 A3.out).mono ?_); (case side1 => repeat (first | exact HR0.out | (with_reducible refine Kd.C_alloc ?_ _) | (with_reducible refine Kd.C_drewN ?_ _) | (with_reducible refine Kd.C_drew ?_))); (case side2 => exact HC0.out); rintro e w' ⟨rfl, ⟨nd, rfl⟩⟩; refine ⟨_, rfl, ?_⟩))
 go_ret
 exact ⟨by first | rfl | (simp; done) | (simp [*]; done), by repeat (first | exact Drawn0.refl _ | apply Drawn0.step)⟩

end Go.Proofs.YtdmieaidheelbaaDoor.Q
end
/- QFcpusetCount -/
section
namespace Go.Proofs.YtdmieaidheelbaaDoor.Q
open Go.RowKit Go.Proofs.YtdmieaidheelbaaDoorW.PrintWords Go.Proofs.YtdmieaidheelbaaDoorW.PrintLast Go.Proofs.YtdmieaidheelbaaDoorW.PrintMore
attribute [local go_sem] max2_int min2_int max_two min_two max_three min_three max_four min_four
set_option linter.unusedVariables false
set_option linter.unusedSimpArgs false

def cpuset_Count.f (a0 : Int) : Option (Int) := (bits_OnesCount32.f (Go.bits .and .u32 a0 255)).bind fun t150 => (some t150)
set_option maxHeartbeats 8000000 in
set_option maxRecDepth 100000 in
theorem cpuset_Count.calls (a0 : Int) (r : Int) (w : World) (h : cpuset_Count.f a0 = some r) :
  Calls Tryd.prog 17 #[.int .u32 a0] w fun e w' => e = .returned (.int .i64 r) ∧ Drawn0 w w' := by
 have H : ((bits_OnesCount32.f (Go.bits .and .u32 a0 255)).bind fun t150 => (some t150)) = some r := h
 clear h
 replace H := Option.bind_eq_some_iff.mp H
 obtain ⟨t150, A20, H⟩ := H
 replace H : (some t150) = some r := H
 have A2 := Aside0.mk A20
 clear A20
 obtain rfl := Option.some.inj H
 go_enter Tryd.func17, Tryd.ntmps17
 go_wp2_with (first | ((with_reducible refine gate_callee (f := 59) rfl ?_); refine goesL_ (some 5) rfl rfl Tryd.func59 (by kernel_rfl) rfl #[.int .u32 (Go.bits .and .u32 a0 255)] rfl (by (try simp only [List.map_toArray, List.map_cons, List.map_nil]); first | done | rfl | (simp only [List.length_drop, List.length_take]; rfl)) ?_; (with_reducible refine (bits_OnesCount32.calls (Go.bits .and .u32 a0 255) t150 _ A2.out).mono ?_); rintro e w' ⟨rfl, ⟨nd, rfl⟩⟩; refine ⟨_, rfl, ?_⟩))
 go_ret
 exact ⟨by first | rfl | (simp; done) | (simp [*]; done), by repeat (first | exact Drawn0.refl _ | apply Drawn0.step)⟩

end Go.Proofs.YtdmieaidheelbaaDoor.Q
end
/- QFcpusetOf -/
section
namespace Go.Proofs.YtdmieaidheelbaaDoor.Q
open Go.RowKit Go.Proofs.YtdmieaidheelbaaDoorW.PrintWords Go.Proofs.YtdmieaidheelbaaDoorW.PrintLast Go.Proofs.YtdmieaidheelbaaDoorW.PrintMore
attribute [local go_sem] max2_int min2_int max_two min_two max_three min_three max_four min_four
set_option linter.unusedVariables false
set_option linter.unusedSimpArgs false

def cpuset_Of.l0 : Nat → Int → List Int → Int → Int → Option (Int × Int)
 | 0, _, _, _, _ => none
 | k + 1, x4, x8, x9, x10 => if x10 < x9 then (if 0 ≤ x10 then (if x10 < (x8.length : Int) then ((cpuset_bit.f (rd x8 x10)).bind fun t805 => (if t805 = 0 then (some (0, 2)) else (cpuset_Of.l0 k (Go.bits .or .u32 x4 t805) x8 x9 (wrap64 (x10 + 1))))) else (none)) else (none)) else (some (x4, 0))
def cpuset_Of.f (k : Nat) (l0 : List Int) : Option (Int × Int) := cpuset_Of.l0 k 0 l0 (l0.length : Int) 0
set_option maxHeartbeats 8000000 in
set_option maxRecDepth 100000 in
theorem cpuset_Of.calls (k : Nat) (A0 : Option Addr) (c0 : Nat) (l0 : List Int) (r1 : Int) (r2 : Int) (w : World) (hr0 : Kd.C (Kd.int .i64) w A0 l0.length l0) (hc0 : l0.length ≤ c0) (h : cpuset_Of.f k l0 = some (r1, r2)) :
  Calls Tryd.prog 132 #[.slice A0 l0.length c0] w fun e w' => e = .returned (.tuple #[.int .u32 r1, .int .i64 r2]) ∧ Drawn0 w w' := by
 have HR0 := Aside0.mk hr0
 have HC0 := Aside0.mk hc0
 clear hr0 hc0
 have H : (cpuset_Of.l0 k 0 l0 (l0.length : Int) 0) = some (r1, r2) := h
 clear h
 have H' := Aside0.mk H
 clear H
 go_enter Tryd.func132, Tryd.ntmps132
 go_wp2
 go_loopg [4, 10] k (fun kq v4 v10 w' => ∃ (x4_1 : Int) (x10_1 : Int), v4 = .int .u32 x4_1 ∧ v10 = .int .i64 x10_1 ∧ Aside0 (cpuset_Of.l0 kq x4_1 l0 (l0.length : Int) x10_1 = some (r1, r2)) ∧ Aside0 (kq ≤ k) ∧ Drawn0 w w')
 case atStart => exact ⟨(0), (0), (by first | rfl | (simp; done) | (simp [*]; done)), (by first | rfl | (simp; done) | (simp [*]; done)), H', ⟨Nat.le_refl _⟩, by repeat (first | exact Drawn0.refl _ | apply Drawn0.step)⟩
 case round =>
  clear H'
  try clear c1
  obtain ⟨x4_1, x10_1, rfl, rfl, HA, HK1, ⟨m1, rfl⟩⟩ := hrel
  cases gk with
  | zero => exact absurd HA.out (by simp [cpuset_Of.l0])
  | succ k1 =>
   have H := HA.out
   clear HA
   simp only [cpuset_Of.l0] at H
   by_cases c2 : x10_1 < (l0.length : Int)
   ·rw [if_pos c2] at H
    have c2b0 : decide (x10_1 < (l0.length : Int)) = true := decide_eq_true c2
    clear c2
    by_cases c3 : 0 ≤ x10_1
    ·rw [if_pos c3] at H
     have c3b0 : decide (0 ≤ x10_1) = true := decide_eq_true c3
     clear c3
     by_cases c4 : x10_1 < (l0.length : Int)
     ·rw [if_pos c4] at H
      have c4b0 : decide (x10_1 < (l0.length : Int)) = true := decide_eq_true c4
      clear c4
      replace H := Option.bind_eq_some_iff.mp H
      obtain ⟨t805, A50, H⟩ := H
      replace H : (if t805 = 0 then (some (0, 2)) else (cpuset_Of.l0 k1 (Go.bits .or .u32 x4_1 t805) l0 (l0.length : Int) (wrap64 (x10_1 + 1)))) = some (r1, r2) := H
      have A5 := Aside0.mk A50
      clear A50
      by_cases c6 : t805 = 0
      ·rw [if_pos c6] at H
       have c6b0 : (t805 == 0) = true := beq_iff_eq.mpr c6
       have c6b1 : (t805 != 0) = false := bne_eq_false_iff_eq.mpr c6
       clear c6
       simp only [Option.some.injEq, Prod.mk.injEq] at H
       obtain ⟨rfl, rfl⟩ := H
       have p804 : 0 ≤ (x10_1 : Int) := of_decide_eq_true (by first | (with_reducible assumption) | assumption)
       have q804 : x10_1 < (l0.length : Int) := of_decide_eq_true (by first | (with_reducible assumption) | assumption)
       obtain ⟨ad804, e804, hx804_0⟩ := Kd.at_int HR0.out x10_1 p804 q804
       cases e804
       replace p804 := eq_true p804
       replace q804 := eq_true q804
       go_wp2_with (first | ((with_reducible refine gate_callee (f := 62) rfl ?_); refine goesL_ (some 15) rfl rfl Tryd.func62 (by kernel_rfl) rfl #[.int .i64 (rd l0 x10_1)] rfl (by (try simp only [List.map_toArray, List.map_cons, List.map_nil]); first | done | rfl | (simp only [List.length_drop, List.length_take]; rfl)) ?_; (with_reducible refine (cpuset_bit.calls (rd l0 x10_1) t805 _ A5.out).mono ?_); rintro e w' ⟨rfl, ⟨nd, rfl⟩⟩; refine ⟨_, rfl, ?_⟩))
       go_ret2
       exact ⟨by first | rfl | (simp; done) | (simp [*]; done), by repeat (first | exact Drawn0.refl _ | apply Drawn0.step)⟩
      ·rw [if_neg c6] at H
       have c6b0 : (t805 == 0) = false := beq_eq_false_iff_ne.mpr c6
       have c6b1 : (t805 != 0) = true := bne_iff_ne.mpr c6
       have H' := Aside0.mk H
       clear H
       have p804 : 0 ≤ (x10_1 : Int) := of_decide_eq_true (by first | (with_reducible assumption) | assumption)
       have q804 : x10_1 < (l0.length : Int) := of_decide_eq_true (by first | (with_reducible assumption) | assumption)
       obtain ⟨ad804, e804, hx804_0⟩ := Kd.at_int HR0.out x10_1 p804 q804
       cases e804
       replace p804 := eq_true p804
       replace q804 := eq_true q804
       go_wp2_with (first | ((with_reducible refine gate_callee (f := 62) rfl ?_); refine goesL_ (some 15) rfl rfl Tryd.func62 (by kernel_rfl) rfl #[.int .i64 (rd l0 x10_1)] rfl (by (try simp only [List.map_toArray, List.map_cons, List.map_nil]); first | done | rfl | (simp only [List.length_drop, List.length_take]; rfl)) ?_; (with_reducible refine (cpuset_bit.calls (rd l0 x10_1) t805 _ A5.out).mono ?_); rintro e w' ⟨rfl, ⟨nd, rfl⟩⟩; refine ⟨_, rfl, ?_⟩))
       go_roundg k1
       case measure => have := HK1.out; omega
       case rel => exact ⟨(Go.bits .or .u32 x4_1 t805), (wrap64 (x10_1 + 1)), (by first | rfl | (simp; done) | (simp [*]; done)), (by first | rfl | (simp; done) | (simp [*]; done)), H', ⟨by have := HK1.out; omega⟩, by repeat (first | exact Drawn0.refl _ | apply Drawn0.step)⟩
     ·rw [if_neg c4] at H
      exact absurd H (by simp)
    ·rw [if_neg c3] at H
     exact absurd H (by simp)
   ·rw [if_neg c2] at H
    have c2b0 : decide (x10_1 < (l0.length : Int)) = false := decide_eq_false c2
    clear c2
    simp only [Option.some.injEq, Prod.mk.injEq] at H
    obtain ⟨rfl, rfl⟩ := H
    go_wp2
    go_ret2
    exact ⟨by first | rfl | (simp; done) | (simp [*]; done), by repeat (first | exact Drawn0.refl _ | apply Drawn0.step)⟩

end Go.Proofs.YtdmieaidheelbaaDoor.Q
end
/- QFgangchoices -/
section
namespace Go.Proofs.YtdmieaidheelbaaDoor.Q
open Go.RowKit Go.Proofs.YtdmieaidheelbaaDoorW.PrintWords Go.Proofs.YtdmieaidheelbaaDoorW.PrintLast Go.Proofs.YtdmieaidheelbaaDoorW.PrintMore
attribute [local go_sem] max2_int min2_int max_two min_two max_three min_three max_four min_four
set_option linter.unusedVariables false
set_option linter.unusedSimpArgs false

def gang_choices.l0 : Nat → List (List Int) → List (List Int) → Int → Int → Option (Bool)
 | 0, _, _, _, _ => none
 | k + 1, x0, x7, x8, x9 => if x9 < x8 then (if 0 ≤ x9 then (if x9 < (x7.length : Int) then ((cpuset_Of.f k (rd_L7 x7 x9)).bind fun bt807 => (if bt807.2 = 0 then ((cpuset_Count.f bt807.1).bind fun t809 => (if t809 = ((rd_L7 x7 x9).length : Int) then (gang_choices.l0 k x0 x7 x8 (wrap64 (x9 + 1))) else (some false))) else (some false))) else (none)) else (none)) else (some (decide ((x0.length : Int) ≤ 8)))
def gang_choices.f (k : Nat) (l0 : List (List Int)) : Option (Bool) := gang_choices.l0 k l0 l0 (l0.length : Int) 0
set_option maxHeartbeats 8000000 in
set_option maxRecDepth 100000 in
theorem gang_choices.calls (k : Nat) (A0 : Option Addr) (c0 : Nat) (l0 : List (List Int)) (r : Bool) (w : World) (hr0 : Kd.C (Kd.slice 3 (Kd.int .i64)) w A0 l0.length l0) (hc0 : l0.length ≤ c0) (h : gang_choices.f k l0 = some r) :
  Calls Tryd.prog 123 #[.slice A0 l0.length c0] w fun e w' => e = .returned (.bool r) ∧ Drawn0 w w' := by
 have HR0 := Aside0.mk hr0
 have HC0 := Aside0.mk hc0
 clear hr0 hc0
 have H : (gang_choices.l0 k l0 l0 (l0.length : Int) 0) = some r := h
 clear h
 have H' := Aside0.mk H
 clear H
 go_enter Tryd.func123, Tryd.ntmps123
 go_wp2
 go_loopg [9] k (fun kq v9 w' => ∃ (x9_1 : Int), v9 = .int .i64 x9_1 ∧ Aside0 (gang_choices.l0 kq l0 l0 (l0.length : Int) x9_1 = some r) ∧ Aside0 (kq ≤ k) ∧ Drawn0 w w')
 case atStart => exact ⟨(0), (by first | rfl | (simp; done) | (simp [*]; done)), H', ⟨Nat.le_refl _⟩, by repeat (first | exact Drawn0.refl _ | apply Drawn0.step)⟩
 case round =>
  clear H'
  try clear c1
  obtain ⟨x9_1, rfl, HA, HK1, ⟨m1, rfl⟩⟩ := hrel
  cases gk with
  | zero => exact absurd HA.out (by simp [gang_choices.l0])
  | succ k1 =>
   have H := HA.out
   clear HA
   simp only [gang_choices.l0] at H
   by_cases c2 : x9_1 < (l0.length : Int)
   ·rw [if_pos c2] at H
    have c2b0 : decide (x9_1 < (l0.length : Int)) = true := decide_eq_true c2
    clear c2
    by_cases c3 : 0 ≤ x9_1
    ·rw [if_pos c3] at H
     have c3b0 : decide (0 ≤ x9_1) = true := decide_eq_true c3
     clear c3
     by_cases c4 : x9_1 < (l0.length : Int)
     ·rw [if_pos c4] at H
      have c4b0 : decide (x9_1 < (l0.length : Int)) = true := decide_eq_true c4
      clear c4
      replace H := Option.bind_eq_some_iff.mp H
      obtain ⟨⟨t807, t808⟩, A50, H⟩ := H
      replace H : (if t808 = 0 then ((cpuset_Count.f t807).bind fun t809 => (if t809 = ((rd_L7 l0 x9_1).length : Int) then (gang_choices.l0 k1 l0 l0 (l0.length : Int) (wrap64 (x9_1 + 1))) else (some false))) else (some false)) = some r := H
      have A5 := Aside0.mk A50
      clear A50
      by_cases c6 : t808 = 0
      ·rw [if_pos c6] at H
       have c6b0 : (t808 == 0) = true := beq_iff_eq.mpr c6
       have c6b1 : (t808 != 0) = false := bne_eq_false_iff_eq.mpr c6
       clear c6
       replace H := Option.bind_eq_some_iff.mp H
       obtain ⟨t809, A70, H⟩ := H
       replace H : (if t809 = ((rd_L7 l0 x9_1).length : Int) then (gang_choices.l0 k1 l0 l0 (l0.length : Int) (wrap64 (x9_1 + 1))) else (some false)) = some r := H
       have A7 := Aside0.mk A70
       clear A70
       by_cases c8 : t809 = ((rd_L7 l0 x9_1).length : Int)
       ·rw [if_pos c8] at H
        have c8b0 : (t809 == ((rd_L7 l0 x9_1).length : Int)) = true := beq_iff_eq.mpr c8
        have c8b1 : (t809 != ((rd_L7 l0 x9_1).length : Int)) = false := bne_eq_false_iff_eq.mpr c8
        clear c8
        have H' := Aside0.mk H
        clear H
        have p806 : 0 ≤ (x9_1 : Int) := of_decide_eq_true (by first | (with_reducible assumption) | assumption)
        have q806 : x9_1 < (l0.length : Int) := of_decide_eq_true (by first | (with_reducible assumption) | assumption)
        obtain ⟨ad806, A806_0, c806_0, e806, hx806_0, hl806_0, hi806_0⟩ := at_L7 HR0.out x9_1 p806 q806
        cases e806
        have HR806_0 := Aside0.mk hi806_0
        have HC806_0 := Aside0.mk hl806_0
        clear hi806_0 hl806_0
        replace p806 := eq_true p806
        replace q806 := eq_true q806
        go_wp2_with (first | ((with_reducible refine gate_callee (f := 132) rfl ?_); refine goesL_ (some 15) rfl rfl Tryd.func132 (by kernel_rfl) rfl #[.slice A806_0 (rd_L7 l0 x9_1).length c806_0] rfl (by (try simp only [List.map_toArray, List.map_cons, List.map_nil]); first | done | rfl | (simp only [List.length_drop, List.length_take]; rfl)) ?_; (with_reducible refine (cpuset_Of.calls k1 _ _ (rd_L7 l0 x9_1) t807 t808 _ ?side1 ?side2 A5.out).mono ?_); (case side1 => repeat (first | exact HR806_0.out | (with_reducible refine Kd.C_alloc ?_ _) | (with_reducible refine Kd.C_drewN ?_ _) | (with_reducible refine Kd.C_drew ?_))); (case side2 => exact HC806_0.out); rintro e w' ⟨rfl, ⟨nd, rfl⟩⟩; refine ⟨_, rfl, ?_⟩) | (go_at_call 17; (with_reducible refine (cpuset_Count.calls t807 t809 _ A7.out).mono ?_); rintro e w' ⟨rfl, ⟨nd, rfl⟩⟩))
        go_roundg k1
        case measure => have := HK1.out; omega
        case rel => exact ⟨(wrap64 (x9_1 + 1)), (by first | rfl | (simp; done) | (simp [*]; done)), H', ⟨by have := HK1.out; omega⟩, by repeat (first | exact Drawn0.refl _ | apply Drawn0.step)⟩
       ·rw [if_neg c8] at H
        have c8b0 : (t809 == ((rd_L7 l0 x9_1).length : Int)) = false := beq_eq_false_iff_ne.mpr c8
        have c8b1 : (t809 != ((rd_L7 l0 x9_1).length : Int)) = true := bne_iff_ne.mpr c8
        obtain rfl := Option.some.inj H
        have p806 : 0 ≤ (x9_1 : Int) := of_decide_eq_true (by first | (with_reducible assumption) | assumption)
        have q806 : x9_1 < (l0.length : Int) := of_decide_eq_true (by first | (with_reducible assumption) | assumption)
        obtain ⟨ad806, A806_0, c806_0, e806, hx806_0, hl806_0, hi806_0⟩ := at_L7 HR0.out x9_1 p806 q806
        cases e806
        have HR806_0 := Aside0.mk hi806_0
        have HC806_0 := Aside0.mk hl806_0
        clear hi806_0 hl806_0
        replace p806 := eq_true p806
        replace q806 := eq_true q806
        go_wp2_with (first | ((with_reducible refine gate_callee (f := 132) rfl ?_); refine goesL_ (some 15) rfl rfl Tryd.func132 (by kernel_rfl) rfl #[.slice A806_0 (rd_L7 l0 x9_1).length c806_0] rfl (by (try simp only [List.map_toArray, List.map_cons, List.map_nil]); first | done | rfl | (simp only [List.length_drop, List.length_take]; rfl)) ?_; (with_reducible refine (cpuset_Of.calls k1 _ _ (rd_L7 l0 x9_1) t807 t808 _ ?side1 ?side2 A5.out).mono ?_); (case side1 => repeat (first | exact HR806_0.out | (with_reducible refine Kd.C_alloc ?_ _) | (with_reducible refine Kd.C_drewN ?_ _) | (with_reducible refine Kd.C_drew ?_))); (case side2 => exact HC806_0.out); rintro e w' ⟨rfl, ⟨nd, rfl⟩⟩; refine ⟨_, rfl, ?_⟩) | (go_at_call 17; (with_reducible refine (cpuset_Count.calls t807 t809 _ A7.out).mono ?_); rintro e w' ⟨rfl, ⟨nd, rfl⟩⟩))
        go_ret
        exact ⟨by first | rfl | (simp; done) | (simp [*]; done), by repeat (first | exact Drawn0.refl _ | apply Drawn0.step)⟩
      ·rw [if_neg c6] at H
       have c6b0 : (t808 == 0) = false := beq_eq_false_iff_ne.mpr c6
       have c6b1 : (t808 != 0) = true := bne_iff_ne.mpr c6
       obtain rfl := Option.some.inj H
       have p806 : 0 ≤ (x9_1 : Int) := of_decide_eq_true (by first | (with_reducible assumption) | assumption)
       have q806 : x9_1 < (l0.length : Int) := of_decide_eq_true (by first | (with_reducible assumption) | assumption)
       obtain ⟨ad806, A806_0, c806_0, e806, hx806_0, hl806_0, hi806_0⟩ := at_L7 HR0.out x9_1 p806 q806
       cases e806
       have HR806_0 := Aside0.mk hi806_0
       have HC806_0 := Aside0.mk hl806_0
       clear hi806_0 hl806_0
       replace p806 := eq_true p806
       replace q806 := eq_true q806
       go_wp2_with (first | ((with_reducible refine gate_callee (f := 132) rfl ?_); refine goesL_ (some 15) rfl rfl Tryd.func132 (by kernel_rfl) rfl #[.slice A806_0 (rd_L7 l0 x9_1).length c806_0] rfl (by (try simp only [List.map_toArray, List.map_cons, List.map_nil]); first | done | rfl | (simp only [List.length_drop, List.length_take]; rfl)) ?_; (with_reducible refine (cpuset_Of.calls k1 _ _ (rd_L7 l0 x9_1) t807 t808 _ ?side1 ?side2 A5.out).mono ?_); (case side1 => repeat (first | exact HR806_0.out | (with_reducible refine Kd.C_alloc ?_ _) | (with_reducible refine Kd.C_drewN ?_ _) | (with_reducible refine Kd.C_drew ?_))); (case side2 => exact HC806_0.out); rintro e w' ⟨rfl, ⟨nd, rfl⟩⟩; refine ⟨_, rfl, ?_⟩))
       go_ret
       exact ⟨by first | rfl | (simp; done) | (simp [*]; done), by repeat (first | exact Drawn0.refl _ | apply Drawn0.step)⟩
     ·rw [if_neg c4] at H
      exact absurd H (by simp)
    ·rw [if_neg c3] at H
     exact absurd H (by simp)
   ·rw [if_neg c2] at H
    have c2b0 : decide (x9_1 < (l0.length : Int)) = false := decide_eq_false c2
    clear c2
    obtain rfl := Option.some.inj H
    go_wp2
    go_ret
    exact ⟨by first | rfl | (simp; done) | (simp [*]; done), by repeat (first | exact Drawn0.refl _ | apply Drawn0.step)⟩

end Go.Proofs.YtdmieaidheelbaaDoor.Q
end
/- QFgangMatch -/
section
namespace Go.Proofs.YtdmieaidheelbaaDoor.Q
open Go.RowKit Go.Proofs.YtdmieaidheelbaaDoorW.PrintWords Go.Proofs.YtdmieaidheelbaaDoorW.PrintLast Go.Proofs.YtdmieaidheelbaaDoorW.PrintMore
attribute [local go_sem] max2_int min2_int max_two min_two max_three min_three max_four min_four
set_option linter.unusedVariables false
set_option linter.unusedSimpArgs false

mutual
def gang_Match.j0 : Nat → List (List Int) → Bool → Option (List Int × Bool)
 | 0, _, _ => none
 | k + 1, x0, x17 => if x17 = true then (some (([] : List Int), false)) else ((slices_Clone_int_int.f x0).bind fun t812 => (gang_Match.l0 k t812 ([] : List Int) x0 (x0.length : Int) 0))
def gang_Match.l0 : Nat → List (List Int) → List Int → List (List Int) → Int → Int → Option (List Int × Bool)
 | 0, _, _, _, _, _ => none
 | k + 1, x4, x5, x20, x21, x22 => if x22 < x21 then (if 0 ≤ x22 then (if x22 < (x20.length : Int) then (gang_Match.l1 k x4 x5 x22 x20 x21 x22 (rd_L7 x20 x22) ((rd_L7 x20 x22).length : Int) 0) else (none)) else (none)) else (some (x5, true))
def gang_Match.l1 : Nat → List (List Int) → List Int → Int → List (List Int) → Int → Int → List Int → Int → Int → Option (List Int × Bool)
 | 0, _, _, _, _, _, _, _, _, _ => none
 | k + 1, x4, x5, x6, x20, x21, x22, x27, x28, x29 => if x29 < x28 then (if 0 ≤ x29 then (if x29 < (x27.length : Int) then ((slices_Contains_int_int.f k x5 (rd x27 x29)).bind fun t817 => (if t817 = true then (gang_Match.l1 k x4 x5 x6 x20 x21 x22 x27 x28 (wrap64 (x29 + 1))) else (if 0 ≤ x6 then (if x6 < (x4.length : Int) then ((some (x4.set (x6 : Int).toNat (([rd x27 x29] : List Int)) : List (List Int))).bind fun y821 => ((gang_matching.f y821).bind fun t822 => (if t822 = true then (if x5.length < 17592186044416 then (gang_Match.l0 k y821 (x5 ++ [rd x27 x29]) x20 x21 (wrap64 (x22 + 1))) else (none)) else (gang_Match.l1 k y821 x5 x6 x20 x21 x22 x27 x28 (wrap64 (x29 + 1)))))) else (none)) else (none)))) else (none)) else (none)) else (gang_Match.l0 k x4 x5 x20 x21 (wrap64 (x22 + 1)))
end
def gang_Match.f (k : Nat) (l0 : List (List Int)) : Option (List Int × Bool) := (gang_choices.f k l0).bind fun t810 => (if t810 = true then ((gang_matching.f l0).bind fun t811 => (gang_Match.j0 k l0 (!t811))) else (gang_Match.j0 k l0 true))
set_option maxHeartbeats 8000000 in
set_option maxRecDepth 100000 in
theorem gang_Match.calls (k : Nat) (A0 : Option Addr) (c0 : Nat) (l0 : List (List Int)) (r1 : List Int) (r2 : Bool) (w : World) (hr0 : Kd.C (Kd.slice 3 (Kd.int .i64)) w A0 l0.length l0) (hc0 : l0.length ≤ c0) (h : gang_Match.f k l0 = some (r1, r2)) :
  Calls Tryd.prog 105 #[.slice A0 l0.length c0] w fun e w' => ∃ v0_ : Value, e = .returned (.tuple #[v0_, .bool r2]) ∧ Kd.R (Kd.int .i64) 3 w' w.heap.size (fun _ => True) v0_ r1 ∧ Below w.heap.size w w' := by
 have HR0 := Aside0.mk hr0
 have HC0 := Aside0.mk hc0
 clear hr0 hc0
 have HB := Aside0.mk (Below.refl w.heap.size w)
 have H : ((gang_choices.f k l0).bind fun t810 => (if t810 = true then ((gang_matching.f l0).bind fun t811 => (gang_Match.j0 k l0 (!t811))) else (gang_Match.j0 k l0 true))) = some (r1, r2) := h
 clear h
 have HC2 := Aside0.mk H
 clear H
 go_enter Tryd.func105, Tryd.ntmps105
 go_upto_region 1 with (fail)
 go_cut [17] (fun v17 wc => ∃ (kq : Nat) (x17_1 : Bool), v17 = .bool x17_1 ∧ Aside0 (gang_Match.j0 kq l0 x17_1 = some (r1, r2)) ∧ Aside0 (kq ≤ k) ∧ Aside0 (Below w.heap.size w wc))
 case first =>
  have H := HC2.out
  clear HC2
  replace H := Option.bind_eq_some_iff.mp H
  obtain ⟨t810, A30, H⟩ := H
  replace H : (if t810 = true then ((gang_matching.f l0).bind fun t811 => (gang_Match.j0 k l0 (!t811))) else (gang_Match.j0 k l0 true)) = some (r1, r2) := H
  have A3 := Aside0.mk A30
  clear A30
  by_cases c4 : t810 = true
  ·subst c4
   have H1 : ((gang_matching.f l0).bind fun t811 => (gang_Match.j0 k l0 (!t811))) = some (r1, r2) := by rw [if_pos rfl] at H; exact H
   clear H
   have H := H1
   clear H1
   replace H := Option.bind_eq_some_iff.mp H
   obtain ⟨t811, A50, H⟩ := H
   replace H : (gang_Match.j0 k l0 (!t811)) = some (r1, r2) := H
   have A5 := Aside0.mk A50
   clear A50
   have H' := Aside0.mk H
   clear H
   go_wp2_with (first | ((with_reducible refine gate_callee (f := 123) rfl ?_); refine goesL_ (some 11) rfl rfl Tryd.func123 (by kernel_rfl) rfl #[.slice A0 l0.length c0] rfl (by (try simp only [List.map_toArray, List.map_cons, List.map_nil]); first | done | rfl | (simp only [List.length_drop, List.length_take]; rfl)) ?_; (with_reducible refine (gang_choices.calls k _ _ l0 true _ ?side1 ?side2 A3.out).mono ?_); (case side1 => repeat (first | exact (Kd.C_below HR0.out HB.out) | (with_reducible refine Kd.C_alloc ?_ _) | (with_reducible refine Kd.C_drewN ?_ _) | (with_reducible refine Kd.C_drew ?_))); (case side2 => exact HC0.out); rintro e w' ⟨rfl, ⟨nd, rfl⟩⟩; refine ⟨_, rfl, ?_⟩) | (go_at_call 124; (with_reducible refine (gang_matching.calls _ _ l0 t811 _ ?side1 ?side2 A5.out).mono ?_); (case side1 => repeat (first | exact (Kd.C_below HR0.out (by repeat (first | (with_reducible first | exact HB.out | apply below_alloc | apply pw_below_drewN | apply below_drew1) | exact HB.out))) | (with_reducible refine Kd.C_alloc ?_ _) | (with_reducible refine Kd.C_drewN ?_ _) | (with_reducible refine Kd.C_drew ?_))); (case side2 => exact HC0.out); rintro e w6 ⟨rfl, hb⟩; have n0_ := Aside0.mk (below_step (by repeat (first | (with_reducible first | exact HB.out | apply below_alloc | apply pw_below_drewN | apply below_drew1) | exact HB.out)) hb); clear HB; have HB := n0_; clear n0_; (try clear hb); (try clear hb2); (try clear hk); (try clear hi)))
   go_meet
   case rel => exact ⟨_, (!t811), (by first | rfl | (simp; done) | (simp [*]; done)), H', ⟨by first | omega | exact Nat.le_refl _⟩, ⟨by repeat (first | (with_reducible first | exact HB.out | apply below_alloc | apply pw_below_drewN | apply below_drew1) | exact HB.out)⟩⟩
  ·replace c4 := Bool.eq_false_iff.mpr c4
   subst c4
   have H1 : (gang_Match.j0 k l0 true) = some (r1, r2) := by rw [if_neg (show ¬ (false = true) by decide)] at H; exact H
   clear H
   have H := H1
   clear H1
   have H' := Aside0.mk H
   clear H
   go_wp2_with (first | ((with_reducible refine gate_callee (f := 123) rfl ?_); refine goesL_ (some 11) rfl rfl Tryd.func123 (by kernel_rfl) rfl #[.slice A0 l0.length c0] rfl (by (try simp only [List.map_toArray, List.map_cons, List.map_nil]); first | done | rfl | (simp only [List.length_drop, List.length_take]; rfl)) ?_; (with_reducible refine (gang_choices.calls k _ _ l0 false _ ?side1 ?side2 A3.out).mono ?_); (case side1 => repeat (first | exact (Kd.C_below HR0.out HB.out) | (with_reducible refine Kd.C_alloc ?_ _) | (with_reducible refine Kd.C_drewN ?_ _) | (with_reducible refine Kd.C_drew ?_))); (case side2 => exact HC0.out); rintro e w' ⟨rfl, ⟨nd, rfl⟩⟩; refine ⟨_, rfl, ?_⟩))
   go_meet
   case rel => exact ⟨_, (true), (by first | rfl | (simp; done) | (simp [*]; done)), H', ⟨by first | omega | exact Nat.le_refl _⟩, ⟨by repeat (first | (with_reducible first | exact HB.out | apply below_alloc | apply pw_below_drewN | apply below_drew1) | exact HB.out)⟩⟩
 case rest =>
  clear HC2
  try clear c1
  try clear p2
  try clear c4
  obtain ⟨kq, x17_1, rfl, HA, HJ1, HB⟩ := hcut
  cases kq with
  | zero => exact absurd HA.out (by simp [gang_Match.j0])
  | succ kj1 =>
   have H := HA.out
   clear HA
   simp only [gang_Match.j0] at H
   by_cases c7 : x17_1 = true
   ·subst c7
    have H1 : (some (([] : List Int), false)) = some (r1, r2) := by rw [if_pos rfl] at H; exact H
    clear H
    have H := H1
    clear H1
    simp only [Option.some.injEq, Prod.mk.injEq] at H
    obtain ⟨rfl, rfl⟩ := H
    go_wp2
    go_ret2
    exact ⟨_, by first | rfl | (simp [errW_none, errW_some] <;> rfl) | (simp [*, errW_none, errW_some] <;> rfl), by first | exact Kd.R_nil _ _ _ _ _ | exact Kd.N_nil _ _ _ _ _ | exact Kd.V_nil _ _ _ _ _ | exact Kd.Q_nil _ _ _ _ _ | exact Kd.S_nil _ _ _ _ _, by repeat (first | (with_reducible first | exact HB.out | apply below_alloc | apply pw_below_drewN | apply below_drew1) | exact HB.out)⟩
   ·replace c7 := Bool.eq_false_iff.mpr c7
    subst c7
    have H1 : ((slices_Clone_int_int.f l0).bind fun t812 => (gang_Match.l0 kj1 t812 ([] : List Int) l0 (l0.length : Int) 0)) = some (r1, r2) := by rw [if_neg (show ¬ (false = true) by decide)] at H; exact H
    clear H
    have H := H1
    clear H1
    replace H := Option.bind_eq_some_iff.mp H
    obtain ⟨t812, A80, H⟩ := H
    replace H : (gang_Match.l0 kj1 t812 ([] : List Int) l0 (l0.length : Int) 0) = some (r1, r2) := H
    have A8 := Aside0.mk A80
    clear A80
    have H' := Aside0.mk H
    clear H
    go_wp2_with (first | ((with_reducible refine gate_callee (f := 125) rfl ?_); refine goesL_ (some 19) rfl rfl Tryd.func125 (by kernel_rfl) rfl #[.slice A0 l0.length c0] rfl (by (try simp only [List.map_toArray, List.map_cons, List.map_nil]); first | done | rfl | (simp only [List.length_drop, List.length_take]; rfl)) ?_; (with_reducible refine (slices_Clone_int_int.calls w _ _ l0 t812 _ HR0.out ?side1 ?side2 A8.out).mono ?_); (case side1 => repeat (first | (with_reducible first | exact HB.out | apply below_alloc | apply pw_below_drewN | apply below_drew1) | exact HB.out)); (case side2 => exact HC0.out); rintro e w9 ⟨v813, rfl, ho0, hb⟩; refine ⟨_, rfl, ?_⟩; have n0_ := Aside0.mk (Kd.S_lower ho0 (below_size (by repeat (first | (with_reducible first | exact HB.out | apply below_alloc | apply pw_below_drewN | apply below_drew1) | exact HB.out)))); have n1_ := Aside0.mk (below_step (by repeat (first | (with_reducible first | exact HB.out | apply below_alloc | apply pw_below_drewN | apply below_drew1) | exact HB.out)) hb); clear HB; have HO814 := n0_; have HB := n1_; clear n0_ n1_; (try clear hb); (try clear hb2); (try clear hk); (try clear hi); (try clear ho0)))
    go_loopg [5, 22] kj1 (fun kq v5 v22 w' => ∃ (x4_2 : List (List Int)) (x5_2 : List Int) (x22_2 : Int), v22 = .int .i64 x22_2 ∧ Aside0 (gang_Match.l0 kq x4_2 x5_2 l0 (l0.length : Int) x22_2 = some (r1, r2)) ∧ Aside0 (kq ≤ kj1) ∧ Aside0 (Kd.S (KMix w) 42 w' w.heap.size (fun k_ => some k_ ≠ (v5 : Value).ownBlock) v813 x4_2) ∧ Aside0 (Kd.R (Kd.int .i64) 3 w' w.heap.size (fun _ => True) v5 x5_2) ∧ Aside0 (Below w.heap.size w w'))
    case atStart => exact ⟨(t812), (([] : List Int)), (0), (by first | rfl | (simp; done) | (simp [*]; done)), H', ⟨Nat.le_refl _⟩, ⟨by (with_reducible repeat (first | apply Kd.S_alloc | apply Kd.S_drewN | apply Kd.S_drew)); exact Kd.S_mono HO814.out (fun _ hk => (by simp [Value.ownBlock]))⟩, ⟨by first | exact Kd.R_nil _ _ _ _ _ | exact Kd.N_nil _ _ _ _ _ | exact Kd.V_nil _ _ _ _ _ | exact Kd.Q_nil _ _ _ _ _ | exact Kd.S_nil _ _ _ _ _⟩, ⟨by repeat (first | (with_reducible first | exact HB.out | apply below_alloc | apply pw_below_drewN | apply below_drew1) | exact HB.out)⟩⟩
    case round =>
     clear H'
     try clear c1
     try clear p2
     try clear c4
     try clear c7
     try clear p2
     obtain ⟨x4_2, x5_2, x22_2, rfl, HA, HK2, HO_4, HO_5, HB⟩ := hrel
     cases gk with
     | zero => exact absurd HA.out (by simp [gang_Match.l0])
     | succ k2 =>
      have H := HA.out
      clear HA
      simp only [gang_Match.l0] at H
      by_cases c10 : x22_2 < (l0.length : Int)
      ·rw [if_pos c10] at H
       have c10b0 : decide (x22_2 < (l0.length : Int)) = true := decide_eq_true c10
       clear c10
       by_cases c11 : 0 ≤ x22_2
       ·rw [if_pos c11] at H
        have c11b0 : decide (0 ≤ x22_2) = true := decide_eq_true c11
        clear c11
        by_cases c12 : x22_2 < (l0.length : Int)
        ·rw [if_pos c12] at H
         have c12b0 : decide (x22_2 < (l0.length : Int)) = true := decide_eq_true c12
         clear c12
         have H' := Aside0.mk H
         clear H
         have p815 : 0 ≤ (x22_2 : Int) := of_decide_eq_true (by first | (with_reducible assumption) | assumption)
         have q815 : x22_2 < (l0.length : Int) := of_decide_eq_true (by first | (with_reducible assumption) | assumption)
         obtain ⟨ad815, A815_0, c815_0, e815, hx815_0, hl815_0, hi815_0⟩ := at_L7 HR0.out x22_2 p815 q815
         cases e815
         replace hx815_0 := (HB.out.cell (World.block_lt_of_cell? w _ hx815_0)).trans hx815_0
         have HR815_0 := Aside0.mk hi815_0
         have HC815_0 := Aside0.mk hl815_0
         clear hi815_0 hl815_0
         replace p815 := eq_true p815
         replace q815 := eq_true q815
         go_wp2
         go_loopg [5, 29] k2 (fun kq v5 v29 w' => ∃ (x4_3 : List (List Int)) (x5_3 : List Int) (x29_3 : Int), v29 = .int .i64 x29_3 ∧ Aside0 (gang_Match.l1 kq x4_3 x5_3 x22_2 l0 (l0.length : Int) x22_2 (rd_L7 l0 x22_2) ((rd_L7 l0 x22_2).length : Int) x29_3 = some (r1, r2)) ∧ Aside0 (kq ≤ k2) ∧ Aside0 (Kd.S (KMix w) 42 w' w.heap.size (fun k_ => some k_ ≠ (v5 : Value).ownBlock) v813 x4_3) ∧ Aside0 (Kd.R (Kd.int .i64) 3 w' w.heap.size (fun _ => True) v5 x5_3) ∧ Aside0 (Below w.heap.size w w'))
         case atStart => exact ⟨(x4_2), (x5_2), (0), (by first | rfl | (simp; done) | (simp [*]; done)), H', ⟨Nat.le_refl _⟩, ⟨by (with_reducible repeat (first | apply Kd.S_alloc | apply Kd.S_drewN | apply Kd.S_drew)); exact HO_4.out⟩, ⟨by (with_reducible repeat (first | apply Kd.R_alloc | apply Kd.R_drewN | apply Kd.R_drew)); exact HO_5.out⟩, ⟨by repeat (first | (with_reducible first | exact HB.out | apply below_alloc | apply pw_below_drewN | apply below_drew1) | exact HB.out)⟩⟩
         case round =>
          clear H'
          try clear c1
          try clear p2
          try clear c4
          try clear c7
          try clear c8
          try clear p8
          try clear q8
          try clear hx8
          try clear c10
          try clear c10b0
          try clear c11
          try clear c11b0
          try clear c12
          try clear c12b0
          try clear hx815_0
          try clear p2
          try clear p815
          try clear q815
          obtain ⟨x4_3, x5_3, x29_3, rfl, HA, HK3, HO_4, HO_5, HB⟩ := hrel
          cases gk with
          | zero => exact absurd HA.out (by simp [gang_Match.l1])
          | succ k3 =>
           have H := HA.out
           clear HA
           simp only [gang_Match.l1] at H
           by_cases c13 : x29_3 < ((rd_L7 l0 x22_2).length : Int)
           ·rw [if_pos c13] at H
            have c13b0 : decide (x29_3 < ((rd_L7 l0 x22_2).length : Int)) = true := decide_eq_true c13
            clear c13
            by_cases c14 : 0 ≤ x29_3
            ·rw [if_pos c14] at H
             have c14b0 : decide (0 ≤ x29_3) = true := decide_eq_true c14
             clear c14
             by_cases c15 : x29_3 < ((rd_L7 l0 x22_2).length : Int)
             ·rw [if_pos c15] at H
              have c15b0 : decide (x29_3 < ((rd_L7 l0 x22_2).length : Int)) = true := decide_eq_true c15
              clear c15
              replace H := Option.bind_eq_some_iff.mp H
              obtain ⟨t817, A160, H⟩ := H
              replace H : (if t817 = true then (gang_Match.l1 k3 x4_3 x5_3 x22_2 l0 (l0.length : Int) x22_2 (rd_L7 l0 x22_2) ((rd_L7 l0 x22_2).length : Int) (wrap64 (x29_3 + 1))) else (if 0 ≤ x22_2 then (if x22_2 < (x4_3.length : Int) then ((some (x4_3.set (x22_2 : Int).toNat (([rd (rd_L7 l0 x22_2) x29_3] : List Int)) : List (List Int))).bind fun y821 => ((gang_matching.f y821).bind fun t822 => (if t822 = true then (if x5_3.length < 17592186044416 then (gang_Match.l0 k3 y821 (x5_3 ++ [rd (rd_L7 l0 x22_2) x29_3]) l0 (l0.length : Int) (wrap64 (x22_2 + 1))) else (none)) else (gang_Match.l1 k3 y821 x5_3 x22_2 l0 (l0.length : Int) x22_2 (rd_L7 l0 x22_2) ((rd_L7 l0 x22_2).length : Int) (wrap64 (x29_3 + 1)))))) else (none)) else (none))) = some (r1, r2) := H
              have A16 := Aside0.mk A160
              clear A160
              by_cases c17 : t817 = true
              ·subst c17
               have H1 : (gang_Match.l1 k3 x4_3 x5_3 x22_2 l0 (l0.length : Int) x22_2 (rd_L7 l0 x22_2) ((rd_L7 l0 x22_2).length : Int) (wrap64 (x29_3 + 1))) = some (r1, r2) := by rw [if_pos rfl] at H; exact H
               clear H
               have H := H1
               clear H1
               have H' := Aside0.mk H
               clear H
               have p816 : 0 ≤ (x29_3 : Int) := of_decide_eq_true (by first | (with_reducible assumption) | assumption)
               have q816 : x29_3 < ((rd_L7 l0 x22_2).length : Int) := of_decide_eq_true (by first | (with_reducible assumption) | assumption)
               obtain ⟨ad816, e816, hx816_0⟩ := Kd.at_int HR815_0.out x29_3 p816 q816
               cases e816
               replace hx816_0 := (HB.out.cell (World.block_lt_of_cell? w _ hx816_0)).trans hx816_0
               replace p816 := eq_true p816
               replace q816 := eq_true q816
               obtain ⟨Ao18, co18, eo18⟩ := Kd.R_slice HO_5.out
               subst eo18
               go_wp2_with (first | ((with_reducible refine gate_callee (f := 93) rfl ?_); refine goesL_ (some 35) rfl rfl Tryd.func93 (by kernel_rfl) rfl #[.slice Ao18 x5_3.length co18, .int .i64 (rd (rd_L7 l0 x22_2) x29_3)] rfl (by (try simp only [List.map_toArray, List.map_cons, List.map_nil]); first | done | rfl | (simp only [List.length_drop, List.length_take]; rfl)) ?_; (with_reducible refine (slices_Contains_int_int.calls k3 _ _ x5_3 (rd (rd_L7 l0 x22_2) x29_3) true _ ?side1 ?side2 A16.out).mono ?_); (case side1 => repeat (first | exact (Kd.R_reads' HO_5.out).2.2 | (with_reducible refine Kd.C_alloc ?_ _) | (with_reducible refine Kd.C_drewN ?_ _) | (with_reducible refine Kd.C_drew ?_))); (case side2 => exact (Kd.R_reads' HO_5.out).2.1); rintro e w' ⟨rfl, ⟨nd, rfl⟩⟩; refine ⟨_, rfl, ?_⟩))
               go_roundg k3
               case measure => have := HJ1.out; have := HK2.out; have := HK3.out; omega
               case rel => exact ⟨(x4_3), (x5_3), (wrap64 (x29_3 + 1)), (by first | rfl | (simp; done) | (simp [*]; done)), H', ⟨by have := HJ1.out; have := HK2.out; have := HK3.out; omega⟩, ⟨by (with_reducible repeat (first | apply Kd.S_alloc | apply Kd.S_drewN | apply Kd.S_drew)); exact HO_4.out⟩, ⟨by (with_reducible repeat (first | apply Kd.R_alloc | apply Kd.R_drewN | apply Kd.R_drew)); exact HO_5.out⟩, ⟨by repeat (first | (with_reducible first | exact HB.out | apply below_alloc | apply pw_below_drewN | apply below_drew1) | exact HB.out)⟩⟩
              ·replace c17 := Bool.eq_false_iff.mpr c17
               subst c17
               have H1 : (if 0 ≤ x22_2 then (if x22_2 < (x4_3.length : Int) then ((some (x4_3.set (x22_2 : Int).toNat (([rd (rd_L7 l0 x22_2) x29_3] : List Int)) : List (List Int))).bind fun y821 => ((gang_matching.f y821).bind fun t822 => (if t822 = true then (if x5_3.length < 17592186044416 then (gang_Match.l0 k3 y821 (x5_3 ++ [rd (rd_L7 l0 x22_2) x29_3]) l0 (l0.length : Int) (wrap64 (x22_2 + 1))) else (none)) else (gang_Match.l1 k3 y821 x5_3 x22_2 l0 (l0.length : Int) x22_2 (rd_L7 l0 x22_2) ((rd_L7 l0 x22_2).length : Int) (wrap64 (x29_3 + 1)))))) else (none)) else (none)) = some (r1, r2) := by rw [if_neg (show ¬ (false = true) by decide)] at H; exact H
               clear H
               have H := H1
               clear H1
               obtain ⟨y818, hy818⟩ : ∃ y_ : List Int, y_ = (([rd (rd_L7 l0 x22_2) x29_3] : List Int)) := ⟨_, rfl⟩
               replace H : (if 0 ≤ x22_2 then (if x22_2 < (x4_3.length : Int) then ((some (x4_3.set (x22_2 : Int).toNat y818 : List (List Int))).bind fun y821 => ((gang_matching.f y821).bind fun t822 => (if t822 = true then (if x5_3.length < 17592186044416 then (gang_Match.l0 k3 y821 (x5_3 ++ [rd (rd_L7 l0 x22_2) x29_3]) l0 (l0.length : Int) (wrap64 (x22_2 + 1))) else (none)) else (gang_Match.l1 k3 y821 x5_3 x22_2 l0 (l0.length : Int) x22_2 (rd_L7 l0 x22_2) ((rd_L7 l0 x22_2).length : Int) (wrap64 (x29_3 + 1)))))) else (none)) else (none)) = some (r1, r2) := by first | (rw [hy818]; with_reducible exact H) | (have H2_ := (Option.bind_some _ _).symm.trans H; rw [hy818]; with_reducible exact H2_) | (have H2_ := (Option.bind_some _ _).symm.trans H; with_reducible exact H2_) | with_reducible exact H | (rw [hy818]; exact H) | exact H
               have Ny818 := Aside0.mk hy818
               clear hy818
               by_cases c19 : 0 ≤ x22_2
               ·rw [if_pos c19] at H
                have c19b0 : decide (0 ≤ x22_2) = true := decide_eq_true c19
                clear c19
                by_cases c20 : x22_2 < (x4_3.length : Int)
                ·rw [if_pos c20] at H
                 have c20b0 : decide (x22_2 < (x4_3.length : Int)) = true := decide_eq_true c20
                 clear c20
                 obtain ⟨y821, hy821⟩ : ∃ y_ : List (List Int), y_ = (x4_3.set (x22_2 : Int).toNat y818) := ⟨_, rfl⟩
                 replace H : ((gang_matching.f y821).bind fun t822 => (if t822 = true then (if x5_3.length < 17592186044416 then (gang_Match.l0 k3 y821 (x5_3 ++ [rd (rd_L7 l0 x22_2) x29_3]) l0 (l0.length : Int) (wrap64 (x22_2 + 1))) else (none)) else (gang_Match.l1 k3 y821 x5_3 x22_2 l0 (l0.length : Int) x22_2 (rd_L7 l0 x22_2) ((rd_L7 l0 x22_2).length : Int) (wrap64 (x29_3 + 1))))) = some (r1, r2) := by first | (rw [hy821]; with_reducible exact H) | (have H2_ := (Option.bind_some _ _).symm.trans H; rw [hy821]; with_reducible exact H2_) | (have H2_ := (Option.bind_some _ _).symm.trans H; with_reducible exact H2_) | with_reducible exact H | (rw [hy821]; exact H) | exact H
                 have Ny821 := Aside0.mk hy821
                 clear hy821
                 replace H := Option.bind_eq_some_iff.mp H
                 obtain ⟨t822, A220, H⟩ := H
                 replace H : (if t822 = true then (if x5_3.length < 17592186044416 then (gang_Match.l0 k3 y821 (x5_3 ++ [rd (rd_L7 l0 x22_2) x29_3]) l0 (l0.length : Int) (wrap64 (x22_2 + 1))) else (none)) else (gang_Match.l1 k3 y821 x5_3 x22_2 l0 (l0.length : Int) x22_2 (rd_L7 l0 x22_2) ((rd_L7 l0 x22_2).length : Int) (wrap64 (x29_3 + 1)))) = some (r1, r2) := H
                 have A22 := Aside0.mk A220
                 clear A220
                 by_cases c23 : t822 = true
                 ·subst c23
                  have H1 : (if x5_3.length < 17592186044416 then (gang_Match.l0 k3 y821 (x5_3 ++ [rd (rd_L7 l0 x22_2) x29_3]) l0 (l0.length : Int) (wrap64 (x22_2 + 1))) else (none)) = some (r1, r2) := by rw [if_pos rfl] at H; exact H
                  clear H
                  have H := H1
                  clear H1
                  by_cases c24 : x5_3.length < 17592186044416
                  ·rw [if_pos c24] at H
                   have LMc24 := Aside0.mk c24
                   clear c24
                   obtain ⟨y823, hy823⟩ : ∃ y_ : List Int, y_ = (x5_3 ++ [rd (rd_L7 l0 x22_2) x29_3]) := ⟨_, rfl⟩
                   replace H : (gang_Match.l0 k3 y821 y823 l0 (l0.length : Int) (wrap64 (x22_2 + 1))) = some (r1, r2) := by first | (rw [hy823]; with_reducible exact H) | (have H2_ := (Option.bind_some _ _).symm.trans H; rw [hy823]; with_reducible exact H2_) | (have H2_ := (Option.bind_some _ _).symm.trans H; with_reducible exact H2_) | with_reducible exact H | (rw [hy823]; exact H) | exact H
                   have Ny823 := Aside0.mk hy823
                   clear hy823
                   have H' := Aside0.mk H
                   clear H
                   have p816 : 0 ≤ (x29_3 : Int) := of_decide_eq_true (by first | (with_reducible assumption) | assumption)
                   have q816 : x29_3 < ((rd_L7 l0 x22_2).length : Int) := of_decide_eq_true (by first | (with_reducible assumption) | assumption)
                   obtain ⟨ad816, e816, hx816_0⟩ := Kd.at_int HR815_0.out x29_3 p816 q816
                   cases e816
                   replace hx816_0 := (HB.out.cell (World.block_lt_of_cell? w _ hx816_0)).trans hx816_0
                   replace p816 := eq_true p816
                   replace q816 := eq_true q816
                   obtain ⟨Ao25, co25, eo25⟩ := Kd.R_slice HO_5.out
                   subst eo25
                   go_wp2_with (first | ((with_reducible refine gate_callee (f := 93) rfl ?_); refine goesL_ (some 35) rfl rfl Tryd.func93 (by kernel_rfl) rfl #[.slice Ao25 x5_3.length co25, .int .i64 (rd (rd_L7 l0 x22_2) x29_3)] rfl (by (try simp only [List.map_toArray, List.map_cons, List.map_nil]); first | done | rfl | (simp only [List.length_drop, List.length_take]; rfl)) ?_; (with_reducible refine (slices_Contains_int_int.calls k3 _ _ x5_3 (rd (rd_L7 l0 x22_2) x29_3) false _ ?side1 ?side2 A16.out).mono ?_); (case side1 => repeat (first | exact (Kd.R_reads' HO_5.out).2.2 | (with_reducible refine Kd.C_alloc ?_ _) | (with_reducible refine Kd.C_drewN ?_ _) | (with_reducible refine Kd.C_drew ?_))); (case side2 => exact (Kd.R_reads' HO_5.out).2.1); rintro e w' ⟨rfl, ⟨nd, rfl⟩⟩; refine ⟨_, rfl, ?_⟩; (try (rw [drewN_self wr]; generalize hq_ : World.drewN wr _ = wr; have n0_ : Aside0 (Kd.S (KMix w) 42 wr w.heap.size (fun k_ => some k_ ≠ (.slice Ao25 x5_3.length co25 : Value).ownBlock) v813 x4_3) := ⟨by rw [← hq_]; exact (by (with_reducible repeat (first | apply Kd.S_alloc | apply Kd.S_drewN | apply Kd.S_drew)); exact HO_4.out)⟩; have n1_ : Aside0 (Kd.R (Kd.int .i64) 3 wr w.heap.size (fun _ => True) (.slice Ao25 x5_3.length co25) x5_3) := ⟨by rw [← hq_]; exact (by (with_reducible repeat (first | apply Kd.R_alloc | apply Kd.R_drewN | apply Kd.R_drew)); exact HO_5.out)⟩; have n2_ : Aside0 (Below w.heap.size w wr) := ⟨by rw [← hq_]; exact (by repeat (first | (with_reducible first | exact HB.out | apply below_alloc | apply pw_below_drewN | apply below_drew1) | exact HB.out))⟩; clear HO_4 HO_5 HB hq_; have HO_4 := n0_; have HO_5 := n1_; have HB := n2_; clear n0_ n1_ n2_))) | ((with_reducible refine gate_dst (N := 39) rfl ?_); refine Kd.R_lit (Kd.int .i64) _ 3 ?hg (N := 39) ?hd (xs := ([rd (rd_L7 l0 x22_2) x29_3] : List Int)) (inner := [.int .i64 (rd (rd_L7 l0 x22_2) x29_3)]) (ok := fun _ => True) (okp := fun _ => True) ?hr ?hp (fun _ hk => hk) trivial (Below.refl _ _) (Nat.le_refl _) (by simp) ?_; (case hd => rfl); (case hg => rfl); (case hr => first | (go_simp; done) | (go_simp; rfl)); (case hp => exact (Reps.one (show Kd.M (Kd.int .i64) _ _ _ (rd (rd_L7 l0 x22_2) x29_3) [.int .i64 (rd (rd_L7 l0 x22_2) x29_3)] from rfl) (Reps.none _ _))); intro v819 w26 ho27 hb hg_ hnew_; clear hg_ hnew_; (first | rw [← Ny818.out] at ho27 | (simp only [Int.reduceToNat] at ho27; rw [← Ny818.out] at ho27)); have n0_ := Aside0.mk (Kd.S_elder' (by (with_reducible repeat (first | apply Kd.S_alloc | apply Kd.S_drewN | apply Kd.S_drew)); exact HO_4.out) (Kd.R_base ho27) hb); have n1_ := Aside0.mk (Kd.R_elder' (by (with_reducible repeat (first | apply Kd.R_alloc | apply Kd.R_drewN | apply Kd.R_drew)); exact HO_5.out) (Kd.R_base ho27) hb); have n2_ := Aside0.mk (Kd.R_lower (Kd.R_new' ho27 (Kd.R_lt (by (with_reducible repeat (first | apply Kd.R_alloc | apply Kd.R_drewN | apply Kd.R_drew)); exact HO_5.out))) (below_size (by repeat (first | (with_reducible first | exact HB.out | apply below_alloc | apply pw_below_drewN | apply below_drew1) | exact HB.out)))); have n3_ := Aside0.mk (below_step (by repeat (first | (with_reducible first | exact HB.out | apply below_alloc | apply pw_below_drewN | apply below_drew1) | exact HB.out)) hb); clear HO_4; clear HO_5; clear HB; have HO_4 := n0_; have HO_5 := n1_; have HO820 := n2_; have HB := n3_; clear n0_ n1_ n2_ n3_; clear hb ho27; have p21 : 0 ≤ (x22_2 : Int) := of_decide_eq_true (by first | (with_reducible assumption) | assumption); have q21 : (x22_2 : Int) < ((x4_3.length : Int) : Int) := of_decide_eq_true (by first | (with_reducible assumption) | assumption); obtain ⟨go21, co21, eo21, gb21, gl21, cl21, HG21⟩ := Kd.S_form HO_4.out (by omega); (first | cases eo21 | (injection eo21 with ea_ en_ ec_; (first | subst ea_ | (injection ea_ with ea_; subst ea_)); subst ec_; clear en_)); have GB21 := Aside0.mk gb21; have GG21 := Aside0.mk HG21; clear gb21 gl21 HG21; obtain ⟨_, ce21, hcl21, hM21, hcc21, hfr21, _, _⟩ := Kd.S_elem HO_4.out [] (x22_2 : Int) p21 q21; obtain ⟨ve21_0, rfl⟩ := mix_one hM21; have hx21_0 := hcc21 0 _ rfl; have hf21_0 := hfr21 0; (try simp only [show ((KMix w)).sz = 1 from rfl, Nat.mul_one, Nat.add_zero] at hx21_0); (try simp only [show ((KMix w)).sz = 1 from rfl, Nat.mul_one, Nat.add_zero] at hf21_0); clear hcl21 hcc21 hfr21 hM21; replace p21 := eq_true p21; replace q21 := eq_true q21; have HX28 := Aside0.mk (show Kd.S (KMix w) 42 w26 w.heap.size (fun k_ => ((fun k_ => some k_ ≠ (.slice Ao25 x5_3.length co25 : Value).ownBlock)) k_ ∧ ¬ ((fun k_ => some k_ = (v819 : Value).ownBlock)) k_) (.slice (some ⟨go21, 0, none⟩) x4_3.length co21) x4_3 from (by (with_reducible repeat (first | apply Kd.S_alloc | apply Kd.S_drewN | apply Kd.S_drew)); exact Kd.S_mono HO_4.out (fun k_ hk => ⟨hk.1, fun e_ => hk.2 e_⟩))); obtain ⟨oki28, ce28, hcl28, hM28, hcc28, hfr28, hoki28, hH28⟩ := Kd.S_elem HX28.out [] (x22_2 : Int) (of_decide_eq_true (by first | (with_reducible assumption) | assumption)) (by have h_ : (x22_2 : Int) < ((x4_3.length : Int) : Int) := of_decide_eq_true (by first | (with_reducible assumption) | assumption); first | exact h_ | (have e_ := (Kd.S_reads' HO_4.out).1; omega) | simpa using h_); obtain ⟨ve28_0, rfl⟩ := mix_one hM28; have HP28 := Kd.S_seg hH28 (of_decide_eq_true (by first | (with_reducible assumption) | assumption)) (by have h_ : (x22_2 : Int) < ((x4_3.length : Int) : Int) := of_decide_eq_true (by first | (with_reducible assumption) | assumption); first | exact h_ | (have e_ := (Kd.S_reads' HO_4.out).1; omega) | simpa using h_) (seg := [v819]) (j := 0) (show 1 ≤ 1 from by decide) (x' := y818) (mix_row <| Kd.M_row (Kd.R_mono (Kd.R_tight rfl (Kd.R_mono (ok' := fun k_ => ((fun k_ => some k_ ≠ (.slice Ao25 x5_3.length co25 : Value).ownBlock)) k_ ∧ k_ ≠ go21) (Kd.R_apart' (HO820.out) (Kd.S_typed HO_4.out) (by decide)) (fun k_ hk => ⟨hk.1.2, fun e_ => (hk.2) (by rw [e_]; rfl)⟩))) (fun _ h_ => Or.inr (h_)))) (fun _ hk => hk) (fun k_ hk_ => ((Kd.R_mono (ok' := fun k_ => ((fun k_ => some k_ ≠ (.slice Ao25 x5_3.length co25 : Value).ownBlock)) k_ ∧ k_ ≠ go21) (Kd.R_apart' (HO820.out) (Kd.S_typed HO_4.out) (by decide)) (fun k_ hk => ⟨hk.1.2, fun e_ => (hk.2) (by rw [e_]; rfl)⟩))).1 k_ hk_.symm); have hx28_0 := hcc28 0 _ rfl; (try simp only [show ((KMix w)).sz = 1 from rfl, Nat.mul_one, Nat.add_zero] at hx28_0); have hf28_0 := hfr28 0; (try simp only [show ((KMix w)).sz = 1 from rfl, Nat.mul_one, Nat.add_zero] at hf28_0); clear hcl28 hcc28 hfr28 hM28 hoki28 hH28; (try simp only [show ((KMix w)).sz = 1 from rfl, Nat.mul_one, Nat.add_zero] at HP28)) | ((with_reducible refine gate_store (t := 42) (p := 40) rfl ?_); refine store_event (t := 42) (p := 40) (v := ?vo_w29) (w1 := (w26.setCell ⟨go21, (x22_2 : Int).toNat, none⟩ (v819))) ?hg ?ho ?hn ?hr ?_; (case ho => rfl); (case hg => rfl); (case hn => rfl); (case hr => (obtain ⟨Av_, cv_, hv_⟩ := Kd.R_slice HO820.out; subst hv_; first | (go_simp; done) | (go_simp; rfl))); intro w29 hw; have hg : w26.grownBy w29 (some go21) := (by rw [hw]; exact HP28.2); have hp_ : Kd.S (KMix w) 42 w29 w.heap.size (fun k_ => some k_ ≠ (.slice Ao25 x5_3.length co25 : Value).ownBlock) (.slice (some ⟨go21, 0, none⟩) x4_3.length co21) y821 := (by rw [hw, Ny821.out]; exact HP28.1); clear HP28; have n0_ := Aside0.mk (hp_); have n1_ := Aside0.mk (Kd.R_over' (v := (.slice (some ⟨go21, 0, none⟩) x4_3.length co21)) (by (with_reducible repeat (first | apply Kd.R_alloc | apply Kd.R_drewN | apply Kd.R_drew)); exact HO_5.out) (Kd.S_typed HO_4.out) (by decide) hg); have n2_ := Aside0.mk ((by rw [hw]; exact below_set (HB.out) GB21.out : Below w.heap.size w w29)); clear HO_4; clear HO_5; clear HB; clear HO820; have HO_4 := n0_; have HO_5 := n1_; have HB := n2_; clear n0_ n1_ n2_; clear hg hw hp_) | ((with_reducible refine gate_callee (f := 124) rfl ?_); refine goesL_ (some 42) rfl rfl Tryd.func124 (by kernel_rfl) rfl #[.slice (some ⟨go21, 0, none⟩) y821.length co21] rfl (by (try simp only [List.map_toArray, List.map_cons, List.map_nil]); first | done | (rw [show y821.length = x4_3.length from (Kd.S_reads' HO_4.out).1.symm] <;> rfl) | rfl | (simp only [List.length_drop, List.length_take]; rfl)) ?_; (with_reducible refine (gang_matching.calls _ _ y821 true _ ?side1 ?side2 A22.out).mono ?_); (case side1 => repeat (first | exact (mix_C HB.out (Kd.S_reads' HO_4.out).2.2) | (with_reducible refine Kd.C_alloc ?_ _) | (with_reducible refine Kd.C_drewN ?_ _) | (with_reducible refine Kd.C_drew ?_))); (case side2 => rw [show y821.length = x4_3.length from (Kd.S_reads' HO_4.out).1.symm]; exact (Kd.S_reads' HO_4.out).2.1); rintro e w30 ⟨rfl, hb⟩; refine ⟨_, rfl, ?_⟩; have n0_ := Aside0.mk (Kd.S_below (by (with_reducible repeat (first | apply Kd.S_alloc | apply Kd.S_drewN | apply Kd.S_drew)); exact HO_4.out) hb); have n1_ := Aside0.mk (Kd.R_below (by (with_reducible repeat (first | apply Kd.R_alloc | apply Kd.R_drewN | apply Kd.R_drew)); exact HO_5.out) hb); have n2_ := Aside0.mk (below_step (by repeat (first | (with_reducible first | exact HB.out | apply below_alloc | apply pw_below_drewN | apply below_drew1) | exact HB.out)) hb); clear HO_4; clear HO_5; clear HB; have HO_4 := n0_; have HO_5 := n1_; have HB := n2_; clear n0_ n1_ n2_; (try clear hb); (try clear hb2); (try clear hk); (try clear hi)) | ((with_reducible refine gate_builtin (b := .append) (xs := #[.tmp 43, .tmp 45]) rfl ?_); at_builtin; refine Kd.R_append (Kd.int .i64) (w0 := w) w.heap.size rfl (.tmp 43) (.tmp 45) 42 3 (.int .i64 0) 8 rfl Tryd.underlying42 info3 rfl (by decide) (by omega) (.slice Ao25 x5_3.length co25) x5_3 (rd (rd_L7 l0 x22_2) x29_3) [.int .i64 (rd (rd_L7 l0 x22_2) x29_3)] (fun _ => True) (fun _ => False) rfl rfl ?aP (fun _ hk => hk.elim) ?aF ?aO ?aB ?aS ?aL ?_; (case aP => exact rfl); (case aB => exact (by repeat (first | (with_reducible first | exact HB.out | apply below_alloc | apply pw_below_drewN | apply below_drew1) | exact HB.out))); (case aF => exact (fun _ _ => trivial)); (case aO => exact (by (with_reducible repeat (first | apply Kd.R_alloc | apply Kd.R_drewN | apply Kd.R_drew)); exact Kd.R_mono HO_5.out (fun _ hk => trivial))); (case aS => exact (below_size (by repeat (first | (with_reducible first | exact HB.out | apply below_alloc | apply pw_below_drewN | apply below_drew1) | exact HB.out)))); (case aL => have := LMc24.out; omega); intro v824 w31 ho hb hg hat; rw [← Ny823.out] at ho; have n0_ := Aside0.mk (Kd.S_after (ok := (fun _ => True)) (by (with_reducible repeat (first | apply Kd.S_alloc | apply Kd.S_drewN | apply Kd.S_drew)); exact Kd.S_mono HO_4.out (fun _ hk => ⟨trivial, hk⟩)) hg hat); have n1_ := Aside0.mk (hb); have n2_ := Aside0.mk (ho); clear HO_4; clear HB; clear HO_5; have HO_4 := n0_; have HB := n1_; have HO825 := n2_; clear n0_ n1_ n2_; clear ho hb hg hat))
                   go_roundg k3
                   case measure => have := HJ1.out; have := HK2.out; have := HK3.out; omega
                   case rel => exact ⟨(y821), (y823), (wrap64 (x22_2 + 1)), (by first | rfl | (simp; done) | (simp [*]; done)), H', ⟨by have := HJ1.out; have := HK2.out; have := HK3.out; omega⟩, ⟨by (with_reducible repeat (first | apply Kd.S_alloc | apply Kd.S_drewN | apply Kd.S_drew)); exact Kd.S_mono HO_4.out (fun _ hk => hk.2)⟩, ⟨by (with_reducible repeat (first | apply Kd.R_alloc | apply Kd.R_drewN | apply Kd.R_drew)); exact HO825.out⟩, ⟨by repeat (first | (with_reducible first | exact HB.out | apply below_alloc | apply pw_below_drewN | apply below_drew1) | exact HB.out)⟩⟩
                  ·rw [if_neg c24] at H
                   exact absurd H (by simp)
                 ·replace c23 := Bool.eq_false_iff.mpr c23
                  subst c23
                  have H1 : (gang_Match.l1 k3 y821 x5_3 x22_2 l0 (l0.length : Int) x22_2 (rd_L7 l0 x22_2) ((rd_L7 l0 x22_2).length : Int) (wrap64 (x29_3 + 1))) = some (r1, r2) := by rw [if_neg (show ¬ (false = true) by decide)] at H; exact H
                  clear H
                  have H := H1
                  clear H1
                  have H' := Aside0.mk H
                  clear H
                  have p816 : 0 ≤ (x29_3 : Int) := of_decide_eq_true (by first | (with_reducible assumption) | assumption)
                  have q816 : x29_3 < ((rd_L7 l0 x22_2).length : Int) := of_decide_eq_true (by first | (with_reducible assumption) | assumption)
                  obtain ⟨ad816, e816, hx816_0⟩ := Kd.at_int HR815_0.out x29_3 p816 q816
                  cases e816
                  replace hx816_0 := (HB.out.cell (World.block_lt_of_cell? w _ hx816_0)).trans hx816_0
                  replace p816 := eq_true p816
                  replace q816 := eq_true q816
                  obtain ⟨Ao32, co32, eo32⟩ := Kd.R_slice HO_5.out
                  subst eo32
                  go_wp2_with (first | ((with_reducible refine gate_callee (f := 93) rfl ?_); refine goesL_ (some 35) rfl rfl Tryd.func93 (by kernel_rfl) rfl #[.slice Ao32 x5_3.length co32, .int .i64 (rd (rd_L7 l0 x22_2) x29_3)] rfl (by (try simp only [List.map_toArray, List.map_cons, List.map_nil]); first | done | rfl | (simp only [List.length_drop, List.length_take]; rfl)) ?_; (with_reducible refine (slices_Contains_int_int.calls k3 _ _ x5_3 (rd (rd_L7 l0 x22_2) x29_3) false _ ?side1 ?side2 A16.out).mono ?_); (case side1 => repeat (first | exact (Kd.R_reads' HO_5.out).2.2 | (with_reducible refine Kd.C_alloc ?_ _) | (with_reducible refine Kd.C_drewN ?_ _) | (with_reducible refine Kd.C_drew ?_))); (case side2 => exact (Kd.R_reads' HO_5.out).2.1); rintro e w' ⟨rfl, ⟨nd, rfl⟩⟩; refine ⟨_, rfl, ?_⟩; (try (rw [drewN_self wr]; generalize hq_ : World.drewN wr _ = wr; have n0_ : Aside0 (Kd.S (KMix w) 42 wr w.heap.size (fun k_ => some k_ ≠ (.slice Ao32 x5_3.length co32 : Value).ownBlock) v813 x4_3) := ⟨by rw [← hq_]; exact (by (with_reducible repeat (first | apply Kd.S_alloc | apply Kd.S_drewN | apply Kd.S_drew)); exact HO_4.out)⟩; have n1_ : Aside0 (Kd.R (Kd.int .i64) 3 wr w.heap.size (fun _ => True) (.slice Ao32 x5_3.length co32) x5_3) := ⟨by rw [← hq_]; exact (by (with_reducible repeat (first | apply Kd.R_alloc | apply Kd.R_drewN | apply Kd.R_drew)); exact HO_5.out)⟩; have n2_ : Aside0 (Below w.heap.size w wr) := ⟨by rw [← hq_]; exact (by repeat (first | (with_reducible first | exact HB.out | apply below_alloc | apply pw_below_drewN | apply below_drew1) | exact HB.out))⟩; clear HO_4 HO_5 HB hq_; have HO_4 := n0_; have HO_5 := n1_; have HB := n2_; clear n0_ n1_ n2_))) | ((with_reducible refine gate_dst (N := 39) rfl ?_); refine Kd.R_lit (Kd.int .i64) _ 3 ?hg (N := 39) ?hd (xs := ([rd (rd_L7 l0 x22_2) x29_3] : List Int)) (inner := [.int .i64 (rd (rd_L7 l0 x22_2) x29_3)]) (ok := fun _ => True) (okp := fun _ => True) ?hr ?hp (fun _ hk => hk) trivial (Below.refl _ _) (Nat.le_refl _) (by simp) ?_; (case hd => rfl); (case hg => rfl); (case hr => first | (go_simp; done) | (go_simp; rfl)); (case hp => exact (Reps.one (show Kd.M (Kd.int .i64) _ _ _ (rd (rd_L7 l0 x22_2) x29_3) [.int .i64 (rd (rd_L7 l0 x22_2) x29_3)] from rfl) (Reps.none _ _))); intro v819 w33 ho34 hb hg_ hnew_; clear hg_ hnew_; (first | rw [← Ny818.out] at ho34 | (simp only [Int.reduceToNat] at ho34; rw [← Ny818.out] at ho34)); have n0_ := Aside0.mk (Kd.S_elder' (by (with_reducible repeat (first | apply Kd.S_alloc | apply Kd.S_drewN | apply Kd.S_drew)); exact HO_4.out) (Kd.R_base ho34) hb); have n1_ := Aside0.mk (Kd.R_elder' (by (with_reducible repeat (first | apply Kd.R_alloc | apply Kd.R_drewN | apply Kd.R_drew)); exact HO_5.out) (Kd.R_base ho34) hb); have n2_ := Aside0.mk (Kd.R_lower (Kd.R_new' ho34 (Kd.R_lt (by (with_reducible repeat (first | apply Kd.R_alloc | apply Kd.R_drewN | apply Kd.R_drew)); exact HO_5.out))) (below_size (by repeat (first | (with_reducible first | exact HB.out | apply below_alloc | apply pw_below_drewN | apply below_drew1) | exact HB.out)))); have n3_ := Aside0.mk (below_step (by repeat (first | (with_reducible first | exact HB.out | apply below_alloc | apply pw_below_drewN | apply below_drew1) | exact HB.out)) hb); clear HO_4; clear HO_5; clear HB; have HO_4 := n0_; have HO_5 := n1_; have HO820 := n2_; have HB := n3_; clear n0_ n1_ n2_ n3_; clear hb ho34; have p21 : 0 ≤ (x22_2 : Int) := of_decide_eq_true (by first | (with_reducible assumption) | assumption); have q21 : (x22_2 : Int) < ((x4_3.length : Int) : Int) := of_decide_eq_true (by first | (with_reducible assumption) | assumption); obtain ⟨go21, co21, eo21, gb21, gl21, cl21, HG21⟩ := Kd.S_form HO_4.out (by omega); (first | cases eo21 | (injection eo21 with ea_ en_ ec_; (first | subst ea_ | (injection ea_ with ea_; subst ea_)); subst ec_; clear en_)); have GB21 := Aside0.mk gb21; have GG21 := Aside0.mk HG21; clear gb21 gl21 HG21; obtain ⟨_, ce21, hcl21, hM21, hcc21, hfr21, _, _⟩ := Kd.S_elem HO_4.out [] (x22_2 : Int) p21 q21; obtain ⟨ve21_0, rfl⟩ := mix_one hM21; have hx21_0 := hcc21 0 _ rfl; have hf21_0 := hfr21 0; (try simp only [show ((KMix w)).sz = 1 from rfl, Nat.mul_one, Nat.add_zero] at hx21_0); (try simp only [show ((KMix w)).sz = 1 from rfl, Nat.mul_one, Nat.add_zero] at hf21_0); clear hcl21 hcc21 hfr21 hM21; replace p21 := eq_true p21; replace q21 := eq_true q21; have HX35 := Aside0.mk (show Kd.S (KMix w) 42 w33 w.heap.size (fun k_ => ((fun k_ => some k_ ≠ (.slice Ao32 x5_3.length co32 : Value).ownBlock)) k_ ∧ ¬ ((fun k_ => some k_ = (v819 : Value).ownBlock)) k_) (.slice (some ⟨go21, 0, none⟩) x4_3.length co21) x4_3 from (by (with_reducible repeat (first | apply Kd.S_alloc | apply Kd.S_drewN | apply Kd.S_drew)); exact Kd.S_mono HO_4.out (fun k_ hk => ⟨hk.1, fun e_ => hk.2 e_⟩))); obtain ⟨oki35, ce35, hcl35, hM35, hcc35, hfr35, hoki35, hH35⟩ := Kd.S_elem HX35.out [] (x22_2 : Int) (of_decide_eq_true (by first | (with_reducible assumption) | assumption)) (by have h_ : (x22_2 : Int) < ((x4_3.length : Int) : Int) := of_decide_eq_true (by first | (with_reducible assumption) | assumption); first | exact h_ | (have e_ := (Kd.S_reads' HO_4.out).1; omega) | simpa using h_); obtain ⟨ve35_0, rfl⟩ := mix_one hM35; have HP35 := Kd.S_seg hH35 (of_decide_eq_true (by first | (with_reducible assumption) | assumption)) (by have h_ : (x22_2 : Int) < ((x4_3.length : Int) : Int) := of_decide_eq_true (by first | (with_reducible assumption) | assumption); first | exact h_ | (have e_ := (Kd.S_reads' HO_4.out).1; omega) | simpa using h_) (seg := [v819]) (j := 0) (show 1 ≤ 1 from by decide) (x' := y818) (mix_row <| Kd.M_row (Kd.R_mono (Kd.R_tight rfl (Kd.R_mono (ok' := fun k_ => ((fun k_ => some k_ ≠ (.slice Ao32 x5_3.length co32 : Value).ownBlock)) k_ ∧ k_ ≠ go21) (Kd.R_apart' (HO820.out) (Kd.S_typed HO_4.out) (by decide)) (fun k_ hk => ⟨hk.1.2, fun e_ => (hk.2) (by rw [e_]; rfl)⟩))) (fun _ h_ => Or.inr (h_)))) (fun _ hk => hk) (fun k_ hk_ => ((Kd.R_mono (ok' := fun k_ => ((fun k_ => some k_ ≠ (.slice Ao32 x5_3.length co32 : Value).ownBlock)) k_ ∧ k_ ≠ go21) (Kd.R_apart' (HO820.out) (Kd.S_typed HO_4.out) (by decide)) (fun k_ hk => ⟨hk.1.2, fun e_ => (hk.2) (by rw [e_]; rfl)⟩))).1 k_ hk_.symm); have hx35_0 := hcc35 0 _ rfl; (try simp only [show ((KMix w)).sz = 1 from rfl, Nat.mul_one, Nat.add_zero] at hx35_0); have hf35_0 := hfr35 0; (try simp only [show ((KMix w)).sz = 1 from rfl, Nat.mul_one, Nat.add_zero] at hf35_0); clear hcl35 hcc35 hfr35 hM35 hoki35 hH35; (try simp only [show ((KMix w)).sz = 1 from rfl, Nat.mul_one, Nat.add_zero] at HP35)) | ((with_reducible refine gate_store (t := 42) (p := 40) rfl ?_); refine store_event (t := 42) (p := 40) (v := ?vo_w36) (w1 := (w33.setCell ⟨go21, (x22_2 : Int).toNat, none⟩ (v819))) ?hg ?ho ?hn ?hr ?_; (case ho => rfl); (case hg => rfl); (case hn => rfl); (case hr => (obtain ⟨Av_, cv_, hv_⟩ := Kd.R_slice HO820.out; subst hv_; first | (go_simp; done) | (go_simp; rfl))); intro w36 hw; have hg : w33.grownBy w36 (some go21) := (by rw [hw]; exact HP35.2); have hp_ : Kd.S (KMix w) 42 w36 w.heap.size (fun k_ => some k_ ≠ (.slice Ao32 x5_3.length co32 : Value).ownBlock) (.slice (some ⟨go21, 0, none⟩) x4_3.length co21) y821 := (by rw [hw, Ny821.out]; exact HP35.1); clear HP35; have n0_ := Aside0.mk (hp_); have n1_ := Aside0.mk (Kd.R_over' (v := (.slice (some ⟨go21, 0, none⟩) x4_3.length co21)) (by (with_reducible repeat (first | apply Kd.R_alloc | apply Kd.R_drewN | apply Kd.R_drew)); exact HO_5.out) (Kd.S_typed HO_4.out) (by decide) hg); have n2_ := Aside0.mk ((by rw [hw]; exact below_set (HB.out) GB21.out : Below w.heap.size w w36)); clear HO_4; clear HO_5; clear HB; clear HO820; have HO_4 := n0_; have HO_5 := n1_; have HB := n2_; clear n0_ n1_ n2_; clear hg hw hp_) | ((with_reducible refine gate_callee (f := 124) rfl ?_); refine goesL_ (some 42) rfl rfl Tryd.func124 (by kernel_rfl) rfl #[.slice (some ⟨go21, 0, none⟩) y821.length co21] rfl (by (try simp only [List.map_toArray, List.map_cons, List.map_nil]); first | done | (rw [show y821.length = x4_3.length from (Kd.S_reads' HO_4.out).1.symm] <;> rfl) | rfl | (simp only [List.length_drop, List.length_take]; rfl)) ?_; (with_reducible refine (gang_matching.calls _ _ y821 false _ ?side1 ?side2 A22.out).mono ?_); (case side1 => repeat (first | exact (mix_C HB.out (Kd.S_reads' HO_4.out).2.2) | (with_reducible refine Kd.C_alloc ?_ _) | (with_reducible refine Kd.C_drewN ?_ _) | (with_reducible refine Kd.C_drew ?_))); (case side2 => rw [show y821.length = x4_3.length from (Kd.S_reads' HO_4.out).1.symm]; exact (Kd.S_reads' HO_4.out).2.1); rintro e w37 ⟨rfl, hb⟩; refine ⟨_, rfl, ?_⟩; have n0_ := Aside0.mk (Kd.S_below (by (with_reducible repeat (first | apply Kd.S_alloc | apply Kd.S_drewN | apply Kd.S_drew)); exact HO_4.out) hb); have n1_ := Aside0.mk (Kd.R_below (by (with_reducible repeat (first | apply Kd.R_alloc | apply Kd.R_drewN | apply Kd.R_drew)); exact HO_5.out) hb); have n2_ := Aside0.mk (below_step (by repeat (first | (with_reducible first | exact HB.out | apply below_alloc | apply pw_below_drewN | apply below_drew1) | exact HB.out)) hb); clear HO_4; clear HO_5; clear HB; have HO_4 := n0_; have HO_5 := n1_; have HB := n2_; clear n0_ n1_ n2_; (try clear hb); (try clear hb2); (try clear hk); (try clear hi)))
                  go_roundg k3
                  case measure => have := HJ1.out; have := HK2.out; have := HK3.out; omega
                  case rel => exact ⟨(y821), (x5_3), (wrap64 (x29_3 + 1)), (by first | rfl | (simp; done) | (simp [*]; done)), H', ⟨by have := HJ1.out; have := HK2.out; have := HK3.out; omega⟩, ⟨by (with_reducible repeat (first | apply Kd.S_alloc | apply Kd.S_drewN | apply Kd.S_drew)); exact HO_4.out⟩, ⟨by (with_reducible repeat (first | apply Kd.R_alloc | apply Kd.R_drewN | apply Kd.R_drew)); exact Kd.R_mono HO_5.out (fun _ hk => trivial)⟩, ⟨by repeat (first | (with_reducible first | exact HB.out | apply below_alloc | apply pw_below_drewN | apply below_drew1) | exact HB.out)⟩⟩
                ·rw [if_neg c20] at H
                 exact absurd H (by simp)
               ·rw [if_neg c19] at H
                exact absurd H (by simp)
             ·rw [if_neg c15] at H
              exact absurd H (by simp)
            ·rw [if_neg c14] at H
             exact absurd H (by simp)
           ·rw [if_neg c13] at H
            have c13b0 : decide (x29_3 < ((rd_L7 l0 x22_2).length : Int)) = false := decide_eq_false c13
            clear c13
            have H' := Aside0.mk H
            clear H
            go_wp2
            go_roundg k3
            case measure => have := HJ1.out; have := HK2.out; have := HK3.out; omega
            case rel => exact ⟨(x4_3), (x5_3), (wrap64 (x22_2 + 1)), (by first | rfl | (simp; done) | (simp [*]; done)), H', ⟨by have := HJ1.out; have := HK2.out; have := HK3.out; omega⟩, ⟨by (with_reducible repeat (first | apply Kd.S_alloc | apply Kd.S_drewN | apply Kd.S_drew)); exact HO_4.out⟩, ⟨by (with_reducible repeat (first | apply Kd.R_alloc | apply Kd.R_drewN | apply Kd.R_drew)); exact HO_5.out⟩, ⟨by repeat (first | (with_reducible first | exact HB.out | apply below_alloc | apply pw_below_drewN | apply below_drew1) | exact HB.out)⟩⟩
        ·rw [if_neg c12] at H
         exact absurd H (by simp)
       ·rw [if_neg c11] at H
        exact absurd H (by simp)
      ·rw [if_neg c10] at H
       have c10b0 : decide (x22_2 < (l0.length : Int)) = false := decide_eq_false c10
       clear c10
       simp only [Option.some.injEq, Prod.mk.injEq] at H
       obtain ⟨rfl, rfl⟩ := H
       go_wp2
       go_ret2
       exact ⟨_, by first | rfl | (simp [errW_none, errW_some] <;> rfl) | (simp [*, errW_none, errW_some] <;> rfl), by (with_reducible repeat (first | apply Kd.R_alloc | apply Kd.R_drewN | apply Kd.R_drew)); exact HO_5.out, by repeat (first | (with_reducible first | exact HB.out | apply below_alloc | apply pw_below_drewN | apply below_drew1) | exact HB.out)⟩

end Go.Proofs.YtdmieaidheelbaaDoor.Q
end
/- QFpickChoices -/
section
namespace Go.Proofs.YtdmieaidheelbaaDoor.Q
open Go.RowKit Go.Proofs.YtdmieaidheelbaaDoorW.PrintWords Go.Proofs.YtdmieaidheelbaaDoorW.PrintLast Go.Proofs.YtdmieaidheelbaaDoorW.PrintMore
attribute [local go_sem] max2_int min2_int max_two min_two max_three min_three max_four min_four
set_option linter.unusedVariables false
set_option linter.unusedSimpArgs false

def pick_Choices.f (k : Nat) (a0_0 : Int) (a0_1 : Int) (a0_2 : Int) (a0_3 : Int) (a1 : Int) : Option (List Int) := (mask_Allows.f k a0_2 a0_3 a1).bind fun t649 => ((mask_Likes.f k a0_2 a0_3 a1).bind fun t650 => ((cpuset_Has.f t649 a0_1).bind fun t651 => (if t651 = true then (if ([] : List Int).length < 17592186044416 then ((some (([] : List Int) ++ [a0_1] : List Int)).bind fun y652 => (if 0 ≤ a0_1 then ((cpuset_List.f (Go.bits .andNot .u32 t650 (shl .u32 1 a0_1))).bind fun t655 => (if y652.length + t655.length < 17592186044416 then ((some (y652 ++ t655 : List Int)).bind fun y658 => ((cpuset_List.f (Go.bits .andNot .u32 (Go.bits .andNot .u32 t649 (shl .u32 1 a0_1)) (Go.bits .andNot .u32 t650 (shl .u32 1 a0_1)))).bind fun t661 => (if y658.length + t661.length < 17592186044416 then (some (y658 ++ t661)) else (none)))) else (none))) else (none))) else (none)) else ((cpuset_List.f t650).bind fun t667 => (if ([] : List Int).length + t667.length < 17592186044416 then ((some (([] : List Int) ++ t667 : List Int)).bind fun y670 => ((cpuset_List.f (Go.bits .andNot .u32 t649 t650)).bind fun t673 => (if y670.length + t673.length < 17592186044416 then (some (y670 ++ t673)) else (none)))) else (none))))))
set_option maxHeartbeats 8000000 in
set_option maxRecDepth 100000 in
theorem pick_Choices.calls (k : Nat) (a0_0 : Int) (a0_1 : Int) (a0_2 : Int) (a0_3 : Int) (a1 : Int) (r : List Int) (w : World) (hT : TabW w) (h : pick_Choices.f k a0_0 a0_1 a0_2 a0_3 a1 = some r) :
  Calls Tryd.prog 51 #[.agg #[.int .i64 a0_0, .int .i64 a0_1, .int .u32 a0_2, .int .u32 a0_3], .int .u32 a1] w fun e w' => ∃ v0_ : Value, e = .returned (v0_) ∧ Kd.R (Kd.int .i64) 3 w' w.heap.size (fun _ => True) v0_ r ∧ Below w.heap.size w w' := by
 have HT := Aside0.mk hT
 clear hT
 have hu36 := Tryd.underlying36
 have hu34 := Tryd.underlying34
 have HB := Aside0.mk (Below.refl w.heap.size w)
 have H : ((mask_Allows.f k a0_2 a0_3 a1).bind fun t649 => ((mask_Likes.f k a0_2 a0_3 a1).bind fun t650 => ((cpuset_Has.f t649 a0_1).bind fun t651 => (if t651 = true then (if ([] : List Int).length < 17592186044416 then ((some (([] : List Int) ++ [a0_1] : List Int)).bind fun y652 => (if 0 ≤ a0_1 then ((cpuset_List.f (Go.bits .andNot .u32 t650 (shl .u32 1 a0_1))).bind fun t655 => (if y652.length + t655.length < 17592186044416 then ((some (y652 ++ t655 : List Int)).bind fun y658 => ((cpuset_List.f (Go.bits .andNot .u32 (Go.bits .andNot .u32 t649 (shl .u32 1 a0_1)) (Go.bits .andNot .u32 t650 (shl .u32 1 a0_1)))).bind fun t661 => (if y658.length + t661.length < 17592186044416 then (some (y658 ++ t661)) else (none)))) else (none))) else (none))) else (none)) else ((cpuset_List.f t650).bind fun t667 => (if ([] : List Int).length + t667.length < 17592186044416 then ((some (([] : List Int) ++ t667 : List Int)).bind fun y670 => ((cpuset_List.f (Go.bits .andNot .u32 t649 t650)).bind fun t673 => (if y670.length + t673.length < 17592186044416 then (some (y670 ++ t673)) else (none)))) else (none))))))) = some r := h
 clear h
 replace H := Option.bind_eq_some_iff.mp H
 obtain ⟨t649, A30, H⟩ := H
 replace H : ((mask_Likes.f k a0_2 a0_3 a1).bind fun t650 => ((cpuset_Has.f t649 a0_1).bind fun t651 => (if t651 = true then (if ([] : List Int).length < 17592186044416 then ((some (([] : List Int) ++ [a0_1] : List Int)).bind fun y652 => (if 0 ≤ a0_1 then ((cpuset_List.f (Go.bits .andNot .u32 t650 (shl .u32 1 a0_1))).bind fun t655 => (if y652.length + t655.length < 17592186044416 then ((some (y652 ++ t655 : List Int)).bind fun y658 => ((cpuset_List.f (Go.bits .andNot .u32 (Go.bits .andNot .u32 t649 (shl .u32 1 a0_1)) (Go.bits .andNot .u32 t650 (shl .u32 1 a0_1)))).bind fun t661 => (if y658.length + t661.length < 17592186044416 then (some (y658 ++ t661)) else (none)))) else (none))) else (none))) else (none)) else ((cpuset_List.f t650).bind fun t667 => (if ([] : List Int).length + t667.length < 17592186044416 then ((some (([] : List Int) ++ t667 : List Int)).bind fun y670 => ((cpuset_List.f (Go.bits .andNot .u32 t649 t650)).bind fun t673 => (if y670.length + t673.length < 17592186044416 then (some (y670 ++ t673)) else (none)))) else (none)))))) = some r := H
 have A3 := Aside0.mk A30
 clear A30
 replace H := Option.bind_eq_some_iff.mp H
 obtain ⟨t650, A40, H⟩ := H
 replace H : ((cpuset_Has.f t649 a0_1).bind fun t651 => (if t651 = true then (if ([] : List Int).length < 17592186044416 then ((some (([] : List Int) ++ [a0_1] : List Int)).bind fun y652 => (if 0 ≤ a0_1 then ((cpuset_List.f (Go.bits .andNot .u32 t650 (shl .u32 1 a0_1))).bind fun t655 => (if y652.length + t655.length < 17592186044416 then ((some (y652 ++ t655 : List Int)).bind fun y658 => ((cpuset_List.f (Go.bits .andNot .u32 (Go.bits .andNot .u32 t649 (shl .u32 1 a0_1)) (Go.bits .andNot .u32 t650 (shl .u32 1 a0_1)))).bind fun t661 => (if y658.length + t661.length < 17592186044416 then (some (y658 ++ t661)) else (none)))) else (none))) else (none))) else (none)) else ((cpuset_List.f t650).bind fun t667 => (if ([] : List Int).length + t667.length < 17592186044416 then ((some (([] : List Int) ++ t667 : List Int)).bind fun y670 => ((cpuset_List.f (Go.bits .andNot .u32 t649 t650)).bind fun t673 => (if y670.length + t673.length < 17592186044416 then (some (y670 ++ t673)) else (none)))) else (none))))) = some r := H
 have A4 := Aside0.mk A40
 clear A40
 replace H := Option.bind_eq_some_iff.mp H
 obtain ⟨t651, A50, H⟩ := H
 replace H : (if t651 = true then (if ([] : List Int).length < 17592186044416 then ((some (([] : List Int) ++ [a0_1] : List Int)).bind fun y652 => (if 0 ≤ a0_1 then ((cpuset_List.f (Go.bits .andNot .u32 t650 (shl .u32 1 a0_1))).bind fun t655 => (if y652.length + t655.length < 17592186044416 then ((some (y652 ++ t655 : List Int)).bind fun y658 => ((cpuset_List.f (Go.bits .andNot .u32 (Go.bits .andNot .u32 t649 (shl .u32 1 a0_1)) (Go.bits .andNot .u32 t650 (shl .u32 1 a0_1)))).bind fun t661 => (if y658.length + t661.length < 17592186044416 then (some (y658 ++ t661)) else (none)))) else (none))) else (none))) else (none)) else ((cpuset_List.f t650).bind fun t667 => (if ([] : List Int).length + t667.length < 17592186044416 then ((some (([] : List Int) ++ t667 : List Int)).bind fun y670 => ((cpuset_List.f (Go.bits .andNot .u32 t649 t650)).bind fun t673 => (if y670.length + t673.length < 17592186044416 then (some (y670 ++ t673)) else (none)))) else (none)))) = some r := H
 have A5 := Aside0.mk A50
 clear A50
 by_cases c6 : t651 = true
 ·subst c6
  have H1 : (if ([] : List Int).length < 17592186044416 then ((some (([] : List Int) ++ [a0_1] : List Int)).bind fun y652 => (if 0 ≤ a0_1 then ((cpuset_List.f (Go.bits .andNot .u32 t650 (shl .u32 1 a0_1))).bind fun t655 => (if y652.length + t655.length < 17592186044416 then ((some (y652 ++ t655 : List Int)).bind fun y658 => ((cpuset_List.f (Go.bits .andNot .u32 (Go.bits .andNot .u32 t649 (shl .u32 1 a0_1)) (Go.bits .andNot .u32 t650 (shl .u32 1 a0_1)))).bind fun t661 => (if y658.length + t661.length < 17592186044416 then (some (y658 ++ t661)) else (none)))) else (none))) else (none))) else (none)) = some r := by rw [if_pos rfl] at H; exact H
  clear H
  have H := H1
  clear H1
  by_cases c7 : ([] : List Int).length < 17592186044416
  ·rw [if_pos c7] at H
   have LMc7 := Aside0.mk c7
   clear c7
   obtain ⟨y652, hy652⟩ : ∃ y_ : List Int, y_ = (([] : List Int) ++ [a0_1]) := ⟨_, rfl⟩
   replace H : (if 0 ≤ a0_1 then ((cpuset_List.f (Go.bits .andNot .u32 t650 (shl .u32 1 a0_1))).bind fun t655 => (if y652.length + t655.length < 17592186044416 then ((some (y652 ++ t655 : List Int)).bind fun y658 => ((cpuset_List.f (Go.bits .andNot .u32 (Go.bits .andNot .u32 t649 (shl .u32 1 a0_1)) (Go.bits .andNot .u32 t650 (shl .u32 1 a0_1)))).bind fun t661 => (if y658.length + t661.length < 17592186044416 then (some (y658 ++ t661)) else (none)))) else (none))) else (none)) = some r := by first | (rw [hy652]; with_reducible exact H) | (have H2_ := (Option.bind_some _ _).symm.trans H; rw [hy652]; with_reducible exact H2_) | (have H2_ := (Option.bind_some _ _).symm.trans H; with_reducible exact H2_) | with_reducible exact H | (rw [hy652]; exact H) | exact H
   have Ny652 := Aside0.mk hy652
   clear hy652
   by_cases c8 : 0 ≤ a0_1
   ·rw [if_pos c8] at H
    have c8b0 := eq_true c8
    have c8b1 : decide (0 ≤ a0_1) = true := decide_eq_true c8
    clear c8
    obtain ⟨ji9, hji9⟩ : ∃ j_ : Int, (shl .u32 1 a0_1) = j_ := ⟨_, rfl⟩
    replace H : ((cpuset_List.f (Go.bits .andNot .u32 t650 (ji9))).bind fun t655 => (if y652.length + t655.length < 17592186044416 then ((some (y652 ++ t655 : List Int)).bind fun y658 => ((cpuset_List.f (Go.bits .andNot .u32 (Go.bits .andNot .u32 t649 (ji9)) (Go.bits .andNot .u32 t650 (ji9)))).bind fun t661 => (if y658.length + t661.length < 17592186044416 then (some (y658 ++ t661)) else (none)))) else (none))) = some r := by first | (rw [hji9] at H; exact H) | (simp only [hji9] at H ⊢; exact H)
    (try rw [hji9] at A3)
    (try rw [hji9] at A4)
    (try rw [hji9] at A5)
    have hji9_ : (IntKind.u32.wrap (1 * 2 ^ min a0_1.toNat 32)) = ji9 := hji9
    have hji9z : a0_1 ≤ 32 → (IntKind.u32.wrap (1 * 2 ^ a0_1.toNat)) = ji9 := shl_small hji9
    have hji9u : (IntKind.u32.wrap (2 ^ min a0_1.toNat 32)) = ji9 := by have h_ := hji9_; rw [Int.one_mul] at h_; exact h_
    have hji9v : a0_1 ≤ 32 → (IntKind.u32.wrap (2 ^ a0_1.toNat)) = ji9 := fun hle_ => by have h_ := hji9z hle_; rw [Int.one_mul] at h_; exact h_
    have c10b0 := eq_true (of_decide_eq_true (by first | (with_reducible assumption) | assumption) : 0 ≤ a0_1)
    replace H := Option.bind_eq_some_iff.mp H
    obtain ⟨t655, A120, H⟩ := H
    replace H : (if y652.length + t655.length < 17592186044416 then ((some (y652 ++ t655 : List Int)).bind fun y658 => ((cpuset_List.f (Go.bits .andNot .u32 (Go.bits .andNot .u32 t649 (ji9)) (Go.bits .andNot .u32 t650 (ji9)))).bind fun t661 => (if y658.length + t661.length < 17592186044416 then (some (y658 ++ t661)) else (none)))) else (none)) = some r := H
    have A12 := Aside0.mk A120
    clear A120
    by_cases c13 : y652.length + t655.length < 17592186044416
    ·rw [if_pos c13] at H
     have LMc13 := Aside0.mk c13
     clear c13
     obtain ⟨y658, hy658⟩ : ∃ y_ : List Int, y_ = (y652 ++ t655) := ⟨_, rfl⟩
     replace H : ((cpuset_List.f (Go.bits .andNot .u32 (Go.bits .andNot .u32 t649 (ji9)) (Go.bits .andNot .u32 t650 (ji9)))).bind fun t661 => (if y658.length + t661.length < 17592186044416 then (some (y658 ++ t661)) else (none))) = some r := by first | (rw [hy658]; with_reducible exact H) | (have H2_ := (Option.bind_some _ _).symm.trans H; rw [hy658]; with_reducible exact H2_) | (have H2_ := (Option.bind_some _ _).symm.trans H; with_reducible exact H2_) | with_reducible exact H | (rw [hy658]; exact H) | exact H
     have Ny658 := Aside0.mk hy658
     clear hy658
     replace H := Option.bind_eq_some_iff.mp H
     obtain ⟨t661, A140, H⟩ := H
     replace H : (if y658.length + t661.length < 17592186044416 then (some (y658 ++ t661)) else (none)) = some r := H
     have A14 := Aside0.mk A140
     clear A140
     by_cases c15 : y658.length + t661.length < 17592186044416
     ·rw [if_pos c15] at H
      have LMc15 := Aside0.mk c15
      clear c15
      obtain ⟨y664, hy664⟩ : ∃ y_ : List Int, y_ = (y658 ++ t661) := ⟨_, rfl⟩
      replace H : (some y664) = some r := by first | (rw [hy664]; with_reducible exact H) | (have H2_ := (Option.bind_some _ _).symm.trans H; rw [hy664]; with_reducible exact H2_) | (have H2_ := (Option.bind_some _ _).symm.trans H; with_reducible exact H2_) | with_reducible exact H | (rw [hy664]; exact H) | exact H
      have Ny664 := Aside0.mk hy664
      clear hy664
      obtain rfl := Option.some.inj H
      go_enter Tryd.func51, Tryd.ntmps51
      go_wp2_with (first | ((with_reducible refine gate_dst (N := 2) rfl ?_); refine box_event ?hg (N := 2) ?hd (cs := #[.int .i64 a0_0, .int .i64 a0_1, .int .u32 a0_2, .int .u32 a0_3]) (t := 36) ?hr ?_; (case hd => rfl); (case hg => rfl); (case hr => first | (go_simp; done) | (go_simp; rfl)); intro gb648 hg w16 hbox hb; have n0_ := Aside0.mk (below_step (by repeat (first | (with_reducible first | exact HB.out | apply below_alloc | apply pw_below_drewN | apply below_drew1) | exact HB.out)) hb); have n1_ := Aside0.mk (hbox); have n2_ := Aside0.mk ((by rw [hg]; exact (below_size (by repeat (first | (with_reducible first | exact HB.out | apply below_alloc | apply pw_below_drewN | apply below_drew1) | exact HB.out))) : w.heap.size ≤ gb648)); have n3_ := Aside0.mk ((by rw [hg]; exact (below_size (by repeat (first | (with_reducible first | exact HB.out | apply below_alloc | apply pw_below_drewN | apply below_drew1) | exact HB.out))) : w.heap.size ≤ gb648)); clear HB; have HB := n0_; have BK648 := n1_; have GW648 := n2_; have GE648 := n3_; clear n0_ n1_ n2_ n3_; clear hb hbox hg; have hcz17_0 : w16.cell? ⟨gb648, 0, none⟩ = some (.int .i64 a0_0) := (blk_cell BK648.out 0).trans rfl; have hcz17_1 : w16.cell? ⟨gb648, 1, none⟩ = some (.int .i64 a0_1) := (blk_cell BK648.out 1).trans rfl; have hcz17_2 : w16.cell? ⟨gb648, 2, none⟩ = some (.int .u32 a0_2) := (blk_cell BK648.out 2).trans rfl; have hcz17_3 : w16.cell? ⟨gb648, 3, none⟩ = some (.int .u32 a0_3) := (blk_cell BK648.out 3).trans rfl; have hfz17_0 := blk_frozen BK648.out 0; have hfz17_1 := blk_frozen BK648.out 1; have hfz17_2 := blk_frozen BK648.out 2; have hfz17_3 := blk_frozen BK648.out 3) | ((with_reducible refine gate_callee (f := 22) rfl ?_); refine goesL_ (some 11) rfl rfl Tryd.func22 (by kernel_rfl) rfl #[.agg #[.int .u32 a0_2, .int .u32 a0_3], .int .u32 a1] rfl (by (try simp only [List.map_toArray, List.map_cons, List.map_nil]); first | done | rfl | (simp only [List.length_drop, List.length_take]; rfl)) ?_; (with_reducible refine (mask_Allows.calls k a0_2 a0_3 a1 t649 _ A3.out).mono ?_); rintro e w18 ⟨rfl, hb⟩; refine ⟨_, rfl, ?_⟩; have n0_ := Aside0.mk (blk_below (g := gb648) (o := .cells #[.int .i64 a0_0, .int .i64 a0_1, .int .u32 a0_2, .int .u32 a0_3] 36 (0, 0)) (by (with_reducible repeat (first | refine blk_drewN ?_ _ | refine blk_drew ?_ | refine blk_alloc ?_ _)); exact BK648.out) hb); have n1_ := Aside0.mk (below_step (by repeat (first | (with_reducible first | exact HB.out | apply below_alloc | apply pw_below_drewN | apply below_drew1 | refine below_set ?_ GE648.out) | exact HB.out)) hb); clear BK648; clear HB; have BK648 := n0_; have HB := n1_; clear n0_ n1_; (try clear hb); (try clear hb2); (try clear hk); (try clear hi); have hcz19_0 : w18.cell? ⟨gb648, 0, none⟩ = some (.int .i64 a0_0) := (blk_cell BK648.out 0).trans rfl; have hcz19_1 : w18.cell? ⟨gb648, 1, none⟩ = some (.int .i64 a0_1) := (blk_cell BK648.out 1).trans rfl; have hcz19_2 : w18.cell? ⟨gb648, 2, none⟩ = some (.int .u32 a0_2) := (blk_cell BK648.out 2).trans rfl; have hcz19_3 : w18.cell? ⟨gb648, 3, none⟩ = some (.int .u32 a0_3) := (blk_cell BK648.out 3).trans rfl; have hfz19_0 := blk_frozen BK648.out 0; have hfz19_1 := blk_frozen BK648.out 1; have hfz19_2 := blk_frozen BK648.out 2; have hfz19_3 := blk_frozen BK648.out 3) | ((with_reducible refine gate_callee (f := 86) rfl ?_); refine goesL_ (some 15) rfl rfl Tryd.func86 (by kernel_rfl) rfl #[.agg #[.int .u32 a0_2, .int .u32 a0_3], .int .u32 a1] rfl (by (try simp only [List.map_toArray, List.map_cons, List.map_nil]); first | done | rfl | (simp only [List.length_drop, List.length_take]; rfl)) ?_; (with_reducible refine (mask_Likes.calls k a0_2 a0_3 a1 t650 _ A4.out).mono ?_); rintro e w20 ⟨rfl, hb⟩; refine ⟨_, rfl, ?_⟩; have n0_ := Aside0.mk (blk_below (g := gb648) (o := .cells #[.int .i64 a0_0, .int .i64 a0_1, .int .u32 a0_2, .int .u32 a0_3] 36 (0, 0)) (by (with_reducible repeat (first | refine blk_drewN ?_ _ | refine blk_drew ?_ | refine blk_alloc ?_ _)); exact BK648.out) hb); have n1_ := Aside0.mk (below_step (by repeat (first | (with_reducible first | exact HB.out | apply below_alloc | apply pw_below_drewN | apply below_drew1 | refine below_set ?_ GE648.out) | exact HB.out)) hb); clear BK648; clear HB; have BK648 := n0_; have HB := n1_; clear n0_ n1_; (try clear hb); (try clear hb2); (try clear hk); (try clear hi); have hcz21_0 : w20.cell? ⟨gb648, 0, none⟩ = some (.int .i64 a0_0) := (blk_cell BK648.out 0).trans rfl; have hcz21_1 : w20.cell? ⟨gb648, 1, none⟩ = some (.int .i64 a0_1) := (blk_cell BK648.out 1).trans rfl; have hcz21_2 : w20.cell? ⟨gb648, 2, none⟩ = some (.int .u32 a0_2) := (blk_cell BK648.out 2).trans rfl; have hcz21_3 : w20.cell? ⟨gb648, 3, none⟩ = some (.int .u32 a0_3) := (blk_cell BK648.out 3).trans rfl; have hfz21_0 := blk_frozen BK648.out 0; have hfz21_1 := blk_frozen BK648.out 1; have hfz21_2 := blk_frozen BK648.out 2; have hfz21_3 := blk_frozen BK648.out 3) | ((with_reducible refine gate_callee (f := 21) rfl ?_); refine goesL_ (some 19) rfl rfl Tryd.func21 (by kernel_rfl) rfl #[.int .u32 t649, .int .i64 a0_1] rfl (by (try simp only [List.map_toArray, List.map_cons, List.map_nil]); first | done | rfl | (simp only [List.length_drop, List.length_take]; rfl)) ?_; (with_reducible refine (cpuset_Has.calls t649 a0_1 true _ A5.out).mono ?_); rintro e w' ⟨rfl, ⟨nd, rfl⟩⟩; refine ⟨_, rfl, ?_⟩) | ((with_reducible refine gate_builtin (b := .append) (xs := #[.tmp 20, .tmp 23]) rfl ?_); at_builtin; refine Kd.R_append (Kd.int .i64) (w0 := w) w.heap.size rfl (.tmp 20) (.tmp 23) 42 3 (.int .i64 0) 8 rfl Tryd.underlying42 info3 rfl (by decide) (by omega) (.slice none 0 0) ([] : List Int) a0_1 [.int .i64 a0_1] (fun _ => True) (fun _ => False) rfl rfl ?aP (fun _ hk => hk.elim) ?aF ?aO ?aB ?aS ?aL ?_; (case aP => exact rfl); (case aB => exact (by repeat (first | (with_reducible first | exact HB.out | apply below_alloc | apply pw_below_drewN | apply below_drew1 | refine below_set ?_ GE648.out) | exact HB.out))); (case aF => exact (fun _ _ => trivial)); (case aO => exact ((Kd.R_nil _ _ _ _ (fun _ => True)))); (case aS => exact (below_size (by repeat (first | (with_reducible first | exact HB.out | apply below_alloc | apply pw_below_drewN | apply below_drew1 | refine below_set ?_ GE648.out) | exact HB.out)))); (case aL => have := LMc7.out; omega); intro v653 w22 ho hb hg hat; rw [← Ny652.out] at ho; have n0_ := Aside0.mk (blk_grown (g := gb648) (o := .cells #[.int .i64 a0_0, .int .i64 a0_1, .int .u32 a0_2, .int .u32 a0_3] 36 (0, 0)) (by (with_reducible repeat (first | refine blk_drewN ?_ _ | refine blk_drew ?_ | refine blk_alloc ?_ _)); exact BK648.out) hg (by simp [Value.ownBlock])); have n1_ := Aside0.mk (hb); have n2_ := Aside0.mk (ho); clear BK648; clear HB; have BK648 := n0_; have HB := n1_; have HO654 := n2_; clear n0_ n1_ n2_; clear ho hb hg hat; have hcz23_0 : w22.cell? ⟨gb648, 0, none⟩ = some (.int .i64 a0_0) := (blk_cell BK648.out 0).trans rfl; have hcz23_1 : w22.cell? ⟨gb648, 1, none⟩ = some (.int .i64 a0_1) := (blk_cell BK648.out 1).trans rfl; have hcz23_2 : w22.cell? ⟨gb648, 2, none⟩ = some (.int .u32 a0_2) := (blk_cell BK648.out 2).trans rfl; have hcz23_3 : w22.cell? ⟨gb648, 3, none⟩ = some (.int .u32 a0_3) := (blk_cell BK648.out 3).trans rfl; have hfz23_0 := blk_frozen BK648.out 0; have hfz23_1 := blk_frozen BK648.out 1; have hfz23_2 := blk_frozen BK648.out 2; have hfz23_3 := blk_frozen BK648.out 3) | ((with_reducible refine gate_callee (f := 68) rfl ?_); refine goesL_ (some 37) rfl rfl Tryd.func68 (by kernel_rfl) rfl #[.int .u32 (Go.bits .andNot .u32 t650 (ji9))] rfl (by (try simp only [List.map_toArray, List.map_cons, List.map_nil]); first | done | (simp only [hji9]; rfl) | rfl | (simp only [List.length_drop, List.length_take]; rfl)) ?_; (with_reducible refine (cpuset_List.calls (Go.bits .andNot .u32 t650 (ji9)) t655 _ ?tb A12.out).mono ?_); (case tb => exact HT.out.step (by repeat (first | (with_reducible first | exact HB.out | apply below_alloc | apply pw_below_drewN | apply below_drew1 | refine below_set ?_ GE648.out) | exact HB.out))); rintro e w24 ⟨v656, rfl, ho0, hb⟩; refine ⟨_, rfl, ?_⟩; have n0_ := Aside0.mk (Kd.R_elder' (by (with_reducible repeat (first | apply Kd.R_alloc | apply Kd.R_drewN | apply Kd.R_drew)); exact HO654.out) (Kd.R_base ho0) hb); have n1_ := Aside0.mk (Kd.R_lower (Kd.R_new' ho0 (Kd.R_lt (by (with_reducible repeat (first | apply Kd.R_alloc | apply Kd.R_drewN | apply Kd.R_drew)); exact HO654.out))) (below_size (by repeat (first | (with_reducible first | exact HB.out | apply below_alloc | apply pw_below_drewN | apply below_drew1 | refine below_set ?_ GE648.out) | exact HB.out)))); have n2_ := Aside0.mk (blk_below (g := gb648) (o := .cells #[.int .i64 a0_0, .int .i64 a0_1, .int .u32 a0_2, .int .u32 a0_3] 36 (0, 0)) (by (with_reducible repeat (first | refine blk_drewN ?_ _ | refine blk_drew ?_ | refine blk_alloc ?_ _)); exact BK648.out) hb); have n3_ := Aside0.mk (below_step (by repeat (first | (with_reducible first | exact HB.out | apply below_alloc | apply pw_below_drewN | apply below_drew1 | refine below_set ?_ GE648.out) | exact HB.out)) hb); clear HO654; clear BK648; clear HB; have HO654 := n0_; have HO657 := n1_; have BK648 := n2_; have HB := n3_; clear n0_ n1_ n2_ n3_; (try clear hb); (try clear hb2); (try clear hk); (try clear hi); (try clear ho0); obtain ⟨Ao26, co26, eo26⟩ := Kd.R_slice HO657.out; subst eo26) | ((with_reducible refine gate_builtin (b := .append) (xs := #[.tmp 35, .tmp 37]) rfl ?_); at_builtin; refine Kd.R_append_rows (Kd.int .i64) (w0 := w) w.heap.size rfl (.tmp 35) (.tmp 37) 42 3 (.int .i64 0) 8 rfl Tryd.underlying42 info3 rfl (by decide) (by omega) v653 y652 t655 _ _ _ (fun k_ => some k_ ≠ (.slice Ao26 t655.length co26 : Value).ownBlock) (fun _ => False) rfl rfl ?aO ?aR (fun _ _ h => h) (fun _ h => h.elim) ?aF ?aB ?aS ?aL ?_; (case aR => repeat (first | exact (Kd.R_reads' HO657.out).2.2 | (with_reducible refine Kd.C_alloc ?_ _) | (with_reducible refine Kd.C_drewN ?_ _) | (with_reducible refine Kd.C_drew ?_))); (case aB => exact (by repeat (first | (with_reducible first | exact HB.out | apply below_alloc | apply pw_below_drewN | apply below_drew1 | refine below_set ?_ GE648.out) | exact HB.out))); (case aF => exact (fun k_ hk => Kd.fresh' (Kd.R_lt (by (with_reducible repeat (first | apply Kd.R_alloc | apply Kd.R_drewN | apply Kd.R_drew)); exact HO657.out)) k_ hk)); (case aO => exact (by (with_reducible repeat (first | apply Kd.R_alloc | apply Kd.R_drewN | apply Kd.R_drew)); exact Kd.R_mono HO654.out (fun _ hk => hk.2))); (case aS => exact (below_size (by repeat (first | (with_reducible first | exact HB.out | apply below_alloc | apply pw_below_drewN | apply below_drew1 | refine below_set ?_ GE648.out) | exact HB.out)))); (case aL => have := LMc13.out; omega); intro v659 w25 ho hb hg hat; rw [← Ny658.out] at ho; have n0_ := Aside0.mk (blk_grown (g := gb648) (o := .cells #[.int .i64 a0_0, .int .i64 a0_1, .int .u32 a0_2, .int .u32 a0_3] 36 (0, 0)) (by (with_reducible repeat (first | refine blk_drewN ?_ _ | refine blk_drew ?_ | refine blk_alloc ?_ _)); exact BK648.out) hg (Kd.R_ne HO654.out BK648.out (by decide))); have n1_ := Aside0.mk (Kd.R_after (ok := (fun _ => True)) (by (with_reducible repeat (first | apply Kd.R_alloc | apply Kd.R_drewN | apply Kd.R_drew)); exact HO657.out) hg hat); have n2_ := Aside0.mk (hb); have n3_ := Aside0.mk (ho); clear BK648; clear HO657; clear HB; clear HO654; have BK648 := n0_; have HO657 := n1_; have HB := n2_; have HO660 := n3_; clear n0_ n1_ n2_ n3_; clear ho hb hg hat) | ((with_reducible refine gate_callee (f := 68) rfl ?_); refine goesL_ (some 43) rfl rfl Tryd.func68 (by kernel_rfl) rfl #[.int .u32 (Go.bits .andNot .u32 (Go.bits .andNot .u32 t649 (ji9)) (Go.bits .andNot .u32 t650 (ji9)))] rfl (by (try simp only [List.map_toArray, List.map_cons, List.map_nil]); first | done | (simp only [hji9]; rfl) | rfl | (simp only [List.length_drop, List.length_take]; rfl)) ?_; (with_reducible refine (cpuset_List.calls (Go.bits .andNot .u32 (Go.bits .andNot .u32 t649 (ji9)) (Go.bits .andNot .u32 t650 (ji9))) t661 _ ?tb A14.out).mono ?_); (case tb => exact HT.out.step (by repeat (first | (with_reducible first | exact HB.out | apply below_alloc | apply pw_below_drewN | apply below_drew1 | refine below_set ?_ GE648.out) | exact HB.out))); rintro e w27 ⟨v662, rfl, ho0, hb⟩; refine ⟨_, rfl, ?_⟩; have n0_ := Aside0.mk (Kd.R_elder' (by (with_reducible repeat (first | apply Kd.R_alloc | apply Kd.R_drewN | apply Kd.R_drew)); exact HO657.out) (Kd.R_base ho0) hb); have n1_ := Aside0.mk (Kd.R_elder' (by (with_reducible repeat (first | apply Kd.R_alloc | apply Kd.R_drewN | apply Kd.R_drew)); exact HO660.out) (Kd.R_base ho0) hb); have n2_ := Aside0.mk (Kd.R_lower (Kd.R_new' (Kd.R_new' ho0 (Kd.R_lt (by (with_reducible repeat (first | apply Kd.R_alloc | apply Kd.R_drewN | apply Kd.R_drew)); exact HO657.out))) (Kd.R_lt (by (with_reducible repeat (first | apply Kd.R_alloc | apply Kd.R_drewN | apply Kd.R_drew)); exact HO660.out))) (below_size (by repeat (first | (with_reducible first | exact HB.out | apply below_alloc | apply pw_below_drewN | apply below_drew1 | refine below_set ?_ GE648.out) | exact HB.out)))); have n3_ := Aside0.mk (blk_below (g := gb648) (o := .cells #[.int .i64 a0_0, .int .i64 a0_1, .int .u32 a0_2, .int .u32 a0_3] 36 (0, 0)) (by (with_reducible repeat (first | refine blk_drewN ?_ _ | refine blk_drew ?_ | refine blk_alloc ?_ _)); exact BK648.out) hb); have n4_ := Aside0.mk (below_step (by repeat (first | (with_reducible first | exact HB.out | apply below_alloc | apply pw_below_drewN | apply below_drew1 | refine below_set ?_ GE648.out) | exact HB.out)) hb); clear HO657; clear HO660; clear BK648; clear HB; have HO657 := n0_; have HO660 := n1_; have HO663 := n2_; have BK648 := n3_; have HB := n4_; clear n0_ n1_ n2_ n3_ n4_; (try clear hb); (try clear hb2); (try clear hk); (try clear hi); (try clear ho0); obtain ⟨Ao29, co29, eo29⟩ := Kd.R_slice HO663.out; subst eo29) | ((with_reducible refine gate_builtin (b := .append) (xs := #[.tmp 39, .tmp 43]) rfl ?_); at_builtin; refine Kd.R_append_rows (Kd.int .i64) (w0 := w) w.heap.size rfl (.tmp 39) (.tmp 43) 42 3 (.int .i64 0) 8 rfl Tryd.underlying42 info3 rfl (by decide) (by omega) v659 y658 t661 _ _ _ (fun k_ => some k_ ≠ (.slice Ao26 t655.length co26 : Value).ownBlock ∧ some k_ ≠ (.slice Ao29 t661.length co29 : Value).ownBlock) (fun _ => False) rfl rfl ?aO ?aR (fun _ _ h => h) (fun _ h => h.elim) ?aF ?aB ?aS ?aL ?_; (case aR => repeat (first | exact (Kd.R_reads' HO663.out).2.2 | (with_reducible refine Kd.C_alloc ?_ _) | (with_reducible refine Kd.C_drewN ?_ _) | (with_reducible refine Kd.C_drew ?_))); (case aB => exact (by repeat (first | (with_reducible first | exact HB.out | apply below_alloc | apply pw_below_drewN | apply below_drew1 | refine below_set ?_ GE648.out) | exact HB.out))); (case aF => exact (fun k_ hk => ⟨Kd.fresh' (Kd.R_lt (by (with_reducible repeat (first | apply Kd.R_alloc | apply Kd.R_drewN | apply Kd.R_drew)); exact HO657.out)) k_ hk, Kd.fresh' (Kd.R_lt (by (with_reducible repeat (first | apply Kd.R_alloc | apply Kd.R_drewN | apply Kd.R_drew)); exact HO663.out)) k_ hk⟩)); (case aO => exact (by (with_reducible repeat (first | apply Kd.R_alloc | apply Kd.R_drewN | apply Kd.R_drew)); exact HO660.out)); (case aS => exact (below_size (by repeat (first | (with_reducible first | exact HB.out | apply below_alloc | apply pw_below_drewN | apply below_drew1 | refine below_set ?_ GE648.out) | exact HB.out)))); (case aL => have := LMc15.out; omega); intro v665 w28 ho hb hg hat; rw [← Ny664.out] at ho; have n0_ := Aside0.mk (blk_grown (g := gb648) (o := .cells #[.int .i64 a0_0, .int .i64 a0_1, .int .u32 a0_2, .int .u32 a0_3] 36 (0, 0)) (by (with_reducible repeat (first | refine blk_drewN ?_ _ | refine blk_drew ?_ | refine blk_alloc ?_ _)); exact BK648.out) hg (Kd.R_ne HO660.out BK648.out (by decide))); have n1_ := Aside0.mk (Kd.R_after (ok := (fun k_ => some k_ ≠ (.slice Ao29 t661.length co29 : Value).ownBlock)) (by (with_reducible repeat (first | apply Kd.R_alloc | apply Kd.R_drewN | apply Kd.R_drew)); exact Kd.R_mono HO657.out (fun _ hk => ⟨hk.2, hk.1.2⟩)) hg hat); have n2_ := Aside0.mk (Kd.R_after (ok := (fun k_ => some k_ ≠ (.slice Ao26 t655.length co26 : Value).ownBlock)) (by (with_reducible repeat (first | apply Kd.R_alloc | apply Kd.R_drewN | apply Kd.R_drew)); exact Kd.R_mono HO663.out (fun _ hk => ⟨hk.1.2, hk.2⟩)) hg hat); have n3_ := Aside0.mk (hb); have n4_ := Aside0.mk (ho); clear BK648; clear HO657; clear HO663; clear HB; clear HO660; have BK648 := n0_; have HO657 := n1_; have HO663 := n2_; have HB := n3_; have HO666 := n4_; clear n0_ n1_ n2_ n3_ n4_; clear ho hb hg hat))
      go_ret
      exact ⟨_, by first | rfl | (simp [errW_none, errW_some] <;> rfl) | (simp only [← hji9]; first | rfl | (simp [errW_none, errW_some] <;> rfl)) | (simp [*, errW_none, errW_some] <;> rfl), by (with_reducible repeat (first | apply Kd.R_alloc | apply Kd.R_drewN | apply Kd.R_drew)); exact Kd.R_mono HO666.out (fun _ hk => trivial), by repeat (first | (with_reducible first | exact HB.out | apply below_alloc | apply pw_below_drewN | apply below_drew1 | refine below_set ?_ GE648.out) | exact HB.out)⟩
     ·rw [if_neg c15] at H
      exact absurd H (by simp)
    ·rw [if_neg c13] at H
     exact absurd H (by simp)
   ·rw [if_neg c8] at H
    exact absurd H (by simp)
  ·rw [if_neg c7] at H
   exact absurd H (by simp)
 ·replace c6 := Bool.eq_false_iff.mpr c6
  subst c6
  have H1 : ((cpuset_List.f t650).bind fun t667 => (if ([] : List Int).length + t667.length < 17592186044416 then ((some (([] : List Int) ++ t667 : List Int)).bind fun y670 => ((cpuset_List.f (Go.bits .andNot .u32 t649 t650)).bind fun t673 => (if y670.length + t673.length < 17592186044416 then (some (y670 ++ t673)) else (none)))) else (none))) = some r := by rw [if_neg (show ¬ (false = true) by decide)] at H; exact H
  clear H
  have H := H1
  clear H1
  replace H := Option.bind_eq_some_iff.mp H
  obtain ⟨t667, A300, H⟩ := H
  replace H : (if ([] : List Int).length + t667.length < 17592186044416 then ((some (([] : List Int) ++ t667 : List Int)).bind fun y670 => ((cpuset_List.f (Go.bits .andNot .u32 t649 t650)).bind fun t673 => (if y670.length + t673.length < 17592186044416 then (some (y670 ++ t673)) else (none)))) else (none)) = some r := H
  have A30 := Aside0.mk A300
  clear A300
  by_cases c31 : ([] : List Int).length + t667.length < 17592186044416
  ·rw [if_pos c31] at H
   have LMc31 := Aside0.mk c31
   clear c31
   obtain ⟨y670, hy670⟩ : ∃ y_ : List Int, y_ = (([] : List Int) ++ t667) := ⟨_, rfl⟩
   replace H : ((cpuset_List.f (Go.bits .andNot .u32 t649 t650)).bind fun t673 => (if y670.length + t673.length < 17592186044416 then (some (y670 ++ t673)) else (none))) = some r := by first | (rw [hy670]; with_reducible exact H) | (have H2_ := (Option.bind_some _ _).symm.trans H; rw [hy670]; with_reducible exact H2_) | (have H2_ := (Option.bind_some _ _).symm.trans H; with_reducible exact H2_) | with_reducible exact H | (rw [hy670]; exact H) | exact H
   have Ny670 := Aside0.mk hy670
   clear hy670
   replace H := Option.bind_eq_some_iff.mp H
   obtain ⟨t673, A320, H⟩ := H
   replace H : (if y670.length + t673.length < 17592186044416 then (some (y670 ++ t673)) else (none)) = some r := H
   have A32 := Aside0.mk A320
   clear A320
   by_cases c33 : y670.length + t673.length < 17592186044416
   ·rw [if_pos c33] at H
    have LMc33 := Aside0.mk c33
    clear c33
    obtain ⟨y676, hy676⟩ : ∃ y_ : List Int, y_ = (y670 ++ t673) := ⟨_, rfl⟩
    replace H : (some y676) = some r := by first | (rw [hy676]; with_reducible exact H) | (have H2_ := (Option.bind_some _ _).symm.trans H; rw [hy676]; with_reducible exact H2_) | (have H2_ := (Option.bind_some _ _).symm.trans H; with_reducible exact H2_) | with_reducible exact H | (rw [hy676]; exact H) | exact H
    have Ny676 := Aside0.mk hy676
    clear hy676
    obtain rfl := Option.some.inj H
    go_enter Tryd.func51, Tryd.ntmps51
    go_wp2_with (first | ((with_reducible refine gate_dst (N := 2) rfl ?_); refine box_event ?hg (N := 2) ?hd (cs := #[.int .i64 a0_0, .int .i64 a0_1, .int .u32 a0_2, .int .u32 a0_3]) (t := 36) ?hr ?_; (case hd => rfl); (case hg => rfl); (case hr => first | (go_simp; done) | (go_simp; rfl)); intro gb648 hg w34 hbox hb; have n0_ := Aside0.mk (below_step (by repeat (first | (with_reducible first | exact HB.out | apply below_alloc | apply pw_below_drewN | apply below_drew1) | exact HB.out)) hb); have n1_ := Aside0.mk (hbox); have n2_ := Aside0.mk ((by rw [hg]; exact (below_size (by repeat (first | (with_reducible first | exact HB.out | apply below_alloc | apply pw_below_drewN | apply below_drew1) | exact HB.out))) : w.heap.size ≤ gb648)); have n3_ := Aside0.mk ((by rw [hg]; exact (below_size (by repeat (first | (with_reducible first | exact HB.out | apply below_alloc | apply pw_below_drewN | apply below_drew1) | exact HB.out))) : w.heap.size ≤ gb648)); clear HB; have HB := n0_; have BK648 := n1_; have GW648 := n2_; have GE648 := n3_; clear n0_ n1_ n2_ n3_; clear hb hbox hg; have hcz35_0 : w34.cell? ⟨gb648, 0, none⟩ = some (.int .i64 a0_0) := (blk_cell BK648.out 0).trans rfl; have hcz35_1 : w34.cell? ⟨gb648, 1, none⟩ = some (.int .i64 a0_1) := (blk_cell BK648.out 1).trans rfl; have hcz35_2 : w34.cell? ⟨gb648, 2, none⟩ = some (.int .u32 a0_2) := (blk_cell BK648.out 2).trans rfl; have hcz35_3 : w34.cell? ⟨gb648, 3, none⟩ = some (.int .u32 a0_3) := (blk_cell BK648.out 3).trans rfl; have hfz35_0 := blk_frozen BK648.out 0; have hfz35_1 := blk_frozen BK648.out 1; have hfz35_2 := blk_frozen BK648.out 2; have hfz35_3 := blk_frozen BK648.out 3) | ((with_reducible refine gate_callee (f := 22) rfl ?_); refine goesL_ (some 11) rfl rfl Tryd.func22 (by kernel_rfl) rfl #[.agg #[.int .u32 a0_2, .int .u32 a0_3], .int .u32 a1] rfl (by (try simp only [List.map_toArray, List.map_cons, List.map_nil]); first | done | rfl | (simp only [List.length_drop, List.length_take]; rfl)) ?_; (with_reducible refine (mask_Allows.calls k a0_2 a0_3 a1 t649 _ A3.out).mono ?_); rintro e w36 ⟨rfl, hb⟩; refine ⟨_, rfl, ?_⟩; have n0_ := Aside0.mk (blk_below (g := gb648) (o := .cells #[.int .i64 a0_0, .int .i64 a0_1, .int .u32 a0_2, .int .u32 a0_3] 36 (0, 0)) (by (with_reducible repeat (first | refine blk_drewN ?_ _ | refine blk_drew ?_ | refine blk_alloc ?_ _)); exact BK648.out) hb); have n1_ := Aside0.mk (below_step (by repeat (first | (with_reducible first | exact HB.out | apply below_alloc | apply pw_below_drewN | apply below_drew1 | refine below_set ?_ GE648.out) | exact HB.out)) hb); clear BK648; clear HB; have BK648 := n0_; have HB := n1_; clear n0_ n1_; (try clear hb); (try clear hb2); (try clear hk); (try clear hi); have hcz37_0 : w36.cell? ⟨gb648, 0, none⟩ = some (.int .i64 a0_0) := (blk_cell BK648.out 0).trans rfl; have hcz37_1 : w36.cell? ⟨gb648, 1, none⟩ = some (.int .i64 a0_1) := (blk_cell BK648.out 1).trans rfl; have hcz37_2 : w36.cell? ⟨gb648, 2, none⟩ = some (.int .u32 a0_2) := (blk_cell BK648.out 2).trans rfl; have hcz37_3 : w36.cell? ⟨gb648, 3, none⟩ = some (.int .u32 a0_3) := (blk_cell BK648.out 3).trans rfl; have hfz37_0 := blk_frozen BK648.out 0; have hfz37_1 := blk_frozen BK648.out 1; have hfz37_2 := blk_frozen BK648.out 2; have hfz37_3 := blk_frozen BK648.out 3) | ((with_reducible refine gate_callee (f := 86) rfl ?_); refine goesL_ (some 15) rfl rfl Tryd.func86 (by kernel_rfl) rfl #[.agg #[.int .u32 a0_2, .int .u32 a0_3], .int .u32 a1] rfl (by (try simp only [List.map_toArray, List.map_cons, List.map_nil]); first | done | rfl | (simp only [List.length_drop, List.length_take]; rfl)) ?_; (with_reducible refine (mask_Likes.calls k a0_2 a0_3 a1 t650 _ A4.out).mono ?_); rintro e w38 ⟨rfl, hb⟩; refine ⟨_, rfl, ?_⟩; have n0_ := Aside0.mk (blk_below (g := gb648) (o := .cells #[.int .i64 a0_0, .int .i64 a0_1, .int .u32 a0_2, .int .u32 a0_3] 36 (0, 0)) (by (with_reducible repeat (first | refine blk_drewN ?_ _ | refine blk_drew ?_ | refine blk_alloc ?_ _)); exact BK648.out) hb); have n1_ := Aside0.mk (below_step (by repeat (first | (with_reducible first | exact HB.out | apply below_alloc | apply pw_below_drewN | apply below_drew1 | refine below_set ?_ GE648.out) | exact HB.out)) hb); clear BK648; clear HB; have BK648 := n0_; have HB := n1_; clear n0_ n1_; (try clear hb); (try clear hb2); (try clear hk); (try clear hi); have hcz39_0 : w38.cell? ⟨gb648, 0, none⟩ = some (.int .i64 a0_0) := (blk_cell BK648.out 0).trans rfl; have hcz39_1 : w38.cell? ⟨gb648, 1, none⟩ = some (.int .i64 a0_1) := (blk_cell BK648.out 1).trans rfl; have hcz39_2 : w38.cell? ⟨gb648, 2, none⟩ = some (.int .u32 a0_2) := (blk_cell BK648.out 2).trans rfl; have hcz39_3 : w38.cell? ⟨gb648, 3, none⟩ = some (.int .u32 a0_3) := (blk_cell BK648.out 3).trans rfl; have hfz39_0 := blk_frozen BK648.out 0; have hfz39_1 := blk_frozen BK648.out 1; have hfz39_2 := blk_frozen BK648.out 2; have hfz39_3 := blk_frozen BK648.out 3) | ((with_reducible refine gate_callee (f := 21) rfl ?_); refine goesL_ (some 19) rfl rfl Tryd.func21 (by kernel_rfl) rfl #[.int .u32 t649, .int .i64 a0_1] rfl (by (try simp only [List.map_toArray, List.map_cons, List.map_nil]); first | done | rfl | (simp only [List.length_drop, List.length_take]; rfl)) ?_; (with_reducible refine (cpuset_Has.calls t649 a0_1 false _ A5.out).mono ?_); rintro e w' ⟨rfl, ⟨nd, rfl⟩⟩; refine ⟨_, rfl, ?_⟩) | ((with_reducible refine gate_callee (f := 68) rfl ?_); refine goesL_ (some 37) rfl rfl Tryd.func68 (by kernel_rfl) rfl #[.int .u32 t650] rfl (by (try simp only [List.map_toArray, List.map_cons, List.map_nil]); first | done | rfl | (simp only [List.length_drop, List.length_take]; rfl)) ?_; (with_reducible refine (cpuset_List.calls t650 t667 _ ?tb A30.out).mono ?_); (case tb => exact HT.out.step (by repeat (first | (with_reducible first | exact HB.out | apply below_alloc | apply pw_below_drewN | apply below_drew1 | refine below_set ?_ GE648.out) | exact HB.out))); rintro e w40 ⟨v668, rfl, ho0, hb⟩; refine ⟨_, rfl, ?_⟩; have n0_ := Aside0.mk (Kd.R_lower ho0 (below_size (by repeat (first | (with_reducible first | exact HB.out | apply below_alloc | apply pw_below_drewN | apply below_drew1 | refine below_set ?_ GE648.out) | exact HB.out)))); have n1_ := Aside0.mk (blk_below (g := gb648) (o := .cells #[.int .i64 a0_0, .int .i64 a0_1, .int .u32 a0_2, .int .u32 a0_3] 36 (0, 0)) (by (with_reducible repeat (first | refine blk_drewN ?_ _ | refine blk_drew ?_ | refine blk_alloc ?_ _)); exact BK648.out) hb); have n2_ := Aside0.mk (below_step (by repeat (first | (with_reducible first | exact HB.out | apply below_alloc | apply pw_below_drewN | apply below_drew1 | refine below_set ?_ GE648.out) | exact HB.out)) hb); clear BK648; clear HB; have HO669 := n0_; have BK648 := n1_; have HB := n2_; clear n0_ n1_ n2_; (try clear hb); (try clear hb2); (try clear hk); (try clear hi); (try clear ho0); obtain ⟨Ao42, co42, eo42⟩ := Kd.R_slice HO669.out; subst eo42) | ((with_reducible refine gate_builtin (b := .append) (xs := #[.tmp 35, .tmp 37]) rfl ?_); at_builtin; refine Kd.R_append_rows (Kd.int .i64) (w0 := w) w.heap.size rfl (.tmp 35) (.tmp 37) 42 3 (.int .i64 0) 8 rfl Tryd.underlying42 info3 rfl (by decide) (by omega) (.slice none 0 0) ([] : List Int) t667 _ _ _ (fun k_ => some k_ ≠ (.slice Ao42 t667.length co42 : Value).ownBlock) (fun _ => False) rfl rfl ?aO ?aR (fun _ _ h => h) (fun _ h => h.elim) ?aF ?aB ?aS ?aL ?_; (case aR => repeat (first | exact (Kd.R_reads' HO669.out).2.2 | (with_reducible refine Kd.C_alloc ?_ _) | (with_reducible refine Kd.C_drewN ?_ _) | (with_reducible refine Kd.C_drew ?_))); (case aB => exact (by repeat (first | (with_reducible first | exact HB.out | apply below_alloc | apply pw_below_drewN | apply below_drew1 | refine below_set ?_ GE648.out) | exact HB.out))); (case aF => exact (fun k_ hk => Kd.fresh' (Kd.R_lt (by (with_reducible repeat (first | apply Kd.R_alloc | apply Kd.R_drewN | apply Kd.R_drew)); exact HO669.out)) k_ hk)); (case aO => exact ((Kd.R_nil _ _ _ _ (fun k_ => some k_ ≠ (.slice Ao42 t667.length co42 : Value).ownBlock)))); (case aS => exact (below_size (by repeat (first | (with_reducible first | exact HB.out | apply below_alloc | apply pw_below_drewN | apply below_drew1 | refine below_set ?_ GE648.out) | exact HB.out)))); (case aL => have := LMc31.out; omega); intro v671 w41 ho hb hg hat; rw [← Ny670.out] at ho; have n0_ := Aside0.mk (blk_grown (g := gb648) (o := .cells #[.int .i64 a0_0, .int .i64 a0_1, .int .u32 a0_2, .int .u32 a0_3] 36 (0, 0)) (by (with_reducible repeat (first | refine blk_drewN ?_ _ | refine blk_drew ?_ | refine blk_alloc ?_ _)); exact BK648.out) hg (by simp [Value.ownBlock])); have n1_ := Aside0.mk (Kd.R_after (Kd.R_apart_nil (by (with_reducible repeat (first | apply Kd.R_alloc | apply Kd.R_drewN | apply Kd.R_drew)); exact HO669.out)) hg hat); have n2_ := Aside0.mk (hb); have n3_ := Aside0.mk (ho); clear BK648; clear HO669; clear HB; have BK648 := n0_; have HO669 := n1_; have HB := n2_; have HO672 := n3_; clear n0_ n1_ n2_ n3_; clear ho hb hg hat) | ((with_reducible refine gate_callee (f := 68) rfl ?_); refine goesL_ (some 43) rfl rfl Tryd.func68 (by kernel_rfl) rfl #[.int .u32 (Go.bits .andNot .u32 t649 t650)] rfl (by (try simp only [List.map_toArray, List.map_cons, List.map_nil]); first | done | rfl | (simp only [List.length_drop, List.length_take]; rfl)) ?_; (with_reducible refine (cpuset_List.calls (Go.bits .andNot .u32 t649 t650) t673 _ ?tb A32.out).mono ?_); (case tb => exact HT.out.step (by repeat (first | (with_reducible first | exact HB.out | apply below_alloc | apply pw_below_drewN | apply below_drew1 | refine below_set ?_ GE648.out) | exact HB.out))); rintro e w43 ⟨v674, rfl, ho0, hb⟩; refine ⟨_, rfl, ?_⟩; have n0_ := Aside0.mk (Kd.R_elder' (by (with_reducible repeat (first | apply Kd.R_alloc | apply Kd.R_drewN | apply Kd.R_drew)); exact HO669.out) (Kd.R_base ho0) hb); have n1_ := Aside0.mk (Kd.R_elder' (by (with_reducible repeat (first | apply Kd.R_alloc | apply Kd.R_drewN | apply Kd.R_drew)); exact HO672.out) (Kd.R_base ho0) hb); have n2_ := Aside0.mk (Kd.R_lower (Kd.R_new' (Kd.R_new' ho0 (Kd.R_lt (by (with_reducible repeat (first | apply Kd.R_alloc | apply Kd.R_drewN | apply Kd.R_drew)); exact HO669.out))) (Kd.R_lt (by (with_reducible repeat (first | apply Kd.R_alloc | apply Kd.R_drewN | apply Kd.R_drew)); exact HO672.out))) (below_size (by repeat (first | (with_reducible first | exact HB.out | apply below_alloc | apply pw_below_drewN | apply below_drew1 | refine below_set ?_ GE648.out) | exact HB.out)))); have n3_ := Aside0.mk (blk_below (g := gb648) (o := .cells #[.int .i64 a0_0, .int .i64 a0_1, .int .u32 a0_2, .int .u32 a0_3] 36 (0, 0)) (by (with_reducible repeat (first | refine blk_drewN ?_ _ | refine blk_drew ?_ | refine blk_alloc ?_ _)); exact BK648.out) hb); have n4_ := Aside0.mk (below_step (by repeat (first | (with_reducible first | exact HB.out | apply below_alloc | apply pw_below_drewN | apply below_drew1 | refine below_set ?_ GE648.out) | exact HB.out)) hb); clear HO669; clear HO672; clear BK648; clear HB; have HO669 := n0_; have HO672 := n1_; have HO675 := n2_; have BK648 := n3_; have HB := n4_; clear n0_ n1_ n2_ n3_ n4_; (try clear hb); (try clear hb2); (try clear hk); (try clear hi); (try clear ho0); obtain ⟨Ao45, co45, eo45⟩ := Kd.R_slice HO675.out; subst eo45) | ((with_reducible refine gate_builtin (b := .append) (xs := #[.tmp 39, .tmp 43]) rfl ?_); at_builtin; refine Kd.R_append_rows (Kd.int .i64) (w0 := w) w.heap.size rfl (.tmp 39) (.tmp 43) 42 3 (.int .i64 0) 8 rfl Tryd.underlying42 info3 rfl (by decide) (by omega) v671 y670 t673 _ _ _ (fun k_ => some k_ ≠ (.slice Ao42 t667.length co42 : Value).ownBlock ∧ some k_ ≠ (.slice Ao45 t673.length co45 : Value).ownBlock) (fun _ => False) rfl rfl ?aO ?aR (fun _ _ h => h) (fun _ h => h.elim) ?aF ?aB ?aS ?aL ?_; (case aR => repeat (first | exact (Kd.R_reads' HO675.out).2.2 | (with_reducible refine Kd.C_alloc ?_ _) | (with_reducible refine Kd.C_drewN ?_ _) | (with_reducible refine Kd.C_drew ?_))); (case aB => exact (by repeat (first | (with_reducible first | exact HB.out | apply below_alloc | apply pw_below_drewN | apply below_drew1 | refine below_set ?_ GE648.out) | exact HB.out))); (case aF => exact (fun k_ hk => ⟨Kd.fresh' (Kd.R_lt (by (with_reducible repeat (first | apply Kd.R_alloc | apply Kd.R_drewN | apply Kd.R_drew)); exact HO669.out)) k_ hk, Kd.fresh' (Kd.R_lt (by (with_reducible repeat (first | apply Kd.R_alloc | apply Kd.R_drewN | apply Kd.R_drew)); exact HO675.out)) k_ hk⟩)); (case aO => exact (by (with_reducible repeat (first | apply Kd.R_alloc | apply Kd.R_drewN | apply Kd.R_drew)); exact HO672.out)); (case aS => exact (below_size (by repeat (first | (with_reducible first | exact HB.out | apply below_alloc | apply pw_below_drewN | apply below_drew1 | refine below_set ?_ GE648.out) | exact HB.out)))); (case aL => have := LMc33.out; omega); intro v677 w44 ho hb hg hat; rw [← Ny676.out] at ho; have n0_ := Aside0.mk (blk_grown (g := gb648) (o := .cells #[.int .i64 a0_0, .int .i64 a0_1, .int .u32 a0_2, .int .u32 a0_3] 36 (0, 0)) (by (with_reducible repeat (first | refine blk_drewN ?_ _ | refine blk_drew ?_ | refine blk_alloc ?_ _)); exact BK648.out) hg (Kd.R_ne HO672.out BK648.out (by decide))); have n1_ := Aside0.mk (Kd.R_after (ok := (fun k_ => some k_ ≠ (.slice Ao45 t673.length co45 : Value).ownBlock)) (by (with_reducible repeat (first | apply Kd.R_alloc | apply Kd.R_drewN | apply Kd.R_drew)); exact Kd.R_mono HO669.out (fun _ hk => ⟨hk.2, hk.1.2⟩)) hg hat); have n2_ := Aside0.mk (Kd.R_after (ok := (fun k_ => some k_ ≠ (.slice Ao42 t667.length co42 : Value).ownBlock)) (by (with_reducible repeat (first | apply Kd.R_alloc | apply Kd.R_drewN | apply Kd.R_drew)); exact Kd.R_mono HO675.out (fun _ hk => ⟨hk.1.2, hk.2⟩)) hg hat); have n3_ := Aside0.mk (hb); have n4_ := Aside0.mk (ho); clear BK648; clear HO669; clear HO675; clear HB; clear HO672; have BK648 := n0_; have HO669 := n1_; have HO675 := n2_; have HB := n3_; have HO678 := n4_; clear n0_ n1_ n2_ n3_ n4_; clear ho hb hg hat))
    go_ret
    exact ⟨_, by first | rfl | (simp [errW_none, errW_some] <;> rfl) | (simp [*, errW_none, errW_some] <;> rfl), by (with_reducible repeat (first | apply Kd.R_alloc | apply Kd.R_drewN | apply Kd.R_drew)); exact Kd.R_mono HO678.out (fun _ hk => trivial), by repeat (first | (with_reducible first | exact HB.out | apply below_alloc | apply pw_below_drewN | apply below_drew1 | refine below_set ?_ GE648.out) | exact HB.out)⟩
   ·rw [if_neg c33] at H
    exact absurd H (by simp)
  ·rw [if_neg c31] at H
   exact absurd H (by simp)

end Go.Proofs.YtdmieaidheelbaaDoor.Q
end
/- QFpickrows -/
section
namespace Go.Proofs.YtdmieaidheelbaaDoor.Q
open Go.RowKit Go.Proofs.YtdmieaidheelbaaDoorW.PrintWords Go.Proofs.YtdmieaidheelbaaDoorW.PrintLast Go.Proofs.YtdmieaidheelbaaDoorW.PrintMore
attribute [local go_sem] max2_int min2_int max_two min_two max_three min_three max_four min_four
set_option linter.unusedVariables false
set_option linter.unusedSimpArgs false

def pick_rows.l0 : Nat → Int → List (List Int) → List (S36) → Int → Int → Option ((List (List Int)))
 | 0, _, _, _, _, _ => none
 | k + 1, x0, x5, x8, x9, x10 => if x10 < x9 then (if 0 ≤ x10 then (if x10 < (x8.length : Int) then ((pick_Choices.f k ((rd_T36 x8 x10).f0) ((rd_T36 x8 x10).f1) ((rd_T36 x8 x10).f2.f0) ((rd_T36 x8 x10).f2.f1) x0).bind fun t828 => (if x5.length < 5864062014805 then (pick_rows.l0 k x0 (x5 ++ [t828]) x8 x9 (wrap64 (x10 + 1))) else (none))) else (none)) else (none)) else (some x5)
def pick_rows.f (k : Nat) (a0 : Int) (l1 : List (S36)) : Option ((List (List Int))) := pick_rows.l0 k a0 ([] : List (List Int)) l1 (l1.length : Int) 0
set_option maxHeartbeats 8000000 in
set_option maxRecDepth 100000 in
theorem pick_rows.calls (k : Nat) (a0 : Int) (A1 : Option Addr) (c1 : Nat) (l1 : List (S36)) (r : List (List Int)) (w : World) (hr1 : Kd.C k36 w A1 l1.length l1) (hc1 : l1.length ≤ c1) (hT : TabW w) (h : pick_rows.f k a0 l1 = some r) :
  Calls Tryd.prog 106 #[.int .u32 a0, .slice A1 l1.length c1] w fun e w' => ∃ v0_ : Value, e = .returned (v0_) ∧ Kd.S (Kd.slice 3 (Kd.int .i64)) 42 w' w.heap.size (fun _ => True) v0_ r ∧ Below w.heap.size w w' := by
 have HT := Aside0.mk hT
 clear hT
 have hu36 := Tryd.underlying36
 have HR1 := Aside0.mk hr1
 have HC1 := Aside0.mk hc1
 clear hr1 hc1
 have HB := Aside0.mk (Below.refl w.heap.size w)
 have H : (pick_rows.l0 k a0 ([] : List (List Int)) l1 (l1.length : Int) 0) = some r := h
 clear h
 have H' := Aside0.mk H
 clear H
 go_enter Tryd.func106, Tryd.ntmps106
 go_wp2
 go_loopg [5, 10] k (fun kq v5 v10 w' => ∃ (x5_1 : List (List Int)) (x10_1 : Int), v10 = .int .i64 x10_1 ∧ Aside0 (pick_rows.l0 kq a0 x5_1 l1 (l1.length : Int) x10_1 = some r) ∧ Aside0 (kq ≤ k) ∧ Aside0 (Kd.S (Kd.slice 3 (Kd.int .i64)) 42 w' w.heap.size (fun _ => True) v5 x5_1) ∧ Aside0 (Below w.heap.size w w'))
 case atStart => exact ⟨(([] : List (List Int))), (0), (by first | rfl | (simp; done) | (simp [*]; done)), H', ⟨Nat.le_refl _⟩, ⟨by first | exact Kd.S_nil _ _ _ _ _ | exact Kd.N_nil _ _ _ _ _ | exact Kd.V_nil _ _ _ _ _ | exact Kd.Q_nil _ _ _ _ _ | exact Kd.R_nil _ _ _ _ _⟩, ⟨by repeat (first | (with_reducible first | exact HB.out | apply below_alloc | apply pw_below_drewN | apply below_drew1) | exact HB.out)⟩⟩
 case round =>
  clear H'
  try clear c1
  try clear p2
  obtain ⟨x5_1, x10_1, rfl, HA, HK1, HO_5, HB⟩ := hrel
  cases gk with
  | zero => exact absurd HA.out (by simp [pick_rows.l0])
  | succ k1 =>
   have H := HA.out
   clear HA
   simp only [pick_rows.l0] at H
   by_cases c3 : x10_1 < (l1.length : Int)
   ·rw [if_pos c3] at H
    have c3b0 : decide (x10_1 < (l1.length : Int)) = true := decide_eq_true c3
    clear c3
    by_cases c4 : 0 ≤ x10_1
    ·rw [if_pos c4] at H
     have c4b0 : decide (0 ≤ x10_1) = true := decide_eq_true c4
     clear c4
     by_cases c5 : x10_1 < (l1.length : Int)
     ·rw [if_pos c5] at H
      have c5b0 : decide (x10_1 < (l1.length : Int)) = true := decide_eq_true c5
      clear c5
      replace H := Option.bind_eq_some_iff.mp H
      obtain ⟨t828, A60, H⟩ := H
      replace H : (if x5_1.length < 5864062014805 then (pick_rows.l0 k1 a0 (x5_1 ++ [t828]) l1 (l1.length : Int) (wrap64 (x10_1 + 1))) else (none)) = some r := H
      have A6 := Aside0.mk A60
      clear A60
      by_cases c7 : x5_1.length < 5864062014805
      ·rw [if_pos c7] at H
       have LMc7 := Aside0.mk c7
       clear c7
       obtain ⟨y831, hy831⟩ : ∃ y_ : List (List Int), y_ = (x5_1 ++ [t828]) := ⟨_, rfl⟩
       replace H : (pick_rows.l0 k1 a0 y831 l1 (l1.length : Int) (wrap64 (x10_1 + 1))) = some r := by first | (rw [hy831]; with_reducible exact H) | (have H2_ := (Option.bind_some _ _).symm.trans H; rw [hy831]; with_reducible exact H2_) | (have H2_ := (Option.bind_some _ _).symm.trans H; with_reducible exact H2_) | with_reducible exact H | (rw [hy831]; exact H) | exact H
       have Ny831 := Aside0.mk hy831
       clear hy831
       have H' := Aside0.mk H
       clear H
       have p826 : 0 ≤ (x10_1 : Int) := of_decide_eq_true (by first | (with_reducible assumption) | assumption)
       have q826 : x10_1 < (l1.length : Int) := of_decide_eq_true (by first | (with_reducible assumption) | assumption)
       obtain ⟨ad826, e826, hx826_0, hx826_1, hx826_2, hx826_3⟩ := at_T36 HR1.out x10_1 p826 q826
       cases e826
       replace hx826_0 := (HB.out.cell (World.block_lt_of_cell? w _ hx826_0)).trans hx826_0
       replace hx826_1 := (HB.out.cell (World.block_lt_of_cell? w _ hx826_1)).trans hx826_1
       replace hx826_2 := (HB.out.cell (World.block_lt_of_cell? w _ hx826_2)).trans hx826_2
       replace hx826_3 := (HB.out.cell (World.block_lt_of_cell? w _ hx826_3)).trans hx826_3
       replace p826 := eq_true p826
       replace q826 := eq_true q826
       go_wp2_with (first | ((with_reducible refine gate_dst (N := 7) rfl ?_); refine box_event ?hg (N := 7) ?hd (cs := #[.int .i64 0, .int .i64 0, .int .u32 0, .int .u32 0]) (t := 36) ?hr ?_; (case hd => rfl); (case hg => rfl); (case hr => first | (go_simp; done) | (go_simp; rfl)); intro gb827 hg w8 hbox hb; have n0_ := Aside0.mk (Kd.S_below (by (with_reducible repeat (first | apply Kd.S_alloc | apply Kd.S_drewN | apply Kd.S_drew)); exact HO_5.out) hb); have n1_ := Aside0.mk (below_step (by repeat (first | (with_reducible first | exact HB.out | apply below_alloc | apply pw_below_drewN | apply below_drew1) | exact HB.out)) hb); have n2_ := Aside0.mk (hbox); have n3_ := Aside0.mk ((by rw [hg]; exact (below_size (by repeat (first | (with_reducible first | exact HB.out | apply below_alloc | apply pw_below_drewN | apply below_drew1) | exact HB.out))) : w.heap.size ≤ gb827)); have n4_ := Aside0.mk ((by rw [hg]; exact (below_size (by repeat (first | (with_reducible first | exact HB.out | apply below_alloc | apply pw_below_drewN | apply below_drew1) | exact HB.out))) : w.heap.size ≤ gb827)); clear HO_5; clear HB; have HO_5 := n0_; have HB := n1_; have BK827 := n2_; have GW827 := n3_; have GE827 := n4_; clear n0_ n1_ n2_ n3_ n4_; clear hb hbox hg; have hcz9_0 : w8.cell? ⟨gb827, 0, none⟩ = some (.int .i64 0) := (blk_cell BK827.out 0).trans rfl; have hcz9_1 : w8.cell? ⟨gb827, 1, none⟩ = some (.int .i64 0) := (blk_cell BK827.out 1).trans rfl; have hcz9_2 : w8.cell? ⟨gb827, 2, none⟩ = some (.int .u32 0) := (blk_cell BK827.out 2).trans rfl; have hcz9_3 : w8.cell? ⟨gb827, 3, none⟩ = some (.int .u32 0) := (blk_cell BK827.out 3).trans rfl; have hfz9_0 := blk_frozen BK827.out 0; have hfz9_1 := blk_frozen BK827.out 1; have hfz9_2 := blk_frozen BK827.out 2; have hfz9_3 := blk_frozen BK827.out 3) | ((with_reducible refine gate_callee (f := 51) rfl ?_); refine goesL_ (some 17) rfl rfl Tryd.func51 (by kernel_rfl) rfl #[.agg #[.int .i64 ((rd_T36 l1 x10_1).f0), .int .i64 ((rd_T36 l1 x10_1).f1), .int .u32 ((rd_T36 l1 x10_1).f2.f0), .int .u32 ((rd_T36 l1 x10_1).f2.f1)], .int .u32 a0] rfl (by (try simp only [List.map_toArray, List.map_cons, List.map_nil]); first | done | rfl | (simp only [List.length_drop, List.length_take]; rfl)) ?_; (with_reducible refine (pick_Choices.calls k1 ((rd_T36 l1 x10_1).f0) ((rd_T36 l1 x10_1).f1) ((rd_T36 l1 x10_1).f2.f0) ((rd_T36 l1 x10_1).f2.f1) a0 t828 _ ?tb A6.out).mono ?_); (case tb => exact HT.out.step (by repeat (first | (with_reducible first | exact HB.out | apply below_alloc | apply pw_below_drewN | apply below_drew1 | refine below_set ?_ GE827.out) | exact HB.out))); rintro e w10 ⟨v829, rfl, ho0, hb⟩; refine ⟨_, rfl, ?_⟩; have n0_ := Aside0.mk (Kd.S_elder' (by (with_reducible repeat (first | apply Kd.S_alloc | apply Kd.S_drewN | apply Kd.S_drew)); exact (Kd.S_mono (Kd.S_far (p := ⟨gb827, 3, none⟩) (Kd.S_far (p := ⟨gb827, 2, none⟩) (Kd.S_far (p := ⟨gb827, 1, none⟩) (Kd.S_far (p := ⟨gb827, 0, none⟩) (Kd.S_types HO_5.out BK827.out (by decide)) (fun _ hk => hk.2) (.int .i64 ((rd_T36 l1 x10_1).f0))) (fun _ hk => hk.2) (.int .i64 ((rd_T36 l1 x10_1).f1))) (fun _ hk => hk.2) (.int .u32 ((rd_T36 l1 x10_1).f2.f0))) (fun _ hk => hk.2) (.int .u32 ((rd_T36 l1 x10_1).f2.f1))) (fun _ h_ => h_.1))) (Kd.R_base ho0) hb); have n1_ := Aside0.mk (Kd.R_lower ho0 (below_size (by repeat (first | (with_reducible first | exact HB.out | apply below_alloc | apply pw_below_drewN | apply below_drew1 | refine below_set ?_ GE827.out) | exact HB.out)))); have n2_ := Aside0.mk (blk_below (g := gb827) (o := .cells #[.int .i64 ((rd_T36 l1 x10_1).f0), .int .i64 ((rd_T36 l1 x10_1).f1), .int .u32 ((rd_T36 l1 x10_1).f2.f0), .int .u32 ((rd_T36 l1 x10_1).f2.f1)] 36 (0, 0)) (by (with_reducible repeat (first | refine blk_drewN ?_ _ | refine blk_drew ?_ | refine blk_alloc ?_ _)); refine blk_put (cs := #[.int .i64 ((rd_T36 l1 x10_1).f0), .int .i64 ((rd_T36 l1 x10_1).f1), .int .u32 ((rd_T36 l1 x10_1).f2.f0), .int .u32 0]) ?_ 3 _ rfl; (with_reducible repeat (first | refine blk_drewN ?_ _ | refine blk_drew ?_ | refine blk_alloc ?_ _)); refine blk_put (cs := #[.int .i64 ((rd_T36 l1 x10_1).f0), .int .i64 ((rd_T36 l1 x10_1).f1), .int .u32 0, .int .u32 0]) ?_ 2 _ rfl; (with_reducible repeat (first | refine blk_drewN ?_ _ | refine blk_drew ?_ | refine blk_alloc ?_ _)); refine blk_put (cs := #[.int .i64 ((rd_T36 l1 x10_1).f0), .int .i64 0, .int .u32 0, .int .u32 0]) ?_ 1 _ rfl; (with_reducible repeat (first | refine blk_drewN ?_ _ | refine blk_drew ?_ | refine blk_alloc ?_ _)); refine blk_put (cs := #[.int .i64 0, .int .i64 0, .int .u32 0, .int .u32 0]) ?_ 0 _ rfl; (with_reducible repeat (first | refine blk_drewN ?_ _ | refine blk_drew ?_ | refine blk_alloc ?_ _)); exact BK827.out) hb); have n3_ := Aside0.mk (below_step (by repeat (first | (with_reducible first | exact HB.out | apply below_alloc | apply pw_below_drewN | apply below_drew1 | refine below_set ?_ GE827.out) | exact HB.out)) hb); clear HO_5; clear BK827; clear HB; have HO_5 := n0_; have HO830 := n1_; have BK827 := n2_; have HB := n3_; clear n0_ n1_ n2_ n3_; (try clear hb); (try clear hb2); (try clear hk); (try clear hi); (try clear ho0); obtain ⟨Ao12, co12, eo12⟩ := Kd.R_slice HO830.out; subst eo12) | ((with_reducible refine gate_builtin (b := .append) (xs := #[.tmp 14, .tmp 18]) rfl ?_); at_builtin; refine Kd.S_append (Kd.slice 3 (Kd.int .i64)) (w0 := w) w.heap.size rfl (.tmp 14) (.tmp 18) 141 42 (.slice none 0 0) 24 rfl Tryd.underlying141 info42 rfl (by decide) (by omega) u5 x5_1 t828 [.slice Ao12 t828.length co12] (fun _ => True) (fun k_ => some k_ = (.slice Ao12 t828.length co12 : Value).ownBlock) rfl rfl ?aP (fun k_ hk_ => ((Kd.R_mono (ok' := fun k_ => ((fun _ => True)) k_ ∧ some k_ ≠ (u5 : Value).ownBlock) (Kd.R_apart' (HO830.out) (Kd.S_typed HO_5.out) (by decide)) (fun k_ hk => ⟨trivial, hk.2⟩))).1 k_ hk_.symm) ?aF ?aO ?aB ?aS ?aL ?_; (case aP => exact Kd.M_row (Kd.R_mono (Kd.R_tight rfl (Kd.R_mono (ok' := fun k_ => ((fun _ => True)) k_ ∧ some k_ ≠ (u5 : Value).ownBlock) (Kd.R_apart' (HO830.out) (Kd.S_typed HO_5.out) (by decide)) (fun k_ hk => ⟨trivial, hk.2⟩))) (fun _ h_ => h_))); (case aB => exact (by repeat (first | (with_reducible first | exact HB.out | apply below_alloc | apply pw_below_drewN | apply below_drew1 | refine below_set ?_ GE827.out) | exact HB.out))); (case aF => exact (fun _ _ => trivial)); (case aO => exact (by (with_reducible repeat (first | apply Kd.S_alloc | apply Kd.S_drewN | apply Kd.S_drew)); exact Kd.S_mono HO_5.out (fun k_ hk => ⟨trivial, fun e_ => hk.2 e_⟩))); (case aS => exact (below_size (by repeat (first | (with_reducible first | exact HB.out | apply below_alloc | apply pw_below_drewN | apply below_drew1 | refine below_set ?_ GE827.out) | exact HB.out)))); (case aL => have := LMc7.out; omega); intro v832 w11 ho hb hg hat; rw [← Ny831.out] at ho; have n0_ := Aside0.mk (blk_grown (g := gb827) (o := .cells #[.int .i64 ((rd_T36 l1 x10_1).f0), .int .i64 ((rd_T36 l1 x10_1).f1), .int .u32 ((rd_T36 l1 x10_1).f2.f0), .int .u32 ((rd_T36 l1 x10_1).f2.f1)] 36 (0, 0)) (by (with_reducible repeat (first | refine blk_drewN ?_ _ | refine blk_drew ?_ | refine blk_alloc ?_ _)); exact BK827.out) hg (Kd.S_ne HO_5.out BK827.out (by decide))); have n1_ := Aside0.mk (hb); have n2_ := Aside0.mk (ho); clear BK827; clear HB; clear HO_5; clear HO830; have BK827 := n0_; have HB := n1_; have HO833 := n2_; clear n0_ n1_ n2_; clear ho hb hg hat))
       go_roundg k1
       case measure => have := HK1.out; omega
       case rel => exact ⟨(y831), (wrap64 (x10_1 + 1)), (by first | rfl | (simp; done) | (simp [*]; done)), H', ⟨by have := HK1.out; omega⟩, ⟨by (with_reducible repeat (first | apply Kd.S_alloc | apply Kd.S_drewN | apply Kd.S_drew)); exact HO833.out⟩, ⟨by repeat (first | (with_reducible first | exact HB.out | apply below_alloc | apply pw_below_drewN | apply below_drew1 | refine below_set ?_ GE827.out) | exact HB.out)⟩⟩
      ·rw [if_neg c7] at H
       exact absurd H (by simp)
     ·rw [if_neg c5] at H
      exact absurd H (by simp)
    ·rw [if_neg c4] at H
     exact absurd H (by simp)
   ·rw [if_neg c3] at H
    have c3b0 : decide (x10_1 < (l1.length : Int)) = false := decide_eq_false c3
    clear c3
    obtain rfl := Option.some.inj H
    go_wp2
    go_ret
    exact ⟨_, by first | rfl | (simp [errW_none, errW_some] <;> rfl) | (simp [*, errW_none, errW_some] <;> rfl), by (with_reducible repeat (first | apply Kd.S_alloc | apply Kd.S_drewN | apply Kd.S_drew)); exact HO_5.out, by repeat (first | (with_reducible first | exact HB.out | apply below_alloc | apply pw_below_drewN | apply below_drew1) | exact HB.out)⟩

end Go.Proofs.YtdmieaidheelbaaDoor.Q
end
