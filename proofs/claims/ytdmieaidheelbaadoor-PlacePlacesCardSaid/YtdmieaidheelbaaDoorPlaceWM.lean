/- place.Waits and place.Moves by their contracts. -/
import Derived.Test.YtdmieaidheelbaaDoorPlace
import Derived.WalkSmall
namespace Go.Proofs.YtdmieaidheelbaaDoor.Q
open Go Go.RowKit Go.Shelf Go.Proofs.YtdmieaidheelbaaDoor.Rng Go.Proofs.YtdmieaidheelbaaDoorW.PrintWords Go.Proofs.YtdmieaidheelbaaDoorW.PrintLast Go.Proofs.YtdmieaidheelbaaDoorW.PrintMore
set_option linter.unusedVariables false
set_option linter.unusedSimpArgs false
attribute [local go_sem] Oper.semAt_some

set_option maxRecDepth 100000 in
set_option maxHeartbeats 8000000 in
theorem waits_no (A0 : Option Addr) (c0 : Nat) (l0 : List (S36)) (a1 : Int) (w : World) (hr0 : Kd.C k36 w A0 l0.length l0) (hc0 : l0.length ≤ c0) (hok : okArgs l0 a1) (hne : askedOf l0 a1 ≠ 0) :
    Calls Tryd.prog 35 #[.slice A0 l0.length c0, .int .u32 a1] w fun e w' => e = .returned (.tuple #[.slice none 0 0, .int .i64 (askedOf l0 a1)]) ∧ Below w.heap.size w w' := by
  have hv := Aside0.mk (asked_val l0 a1 hok)
  have hr1 := Aside0.mk hr0
  have hc1 := Aside0.mk hc0
  generalize askedOf l0 a1 = q at *
  have hq : (q != 0) = true := by rw [bne_iff_ne]; exact hne
  clear hne hr0 hc0 hok
  go_enter Tryd.func35, Tryd.ntmps35
  go_wp2_with (go_at_call 57; refine (place_asked.calls A0 c0 l0 a1 q _ hr1.out hc1.out hv.out).mono ?_; rintro e w1 ⟨rfl, hb1⟩; have HB1 := Aside0.mk hb1; clear hb1)
  go_ret2
  exact ⟨rfl, HB1.out⟩

def WaitsI (w4 : World) (b : Nat) (pre : List (S36 × Int)) (W : World) : Prop :=
  Held W w4.heap.size b 42 3 1 (waitsOf pre).length ((waitsOf pre).map (Value.int .i64)) ∧ Turned w4.heap.size (ownP b) w4 W

set_option maxRecDepth 100000 in
set_option maxHeartbeats 8000000 in
theorem waits_yes (A0 : Option Addr) (c0 : Nat) (l0 : List (S36)) (free : Nat) (w : World) (hr0 : Kd.C k36 w A0 l0.length l0) (hc0 : l0.length ≤ c0) (hok : okArgs l0 free) (h0 : askedOf l0 free = 0) (hf : free < 256) (hT : TabW w) :
    Calls Tryd.prog 35 #[.slice A0 l0.length c0, .int .u32 free] w fun e w' => ∃ v, e = .returned (.tuple #[v, .int .i64 0]) ∧ Kd.R (Kd.int .i64) 3 w' w.heap.size (fun _ => True) v (waitsOf (turnsOf free l0)) ∧ Below w.heap.size w w' := by
  have hv := asked_val l0 free hok
  rw [h0] at hv
  obtain ⟨hwf, hlen, -, -⟩ := hok
  have HV := Aside0.mk hv
  have HR := Aside0.mk hr0
  have HC := Aside0.mk hc0
  have HWF := Aside0.mk hwf
  have HT := Aside0.mk hT
  have HW := Aside0.mk (Wishes.of hr0)
  clear hv hr0 hc0 hwf hT h0
  refine (callsIn_wide (n := 9)).1 ?_
  refine callsIn_of_wp_marks Tryd.func35 rfl trivial ?_ rfl
  simp only [Tryd.ntmps35, List.size_toArray, List.length_cons, List.length_nil, Nat.reduceAdd, Nat.reduceSub, Array.replicate_succ, Array.replicate_zero, List.push_toArray, List.append_toArray, List.nil_append, List.cons_append]
  gi_wp2_with (first
    | (refine ⟨trivial, ?_⟩; gi_at_call 57; refine (callsIn_wide.2 (place_asked.calls A0 c0 l0 free 0 _ HR.out HC.out HV.out)).mono ?_; rintro e w1 ⟨rfl, hb1⟩; have HB1 := Aside0.mk hb1; clear hb1)
    | (refine ⟨trivial, ?_⟩; gi_at_call 58; refine (callsIn_wide.2 (turns_calls _ _ _ _ _)).mono ?_; rintro e w2 ⟨rfl, rfl⟩))
  have hsz1 := HB1.out.size
  have hpos := HT.out.pos
  have HT1 := HT.out.step HB1.out
  have hB : Below w1.heap.size w1 (((w1.alloc (.cells #[.slice none 0 0] 42)).alloc (.cells #[.slice A0 l0.length c0] 22)).alloc (.cells #[.int .u32 free] 24)) :=
    ((((Below.refl _ w1).alloc (by simp <;> omega) _).alloc (by simp <;> omega) _).alloc (by simp <;> omega) _)
  have b0 := Boxed.new w1 42 (.slice none 0 0)
  have b1 := Boxed.new (w1.alloc (.cells #[.slice none 0 0] 42)) 22 (.slice A0 l0.length c0)
  have b2 := Boxed.new ((w1.alloc (.cells #[.slice none 0 0] 42)).alloc (.cells #[.slice A0 l0.length c0] 22)) 24 (.int .u32 free)
  simp only [World.size_alloc] at b1 b2
  replace b0 := (b0.alloc (.cells #[.slice A0 l0.length c0] 22)).alloc (.cells #[.int .u32 free] 24)
  replace b1 := b1.alloc (.cells #[.int .u32 free] 24)
  have hsz : (((w1.alloc (.cells #[.slice none 0 0] 42)).alloc (.cells #[.slice A0 l0.length c0] 22)).alloc (.cells #[.int .u32 free] 24)).heap.size = w1.heap.size + 3 := by simp
  have hszl : w1.heap.size + 3 ≤ (((w1.alloc (.cells #[.slice none 0 0] 42)).alloc (.cells #[.slice A0 l0.length c0] 22)).alloc (.cells #[.int .u32 free] 24)).heap.size := by simp
  have HT4 := HT1.step hB
  have HW4 := HW.out.same (W' := (((w1.alloc (.cells #[.slice none 0 0] 42)).alloc (.cells #[.slice A0 l0.length c0] 22)).alloc (.cells #[.int .u32 free] 24))) (fun k hk => (hB.block k (by omega)).trans (HB1.out.block k hk))
  obtain ⟨w4, hw4⟩ : ∃ w4, (((w1.alloc (.cells #[.slice none 0 0] 42)).alloc (.cells #[.slice A0 l0.length c0] 22)).alloc (.cells #[.int .u32 free] 24)) = w4 := ⟨_, rfl⟩
  rw [hw4] at b0 b1 b2 hB hsz hszl HT4 HW4 ⊢
  clear hw4
  have hit := turns1_iter (w1.heap.size + 1) (w1.heap.size + 1 + 1) w.heap.size A0 c0 l0 free hf hlen HWF.out w4 b1 b2 HT4 HW4 (by omega) (by omega) hpos
  have htl := turns_len free l0
  have HBA := Aside0.mk (below_step HB1.out hB)
  obtain ⟨i0, hi, hz0, hz1, hz2⟩ := info_parts infoInt
  refine wpIn_range (gf := 88) (lb := #[.pointer (some ⟨w1.heap.size + 1, 0, none⟩), .pointer (some ⟨w1.heap.size + 1 + 1, 0, none⟩)]) rfl (enters_of Tryd.func88 (by kernel_rfl) rfl) (keep := keepP (w1.heap.size + 1) w.heap.size) hit (fun _ => rfl) (by omega) (fun k hk => by unfold keepP at hk; omega)
    (WaitsI w4 w1.heap.size) NoExit
    ?calm (fun _ _ _ _ h _ _ => h.elim) ⟨⟨_, b0, World.ownsRow_nil _ _ _ _⟩, Turned.refl _ _ _⟩
    (fun pre x a' W => WaitsI w4 w1.heap.size pre W ∧
      ∃ bx, w4.heap.size ≤ bx ∧ W.heap[bx]? = some (.cells #[.int .i64 x.1.f0, .int .i64 x.1.f1, .int .u32 x.1.f2.f0, .int .u32 x.1.f2.f1] 36 (0, 0)) ∧
      a' = { tmps := ([.slice A0 l0.length c0, .int .u32 free, undef, undef, .slice none 0 0, .int .i64 0, .int .i64 0, .pointer (some ⟨w1.heap.size, 0, none⟩), .pointer (some ⟨bx, 0, none⟩), .int .i64 x.2, .slice A0 l0.length c0, .int .u32 free, .int .i64 0, .int .i64 0, .bool false, undef, .slice A0 l0.length c0, .int .u32 free,
        .func (.func 88) #[] #[.pointer (some ⟨w1.heap.size + 1, 0, none⟩), .pointer (some ⟨w1.heap.size + 1 + 1, 0, none⟩)], .agg #[.int .i64 x.1.f0, .int .i64 x.1.f1, .int .u32 x.1.f2.f0, .int .u32 x.1.f2.f1], .int .i64 x.2] ++ [undef, undef, undef, undef, undef, undef, undef, undef]).toArray, defers := [] })
    ?calma ?assign ?body ?done (fun _ _ _ _ h _ => h.elim)
  case calm =>
    rintro pre X Y r ⟨h1, h2⟩ hg hr
    have hXs := h2.size
    refine ⟨h1.far hg ?_, h2.grown hg hXs (fun k e => by injection e with e; subst e; rcases hr with rfl | ⟨h, _⟩; exact .inl (.inr rfl); exact .inr h)⟩
    rcases hr with rfl | ⟨h, ho⟩
    · exact .inl ⟨by omega, by omega⟩
    · exact .inr ho
  case calma =>
    rintro ⟨pre, x, a'⟩ X Y r ⟨⟨h1, h2⟩, bx, h3, h4, h5⟩ hg ⟨hr, o, ho, hcl⟩
    have hXs := h2.size
    refine ⟨⟨h1.far hg (.inr ⟨o, ho, hcl⟩), h2.grown hg hXs (fun k e => by injection e with e; subst e; exact .inr hr)⟩, bx, h3, blk_grown h4 hg (fun e => ?_), h5⟩
    injection e with e
    subst e
    rw [h4] at ho; cases ho; cases hcl
  case assign =>
    rintro lp pre ⟨x, c⟩ rest W K hx hszW ⟨h1, h2⟩ hK
    have hu36 := Tryd.underlying36
    have HK := Aside0.mk hK
    clear hK hit hB b0 b1 b2 htl hi hz0 hz1 hz2 hsz hx
    dsimp only [encTurn]
    gi_wp2
    refine HK.out _ _ ((KeepsOthers.alloc _ _).from _) (fun k hk => Below.heap_alloc _ _ _ (by unfold keepP at hk; omega)) ⟨⟨h1.alloc _, h2.alloc hszW _⟩, W.heap.size, hszW, heap_alloc_new W _, rfl⟩
  case body =>
    rintro lp pre ⟨x, c⟩ rest a' W hx hszW ⟨⟨⟨v, hv, hrow⟩, h2⟩, bx, h3, h4, rfl⟩
    simp only [List.cons_append, List.nil_append] at h4 ⊢
    have c0' := hv.cell
    have k0 := blk_cell h4 0
    simp only [List.getElem?_toArray, List.getElem?_cons_zero] at k0
    have hpl : (waitsOf pre).length < 1000000 := by
      have h1 := waits_len pre
      have h2 := congrArg List.length hx
      rw [htl] at h2; simp at h2; omega
    have HX := Aside0.mk hx
    have HX2 := Aside0.mk h2
    clear hx hit hB b0 b1 b2 h2 htl hsz
    by_cases hc : c = -1
    · subst hc
      gi_wp2_with (gi_at_builtin; refine wpListIn_append_own _ rfl _ _ 42 rfl w4.heap.size 3 i0 (.int .i64 0) 1 8 Tryd.underlying42 hi hz0 hz1 hz2 rfl (by decide) _ _ _ rfl (hrow.alloc _) ⟨W.heap.size, 0, none⟩ 1 1 [.int .i64 x.f0] rfl rfl (cell_one_new _ _ _) (by simp [Value.oneCell']) (by unfold maxLen; omega) (by omega) (by simp; omega) ?_; intro v' w2 hown' hgrow _; obtain ⟨g', cap', rfl⟩ := ownsRow_succ hown'; obtain ⟨hv1, hv2, hk2, hb2⟩ := appended2 (own := fun k => k = w1.heap.size) hv (by decide) hrow hszW rfl hown' hgrow; have hc1 := hv1.cell; have hf1 := hv1.frozen)
      refine ⟨hk2.from _, hb2.same (fun k hk => by unfold keepP at hk; exact ⟨by omega, by omega⟩), ?_, HX2.out.trans (hb2.weaken (fun k hk => .inl hk))⟩
      rw [waits_snoc, show waitOf (x, -1) = [x.f0] from if_pos rfl]
      simpa using hv2
    · have hcb : (c == -1) = false := beq_eq_false_iff_ne.2 hc
      have HC' := Aside0.mk hc
      clear hc
      gi_wp2
      refine ⟨KeepsFrom.refl _ _, Same.refl _ _, ⟨v, hv, ?_⟩, HX2.out⟩
      rw [waits_snoc, show waitOf (x, c) = [] from if_neg HC'.out, List.append_nil]
      exact hrow
  case done =>
    rintro D W hD ⟨⟨v, hv, hrow⟩, h2⟩ hK
    have c0' := hv.cell
    have HX2 := Aside0.mk h2
    have HRow := Aside0.mk hrow
    clear hit hB b0 b1 b2 h2 htl hi hz0 hz1 hz2 hsz hrow HT1 HW4 HT4
    gi_wp2
    refine ⟨by simp, .inl ⟨_, _, rfl, run_takeDeferred hK, ?_⟩⟩
    refine ⟨_, results_tmp2 rfl _ _ _, v, rfl, Kd.R_of_own (ownsRow_lower (ownsRow_putObj HRow.out _ hK rfl) HBA.out.size) (fun _ _ => trivial), ?_⟩
    have hB1 : Below w.heap.size w4 W := HX2.out.below HBA.out.size (fun k hk => by unfold ownP at hk; omega)
    exact below_far (HBA.out.trans hB1) (Nat.le_refl _) (B := w.heap.size) (Nat.le_refl _) (grownBy_putObj' _ D _) (by have := HBA.out.size; omega)

theorem free_lt {l : List S36} {a : Int} (h : askedOf l a = 0) : a < 256 := by
  unfold askedOf at h
  split at h
  · next hc => exact absurd h hc
  · split at h
    · assumption
    · cases h

theorem place_Waits.calls (A0 : Option Addr) (c0 : Nat) (l0 : List (S36)) (a1 : Int) (r1 : List Int) (r2 : Int) (w : World) (hr0 : Kd.C k36 w A0 l0.length l0) (hc0 : l0.length ≤ c0) (hT : TabW w) (h : place_Waits.f l0 a1 = some (r1, r2)) :
    Calls Tryd.prog 35 #[.slice A0 l0.length c0, .int .u32 a1] w fun e w' => ∃ v0_ : Value, e = .returned (.tuple #[v0_, .int .i64 r2]) ∧ Kd.R (Kd.int .i64) 3 w' w.heap.size (fun _ => True) v0_ r1 ∧ Below w.heap.size w w' := by
  unfold place_Waits.f at h
  by_cases hok : okArgs l0 a1
  case neg => rw [if_neg hok] at h; cases h
  rw [if_pos hok] at h
  replace h := Option.some.inj h
  by_cases h0 : askedOf l0 a1 = 0
  · rw [if_pos h0] at h
    injection h with e1 e2
    subst e1 e2
    have hf := free_lt h0
    obtain ⟨free, rfl⟩ : ∃ n : Nat, a1 = n := ⟨a1.toNat, by have := hok.2.2.1; omega⟩
    exact waits_yes A0 c0 l0 free w hr0 hc0 hok h0 (by omega) hT
  · rw [if_neg h0] at h
    injection h with e1 e2
    subst e1 e2
    exact (waits_no A0 c0 l0 a1 w hr0 hc0 hok h0).mono fun e w' h => ⟨_, h.1, Kd.R_nil _ _ _ _ _, h.2⟩
#print axioms place_Waits.calls
set_option maxRecDepth 100000 in
set_option maxHeartbeats 8000000 in
theorem moves_no (A0 : Option Addr) (c0 : Nat) (l0 : List (S36)) (a1 : Int) (w : World) (hr0 : Kd.C k36 w A0 l0.length l0) (hc0 : l0.length ≤ c0) (hok : okArgs l0 a1) (hne : askedOf l0 a1 ≠ 0) :
    Calls Tryd.prog 36 #[.slice A0 l0.length c0, .int .u32 a1] w fun e w' => e = .returned (.tuple #[.int .i64 0, .int .i64 0, .int .i64 (askedOf l0 a1)]) ∧ Below w.heap.size w w' := by
  have hv := Aside0.mk (asked_val l0 a1 hok)
  have hr1 := Aside0.mk hr0
  have hc1 := Aside0.mk hc0
  generalize askedOf l0 a1 = q at *
  have hq : (q != 0) = true := by rw [bne_iff_ne]; exact hne
  clear hne hr0 hc0 hok
  go_enter Tryd.func36, Tryd.ntmps36
  go_wp2_with (go_at_call 57; refine (place_asked.calls A0 c0 l0 a1 q _ hr1.out hc1.out hv.out).mono ?_; rintro e w1 ⟨rfl, hb1⟩; have HB1 := Aside0.mk hb1; clear hb1)
  go_ret3
  exact ⟨rfl, HB1.out⟩

def ownM (b k : Nat) : Prop := k = b ∨ k = b + 1 ∨ k = b + 1 + 1 + 1
def MovesI (w4 : World) (b : Nat) (pre : List (S36 × Int)) (W : World) : Prop :=
  Boxed W b 3 (.int .i64 (movesOf pre)) ∧ Boxed W (b + 1) 3 (.int .i64 (waitCount pre)) ∧ Turned w4.heap.size (ownM b) w4 W
theorem moves_snoc (pre : List (S36 × Int)) (p : S36 × Int) : movesOf (pre ++ [p]) = movesOf pre + if p.2 ≠ -1 ∧ -1 < p.1.f1 ∧ p.1.f1 ≠ p.2 then 1 else 0 := by
  unfold movesOf
  rw [List.filter_append, List.length_append]
  by_cases h : p.2 ≠ -1 ∧ -1 < p.1.f1 ∧ p.1.f1 ≠ p.2
  · rw [if_pos h]; simp [List.filter_cons, h.1, h.2.1, h.2.2]
  · rw [if_neg h]
    have : (decide (p.2 ≠ -1) && decide (-1 < p.1.f1) && decide (p.1.f1 ≠ p.2)) = false := by
      rw [← Bool.not_eq_true]; simpa [and_assoc] using h
    rw [List.filter_cons, this]; simp
theorem count_snoc (pre : List (S36 × Int)) (p : S36 × Int) : waitCount (pre ++ [p]) = waitCount pre + if p.2 = -1 then 1 else 0 := by
  unfold waitCount
  rw [List.filter_append, List.length_append]
  by_cases h : p.2 = -1
  · rw [if_pos h]; simp [List.filter_cons, h]
  · rw [if_neg h]; simp [List.filter_cons, h]
theorem moves_range (pre : List (S36 × Int)) : 0 ≤ movesOf pre ∧ movesOf pre ≤ pre.length := by
  unfold movesOf; have := List.length_filter_le (fun p : S36 × Int => decide (p.2 ≠ -1) && decide (-1 < p.1.f1) && decide (p.1.f1 ≠ p.2)) pre; omega
theorem count_range (pre : List (S36 × Int)) : 0 ≤ waitCount pre ∧ waitCount pre ≤ pre.length := by
  unfold waitCount; have := List.length_filter_le (fun p : S36 × Int => decide (p.2 = -1)) pre; omega

set_option maxRecDepth 100000 in
set_option maxHeartbeats 8000000 in
theorem moves_yes (A0 : Option Addr) (c0 : Nat) (l0 : List (S36)) (free : Nat) (w : World) (hr0 : Kd.C k36 w A0 l0.length l0) (hc0 : l0.length ≤ c0) (hok : okArgs l0 free) (h0 : askedOf l0 free = 0) (hf : free < 256) (hT : TabW w) :
    Calls Tryd.prog 36 #[.slice A0 l0.length c0, .int .u32 free] w fun e w' => e = .returned (.tuple #[.int .i64 (movesOf (turnsOf free l0)), .int .i64 (waitCount (turnsOf free l0)), .int .i64 0]) ∧ Below w.heap.size w w' := by
  have hv := asked_val l0 free hok
  rw [h0] at hv
  obtain ⟨hwf, hlen, -, -⟩ := hok
  have HV := Aside0.mk hv
  have HR := Aside0.mk hr0
  have HC := Aside0.mk hc0
  have HWF := Aside0.mk hwf
  have HT := Aside0.mk hT
  have HW := Aside0.mk (Wishes.of hr0)
  clear hv hr0 hc0 hwf hT h0
  refine (callsIn_wide (n := 9)).1 ?_
  refine callsIn_of_wp_marks Tryd.func36 rfl trivial ?_ rfl
  simp only [Tryd.ntmps36, List.size_toArray, List.length_cons, List.length_nil, Nat.reduceAdd, Nat.reduceSub, Array.replicate_succ, Array.replicate_zero, List.push_toArray, List.append_toArray, List.nil_append, List.cons_append]
  gi_wp2_with (first
    | (refine ⟨trivial, ?_⟩; gi_at_call 57; refine (callsIn_wide.2 (place_asked.calls A0 c0 l0 free 0 _ HR.out HC.out HV.out)).mono ?_; rintro e w1 ⟨rfl, hb1⟩; have HB1 := Aside0.mk hb1; clear hb1)
    | (refine ⟨trivial, ?_⟩; gi_at_call 58; refine (callsIn_wide.2 (turns_calls _ _ _ _ _)).mono ?_; rintro e w2 ⟨rfl, rfl⟩))
  have hsz1 := HB1.out.size
  have hpos := HT.out.pos
  have HT1 := HT.out.step HB1.out
  have hB : Below w1.heap.size w1 ((((w1.alloc (.cells #[.int .i64 0] 3)).alloc (.cells #[.int .i64 0] 3)).alloc (.cells #[.slice A0 l0.length c0] 22)).alloc (.cells #[.int .u32 free] 24)) :=
    (((((Below.refl _ w1).alloc (by simp <;> omega) _).alloc (by simp <;> omega) _).alloc (by simp <;> omega) _).alloc (by simp <;> omega) _)
  have b0 := Boxed.new w1 3 (.int .i64 0)
  have b1 := Boxed.new (w1.alloc (.cells #[.int .i64 0] 3)) 3 (.int .i64 0)
  have b2 := Boxed.new ((w1.alloc (.cells #[.int .i64 0] 3)).alloc (.cells #[.int .i64 0] 3)) 22 (.slice A0 l0.length c0)
  have b3 := Boxed.new (((w1.alloc (.cells #[.int .i64 0] 3)).alloc (.cells #[.int .i64 0] 3)).alloc (.cells #[.slice A0 l0.length c0] 22)) 24 (.int .u32 free)
  simp only [World.size_alloc] at b1 b2 b3
  replace b0 := ((b0.alloc (.cells #[.int .i64 0] 3)).alloc (.cells #[.slice A0 l0.length c0] 22)).alloc (.cells #[.int .u32 free] 24)
  replace b1 := (b1.alloc (.cells #[.slice A0 l0.length c0] 22)).alloc (.cells #[.int .u32 free] 24)
  replace b2 := b2.alloc (.cells #[.int .u32 free] 24)
  have hsz : ((((w1.alloc (.cells #[.int .i64 0] 3)).alloc (.cells #[.int .i64 0] 3)).alloc (.cells #[.slice A0 l0.length c0] 22)).alloc (.cells #[.int .u32 free] 24)).heap.size = w1.heap.size + 4 := by simp
  have hszl : w1.heap.size + 4 ≤ ((((w1.alloc (.cells #[.int .i64 0] 3)).alloc (.cells #[.int .i64 0] 3)).alloc (.cells #[.slice A0 l0.length c0] 22)).alloc (.cells #[.int .u32 free] 24)).heap.size := by simp
  have HT4 := HT1.step hB
  have HW4 := HW.out.same (W' := ((((w1.alloc (.cells #[.int .i64 0] 3)).alloc (.cells #[.int .i64 0] 3)).alloc (.cells #[.slice A0 l0.length c0] 22)).alloc (.cells #[.int .u32 free] 24))) (fun k hk => (hB.block k (by omega)).trans (HB1.out.block k hk))
  obtain ⟨w4, hw4⟩ : ∃ w4, ((((w1.alloc (.cells #[.int .i64 0] 3)).alloc (.cells #[.int .i64 0] 3)).alloc (.cells #[.slice A0 l0.length c0] 22)).alloc (.cells #[.int .u32 free] 24)) = w4 := ⟨_, rfl⟩
  rw [hw4] at b0 b1 b2 b3 hB hsz hszl HT4 HW4 ⊢
  clear hw4
  have hit := turns1_iter (w1.heap.size + 1 + 1) (w1.heap.size + 1 + 1 + 1) w.heap.size A0 c0 l0 free hf hlen HWF.out w4 b2 b3 HT4 HW4 (by omega) (by omega) hpos
  have htl := turns_len free l0
  have HBA := Aside0.mk (below_step HB1.out hB)
  refine wpIn_range (gf := 88) (lb := #[.pointer (some ⟨w1.heap.size + 1 + 1, 0, none⟩), .pointer (some ⟨w1.heap.size + 1 + 1 + 1, 0, none⟩)]) rfl (enters_of Tryd.func88 (by kernel_rfl) rfl) (keep := keepP (w1.heap.size + 1 + 1) w.heap.size) hit (fun _ => rfl) (by omega) (fun k hk => by unfold keepP at hk; omega)
    (MovesI w4 w1.heap.size) NoExit
    ?calm (fun _ _ _ _ h _ _ => h.elim) ⟨b0, b1, Turned.refl _ _ _⟩
    (fun pre x a' W => MovesI w4 w1.heap.size pre W ∧
      ∃ bx, w4.heap.size ≤ bx ∧ W.heap[bx]? = some (.cells #[.int .i64 x.1.f0, .int .i64 x.1.f1, .int .u32 x.1.f2.f0, .int .u32 x.1.f2.f1] 36 (0, 0)) ∧
      a' = { tmps := ([.slice A0 l0.length c0, .int .u32 free, undef, undef, .int .i64 0, .int .i64 0, .int .i64 0, .int .i64 0, .pointer (some ⟨w1.heap.size, 0, none⟩), .pointer (some ⟨w1.heap.size + 1, 0, none⟩), .pointer (some ⟨bx, 0, none⟩), .int .i64 x.2, .slice A0 l0.length c0, .int .u32 free, .int .i64 0, .int .i64 0, .bool false, undef, .slice A0 l0.length c0, .int .u32 free,
        .func (.func 88) #[] #[.pointer (some ⟨w1.heap.size + 1 + 1, 0, none⟩), .pointer (some ⟨w1.heap.size + 1 + 1 + 1, 0, none⟩)], .agg #[.int .i64 x.1.f0, .int .i64 x.1.f1, .int .u32 x.1.f2.f0, .int .u32 x.1.f2.f1], .int .i64 x.2] ++ [undef, undef, undef, undef, undef, undef, undef, undef, undef, undef, undef, undef, undef, undef, undef, undef, undef, undef, undef]).toArray, defers := [] })
    ?calma ?assign ?body ?done (fun _ _ _ _ h _ => h.elim)
  case calm =>
    rintro pre X Y r ⟨h1, h1', h2⟩ hg hr
    have hXs := h2.size
    refine ⟨?_, ?_, h2.grown hg hXs (fun k e => by injection e with e; subst e; rcases hr with rfl | ⟨h, _⟩; exact .inl (.inr (.inr rfl)); exact .inr h)⟩
    · rcases hr with rfl | hr
      · exact h1.kept hg (by simp <;> omega)
      · exact boxed_far h1 hg hr
    · rcases hr with rfl | hr
      · exact h1'.kept hg (by simp <;> omega)
      · exact boxed_far h1' hg hr
  case calma =>
    rintro ⟨pre, x, a'⟩ X Y r ⟨⟨h1, h1', h2⟩, bx, h3, h4, h5⟩ hg ⟨hr, o, ho, hcl⟩
    have hXs := h2.size
    refine ⟨⟨boxed_far h1 hg ⟨hr, o, ho, hcl⟩, boxed_far h1' hg ⟨hr, o, ho, hcl⟩, h2.grown hg hXs (fun k e => by injection e with e; subst e; exact .inr hr)⟩, bx, h3, blk_grown h4 hg (fun e => ?_), h5⟩
    injection e with e
    subst e
    rw [h4] at ho; cases ho; cases hcl
  case assign =>
    rintro lp pre ⟨x, c⟩ rest W K hx hszW ⟨h1, h1', h2⟩ hK
    have hu36 := Tryd.underlying36
    have HK := Aside0.mk hK
    clear hK hit hB b0 b1 b2 b3 htl hsz hx
    dsimp only [encTurn]
    gi_wp2
    refine HK.out _ _ ((KeepsOthers.alloc _ _).from _) (fun k hk => Below.heap_alloc _ _ _ (by unfold keepP at hk; omega)) ⟨⟨h1.alloc _, h1'.alloc _, h2.alloc hszW _⟩, W.heap.size, hszW, heap_alloc_new W _, rfl⟩
  case body =>
    rintro lp pre ⟨x, c⟩ rest a' W hx hszW ⟨⟨h1, h1', h2⟩, bx, h3, h4, rfl⟩
    simp only [List.cons_append, List.nil_append] at h4 ⊢
    have c0' := h1.cell
    have c0f := h1.frozen
    have c1' := h1'.cell
    have c1f := h1'.frozen
    have k1 := blk_cell h4 1
    simp only [List.getElem?_toArray, List.getElem?_cons_zero, List.getElem?_cons_succ] at k1
    have hms := moves_snoc pre (x, c)
    have hcs := count_snoc pre (x, c)
    have hmr := moves_range pre
    have hcr := count_range pre
    have hpl : pre.length ≤ 1000000 := by
      have h2 := congrArg List.length hx
      rw [htl] at h2; simp at h2; omega
    simp only at hms hcs
    generalize hM : movesOf pre = mv at *
    generalize hCt : waitCount pre = ct at *
    obtain ⟨hm0, hm1⟩ := hmr
    obtain ⟨hc0, hc1⟩ := hcr
    have hm2 : mv ≤ 1000000 := by omega
    have hc2 : ct ≤ 1000000 := by omega
    have HMS := Aside0.mk hms
    have HCS := Aside0.mk hcs
    have HX2 := Aside0.mk h2
    clear hx hit hB b0 b1 b2 b3 h2 htl hsz hM hCt hms hcs
    by_cases hc : c = -1
    · subst hc
      have hms := HMS.out
      have hcs := HCS.out
      rw [if_neg (by simp)] at hms
      rw [if_pos rfl] at hcs
      have HMS' := Aside0.mk hms
      have HCS' := Aside0.mk hcs
      clear hms hcs
      gi_wp2
      refine ⟨(KeepsOthers.setCell _ _ _).from _, (((Turned.refl w4.heap.size (fun k => k = w1.heap.size + 1) W).setCell (p := ⟨w1.heap.size + 1, 0, none⟩) (.inl rfl) _)).same (fun k hk => by unfold keepP at hk; exact ⟨by omega, by omega⟩), ?_, ?_, HX2.out.setCell (p := ⟨w1.heap.size + 1, 0, none⟩) (.inl (.inr (.inl rfl))) _⟩
      · rw [HMS'.out, Int.add_zero]; exact h1.other (by omega) _
      · rw [HCS'.out]; exact h1'.set _
    · have hcb : (c == -1) = false := beq_eq_false_iff_ne.2 hc
      have hcs := HCS.out
      rw [if_neg hc, Int.add_zero] at hcs
      have HCS' := Aside0.mk hcs
      clear hcs
      by_cases h7 : -1 < x.f1
      · by_cases h8 : x.f1 = c
        · have h8b : (x.f1 != c) = false := by rw [bne_eq_false_iff_eq]; exact h8
          have hms := HMS.out
          rw [if_neg (fun h => h.2.2 h8), Int.add_zero] at hms
          have HMS' := Aside0.mk hms
          clear hms h8 hc
          gi_wp2
          refine ⟨KeepsFrom.refl _ _, Same.refl _ _, ?_, ?_, HX2.out⟩
          · rw [HMS'.out]; exact h1
          · rw [HCS'.out]; exact h1'
        · have h8b : (x.f1 != c) = true := by rw [bne_iff_ne]; exact h8
          have hms := HMS.out
          rw [if_pos ⟨hc, h7, h8⟩] at hms
          have HMS' := Aside0.mk hms
          clear hms h8 hc
          gi_wp2
          refine ⟨(KeepsOthers.setCell _ _ _).from _, (((Turned.refl w4.heap.size (fun k => k = w1.heap.size) W).setCell (p := ⟨w1.heap.size, 0, none⟩) (.inl rfl) _)).same (fun k hk => by unfold keepP at hk; exact ⟨by omega, by omega⟩), ?_, ?_, HX2.out.setCell (p := ⟨w1.heap.size, 0, none⟩) (.inl (.inl rfl)) _⟩
          · rw [HMS'.out]; exact h1.set _
          · rw [HCS'.out]; exact h1'.other (by omega) _
      · have h7' : x.f1 ≤ -1 := by omega
        have hms := HMS.out
        rw [if_neg (fun h => h7 h.2.1), Int.add_zero] at hms
        have HMS' := Aside0.mk hms
        clear hms h7 hc
        gi_wp2
        refine ⟨KeepsFrom.refl _ _, Same.refl _ _, ?_, ?_, HX2.out⟩
        · rw [HMS'.out]; exact h1
        · rw [HCS'.out]; exact h1'
  case done =>
    rintro D W hD ⟨h1, h1', h2⟩ hK
    have c0' := h1.cell
    have c1' := h1'.cell
    have HX2 := Aside0.mk h2
    generalize hM : movesOf (turnsOf free l0) = mv at *
    generalize hCt : waitCount (turnsOf free l0) = ct at *
    have HM := Aside0.mk hM
    have HCt := Aside0.mk hCt
    have HK := Aside0.mk hK
    clear hit hB b0 b1 b2 b3 h2 htl hsz HT1 HW4 HT4 hM hCt hK
    gi_wp2
    have hK' : W.heap[D]? = some (.deferred (some [])) := HK.out
    gi_region
    all_goals gi_wp2
    refine ⟨by simp, .inl ⟨_, _, rfl, run_takeDeferred hK', ?_⟩⟩
    refine ⟨_, results_tmp3 rfl _ _ _, by rw [HM.out, HCt.out]; rfl, ?_⟩
    have hB1 : Below w.heap.size w4 W := HX2.out.below HBA.out.size (fun k hk => by unfold ownM at hk; omega)
    exact below_far (below_drew (HBA.out.trans hB1)) (Nat.le_refl _) (B := w.heap.size) (Nat.le_refl _) (grownBy_putObj' _ D _) (by have := HBA.out.size; omega)

theorem place_Moves.calls (A0 : Option Addr) (c0 : Nat) (l0 : List (S36)) (a1 : Int) (r1 : Int) (r2 : Int) (r3 : Int) (w : World) (hr0 : Kd.C k36 w A0 l0.length l0) (hc0 : l0.length ≤ c0) (hT : TabW w) (h : place_Moves.f l0 a1 = some (r1, r2, r3)) :
    Calls Tryd.prog 36 #[.slice A0 l0.length c0, .int .u32 a1] w fun e w' => e = .returned (.tuple #[.int .i64 r1, .int .i64 r2, .int .i64 r3]) ∧ Below w.heap.size w w' := by
  unfold place_Moves.f at h
  by_cases hok : okArgs l0 a1
  case neg => rw [if_neg hok] at h; cases h
  rw [if_pos hok] at h
  replace h := Option.some.inj h
  by_cases h0 : askedOf l0 a1 = 0
  · rw [if_pos h0] at h
    injection h with e1 h
    injection h with e2 e3
    subst e1 e2 e3
    have hf := free_lt h0
    obtain ⟨free, rfl⟩ : ∃ n : Nat, a1 = n := ⟨a1.toNat, by have := hok.2.2.1; omega⟩
    exact moves_yes A0 c0 l0 free w hr0 hc0 hok h0 (by omega) hT
  · rw [if_neg h0] at h
    injection h with e1 h
    injection h with e2 e3
    subst e1 e2 e3
    exact moves_no A0 c0 l0 a1 w hr0 hc0 hok h0
#print axioms place_Moves.calls
end Go.Proofs.YtdmieaidheelbaaDoor.Q
