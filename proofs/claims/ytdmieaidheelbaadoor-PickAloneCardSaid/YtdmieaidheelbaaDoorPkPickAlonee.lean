/- Texts of the proof of PickAlone, joined. -/
import Derived.WalkSmall
import Derived.Test.YtdmieaidheelbaaDoorPkPickAloned
/- PlaceWM -/
section
/- place.Waits and place.Moves by their contracts. -/
namespace Go.Proofs.YtdmieaidheelbaaDoor.Q
open Go Go.RowKit Go.Shelf Go.Proofs.YtdmieaidheelbaaDoor.Rng Go.Proofs.YtdmieaidheelbaaDoorW.PrintWords Go.Proofs.YtdmieaidheelbaaDoorW.PrintLast Go.Proofs.YtdmieaidheelbaaDoorW.PrintMore
set_option linter.unusedVariables false
set_option linter.unusedSimpArgs false
attribute [local go_sem] Oper.semAt_some

set_option maxRecDepth 100000 in
set_option maxHeartbeats 8000000 in
theorem waits_no (A0 : Option Addr) (c0 : Nat) (l0 : List (S36)) (a1 : Int) (w : World) (hr0 : Kd.C k36 w A0 l0.length l0) (hc0 : l0.length ≤ c0) (hok : okArgs l0 a1) (hne : askedOf l0 a1 ≠ 0) :
    Calls Tryd.prog 35 #[.slice A0 l0.length c0, .int .u32 a1] w fun e w' => e = .returned (.tuple #[.slice none 0 0, .int .i64 (askedOf l0 a1)]) ∧ Below w.heap.size w w' := by
  have hv := Aside0.mk (asked_val l0 a1 hok)
  have hr1 := Aside0.mk hr0
  have hc1 := Aside0.mk hc0
  generalize askedOf l0 a1 = q at *
  have hq : (q != 0) = true := by rw [bne_iff_ne]; exact hne
  clear hne hr0 hc0 hok
  go_enter Tryd.func35, Tryd.ntmps35
  go_wp2_with (go_at_call 57; refine (place_asked.calls A0 c0 l0 a1 q _ hr1.out hc1.out hv.out).mono ?_; rintro e w1 ⟨rfl, hb1⟩; have HB1 := Aside0.mk hb1; clear hb1)
  go_ret2
  exact ⟨rfl, HB1.out⟩

def WaitsI (w4 : World) (b : Nat) (pre : List (S36 × Int)) (W : World) : Prop :=
  Held W w4.heap.size b 42 3 1 (waitsOf pre).length ((waitsOf pre).map (Value.int .i64)) ∧ Turned w4.heap.size (ownP b) w4 W

set_option maxRecDepth 100000 in
set_option maxHeartbeats 8000000 in
theorem waits_yes (A0 : Option Addr) (c0 : Nat) (l0 : List (S36)) (free : Nat) (w : World) (hr0 : Kd.C k36 w A0 l0.length l0) (hc0 : l0.length ≤ c0) (hok : okArgs l0 free) (h0 : askedOf l0 free = 0) (hf : free < 256) (hT : TabW w) :
    Calls Tryd.prog 35 #[.slice A0 l0.length c0, .int .u32 free] w fun e w' => ∃ v, e = .returned (.tuple #[v, .int .i64 0]) ∧ Kd.R (Kd.int .i64) 3 w' w.heap.size (fun _ => True) v (waitsOf (turnsOf free l0)) ∧ Below w.heap.size w w' := by
  have hv := asked_val l0 free hok
  rw [h0] at hv
  obtain ⟨hwf, hlen, -, -⟩ := hok
  have HV := Aside0.mk hv
  have HR := Aside0.mk hr0
  have HC := Aside0.mk hc0
  have HWF := Aside0.mk hwf
  have HT := Aside0.mk hT
  have HW := Aside0.mk (Wishes.of hr0)
  clear hv hr0 hc0 hwf hT h0
  refine (callsIn_wide (n := 9)).1 ?_
  refine callsIn_of_wp_marks Tryd.func35 rfl trivial ?_ rfl
  simp only [Tryd.ntmps35, List.size_toArray, List.length_cons, List.length_nil, Nat.reduceAdd, Nat.reduceSub, Array.replicate_succ, Array.replicate_zero, List.push_toArray, List.append_toArray, List.nil_append, List.cons_append]
  gi_wp2_with (first
    | (refine ⟨trivial, ?_⟩; gi_at_call 57; refine (callsIn_wide.2 (place_asked.calls A0 c0 l0 free 0 _ HR.out HC.out HV.out)).mono ?_; rintro e w1 ⟨rfl, hb1⟩; have HB1 := Aside0.mk hb1; clear hb1)
    | (refine ⟨trivial, ?_⟩; gi_at_call 58; refine (callsIn_wide.2 (turns_calls _ _ _ _ _)).mono ?_; rintro e w2 ⟨rfl, rfl⟩))
  have hsz1 := HB1.out.size
  have hpos := HT.out.pos
  have HT1 := HT.out.step HB1.out
  have hB : Below w1.heap.size w1 (((w1.alloc (.cells #[.slice none 0 0] 42)).alloc (.cells #[.slice A0 l0.length c0] 22)).alloc (.cells #[.int .u32 free] 24)) :=
    ((((Below.refl _ w1).alloc (by simp <;> omega) _).alloc (by simp <;> omega) _).alloc (by simp <;> omega) _)
  have b0 := Boxed.new w1 42 (.slice none 0 0)
  have b1 := Boxed.new (w1.alloc (.cells #[.slice none 0 0] 42)) 22 (.slice A0 l0.length c0)
  have b2 := Boxed.new ((w1.alloc (.cells #[.slice none 0 0] 42)).alloc (.cells #[.slice A0 l0.length c0] 22)) 24 (.int .u32 free)
  simp only [World.size_alloc] at b1 b2
  replace b0 := (b0.alloc (.cells #[.slice A0 l0.length c0] 22)).alloc (.cells #[.int .u32 free] 24)
  replace b1 := b1.alloc (.cells #[.int .u32 free] 24)
  have hsz : (((w1.alloc (.cells #[.slice none 0 0] 42)).alloc (.cells #[.slice A0 l0.length c0] 22)).alloc (.cells #[.int .u32 free] 24)).heap.size = w1.heap.size + 3 := by simp
  have hszl : w1.heap.size + 3 ≤ (((w1.alloc (.cells #[.slice none 0 0] 42)).alloc (.cells #[.slice A0 l0.length c0] 22)).alloc (.cells #[.int .u32 free] 24)).heap.size := by simp
  have HT4 := HT1.step hB
  have HW4 := HW.out.same (W' := (((w1.alloc (.cells #[.slice none 0 0] 42)).alloc (.cells #[.slice A0 l0.length c0] 22)).alloc (.cells #[.int .u32 free] 24))) (fun k hk => (hB.block k (by omega)).trans (HB1.out.block k hk))
  obtain ⟨w4, hw4⟩ : ∃ w4, (((w1.alloc (.cells #[.slice none 0 0] 42)).alloc (.cells #[.slice A0 l0.length c0] 22)).alloc (.cells #[.int .u32 free] 24)) = w4 := ⟨_, rfl⟩
  rw [hw4] at b0 b1 b2 hB hsz hszl HT4 HW4 ⊢
  clear hw4
  have hit := turns1_iter (w1.heap.size + 1) (w1.heap.size + 1 + 1) w.heap.size A0 c0 l0 free hf hlen HWF.out w4 b1 b2 HT4 HW4 (by omega) (by omega) hpos
  have htl := turns_len free l0
  have HBA := Aside0.mk (below_step HB1.out hB)
  obtain ⟨i0, hi, hz0, hz1, hz2⟩ := info_parts infoInt
  refine wpIn_range (gf := 88) (lb := #[.pointer (some ⟨w1.heap.size + 1, 0, none⟩), .pointer (some ⟨w1.heap.size + 1 + 1, 0, none⟩)]) rfl (enters_of Tryd.func88 (by kernel_rfl) rfl) (keep := keepP (w1.heap.size + 1) w.heap.size) hit (fun _ => rfl) (by omega) (fun k hk => by unfold keepP at hk; omega)
    (WaitsI w4 w1.heap.size) NoExit
    ?calm (fun _ _ _ _ h _ _ => h.elim) ⟨⟨_, b0, World.ownsRow_nil _ _ _ _⟩, Turned.refl _ _ _⟩
    (fun pre x a' W => WaitsI w4 w1.heap.size pre W ∧
      ∃ bx, w4.heap.size ≤ bx ∧ W.heap[bx]? = some (.cells #[.int .i64 x.1.f0, .int .i64 x.1.f1, .int .u32 x.1.f2.f0, .int .u32 x.1.f2.f1] 36 (0, 0)) ∧
      a' = { tmps := ([.slice A0 l0.length c0, .int .u32 free, undef, undef, .slice none 0 0, .int .i64 0, .int .i64 0, .pointer (some ⟨w1.heap.size, 0, none⟩), .pointer (some ⟨bx, 0, none⟩), .int .i64 x.2, .slice A0 l0.length c0, .int .u32 free, .int .i64 0, .int .i64 0, .bool false, undef, .slice A0 l0.length c0, .int .u32 free,
        .func (.func 88) #[] #[.pointer (some ⟨w1.heap.size + 1, 0, none⟩), .pointer (some ⟨w1.heap.size + 1 + 1, 0, none⟩)], .agg #[.int .i64 x.1.f0, .int .i64 x.1.f1, .int .u32 x.1.f2.f0, .int .u32 x.1.f2.f1], .int .i64 x.2] ++ [undef, undef, undef, undef, undef, undef, undef, undef]).toArray, defers := [] })
    ?calma ?assign ?body ?done (fun _ _ _ _ h _ => h.elim)
  case calm =>
    rintro pre X Y r ⟨h1, h2⟩ hg hr
    have hXs := h2.size
    refine ⟨h1.far hg ?_, h2.grown hg hXs (fun k e => by injection e with e; subst e; rcases hr with rfl | ⟨h, _⟩; exact .inl (.inr rfl); exact .inr h)⟩
    rcases hr with rfl | ⟨h, ho⟩
    · exact .inl ⟨by omega, by omega⟩
    · exact .inr ho
  case calma =>
    rintro ⟨pre, x, a'⟩ X Y r ⟨⟨h1, h2⟩, bx, h3, h4, h5⟩ hg ⟨hr, o, ho, hcl⟩
    have hXs := h2.size
    refine ⟨⟨h1.far hg (.inr ⟨o, ho, hcl⟩), h2.grown hg hXs (fun k e => by injection e with e; subst e; exact .inr hr)⟩, bx, h3, blk_grown h4 hg (fun e => ?_), h5⟩
    injection e with e
    subst e
    rw [h4] at ho; cases ho; cases hcl
  case assign =>
    rintro lp pre ⟨x, c⟩ rest W K hx hszW ⟨h1, h2⟩ hK
    have hu36 := Tryd.underlying36
    have HK := Aside0.mk hK
    clear hK hit hB b0 b1 b2 htl hi hz0 hz1 hz2 hsz hx
    dsimp only [encTurn]
    gi_wp2
    refine HK.out _ _ ((KeepsOthers.alloc _ _).from _) (fun k hk => Below.heap_alloc _ _ _ (by unfold keepP at hk; omega)) ⟨⟨h1.alloc _, h2.alloc hszW _⟩, W.heap.size, hszW, heap_alloc_new W _, rfl⟩
  case body =>
    rintro lp pre ⟨x, c⟩ rest a' W hx hszW ⟨⟨⟨v, hv, hrow⟩, h2⟩, bx, h3, h4, rfl⟩
    simp only [List.cons_append, List.nil_append] at h4 ⊢
    have c0' := hv.cell
    have k0 := blk_cell h4 0
    simp only [List.getElem?_toArray, List.getElem?_cons_zero] at k0
    have hpl : (waitsOf pre).length < 1000000 := by
      have h1 := waits_len pre
      have h2 := congrArg List.length hx
      rw [htl] at h2; simp at h2; omega
    have HX := Aside0.mk hx
    have HX2 := Aside0.mk h2
    clear hx hit hB b0 b1 b2 h2 htl hsz
    by_cases hc : c = -1
    · subst hc
      gi_wp2_with (gi_at_builtin; refine wpListIn_append_own _ rfl _ _ 42 rfl w4.heap.size 3 i0 (.int .i64 0) 1 8 Tryd.underlying42 hi hz0 hz1 hz2 rfl (by decide) _ _ _ rfl (hrow.alloc _) ⟨W.heap.size, 0, none⟩ 1 1 [.int .i64 x.f0] rfl rfl (cell_one_new _ _ _) (by simp [Value.oneCell']) (by unfold maxLen; omega) (by omega) (by simp; omega) ?_; intro v' w2 hown' hgrow _; obtain ⟨g', cap', rfl⟩ := ownsRow_succ hown'; obtain ⟨hv1, hv2, hk2, hb2⟩ := appended2 (own := fun k => k = w1.heap.size) hv (by decide) hrow hszW rfl hown' hgrow; have hc1 := hv1.cell; have hf1 := hv1.frozen)
      refine ⟨hk2.from _, hb2.same (fun k hk => by unfold keepP at hk; exact ⟨by omega, by omega⟩), ?_, HX2.out.trans (hb2.weaken (fun k hk => .inl hk))⟩
      rw [waits_snoc, show waitOf (x, -1) = [x.f0] from if_pos rfl]
      simpa using hv2
    · have hcb : (c == -1) = false := beq_eq_false_iff_ne.2 hc
      have HC' := Aside0.mk hc
      clear hc
      gi_wp2
      refine ⟨KeepsFrom.refl _ _, Same.refl _ _, ⟨v, hv, ?_⟩, HX2.out⟩
      rw [waits_snoc, show waitOf (x, c) = [] from if_neg HC'.out, List.append_nil]
      exact hrow
  case done =>
    rintro D W hD ⟨⟨v, hv, hrow⟩, h2⟩ hK
    have c0' := hv.cell
    have HX2 := Aside0.mk h2
    have HRow := Aside0.mk hrow
    clear hit hB b0 b1 b2 h2 htl hi hz0 hz1 hz2 hsz hrow HT1 HW4 HT4
    gi_wp2
    refine ⟨by simp, .inl ⟨_, _, rfl, run_takeDeferred hK, ?_⟩⟩
    refine ⟨_, results_tmp2 rfl _ _ _, v, rfl, Kd.R_of_own (ownsRow_lower (ownsRow_putObj HRow.out _ hK rfl) HBA.out.size) (fun _ _ => trivial), ?_⟩
    have hB1 : Below w.heap.size w4 W := HX2.out.below HBA.out.size (fun k hk => by unfold ownP at hk; omega)
    exact below_far (HBA.out.trans hB1) (Nat.le_refl _) (B := w.heap.size) (Nat.le_refl _) (grownBy_putObj' _ D _) (by have := HBA.out.size; omega)

theorem free_lt {l : List S36} {a : Int} (h : askedOf l a = 0) : a < 256 := by
  unfold askedOf at h
  split at h
  · next hc => exact absurd h hc
  · split at h
    · assumption
    · cases h

theorem place_Waits.calls (A0 : Option Addr) (c0 : Nat) (l0 : List (S36)) (a1 : Int) (r1 : List Int) (r2 : Int) (w : World) (hr0 : Kd.C k36 w A0 l0.length l0) (hc0 : l0.length ≤ c0) (hT : TabW w) (h : place_Waits.f l0 a1 = some (r1, r2)) :
    Calls Tryd.prog 35 #[.slice A0 l0.length c0, .int .u32 a1] w fun e w' => ∃ v0_ : Value, e = .returned (.tuple #[v0_, .int .i64 r2]) ∧ Kd.R (Kd.int .i64) 3 w' w.heap.size (fun _ => True) v0_ r1 ∧ Below w.heap.size w w' := by
  unfold place_Waits.f at h
  by_cases hok : okArgs l0 a1
  case neg => rw [if_neg hok] at h; cases h
  rw [if_pos hok] at h
  replace h := Option.some.inj h
  by_cases h0 : askedOf l0 a1 = 0
  · rw [if_pos h0] at h
    injection h with e1 e2
    subst e1 e2
    have hf := free_lt h0
    obtain ⟨free, rfl⟩ : ∃ n : Nat, a1 = n := ⟨a1.toNat, by have := hok.2.2.1; omega⟩
    exact waits_yes A0 c0 l0 free w hr0 hc0 hok h0 (by omega) hT
  · rw [if_neg h0] at h
    injection h with e1 e2
    subst e1 e2
    exact (waits_no A0 c0 l0 a1 w hr0 hc0 hok h0).mono fun e w' h => ⟨_, h.1, Kd.R_nil _ _ _ _ _, h.2⟩
set_option maxRecDepth 100000 in
set_option maxHeartbeats 8000000 in
theorem moves_no (A0 : Option Addr) (c0 : Nat) (l0 : List (S36)) (a1 : Int) (w : World) (hr0 : Kd.C k36 w A0 l0.length l0) (hc0 : l0.length ≤ c0) (hok : okArgs l0 a1) (hne : askedOf l0 a1 ≠ 0) :
    Calls Tryd.prog 36 #[.slice A0 l0.length c0, .int .u32 a1] w fun e w' => e = .returned (.tuple #[.int .i64 0, .int .i64 0, .int .i64 (askedOf l0 a1)]) ∧ Below w.heap.size w w' := by
  have hv := Aside0.mk (asked_val l0 a1 hok)
  have hr1 := Aside0.mk hr0
  have hc1 := Aside0.mk hc0
  generalize askedOf l0 a1 = q at *
  have hq : (q != 0) = true := by rw [bne_iff_ne]; exact hne
  clear hne hr0 hc0 hok
  go_enter Tryd.func36, Tryd.ntmps36
  go_wp2_with (go_at_call 57; refine (place_asked.calls A0 c0 l0 a1 q _ hr1.out hc1.out hv.out).mono ?_; rintro e w1 ⟨rfl, hb1⟩; have HB1 := Aside0.mk hb1; clear hb1)
  go_ret3
  exact ⟨rfl, HB1.out⟩

def ownM (b k : Nat) : Prop := k = b ∨ k = b + 1 ∨ k = b + 1 + 1 + 1
def MovesI (w4 : World) (b : Nat) (pre : List (S36 × Int)) (W : World) : Prop :=
  Boxed W b 3 (.int .i64 (movesOf pre)) ∧ Boxed W (b + 1) 3 (.int .i64 (waitCount pre)) ∧ Turned w4.heap.size (ownM b) w4 W
theorem moves_snoc (pre : List (S36 × Int)) (p : S36 × Int) : movesOf (pre ++ [p]) = movesOf pre + if p.2 ≠ -1 ∧ -1 < p.1.f1 ∧ p.1.f1 ≠ p.2 then 1 else 0 := by
  unfold movesOf
  rw [List.filter_append, List.length_append]
  by_cases h : p.2 ≠ -1 ∧ -1 < p.1.f1 ∧ p.1.f1 ≠ p.2
  · rw [if_pos h]; simp [List.filter_cons, h.1, h.2.1, h.2.2]
  · rw [if_neg h]
    have : (decide (p.2 ≠ -1) && decide (-1 < p.1.f1) && decide (p.1.f1 ≠ p.2)) = false := by
      rw [← Bool.not_eq_true]; simpa [and_assoc] using h
    rw [List.filter_cons, this]; simp
theorem count_snoc (pre : List (S36 × Int)) (p : S36 × Int) : waitCount (pre ++ [p]) = waitCount pre + if p.2 = -1 then 1 else 0 := by
  unfold waitCount
  rw [List.filter_append, List.length_append]
  by_cases h : p.2 = -1
  · rw [if_pos h]; simp [List.filter_cons, h]
  · rw [if_neg h]; simp [List.filter_cons, h]
theorem moves_range (pre : List (S36 × Int)) : 0 ≤ movesOf pre ∧ movesOf pre ≤ pre.length := by
  unfold movesOf; have := List.length_filter_le (fun p : S36 × Int => decide (p.2 ≠ -1) && decide (-1 < p.1.f1) && decide (p.1.f1 ≠ p.2)) pre; omega
theorem count_range (pre : List (S36 × Int)) : 0 ≤ waitCount pre ∧ waitCount pre ≤ pre.length := by
  unfold waitCount; have := List.length_filter_le (fun p : S36 × Int => decide (p.2 = -1)) pre; omega

set_option maxRecDepth 100000 in
set_option maxHeartbeats 8000000 in
theorem moves_yes (A0 : Option Addr) (c0 : Nat) (l0 : List (S36)) (free : Nat) (w : World) (hr0 : Kd.C k36 w A0 l0.length l0) (hc0 : l0.length ≤ c0) (hok : okArgs l0 free) (h0 : askedOf l0 free = 0) (hf : free < 256) (hT : TabW w) :
    Calls Tryd.prog 36 #[.slice A0 l0.length c0, .int .u32 free] w fun e w' => e = .returned (.tuple #[.int .i64 (movesOf (turnsOf free l0)), .int .i64 (waitCount (turnsOf free l0)), .int .i64 0]) ∧ Below w.heap.size w w' := by
  have hv := asked_val l0 free hok
  rw [h0] at hv
  obtain ⟨hwf, hlen, -, -⟩ := hok
  have HV := Aside0.mk hv
  have HR := Aside0.mk hr0
  have HC := Aside0.mk hc0
  have HWF := Aside0.mk hwf
  have HT := Aside0.mk hT
  have HW := Aside0.mk (Wishes.of hr0)
  clear hv hr0 hc0 hwf hT h0
  refine (callsIn_wide (n := 9)).1 ?_
  refine callsIn_of_wp_marks Tryd.func36 rfl trivial ?_ rfl
  simp only [Tryd.ntmps36, List.size_toArray, List.length_cons, List.length_nil, Nat.reduceAdd, Nat.reduceSub, Array.replicate_succ, Array.replicate_zero, List.push_toArray, List.append_toArray, List.nil_append, List.cons_append]
  gi_wp2_with (first
    | (refine ⟨trivial, ?_⟩; gi_at_call 57; refine (callsIn_wide.2 (place_asked.calls A0 c0 l0 free 0 _ HR.out HC.out HV.out)).mono ?_; rintro e w1 ⟨rfl, hb1⟩; have HB1 := Aside0.mk hb1; clear hb1)
    | (refine ⟨trivial, ?_⟩; gi_at_call 58; refine (callsIn_wide.2 (turns_calls _ _ _ _ _)).mono ?_; rintro e w2 ⟨rfl, rfl⟩))
  have hsz1 := HB1.out.size
  have hpos := HT.out.pos
  have HT1 := HT.out.step HB1.out
  have hB : Below w1.heap.size w1 ((((w1.alloc (.cells #[.int .i64 0] 3)).alloc (.cells #[.int .i64 0] 3)).alloc (.cells #[.slice A0 l0.length c0] 22)).alloc (.cells #[.int .u32 free] 24)) :=
    (((((Below.refl _ w1).alloc (by simp <;> omega) _).alloc (by simp <;> omega) _).alloc (by simp <;> omega) _).alloc (by simp <;> omega) _)
  have b0 := Boxed.new w1 3 (.int .i64 0)
  have b1 := Boxed.new (w1.alloc (.cells #[.int .i64 0] 3)) 3 (.int .i64 0)
  have b2 := Boxed.new ((w1.alloc (.cells #[.int .i64 0] 3)).alloc (.cells #[.int .i64 0] 3)) 22 (.slice A0 l0.length c0)
  have b3 := Boxed.new (((w1.alloc (.cells #[.int .i64 0] 3)).alloc (.cells #[.int .i64 0] 3)).alloc (.cells #[.slice A0 l0.length c0] 22)) 24 (.int .u32 free)
  simp only [World.size_alloc] at b1 b2 b3
  replace b0 := ((b0.alloc (.cells #[.int .i64 0] 3)).alloc (.cells #[.slice A0 l0.length c0] 22)).alloc (.cells #[.int .u32 free] 24)
  replace b1 := (b1.alloc (.cells #[.slice A0 l0.length c0] 22)).alloc (.cells #[.int .u32 free] 24)
  replace b2 := b2.alloc (.cells #[.int .u32 free] 24)
  have hsz : ((((w1.alloc (.cells #[.int .i64 0] 3)).alloc (.cells #[.int .i64 0] 3)).alloc (.cells #[.slice A0 l0.length c0] 22)).alloc (.cells #[.int .u32 free] 24)).heap.size = w1.heap.size + 4 := by simp
  have hszl : w1.heap.size + 4 ≤ ((((w1.alloc (.cells #[.int .i64 0] 3)).alloc (.cells #[.int .i64 0] 3)).alloc (.cells #[.slice A0 l0.length c0] 22)).alloc (.cells #[.int .u32 free] 24)).heap.size := by simp
  have HT4 := HT1.step hB
  have HW4 := HW.out.same (W' := ((((w1.alloc (.cells #[.int .i64 0] 3)).alloc (.cells #[.int .i64 0] 3)).alloc (.cells #[.slice A0 l0.length c0] 22)).alloc (.cells #[.int .u32 free] 24))) (fun k hk => (hB.block k (by omega)).trans (HB1.out.block k hk))
  obtain ⟨w4, hw4⟩ : ∃ w4, ((((w1.alloc (.cells #[.int .i64 0] 3)).alloc (.cells #[.int .i64 0] 3)).alloc (.cells #[.slice A0 l0.length c0] 22)).alloc (.cells #[.int .u32 free] 24)) = w4 := ⟨_, rfl⟩
  rw [hw4] at b0 b1 b2 b3 hB hsz hszl HT4 HW4 ⊢
  clear hw4
  have hit := turns1_iter (w1.heap.size + 1 + 1) (w1.heap.size + 1 + 1 + 1) w.heap.size A0 c0 l0 free hf hlen HWF.out w4 b2 b3 HT4 HW4 (by omega) (by omega) hpos
  have htl := turns_len free l0
  have HBA := Aside0.mk (below_step HB1.out hB)
  refine wpIn_range (gf := 88) (lb := #[.pointer (some ⟨w1.heap.size + 1 + 1, 0, none⟩), .pointer (some ⟨w1.heap.size + 1 + 1 + 1, 0, none⟩)]) rfl (enters_of Tryd.func88 (by kernel_rfl) rfl) (keep := keepP (w1.heap.size + 1 + 1) w.heap.size) hit (fun _ => rfl) (by omega) (fun k hk => by unfold keepP at hk; omega)
    (MovesI w4 w1.heap.size) NoExit
    ?calm (fun _ _ _ _ h _ _ => h.elim) ⟨b0, b1, Turned.refl _ _ _⟩
    (fun pre x a' W => MovesI w4 w1.heap.size pre W ∧
      ∃ bx, w4.heap.size ≤ bx ∧ W.heap[bx]? = some (.cells #[.int .i64 x.1.f0, .int .i64 x.1.f1, .int .u32 x.1.f2.f0, .int .u32 x.1.f2.f1] 36 (0, 0)) ∧
      a' = { tmps := ([.slice A0 l0.length c0, .int .u32 free, undef, undef, .int .i64 0, .int .i64 0, .int .i64 0, .int .i64 0, .pointer (some ⟨w1.heap.size, 0, none⟩), .pointer (some ⟨w1.heap.size + 1, 0, none⟩), .pointer (some ⟨bx, 0, none⟩), .int .i64 x.2, .slice A0 l0.length c0, .int .u32 free, .int .i64 0, .int .i64 0, .bool false, undef, .slice A0 l0.length c0, .int .u32 free,
        .func (.func 88) #[] #[.pointer (some ⟨w1.heap.size + 1 + 1, 0, none⟩), .pointer (some ⟨w1.heap.size + 1 + 1 + 1, 0, none⟩)], .agg #[.int .i64 x.1.f0, .int .i64 x.1.f1, .int .u32 x.1.f2.f0, .int .u32 x.1.f2.f1], .int .i64 x.2] ++ [undef, undef, undef, undef, undef, undef, undef, undef, undef, undef, undef, undef, undef, undef, undef, undef, undef, undef, undef]).toArray, defers := [] })
    ?calma ?assign ?body ?done (fun _ _ _ _ h _ => h.elim)
  case calm =>
    rintro pre X Y r ⟨h1, h1', h2⟩ hg hr
    have hXs := h2.size
    refine ⟨?_, ?_, h2.grown hg hXs (fun k e => by injection e with e; subst e; rcases hr with rfl | ⟨h, _⟩; exact .inl (.inr (.inr rfl)); exact .inr h)⟩
    · rcases hr with rfl | hr
      · exact h1.kept hg (by simp <;> omega)
      · exact boxed_far h1 hg hr
    · rcases hr with rfl | hr
      · exact h1'.kept hg (by simp <;> omega)
      · exact boxed_far h1' hg hr
  case calma =>
    rintro ⟨pre, x, a'⟩ X Y r ⟨⟨h1, h1', h2⟩, bx, h3, h4, h5⟩ hg ⟨hr, o, ho, hcl⟩
    have hXs := h2.size
    refine ⟨⟨boxed_far h1 hg ⟨hr, o, ho, hcl⟩, boxed_far h1' hg ⟨hr, o, ho, hcl⟩, h2.grown hg hXs (fun k e => by injection e with e; subst e; exact .inr hr)⟩, bx, h3, blk_grown h4 hg (fun e => ?_), h5⟩
    injection e with e
    subst e
    rw [h4] at ho; cases ho; cases hcl
  case assign =>
    rintro lp pre ⟨x, c⟩ rest W K hx hszW ⟨h1, h1', h2⟩ hK
    have hu36 := Tryd.underlying36
    have HK := Aside0.mk hK
    clear hK hit hB b0 b1 b2 b3 htl hsz hx
    dsimp only [encTurn]
    gi_wp2
    refine HK.out _ _ ((KeepsOthers.alloc _ _).from _) (fun k hk => Below.heap_alloc _ _ _ (by unfold keepP at hk; omega)) ⟨⟨h1.alloc _, h1'.alloc _, h2.alloc hszW _⟩, W.heap.size, hszW, heap_alloc_new W _, rfl⟩
  case body =>
    rintro lp pre ⟨x, c⟩ rest a' W hx hszW ⟨⟨h1, h1', h2⟩, bx, h3, h4, rfl⟩
    simp only [List.cons_append, List.nil_append] at h4 ⊢
    have c0' := h1.cell
    have c0f := h1.frozen
    have c1' := h1'.cell
    have c1f := h1'.frozen
    have k1 := blk_cell h4 1
    simp only [List.getElem?_toArray, List.getElem?_cons_zero, List.getElem?_cons_succ] at k1
    have hms := moves_snoc pre (x, c)
    have hcs := count_snoc pre (x, c)
    have hmr := moves_range pre
    have hcr := count_range pre
    have hpl : pre.length ≤ 1000000 := by
      have h2 := congrArg List.length hx
      rw [htl] at h2; simp at h2; omega
    simp only at hms hcs
    generalize hM : movesOf pre = mv at *
    generalize hCt : waitCount pre = ct at *
    obtain ⟨hm0, hm1⟩ := hmr
    obtain ⟨hc0, hc1⟩ := hcr
    have hm2 : mv ≤ 1000000 := by omega
    have hc2 : ct ≤ 1000000 := by omega
    have HMS := Aside0.mk hms
    have HCS := Aside0.mk hcs
    have HX2 := Aside0.mk h2
    clear hx hit hB b0 b1 b2 b3 h2 htl hsz hM hCt hms hcs
    by_cases hc : c = -1
    · subst hc
      have hms := HMS.out
      have hcs := HCS.out
      rw [if_neg (by simp)] at hms
      rw [if_pos rfl] at hcs
      have HMS' := Aside0.mk hms
      have HCS' := Aside0.mk hcs
      clear hms hcs
      gi_wp2
      refine ⟨(KeepsOthers.setCell _ _ _).from _, (((Turned.refl w4.heap.size (fun k => k = w1.heap.size + 1) W).setCell (p := ⟨w1.heap.size + 1, 0, none⟩) (.inl rfl) _)).same (fun k hk => by unfold keepP at hk; exact ⟨by omega, by omega⟩), ?_, ?_, HX2.out.setCell (p := ⟨w1.heap.size + 1, 0, none⟩) (.inl (.inr (.inl rfl))) _⟩
      · rw [HMS'.out, Int.add_zero]; exact h1.other (by omega) _
      · rw [HCS'.out]; exact h1'.set _
    · have hcb : (c == -1) = false := beq_eq_false_iff_ne.2 hc
      have hcs := HCS.out
      rw [if_neg hc, Int.add_zero] at hcs
      have HCS' := Aside0.mk hcs
      clear hcs
      by_cases h7 : -1 < x.f1
      · by_cases h8 : x.f1 = c
        · have h8b : (x.f1 != c) = false := by rw [bne_eq_false_iff_eq]; exact h8
          have hms := HMS.out
          rw [if_neg (fun h => h.2.2 h8), Int.add_zero] at hms
          have HMS' := Aside0.mk hms
          clear hms h8 hc
          gi_wp2
          refine ⟨KeepsFrom.refl _ _, Same.refl _ _, ?_, ?_, HX2.out⟩
          · rw [HMS'.out]; exact h1
          · rw [HCS'.out]; exact h1'
        · have h8b : (x.f1 != c) = true := by rw [bne_iff_ne]; exact h8
          have hms := HMS.out
          rw [if_pos ⟨hc, h7, h8⟩] at hms
          have HMS' := Aside0.mk hms
          clear hms h8 hc
          gi_wp2
          refine ⟨(KeepsOthers.setCell _ _ _).from _, (((Turned.refl w4.heap.size (fun k => k = w1.heap.size) W).setCell (p := ⟨w1.heap.size, 0, none⟩) (.inl rfl) _)).same (fun k hk => by unfold keepP at hk; exact ⟨by omega, by omega⟩), ?_, ?_, HX2.out.setCell (p := ⟨w1.heap.size, 0, none⟩) (.inl (.inl rfl)) _⟩
          · rw [HMS'.out]; exact h1.set _
          · rw [HCS'.out]; exact h1'.other (by omega) _
      · have h7' : x.f1 ≤ -1 := by omega
        have hms := HMS.out
        rw [if_neg (fun h => h7 h.2.1), Int.add_zero] at hms
        have HMS' := Aside0.mk hms
        clear hms h7 hc
        gi_wp2
        refine ⟨KeepsFrom.refl _ _, Same.refl _ _, ?_, ?_, HX2.out⟩
        · rw [HMS'.out]; exact h1
        · rw [HCS'.out]; exact h1'
  case done =>
    rintro D W hD ⟨h1, h1', h2⟩ hK
    have c0' := h1.cell
    have c1' := h1'.cell
    have HX2 := Aside0.mk h2
    generalize hM : movesOf (turnsOf free l0) = mv at *
    generalize hCt : waitCount (turnsOf free l0) = ct at *
    have HM := Aside0.mk hM
    have HCt := Aside0.mk hCt
    have HK := Aside0.mk hK
    clear hit hB b0 b1 b2 b3 h2 htl hsz HT1 HW4 HT4 hM hCt hK
    gi_wp2
    have hK' : W.heap[D]? = some (.deferred (some [])) := HK.out
    gi_region
    all_goals gi_wp2
    refine ⟨by simp, .inl ⟨_, _, rfl, run_takeDeferred hK', ?_⟩⟩
    refine ⟨_, results_tmp3 rfl _ _ _, by rw [HM.out, HCt.out]; rfl, ?_⟩
    have hB1 : Below w.heap.size w4 W := HX2.out.below HBA.out.size (fun k hk => by unfold ownM at hk; omega)
    exact below_far (below_drew (HBA.out.trans hB1)) (Nat.le_refl _) (B := w.heap.size) (Nat.le_refl _) (grownBy_putObj' _ D _) (by have := HBA.out.size; omega)

theorem place_Moves.calls (A0 : Option Addr) (c0 : Nat) (l0 : List (S36)) (a1 : Int) (r1 : Int) (r2 : Int) (r3 : Int) (w : World) (hr0 : Kd.C k36 w A0 l0.length l0) (hc0 : l0.length ≤ c0) (hT : TabW w) (h : place_Moves.f l0 a1 = some (r1, r2, r3)) :
    Calls Tryd.prog 36 #[.slice A0 l0.length c0, .int .u32 a1] w fun e w' => e = .returned (.tuple #[.int .i64 r1, .int .i64 r2, .int .i64 r3]) ∧ Below w.heap.size w w' := by
  unfold place_Moves.f at h
  by_cases hok : okArgs l0 a1
  case neg => rw [if_neg hok] at h; cases h
  rw [if_pos hok] at h
  replace h := Option.some.inj h
  by_cases h0 : askedOf l0 a1 = 0
  · rw [if_pos h0] at h
    injection h with e1 h
    injection h with e2 e3
    subst e1 e2 e3
    have hf := free_lt h0
    obtain ⟨free, rfl⟩ : ∃ n : Nat, a1 = n := ⟨a1.toNat, by have := hok.2.2.1; omega⟩
    exact moves_yes A0 c0 l0 free w hr0 hc0 hok h0 (by omega) hT
  · rw [if_neg h0] at h
    injection h with e1 h
    injection h with e2 e3
    subst e1 e2 e3
    exact moves_no A0 c0 l0 a1 w hr0 hc0 hok h0
end Go.Proofs.YtdmieaidheelbaaDoor.Q
end
/- QFlaw19PickAlone -/
section
-- Written by a program of this session (hprint.py), which drives the kit's print over hand-proved contracts. Lean checks it.
namespace Go.Proofs.YtdmieaidheelbaaDoor.Q
open Go.RowKit Go.Proofs.YtdmieaidheelbaaDoorW.PrintWords Go.Proofs.YtdmieaidheelbaaDoorW.PrintLast Go.Proofs.YtdmieaidheelbaaDoorW.PrintMore
attribute [local go_sem] max2_int min2_int max_two min_two max_three min_three max_four min_four   -- for this text's walks alone
set_option linter.unusedVariables false
set_option linter.unusedSimpArgs false

/-! ### mainsheetlaw19_PickAlone: function 14 -/
def mainsheetlaw19_PickAlone.l0 : Nat → List (S36) → List (S90) → Int → Int → List (S90) → List (S36) → Int → Option (Bool)
  | 0, _, _, _, _, _, _, _ => none
  | k + 1, x3, x19, x20, x21, x769000, x769001, x769002 => if x21 < x20 then (if 0 ≤ x21 then (if x21 < (x19.length : Int) then (if (((rd_T90 x19 x21).f0).length : Int) = 1 then (if 0 < (((rd_T90 x19 x21).f0).length : Int) then ((mainsheetlaw19_Ask_wish.f k x769000 x769001 x769002 (rd ((rd_T90 x19 x21).f0) 0)).bind fun bt774 => (if x3.length < 5864062014805 then (mainsheetlaw19_PickAlone.l0 k (x3 ++ [(⟨bt774.1, bt774.2.1, (⟨bt774.2.2.1, bt774.2.2.2⟩ : S34)⟩ : S36)]) x19 x20 (wrap64 (x21 + 1)) x769000 x769001 x769002) else (none))) else (none)) else (some true)) else (none)) else (none)) else ((pick_Pick.f x769000 x769001 x769002).bind fun bt781 => (if bt781.2.2 = 0 then ((place_Place.f x3 x769002).bind fun bt788 => ((place_Waits.f x3 x769002).bind fun bt793 => (if bt788.2.2 = 0 then (if bt793.2 = 0 then ((mainsheetlaw19_same.f k bt781.1 bt788.1).bind fun t797 => (if t797 = true then (some ((bt781.2.1.length : Int) == (bt793.1.length : Int))) else (some false))) else (some false)) else (some false)))) else (some ((bt781.1.length : Int) == 0))))
def mainsheetlaw19_PickAlone.f (k : Nat) (l0_0 : List (S90)) (l0_1 : List (S36)) (a0_2 : Int) : Option (Bool) := (mainsheetlaw19_wakes.f).bind fun t769 => (if t769 = true then ((mainsheetlaw19_Ask_over.f k l0_0 l0_1 a0_2).bind fun t770 => (if t770 = true then (some true) else (mainsheetlaw19_PickAlone.l0 k ([] : List (S36)) l0_0 (l0_0.length : Int) 0 l0_0 l0_1 a0_2))) else (some false))
theorem mainsheetlaw19_PickAlone.mono_l : ∀ k, (∀ y0 y1 y2 y3 y4 y5 y6, LeO (mainsheetlaw19_PickAlone.l0 k y0 y1 y2 y3 y4 y5 y6) (mainsheetlaw19_PickAlone.l0 (k + 1) y0 y1 y2 y3 y4 y5 y6))
  | 0 => fun _ _ _ _ _ _ _ r h => by simp [mainsheetlaw19_PickAlone.l0] at h
  | k + 1 => by
    have ih0 := mainsheetlaw19_PickAlone.mono_l k
    · intro y0 y1 y2 y3 y4 y5 y6
      unfold mainsheetlaw19_PickAlone.l0
      repeat' first
      | (with_reducible exact ih0 _ _ _ _ _ _ _)
      | (with_reducible exact mainsheetlaw19_Ask_over.mono _ _ _ _)
      | (with_reducible exact mainsheetlaw19_Ask_wish.mono _ _ _ _ _)
      | (with_reducible exact mainsheetlaw19_same.mono _ _ _)
      | (with_reducible exact LeO.refl _)
      | (with_reducible exact LeO.none _)
      | (with_reducible refine LeO.ite ?_ ?_)
      | (with_reducible refine LeO.bind ?_ (fun _ => ?_))
      | exact ih0 _ _ _ _ _ _ _
      | exact mainsheetlaw19_Ask_over.mono _ _ _ _
      | exact mainsheetlaw19_Ask_wish.mono _ _ _ _ _
      | exact mainsheetlaw19_same.mono _ _ _
      | exact LeO.none _
      | refine LeO.ite ?_ ?_
      | refine LeO.bind ?_ (fun _ => ?_)
theorem mainsheetlaw19_PickAlone.mono : ∀ a0 a1 a2 k, LeO (mainsheetlaw19_PickAlone.f k a0 a1 a2) (mainsheetlaw19_PickAlone.f (k + 1) a0 a1 a2) := by
  intro a0 a1 a2 k
  have ih0 := mainsheetlaw19_PickAlone.mono_l k
  unfold mainsheetlaw19_PickAlone.f
  repeat' first
      | (with_reducible exact ih0 _ _ _ _ _ _ _)
      | (with_reducible exact mainsheetlaw19_Ask_over.mono _ _ _ _)
      | (with_reducible exact mainsheetlaw19_Ask_wish.mono _ _ _ _ _)
      | (with_reducible exact mainsheetlaw19_same.mono _ _ _)
      | (with_reducible exact LeO.refl _)
      | (with_reducible exact LeO.none _)
      | (with_reducible refine LeO.ite ?_ ?_)
      | (with_reducible refine LeO.bind ?_ (fun _ => ?_))
      | exact ih0 _ _ _ _ _ _ _
      | exact mainsheetlaw19_Ask_over.mono _ _ _ _
      | exact mainsheetlaw19_Ask_wish.mono _ _ _ _ _
      | exact mainsheetlaw19_same.mono _ _ _
      | exact LeO.none _
      | refine LeO.ite ?_ ?_
      | refine LeO.bind ?_ (fun _ => ?_)
def mainsheetlaw19_PickAlone.T11 : Bool × List (List Nat × List Nat) := (true, [([], []), ([], []), ([], []), ([2], [2]), ([3], [3]), ([4], [4]), ([1, 5], [1, 5]), ([6], [6]), ([0, 7, 6], [0, 7]), ([8, 8, 0, 1, 2, 3, 4, 5, 6, 7, 8], [0, 8])])
def mainsheetlaw19_PickAlone.B11 : List Nat := [0, 0, 0, 4, 12, 28, 62, 126, 255, 511]
theorem mainsheetlaw19_PickAlone.tab11 : rtab .any (opsOf Tryd.f14 11) = mainsheetlaw19_PickAlone.T11 := by kernel_rfl
theorem mainsheetlaw19_PickAlone.bits11 : waitsOk mainsheetlaw19_PickAlone.T11.2 mainsheetlaw19_PickAlone.B11 = true := by kernel_rfl
set_option maxHeartbeats 8000000 in
set_option maxRecDepth 100000 in
theorem mainsheetlaw19_PickAlone.calls (k : Nat) (A0_0 : Option Addr) (c0_0 : Nat) (l0_0 : List (S90)) (A0_1 : Option Addr) (c0_1 : Nat) (l0_1 : List (S36)) (a0_2 : Int) (r : Bool) (w : World) (hr0_0 : Kd.C k90 w A0_0 l0_0.length l0_0) (hc0_0 : l0_0.length ≤ c0_0) (hr0_1 : Kd.C k36 w A0_1 l0_1.length l0_1) (hc0_1 : l0_1.length ≤ c0_1) (hT : TabW w) (h : mainsheetlaw19_PickAlone.f k l0_0 l0_1 a0_2 = some r) :
    Calls Tryd.prog 14 #[.agg #[.slice A0_0 l0_0.length c0_0, .slice A0_1 l0_1.length c0_1, .int .u32 a0_2]] w fun e w' => e = .returned (.bool r) ∧ Below w.heap.size w w' := by
  have HT := Aside0.mk hT
  clear hT
  have hu41 := Tryd.underlying41
  have hu90 := Tryd.underlying90
  have HR0_0 := Aside0.mk hr0_0
  have HC0_0 := Aside0.mk hc0_0
  clear hr0_0 hc0_0
  have HR0_1 := Aside0.mk hr0_1
  have HC0_1 := Aside0.mk hc0_1
  clear hr0_1 hc0_1
  have HB := Aside0.mk (Below.refl w.heap.size w)
  have H : ((mainsheetlaw19_wakes.f).bind fun t769 => (if t769 = true then ((mainsheetlaw19_Ask_over.f k l0_0 l0_1 a0_2).bind fun t770 => (if t770 = true then (some true) else (mainsheetlaw19_PickAlone.l0 k ([] : List (S36)) l0_0 (l0_0.length : Int) 0 l0_0 l0_1 a0_2))) else (some false))) = some r := h
  clear h
  replace H := Option.bind_eq_some_iff.mp H
  obtain ⟨t769, A20, H⟩ := H
  replace H : (if t769 = true then ((mainsheetlaw19_Ask_over.f k l0_0 l0_1 a0_2).bind fun t770 => (if t770 = true then (some true) else (mainsheetlaw19_PickAlone.l0 k ([] : List (S36)) l0_0 (l0_0.length : Int) 0 l0_0 l0_1 a0_2))) else (some false)) = some r := H
  have A2 := Aside0.mk A20
  clear A20
  by_cases c3 : t769 = true
  · subst c3
    have H1 : ((mainsheetlaw19_Ask_over.f k l0_0 l0_1 a0_2).bind fun t770 => (if t770 = true then (some true) else (mainsheetlaw19_PickAlone.l0 k ([] : List (S36)) l0_0 (l0_0.length : Int) 0 l0_0 l0_1 a0_2))) = some r := by rw [if_pos rfl] at H; exact H
    clear H
    have H := H1
    clear H1
    replace H := Option.bind_eq_some_iff.mp H
    obtain ⟨t770, A40, H⟩ := H
    replace H : (if t770 = true then (some true) else (mainsheetlaw19_PickAlone.l0 k ([] : List (S36)) l0_0 (l0_0.length : Int) 0 l0_0 l0_1 a0_2)) = some r := H
    have A4 := Aside0.mk A40
    clear A40
    by_cases c5 : t770 = true
    · subst c5
      have H1 : (some true) = some r := by rw [if_pos rfl] at H; exact H
      clear H
      have H := H1
      clear H1
      obtain rfl := Option.some.inj H
      go_enter Tryd.func14, Tryd.ntmps14
      go_wp2_with (first | ((with_reducible refine gate_dst (N := 1) rfl ?_); (try (refine gate_guard (by rfl) ?_; dsimp only)); refine box_event ?hg (N := 1) ?hd (cs := #[.slice A0_0 l0_0.length c0_0, .slice A0_1 l0_1.length c0_1, .int .u32 a0_2]) (t := 41) ?hr ?_; (case hd => rfl); (case hg => rfl); (case hr => first | (go_simp; done) | (go_simp; rfl)); intro gb768 hg w6 hbox hb; have n0_ := Aside0.mk (below_step (by repeat (first | (with_reducible first | exact HB.out | apply below_alloc | apply pw_below_drewN | apply below_drew1) | exact HB.out)) hb); have n1_ := Aside0.mk (hbox); have n2_ := Aside0.mk ((by rw [hg]; exact (below_size (by repeat (first | (with_reducible first | exact HB.out | apply below_alloc | apply pw_below_drewN | apply below_drew1) | exact HB.out))) : w.heap.size ≤ gb768)); have n3_ := Aside0.mk ((by rw [hg]; exact (below_size (by repeat (first | (with_reducible first | exact HB.out | apply below_alloc | apply pw_below_drewN | apply below_drew1) | exact HB.out))) : w.heap.size ≤ gb768)); clear HB; have HB := n0_; have BK768 := n1_; have GW768 := n2_; have GE768 := n3_; clear n0_ n1_ n2_ n3_; clear hb hbox hg) | ((with_reducible refine gate_callee (f := 18) rfl ?_); refine goesL_ (some 14) rfl rfl Tryd.func18 (by kernel_rfl) rfl #[] rfl (by (try simp only [List.map_toArray, List.map_cons, List.map_nil]); first | done | rfl | (simp only [List.length_drop, List.length_take]; rfl)) ?_; (with_reducible refine (mainsheetlaw19_wakes.calls  true _ ?tb A2.out).mono ?_); (case tb => exact HT.out.step (by repeat (first | (with_reducible first | exact HB.out | apply below_alloc | apply pw_below_drewN | apply below_drew1 | refine below_set ?_ GE768.out) | exact HB.out))); rintro e w7 ⟨rfl, hb⟩; refine ⟨_, rfl, ?_⟩; have n0_ := Aside0.mk (blk_below (g := gb768) (o := .cells #[.slice A0_0 l0_0.length c0_0, .slice A0_1 l0_1.length c0_1, .int .u32 a0_2] 41 (0, 0)) (by (with_reducible repeat (first | refine blk_drewN ?_ _ | refine blk_drew ?_ | refine blk_alloc ?_ _)); exact BK768.out) hb); have n1_ := Aside0.mk (below_step (by repeat (first | (with_reducible first | exact HB.out | apply below_alloc | apply pw_below_drewN | apply below_drew1 | refine below_set ?_ GE768.out) | exact HB.out)) hb); clear BK768; clear HB; have BK768 := n0_; have HB := n1_; clear n0_ n1_; (try clear hb); (try clear hb2); (try clear hk); (try clear hi); have hcz8_0 : w7.cell? ⟨gb768, 0, none⟩ = some (.slice A0_0 l0_0.length c0_0) := (blk_cell BK768.out 0).trans rfl; have hcz8_1 : w7.cell? ⟨gb768, 1, none⟩ = some (.slice A0_1 l0_1.length c0_1) := (blk_cell BK768.out 1).trans rfl; have hcz8_2 : w7.cell? ⟨gb768, 2, none⟩ = some (.int .u32 a0_2) := (blk_cell BK768.out 2).trans rfl; have hfz8_0 := blk_frozen BK768.out 0; have hfz8_1 := blk_frozen BK768.out 1; have hfz8_2 := blk_frozen BK768.out 2) | ((with_reducible refine gate_callee (f := 19) rfl ?_); refine goesL_ (some 17) rfl rfl Tryd.func19 (by kernel_rfl) rfl #[.agg #[.slice A0_0 l0_0.length c0_0, .slice A0_1 l0_1.length c0_1, .int .u32 a0_2]] rfl (by (try simp only [List.map_toArray, List.map_cons, List.map_nil]); first | done | rfl | (simp only [List.length_drop, List.length_take]; rfl)) ?_; (with_reducible refine (mainsheetlaw19_Ask_over.calls k _ _ l0_0 _ _ l0_1 a0_2 true _ ?side1 ?side2 ?side3 ?side4 A4.out).mono ?_); (case side1 => repeat (first | exact (Kd.C_below HR0_0.out HB.out) | (with_reducible refine Kd.C_alloc ?_ _) | (with_reducible refine Kd.C_drewN ?_ _) | (with_reducible refine Kd.C_drew ?_))); (case side2 => exact HC0_0.out); (case side3 => repeat (first | exact (Kd.C_below HR0_1.out HB.out) | (with_reducible refine Kd.C_alloc ?_ _) | (with_reducible refine Kd.C_drewN ?_ _) | (with_reducible refine Kd.C_drew ?_))); (case side4 => exact HC0_1.out); rintro e w9 ⟨rfl, hb⟩; refine ⟨_, rfl, ?_⟩; have n0_ := Aside0.mk (blk_below (g := gb768) (o := .cells #[.slice A0_0 l0_0.length c0_0, .slice A0_1 l0_1.length c0_1, .int .u32 a0_2] 41 (0, 0)) (by (with_reducible repeat (first | refine blk_drewN ?_ _ | refine blk_drew ?_ | refine blk_alloc ?_ _)); exact BK768.out) hb); have n1_ := Aside0.mk (below_step (by repeat (first | (with_reducible first | exact HB.out | apply below_alloc | apply pw_below_drewN | apply below_drew1 | refine below_set ?_ GE768.out) | exact HB.out)) hb); clear BK768; clear HB; have BK768 := n0_; have HB := n1_; clear n0_ n1_; (try clear hb); (try clear hb2); (try clear hk); (try clear hi)))
      go_ret
      exact ⟨by first | rfl | (simp [errW_none, errW_some] <;> rfl) | (simp [*, errW_none, errW_some] <;> rfl), by repeat (first | (with_reducible first | exact HB.out | apply below_alloc | apply pw_below_drewN | apply below_drew1 | refine below_set ?_ GE768.out) | exact HB.out)⟩
    · replace c5 := Bool.eq_false_iff.mpr c5
      subst c5
      have H1 : (mainsheetlaw19_PickAlone.l0 k ([] : List (S36)) l0_0 (l0_0.length : Int) 0 l0_0 l0_1 a0_2) = some r := by rw [if_neg (show ¬ (false = true) by decide)] at H; exact H
      clear H
      have H := H1
      clear H1
      have H' := Aside0.mk H
      clear H
      go_enter Tryd.func14, Tryd.ntmps14
      go_wp2_with (first | ((with_reducible refine gate_dst (N := 1) rfl ?_); (try (refine gate_guard (by rfl) ?_; dsimp only)); refine box_event ?hg (N := 1) ?hd (cs := #[.slice A0_0 l0_0.length c0_0, .slice A0_1 l0_1.length c0_1, .int .u32 a0_2]) (t := 41) ?hr ?_; (case hd => rfl); (case hg => rfl); (case hr => first | (go_simp; done) | (go_simp; rfl)); intro gb768 hg w10 hbox hb; have n0_ := Aside0.mk (below_step (by repeat (first | (with_reducible first | exact HB.out | apply below_alloc | apply pw_below_drewN | apply below_drew1) | exact HB.out)) hb); have n1_ := Aside0.mk (hbox); have n2_ := Aside0.mk ((by rw [hg]; exact (below_size (by repeat (first | (with_reducible first | exact HB.out | apply below_alloc | apply pw_below_drewN | apply below_drew1) | exact HB.out))) : w.heap.size ≤ gb768)); have n3_ := Aside0.mk ((by rw [hg]; exact (below_size (by repeat (first | (with_reducible first | exact HB.out | apply below_alloc | apply pw_below_drewN | apply below_drew1) | exact HB.out))) : w.heap.size ≤ gb768)); clear HB; have HB := n0_; have BK768 := n1_; have GW768 := n2_; have GE768 := n3_; clear n0_ n1_ n2_ n3_; clear hb hbox hg) | ((with_reducible refine gate_callee (f := 18) rfl ?_); refine goesL_ (some 14) rfl rfl Tryd.func18 (by kernel_rfl) rfl #[] rfl (by (try simp only [List.map_toArray, List.map_cons, List.map_nil]); first | done | rfl | (simp only [List.length_drop, List.length_take]; rfl)) ?_; (with_reducible refine (mainsheetlaw19_wakes.calls  true _ ?tb A2.out).mono ?_); (case tb => exact HT.out.step (by repeat (first | (with_reducible first | exact HB.out | apply below_alloc | apply pw_below_drewN | apply below_drew1 | refine below_set ?_ GE768.out) | exact HB.out))); rintro e w11 ⟨rfl, hb⟩; refine ⟨_, rfl, ?_⟩; have n0_ := Aside0.mk (blk_below (g := gb768) (o := .cells #[.slice A0_0 l0_0.length c0_0, .slice A0_1 l0_1.length c0_1, .int .u32 a0_2] 41 (0, 0)) (by (with_reducible repeat (first | refine blk_drewN ?_ _ | refine blk_drew ?_ | refine blk_alloc ?_ _)); exact BK768.out) hb); have n1_ := Aside0.mk (below_step (by repeat (first | (with_reducible first | exact HB.out | apply below_alloc | apply pw_below_drewN | apply below_drew1 | refine below_set ?_ GE768.out) | exact HB.out)) hb); clear BK768; clear HB; have BK768 := n0_; have HB := n1_; clear n0_ n1_; (try clear hb); (try clear hb2); (try clear hk); (try clear hi); have hcz12_0 : w11.cell? ⟨gb768, 0, none⟩ = some (.slice A0_0 l0_0.length c0_0) := (blk_cell BK768.out 0).trans rfl; have hcz12_1 : w11.cell? ⟨gb768, 1, none⟩ = some (.slice A0_1 l0_1.length c0_1) := (blk_cell BK768.out 1).trans rfl; have hcz12_2 : w11.cell? ⟨gb768, 2, none⟩ = some (.int .u32 a0_2) := (blk_cell BK768.out 2).trans rfl; have hfz12_0 := blk_frozen BK768.out 0; have hfz12_1 := blk_frozen BK768.out 1; have hfz12_2 := blk_frozen BK768.out 2) | ((with_reducible refine gate_callee (f := 19) rfl ?_); refine goesL_ (some 17) rfl rfl Tryd.func19 (by kernel_rfl) rfl #[.agg #[.slice A0_0 l0_0.length c0_0, .slice A0_1 l0_1.length c0_1, .int .u32 a0_2]] rfl (by (try simp only [List.map_toArray, List.map_cons, List.map_nil]); first | done | rfl | (simp only [List.length_drop, List.length_take]; rfl)) ?_; (with_reducible refine (mainsheetlaw19_Ask_over.calls k _ _ l0_0 _ _ l0_1 a0_2 false _ ?side1 ?side2 ?side3 ?side4 A4.out).mono ?_); (case side1 => repeat (first | exact (Kd.C_below HR0_0.out HB.out) | (with_reducible refine Kd.C_alloc ?_ _) | (with_reducible refine Kd.C_drewN ?_ _) | (with_reducible refine Kd.C_drew ?_))); (case side2 => exact HC0_0.out); (case side3 => repeat (first | exact (Kd.C_below HR0_1.out HB.out) | (with_reducible refine Kd.C_alloc ?_ _) | (with_reducible refine Kd.C_drewN ?_ _) | (with_reducible refine Kd.C_drew ?_))); (case side4 => exact HC0_1.out); rintro e w13 ⟨rfl, hb⟩; refine ⟨_, rfl, ?_⟩; have n0_ := Aside0.mk (blk_below (g := gb768) (o := .cells #[.slice A0_0 l0_0.length c0_0, .slice A0_1 l0_1.length c0_1, .int .u32 a0_2] 41 (0, 0)) (by (with_reducible repeat (first | refine blk_drewN ?_ _ | refine blk_drew ?_ | refine blk_alloc ?_ _)); exact BK768.out) hb); have n1_ := Aside0.mk (below_step (by repeat (first | (with_reducible first | exact HB.out | apply below_alloc | apply pw_below_drewN | apply below_drew1 | refine below_set ?_ GE768.out) | exact HB.out)) hb); clear BK768; clear HB; have BK768 := n0_; have HB := n1_; clear n0_ n1_; (try clear hb); (try clear hb2); (try clear hk); (try clear hi); have hcz14_0 : w13.cell? ⟨gb768, 0, none⟩ = some (.slice A0_0 l0_0.length c0_0) := (blk_cell BK768.out 0).trans rfl; have hcz14_1 : w13.cell? ⟨gb768, 1, none⟩ = some (.slice A0_1 l0_1.length c0_1) := (blk_cell BK768.out 1).trans rfl; have hcz14_2 : w13.cell? ⟨gb768, 2, none⟩ = some (.int .u32 a0_2) := (blk_cell BK768.out 2).trans rfl; have hfz14_0 := blk_frozen BK768.out 0; have hfz14_1 := blk_frozen BK768.out 1; have hfz14_2 := blk_frozen BK768.out 2))
      go_loopg [3, 21] k (fun kq v3 v21 w' => ∃ (x3_1 : List (S36)) (x21_1 : Int), v21 = .int .i64 x21_1 ∧ Aside0 (mainsheetlaw19_PickAlone.l0 kq x3_1 l0_0 (l0_0.length : Int) x21_1 l0_0 l0_1 a0_2 = some r) ∧ Aside0 (kq ≤ k) ∧ Aside0 (Kd.R k36 36 w' w.heap.size (fun _ => True) v3 x3_1) ∧ Aside0 (w'.heap[gb768]? = some (.cells #[(.slice A0_0 l0_0.length c0_0), (.slice A0_1 l0_1.length c0_1), .int .u32 a0_2] 41 (0, 0))) ∧ Aside0 (Below w.heap.size w w'))
      case atStart => exact ⟨(([] : List (S36))), (0), (by first | rfl | (simp; done) | (simp [*]; done)), H', ⟨Nat.le_refl _⟩, ⟨by first | exact Kd.R_nil _ _ _ _ _ | exact Kd.N_nil _ _ _ _ _ | exact Kd.V_nil _ _ _ _ _ | exact Kd.Q_nil _ _ _ _ _ | exact Kd.S_nil _ _ _ _ _⟩, ⟨by (with_reducible repeat (first | refine blk_drewN ?_ _ | refine blk_drew ?_ | refine blk_alloc ?_ _)); exact BK768.out⟩, ⟨by repeat (first | (with_reducible first | exact HB.out | apply below_alloc | apply pw_below_drewN | apply below_drew1 | refine below_set ?_ GE768.out) | exact HB.out)⟩⟩
      case round =>
        clear H'
        try clear c1
        try clear p2
        try clear c3
        try clear c5
        try clear c14
        try clear hcz12_0
        try clear hcz12_1
        try clear hcz12_2
        try clear hcz14_0
        try clear hcz14_1
        try clear hcz14_2
        try clear hcz8_0
        try clear hcz8_1
        try clear hcz8_2
        try clear hfz12_0
        try clear hfz12_1
        try clear hfz12_2
        try clear hfz14_0
        try clear hfz14_1
        try clear hfz14_2
        try clear hfz8_0
        try clear hfz8_1
        try clear hfz8_2
        obtain ⟨x3_1, x21_1, rfl, HA, HK1, HO_3, BK768, HB⟩ := hrel
        cases gk with
        | zero => exact absurd HA.out (by simp [mainsheetlaw19_PickAlone.l0])
        | succ k1 =>
          have H := HA.out
          clear HA
          simp only [mainsheetlaw19_PickAlone.l0] at H
          by_cases c15 : x21_1 < (l0_0.length : Int)
          · rw [if_pos c15] at H
            have c15b0 : decide (x21_1 < (l0_0.length : Int)) = true := decide_eq_true c15
            clear c15
            by_cases c16 : 0 ≤ x21_1
            · rw [if_pos c16] at H
              have c16b0 : decide (0 ≤ x21_1) = true := decide_eq_true c16
              clear c16
              by_cases c17 : x21_1 < (l0_0.length : Int)
              · rw [if_pos c17] at H
                have c17b0 : decide (x21_1 < (l0_0.length : Int)) = true := decide_eq_true c17
                clear c17
                by_cases c18 : (((rd_T90 l0_0 x21_1).f0).length : Int) = 1
                · rw [if_pos c18] at H
                  have c18b0 : ((((rd_T90 l0_0 x21_1).f0).length : Int) == 1) = true := beq_iff_eq.mpr c18
                  have c18b1 : ((((rd_T90 l0_0 x21_1).f0).length : Int) != 1) = false := bne_eq_false_iff_eq.mpr c18
                  clear c18
                  by_cases c19 : 0 < (((rd_T90 l0_0 x21_1).f0).length : Int)
                  · rw [if_pos c19] at H
                    have c19b0 : decide (0 < (((rd_T90 l0_0 x21_1).f0).length : Int)) = true := decide_eq_true c19
                    have c19b1 : decide (0 < ((rd_T90 l0_0 x21_1).f0).length) = true := decide_eq_true (by omega)
                    clear c19
                    replace H := Option.bind_eq_some_iff.mp H
                    obtain ⟨⟨t774, t775, t776, t777⟩, A200, H⟩ := H
                    replace H : (if x3_1.length < 5864062014805 then (mainsheetlaw19_PickAlone.l0 k1 (x3_1 ++ [(⟨t774, t775, (⟨t776, t777⟩ : S34)⟩ : S36)]) l0_0 (l0_0.length : Int) (wrap64 (x21_1 + 1)) l0_0 l0_1 a0_2) else (none)) = some r := H
                    have A20 := Aside0.mk A200
                    clear A200
                    by_cases c21 : x3_1.length < 5864062014805
                    · rw [if_pos c21] at H
                      have LMc21 := Aside0.mk c21
                      clear c21
                      obtain ⟨y778, hy778⟩ : ∃ y_ : List (S36), y_ = (x3_1 ++ [(⟨t774, t775, (⟨t776, t777⟩ : S34)⟩ : S36)]) := ⟨_, rfl⟩
                      replace H : (mainsheetlaw19_PickAlone.l0 k1 y778 l0_0 (l0_0.length : Int) (wrap64 (x21_1 + 1)) l0_0 l0_1 a0_2) = some r := by first | (rw [hy778]; with_reducible exact H) | (have H2_ := (Option.bind_some _ _).symm.trans H; rw [hy778]; with_reducible exact H2_) | (have H2_ := (Option.bind_some _ _).symm.trans H; with_reducible exact H2_) | with_reducible exact H | (rw [hy778]; exact H) | exact H
                      have Ny778 := Aside0.mk hy778
                      clear hy778
                      have H' := Aside0.mk H
                      clear H
                      have p771 : 0 ≤ (x21_1 : Int) := of_decide_eq_true (by first | (with_reducible assumption) | assumption)
                      have q771 : x21_1 < (l0_0.length : Int) := of_decide_eq_true (by first | (with_reducible assumption) | assumption)
                      obtain ⟨ad771, A771_0, c771_0, e771, hx771_0, hx771_1, hx771_2, hx771_3, hx771_4, hx771_5, hl771_0, hi771_0⟩ := at_T90 HR0_0.out x21_1 p771 q771
                      cases e771
                      replace hx771_0 := (HB.out.cell (World.block_lt_of_cell? w _ hx771_0)).trans hx771_0
                      replace hx771_1 := (HB.out.cell (World.block_lt_of_cell? w _ hx771_1)).trans hx771_1
                      replace hx771_2 := (HB.out.cell (World.block_lt_of_cell? w _ hx771_2)).trans hx771_2
                      replace hx771_3 := (HB.out.cell (World.block_lt_of_cell? w _ hx771_3)).trans hx771_3
                      replace hx771_4 := (HB.out.cell (World.block_lt_of_cell? w _ hx771_4)).trans hx771_4
                      replace hx771_5 := (HB.out.cell (World.block_lt_of_cell? w _ hx771_5)).trans hx771_5
                      have HR771_0 := Aside0.mk hi771_0
                      have HC771_0 := Aside0.mk hl771_0
                      clear hi771_0 hl771_0
                      replace p771 := eq_true p771
                      replace q771 := eq_true q771
                      try go_wp2_with (first | ((with_reducible refine gate_dst (N := 5) rfl ?_); (try (refine gate_guard (by rfl) ?_; dsimp only)); refine box_event ?hg (N := 5) ?hd (cs := #[.slice none 0 0, .int .u64 0, .int .u64 0, .int .u64 0, .int .u64 0, .bool false]) (t := 90) ?hr ?_; (case hd => rfl); (case hg => rfl); (case hr => first | (go_simp; done) | (go_simp; rfl)); intro gb772 hg w22 hbox hb; have n0_ := Aside0.mk (Kd.R_below (by (with_reducible repeat (first | apply Kd.R_alloc | apply Kd.R_drewN | apply Kd.R_drew)); exact HO_3.out) hb); have n1_ := Aside0.mk (blk_below (g := gb768) (o := .cells #[.slice (some ad771) l0_0.length c0_0, .slice A0_1 l0_1.length c0_1, .int .u32 a0_2] 41 (0, 0)) (by (with_reducible repeat (first | refine blk_drewN ?_ _ | refine blk_drew ?_ | refine blk_alloc ?_ _)); exact BK768.out) hb); have n2_ := Aside0.mk (below_step (by repeat (first | (with_reducible first | exact HB.out | apply below_alloc | apply pw_below_drewN | apply below_drew1 | refine below_set ?_ GE768.out) | exact HB.out)) hb); have n3_ := Aside0.mk (hbox); have n4_ := Aside0.mk ((by rw [hg]; exact (below_size (by repeat (first | (with_reducible first | exact HB.out | apply below_alloc | apply pw_below_drewN | apply below_drew1 | refine below_set ?_ GE768.out) | exact HB.out))) : w.heap.size ≤ gb772)); have n5_ := Aside0.mk ((by rw [hg]; exact (below_size (by repeat (first | (with_reducible first | exact HB.out | apply below_alloc | apply pw_below_drewN | apply below_drew1 | refine below_set ?_ GE768.out) | exact HB.out))) : w.heap.size ≤ gb772)); have n6_ := Aside0.mk ((by rw [hg]; exact Nat.ne_of_lt (blk_lt (g := gb768) (o := .cells #[.slice (some ad771) l0_0.length c0_0, .slice A0_1 l0_1.length c0_1, .int .u32 a0_2] 41 (0, 0)) (by (with_reducible repeat (first | refine blk_drewN ?_ _ | refine blk_drew ?_ | refine blk_alloc ?_ _)); exact BK768.out)) : gb768 ≠ gb772)); have n7_ := Aside0.mk ((by rw [hg]; exact Nat.ne_of_gt (blk_lt (g := gb768) (o := .cells #[.slice (some ad771) l0_0.length c0_0, .slice A0_1 l0_1.length c0_1, .int .u32 a0_2] 41 (0, 0)) (by (with_reducible repeat (first | refine blk_drewN ?_ _ | refine blk_drew ?_ | refine blk_alloc ?_ _)); exact BK768.out)) : gb772 ≠ gb768)); clear HO_3; clear BK768; clear HB; have HO_3 := n0_; have BK768 := n1_; have HB := n2_; have BK772 := n3_; have GW772 := n4_; have GE772 := n5_; have NB768_772 := n6_; have NB772_768 := n7_; clear n0_ n1_ n2_ n3_ n4_ n5_ n6_ n7_; clear hb hbox hg; have hnb23 := NB772_768.out; have hnc23 := NB768_772.out; have hcz24_0 : w22.cell? ⟨gb772, 0, none⟩ = some (.slice none 0 0) := (blk_cell BK772.out 0).trans rfl; have hcz24_1 : w22.cell? ⟨gb772, 1, none⟩ = some (.int .u64 0) := (blk_cell BK772.out 1).trans rfl; have hcz24_2 : w22.cell? ⟨gb772, 2, none⟩ = some (.int .u64 0) := (blk_cell BK772.out 2).trans rfl; have hcz24_3 : w22.cell? ⟨gb772, 3, none⟩ = some (.int .u64 0) := (blk_cell BK772.out 3).trans rfl; have hcz24_4 : w22.cell? ⟨gb772, 4, none⟩ = some (.int .u64 0) := (blk_cell BK772.out 4).trans rfl; have hcz24_5 : w22.cell? ⟨gb772, 5, none⟩ = some (.bool false) := (blk_cell BK772.out 5).trans rfl; have hfz24_0 := blk_frozen BK772.out 0; have hfz24_1 := blk_frozen BK772.out 1; have hfz24_2 := blk_frozen BK772.out 2; have hfz24_3 := blk_frozen BK772.out 3; have hfz24_4 := blk_frozen BK772.out 4; have hfz24_5 := blk_frozen BK772.out 5))
                      have n0_ : Aside0 (Kd.R k36 36 ((((((w22.setCell ⟨gb772, 0, none⟩ (.slice A771_0 ((rd_T90 l0_0 x21_1).f0).length c771_0)).setCell ⟨gb772, 1, none⟩ (.int .u64 ((rd_T90 l0_0 x21_1).f1.f0.f0))).setCell ⟨gb772, 2, none⟩ (.int .u64 ((rd_T90 l0_0 x21_1).f1.f0.f1))).setCell ⟨gb772, 3, none⟩ (.int .u64 ((rd_T90 l0_0 x21_1).f1.f1))).setCell ⟨gb772, 4, none⟩ (.int .u64 ((rd_T90 l0_0 x21_1).f2))).setCell ⟨gb772, 5, none⟩ (.bool ((rd_T90 l0_0 x21_1).f3))) w.heap.size (fun _ => True) u3 x3_1) := ⟨by (with_reducible repeat (first | apply Kd.R_alloc | apply Kd.R_drewN | apply Kd.R_drew)); exact Kd.R_mono (Kd.R_far (p := ⟨gb772, 5, none⟩) (Kd.R_far (p := ⟨gb772, 4, none⟩) (Kd.R_far (p := ⟨gb772, 3, none⟩) (Kd.R_far (p := ⟨gb772, 2, none⟩) (Kd.R_far (p := ⟨gb772, 1, none⟩) (Kd.R_far (p := ⟨gb772, 0, none⟩) (Kd.R_types HO_3.out BK772.out (by decide)) (fun _ hk => hk.2) (.slice A771_0 ((rd_T90 l0_0 x21_1).f0).length c771_0)) (fun _ hk => hk.2) (.int .u64 ((rd_T90 l0_0 x21_1).f1.f0.f0))) (fun _ hk => hk.2) (.int .u64 ((rd_T90 l0_0 x21_1).f1.f0.f1))) (fun _ hk => hk.2) (.int .u64 ((rd_T90 l0_0 x21_1).f1.f1))) (fun _ hk => hk.2) (.int .u64 ((rd_T90 l0_0 x21_1).f2))) (fun _ hk => hk.2) (.bool ((rd_T90 l0_0 x21_1).f3))) (fun _ hk => trivial)⟩
                      have n1_ : Aside0 (((((((w22.setCell ⟨gb772, 0, none⟩ (.slice A771_0 ((rd_T90 l0_0 x21_1).f0).length c771_0)).setCell ⟨gb772, 1, none⟩ (.int .u64 ((rd_T90 l0_0 x21_1).f1.f0.f0))).setCell ⟨gb772, 2, none⟩ (.int .u64 ((rd_T90 l0_0 x21_1).f1.f0.f1))).setCell ⟨gb772, 3, none⟩ (.int .u64 ((rd_T90 l0_0 x21_1).f1.f1))).setCell ⟨gb772, 4, none⟩ (.int .u64 ((rd_T90 l0_0 x21_1).f2))).setCell ⟨gb772, 5, none⟩ (.bool ((rd_T90 l0_0 x21_1).f3))).heap[gb768]? = some (.cells #[.slice (some ad771) l0_0.length c0_0, .slice A0_1 l0_1.length c0_1, .int .u32 a0_2] 41 (0, 0))) := ⟨by (with_reducible repeat (first | refine blk_drewN ?_ _ | refine blk_drew ?_ | refine blk_alloc ?_ _)); refine blk_far ?_ NB768_772.out _; (with_reducible repeat (first | refine blk_drewN ?_ _ | refine blk_drew ?_ | refine blk_alloc ?_ _)); refine blk_far ?_ NB768_772.out _; (with_reducible repeat (first | refine blk_drewN ?_ _ | refine blk_drew ?_ | refine blk_alloc ?_ _)); refine blk_far ?_ NB768_772.out _; (with_reducible repeat (first | refine blk_drewN ?_ _ | refine blk_drew ?_ | refine blk_alloc ?_ _)); refine blk_far ?_ NB768_772.out _; (with_reducible repeat (first | refine blk_drewN ?_ _ | refine blk_drew ?_ | refine blk_alloc ?_ _)); refine blk_far ?_ NB768_772.out _; (with_reducible repeat (first | refine blk_drewN ?_ _ | refine blk_drew ?_ | refine blk_alloc ?_ _)); refine blk_far ?_ NB768_772.out _; (with_reducible repeat (first | refine blk_drewN ?_ _ | refine blk_drew ?_ | refine blk_alloc ?_ _)); exact BK768.out⟩
                      have n2_ : Aside0 (((((((w22.setCell ⟨gb772, 0, none⟩ (.slice A771_0 ((rd_T90 l0_0 x21_1).f0).length c771_0)).setCell ⟨gb772, 1, none⟩ (.int .u64 ((rd_T90 l0_0 x21_1).f1.f0.f0))).setCell ⟨gb772, 2, none⟩ (.int .u64 ((rd_T90 l0_0 x21_1).f1.f0.f1))).setCell ⟨gb772, 3, none⟩ (.int .u64 ((rd_T90 l0_0 x21_1).f1.f1))).setCell ⟨gb772, 4, none⟩ (.int .u64 ((rd_T90 l0_0 x21_1).f2))).setCell ⟨gb772, 5, none⟩ (.bool ((rd_T90 l0_0 x21_1).f3))).heap[gb772]? = some (.cells #[.slice A771_0 ((rd_T90 l0_0 x21_1).f0).length c771_0, .int .u64 ((rd_T90 l0_0 x21_1).f1.f0.f0), .int .u64 ((rd_T90 l0_0 x21_1).f1.f0.f1), .int .u64 ((rd_T90 l0_0 x21_1).f1.f1), .int .u64 ((rd_T90 l0_0 x21_1).f2), .bool ((rd_T90 l0_0 x21_1).f3)] 90 (0, 0))) := ⟨by (with_reducible repeat (first | refine blk_drewN ?_ _ | refine blk_drew ?_ | refine blk_alloc ?_ _)); refine blk_put (cs := #[.slice A771_0 ((rd_T90 l0_0 x21_1).f0).length c771_0, .int .u64 ((rd_T90 l0_0 x21_1).f1.f0.f0), .int .u64 ((rd_T90 l0_0 x21_1).f1.f0.f1), .int .u64 ((rd_T90 l0_0 x21_1).f1.f1), .int .u64 ((rd_T90 l0_0 x21_1).f2), .bool false]) ?_ 5 _ rfl; (with_reducible repeat (first | refine blk_drewN ?_ _ | refine blk_drew ?_ | refine blk_alloc ?_ _)); refine blk_put (cs := #[.slice A771_0 ((rd_T90 l0_0 x21_1).f0).length c771_0, .int .u64 ((rd_T90 l0_0 x21_1).f1.f0.f0), .int .u64 ((rd_T90 l0_0 x21_1).f1.f0.f1), .int .u64 ((rd_T90 l0_0 x21_1).f1.f1), .int .u64 0, .bool false]) ?_ 4 _ rfl; (with_reducible repeat (first | refine blk_drewN ?_ _ | refine blk_drew ?_ | refine blk_alloc ?_ _)); refine blk_put (cs := #[.slice A771_0 ((rd_T90 l0_0 x21_1).f0).length c771_0, .int .u64 ((rd_T90 l0_0 x21_1).f1.f0.f0), .int .u64 ((rd_T90 l0_0 x21_1).f1.f0.f1), .int .u64 0, .int .u64 0, .bool false]) ?_ 3 _ rfl; (with_reducible repeat (first | refine blk_drewN ?_ _ | refine blk_drew ?_ | refine blk_alloc ?_ _)); refine blk_put (cs := #[.slice A771_0 ((rd_T90 l0_0 x21_1).f0).length c771_0, .int .u64 ((rd_T90 l0_0 x21_1).f1.f0.f0), .int .u64 0, .int .u64 0, .int .u64 0, .bool false]) ?_ 2 _ rfl; (with_reducible repeat (first | refine blk_drewN ?_ _ | refine blk_drew ?_ | refine blk_alloc ?_ _)); refine blk_put (cs := #[.slice A771_0 ((rd_T90 l0_0 x21_1).f0).length c771_0, .int .u64 0, .int .u64 0, .int .u64 0, .int .u64 0, .bool false]) ?_ 1 _ rfl; (with_reducible repeat (first | refine blk_drewN ?_ _ | refine blk_drew ?_ | refine blk_alloc ?_ _)); refine blk_put (cs := #[.slice none 0 0, .int .u64 0, .int .u64 0, .int .u64 0, .int .u64 0, .bool false]) ?_ 0 _ rfl; (with_reducible repeat (first | refine blk_drewN ?_ _ | refine blk_drew ?_ | refine blk_alloc ?_ _)); exact BK772.out⟩
                      have n3_ : Aside0 (Below w.heap.size w ((((((w22.setCell ⟨gb772, 0, none⟩ (.slice A771_0 ((rd_T90 l0_0 x21_1).f0).length c771_0)).setCell ⟨gb772, 1, none⟩ (.int .u64 ((rd_T90 l0_0 x21_1).f1.f0.f0))).setCell ⟨gb772, 2, none⟩ (.int .u64 ((rd_T90 l0_0 x21_1).f1.f0.f1))).setCell ⟨gb772, 3, none⟩ (.int .u64 ((rd_T90 l0_0 x21_1).f1.f1))).setCell ⟨gb772, 4, none⟩ (.int .u64 ((rd_T90 l0_0 x21_1).f2))).setCell ⟨gb772, 5, none⟩ (.bool ((rd_T90 l0_0 x21_1).f3)))) := ⟨by repeat (first | (with_reducible first | exact HB.out | apply below_alloc | apply pw_below_drewN | apply below_drew1 | refine below_set ?_ GE768.out | refine below_set ?_ GE772.out) | exact HB.out)⟩
                      (try clear HO_3)
                      (try clear BK768)
                      (try clear BK772)
                      (try clear HB)
                      generalize ((((((w22.setCell ⟨gb772, 0, none⟩ (.slice A771_0 ((rd_T90 l0_0 x21_1).f0).length c771_0)).setCell ⟨gb772, 1, none⟩ (.int .u64 ((rd_T90 l0_0 x21_1).f1.f0.f0))).setCell ⟨gb772, 2, none⟩ (.int .u64 ((rd_T90 l0_0 x21_1).f1.f0.f1))).setCell ⟨gb772, 3, none⟩ (.int .u64 ((rd_T90 l0_0 x21_1).f1.f1))).setCell ⟨gb772, 4, none⟩ (.int .u64 ((rd_T90 l0_0 x21_1).f2))).setCell ⟨gb772, 5, none⟩ (.bool ((rd_T90 l0_0 x21_1).f3))) = w25 at n0_ n1_ n2_ n3_ ⊢
                      have HO_3 := n0_
                      have BK768 := n1_
                      have BK772 := n2_
                      have HB := n3_
                      clear n0_ n1_ n2_ n3_
                      have n0_ := Aside0.mk (Kd.R_drew HO_3.out)
                      have n1_ := Aside0.mk (blk_drew BK768.out)
                      have n2_ := Aside0.mk (blk_drew BK772.out)
                      have n3_ := Aside0.mk (below_drew1 HB.out)
                      clear HO_3
                      clear BK768
                      clear BK772
                      clear HB
                      have HO_3 := n0_
                      have BK768 := n1_
                      have BK772 := n2_
                      have HB := n3_
                      clear n0_ n1_ n2_ n3_
                      have p773 : 0 ≤ (0 : Int) := (by omega)
                      have q773 : 0 < (((rd_T90 l0_0 x21_1).f0).length : Int) := of_decide_eq_true (by first | (with_reducible assumption) | assumption)
                      obtain ⟨ad773, e773, hx773_0⟩ := Kd.at_int HR771_0.out 0 p773 q773
                      have hw773_0 := hx773_0
                      (try rw [show ((0 : Int)).toNat = 0 from rfl] at hw773_0)
                      (try rw [show 0 * 1 = 0 from rfl] at hw773_0)
                      (try rw [Addr.add_zero'] at hw773_0)
                      cases e773
                      have qi773 : (0 < ((rd_T90 l0_0 x21_1).f0).length) = True := eq_true (by omega)
                      (try rw [show ((0 : Int)).toNat = 0 from rfl] at hx773_0)
                      (try rw [Addr.add_zero'] at hx773_0)
                      replace hx773_0 := (HB.out.cell (World.block_lt_of_cell? w _ hx773_0)).trans hx773_0
                      replace p773 := eq_true p773
                      replace q773 := eq_true q773
                      refine start_ (n := 10) (S := fun w' => w'.cell? ⟨gb768, 0, none⟩ = some (.slice (some ad771) l0_0.length c0_0) ∧ w'.cell? ⟨gb768, 1, none⟩ = some (.slice A0_1 l0_1.length c0_1) ∧ w'.cell? ⟨gb768, 2, none⟩ = some (.int .u32 a0_2) ∧ w'.cell? ⟨gb772, 0, none⟩ = some (.slice (some ad773) ((rd_T90 l0_0 x21_1).f0).length c771_0) ∧ w'.cell? ⟨gb772, 1, none⟩ = some (.int .u64 ((rd_T90 l0_0 x21_1).f1.f0.f0)) ∧ w'.cell? ⟨gb772, 2, none⟩ = some (.int .u64 ((rd_T90 l0_0 x21_1).f1.f0.f1)) ∧ w'.cell? ⟨gb772, 3, none⟩ = some (.int .u64 ((rd_T90 l0_0 x21_1).f1.f1)) ∧ w'.cell? ⟨gb772, 4, none⟩ = some (.int .u64 ((rd_T90 l0_0 x21_1).f2)) ∧ w'.cell? ⟨gb772, 5, none⟩ = some (.bool ((rd_T90 l0_0 x21_1).f3)) ∧ w'.cell? ad773 = some (.int .i64 (rd ((rd_T90 l0_0 x21_1).f0) 0))) (ds := []) #[false, false, false, false, false, false, false, false, false, false] (by kernel_rfl) rfl rfl ⟨(blk_cell BK768.out 0).trans rfl, (blk_cell BK768.out 1).trans rfl, (blk_cell BK768.out 2).trans rfl, (blk_cell BK772.out 0).trans rfl, (blk_cell BK772.out 1).trans rfl, (blk_cell BK772.out 2).trans rfl, (blk_cell BK772.out 3).trans rfl, (blk_cell BK772.out 4).trans rfl, (blk_cell BK772.out 5).trans rfl, ((HB.out.cell (World.block_lt_of_cell? w _ hw773_0)).trans hw773_0)⟩ (fun hHeld => ?_); refine with_tabW mainsheetlaw19_PickAlone.tab11 mainsheetlaw19_PickAlone.bits11 (fun HT_ HW_ => ?_)
                      generalize w25.drew = w26 at HO_3 BK768 BK772 HB hx773_0 hHeld ⊢
                      refine pure_ (i := 0) (N := some 29) (v := ?_) (a' := ?_) #[true, false, false, false, false, false, false, false, false, false] rfl rfl (any_of HT_.out (by kernel_rfl)) (fun _ _ _ h => h) (Or.inl ⟨by rfl, ?_⟩) ?_ ?_
                      rotate_left
                      · intro w'
                        go_simp
                        with_reducible rfl
                      rotate_left
                      · simp only [Act.put, List.setIfInBounds_toArray, List.set_cons_zero, List.set_cons_succ, i64_w, i32_w]
                        rfl
                      refine pure_ (i := 2) (N := some 31) (v := ?_) (a' := ?_) #[true, false, true, false, false, false, false, false, false, false] rfl rfl (any_of HT_.out (by kernel_rfl)) (fun _ _ _ h => h) (Or.inl ⟨by rfl, ?_⟩) ?_ ?_
                      rotate_left
                      · intro w'
                        go_simp
                        with_reducible rfl
                      rotate_left
                      · simp only [Act.put, List.setIfInBounds_toArray, List.set_cons_zero, List.set_cons_succ, i64_w, i32_w]
                        rfl
                      refine take_ (i := 1) (N := some 30) (v := ?_) (a' := ?_) #[true, true, true, false, false, false, false, false, false, false] rfl rfl (take_ofW HT_.out HW_.out (by kernel_rfl)) (fun _ _ _ h => h) (Or.inl ⟨by rfl, ?_⟩) hHeld ?_ ?_
                      rotate_left
                      · rintro w' ⟨s0, s1, s2, s3, s4, s5, s6, s7, s8, s9⟩
                        go_simp
                        with_reducible rfl
                      rotate_left
                      · simp only [Act.put, List.setIfInBounds_toArray, List.set_cons_zero, List.set_cons_succ, i64_w, i32_w]
                        rfl
                      refine take_ (i := 3) (N := some 32) (v := ?_) (a' := ?_) #[true, true, true, true, false, false, false, false, false, false] rfl rfl (take_ofW HT_.out HW_.out (by kernel_rfl)) (fun _ _ _ h => h) (Or.inl ⟨by rfl, ?_⟩) hHeld ?_ ?_
                      rotate_left
                      · rintro w' ⟨s0, s1, s2, s3, s4, s5, s6, s7, s8, s9⟩
                        go_simp
                        with_reducible rfl
                      rotate_left
                      · simp only [Act.put, List.setIfInBounds_toArray, List.set_cons_zero, List.set_cons_succ, i64_w, i32_w]
                        rfl
                      refine pure_ (i := 4) (N := some 33) (v := ?_) (a' := ?_) #[true, true, true, true, true, false, false, false, false, false] rfl rfl (any_of HT_.out (by kernel_rfl)) (fun _ _ _ h => h) (Or.inl ⟨by rfl, ?_⟩) ?_ ?_
                      rotate_left
                      · intro w'
                        go_simp
                        with_reducible rfl
                      rotate_left
                      · simp only [Act.put, List.setIfInBounds_toArray, List.set_cons_zero, List.set_cons_succ, i64_w, i32_w]
                        rfl
                      refine take_ (i := 5) (N := some 34) (v := ?_) (a' := ?_) #[true, true, true, true, true, true, false, false, false, false] rfl rfl (take_ofW HT_.out HW_.out (by kernel_rfl)) (fun _ _ _ h => h) (Or.inl ⟨by rfl, ?_⟩) hHeld ?_ ?_
                      rotate_left
                      · rintro w' ⟨s0, s1, s2, s3, s4, s5, s6, s7, s8, s9⟩
                        go_simp
                        with_reducible rfl
                      rotate_left
                      · simp only [Act.put, List.setIfInBounds_toArray, List.set_cons_zero, List.set_cons_succ, i64_w, i32_w]
                        rfl
                      refine one_ (i := 6) (N := some 35) #[true, true, true, true, true, true, true, false, false, false] rfl rfl (one_of HT_.out (by kernel_rfl)) (by decide) (fun K hK => ?_)
                      refine goes_ Tryd.func23 (by kernel_rfl) rfl #[.agg #[.slice (some ad771) l0_0.length c0_0, .slice A0_1 l0_1.length c0_1, .int .u32 a0_2], .int .i64 (rd ((rd_T90 l0_0 x21_1).f0) 0)] (by rfl) rfl rfl (by (try simp only [List.map_toArray, List.map_cons, List.map_nil]); first | done | rfl | (simp only [List.length_drop, List.length_take]; rfl)) ?_
                      with_reducible refine (mainsheetlaw19_Ask_wish.calls k1 _ _ l0_0 _ _ l0_1 a0_2 (rd ((rd_T90 l0_0 x21_1).f0) 0) t774 t775 t776 t777 _ ?side1 ?side2 ?side3 ?side4 A20.out).mono ?_
                      (case side1 => repeat (first | exact (Kd.C_below HR0_0.out HB.out) | (with_reducible refine Kd.C_alloc ?_ _) | (with_reducible refine Kd.C_drewN ?_ _) | (with_reducible refine Kd.C_drew ?_)))
                      (case side2 => exact HC0_0.out)
                      (case side3 => repeat (first | exact (Kd.C_below HR0_1.out HB.out) | (with_reducible refine Kd.C_alloc ?_ _) | (with_reducible refine Kd.C_drewN ?_ _) | (with_reducible refine Kd.C_drew ?_)))
                      (case side4 => exact HC0_1.out)
                      rintro e w27 ⟨rfl, hb⟩
                      refine ⟨_, rfl, ?_⟩
                      have n0_ := Aside0.mk (Kd.R_below (by (with_reducible repeat (first | apply Kd.R_alloc | apply Kd.R_drewN | apply Kd.R_drew)); exact HO_3.out) hb)
                      have n1_ := Aside0.mk (blk_below (g := gb768) (o := .cells #[.slice (some ad771) l0_0.length c0_0, .slice A0_1 l0_1.length c0_1, .int .u32 a0_2] 41 (0, 0)) (by (with_reducible repeat (first | refine blk_drewN ?_ _ | refine blk_drew ?_ | refine blk_alloc ?_ _)); exact BK768.out) hb)
                      have n2_ := Aside0.mk (blk_below (g := gb772) (o := .cells #[.slice (some ad773) ((rd_T90 l0_0 x21_1).f0).length c771_0, .int .u64 ((rd_T90 l0_0 x21_1).f1.f0.f0), .int .u64 ((rd_T90 l0_0 x21_1).f1.f0.f1), .int .u64 ((rd_T90 l0_0 x21_1).f1.f1), .int .u64 ((rd_T90 l0_0 x21_1).f2), .bool ((rd_T90 l0_0 x21_1).f3)] 90 (0, 0)) (by (with_reducible repeat (first | refine blk_drewN ?_ _ | refine blk_drew ?_ | refine blk_alloc ?_ _)); exact BK772.out) hb)
                      have n3_ := Aside0.mk (below_step (by repeat (first | (with_reducible first | exact HB.out | apply below_alloc | apply pw_below_drewN | apply below_drew1 | refine below_set ?_ GE768.out | refine below_set ?_ GE772.out) | exact HB.out)) hb)
                      clear HO_3
                      clear BK768
                      clear BK772
                      clear HB
                      have HO_3 := n0_
                      have BK768 := n1_
                      have BK772 := n2_
                      have HB := n3_
                      clear n0_ n1_ n2_ n3_
                      (try clear hb)
                      (try clear hb2)
                      (try clear hk)
                      (try clear hi)
                      refine hK.out _ _ ⟨(blk_cell BK768.out 0).trans rfl, (blk_cell BK768.out 1).trans rfl, (blk_cell BK768.out 2).trans rfl, (blk_cell BK772.out 0).trans rfl, (blk_cell BK772.out 1).trans rfl, (blk_cell BK772.out 2).trans rfl, (blk_cell BK772.out 3).trans rfl, (blk_cell BK772.out 4).trans rfl, (blk_cell BK772.out 5).trans rfl, ((HB.out.cell (World.block_lt_of_cell? w _ hw773_0)).trans hw773_0)⟩ (fun hHeld => ?_)
                      clear hK K
                      refine norm_ (a' := ?_) ?_ ?_
                      rotate_left
                      · show Act.put _ (some 35) _ = _
                        simp only [Act.put, List.setIfInBounds_toArray, List.set_cons_zero, List.set_cons_succ, i64_w, i32_w]
                        rfl
                      refine one_ (i := 7) (N := some 36) #[true, true, true, true, true, true, true, true, false, false] rfl rfl (one_of HT_.out (by kernel_rfl)) (by decide) (fun K hK => ?_)
                      refine value_ (w1 := ?_) (v := ?_) (by rfl) rfl ?_ ?_
                      rotate_left 2
                      · go_simp
                        constructor
                        · rfl
                        · rfl
                      refine hK.out _ _ ⟨(blk_cell (blk_alloc BK768.out _) 0).trans rfl, (blk_cell (blk_alloc BK768.out _) 1).trans rfl, (blk_cell (blk_alloc BK768.out _) 2).trans rfl, (blk_cell (blk_alloc BK772.out _) 0).trans rfl, (blk_cell (blk_alloc BK772.out _) 1).trans rfl, (blk_cell (blk_alloc BK772.out _) 2).trans rfl, (blk_cell (blk_alloc BK772.out _) 3).trans rfl, (blk_cell (blk_alloc BK772.out _) 4).trans rfl, (blk_cell (blk_alloc BK772.out _) 5).trans rfl, (World.cell?_alloc_lt _ _ _ (World.block_lt_of_cell? _ _ (((HB.out.cell (World.block_lt_of_cell? w _ hw773_0)).trans hw773_0)))).trans (((HB.out.cell (World.block_lt_of_cell? w _ hw773_0)).trans hw773_0))⟩ (fun hHeld => ?_)
                      clear hK K
                      refine norm_ (a' := ?_) ?_ ?_
                      rotate_left
                      · show Act.put _ (some 36) _ = _
                        simp only [Act.put, List.setIfInBounds_toArray, List.set_cons_zero, List.set_cons_succ, i64_w, i32_w]
                        rfl
                      refine one_ (i := 8) (N := some 37) #[true, true, true, true, true, true, true, true, true, false] rfl rfl (one_of HT_.out (by kernel_rfl)) (by decide) (fun K hK => ?_)
                      refine Kd.R_append_step k36 (w0 := w) w.heap.size (by rfl) (.tmp 29) (.tmp 36) 22 36 (.agg #[(.int .i64 0), (.int .i64 0), (.int .u32 0), (.int .u32 0)]) 24 rfl Tryd.underlying22 info36 rfl (by decide) (by omega) u3 x3_1 (⟨t774, t775, (⟨t776, t777⟩ : S34)⟩ : S36) [.int .i64 t774, .int .i64 t775, .int .u32 t776, .int .u32 t777] (fun _ => True) (fun _ => False) rfl rfl ?aP (fun _ hk => hk.elim) ?aF ?aO ?aB ?aS ?aL ?_
                      (case aP => exact k36_mkM _ _ _ (⟨t774, t775, (⟨t776, t777⟩ : S34)⟩ : S36))
                      (case aB => exact (by repeat (first | (with_reducible first | exact HB.out | apply below_alloc | apply pw_below_drewN | apply below_drew1 | refine below_set ?_ GE768.out | refine below_set ?_ GE772.out) | exact HB.out)))
                      (case aF => exact (fun _ _ => trivial))
                      (case aO => exact (by (with_reducible repeat (first | apply Kd.R_alloc | apply Kd.R_drewN | apply Kd.R_drew)); exact HO_3.out))
                      (case aS => exact (below_size (by repeat (first | (with_reducible first | exact HB.out | apply below_alloc | apply pw_below_drewN | apply below_drew1 | refine below_set ?_ GE768.out | refine below_set ?_ GE772.out) | exact HB.out))))
                      (case aL => have := LMc21.out; omega)
                      intro v779 w28 ho hb hg hat
                      rw [← Ny778.out] at ho
                      have n0_ := Aside0.mk (blk_grown (g := gb768) (o := .cells #[.slice (some ad771) l0_0.length c0_0, .slice A0_1 l0_1.length c0_1, .int .u32 a0_2] 41 (0, 0)) (by (with_reducible repeat (first | refine blk_drewN ?_ _ | refine blk_drew ?_ | refine blk_alloc ?_ _)); exact BK768.out) hg (Kd.R_ne HO_3.out BK768.out (by decide)))
                      have n1_ := Aside0.mk (blk_grown (g := gb772) (o := .cells #[.slice (some ad773) ((rd_T90 l0_0 x21_1).f0).length c771_0, .int .u64 ((rd_T90 l0_0 x21_1).f1.f0.f0), .int .u64 ((rd_T90 l0_0 x21_1).f1.f0.f1), .int .u64 ((rd_T90 l0_0 x21_1).f1.f1), .int .u64 ((rd_T90 l0_0 x21_1).f2), .bool ((rd_T90 l0_0 x21_1).f3)] 90 (0, 0)) (by (with_reducible repeat (first | refine blk_drewN ?_ _ | refine blk_drew ?_ | refine blk_alloc ?_ _)); exact BK772.out) hg (Kd.R_ne HO_3.out BK772.out (by decide)))
                      have n2_ := Aside0.mk (hb)
                      have n3_ := Aside0.mk (ho)
                      clear BK768
                      clear BK772
                      clear HB
                      clear HO_3
                      have BK768 := n0_
                      have BK772 := n1_
                      have HB := n2_
                      have HO780 := n3_
                      clear n0_ n1_ n2_ n3_
                      clear ho hb hg hat
                      refine hK.out _ _ ⟨(blk_cell BK768.out 0).trans rfl, (blk_cell BK768.out 1).trans rfl, (blk_cell BK768.out 2).trans rfl, (blk_cell BK772.out 0).trans rfl, (blk_cell BK772.out 1).trans rfl, (blk_cell BK772.out 2).trans rfl, (blk_cell BK772.out 3).trans rfl, (blk_cell BK772.out 4).trans rfl, (blk_cell BK772.out 5).trans rfl, ((HB.out.cell (World.block_lt_of_cell? w _ hw773_0)).trans hw773_0)⟩ (fun hHeld => ?_)
                      clear hK K
                      refine norm_ (a' := ?_) ?_ ?_
                      rotate_left
                      · show Act.put _ (some 37) _ = _
                        simp only [Act.put, List.setIfInBounds_toArray, List.set_cons_zero, List.set_cons_succ, i64_w, i32_w]
                        rfl
                      refine pure_ (i := 9) (N := some 3) (v := ?_) (a' := ?_) #[true, true, true, true, true, true, true, true, true, true] rfl rfl (any_of HT_.out (by kernel_rfl)) (fun _ _ _ h => h) (Or.inl ⟨by rfl, ?_⟩) ?_ ?_
                      rotate_left
                      · intro w'
                        go_simp
                        with_reducible rfl
                      rotate_left
                      · simp only [Act.put, List.setIfInBounds_toArray, List.set_cons_zero, List.set_cons_succ, i64_w, i32_w]
                        rfl
                      refine done_ (done_of HT_.out (by kernel_rfl)) ?_
                      try go_wp2
                      go_roundg k1
                      case measure => have := HK1.out; omega
                      case rel => exact ⟨(y778), (wrap64 (x21_1 + 1)), (by first | rfl | (simp; done) | (simp [*]; done)), H', ⟨by have := HK1.out; omega⟩, ⟨by (with_reducible repeat (first | apply Kd.R_alloc | apply Kd.R_drewN | apply Kd.R_drew)); exact HO780.out⟩, ⟨by (with_reducible repeat (first | refine blk_drewN ?_ _ | refine blk_drew ?_ | refine blk_alloc ?_ _)); exact BK768.out⟩, ⟨by repeat (first | (with_reducible first | exact HB.out | apply below_alloc | apply pw_below_drewN | apply below_drew1 | refine below_set ?_ GE768.out | refine below_set ?_ GE772.out) | exact HB.out)⟩⟩
                    · rw [if_neg c21] at H
                      exact absurd H (by simp)
                  · rw [if_neg c19] at H
                    exact absurd H (by simp)
                · rw [if_neg c18] at H
                  have c18b0 : ((((rd_T90 l0_0 x21_1).f0).length : Int) == 1) = false := beq_eq_false_iff_ne.mpr c18
                  have c18b1 : ((((rd_T90 l0_0 x21_1).f0).length : Int) != 1) = true := bne_iff_ne.mpr c18
                  obtain rfl := Option.some.inj H
                  have p771 : 0 ≤ (x21_1 : Int) := of_decide_eq_true (by first | (with_reducible assumption) | assumption)
                  have q771 : x21_1 < (l0_0.length : Int) := of_decide_eq_true (by first | (with_reducible assumption) | assumption)
                  obtain ⟨ad771, A771_0, c771_0, e771, hx771_0, hx771_1, hx771_2, hx771_3, hx771_4, hx771_5, hl771_0, hi771_0⟩ := at_T90 HR0_0.out x21_1 p771 q771
                  cases e771
                  replace hx771_0 := (HB.out.cell (World.block_lt_of_cell? w _ hx771_0)).trans hx771_0
                  replace hx771_1 := (HB.out.cell (World.block_lt_of_cell? w _ hx771_1)).trans hx771_1
                  replace hx771_2 := (HB.out.cell (World.block_lt_of_cell? w _ hx771_2)).trans hx771_2
                  replace hx771_3 := (HB.out.cell (World.block_lt_of_cell? w _ hx771_3)).trans hx771_3
                  replace hx771_4 := (HB.out.cell (World.block_lt_of_cell? w _ hx771_4)).trans hx771_4
                  replace hx771_5 := (HB.out.cell (World.block_lt_of_cell? w _ hx771_5)).trans hx771_5
                  have HR771_0 := Aside0.mk hi771_0
                  have HC771_0 := Aside0.mk hl771_0
                  clear hi771_0 hl771_0
                  replace p771 := eq_true p771
                  replace q771 := eq_true q771
                  go_wp2_with (first | ((with_reducible refine gate_dst (N := 5) rfl ?_); (try (refine gate_guard (by rfl) ?_; dsimp only)); refine box_event ?hg (N := 5) ?hd (cs := #[.slice none 0 0, .int .u64 0, .int .u64 0, .int .u64 0, .int .u64 0, .bool false]) (t := 90) ?hr ?_; (case hd => rfl); (case hg => rfl); (case hr => first | (go_simp; done) | (go_simp; rfl)); intro gb772 hg w29 hbox hb; have n0_ := Aside0.mk (Kd.R_below (by (with_reducible repeat (first | apply Kd.R_alloc | apply Kd.R_drewN | apply Kd.R_drew)); exact HO_3.out) hb); have n1_ := Aside0.mk (blk_below (g := gb768) (o := .cells #[.slice (some ad771) l0_0.length c0_0, .slice A0_1 l0_1.length c0_1, .int .u32 a0_2] 41 (0, 0)) (by (with_reducible repeat (first | refine blk_drewN ?_ _ | refine blk_drew ?_ | refine blk_alloc ?_ _)); exact BK768.out) hb); have n2_ := Aside0.mk (below_step (by repeat (first | (with_reducible first | exact HB.out | apply below_alloc | apply pw_below_drewN | apply below_drew1 | refine below_set ?_ GE768.out) | exact HB.out)) hb); have n3_ := Aside0.mk (hbox); have n4_ := Aside0.mk ((by rw [hg]; exact (below_size (by repeat (first | (with_reducible first | exact HB.out | apply below_alloc | apply pw_below_drewN | apply below_drew1 | refine below_set ?_ GE768.out) | exact HB.out))) : w.heap.size ≤ gb772)); have n5_ := Aside0.mk ((by rw [hg]; exact (below_size (by repeat (first | (with_reducible first | exact HB.out | apply below_alloc | apply pw_below_drewN | apply below_drew1 | refine below_set ?_ GE768.out) | exact HB.out))) : w.heap.size ≤ gb772)); have n6_ := Aside0.mk ((by rw [hg]; exact Nat.ne_of_lt (blk_lt (g := gb768) (o := .cells #[.slice (some ad771) l0_0.length c0_0, .slice A0_1 l0_1.length c0_1, .int .u32 a0_2] 41 (0, 0)) (by (with_reducible repeat (first | refine blk_drewN ?_ _ | refine blk_drew ?_ | refine blk_alloc ?_ _)); exact BK768.out)) : gb768 ≠ gb772)); have n7_ := Aside0.mk ((by rw [hg]; exact Nat.ne_of_gt (blk_lt (g := gb768) (o := .cells #[.slice (some ad771) l0_0.length c0_0, .slice A0_1 l0_1.length c0_1, .int .u32 a0_2] 41 (0, 0)) (by (with_reducible repeat (first | refine blk_drewN ?_ _ | refine blk_drew ?_ | refine blk_alloc ?_ _)); exact BK768.out)) : gb772 ≠ gb768)); clear HO_3; clear BK768; clear HB; have HO_3 := n0_; have BK768 := n1_; have HB := n2_; have BK772 := n3_; have GW772 := n4_; have GE772 := n5_; have NB768_772 := n6_; have NB772_768 := n7_; clear n0_ n1_ n2_ n3_ n4_ n5_ n6_ n7_; clear hb hbox hg; have hnb30 := NB772_768.out; have hnc30 := NB768_772.out; have hcz31_0 : w29.cell? ⟨gb772, 0, none⟩ = some (.slice none 0 0) := (blk_cell BK772.out 0).trans rfl; have hcz31_1 : w29.cell? ⟨gb772, 1, none⟩ = some (.int .u64 0) := (blk_cell BK772.out 1).trans rfl; have hcz31_2 : w29.cell? ⟨gb772, 2, none⟩ = some (.int .u64 0) := (blk_cell BK772.out 2).trans rfl; have hcz31_3 : w29.cell? ⟨gb772, 3, none⟩ = some (.int .u64 0) := (blk_cell BK772.out 3).trans rfl; have hcz31_4 : w29.cell? ⟨gb772, 4, none⟩ = some (.int .u64 0) := (blk_cell BK772.out 4).trans rfl; have hcz31_5 : w29.cell? ⟨gb772, 5, none⟩ = some (.bool false) := (blk_cell BK772.out 5).trans rfl; have hfz31_0 := blk_frozen BK772.out 0; have hfz31_1 := blk_frozen BK772.out 1; have hfz31_2 := blk_frozen BK772.out 2; have hfz31_3 := blk_frozen BK772.out 3; have hfz31_4 := blk_frozen BK772.out 4; have hfz31_5 := blk_frozen BK772.out 5))
                  go_ret
                  exact ⟨by first | rfl | (simp [errW_none, errW_some] <;> rfl) | (simp [*, errW_none, errW_some] <;> rfl), by repeat (first | (with_reducible first | exact HB.out | apply below_alloc | apply pw_below_drewN | apply below_drew1 | refine below_set ?_ GE768.out | refine below_set ?_ GE772.out) | exact HB.out)⟩
              · rw [if_neg c17] at H
                exact absurd H (by simp)
            · rw [if_neg c16] at H
              exact absurd H (by simp)
          · rw [if_neg c15] at H
            have c15b0 : decide (x21_1 < (l0_0.length : Int)) = false := decide_eq_false c15
            clear c15
            replace H := Option.bind_eq_some_iff.mp H
            obtain ⟨⟨t781, t782, t783⟩, A320, H⟩ := H
            replace H : (if t783 = 0 then ((place_Place.f x3_1 a0_2).bind fun bt788 => ((place_Waits.f x3_1 a0_2).bind fun bt793 => (if bt788.2.2 = 0 then (if bt793.2 = 0 then ((mainsheetlaw19_same.f k1 t781 bt788.1).bind fun t797 => (if t797 = true then (some ((t782.length : Int) == (bt793.1.length : Int))) else (some false))) else (some false)) else (some false)))) else (some ((t781.length : Int) == 0))) = some r := H
            have A32 := Aside0.mk A320
            clear A320
            by_cases c33 : t783 = 0
            · rw [if_pos c33] at H
              have c33b0 : (t783 == 0) = true := beq_iff_eq.mpr c33
              have c33b1 : (t783 != 0) = false := bne_eq_false_iff_eq.mpr c33
              clear c33
              replace H := Option.bind_eq_some_iff.mp H
              obtain ⟨⟨t788, t789, t790⟩, A340, H⟩ := H
              replace H : ((place_Waits.f x3_1 a0_2).bind fun bt793 => (if t790 = 0 then (if bt793.2 = 0 then ((mainsheetlaw19_same.f k1 t781 t788).bind fun t797 => (if t797 = true then (some ((t782.length : Int) == (bt793.1.length : Int))) else (some false))) else (some false)) else (some false))) = some r := H
              have A34 := Aside0.mk A340
              clear A340
              replace H := Option.bind_eq_some_iff.mp H
              obtain ⟨⟨t793, t794⟩, A350, H⟩ := H
              replace H : (if t790 = 0 then (if t794 = 0 then ((mainsheetlaw19_same.f k1 t781 t788).bind fun t797 => (if t797 = true then (some ((t782.length : Int) == (t793.length : Int))) else (some false))) else (some false)) else (some false)) = some r := H
              have A35 := Aside0.mk A350
              clear A350
              by_cases c36 : t790 = 0
              · rw [if_pos c36] at H
                have c36b0 : (t790 == 0) = true := beq_iff_eq.mpr c36
                have c36b1 : (t790 != 0) = false := bne_eq_false_iff_eq.mpr c36
                clear c36
                by_cases c37 : t794 = 0
                · rw [if_pos c37] at H
                  have c37b0 : (t794 == 0) = true := beq_iff_eq.mpr c37
                  have c37b1 : (t794 != 0) = false := bne_eq_false_iff_eq.mpr c37
                  clear c37
                  replace H := Option.bind_eq_some_iff.mp H
                  obtain ⟨t797, A380, H⟩ := H
                  replace H : (if t797 = true then (some ((t782.length : Int) == (t793.length : Int))) else (some false)) = some r := H
                  have A38 := Aside0.mk A380
                  clear A380
                  by_cases c39 : t797 = true
                  · subst c39
                    have H1 : (some ((t782.length : Int) == (t793.length : Int))) = some r := by rw [if_pos rfl] at H; exact H
                    clear H
                    have H := H1
                    clear H1
                    obtain rfl := Option.some.inj H
                    have hcz40_0 : wr.cell? ⟨gb768, 0, none⟩ = some (.slice A0_0 l0_0.length c0_0) := (blk_cell BK768.out 0).trans rfl
                    have hcz40_1 : wr.cell? ⟨gb768, 1, none⟩ = some (.slice A0_1 l0_1.length c0_1) := (blk_cell BK768.out 1).trans rfl
                    have hcz40_2 : wr.cell? ⟨gb768, 2, none⟩ = some (.int .u32 a0_2) := (blk_cell BK768.out 2).trans rfl
                    have hfz40_0 := blk_frozen BK768.out 0
                    have hfz40_1 := blk_frozen BK768.out 1
                    have hfz40_2 := blk_frozen BK768.out 2
                    go_wp2_with (first | ((with_reducible refine gate_callee (f := 20) rfl ?_); refine goesL_ (some 46) rfl rfl Tryd.func20 (by kernel_rfl) rfl #[.slice A0_0 l0_0.length c0_0, .slice A0_1 l0_1.length c0_1, .int .u32 a0_2] rfl (by (try simp only [List.map_toArray, List.map_cons, List.map_nil]); first | done | rfl | (simp only [List.length_drop, List.length_take]; rfl)) ?_; (with_reducible refine (pick_Pick.calls _ _ l0_0 _ _ l0_1 a0_2 t781 t782 t783 _ ?side1 ?side2 ?side3 ?side4 ?tb A32.out).mono ?_); (case tb => exact HT.out.step (by repeat (first | (with_reducible first | exact HB.out | apply below_alloc | apply pw_below_drewN | apply below_drew1 | refine below_set ?_ GE768.out) | exact HB.out))); (case side1 => repeat (first | exact (Kd.C_below HR0_0.out HB.out) | (with_reducible refine Kd.C_alloc ?_ _) | (with_reducible refine Kd.C_drewN ?_ _) | (with_reducible refine Kd.C_drew ?_))); (case side2 => exact HC0_0.out); (case side3 => repeat (first | exact (Kd.C_below HR0_1.out HB.out) | (with_reducible refine Kd.C_alloc ?_ _) | (with_reducible refine Kd.C_drewN ?_ _) | (with_reducible refine Kd.C_drew ?_))); (case side4 => exact HC0_1.out); rintro e w41 ⟨v784, v786, rfl, ho0, ho1, hb⟩; refine ⟨_, rfl, ?_⟩; have n0_ := Aside0.mk (Kd.R_below (by (with_reducible repeat (first | apply Kd.R_alloc | apply Kd.R_drewN | apply Kd.R_drew)); exact HO_3.out) hb); have n1_ := Aside0.mk (Kd.R_lower ho0 (below_size (by repeat (first | (with_reducible first | exact HB.out | apply below_alloc | apply pw_below_drewN | apply below_drew1 | refine below_set ?_ GE768.out) | exact HB.out)))); have n2_ := Aside0.mk (Kd.R_lower ho1 (below_size (by repeat (first | (with_reducible first | exact HB.out | apply below_alloc | apply pw_below_drewN | apply below_drew1 | refine below_set ?_ GE768.out) | exact HB.out)))); have n3_ := Aside0.mk (blk_below (g := gb768) (o := .cells #[.slice A0_0 l0_0.length c0_0, .slice A0_1 l0_1.length c0_1, .int .u32 a0_2] 41 (0, 0)) (by (with_reducible repeat (first | refine blk_drewN ?_ _ | refine blk_drew ?_ | refine blk_alloc ?_ _)); exact BK768.out) hb); have n4_ := Aside0.mk (below_step (by repeat (first | (with_reducible first | exact HB.out | apply below_alloc | apply pw_below_drewN | apply below_drew1 | refine below_set ?_ GE768.out) | exact HB.out)) hb); clear HO_3; clear BK768; clear HB; have HO_3 := n0_; have HO785 := n1_; have HO787 := n2_; have BK768 := n3_; have HB := n4_; clear n0_ n1_ n2_ n3_ n4_; (try clear hb); (try clear hb2); (try clear hk); (try clear hi); (try clear ho0); (try clear ho1); have hcz42_0 : w41.cell? ⟨gb768, 0, none⟩ = some (.slice A0_0 l0_0.length c0_0) := (blk_cell BK768.out 0).trans rfl; have hcz42_1 : w41.cell? ⟨gb768, 1, none⟩ = some (.slice A0_1 l0_1.length c0_1) := (blk_cell BK768.out 1).trans rfl; have hcz42_2 : w41.cell? ⟨gb768, 2, none⟩ = some (.int .u32 a0_2) := (blk_cell BK768.out 2).trans rfl; have hfz42_0 := blk_frozen BK768.out 0; have hfz42_1 := blk_frozen BK768.out 1; have hfz42_2 := blk_frozen BK768.out 2; obtain ⟨Ao43, co43, eo43⟩ := Kd.R_slice HO_3.out; subst eo43) | ((with_reducible refine gate_callee (f := 16) rfl ?_); refine goesL_ (some 59) rfl rfl Tryd.func16 (by kernel_rfl) rfl #[.slice Ao43 x3_1.length co43, .int .u32 a0_2] rfl (by (try simp only [List.map_toArray, List.map_cons, List.map_nil]); first | done | rfl | (simp only [List.length_drop, List.length_take]; rfl)) ?_; (with_reducible refine (place_Place.calls _ _ x3_1 a0_2 t788 t789 t790 _ ?side1 ?side2 ?tb A34.out).mono ?_); (case tb => exact HT.out.step (by repeat (first | (with_reducible first | exact HB.out | apply below_alloc | apply pw_below_drewN | apply below_drew1 | refine below_set ?_ GE768.out) | exact HB.out))); (case side1 => repeat (first | exact (Kd.R_reads' HO_3.out).2.2 | (with_reducible refine Kd.C_alloc ?_ _) | (with_reducible refine Kd.C_drewN ?_ _) | (with_reducible refine Kd.C_drew ?_))); (case side2 => exact (Kd.R_reads' HO_3.out).2.1); rintro e w44 ⟨v791, rfl, ho0, hb⟩; refine ⟨_, rfl, ?_⟩; have n0_ := Aside0.mk (Kd.R_below (by (with_reducible repeat (first | apply Kd.R_alloc | apply Kd.R_drewN | apply Kd.R_drew)); exact HO_3.out) hb); have n1_ := Aside0.mk (Kd.R_elder' (by (with_reducible repeat (first | apply Kd.R_alloc | apply Kd.R_drewN | apply Kd.R_drew)); exact HO785.out) (Kd.R_base ho0) hb); have n2_ := Aside0.mk (Kd.R_below (by (with_reducible repeat (first | apply Kd.R_alloc | apply Kd.R_drewN | apply Kd.R_drew)); exact HO787.out) hb); have n3_ := Aside0.mk (Kd.R_lower (Kd.R_new' ho0 (Kd.R_lt (by (with_reducible repeat (first | apply Kd.R_alloc | apply Kd.R_drewN | apply Kd.R_drew)); exact HO785.out))) (below_size (by repeat (first | (with_reducible first | exact HB.out | apply below_alloc | apply pw_below_drewN | apply below_drew1 | refine below_set ?_ GE768.out) | exact HB.out)))); have n4_ := Aside0.mk (blk_below (g := gb768) (o := .cells #[.slice A0_0 l0_0.length c0_0, .slice A0_1 l0_1.length c0_1, .int .u32 a0_2] 41 (0, 0)) (by (with_reducible repeat (first | refine blk_drewN ?_ _ | refine blk_drew ?_ | refine blk_alloc ?_ _)); exact BK768.out) hb); have n5_ := Aside0.mk (below_step (by repeat (first | (with_reducible first | exact HB.out | apply below_alloc | apply pw_below_drewN | apply below_drew1 | refine below_set ?_ GE768.out) | exact HB.out)) hb); clear HO_3; clear HO785; clear HO787; clear BK768; clear HB; have HO_3 := n0_; have HO785 := n1_; have HO787 := n2_; have HO792 := n3_; have BK768 := n4_; have HB := n5_; clear n0_ n1_ n2_ n3_ n4_ n5_; (try clear hb); (try clear hb2); (try clear hk); (try clear hi); (try clear ho0); have hcz45_0 : w44.cell? ⟨gb768, 0, none⟩ = some (.slice A0_0 l0_0.length c0_0) := (blk_cell BK768.out 0).trans rfl; have hcz45_1 : w44.cell? ⟨gb768, 1, none⟩ = some (.slice A0_1 l0_1.length c0_1) := (blk_cell BK768.out 1).trans rfl; have hcz45_2 : w44.cell? ⟨gb768, 2, none⟩ = some (.int .u32 a0_2) := (blk_cell BK768.out 2).trans rfl; have hfz45_0 := blk_frozen BK768.out 0; have hfz45_1 := blk_frozen BK768.out 1; have hfz45_2 := blk_frozen BK768.out 2) | ((with_reducible refine gate_callee (f := 35) rfl ?_); refine goesL_ (some 67) rfl rfl Tryd.func35 (by kernel_rfl) rfl #[.slice Ao43 x3_1.length co43, .int .u32 a0_2] rfl (by (try simp only [List.map_toArray, List.map_cons, List.map_nil]); first | done | rfl | (simp only [List.length_drop, List.length_take]; rfl)) ?_; (with_reducible refine (place_Waits.calls _ _ x3_1 a0_2 t793 t794 _ ?side1 ?side2 ?tb A35.out).mono ?_); (case tb => exact HT.out.step (by repeat (first | (with_reducible first | exact HB.out | apply below_alloc | apply pw_below_drewN | apply below_drew1 | refine below_set ?_ GE768.out) | exact HB.out))); (case side1 => repeat (first | exact (Kd.R_reads' HO_3.out).2.2 | (with_reducible refine Kd.C_alloc ?_ _) | (with_reducible refine Kd.C_drewN ?_ _) | (with_reducible refine Kd.C_drew ?_))); (case side2 => exact (Kd.R_reads' HO_3.out).2.1); rintro e w46 ⟨v795, rfl, ho0, hb⟩; refine ⟨_, rfl, ?_⟩; have n0_ := Aside0.mk (Kd.R_below (by (with_reducible repeat (first | apply Kd.R_alloc | apply Kd.R_drewN | apply Kd.R_drew)); exact HO_3.out) hb); have n1_ := Aside0.mk (Kd.R_below (by (with_reducible repeat (first | apply Kd.R_alloc | apply Kd.R_drewN | apply Kd.R_drew)); exact HO785.out) hb); have n2_ := Aside0.mk (Kd.R_elder' (by (with_reducible repeat (first | apply Kd.R_alloc | apply Kd.R_drewN | apply Kd.R_drew)); exact HO787.out) (Kd.R_base ho0) hb); have n3_ := Aside0.mk (Kd.R_below (by (with_reducible repeat (first | apply Kd.R_alloc | apply Kd.R_drewN | apply Kd.R_drew)); exact HO792.out) hb); have n4_ := Aside0.mk (Kd.R_lower (Kd.R_new' ho0 (Kd.R_lt (by (with_reducible repeat (first | apply Kd.R_alloc | apply Kd.R_drewN | apply Kd.R_drew)); exact HO787.out))) (below_size (by repeat (first | (with_reducible first | exact HB.out | apply below_alloc | apply pw_below_drewN | apply below_drew1 | refine below_set ?_ GE768.out) | exact HB.out)))); have n5_ := Aside0.mk (blk_below (g := gb768) (o := .cells #[.slice A0_0 l0_0.length c0_0, .slice A0_1 l0_1.length c0_1, .int .u32 a0_2] 41 (0, 0)) (by (with_reducible repeat (first | refine blk_drewN ?_ _ | refine blk_drew ?_ | refine blk_alloc ?_ _)); exact BK768.out) hb); have n6_ := Aside0.mk (below_step (by repeat (first | (with_reducible first | exact HB.out | apply below_alloc | apply pw_below_drewN | apply below_drew1 | refine below_set ?_ GE768.out) | exact HB.out)) hb); clear HO_3; clear HO785; clear HO787; clear HO792; clear BK768; clear HB; have HO_3 := n0_; have HO785 := n1_; have HO787 := n2_; have HO792 := n3_; have HO796 := n4_; have BK768 := n5_; have HB := n6_; clear n0_ n1_ n2_ n3_ n4_ n5_ n6_; (try clear hb); (try clear hb2); (try clear hk); (try clear hi); (try clear ho0); obtain ⟨Ao47, co47, eo47⟩ := Kd.R_slice HO785.out; subst eo47; obtain ⟨Ao48, co48, eo48⟩ := Kd.R_slice HO792.out; subst eo48) | (go_at_call 56; (with_reducible refine (mainsheetlaw19_same.calls k1 _ _ t781 _ _ t788 true _ ?side1 ?side2 ?side3 ?side4 A38.out).mono ?_); (case side1 => repeat (first | exact (Kd.R_reads' HO785.out).2.2 | (with_reducible refine Kd.C_alloc ?_ _) | (with_reducible refine Kd.C_drewN ?_ _) | (with_reducible refine Kd.C_drew ?_))); (case side2 => exact (Kd.R_reads' HO785.out).2.1); (case side3 => repeat (first | exact (Kd.R_reads' HO792.out).2.2 | (with_reducible refine Kd.C_alloc ?_ _) | (with_reducible refine Kd.C_drewN ?_ _) | (with_reducible refine Kd.C_drew ?_))); (case side4 => exact (Kd.R_reads' HO792.out).2.1); rintro e w' ⟨rfl, ⟨nd, rfl⟩⟩; obtain ⟨Ao49, co49, eo49⟩ := Kd.R_slice HO787.out; subst eo49; obtain ⟨Ao50, co50, eo50⟩ := Kd.R_slice HO796.out; subst eo50))
                    go_ret
                    exact ⟨by first | rfl | (simp [errW_none, errW_some] <;> rfl) | (simp [*, errW_none, errW_some] <;> rfl), by repeat (first | (with_reducible first | exact HB.out | apply below_alloc | apply pw_below_drewN | apply below_drew1 | refine below_set ?_ GE768.out) | exact HB.out)⟩
                  · replace c39 := Bool.eq_false_iff.mpr c39
                    subst c39
                    have H1 : (some false) = some r := by rw [if_neg (show ¬ (false = true) by decide)] at H; exact H
                    clear H
                    have H := H1
                    clear H1
                    obtain rfl := Option.some.inj H
                    have hcz51_0 : wr.cell? ⟨gb768, 0, none⟩ = some (.slice A0_0 l0_0.length c0_0) := (blk_cell BK768.out 0).trans rfl
                    have hcz51_1 : wr.cell? ⟨gb768, 1, none⟩ = some (.slice A0_1 l0_1.length c0_1) := (blk_cell BK768.out 1).trans rfl
                    have hcz51_2 : wr.cell? ⟨gb768, 2, none⟩ = some (.int .u32 a0_2) := (blk_cell BK768.out 2).trans rfl
                    have hfz51_0 := blk_frozen BK768.out 0
                    have hfz51_1 := blk_frozen BK768.out 1
                    have hfz51_2 := blk_frozen BK768.out 2
                    go_wp2_with (first | ((with_reducible refine gate_callee (f := 20) rfl ?_); refine goesL_ (some 46) rfl rfl Tryd.func20 (by kernel_rfl) rfl #[.slice A0_0 l0_0.length c0_0, .slice A0_1 l0_1.length c0_1, .int .u32 a0_2] rfl (by (try simp only [List.map_toArray, List.map_cons, List.map_nil]); first | done | rfl | (simp only [List.length_drop, List.length_take]; rfl)) ?_; (with_reducible refine (pick_Pick.calls _ _ l0_0 _ _ l0_1 a0_2 t781 t782 t783 _ ?side1 ?side2 ?side3 ?side4 ?tb A32.out).mono ?_); (case tb => exact HT.out.step (by repeat (first | (with_reducible first | exact HB.out | apply below_alloc | apply pw_below_drewN | apply below_drew1 | refine below_set ?_ GE768.out) | exact HB.out))); (case side1 => repeat (first | exact (Kd.C_below HR0_0.out HB.out) | (with_reducible refine Kd.C_alloc ?_ _) | (with_reducible refine Kd.C_drewN ?_ _) | (with_reducible refine Kd.C_drew ?_))); (case side2 => exact HC0_0.out); (case side3 => repeat (first | exact (Kd.C_below HR0_1.out HB.out) | (with_reducible refine Kd.C_alloc ?_ _) | (with_reducible refine Kd.C_drewN ?_ _) | (with_reducible refine Kd.C_drew ?_))); (case side4 => exact HC0_1.out); rintro e w52 ⟨v784, v786, rfl, ho0, ho1, hb⟩; refine ⟨_, rfl, ?_⟩; have n0_ := Aside0.mk (Kd.R_below (by (with_reducible repeat (first | apply Kd.R_alloc | apply Kd.R_drewN | apply Kd.R_drew)); exact HO_3.out) hb); have n1_ := Aside0.mk (Kd.R_lower ho0 (below_size (by repeat (first | (with_reducible first | exact HB.out | apply below_alloc | apply pw_below_drewN | apply below_drew1 | refine below_set ?_ GE768.out) | exact HB.out)))); have n2_ := Aside0.mk (Kd.R_lower ho1 (below_size (by repeat (first | (with_reducible first | exact HB.out | apply below_alloc | apply pw_below_drewN | apply below_drew1 | refine below_set ?_ GE768.out) | exact HB.out)))); have n3_ := Aside0.mk (blk_below (g := gb768) (o := .cells #[.slice A0_0 l0_0.length c0_0, .slice A0_1 l0_1.length c0_1, .int .u32 a0_2] 41 (0, 0)) (by (with_reducible repeat (first | refine blk_drewN ?_ _ | refine blk_drew ?_ | refine blk_alloc ?_ _)); exact BK768.out) hb); have n4_ := Aside0.mk (below_step (by repeat (first | (with_reducible first | exact HB.out | apply below_alloc | apply pw_below_drewN | apply below_drew1 | refine below_set ?_ GE768.out) | exact HB.out)) hb); clear HO_3; clear BK768; clear HB; have HO_3 := n0_; have HO785 := n1_; have HO787 := n2_; have BK768 := n3_; have HB := n4_; clear n0_ n1_ n2_ n3_ n4_; (try clear hb); (try clear hb2); (try clear hk); (try clear hi); (try clear ho0); (try clear ho1); have hcz53_0 : w52.cell? ⟨gb768, 0, none⟩ = some (.slice A0_0 l0_0.length c0_0) := (blk_cell BK768.out 0).trans rfl; have hcz53_1 : w52.cell? ⟨gb768, 1, none⟩ = some (.slice A0_1 l0_1.length c0_1) := (blk_cell BK768.out 1).trans rfl; have hcz53_2 : w52.cell? ⟨gb768, 2, none⟩ = some (.int .u32 a0_2) := (blk_cell BK768.out 2).trans rfl; have hfz53_0 := blk_frozen BK768.out 0; have hfz53_1 := blk_frozen BK768.out 1; have hfz53_2 := blk_frozen BK768.out 2; obtain ⟨Ao54, co54, eo54⟩ := Kd.R_slice HO_3.out; subst eo54) | ((with_reducible refine gate_callee (f := 16) rfl ?_); refine goesL_ (some 59) rfl rfl Tryd.func16 (by kernel_rfl) rfl #[.slice Ao54 x3_1.length co54, .int .u32 a0_2] rfl (by (try simp only [List.map_toArray, List.map_cons, List.map_nil]); first | done | rfl | (simp only [List.length_drop, List.length_take]; rfl)) ?_; (with_reducible refine (place_Place.calls _ _ x3_1 a0_2 t788 t789 t790 _ ?side1 ?side2 ?tb A34.out).mono ?_); (case tb => exact HT.out.step (by repeat (first | (with_reducible first | exact HB.out | apply below_alloc | apply pw_below_drewN | apply below_drew1 | refine below_set ?_ GE768.out) | exact HB.out))); (case side1 => repeat (first | exact (Kd.R_reads' HO_3.out).2.2 | (with_reducible refine Kd.C_alloc ?_ _) | (with_reducible refine Kd.C_drewN ?_ _) | (with_reducible refine Kd.C_drew ?_))); (case side2 => exact (Kd.R_reads' HO_3.out).2.1); rintro e w55 ⟨v791, rfl, ho0, hb⟩; refine ⟨_, rfl, ?_⟩; have n0_ := Aside0.mk (Kd.R_below (by (with_reducible repeat (first | apply Kd.R_alloc | apply Kd.R_drewN | apply Kd.R_drew)); exact HO_3.out) hb); have n1_ := Aside0.mk (Kd.R_elder' (by (with_reducible repeat (first | apply Kd.R_alloc | apply Kd.R_drewN | apply Kd.R_drew)); exact HO785.out) (Kd.R_base ho0) hb); have n2_ := Aside0.mk (Kd.R_below (by (with_reducible repeat (first | apply Kd.R_alloc | apply Kd.R_drewN | apply Kd.R_drew)); exact HO787.out) hb); have n3_ := Aside0.mk (Kd.R_lower (Kd.R_new' ho0 (Kd.R_lt (by (with_reducible repeat (first | apply Kd.R_alloc | apply Kd.R_drewN | apply Kd.R_drew)); exact HO785.out))) (below_size (by repeat (first | (with_reducible first | exact HB.out | apply below_alloc | apply pw_below_drewN | apply below_drew1 | refine below_set ?_ GE768.out) | exact HB.out)))); have n4_ := Aside0.mk (blk_below (g := gb768) (o := .cells #[.slice A0_0 l0_0.length c0_0, .slice A0_1 l0_1.length c0_1, .int .u32 a0_2] 41 (0, 0)) (by (with_reducible repeat (first | refine blk_drewN ?_ _ | refine blk_drew ?_ | refine blk_alloc ?_ _)); exact BK768.out) hb); have n5_ := Aside0.mk (below_step (by repeat (first | (with_reducible first | exact HB.out | apply below_alloc | apply pw_below_drewN | apply below_drew1 | refine below_set ?_ GE768.out) | exact HB.out)) hb); clear HO_3; clear HO785; clear HO787; clear BK768; clear HB; have HO_3 := n0_; have HO785 := n1_; have HO787 := n2_; have HO792 := n3_; have BK768 := n4_; have HB := n5_; clear n0_ n1_ n2_ n3_ n4_ n5_; (try clear hb); (try clear hb2); (try clear hk); (try clear hi); (try clear ho0); have hcz56_0 : w55.cell? ⟨gb768, 0, none⟩ = some (.slice A0_0 l0_0.length c0_0) := (blk_cell BK768.out 0).trans rfl; have hcz56_1 : w55.cell? ⟨gb768, 1, none⟩ = some (.slice A0_1 l0_1.length c0_1) := (blk_cell BK768.out 1).trans rfl; have hcz56_2 : w55.cell? ⟨gb768, 2, none⟩ = some (.int .u32 a0_2) := (blk_cell BK768.out 2).trans rfl; have hfz56_0 := blk_frozen BK768.out 0; have hfz56_1 := blk_frozen BK768.out 1; have hfz56_2 := blk_frozen BK768.out 2) | ((with_reducible refine gate_callee (f := 35) rfl ?_); refine goesL_ (some 67) rfl rfl Tryd.func35 (by kernel_rfl) rfl #[.slice Ao54 x3_1.length co54, .int .u32 a0_2] rfl (by (try simp only [List.map_toArray, List.map_cons, List.map_nil]); first | done | rfl | (simp only [List.length_drop, List.length_take]; rfl)) ?_; (with_reducible refine (place_Waits.calls _ _ x3_1 a0_2 t793 t794 _ ?side1 ?side2 ?tb A35.out).mono ?_); (case tb => exact HT.out.step (by repeat (first | (with_reducible first | exact HB.out | apply below_alloc | apply pw_below_drewN | apply below_drew1 | refine below_set ?_ GE768.out) | exact HB.out))); (case side1 => repeat (first | exact (Kd.R_reads' HO_3.out).2.2 | (with_reducible refine Kd.C_alloc ?_ _) | (with_reducible refine Kd.C_drewN ?_ _) | (with_reducible refine Kd.C_drew ?_))); (case side2 => exact (Kd.R_reads' HO_3.out).2.1); rintro e w57 ⟨v795, rfl, ho0, hb⟩; refine ⟨_, rfl, ?_⟩; have n0_ := Aside0.mk (Kd.R_below (by (with_reducible repeat (first | apply Kd.R_alloc | apply Kd.R_drewN | apply Kd.R_drew)); exact HO_3.out) hb); have n1_ := Aside0.mk (Kd.R_below (by (with_reducible repeat (first | apply Kd.R_alloc | apply Kd.R_drewN | apply Kd.R_drew)); exact HO785.out) hb); have n2_ := Aside0.mk (Kd.R_elder' (by (with_reducible repeat (first | apply Kd.R_alloc | apply Kd.R_drewN | apply Kd.R_drew)); exact HO787.out) (Kd.R_base ho0) hb); have n3_ := Aside0.mk (Kd.R_below (by (with_reducible repeat (first | apply Kd.R_alloc | apply Kd.R_drewN | apply Kd.R_drew)); exact HO792.out) hb); have n4_ := Aside0.mk (Kd.R_lower (Kd.R_new' ho0 (Kd.R_lt (by (with_reducible repeat (first | apply Kd.R_alloc | apply Kd.R_drewN | apply Kd.R_drew)); exact HO787.out))) (below_size (by repeat (first | (with_reducible first | exact HB.out | apply below_alloc | apply pw_below_drewN | apply below_drew1 | refine below_set ?_ GE768.out) | exact HB.out)))); have n5_ := Aside0.mk (blk_below (g := gb768) (o := .cells #[.slice A0_0 l0_0.length c0_0, .slice A0_1 l0_1.length c0_1, .int .u32 a0_2] 41 (0, 0)) (by (with_reducible repeat (first | refine blk_drewN ?_ _ | refine blk_drew ?_ | refine blk_alloc ?_ _)); exact BK768.out) hb); have n6_ := Aside0.mk (below_step (by repeat (first | (with_reducible first | exact HB.out | apply below_alloc | apply pw_below_drewN | apply below_drew1 | refine below_set ?_ GE768.out) | exact HB.out)) hb); clear HO_3; clear HO785; clear HO787; clear HO792; clear BK768; clear HB; have HO_3 := n0_; have HO785 := n1_; have HO787 := n2_; have HO792 := n3_; have HO796 := n4_; have BK768 := n5_; have HB := n6_; clear n0_ n1_ n2_ n3_ n4_ n5_ n6_; (try clear hb); (try clear hb2); (try clear hk); (try clear hi); (try clear ho0); obtain ⟨Ao58, co58, eo58⟩ := Kd.R_slice HO785.out; subst eo58; obtain ⟨Ao59, co59, eo59⟩ := Kd.R_slice HO792.out; subst eo59) | (go_at_call 56; (with_reducible refine (mainsheetlaw19_same.calls k1 _ _ t781 _ _ t788 false _ ?side1 ?side2 ?side3 ?side4 A38.out).mono ?_); (case side1 => repeat (first | exact (Kd.R_reads' HO785.out).2.2 | (with_reducible refine Kd.C_alloc ?_ _) | (with_reducible refine Kd.C_drewN ?_ _) | (with_reducible refine Kd.C_drew ?_))); (case side2 => exact (Kd.R_reads' HO785.out).2.1); (case side3 => repeat (first | exact (Kd.R_reads' HO792.out).2.2 | (with_reducible refine Kd.C_alloc ?_ _) | (with_reducible refine Kd.C_drewN ?_ _) | (with_reducible refine Kd.C_drew ?_))); (case side4 => exact (Kd.R_reads' HO792.out).2.1); rintro e w' ⟨rfl, ⟨nd, rfl⟩⟩))
                    go_ret
                    exact ⟨by first | rfl | (simp [errW_none, errW_some] <;> rfl) | (simp [*, errW_none, errW_some] <;> rfl), by repeat (first | (with_reducible first | exact HB.out | apply below_alloc | apply pw_below_drewN | apply below_drew1 | refine below_set ?_ GE768.out) | exact HB.out)⟩
                · rw [if_neg c37] at H
                  have c37b0 : (t794 == 0) = false := beq_eq_false_iff_ne.mpr c37
                  have c37b1 : (t794 != 0) = true := bne_iff_ne.mpr c37
                  obtain rfl := Option.some.inj H
                  have hcz60_0 : wr.cell? ⟨gb768, 0, none⟩ = some (.slice A0_0 l0_0.length c0_0) := (blk_cell BK768.out 0).trans rfl
                  have hcz60_1 : wr.cell? ⟨gb768, 1, none⟩ = some (.slice A0_1 l0_1.length c0_1) := (blk_cell BK768.out 1).trans rfl
                  have hcz60_2 : wr.cell? ⟨gb768, 2, none⟩ = some (.int .u32 a0_2) := (blk_cell BK768.out 2).trans rfl
                  have hfz60_0 := blk_frozen BK768.out 0
                  have hfz60_1 := blk_frozen BK768.out 1
                  have hfz60_2 := blk_frozen BK768.out 2
                  go_wp2_with (first | ((with_reducible refine gate_callee (f := 20) rfl ?_); refine goesL_ (some 46) rfl rfl Tryd.func20 (by kernel_rfl) rfl #[.slice A0_0 l0_0.length c0_0, .slice A0_1 l0_1.length c0_1, .int .u32 a0_2] rfl (by (try simp only [List.map_toArray, List.map_cons, List.map_nil]); first | done | rfl | (simp only [List.length_drop, List.length_take]; rfl)) ?_; (with_reducible refine (pick_Pick.calls _ _ l0_0 _ _ l0_1 a0_2 t781 t782 t783 _ ?side1 ?side2 ?side3 ?side4 ?tb A32.out).mono ?_); (case tb => exact HT.out.step (by repeat (first | (with_reducible first | exact HB.out | apply below_alloc | apply pw_below_drewN | apply below_drew1 | refine below_set ?_ GE768.out) | exact HB.out))); (case side1 => repeat (first | exact (Kd.C_below HR0_0.out HB.out) | (with_reducible refine Kd.C_alloc ?_ _) | (with_reducible refine Kd.C_drewN ?_ _) | (with_reducible refine Kd.C_drew ?_))); (case side2 => exact HC0_0.out); (case side3 => repeat (first | exact (Kd.C_below HR0_1.out HB.out) | (with_reducible refine Kd.C_alloc ?_ _) | (with_reducible refine Kd.C_drewN ?_ _) | (with_reducible refine Kd.C_drew ?_))); (case side4 => exact HC0_1.out); rintro e w61 ⟨v784, v786, rfl, ho0, ho1, hb⟩; refine ⟨_, rfl, ?_⟩; have n0_ := Aside0.mk (Kd.R_below (by (with_reducible repeat (first | apply Kd.R_alloc | apply Kd.R_drewN | apply Kd.R_drew)); exact HO_3.out) hb); have n1_ := Aside0.mk (Kd.R_lower ho0 (below_size (by repeat (first | (with_reducible first | exact HB.out | apply below_alloc | apply pw_below_drewN | apply below_drew1 | refine below_set ?_ GE768.out) | exact HB.out)))); have n2_ := Aside0.mk (Kd.R_lower ho1 (below_size (by repeat (first | (with_reducible first | exact HB.out | apply below_alloc | apply pw_below_drewN | apply below_drew1 | refine below_set ?_ GE768.out) | exact HB.out)))); have n3_ := Aside0.mk (blk_below (g := gb768) (o := .cells #[.slice A0_0 l0_0.length c0_0, .slice A0_1 l0_1.length c0_1, .int .u32 a0_2] 41 (0, 0)) (by (with_reducible repeat (first | refine blk_drewN ?_ _ | refine blk_drew ?_ | refine blk_alloc ?_ _)); exact BK768.out) hb); have n4_ := Aside0.mk (below_step (by repeat (first | (with_reducible first | exact HB.out | apply below_alloc | apply pw_below_drewN | apply below_drew1 | refine below_set ?_ GE768.out) | exact HB.out)) hb); clear HO_3; clear BK768; clear HB; have HO_3 := n0_; have HO785 := n1_; have HO787 := n2_; have BK768 := n3_; have HB := n4_; clear n0_ n1_ n2_ n3_ n4_; (try clear hb); (try clear hb2); (try clear hk); (try clear hi); (try clear ho0); (try clear ho1); have hcz62_0 : w61.cell? ⟨gb768, 0, none⟩ = some (.slice A0_0 l0_0.length c0_0) := (blk_cell BK768.out 0).trans rfl; have hcz62_1 : w61.cell? ⟨gb768, 1, none⟩ = some (.slice A0_1 l0_1.length c0_1) := (blk_cell BK768.out 1).trans rfl; have hcz62_2 : w61.cell? ⟨gb768, 2, none⟩ = some (.int .u32 a0_2) := (blk_cell BK768.out 2).trans rfl; have hfz62_0 := blk_frozen BK768.out 0; have hfz62_1 := blk_frozen BK768.out 1; have hfz62_2 := blk_frozen BK768.out 2; obtain ⟨Ao63, co63, eo63⟩ := Kd.R_slice HO_3.out; subst eo63) | ((with_reducible refine gate_callee (f := 16) rfl ?_); refine goesL_ (some 59) rfl rfl Tryd.func16 (by kernel_rfl) rfl #[.slice Ao63 x3_1.length co63, .int .u32 a0_2] rfl (by (try simp only [List.map_toArray, List.map_cons, List.map_nil]); first | done | rfl | (simp only [List.length_drop, List.length_take]; rfl)) ?_; (with_reducible refine (place_Place.calls _ _ x3_1 a0_2 t788 t789 t790 _ ?side1 ?side2 ?tb A34.out).mono ?_); (case tb => exact HT.out.step (by repeat (first | (with_reducible first | exact HB.out | apply below_alloc | apply pw_below_drewN | apply below_drew1 | refine below_set ?_ GE768.out) | exact HB.out))); (case side1 => repeat (first | exact (Kd.R_reads' HO_3.out).2.2 | (with_reducible refine Kd.C_alloc ?_ _) | (with_reducible refine Kd.C_drewN ?_ _) | (with_reducible refine Kd.C_drew ?_))); (case side2 => exact (Kd.R_reads' HO_3.out).2.1); rintro e w64 ⟨v791, rfl, ho0, hb⟩; refine ⟨_, rfl, ?_⟩; have n0_ := Aside0.mk (Kd.R_below (by (with_reducible repeat (first | apply Kd.R_alloc | apply Kd.R_drewN | apply Kd.R_drew)); exact HO_3.out) hb); have n1_ := Aside0.mk (Kd.R_elder' (by (with_reducible repeat (first | apply Kd.R_alloc | apply Kd.R_drewN | apply Kd.R_drew)); exact HO785.out) (Kd.R_base ho0) hb); have n2_ := Aside0.mk (Kd.R_below (by (with_reducible repeat (first | apply Kd.R_alloc | apply Kd.R_drewN | apply Kd.R_drew)); exact HO787.out) hb); have n3_ := Aside0.mk (Kd.R_lower (Kd.R_new' ho0 (Kd.R_lt (by (with_reducible repeat (first | apply Kd.R_alloc | apply Kd.R_drewN | apply Kd.R_drew)); exact HO785.out))) (below_size (by repeat (first | (with_reducible first | exact HB.out | apply below_alloc | apply pw_below_drewN | apply below_drew1 | refine below_set ?_ GE768.out) | exact HB.out)))); have n4_ := Aside0.mk (blk_below (g := gb768) (o := .cells #[.slice A0_0 l0_0.length c0_0, .slice A0_1 l0_1.length c0_1, .int .u32 a0_2] 41 (0, 0)) (by (with_reducible repeat (first | refine blk_drewN ?_ _ | refine blk_drew ?_ | refine blk_alloc ?_ _)); exact BK768.out) hb); have n5_ := Aside0.mk (below_step (by repeat (first | (with_reducible first | exact HB.out | apply below_alloc | apply pw_below_drewN | apply below_drew1 | refine below_set ?_ GE768.out) | exact HB.out)) hb); clear HO_3; clear HO785; clear HO787; clear BK768; clear HB; have HO_3 := n0_; have HO785 := n1_; have HO787 := n2_; have HO792 := n3_; have BK768 := n4_; have HB := n5_; clear n0_ n1_ n2_ n3_ n4_ n5_; (try clear hb); (try clear hb2); (try clear hk); (try clear hi); (try clear ho0); have hcz65_0 : w64.cell? ⟨gb768, 0, none⟩ = some (.slice A0_0 l0_0.length c0_0) := (blk_cell BK768.out 0).trans rfl; have hcz65_1 : w64.cell? ⟨gb768, 1, none⟩ = some (.slice A0_1 l0_1.length c0_1) := (blk_cell BK768.out 1).trans rfl; have hcz65_2 : w64.cell? ⟨gb768, 2, none⟩ = some (.int .u32 a0_2) := (blk_cell BK768.out 2).trans rfl; have hfz65_0 := blk_frozen BK768.out 0; have hfz65_1 := blk_frozen BK768.out 1; have hfz65_2 := blk_frozen BK768.out 2) | ((with_reducible refine gate_callee (f := 35) rfl ?_); refine goesL_ (some 67) rfl rfl Tryd.func35 (by kernel_rfl) rfl #[.slice Ao63 x3_1.length co63, .int .u32 a0_2] rfl (by (try simp only [List.map_toArray, List.map_cons, List.map_nil]); first | done | rfl | (simp only [List.length_drop, List.length_take]; rfl)) ?_; (with_reducible refine (place_Waits.calls _ _ x3_1 a0_2 t793 t794 _ ?side1 ?side2 ?tb A35.out).mono ?_); (case tb => exact HT.out.step (by repeat (first | (with_reducible first | exact HB.out | apply below_alloc | apply pw_below_drewN | apply below_drew1 | refine below_set ?_ GE768.out) | exact HB.out))); (case side1 => repeat (first | exact (Kd.R_reads' HO_3.out).2.2 | (with_reducible refine Kd.C_alloc ?_ _) | (with_reducible refine Kd.C_drewN ?_ _) | (with_reducible refine Kd.C_drew ?_))); (case side2 => exact (Kd.R_reads' HO_3.out).2.1); rintro e w66 ⟨v795, rfl, ho0, hb⟩; refine ⟨_, rfl, ?_⟩; have n0_ := Aside0.mk (Kd.R_below (by (with_reducible repeat (first | apply Kd.R_alloc | apply Kd.R_drewN | apply Kd.R_drew)); exact HO_3.out) hb); have n1_ := Aside0.mk (Kd.R_below (by (with_reducible repeat (first | apply Kd.R_alloc | apply Kd.R_drewN | apply Kd.R_drew)); exact HO785.out) hb); have n2_ := Aside0.mk (Kd.R_elder' (by (with_reducible repeat (first | apply Kd.R_alloc | apply Kd.R_drewN | apply Kd.R_drew)); exact HO787.out) (Kd.R_base ho0) hb); have n3_ := Aside0.mk (Kd.R_below (by (with_reducible repeat (first | apply Kd.R_alloc | apply Kd.R_drewN | apply Kd.R_drew)); exact HO792.out) hb); have n4_ := Aside0.mk (Kd.R_lower (Kd.R_new' ho0 (Kd.R_lt (by (with_reducible repeat (first | apply Kd.R_alloc | apply Kd.R_drewN | apply Kd.R_drew)); exact HO787.out))) (below_size (by repeat (first | (with_reducible first | exact HB.out | apply below_alloc | apply pw_below_drewN | apply below_drew1 | refine below_set ?_ GE768.out) | exact HB.out)))); have n5_ := Aside0.mk (blk_below (g := gb768) (o := .cells #[.slice A0_0 l0_0.length c0_0, .slice A0_1 l0_1.length c0_1, .int .u32 a0_2] 41 (0, 0)) (by (with_reducible repeat (first | refine blk_drewN ?_ _ | refine blk_drew ?_ | refine blk_alloc ?_ _)); exact BK768.out) hb); have n6_ := Aside0.mk (below_step (by repeat (first | (with_reducible first | exact HB.out | apply below_alloc | apply pw_below_drewN | apply below_drew1 | refine below_set ?_ GE768.out) | exact HB.out)) hb); clear HO_3; clear HO785; clear HO787; clear HO792; clear BK768; clear HB; have HO_3 := n0_; have HO785 := n1_; have HO787 := n2_; have HO792 := n3_; have HO796 := n4_; have BK768 := n5_; have HB := n6_; clear n0_ n1_ n2_ n3_ n4_ n5_ n6_; (try clear hb); (try clear hb2); (try clear hk); (try clear hi); (try clear ho0)))
                  go_ret
                  exact ⟨by first | rfl | (simp [errW_none, errW_some] <;> rfl) | (simp [*, errW_none, errW_some] <;> rfl), by repeat (first | (with_reducible first | exact HB.out | apply below_alloc | apply pw_below_drewN | apply below_drew1 | refine below_set ?_ GE768.out) | exact HB.out)⟩
              · rw [if_neg c36] at H
                have c36b0 : (t790 == 0) = false := beq_eq_false_iff_ne.mpr c36
                have c36b1 : (t790 != 0) = true := bne_iff_ne.mpr c36
                obtain rfl := Option.some.inj H
                have hcz67_0 : wr.cell? ⟨gb768, 0, none⟩ = some (.slice A0_0 l0_0.length c0_0) := (blk_cell BK768.out 0).trans rfl
                have hcz67_1 : wr.cell? ⟨gb768, 1, none⟩ = some (.slice A0_1 l0_1.length c0_1) := (blk_cell BK768.out 1).trans rfl
                have hcz67_2 : wr.cell? ⟨gb768, 2, none⟩ = some (.int .u32 a0_2) := (blk_cell BK768.out 2).trans rfl
                have hfz67_0 := blk_frozen BK768.out 0
                have hfz67_1 := blk_frozen BK768.out 1
                have hfz67_2 := blk_frozen BK768.out 2
                go_wp2_with (first | ((with_reducible refine gate_callee (f := 20) rfl ?_); refine goesL_ (some 46) rfl rfl Tryd.func20 (by kernel_rfl) rfl #[.slice A0_0 l0_0.length c0_0, .slice A0_1 l0_1.length c0_1, .int .u32 a0_2] rfl (by (try simp only [List.map_toArray, List.map_cons, List.map_nil]); first | done | rfl | (simp only [List.length_drop, List.length_take]; rfl)) ?_; (with_reducible refine (pick_Pick.calls _ _ l0_0 _ _ l0_1 a0_2 t781 t782 t783 _ ?side1 ?side2 ?side3 ?side4 ?tb A32.out).mono ?_); (case tb => exact HT.out.step (by repeat (first | (with_reducible first | exact HB.out | apply below_alloc | apply pw_below_drewN | apply below_drew1 | refine below_set ?_ GE768.out) | exact HB.out))); (case side1 => repeat (first | exact (Kd.C_below HR0_0.out HB.out) | (with_reducible refine Kd.C_alloc ?_ _) | (with_reducible refine Kd.C_drewN ?_ _) | (with_reducible refine Kd.C_drew ?_))); (case side2 => exact HC0_0.out); (case side3 => repeat (first | exact (Kd.C_below HR0_1.out HB.out) | (with_reducible refine Kd.C_alloc ?_ _) | (with_reducible refine Kd.C_drewN ?_ _) | (with_reducible refine Kd.C_drew ?_))); (case side4 => exact HC0_1.out); rintro e w68 ⟨v784, v786, rfl, ho0, ho1, hb⟩; refine ⟨_, rfl, ?_⟩; have n0_ := Aside0.mk (Kd.R_below (by (with_reducible repeat (first | apply Kd.R_alloc | apply Kd.R_drewN | apply Kd.R_drew)); exact HO_3.out) hb); have n1_ := Aside0.mk (Kd.R_lower ho0 (below_size (by repeat (first | (with_reducible first | exact HB.out | apply below_alloc | apply pw_below_drewN | apply below_drew1 | refine below_set ?_ GE768.out) | exact HB.out)))); have n2_ := Aside0.mk (Kd.R_lower ho1 (below_size (by repeat (first | (with_reducible first | exact HB.out | apply below_alloc | apply pw_below_drewN | apply below_drew1 | refine below_set ?_ GE768.out) | exact HB.out)))); have n3_ := Aside0.mk (blk_below (g := gb768) (o := .cells #[.slice A0_0 l0_0.length c0_0, .slice A0_1 l0_1.length c0_1, .int .u32 a0_2] 41 (0, 0)) (by (with_reducible repeat (first | refine blk_drewN ?_ _ | refine blk_drew ?_ | refine blk_alloc ?_ _)); exact BK768.out) hb); have n4_ := Aside0.mk (below_step (by repeat (first | (with_reducible first | exact HB.out | apply below_alloc | apply pw_below_drewN | apply below_drew1 | refine below_set ?_ GE768.out) | exact HB.out)) hb); clear HO_3; clear BK768; clear HB; have HO_3 := n0_; have HO785 := n1_; have HO787 := n2_; have BK768 := n3_; have HB := n4_; clear n0_ n1_ n2_ n3_ n4_; (try clear hb); (try clear hb2); (try clear hk); (try clear hi); (try clear ho0); (try clear ho1); have hcz69_0 : w68.cell? ⟨gb768, 0, none⟩ = some (.slice A0_0 l0_0.length c0_0) := (blk_cell BK768.out 0).trans rfl; have hcz69_1 : w68.cell? ⟨gb768, 1, none⟩ = some (.slice A0_1 l0_1.length c0_1) := (blk_cell BK768.out 1).trans rfl; have hcz69_2 : w68.cell? ⟨gb768, 2, none⟩ = some (.int .u32 a0_2) := (blk_cell BK768.out 2).trans rfl; have hfz69_0 := blk_frozen BK768.out 0; have hfz69_1 := blk_frozen BK768.out 1; have hfz69_2 := blk_frozen BK768.out 2; obtain ⟨Ao70, co70, eo70⟩ := Kd.R_slice HO_3.out; subst eo70) | ((with_reducible refine gate_callee (f := 16) rfl ?_); refine goesL_ (some 59) rfl rfl Tryd.func16 (by kernel_rfl) rfl #[.slice Ao70 x3_1.length co70, .int .u32 a0_2] rfl (by (try simp only [List.map_toArray, List.map_cons, List.map_nil]); first | done | rfl | (simp only [List.length_drop, List.length_take]; rfl)) ?_; (with_reducible refine (place_Place.calls _ _ x3_1 a0_2 t788 t789 t790 _ ?side1 ?side2 ?tb A34.out).mono ?_); (case tb => exact HT.out.step (by repeat (first | (with_reducible first | exact HB.out | apply below_alloc | apply pw_below_drewN | apply below_drew1 | refine below_set ?_ GE768.out) | exact HB.out))); (case side1 => repeat (first | exact (Kd.R_reads' HO_3.out).2.2 | (with_reducible refine Kd.C_alloc ?_ _) | (with_reducible refine Kd.C_drewN ?_ _) | (with_reducible refine Kd.C_drew ?_))); (case side2 => exact (Kd.R_reads' HO_3.out).2.1); rintro e w71 ⟨v791, rfl, ho0, hb⟩; refine ⟨_, rfl, ?_⟩; have n0_ := Aside0.mk (Kd.R_below (by (with_reducible repeat (first | apply Kd.R_alloc | apply Kd.R_drewN | apply Kd.R_drew)); exact HO_3.out) hb); have n1_ := Aside0.mk (Kd.R_elder' (by (with_reducible repeat (first | apply Kd.R_alloc | apply Kd.R_drewN | apply Kd.R_drew)); exact HO785.out) (Kd.R_base ho0) hb); have n2_ := Aside0.mk (Kd.R_below (by (with_reducible repeat (first | apply Kd.R_alloc | apply Kd.R_drewN | apply Kd.R_drew)); exact HO787.out) hb); have n3_ := Aside0.mk (Kd.R_lower (Kd.R_new' ho0 (Kd.R_lt (by (with_reducible repeat (first | apply Kd.R_alloc | apply Kd.R_drewN | apply Kd.R_drew)); exact HO785.out))) (below_size (by repeat (first | (with_reducible first | exact HB.out | apply below_alloc | apply pw_below_drewN | apply below_drew1 | refine below_set ?_ GE768.out) | exact HB.out)))); have n4_ := Aside0.mk (blk_below (g := gb768) (o := .cells #[.slice A0_0 l0_0.length c0_0, .slice A0_1 l0_1.length c0_1, .int .u32 a0_2] 41 (0, 0)) (by (with_reducible repeat (first | refine blk_drewN ?_ _ | refine blk_drew ?_ | refine blk_alloc ?_ _)); exact BK768.out) hb); have n5_ := Aside0.mk (below_step (by repeat (first | (with_reducible first | exact HB.out | apply below_alloc | apply pw_below_drewN | apply below_drew1 | refine below_set ?_ GE768.out) | exact HB.out)) hb); clear HO_3; clear HO785; clear HO787; clear BK768; clear HB; have HO_3 := n0_; have HO785 := n1_; have HO787 := n2_; have HO792 := n3_; have BK768 := n4_; have HB := n5_; clear n0_ n1_ n2_ n3_ n4_ n5_; (try clear hb); (try clear hb2); (try clear hk); (try clear hi); (try clear ho0); have hcz72_0 : w71.cell? ⟨gb768, 0, none⟩ = some (.slice A0_0 l0_0.length c0_0) := (blk_cell BK768.out 0).trans rfl; have hcz72_1 : w71.cell? ⟨gb768, 1, none⟩ = some (.slice A0_1 l0_1.length c0_1) := (blk_cell BK768.out 1).trans rfl; have hcz72_2 : w71.cell? ⟨gb768, 2, none⟩ = some (.int .u32 a0_2) := (blk_cell BK768.out 2).trans rfl; have hfz72_0 := blk_frozen BK768.out 0; have hfz72_1 := blk_frozen BK768.out 1; have hfz72_2 := blk_frozen BK768.out 2) | ((with_reducible refine gate_callee (f := 35) rfl ?_); refine goesL_ (some 67) rfl rfl Tryd.func35 (by kernel_rfl) rfl #[.slice Ao70 x3_1.length co70, .int .u32 a0_2] rfl (by (try simp only [List.map_toArray, List.map_cons, List.map_nil]); first | done | rfl | (simp only [List.length_drop, List.length_take]; rfl)) ?_; (with_reducible refine (place_Waits.calls _ _ x3_1 a0_2 t793 t794 _ ?side1 ?side2 ?tb A35.out).mono ?_); (case tb => exact HT.out.step (by repeat (first | (with_reducible first | exact HB.out | apply below_alloc | apply pw_below_drewN | apply below_drew1 | refine below_set ?_ GE768.out) | exact HB.out))); (case side1 => repeat (first | exact (Kd.R_reads' HO_3.out).2.2 | (with_reducible refine Kd.C_alloc ?_ _) | (with_reducible refine Kd.C_drewN ?_ _) | (with_reducible refine Kd.C_drew ?_))); (case side2 => exact (Kd.R_reads' HO_3.out).2.1); rintro e w73 ⟨v795, rfl, ho0, hb⟩; refine ⟨_, rfl, ?_⟩; have n0_ := Aside0.mk (Kd.R_below (by (with_reducible repeat (first | apply Kd.R_alloc | apply Kd.R_drewN | apply Kd.R_drew)); exact HO_3.out) hb); have n1_ := Aside0.mk (Kd.R_below (by (with_reducible repeat (first | apply Kd.R_alloc | apply Kd.R_drewN | apply Kd.R_drew)); exact HO785.out) hb); have n2_ := Aside0.mk (Kd.R_elder' (by (with_reducible repeat (first | apply Kd.R_alloc | apply Kd.R_drewN | apply Kd.R_drew)); exact HO787.out) (Kd.R_base ho0) hb); have n3_ := Aside0.mk (Kd.R_below (by (with_reducible repeat (first | apply Kd.R_alloc | apply Kd.R_drewN | apply Kd.R_drew)); exact HO792.out) hb); have n4_ := Aside0.mk (Kd.R_lower (Kd.R_new' ho0 (Kd.R_lt (by (with_reducible repeat (first | apply Kd.R_alloc | apply Kd.R_drewN | apply Kd.R_drew)); exact HO787.out))) (below_size (by repeat (first | (with_reducible first | exact HB.out | apply below_alloc | apply pw_below_drewN | apply below_drew1 | refine below_set ?_ GE768.out) | exact HB.out)))); have n5_ := Aside0.mk (blk_below (g := gb768) (o := .cells #[.slice A0_0 l0_0.length c0_0, .slice A0_1 l0_1.length c0_1, .int .u32 a0_2] 41 (0, 0)) (by (with_reducible repeat (first | refine blk_drewN ?_ _ | refine blk_drew ?_ | refine blk_alloc ?_ _)); exact BK768.out) hb); have n6_ := Aside0.mk (below_step (by repeat (first | (with_reducible first | exact HB.out | apply below_alloc | apply pw_below_drewN | apply below_drew1 | refine below_set ?_ GE768.out) | exact HB.out)) hb); clear HO_3; clear HO785; clear HO787; clear HO792; clear BK768; clear HB; have HO_3 := n0_; have HO785 := n1_; have HO787 := n2_; have HO792 := n3_; have HO796 := n4_; have BK768 := n5_; have HB := n6_; clear n0_ n1_ n2_ n3_ n4_ n5_ n6_; (try clear hb); (try clear hb2); (try clear hk); (try clear hi); (try clear ho0)))
                go_ret
                exact ⟨by first | rfl | (simp [errW_none, errW_some] <;> rfl) | (simp [*, errW_none, errW_some] <;> rfl), by repeat (first | (with_reducible first | exact HB.out | apply below_alloc | apply pw_below_drewN | apply below_drew1 | refine below_set ?_ GE768.out) | exact HB.out)⟩
            · rw [if_neg c33] at H
              have c33b0 : (t783 == 0) = false := beq_eq_false_iff_ne.mpr c33
              have c33b1 : (t783 != 0) = true := bne_iff_ne.mpr c33
              obtain rfl := Option.some.inj H
              have hcz74_0 : wr.cell? ⟨gb768, 0, none⟩ = some (.slice A0_0 l0_0.length c0_0) := (blk_cell BK768.out 0).trans rfl
              have hcz74_1 : wr.cell? ⟨gb768, 1, none⟩ = some (.slice A0_1 l0_1.length c0_1) := (blk_cell BK768.out 1).trans rfl
              have hcz74_2 : wr.cell? ⟨gb768, 2, none⟩ = some (.int .u32 a0_2) := (blk_cell BK768.out 2).trans rfl
              have hfz74_0 := blk_frozen BK768.out 0
              have hfz74_1 := blk_frozen BK768.out 1
              have hfz74_2 := blk_frozen BK768.out 2
              go_wp2_with (first | ((with_reducible refine gate_callee (f := 20) rfl ?_); refine goesL_ (some 46) rfl rfl Tryd.func20 (by kernel_rfl) rfl #[.slice A0_0 l0_0.length c0_0, .slice A0_1 l0_1.length c0_1, .int .u32 a0_2] rfl (by (try simp only [List.map_toArray, List.map_cons, List.map_nil]); first | done | rfl | (simp only [List.length_drop, List.length_take]; rfl)) ?_; (with_reducible refine (pick_Pick.calls _ _ l0_0 _ _ l0_1 a0_2 t781 t782 t783 _ ?side1 ?side2 ?side3 ?side4 ?tb A32.out).mono ?_); (case tb => exact HT.out.step (by repeat (first | (with_reducible first | exact HB.out | apply below_alloc | apply pw_below_drewN | apply below_drew1 | refine below_set ?_ GE768.out) | exact HB.out))); (case side1 => repeat (first | exact (Kd.C_below HR0_0.out HB.out) | (with_reducible refine Kd.C_alloc ?_ _) | (with_reducible refine Kd.C_drewN ?_ _) | (with_reducible refine Kd.C_drew ?_))); (case side2 => exact HC0_0.out); (case side3 => repeat (first | exact (Kd.C_below HR0_1.out HB.out) | (with_reducible refine Kd.C_alloc ?_ _) | (with_reducible refine Kd.C_drewN ?_ _) | (with_reducible refine Kd.C_drew ?_))); (case side4 => exact HC0_1.out); rintro e w75 ⟨v784, v786, rfl, ho0, ho1, hb⟩; refine ⟨_, rfl, ?_⟩; have n0_ := Aside0.mk (Kd.R_below (by (with_reducible repeat (first | apply Kd.R_alloc | apply Kd.R_drewN | apply Kd.R_drew)); exact HO_3.out) hb); have n1_ := Aside0.mk (Kd.R_lower ho0 (below_size (by repeat (first | (with_reducible first | exact HB.out | apply below_alloc | apply pw_below_drewN | apply below_drew1 | refine below_set ?_ GE768.out) | exact HB.out)))); have n2_ := Aside0.mk (Kd.R_lower ho1 (below_size (by repeat (first | (with_reducible first | exact HB.out | apply below_alloc | apply pw_below_drewN | apply below_drew1 | refine below_set ?_ GE768.out) | exact HB.out)))); have n3_ := Aside0.mk (blk_below (g := gb768) (o := .cells #[.slice A0_0 l0_0.length c0_0, .slice A0_1 l0_1.length c0_1, .int .u32 a0_2] 41 (0, 0)) (by (with_reducible repeat (first | refine blk_drewN ?_ _ | refine blk_drew ?_ | refine blk_alloc ?_ _)); exact BK768.out) hb); have n4_ := Aside0.mk (below_step (by repeat (first | (with_reducible first | exact HB.out | apply below_alloc | apply pw_below_drewN | apply below_drew1 | refine below_set ?_ GE768.out) | exact HB.out)) hb); clear HO_3; clear BK768; clear HB; have HO_3 := n0_; have HO785 := n1_; have HO787 := n2_; have BK768 := n3_; have HB := n4_; clear n0_ n1_ n2_ n3_ n4_; (try clear hb); (try clear hb2); (try clear hk); (try clear hi); (try clear ho0); (try clear ho1); obtain ⟨Ao76, co76, eo76⟩ := Kd.R_slice HO785.out; subst eo76))
              go_ret
              exact ⟨by first | rfl | (simp [errW_none, errW_some] <;> rfl) | (simp [*, errW_none, errW_some] <;> rfl), by repeat (first | (with_reducible first | exact HB.out | apply below_alloc | apply pw_below_drewN | apply below_drew1 | refine below_set ?_ GE768.out) | exact HB.out)⟩
  · replace c3 := Bool.eq_false_iff.mpr c3
    subst c3
    have H1 : (some false) = some r := by rw [if_neg (show ¬ (false = true) by decide)] at H; exact H
    clear H
    have H := H1
    clear H1
    obtain rfl := Option.some.inj H
    go_enter Tryd.func14, Tryd.ntmps14
    go_wp2_with (first | ((with_reducible refine gate_dst (N := 1) rfl ?_); (try (refine gate_guard (by rfl) ?_; dsimp only)); refine box_event ?hg (N := 1) ?hd (cs := #[.slice A0_0 l0_0.length c0_0, .slice A0_1 l0_1.length c0_1, .int .u32 a0_2]) (t := 41) ?hr ?_; (case hd => rfl); (case hg => rfl); (case hr => first | (go_simp; done) | (go_simp; rfl)); intro gb768 hg w77 hbox hb; have n0_ := Aside0.mk (below_step (by repeat (first | (with_reducible first | exact HB.out | apply below_alloc | apply pw_below_drewN | apply below_drew1) | exact HB.out)) hb); have n1_ := Aside0.mk (hbox); have n2_ := Aside0.mk ((by rw [hg]; exact (below_size (by repeat (first | (with_reducible first | exact HB.out | apply below_alloc | apply pw_below_drewN | apply below_drew1) | exact HB.out))) : w.heap.size ≤ gb768)); have n3_ := Aside0.mk ((by rw [hg]; exact (below_size (by repeat (first | (with_reducible first | exact HB.out | apply below_alloc | apply pw_below_drewN | apply below_drew1) | exact HB.out))) : w.heap.size ≤ gb768)); clear HB; have HB := n0_; have BK768 := n1_; have GW768 := n2_; have GE768 := n3_; clear n0_ n1_ n2_ n3_; clear hb hbox hg) | ((with_reducible refine gate_callee (f := 18) rfl ?_); refine goesL_ (some 14) rfl rfl Tryd.func18 (by kernel_rfl) rfl #[] rfl (by (try simp only [List.map_toArray, List.map_cons, List.map_nil]); first | done | rfl | (simp only [List.length_drop, List.length_take]; rfl)) ?_; (with_reducible refine (mainsheetlaw19_wakes.calls  false _ ?tb A2.out).mono ?_); (case tb => exact HT.out.step (by repeat (first | (with_reducible first | exact HB.out | apply below_alloc | apply pw_below_drewN | apply below_drew1 | refine below_set ?_ GE768.out) | exact HB.out))); rintro e w78 ⟨rfl, hb⟩; refine ⟨_, rfl, ?_⟩; have n0_ := Aside0.mk (blk_below (g := gb768) (o := .cells #[.slice A0_0 l0_0.length c0_0, .slice A0_1 l0_1.length c0_1, .int .u32 a0_2] 41 (0, 0)) (by (with_reducible repeat (first | refine blk_drewN ?_ _ | refine blk_drew ?_ | refine blk_alloc ?_ _)); exact BK768.out) hb); have n1_ := Aside0.mk (below_step (by repeat (first | (with_reducible first | exact HB.out | apply below_alloc | apply pw_below_drewN | apply below_drew1 | refine below_set ?_ GE768.out) | exact HB.out)) hb); clear BK768; clear HB; have BK768 := n0_; have HB := n1_; clear n0_ n1_; (try clear hb); (try clear hb2); (try clear hk); (try clear hi)))
    go_ret
    exact ⟨by first | rfl | (simp [errW_none, errW_some] <;> rfl) | (simp [*, errW_none, errW_some] <;> rfl), by repeat (first | (with_reducible first | exact HB.out | apply below_alloc | apply pw_below_drewN | apply below_drew1 | refine below_set ?_ GE768.out) | exact HB.out)⟩

end Go.Proofs.YtdmieaidheelbaaDoor.Q
end
/- PurePickAlone -/
section
/- PickAlone, the plain law. -/
namespace Go.Proofs.YtdmieaidheelbaaDoor.Q
open Go Go.RowKit Go.Proofs.YtdmieaidheelbaaDoorW.PrintWords Go.Proofs.YtdmieaidheelbaaDoorW.PrintLast Go.Proofs.YtdmieaidheelbaaDoorW.PrintMore
set_option linter.unusedVariables false
set_option linter.unusedSimpArgs false

theorem same19_loop (a : List S31) (hl : a.length ≤ 1000000) (d : Nat) : ∀ (k i : Nat), i + d = a.length → d < k → mainsheetlaw19_same.l0 k a a (a.length : Int) (i : Int) = some true := by
  induction d with
  | zero =>
    intro k i hi hk
    obtain ⟨k, rfl⟩ : ∃ m, k = m + 1 := ⟨k - 1, by omega⟩
    rw [mainsheetlaw19_same.l0, if_neg (by omega)]
  | succ d ih =>
    intro k i hi hk
    obtain ⟨k, rfl⟩ : ∃ m, k = m + 1 := ⟨k - 1, by omega⟩
    rw [mainsheetlaw19_same.l0, if_pos (by omega), if_pos (by omega), if_pos (by omega), if_pos (by omega), if_neg (by simp), w64 _ (by omega) (by omega), show (i : Int) + 1 = ((i + 1 : Nat) : Int) by omega, ih k (i + 1) (by omega) (by omega)]
theorem same19_refl (a : List S31) (hl : a.length ≤ 1000000) (k : Nat) (hk : a.length < k) : mainsheetlaw19_same.f k a a = some true := by
  unfold mainsheetlaw19_same.f
  rw [if_pos rfl]
  exact same19_loop a hl a.length k 0 (by omega) hk

/-! which wishes place.Check lets through -/
def OwnOk (x : S36) : Prop := 1 ≤ x.f0 ∧ x.f0 ≤ 16 ∧ -1 ≤ x.f1 ∧ x.f1 < 8 ∧ okM x.f2 = true
def Apart (x y : S36) : Prop := x.f0 ≠ y.f0 ∧ (-1 < x.f1 → x.f1 ≠ y.f1)
def GoodFrom (ms ts : List Bool) (l : List S36) : Prop := (∀ x ∈ l, OwnOk x ∧ ms.getD x.f0.toNat false = false ∧ (-1 < x.f1 → ts.getD x.f1.toNat false = false)) ∧ l.Pairwise Apart
theorem badWish_iff (ms ts : List Bool) (x : S36) : badWish ms ts x = false ↔ OwnOk x ∧ ms.getD x.f0.toNat false = false ∧ (-1 < x.f1 → ts.getD x.f1.toNat false = false) := by
  unfold badWish OwnOk
  simp only [Bool.or_eq_false_iff, decide_eq_false_iff_not, Bool.not_eq_false', Bool.and_eq_false_iff]
  constructor
  · rintro ⟨⟨⟨⟨⟨⟨h1, h2⟩, h3⟩, h4⟩, h5⟩, h6⟩, h7⟩
    exact ⟨⟨by omega, by omega, by omega, by omega, h6⟩, h3, fun h => h7.resolve_left (fun g => g h)⟩
  · rintro ⟨⟨h1, h2, h4, h5, h6⟩, h3, h7⟩
    refine ⟨⟨⟨⟨⟨⟨by omega, by omega⟩, h3⟩, by omega⟩, by omega⟩, h6⟩, ?_⟩
    by_cases g : -1 < x.f1
    · exact .inr (h7 g)
    · exact .inl g
theorem getD_set (bs : List Bool) (i j : Nat) (hi : i < bs.length) : (bs.set i true).getD j false = (bs.getD j false || decide (i = j)) := by
  rw [List.getD_eq_getElem?_getD, List.getElem?_set, List.getD_eq_getElem?_getD]
  by_cases e : i = j
  · subst e; rw [if_pos rfl, if_pos hi]; simp
  · rw [if_neg e]; simp [e]
theorem good_iff (l : List S36) : ∀ (ms ts : List Bool), ms.length = 17 → ts.length = 8 → (checkFrom ms ts l = 0 ↔ GoodFrom ms ts l) := by
  induction l with
  | nil => intro ms ts _ _; exact ⟨fun _ => ⟨by simp, List.Pairwise.nil⟩, fun _ => rfl⟩
  | cons x l ih =>
    intro ms ts hm ht
    rw [checkFrom]
    by_cases hb : badWish ms ts x = false
    · rw [if_neg (by simp [hb])]
      have hx := (badWish_iff ms ts x).1 hb
      obtain ⟨⟨o1, o2, o3, o4, o5⟩, hx2, hx3⟩ := hx
      have hl2 : (if -1 < x.f1 then ts.set x.f1.toNat true else ts).length = 8 := by split <;> simp [ht]
      rw [ih (ms.set x.f0.toNat true) _ (by simp [hm]) hl2]
      constructor
      · rintro ⟨g1, g2⟩
        refine ⟨fun y hy => ?_, List.pairwise_cons.2 ⟨fun y hy => ?_, g2⟩⟩
        · rcases List.mem_cons.1 hy with rfl | hy
          · exact ⟨⟨o1, o2, o3, o4, o5⟩, hx2, hx3⟩
          · obtain ⟨q1, q2, q3⟩ := g1 y hy
            rw [getD_set _ _ _ (by omega)] at q2
            simp only [Bool.or_eq_false_iff] at q2
            refine ⟨q1, q2.1, fun h => ?_⟩
            have := q3 h
            split at this
            · rw [getD_set _ _ _ (by omega)] at this
              simp only [Bool.or_eq_false_iff] at this
              exact this.1
            · exact this
        · obtain ⟨⟨p1, p2, p3, p4, p5⟩, q2, q3⟩ := g1 y hy
          rw [getD_set _ _ _ (by omega)] at q2
          simp only [Bool.or_eq_false_iff, decide_eq_false_iff_not] at q2
          refine ⟨fun e => q2.2 (by rw [e]), fun h e => ?_⟩
          have := q3 (by omega)
          rw [if_pos h, getD_set _ _ _ (by omega)] at this
          simp only [Bool.or_eq_false_iff, decide_eq_false_iff_not] at this
          exact this.2 (by rw [e])
      · rintro ⟨g1, g2⟩
        obtain ⟨g3, g4⟩ := List.pairwise_cons.1 g2
        refine ⟨fun y hy => ?_, g4⟩
        obtain ⟨⟨p1, p2, p3, p4, p5⟩, q2, q3⟩ := g1 y (by simp [hy])
        obtain ⟨a1, a2⟩ := g3 y hy
        refine ⟨⟨p1, p2, p3, p4, p5⟩, ?_, fun h => ?_⟩
        · rw [getD_set _ _ _ (by omega), q2, decide_eq_false (by omega)]; rfl
        · split
          · next hx => rw [getD_set _ _ _ (by omega), q3 h, decide_eq_false (by have := a2 hx; omega)]; rfl
          · exact q3 h
    · have hb' : badWish ms ts x = true := by simpa using hb
      rw [if_pos hb']
      exact ⟨(fun h => by cases h), (fun h => absurd ((badWish_iff ms ts x).2 (h.1 x (by simp))) hb)⟩
theorem pair_any {α : Type} {R : α → α → Prop} (hs : ∀ x y, R x y → R y x) : ∀ {l : List α}, l.Pairwise R → ∀ x ∈ l, ∀ y ∈ l, x ≠ y → R x y := by
  intro l
  induction l with
  | nil => intro _ x hx; simp at hx
  | cons z l ih =>
    intro h x hx y hy hne
    obtain ⟨h1, h2⟩ := List.pairwise_cons.1 h
    rcases List.mem_cons.1 hx with e | hx2
    · subst e
      rcases List.mem_cons.1 hy with e | hy
      · exact absurd e.symm hne
      · exact h1 y hy
    · rcases List.mem_cons.1 hy with e | hy
      · subst e; exact hs _ _ (h1 x hx2)
      · exact ih h2 x hx2 y hy hne
theorem apart_symm (x y : S36) (h : Apart x y) : Apart y x := ⟨fun e => h.1 e.symm, fun g e => h.2 (by omega) e.symm⟩
/-- wishes of those that it lets through, each vCPU once -/
theorem check_some {w row : List S36} (h : checkFrom (List.replicate 17 false) (List.replicate 8 false) w = 0) (hr : ∀ x ∈ row, x ∈ w) (hd : row.Pairwise (fun x y => x.f0 ≠ y.f0)) : checkFrom (List.replicate 17 false) (List.replicate 8 false) row = 0 := by
  obtain ⟨g1, g2⟩ := (good_iff w _ _ (by simp) (by simp)).1 h
  refine (good_iff row _ _ (by simp) (by simp)).2 ⟨fun x hx => g1 x (hr x hx), ?_⟩
  exact hd.imp_of_mem (fun {x y} hx hy e => pair_any apart_symm g2 x (hr x hx) y (hr y hy) (fun q => e (by rw [q])))

/-! entities of one member each -/
def rowOf19 (w : List S36) (l : List Ent) : List S36 := l.map fun x => wishOf w (rd x.f0 0)
theorem one_wish {l0 : List Ent} {w : List S36} (hs : Shape l0 w) (x : Ent) (hx : x ∈ l0) (h1 : x.f0.length = 1) : ∃ v, x.f0 = [v] ∧ rd x.f0 0 = v ∧ wishesN w x.f0 = [wishOf w v] ∧ (wishOf w v).f0 = v ∧ wishOf w v ∈ w := by
  obtain ⟨v, hv⟩ := List.length_eq_one_iff.1 h1
  have hw := hs.wishes x hx
  rw [hv] at hw
  obtain ⟨y, hy⟩ := List.length_eq_one_iff.1 (show (wishesN w [v]).length = 1 by simpa using congrArg List.length hw)
  have e : wishOf w v = y := by unfold wishOf; rw [hy]; rfl
  rw [hy] at hw
  have hyf : y.f0 = v := by simpa using hw
  refine ⟨v, hv, by rw [hv]; rfl, by rw [hv, hy, e], by rw [e]; exact hyf, ?_⟩
  rw [e]
  have : y ∈ wishesN w [v] := by rw [hy]; simp
  exact (List.mem_filter.1 this).1
theorem lessAll_one (free : Nat) (c : Int) : lessAll free [c] = minus free (2 ^ c.toNat) := rfl
theorem alone_turns {l0 : List Ent} {w : List S36} (hs : Shape l0 w) (l : List Ent) (hl : ∀ x ∈ l, x ∈ l0) (h1 : ∀ x ∈ l, x.f0.length = 1) : ∀ free,
    pickPuts (pickTurns w free l) = putsOf (turnsOf free (rowOf19 w l)) ∧ pickWaits (pickTurns w free l) = waitsOf (turnsOf free (rowOf19 w l)) := by
  induction l with
  | nil => intro free; exact ⟨rfl, rfl⟩
  | cons x l ih =>
    intro free
    obtain ⟨v, e1, e2, e3, e4, e5⟩ := one_wish hs x (hl x (by simp)) (h1 x (by simp))
    have hrow : rowOf19 w (x :: l) = wishOf w v :: rowOf19 w l := by simp [rowOf19, e2]
    have hat : atOf w free x = if (bestN (wishOf w v).f2.f0.toNat (wishOf w v).f2.f1.toNat free (wishOf w v).f1).2 then some [(bestN (wishOf w v).f2.f0.toNat (wishOf w v).f2.f1.toNat free (wishOf w v).f1).1] else none := by
      unfold atOf; rw [e3]; rfl
    rw [hrow, pickTurns, turnsOf]
    have ha := fun g => (ih (fun y hy => hl y (by simp [hy])) (fun y hy => h1 y (by simp [hy])) g).1
    have hb := fun g => (ih (fun y hy => hl y (by simp [hy])) (fun y hy => h1 y (by simp [hy])) g).2
    have pc : ∀ (p : Ent × Option (List Int)) ts, pickPuts (p :: ts) = putsP p ++ pickPuts ts := fun p ts => by simp [pickPuts]
    have pw : ∀ (p : Ent × Option (List Int)) ts, pickWaits (p :: ts) = waitsP p ++ pickWaits ts := fun p ts => by simp [pickWaits]
    have qc : ∀ (p : S36 × Int) ts, putsOf (p :: ts) = putOf p ++ putsOf ts := fun p ts => by simp [putsOf]
    have qw : ∀ (p : S36 × Int) ts, waitsOf (p :: ts) = waitOf p ++ waitsOf ts := fun p ts => by simp [waitsOf]
    rw [pc, pw, qc, qw, hat]
    cases hq : (bestN (wishOf w v).f2.f0.toNat (wishOf w v).f2.f1.toNat free (wishOf w v).f1).2 with
    | true =>
      have ht : takesOf (wishOf w v) free = (bestN (wishOf w v).f2.f0.toNat (wishOf w v).f2.f1.toNat free (wishOf w v).f1).1 := by unfold takesOf; rw [if_pos hq]
      have hf : freeOf (wishOf w v) free = minus free (2 ^ (takesOf (wishOf w v) free).toNat) := by unfold freeOf; rw [if_pos hq, ht]
      have hr := bestN_range _ _ _ _ hq
      rw [hf, ← ht]
      simp only [if_true, Option.getD_some, lessAll_one]
      rw [ha, hb]
      constructor
      · rw [show putsP (x, some [takesOf (wishOf w v) free]) = putOf (wishOf w v, takesOf (wishOf w v) free) by
          unfold putsP putOf zipP; simp only [e1]; rw [if_pos (by omega), e4]; rfl]
      · rw [show waitsP (x, some [takesOf (wishOf w v) free]) = waitOf (wishOf w v, takesOf (wishOf w v) free) by
          unfold waitsP waitOf; simp only; rw [if_neg (by omega)]]
    | false =>
      have ht : takesOf (wishOf w v) free = -1 := by unfold takesOf; rw [if_neg (by simp [hq])]
      have hf : freeOf (wishOf w v) free = free := by unfold freeOf; rw [if_neg (by simp [hq])]
      rw [hf, ht]
      simp only [Bool.false_eq_true, if_false, Option.getD_none]
      rw [show lessAll free [] = free from rfl, ha, hb]
      constructor
      · rfl
      · rw [show waitsP (x, none) = waitOf (wishOf w v, -1) by unfold waitsP waitOf; simp [e1, e4]]
theorem row_pair {l0 : List Ent} {w : List S36} (hs : Shape l0 w) (l : List Ent) (hl : ∀ x ∈ l, x ∈ l0) (h1 : ∀ x ∈ l, x.f0.length = 1) (hp : l.Pairwise (fun x y => ∀ v ∈ x.f0, v ∉ y.f0)) : (rowOf19 w l).Pairwise (fun x y => x.f0 ≠ y.f0) := by
  unfold rowOf19
  rw [List.pairwise_map]
  refine hp.imp_of_mem (fun {x y} hx hy h => ?_)
  obtain ⟨v, e1, e2, e3, e4, e5⟩ := one_wish hs x (hl x hx) (h1 x hx)
  obtain ⟨u, f1, f2, f3, f4, f5⟩ := one_wish hs y (hl y hy) (h1 y hy)
  rw [e2, f2, e4, f4]
  intro e
  exact h v (by simp [e1]) (by simp [f1, e])
theorem row_mem {l0 : List Ent} {w : List S36} (hs : Shape l0 w) (h1 : ∀ x ∈ l0, x.f0.length = 1) : ∀ y ∈ rowOf19 w l0, y ∈ w := by
  intro y hy
  obtain ⟨x, hx, rfl⟩ := List.mem_map.1 hy
  obtain ⟨v, e1, e2, e3, e4, e5⟩ := one_wish hs x hx (h1 x hx)
  rw [e2]; exact e5

theorem alone_loop (l : List Ent) (w : List S36) (a : Int) (hl : l.length ≤ 1000000) (hw : w.length ≤ 1000000)
    (fin : (∀ x ∈ l, x.f0.length = 1) → ∀ k, 100 ≤ k → mainsheetlaw19_PickAlone.l0 k (rowOf19 w l) l (l.length : Int) (l.length : Int) l w a = some true) (d : Nat) :
    ∀ (k i : Nat), i + d = l.length → d + w.length + 100 ≤ k → (∀ x ∈ l.take i, x.f0.length = 1) → mainsheetlaw19_PickAlone.l0 k (rowOf19 w (l.take i)) l (l.length : Int) (i : Int) l w a = some true := by
  induction d with
  | zero =>
    intro k i hi hk h1
    have hi' : i = l.length := by omega
    subst hi'
    rw [List.take_length] at h1 ⊢
    exact fin h1 k (by omega)
  | succ d ih =>
    intro k i hi hk h1
    obtain ⟨k, rfl⟩ : ∃ m, k = m + 1 := ⟨k - 1, by omega⟩
    have hlt : i < l.length := by omega
    rw [mainsheetlaw19_PickAlone.l0, if_pos (by omega), if_pos (by omega), if_pos (by omega), rd90_eq l i hlt]
    by_cases h : ((l[i].f0.length : Nat) : Int) = 1
    · rw [if_pos h, if_pos (by omega), wish_val l w a _ hw k (by omega), Option.bind_some, if_pos (by simp [rowOf19]; omega), w64 _ (by omega) (by omega), show (i : Int) + 1 = ((i + 1 : Nat) : Int) by omega]
      have := ih k (i + 1) (by omega) (by omega) (fun x hx => by
        rw [List.take_succ_eq_append_getElem hlt] at hx
        rcases List.mem_append.1 hx with hx | hx
        · exact h1 x hx
        · obtain rfl := List.mem_singleton.1 hx
          omega)
      rw [List.take_succ_eq_append_getElem hlt] at this
      have e : rowOf19 w (l.take i ++ [l[i]]) = rowOf19 w (l.take i) ++ [wishOf w (rd l[i].f0 0)] := by simp only [rowOf19, List.map_append, List.map_cons, List.map_nil]
      rw [e] at this
      exact this
    · rw [if_neg h]
theorem pure_PickAlone (l : List Ent) (w : List S36) (a : Int) (hwf : ∀ x ∈ w, Wf36 x) (h0 : 0 ≤ a) (h1 : a < 4294967296) : ∃ k, mainsheetlaw19_PickAlone.f k l w a = some true := by
  refine ⟨400, ?_⟩
  unfold mainsheetlaw19_PickAlone.f
  rw [wakes19, Option.bind_some, if_pos rfl]
  rcases over_val l w a 400 (by omega) with ho | ⟨ho, hl, hw, hm⟩
  · rw [ho, Option.bind_some, if_pos rfl]
  · rw [ho, Option.bind_some, if_neg (by simp)]
    have hok : okPickArgs l w a := ⟨⟨hwf, by omega, by omega⟩, h0, h1⟩
    have hP : pick_Pick.f l w a = some (if askedP l w a = 0 then (pickPuts (pickTurns w a.toNat l), pickWaits (pickTurns w a.toNat l), 0) else ([], [], askedP l w a)) := by unfold pick_Pick.f; exact if_pos hok
    refine alone_loop l w a (by omega) (by omega) (fun hone k hk => ?_) l.length 400 0 (by omega) (by omega) (by simp)
    obtain ⟨k, rfl⟩ : ∃ m, k = m + 1 := ⟨k - 1, by omega⟩
    rw [mainsheetlaw19_PickAlone.l0, if_neg (by omega), hP, Option.bind_some]
    by_cases he : askedP l w a = 0
    · rw [if_pos he, if_pos rfl]
      obtain ⟨hc, ha⟩ := askedP_ok.1 he
      obtain ⟨hs, hpc⟩ := (pickCheck_zero l w).1 hc
      have hrm := row_mem hs hone
      have hrl : (rowOf19 w l).length = l.length := by simp [rowOf19]
      have hchk : checkFrom (List.replicate 17 false) (List.replicate 8 false) (rowOf19 w l) = 0 := check_some hpc hrm (row_pair hs l (fun _ h => h) hone hs.apart)
      have hask : askedOf (rowOf19 w l) a = 0 := asked_ok.2 ⟨hchk, ha⟩
      have hoka : okArgs (rowOf19 w l) a := ⟨fun x hx => hwf x (hrm x hx), by omega, h0, h1⟩
      obtain ⟨t1, t2⟩ := alone_turns hs l (fun _ h => h) hone a.toNat
      have e1 : place_Place.f (rowOf19 w l) a = some (putsOf (turnsOf a.toNat (rowOf19 w l)), (takeAll a.toNat (putsOf (turnsOf a.toNat (rowOf19 w l))) : Int), 0) := by unfold place_Place.f; rw [if_pos hoka, if_pos hask]
      have e2 : place_Waits.f (rowOf19 w l) a = some (waitsOf (turnsOf a.toNat (rowOf19 w l)), 0) := by unfold place_Waits.f; rw [if_pos hoka, if_pos hask]
      rw [e1, Option.bind_some, e2, Option.bind_some, if_pos rfl, if_pos rfl]
      have hpl := puts_len (turnsOf a.toNat (rowOf19 w l))
      rw [turns_len, hrl] at hpl
      simp only
      rw [t1, t2, same19_refl _ (by omega) k (by omega), Option.bind_some, if_pos rfl]
      simp
    · rw [if_neg he, if_neg (by simpa using he)]
      rfl
end Go.Proofs.YtdmieaidheelbaaDoor.Q
end
/- OpenPick -/
section
/- What a law of layer 19 is handed: a wish, and an ask (its two rows and the free pCPUs), opened to the words of the walks. -/
namespace Go.Proofs.YtdmieaidheelbaaDoor.Q
open Go Go.ChangeShapes Go.WideShapes Go.ChangeAt Go.RowKit
set_option linter.unusedVariables false
set_option maxRecDepth 100000
open Go.Proofs.YtdmieaidheelbaaDoorW.PrintWords
section
variable {H : Type} {enc : TypeId × Value → H} {w : World} {base : Nat} {spare : Nat → Bool} {held : Bool}
theorem three_of {α : Type} {l : List α} (h : l.length = 3) : ∃ a b c, l = [a, b, c] := by
  match l, h with
  | [a, b, c], _ => exact ⟨a, b, c, rfl⟩
theorem open_row {α : Type} {t e : TypeId} {d : Kd α} {Wf : α → Prop} (ht : Tryd.prog.underlying t = some (.slice e)) (hC : Tryd.prog.cellsOf e = d.sz) (hE : Elem enc w base spare held e d Wf)
    {fuel : Nat} {c : Value} {x : DataW H × List MemPlace} (h : DataW.trod enc Tryd.prog w base spare held fuel t [c] = some x) :
    ∃ (A : Option Addr) (l : List α) (cap : Nat), c = .slice A l.length cap ∧ l.length ≤ cap ∧ Kd.C d w A l.length l ∧ ∀ y ∈ l, Wf y := by
  obtain ⟨A, len, cap, rfl⟩ : ∃ A len cap, c = .slice A len cap := by
    rcases Go.Deep.open_slice ht h with ⟨e, _⟩ | ⟨a, l, c, _, _, _, _, e, _⟩
    · injection e with e; exact ⟨_, _, _, e⟩
    · injection e with e; exact ⟨_, _, _, e⟩
  obtain ⟨l, hml, hcap, hC, hw⟩ := rowOf ht hC hE h
  subst hml
  exact ⟨A, l, cap, rfl, hcap, hC, hw⟩
theorem open_ask {v : Value} {b2 : Nat} {d : DataW H} {p : List MemPlace} (ok : Value.okWide Tryd.prog w .any b2 41 v) (h : DataW.Trod enc Tryd.prog w base spare held 41 v d p) :
    ∃ (A : Option Addr) (l : List S90) (c : Nat) (B : Option Addr) (m : List S36) (b : Nat) (a : Int), v = .agg #[.slice A l.length c, .slice B m.length b, .int .u32 a] ∧ l.length ≤ c ∧ m.length ≤ b ∧ Kd.C k90 w A l.length l ∧ Kd.C k36 w B m.length m ∧ (∀ x ∈ m, Wf36 x) ∧ (Lit.int .u32 a).wf = true := by
  obtain ⟨cs, rfl, hsz⟩ := okWide_struct Tryd.underlying41 ok
  obtain ⟨fuel, hf⟩ := h
  obtain ⟨xs, n, _, _, hlen, hxl, hg⟩ := DataW.trod_struct Tryd.underlying41 hf
  have hc : Tryd.prog.cellsOf 41 = 3 := by kernel_rfl
  have ce : Tryd.prog.cellsOf 39 = 1 := by kernel_rfl
  have cw : Tryd.prog.cellsOf 22 = 1 := by kernel_rfl
  have cu : Tryd.prog.cellsOf 24 = 1 := by kernel_rfl
  have c1 : Tryd.prog.cellsOf 90 = k90.sz := by kernel_rfl
  have c2 : Tryd.prog.cellsOf 36 = k36.sz := by kernel_rfl
  obtain ⟨c0, c1', c2', hcs⟩ := three_of (hlen.trans hc)
  have hcs' : cs.toList = [c0, c1', c2'] := hcs
  rw [show (Value.agg cs).cells.toList = [c0, c1', c2'] from hcs] at hg
  have h0 : DataW.trod enc Tryd.prog w base spare held n 39 (([c0, c1', c2'].drop 0).take (Tryd.prog.cellsOf 39)) = xs[0]? := hg 0 _ rfl
  rw [ce] at h0
  have h1 : DataW.trod enc Tryd.prog w base spare held n 22 (([c0, c1', c2'].drop 1).take (Tryd.prog.cellsOf 22)) = xs[1]? := hg 1 _ rfl
  rw [cw] at h1
  have h2 : DataW.trod enc Tryd.prog w base spare held n 24 (([c0, c1', c2'].drop 2).take (Tryd.prog.cellsOf 24)) = xs[2]? := hg 2 _ rfl
  rw [cu] at h2
  have hx2 : xs.length = 3 := hxl
  obtain ⟨a, rfl, wa⟩ := int_field (by omega) Tryd.underlying24 h2
  rw [List.getElem?_eq_getElem (by omega)] at h0 h1
  obtain ⟨A, l, c, rfl, hlc, hC, _⟩ := open_row Tryd.underlying39 c1 elem_entity h0
  obtain ⟨B, m, b, rfl, hmb, hD, hw⟩ := open_row Tryd.underlying22 c2 elem_wish h1
  refine ⟨A, l, c, B, m, b, a, ?_, hlc, hmb, hC, hD, hw, wa⟩
  obtain ⟨q⟩ := cs
  simp only at hcs'
  rw [hcs']
end
end Go.Proofs.YtdmieaidheelbaaDoor.Q
end
