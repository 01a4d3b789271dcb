/- place.Place by its contract. -/
import Derived.Test.YtdmieaidheelbaaDoorPlaceM
import Derived.WalkSmall
namespace Go.Proofs.YtdmieaidheelbaaDoor.Q
open Go Go.RowKit Go.Shelf Go.Proofs.YtdmieaidheelbaaDoor.Rng Go.Proofs.YtdmieaidheelbaaDoorW.PrintWords Go.Proofs.YtdmieaidheelbaaDoorW.PrintLast Go.Proofs.YtdmieaidheelbaaDoorW.PrintMore
set_option linter.unusedVariables false
set_option linter.unusedSimpArgs false
attribute [local go_sem] Oper.semAt_some

set_option maxRecDepth 100000 in
set_option maxHeartbeats 8000000 in
theorem place_no (A0 : Option Addr) (c0 : Nat) (l0 : List (S36)) (a1 : Int) (w : World) (hr0 : Kd.C k36 w A0 l0.length l0) (hc0 : l0.length ≤ c0) (hok : okArgs l0 a1) (hne : askedOf l0 a1 ≠ 0) :
    Calls Tryd.prog 16 #[.slice A0 l0.length c0, .int .u32 a1] w fun e w' => e = .returned (.tuple #[.slice none 0 0, .int .u32 0, .int .i64 (askedOf l0 a1)]) ∧ Below w.heap.size w w' := by
  have hv := Aside0.mk (asked_val l0 a1 hok)
  have hr1 := Aside0.mk hr0
  have hc1 := Aside0.mk hc0
  generalize askedOf l0 a1 = q at *
  have hq : (q != 0) = true := by rw [bne_iff_ne]; exact hne
  clear hne hr0 hc0 hok
  go_enter Tryd.func16, Tryd.ntmps16
  go_wp2_with (go_at_call 57; refine (place_asked.calls A0 c0 l0 a1 q _ hr1.out hc1.out hv.out).mono ?_; rintro e w1 ⟨rfl, hb1⟩; have HB1 := Aside0.mk hb1; clear hb1)
  go_ret3
  exact ⟨rfl, HB1.out⟩

/-- what a round keeps: the iterator's own variables, and all that lay -/
def keepP (b n₀ k : Nat) : Prop := k = b ∨ k = b + 1 ∨ k < n₀
def ownP (b k : Nat) : Prop := k = b ∨ k = b + 1 + 1
/-- between two rounds -/
def PlaceI (w4 : World) (b : Nat) (pre : List (S36 × Int)) (W : World) : Prop :=
  Held W w4.heap.size b 26 31 2 (putsOf pre).length ((putsOf pre).flatMap enc31) ∧ Turned w4.heap.size (ownP b) w4 W
def NoExit (_ : Code) (_ : World) : Prop := False

set_option maxRecDepth 100000 in
set_option maxHeartbeats 8000000 in
theorem place_yes (A0 : Option Addr) (c0 : Nat) (l0 : List (S36)) (free : Nat) (w : World) (hr0 : Kd.C k36 w A0 l0.length l0) (hc0 : l0.length ≤ c0) (hok : okArgs l0 free) (h0 : askedOf l0 free = 0) (hf : free < 256) (hT : TabW w) :
    Calls Tryd.prog 16 #[.slice A0 l0.length c0, .int .u32 free] w fun e w' => ∃ v, e = .returned (.tuple #[v, .int .u32 (takeAll free (putsOf (turnsOf free l0)) : Nat), .int .i64 0]) ∧ Kd.R k31 31 w' w.heap.size (fun _ => True) v (putsOf (turnsOf free l0)) ∧ Below w.heap.size w w' := by
  have hv := asked_val l0 free hok
  rw [h0] at hv
  obtain ⟨hwf, hlen, -, -⟩ := hok
  have HV := Aside0.mk hv
  have HR := Aside0.mk hr0
  have HC := Aside0.mk hc0
  have HWF := Aside0.mk hwf
  have HT := Aside0.mk hT
  have HW := Aside0.mk (Wishes.of hr0)
  clear hv hr0 hc0 hwf hT h0
  refine (callsIn_wide (n := 9)).1 ?_
  refine callsIn_of_wp_marks Tryd.func16 rfl trivial ?_ rfl
  simp only [Tryd.ntmps16, List.size_toArray, List.length_cons, List.length_nil, Nat.reduceAdd, Nat.reduceSub, Array.replicate_succ, Array.replicate_zero, List.push_toArray, List.append_toArray, List.nil_append, List.cons_append]
  gi_wp2_with (first
    | (refine ⟨trivial, ?_⟩; gi_at_call 57; refine (callsIn_wide.2 (place_asked.calls A0 c0 l0 free 0 _ HR.out HC.out HV.out)).mono ?_; rintro e w1 ⟨rfl, hb1⟩; have HB1 := Aside0.mk hb1; clear hb1)
    | (refine ⟨trivial, ?_⟩; gi_at_call 58; refine (callsIn_wide.2 (turns_calls _ _ _ _ _)).mono ?_; rintro e w2 ⟨rfl, rfl⟩))
  have hsz1 := HB1.out.size
  have hpos := HT.out.pos
  have HT1 := HT.out.step HB1.out
  have hB : Below w1.heap.size w1 (((w1.alloc (.cells #[.slice none 0 0] 26)).alloc (.cells #[.slice A0 l0.length c0] 22)).alloc (.cells #[.int .u32 free] 24)) :=
    (((Below.refl _ w1).alloc (Nat.le_refl _) _).alloc (by simp) _).alloc (by simp; omega) _
  have b0 := Boxed.new w1 26 (.slice none 0 0)
  have b1 := Boxed.new (w1.alloc (.cells #[.slice none 0 0] 26)) 22 (.slice A0 l0.length c0)
  have b2 := Boxed.new ((w1.alloc (.cells #[.slice none 0 0] 26)).alloc (.cells #[.slice A0 l0.length c0] 22)) 24 (.int .u32 free)
  simp only [World.size_alloc] at b1 b2
  replace b0 := (b0.alloc (.cells #[.slice A0 l0.length c0] 22)).alloc (.cells #[.int .u32 free] 24)
  replace b1 := b1.alloc (.cells #[.int .u32 free] 24)
  have hsz : (((w1.alloc (.cells #[.slice none 0 0] 26)).alloc (.cells #[.slice A0 l0.length c0] 22)).alloc (.cells #[.int .u32 free] 24)).heap.size = w1.heap.size + 3 := by simp
  have HT4 := HT1.step hB
  have hszl : w1.heap.size + 3 ≤ (((w1.alloc (.cells #[.slice none 0 0] 26)).alloc (.cells #[.slice A0 l0.length c0] 22)).alloc (.cells #[.int .u32 free] 24)).heap.size := by simp
  have HW4 := HW.out.same (W' := ((w1.alloc (.cells #[.slice none 0 0] 26)).alloc (.cells #[.slice A0 l0.length c0] 22)).alloc (.cells #[.int .u32 free] 24)) (fun k hk => (hB.block k (by omega)).trans (HB1.out.block k hk))
  obtain ⟨w4, hw4⟩ : ∃ w4, (((w1.alloc (.cells #[.slice none 0 0] 26)).alloc (.cells #[.slice A0 l0.length c0] 22)).alloc (.cells #[.int .u32 free] 24)) = w4 := ⟨_, rfl⟩
  rw [hw4] at b0 b1 b2 hB hsz hszl HT4 HW4 ⊢
  clear hw4
  have hit := turns1_iter (w1.heap.size + 1) (w1.heap.size + 1 + 1) w.heap.size A0 c0 l0 free hf hlen HWF.out w4 b1 b2 HT4 HW4 (by omega) (by omega) hpos
  have htl := turns_len free l0
  have HBA := Aside0.mk (below_step HB1.out hB)
  obtain ⟨i0, hi, hz0, hz1, hz2⟩ := info_parts info31
  refine wpIn_range (gf := 88) (lb := #[.pointer (some ⟨w1.heap.size + 1, 0, none⟩), .pointer (some ⟨w1.heap.size + 1 + 1, 0, none⟩)]) rfl (enters_of Tryd.func88 (by kernel_rfl) rfl) (keep := keepP (w1.heap.size + 1) w.heap.size) hit (fun _ => rfl) (by omega) (fun k hk => by unfold keepP at hk; omega)
    (PlaceI w4 w1.heap.size) NoExit
    ?calm (fun _ _ _ _ h _ _ => h.elim) ⟨⟨_, b0, World.ownsRow_nil _ _ _ _⟩, Turned.refl _ _ _⟩
    (fun pre x a' W => PlaceI w4 w1.heap.size pre W ∧
      ∃ bx, w4.heap.size ≤ bx ∧ W.heap[bx]? = some (.cells #[.int .i64 x.1.f0, .int .i64 x.1.f1, .int .u32 x.1.f2.f0, .int .u32 x.1.f2.f1] 36 (0, 0)) ∧
      a' = { tmps := ([.slice A0 l0.length c0, .int .u32 free, undef, undef, .slice none 0 0, .int .u32 0, .int .i64 0, .int .i64 0, .pointer (some ⟨w1.heap.size, 0, none⟩), .pointer (some ⟨bx, 0, none⟩), .int .i64 x.2, undef, undef, .slice A0 l0.length c0, .int .u32 free, .int .i64 0, .int .i64 0, .bool false, undef, .slice A0 l0.length c0, .int .u32 free,
        .func (.func 88) #[] #[.pointer (some ⟨w1.heap.size + 1, 0, none⟩), .pointer (some ⟨w1.heap.size + 1 + 1, 0, none⟩)], .agg #[.int .i64 x.1.f0, .int .i64 x.1.f1, .int .u32 x.1.f2.f0, .int .u32 x.1.f2.f1], .int .i64 x.2] ++ [undef, undef, undef, undef, undef, undef, undef, undef, undef, undef, undef, undef, undef, undef, undef, undef, undef, undef, undef, undef, undef, undef, undef]).toArray, defers := [] })
    ?calma ?assign ?body ?done (fun _ _ _ _ h _ => h.elim)
  case calm =>
    rintro pre X Y r ⟨h1, h2⟩ hg hr
    have hXs := h2.size
    refine ⟨h1.far hg ?_, h2.grown hg hXs (fun k e => by injection e with e; subst e; rcases hr with rfl | ⟨h, _⟩; exact .inl (.inr rfl); exact .inr h)⟩
    rcases hr with rfl | ⟨h, ho⟩
    · exact .inl ⟨by omega, by omega⟩
    · exact .inr ho
  case calma =>
    rintro ⟨pre, x, a'⟩ X Y r ⟨⟨h1, h2⟩, bx, h3, h4, h5⟩ hg ⟨hr, o, ho, hcl⟩
    have hXs := h2.size
    refine ⟨⟨h1.far hg (.inr ⟨o, ho, hcl⟩), h2.grown hg hXs (fun k e => by injection e with e; subst e; exact .inr hr)⟩, bx, h3, blk_grown h4 hg (fun e => ?_), h5⟩
    injection e with e
    subst e
    rw [h4] at ho; cases ho; cases hcl
  case assign =>
    rintro lp pre ⟨x, c⟩ rest W K hx hszW ⟨h1, h2⟩ hK
    have hu36 := Tryd.underlying36
    have HK := Aside0.mk hK
    clear hK hit hB b0 b1 b2 htl hi hz0 hz1 hz2 hsz hx
    dsimp only [encTurn]
    gi_wp2
    refine HK.out _ _ ((KeepsOthers.alloc _ _).from _) (fun k hk => Below.heap_alloc _ _ _ (by unfold keepP at hk; omega)) ⟨⟨h1.alloc _, h2.alloc hszW _⟩, W.heap.size, hszW, heap_alloc_new W _, rfl⟩
  case body =>
    rintro lp pre ⟨x, c⟩ rest a' W hx hszW ⟨⟨⟨v, hv, hrow⟩, h2⟩, bx, h3, h4, rfl⟩
    simp only [List.cons_append, List.nil_append] at h4 ⊢
    have c0' := hv.cell
    have k0 := blk_cell h4 0
    simp only [List.getElem?_toArray, List.getElem?_cons_zero] at k0
    have hpl : (putsOf pre).length < 1000000 := by
      have h1 := puts_len pre
      have h2 := congrArg List.length hx
      rw [htl] at h2; simp at h2; omega
    have HX := Aside0.mk hx
    have HX2 := Aside0.mk h2
    clear hx hit hB b0 b1 b2 h2 htl hsz
    by_cases hc : -1 < c
    · gi_wp2_with (gi_at_builtin; (refine wpListIn_append_own _ rfl _ _ 26 rfl w4.heap.size 31 i0 (.agg #[.int .i64 0, .int .i64 0]) 2 16 Tryd.underlying26 hi hz0 hz1 hz2 rfl (by decide) _ _ _ rfl (hrow.alloc _) ⟨W.heap.size, 0, none⟩ 1 1 [.int .i64 x.f0, .int .i64 c] rfl rfl (cell_two_new _ _ _ _) (by simp [Value.oneCell']) (by unfold maxLen; omega) (by omega) (by simp; omega) ?_); intro v' w2 hown' hgrow _; obtain ⟨g', cap', rfl⟩ := ownsRow_succ hown'; obtain ⟨hv1, hv2, hk2, hb2⟩ := appended2 (own := fun k => k = w1.heap.size) hv (by decide) hrow hszW rfl hown' hgrow; have hc1 := hv1.cell; have hf1 := hv1.frozen)
      refine ⟨hk2.from _, hb2.same (fun k hk => by unfold keepP at hk; exact ⟨by omega, by omega⟩), ?_, HX2.out.trans (hb2.weaken (fun k hk => .inl hk))⟩
      rw [puts_snoc, show putOf (x, c) = [⟨x.f0, c⟩] from if_pos hc]
      simpa [enc31] using hv2
    · have hc' : c ≤ -1 := by omega
      clear hc
      gi_wp2
      refine ⟨KeepsFrom.refl _ _, Same.refl _ _, ⟨v, hv, ?_⟩, HX2.out⟩
      rw [puts_snoc, show putOf (x, c) = [] from if_neg (by simp; omega), List.append_nil]
      exact hrow
  case done =>
    rintro D W hD ⟨⟨v, hv, hrow⟩, h2⟩ hK
    have HPR := Aside0.mk (puts_range l0 free)
    have hpl : (putsOf (turnsOf free l0)).length ≤ 1000000 := by have h1 := puts_len (turnsOf free l0); rw [htl] at h1; omega
    have HKR := Aside0.mk (R31_of_own hrow)
    obtain ⟨Av, cv, hvs⟩ := Kd.R_slice HKR.out
    generalize hps : putsOf (turnsOf free l0) = ps at *
    have HPS := Aside0.mk hps
    clear hps
    subst hvs
    have c0' := hv.cell
    have HX2 := Aside0.mk h2
    have HRow := Aside0.mk hrow
    obtain ⟨Ar, cr, hvr, hcr, hC⟩ := Kd.R_reads HKR.out
    obtain ⟨rfl, rfl⟩ : Av = Ar ∧ cv = cr := by injection hvr with h1 h2 h3; exact ⟨h1, h3⟩
    have HCr := Aside0.mk hC
    have HK := Aside0.mk hK
    clear hit hB b0 b1 b2 h2 htl hi hz0 hz1 hz2 hsz hrow hvr hC hK HT1 HW4 HT4
    gi_wp2
    gi_loopw [1, 35] (fun f i wr => ∃ (k : Nat), k ≤ ps.length ∧ i = .int .i64 k ∧ f = .int .u32 (takeAll free (ps.take k) : Nat) ∧ Aside0 (Below W.heap.size W wr)) (fun _ i _ => ps.length - (intOf i).toNat)
    case atStart => exact ⟨0, Nat.zero_le _, rfl, rfl, ⟨Below.refl _ _⟩⟩
    case round =>
      obtain ⟨k, hk, rfl, rfl, HB5⟩ := hrel
      have hfr := takeAll_lt free (ps.take k) hf
      by_cases hlt : k < ps.length
      · obtain ⟨ad, rfl, hp0, hp1⟩ := at_T31 (Kd.C_below HCr.out HB5.out) (k : Int) (by omega) (by omega)
        rw [Int.toNat_natCast] at hp0 hp1
        have hst := takeAll_step free ps k hlt
        have hrg := HPR.out _ (rd31_mem ps k hlt)
        generalize rd_T31 ps (k : Int) = p at *
        obtain ⟨p0, p1⟩ := p
        obtain ⟨q1, q2⟩ := hrg
        simp only at hp0 hp1 hst q1 q2
        obtain ⟨d, rfl⟩ : ∃ d : Nat, p1 = d := ⟨p1.toNat, by omega⟩
        have hd8 : d < 8 := by omega
        rw [Int.toNat_natCast] at hst
        have HST := Aside0.mk hst
        generalize hfe : takeAll free (ps.take k) = fr at *
        have HFE := Aside0.mk hfe
        have hu31 := Tryd.underlying31
        have hd0 : (0 : Int) ≤ d := by omega
        clear hst hfe q1 q2
        gi_wp2
        go_roundw
        case rel =>
          refine ⟨k + 1, by omega, by go_num, ?_, ⟨below_alloc HB5.out _⟩⟩
          have h2 := pow_lt256 d hd8
          rw [HST.out, ← andNot_byte fr (2 ^ d) hfr h2]
          congr 2
          rw [show (2 : Int) ^ d = ((2 ^ d : Nat) : Int) by simp]
          generalize 2 ^ d = q at h2 ⊢
          omega
        case measure => simp [intOf]; omega
      · obtain rfl : k = ps.length := by omega
        have hle : ps.length ≤ ps.length := Nat.le_refl _
        have hcB : wr.cell? ⟨w1.heap.size, 0, none⟩ = some (.slice Av ps.length cv) := pw_cell_below HB5.out c0'
        clear hlt c0'
        gi_wp2
        have hK' := (HB5.out.block D (Array.getElem?_eq_some_iff.1 HK.out).1).trans HK.out
        refine ⟨by simp, .inl ⟨_, _, rfl, run_takeDeferred hK', ?_⟩⟩
        refine ⟨_, results_tmp3 rfl _ _ _, .slice Av ps.length cv, ?_, ?_, ?_⟩
        · rw [HPS.out]
          show Ending.returned (.tuple #[.slice Av ps.length cv, .int .u32 (takeAll free (ps.take ps.length) : Nat), .int .i64 0]) = _
          rw [List.take_length]
        · rw [HPS.out]
          exact R31_of_own (ownsRow_lower (ownsRow_putObj (pw_own_below HRow.out HB5.out) _ hK' rfl) (Nat.le_trans HBA.out.size (Nat.le_refl _)))
        · have hB1 : Below w.heap.size w4 W := HX2.out.below HBA.out.size (fun k hk => by unfold ownP at hk; omega)
          have hB2 : Below w.heap.size w wr := (HBA.out.trans hB1).trans (HB5.out.mono (Nat.le_trans HBA.out.size HX2.out.size))
          exact below_far hB2 (Nat.le_refl _) (B := w.heap.size) (Nat.le_refl _) (grownBy_putObj' _ D _) (by have := HBA.out.size; omega)


theorem place_Place.calls (A0 : Option Addr) (c0 : Nat) (l0 : List (S36)) (a1 : Int) (r1 : List (S31)) (r2 : Int) (r3 : Int) (w : World) (hr0 : Kd.C k36 w A0 l0.length l0) (hc0 : l0.length ≤ c0) (hT : TabW w) (h : place_Place.f l0 a1 = some (r1, r2, r3)) :
    Calls Tryd.prog 16 #[.slice A0 l0.length c0, .int .u32 a1] w fun e w' => ∃ v0_ : Value, e = .returned (.tuple #[v0_, .int .u32 r2, .int .i64 r3]) ∧ Kd.R k31 31 w' w.heap.size (fun _ => True) v0_ r1 ∧ Below w.heap.size w w' := by
  unfold place_Place.f at h
  by_cases hok : okArgs l0 a1
  case neg => rw [if_neg hok] at h; cases h
  rw [if_pos hok] at h
  replace h := Option.some.inj h
  by_cases h0 : askedOf l0 a1 = 0
  · rw [if_pos h0] at h
    injection h with e1 h
    injection h with e2 e3
    subst e1 e2 e3
    have hf : a1 < 256 := by
      unfold askedOf at h0
      split at h0
      · next hc => exact absurd h0 hc
      · split at h0
        · assumption
        · cases h0
    obtain ⟨free, rfl⟩ : ∃ n : Nat, a1 = n := ⟨a1.toNat, by have := hok.2.2.1; omega⟩
    exact place_yes A0 c0 l0 free w hr0 hc0 hok h0 (by omega) hT
  · rw [if_neg h0] at h
    injection h with e1 h
    injection h with e2 e3
    subst e1 e2 e3
    exact (place_no A0 c0 l0 a1 w hr0 hc0 hok h0).mono fun e w' h => ⟨_, h.1, Kd.R_nil _ _ _ _ _, h.2⟩

#print axioms place_Place.calls
end Go.Proofs.YtdmieaidheelbaaDoor.Q
