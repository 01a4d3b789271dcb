/- place.Check by its contract: at every row of wishes. -/
import Derived.Test.YtdmieaidheelbaaDoorMasks
namespace Go.Proofs.YtdmieaidheelbaaDoor.Q
open Go Go.RowKit Go.Proofs.YtdmieaidheelbaaDoorW.PrintWords Go.Proofs.YtdmieaidheelbaaDoorW.PrintLast Go.Proofs.YtdmieaidheelbaaDoorW.PrintMore
set_option linter.unusedVariables false
set_option linter.unusedSimpArgs false

/-- why a wish may not be, behind those that were met -/
def badWish (ms ts : List Bool) (x : S36) : Bool :=
  decide (x.f0 < 1) || decide (16 < x.f0) || ms.getD x.f0.toNat false || decide (x.f1 < -1) || decide (8 ≤ x.f1) || !okM x.f2 || (decide (-1 < x.f1) && ts.getD x.f1.toNat false)
def checkFrom (ms ts : List Bool) : List S36 → Int
  | [] => 0
  | x :: l => if badWish ms ts x then 230 else checkFrom (ms.set x.f0.toNat true) (if -1 < x.f1 then ts.set x.f1.toNat true else ts) l
def Wf36 (x : S36) : Prop := Wf34 x.f2
instance (x : S36) : Decidable (Wf36 x) := inferInstanceAs (Decidable (Wf34 x.f2))
def place_Check.f (l0 : List S36) : Option Int := if (∀ x ∈ l0, Wf36 x) ∧ l0.length ≤ 1000000 then some (checkFrom (List.replicate 17 false) (List.replicate 8 false) l0) else none

/-- a block of bools -/
def Bools (w : World) (g : Nat) (t : TypeId) (bs : List Bool) : Prop := w.heap[g]? = some (.cells (bs.map Value.bool).toArray t (0, 0))
theorem Bools.cell {w : World} {g : Nat} {t : TypeId} {bs : List Bool} (h : Bools w g t bs) (i : Nat) (hi : i < bs.length) : w.cell? ⟨g, i, none⟩ = some (.bool (bs.getD i false)) := by
  rw [blk_cell h i]; simp [hi]
theorem Bools.frozen {w : World} {g : Nat} {t : TypeId} {bs : List Bool} (h : Bools w g t bs) (i : Nat) : w.frozen? ⟨g, i, none⟩ = false := blk_frozen h i
theorem Bools.set {w : World} {g : Nat} {t : TypeId} {bs : List Bool} (h : Bools w g t bs) (i : Nat) (b : Bool) : Bools (w.setCell ⟨g, i, none⟩ (.bool b)) g t (bs.set i b) := by
  have := blk_set h i (.bool b)
  unfold Bools
  rw [this]
  congr 2
  simp [List.map_set]
theorem Bools.far {w : World} {g : Nat} {t : TypeId} {bs : List Bool} (h : Bools w g t bs) {p : Addr} (hp : g ≠ p.block) (u : Value) : Bools (w.setCell p u) g t bs := blk_far h hp u
theorem Bools.alloc {w : World} {g : Nat} {t : TypeId} {bs : List Bool} (h : Bools w g t bs) (o : Obj) : Bools (w.alloc o) g t bs := (Below.heap_alloc w o g (blk_lt h)).trans h
theorem Bools.below {w w' : World} {g : Nat} {t : TypeId} {bs : List Bool} (h : Bools w g t bs) (hb : Below w.heap.size w w') : Bools w' g t bs := (hb.block g (blk_lt h)).trans h

section
variable {ms ts : List Bool} {f0 f1 : Int} {m : S34}
theorem bad1 (h : f0 < 1) : badWish ms ts ⟨f0, f1, m⟩ = true := by simp only [badWish, h, decide_true, Bool.true_or]
theorem bad2 (h : 16 < f0) : badWish ms ts ⟨f0, f1, m⟩ = true := by simp only [badWish, h, decide_true, Bool.true_or, Bool.or_true]
theorem bad3 {v : Nat} (h : ms.getD v false = true) : badWish ms ts ⟨(v : Int), f1, m⟩ = true := by simp only [badWish, Int.toNat_natCast, h, Bool.true_or, Bool.or_true]
theorem bad4 (h : f1 < -1) : badWish ms ts ⟨f0, f1, m⟩ = true := by simp only [badWish, h, decide_true, Bool.true_or, Bool.or_true]
theorem bad5 (h : 8 ≤ f1) : badWish ms ts ⟨f0, f1, m⟩ = true := by simp only [badWish, h, decide_true, Bool.true_or, Bool.or_true]
theorem bad6 (h : okM m = false) : badWish ms ts ⟨f0, f1, m⟩ = true := by simp only [badWish, h, Bool.not_false, Bool.true_or, Bool.or_true]
theorem bad7 {u : Nat} (h : ts.getD u false = true) : badWish ms ts ⟨f0, (u : Int), m⟩ = true := by
  have : (-1 : Int) < u := by omega
  simp only [badWish, Int.toNat_natCast, h, this, decide_true, Bool.and_true, Bool.or_true]
theorem good8 {v : Nat} (h1 : (1 : Int) ≤ v) (h2 : (v : Int) ≤ 16) (h3 : ms.getD v false = false) (h4 : -1 ≤ f1) (h5 : f1 ≤ 7) (h6 : okM m = true) (h7 : -1 < f1 → ts.getD f1.toNat false = false) : badWish ms ts ⟨(v : Int), f1, m⟩ = false := by
  have a1 : ¬ ((v : Int) < 1) := by omega
  have a2 : ¬ (16 < (v : Int)) := by omega
  have a4 : ¬ (f1 < -1) := by omega
  have a5 : ¬ (8 ≤ f1) := by omega
  simp only [badWish, Int.toNat_natCast, a1, a2, h3, a4, a5, h6, decide_false, Bool.false_or, Bool.not_true]
  by_cases h : -1 < f1
  · rw [h7 h]; simp
  · simp [h]
end
theorem check_step (ms ts : List Bool) (l : List S36) (k : Nat) (hk : k < l.length) : checkFrom ms ts (l.drop k) =
    if badWish ms ts (rd_T36 l k) then 230 else checkFrom (ms.set (rd_T36 l k).f0.toNat true) (if -1 < (rd_T36 l k).f1 then ts.set (rd_T36 l k).f1.toNat true else ts) (l.drop (k + 1)) := by
  rw [List.drop_eq_getElem_cons hk, checkFrom]
  have : rd_T36 l (k : Int) = l[k] := by simp [rd_T36, hk]
  rw [this]
theorem rd36_mem (l : List S36) (k : Nat) (hk : k < l.length) : rd_T36 l (k : Int) ∈ l := by
  have : rd_T36 l (k : Int) = l[k] := by simp [rd_T36, hk]
  rw [this]; exact List.getElem_mem hk

set_option maxRecDepth 100000 in
set_option maxHeartbeats 8000000 in
theorem place_Check.calls (A0 : Option Addr) (c0 : Nat) (l0 : List (S36)) (r : Int) (w : World) (hr0 : Kd.C k36 w A0 l0.length l0) (hc0 : l0.length ≤ c0) (h : place_Check.f l0 = some r) :
    Calls Tryd.prog 37 #[.slice A0 l0.length c0] w fun e w' => e = .returned (.int .i64 r) ∧ Below w.heap.size w w' := by
  unfold place_Check.f at h
  by_cases hwl : (∀ x ∈ l0, Wf36 x) ∧ l0.length ≤ 1000000
  case neg => rw [if_neg hwl] at h; cases h
  rw [if_pos hwl] at h
  obtain ⟨hwf, hlm⟩ := hwl
  have hR := Aside0.mk (Option.some.inj h)
  clear h
  have hu36 := Tryd.underlying36
  have HR0 := Aside0.mk hr0
  have HWF := Aside0.mk hwf
  have HC0 := Aside0.mk hc0
  clear hr0 hwf hc0
  go_enter Tryd.func37, Tryd.ntmps37
  go_wp2
  go_loopw [9] (fun i wr => ∃ (k : Nat) (ms ts : List Bool), k ≤ l0.length ∧ i = .int .i64 k ∧ Aside0 (checkFrom ms ts (l0.drop k) = r) ∧ ms.length = 17 ∧ ts.length = 8 ∧ Aside0 (Bools wr w.heap.size 114 ms) ∧ Aside0 (Bools wr (w.heap.size + 1) 115 ts) ∧ Aside0 (Below w.heap.size w wr))
    (fun i _ => l0.length - (intOf i).toNat)
  case atStart =>
    exact ⟨0, _, _, Nat.zero_le _, rfl, hR, by simp, by simp, ⟨(Bools.alloc (bs := List.replicate 17 false) (heap_alloc_new w _) _)⟩, ⟨by have := heap_alloc_new (w.alloc (.cells (List.replicate 17 (Value.bool false)).toArray 114)) (.cells (List.replicate 8 (Value.bool false)).toArray 115); rw [World.size_alloc] at this; exact this⟩, ⟨((Below.refl _ w).alloc (Nat.le_refl _) _).alloc (by simp) _⟩⟩
  case round =>
    obtain ⟨k, ms, ts, hk, rfl, HA, hml, htl, HM, HT, HB⟩ := hrel
    clear hR
    by_cases hlt : k < l0.length
    case neg =>
      obtain rfl : r = 0 := by
        have := HA.out
        rw [List.drop_eq_nil_of_le (by omega)] at this
        exact this.symm
      have hge : l0.length ≤ k := by omega
      clear hlt
      go_wp2
      go_ret
      exact ⟨rfl, HB.out⟩
    case pos =>
    obtain ⟨ad, rfl, hx0, hx1, hx2, hx3⟩ := at_T36 (Kd.C_below HR0.out HB.out) (k : Int) (by omega) (by omega)
    have hst := check_step ms ts l0 k hlt
    rw [HA.out] at hst
    have hwx : Wf36 (rd_T36 l0 (k : Int)) := HWF.out _ (rd36_mem l0 k hlt)
    rw [Int.toNat_natCast] at hx0 hx1 hx2 hx3
    generalize rd_T36 l0 (k : Int) = x at *
    obtain ⟨f0, f1, ⟨mh, ms'⟩⟩ := x
    obtain ⟨hw1, hw2, hw3, hw4⟩ := hwx
    simp only at hx0 hx1 hx2 hx3 hw1 hw2 hw3 hw4 hst
    have hsz : w.heap.size + 1 < wr.heap.size := blk_lt HT.out
    have HSZ := Aside0.mk hsz
    clear HA
    -- the seven tests, one behind the other
    by_cases c1 : f0 < 1
    · obtain rfl : r = 230 := by rw [hst, if_pos (bad1 c1)]
      clear hst
      go_wp2
      go_ret
      exact ⟨rfl, below_alloc HB.out _⟩
    replace c1 : 1 ≤ f0 := by omega
    by_cases c2 : 16 < f0
    · obtain rfl : r = 230 := by rw [hst, if_pos (bad2 c2)]
      clear hst
      go_wp2
      go_ret
      exact ⟨rfl, below_alloc HB.out _⟩
    replace c2 : f0 ≤ 16 := by omega
    obtain ⟨v, rfl⟩ : ∃ v : Nat, f0 = v := ⟨f0.toNat, by omega⟩
    have hmv := (HM.out.alloc (.cells #[.int .i64 (v : Int), .int .i64 f1, .int .u32 mh, .int .u32 ms'] 36)).cell v (by omega)
    rw [Int.toNat_natCast] at hst
    cases c3 : ms.getD v false with
    | true =>
      obtain rfl : r = 230 := by rw [hst, if_pos (bad3 c3)]
      clear hst
      rw [c3] at hmv
      clear c3
      go_wp2
      go_ret
      exact ⟨rfl, below_alloc HB.out _⟩
    | false =>
    rw [c3] at hmv
    by_cases c4 : f1 < -1
    · obtain rfl : r = 230 := by rw [hst, if_pos (bad4 c4)]
      clear hst c3
      go_wp2
      go_ret
      exact ⟨rfl, below_alloc HB.out _⟩
    replace c4 : -1 ≤ f1 := by omega
    by_cases c5 : 8 ≤ f1
    · obtain rfl : r = 230 := by rw [hst, if_pos (bad5 c5)]
      clear hst c3
      go_wp2
      go_ret
      exact ⟨rfl, below_alloc HB.out _⟩
    replace c5 : f1 ≤ 7 := by omega
    have HM6 : mask_Check.f 2 mh ms' = some (if okM ⟨mh, ms'⟩ then 0 else 170) := by
      have := MCheck_val mh.toNat ms'.toNat (by omega) (by omega) 2 (by omega)
      rw [show ((mh.toNat : Nat) : Int) = mh by omega, show ((ms'.toNat : Nat) : Int) = ms' by omega] at this
      exact this
    have HS := Aside0.mk hst
    clear hst
    cases c6 : okM ⟨mh, ms'⟩ with
    | false =>
      obtain rfl : r = 230 := by rw [HS.out, if_pos (bad6 c6)]
      rw [c6] at HM6
      have HM7 := Aside0.mk HM6
      clear HM6 c6 c3
      go_wp2_with (go_at_call 79; refine (mask_Check.calls 2 mh ms' 170 _ HM7.out).mono ?_; rintro e w1 ⟨rfl, hb1⟩; have HB1 := Aside0.mk hb1; clear hb1)
      go_ret
      exact ⟨rfl, below_step (below_alloc HB.out _) HB1.out⟩
    | true =>
    rw [c6] at HM6
    have HM7 := Aside0.mk HM6
    have C36 := Aside0.mk (And.intro c3 c6)
    clear HM6 c6 c3
    have hbc : ∀ {w1 : World}, Below (wr.heap.size + 1) (wr.alloc (.cells #[.int .i64 v, .int .i64 f1, .int .u32 mh, .int .u32 ms'] 36)) w1 →
        Bools w1 w.heap.size 114 ms ∧ Bools w1 (w.heap.size + 1) 115 ts ∧ w1.cell? ⟨wr.heap.size, 0, none⟩ = some (.int .i64 v) ∧ w1.cell? ⟨wr.heap.size, 1, none⟩ = some (.int .i64 f1) ∧ w1.cell? ⟨wr.heap.size, 2, none⟩ = some (.int .u32 mh) ∧ w1.cell? ⟨wr.heap.size, 3, none⟩ = some (.int .u32 ms') := fun hb => by
      have hn := heap_alloc_new wr (.cells #[.int .i64 (v : Int), .int .i64 f1, .int .u32 mh, .int .u32 ms'] 36)
      have hn1 := (hb.block wr.heap.size (by omega)).trans hn
      exact ⟨(hb.block _ (by omega)).trans (HM.out.alloc _), (hb.block _ (by omega)).trans (HT.out.alloc _), blk_cell hn1 0, blk_cell hn1 1, blk_cell hn1 2, blk_cell hn1 3⟩
    have HBC := Aside0.mk (fun w1 => @hbc w1)
    clear hbc
    by_cases c7 : -1 < f1
    · obtain ⟨u, rfl⟩ : ∃ u : Nat, f1 = u := ⟨f1.toNat, by omega⟩
      have hu8 : u < 8 := by omega
      cases c8 : ts.getD u false with
      | true =>
        obtain rfl : r = 230 := by rw [HS.out, if_pos (bad7 c8)]
        have C8 := Aside0.mk c8
        clear c8 hmv
        have hmv := (HM.out.alloc (.cells #[.int .i64 (v : Int), .int .i64 (u : Int), .int .u32 mh, .int .u32 ms'] 36)).cell v (by omega)
        rw [C36.out.1] at hmv
        go_wp2_with (go_at_call 79; refine (mask_Check.calls 2 mh ms' 0 _ HM7.out).mono ?_; rintro e w1 ⟨rfl, hb1⟩; obtain ⟨HM2, HT2, k0, k1, k2, k3⟩ := HBC.out w1 (by simpa using hb1); have HB1 := Aside0.mk (below_step (below_alloc HB.out _) hb1); clear hb1; have m1 := HM2.cell v (by omega); have m2 := HM2.frozen v; have HM3 := Aside0.mk HM2; have HT3 := Aside0.mk HT2; have m3 := HT2.cell u (by omega); rw [C8.out] at m3; clear HM2 HT2)
        go_ret
        exact ⟨rfl, HB1.out⟩
      | false =>
        have C8 := Aside0.mk c8
        have HS2 := HS.out
        rw [good8 c1 c2 C36.out.1 c4 c5 C36.out.2 (fun _ => by rw [Int.toNat_natCast]; exact c8), if_neg (by simp), if_pos c7, Int.toNat_natCast] at HS2
        have HS3 := Aside0.mk HS2.symm
        clear c8 HS HS2
        go_wp2_with (go_at_call 79; refine (mask_Check.calls 2 mh ms' 0 _ HM7.out).mono ?_; rintro e w1 ⟨rfl, hb1⟩; obtain ⟨HM2, HT2, k0, k1, k2, k3⟩ := HBC.out w1 (by simpa using hb1); have HB1 := Aside0.mk (below_step (below_alloc HB.out _) hb1); clear hb1; have m1 := HM2.cell v (by omega); have m2 := HM2.frozen v; have HM3 := Aside0.mk HM2; have HT3 := Aside0.mk HT2; have m3 := HT2.cell u (by omega); have m4 := HT2.frozen u; rw [C8.out] at m3; clear HM2 HT2)
        go_roundw
        case rel =>
          refine ⟨k + 1, ms.set v true, ts.set u true, by omega, by go_num, HS3, by simpa using hml, by simpa using htl, ⟨(HM3.out.set v true).far (by simp) _⟩, ⟨(HT3.out.far (by simp) _).set u true⟩, ⟨?_⟩⟩
          exact (HB1.out.setCell (p := ⟨w.heap.size, v, none⟩) (Nat.le_refl _) _).setCell (p := ⟨w.heap.size + 1, u, none⟩) (by simp) _
        case measure => simp [intOf]; omega
    · obtain rfl : f1 = -1 := by omega
      have HS2 := HS.out
      rw [good8 c1 c2 C36.out.1 c4 c5 C36.out.2 (fun h => absurd h c7), if_neg (by simp), if_neg c7] at HS2
      have HS3 := Aside0.mk HS2.symm
      clear HS HS2 c7 c4 c5
      go_wp2_with (go_at_call 79; refine (mask_Check.calls 2 mh ms' 0 _ HM7.out).mono ?_; rintro e w1 ⟨rfl, hb1⟩; obtain ⟨HM2, HT2, k0, k1, k2, k3⟩ := HBC.out w1 (by simpa using hb1); have HB1 := Aside0.mk (below_step (below_alloc HB.out _) hb1); clear hb1; have m1 := HM2.cell v (by omega); have m2 := HM2.frozen v; have HM3 := Aside0.mk HM2; have HT3 := Aside0.mk HT2; clear HM2 HT2)
      go_roundw
      case rel =>
        refine ⟨k + 1, ms.set v true, ts, by omega, by go_num, HS3, by simpa using hml, by simpa using htl, ⟨HM3.out.set v true⟩, ⟨HT3.out.far (by simp) _⟩, ⟨?_⟩⟩
        exact HB1.out.setCell (p := ⟨w.heap.size, v, none⟩) (Nat.le_refl _) _
      case measure => simp [intOf]; omega
#print axioms place_Check.calls
end Go.Proofs.YtdmieaidheelbaaDoor.Q
