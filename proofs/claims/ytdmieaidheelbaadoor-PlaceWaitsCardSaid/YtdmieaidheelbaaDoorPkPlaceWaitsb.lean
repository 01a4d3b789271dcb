/- Texts of the proof of PlaceWaits, joined. -/
import Derived.Maps.OwnIn
import Derived.Maps.Own
import Derived.Maps.OwnSet
import Derived.Maps.OwnOps
import Derived.Maps.Views
import Derived.WalkSmall
import Derived.WalkMore
import Derived.Deep.LoopGhost
import Derived.BigQuiet
import Derived.Deep.QuietTactic
import Derived.Test.YtdmieaidheelbaaDoorPkPlaceWaitsa
/- Turns -/
section
/- place.turns: the iterator over wishes and the pCPUs that they take, by its contract. -/
namespace Go.Proofs.YtdmieaidheelbaaDoor.Q
open Go Go.RowKit Go.Shelf Go.Proofs.YtdmieaidheelbaaDoor.Rng Go.Proofs.YtdmieaidheelbaaDoorW.PrintWords Go.Proofs.YtdmieaidheelbaaDoorW.PrintLast Go.Proofs.YtdmieaidheelbaaDoorW.PrintMore
set_option linter.unusedVariables false
set_option linter.unusedSimpArgs false

/-- the pCPU that a wish takes of a set; -1: none -/
def takesOf (x : S36) (free : Nat) : Int := if (bestN x.f2.f0.toNat x.f2.f1.toNat free x.f1).2 then (bestN x.f2.f0.toNat x.f2.f1.toNat free x.f1).1 else -1
def freeOf (x : S36) (free : Nat) : Nat := if (bestN x.f2.f0.toNat x.f2.f1.toNat free x.f1).2 then minus free (2 ^ (bestN x.f2.f0.toNat x.f2.f1.toNat free x.f1).1.toNat) else free
def turnsOf (free : Nat) : List S36 → List (S36 × Int)
  | [] => []
  | x :: l => (x, takesOf x free) :: turnsOf (freeOf x free) l

theorem list_mem (s : Nat) (c : Int) (h : c ∈ listOf s) : 0 ≤ c ∧ c < 8 ∧ s.testBit c.toNat = true := by
  unfold listOf at h
  obtain ⟨n, hn, rfl⟩ := List.mem_map.1 h
  obtain ⟨h1, h2⟩ := List.mem_filter.1 hn
  have : n < 8 := by simpa using h1
  rw [Int.toNat_natCast] at h2
  exact ⟨by omega, by omega, by simpa using h2⟩
theorem nextOf_mem (s : Nat) (a : Int) (h : (nextOf s a).2 = true) : (nextOf s a).1 ∈ listOf s := by
  unfold nextOf at h ⊢
  cases hf : (listOf s).find? fun c => decide (a < c) with
  | none => rw [hf] at h; simp at h
  | some c => exact List.mem_of_find?_eq_some hf
theorem bestN_range (h s p : Nat) (a : Int) (hb : (bestN h s p a).2 = true) : 0 ≤ (bestN h s p a).1 ∧ (bestN h s p a).1 < 8 := by
  unfold bestN at hb ⊢
  cases hh : hasN (allowsN h s p) a with
  | true =>
    simp only [if_true]
    unfold hasN at hh
    simp at hh
    exact ⟨hh.1.1, hh.1.2⟩
  | false =>
    rw [hh] at hb
    simp only [Bool.false_eq_true, if_false] at hb ⊢
    have := list_mem _ _ (nextOf_mem _ _ hb)
    exact ⟨this.1, this.2.1⟩
theorem freeOf_lt (x : S36) (free : Nat) (hf : free < 256) : freeOf x free < 256 := by
  unfold freeOf; split
  · exact minus_lt _ _ hf
  · exact hf

/-- a row of wishes lies below block n₀ -/
def Wishes (W : World) (n₀ : Nat) (A : Option Addr) (l : List S36) : Prop := ∀ k, k < l.length → ∃ ad, A = some ad ∧ ad.block < n₀ ∧
  W.cell? (ad.add (k * 4)) = some (.int .i64 (rd_T36 l k).f0) ∧ W.cell? ⟨(ad.add (k * 4)).block, (ad.add (k * 4)).off + 1, none⟩ = some (.int .i64 (rd_T36 l k).f1) ∧
  W.cell? ⟨(ad.add (k * 4)).block, (ad.add (k * 4)).off + 2, none⟩ = some (.int .u32 (rd_T36 l k).f2.f0) ∧ W.cell? ⟨(ad.add (k * 4)).block, (ad.add (k * 4)).off + 3, none⟩ = some (.int .u32 (rd_T36 l k).f2.f1)
theorem add_block (a : Addr) (n : Nat) : (a.add n).block = a.block := by unfold Addr.add; split <;> rfl
theorem Wishes.of {w : World} {A : Option Addr} {l : List S36} (h : Kd.C k36 w A l.length l) : Wishes w w.heap.size A l := fun k hk => by
  obtain ⟨ad, e, h0, h1, h2, h3⟩ := at_T36 h (k : Int) (by omega) (by omega)
  rw [Int.toNat_natCast] at h0 h1 h2 h3
  exact ⟨ad, e, by have := World.block_lt_of_cell? w _ h0; rwa [add_block] at this, h0, h1, h2, h3⟩
theorem Wishes.same {W W' : World} {n₀ : Nat} {A : Option Addr} {l : List S36} (h : Wishes W n₀ A l) (hs : ∀ k, k < n₀ → W'.heap[k]? = W.heap[k]?) : Wishes W' n₀ A l := fun k hk => by
  obtain ⟨ad, e, hb, h0, h1, h2, h3⟩ := h k hk
  have hb' : (ad.add (k * 4)).block < n₀ := by rw [add_block]; exact hb
  exact ⟨ad, e, hb, (World.cell?_of_block (w := W) (hs _ hb')).trans h0, (World.cell?_of_block (w := W) (a := ⟨_, _, none⟩) (hs _ hb')).trans h1, (World.cell?_of_block (w := W) (a := ⟨_, _, none⟩) (hs _ hb')).trans h2, (World.cell?_of_block (w := W) (a := ⟨_, _, none⟩) (hs _ hb')).trans h3⟩
theorem drop_rd (l : List S36) (k : Nat) (hk : k < l.length) : l.drop k = rd_T36 l k :: l.drop (k + 1) := by
  rw [List.drop_eq_getElem_cons hk]
  have : rd_T36 l (k : Int) = l[k] := by simp [rd_T36, hk]
  rw [this]

def encTurn (x : S36 × Int) : Array Value := #[.agg #[.int .i64 x.1.f0, .int .i64 x.1.f1, .int .u32 x.1.f2.f0, .int .u32 x.1.f2.f1], .int .i64 x.2]

set_option maxHeartbeats 1000000 in
theorem turns_calls (A : Option Addr) (n c : Nat) (free : Int) (w : World) : Calls Tryd.prog 58 #[.slice A n c, .int .u32 free] w fun e w' =>
    e = .returned (.func (.func 88) #[] #[.pointer (some ⟨w.heap.size, 0, none⟩), .pointer (some ⟨w.heap.size + 1, 0, none⟩)]) ∧ w' = (w.alloc (.cells #[.slice A n c] 22)).alloc (.cells #[.int .u32 free] 24) := by
  go_enter Tryd.func58, Tryd.ntmps58
  go_wp2
  go_ret
  exact ⟨rfl, rfl⟩

set_option maxRecDepth 100000 in
set_option maxHeartbeats 8000000 in
theorem turns1_iter (bl bf n₀ : Nat) (A : Option Addr) (cap : Nat) (l : List S36) (free : Nat) (hf : free < 256) (hlen : l.length ≤ 1000000) (hwf : ∀ x ∈ l, Wf36 x) (w0 : World)
    (hbl : Boxed w0 bl 22 (.slice A l.length cap)) (hbf : Boxed w0 bf 24 (.int .u32 free)) (hT : TabW w0) (hW : Wishes w0 n₀ A l) (hn0 : n₀ ≤ bl) (hlf : bl < bf) (h0n : 0 < n₀) :
    Iter Tryd.prog 88 #[.pointer (some ⟨bl, 0, none⟩), .pointer (some ⟨bf, 0, none⟩)] encTurn bf (fun k => k = bl ∨ k = bf ∨ k < n₀) (turnsOf free l) w0 := by
  intro lp J Jx W hBW hJ hY h0
  have HY := Aside0.mk hY
  have HJ := Aside0.mk hJ
  have HWF := Aside0.mk hwf
  have HBL := Aside0.mk (show Boxed W bl 22 (.slice A l.length cap) from (hBW.block bl hbl.lt).trans hbl)
  have HBF := Aside0.mk (show Boxed W bf 24 (.int .u32 free) from (hBW.block bf hbf.lt).trans hbf)
  have HTW := Aside0.mk (hT.below (by have := hT.pos; omega) hBW)
  have HW := Aside0.mk (hW.same (W' := W) (fun k hk => hBW.block k (by have := hbl.lt; omega)))
  have H0 := Aside0.mk h0
  clear hY hJ hwf hbl hbf hT hW hBW h0
  have hu36 := Tryd.underlying36
  have hcl := HBL.out.cell
  refine callsIn_of_wp Tryd.func88 rfl trivial ?_ rfl
  simp only [Tryd.ntmps88, List.size_toArray, List.length_cons, List.length_nil, Nat.reduceAdd, Nat.reduceSub, Array.replicate_succ, Array.replicate_zero, List.push_toArray, List.append_toArray, List.nil_append, List.cons_append]
  gi_wp2
  gi_loopw [10] (fun i wr => ∃ (k fr : Nat) (pre : List (S36 × Int)), k ≤ l.length ∧ i = .int .i64 k ∧ fr < 256 ∧ Aside0 (turnsOf free l = pre ++ turnsOf fr (l.drop k)) ∧ Aside0 (Boxed wr bl 22 (.slice A l.length cap)) ∧ Aside0 (Boxed wr bf 24 (.int .u32 fr)) ∧ Aside0 (TabW wr) ∧ Aside0 (Wishes wr n₀ A l) ∧ Aside0 (J pre wr))
    (fun i _ => l.length - (intOf i).toNat)
  case atStart => exact ⟨0, free, [], Nat.zero_le _, rfl, hf, ⟨rfl⟩, HBL, HBF, HTW, HW, H0⟩
  case round =>
    obtain ⟨k, fr, pre, hk, rfl, hfr, HPRE, HBL1, HBF1, HT1, HW1, HJ1⟩ := hrel
    clear hcl HBL HBF HTW HW H0 hf
    by_cases hlt : k < l.length
    case neg =>
      have hge : l.length ≤ k := by omega
      clear hlt
      have hJ' := HJ1.out
      have hp := HPRE.out
      rw [List.drop_eq_nil_of_le hge] at hp
      simp only [turnsOf, List.append_nil] at hp
      rw [← hp] at hJ'
      have HJ2 := Aside0.mk hJ'
      clear hJ' hp
      gi_wp2
      go_end0
      exact ⟨⟨_, rfl⟩, .inl HJ2.out⟩
    case pos =>
    obtain ⟨ad, rfl, had, hx0, hx1, hx2, hx3⟩ := HW1.out k hlt
    have hpre := HPRE.out
    rw [drop_rd l k hlt, turnsOf] at hpre
    have hwx := HWF.out _ (rd36_mem l k hlt)
    generalize rd_T36 l (k : Int) = x at *
    obtain ⟨f0, f1, ⟨mh, ms⟩⟩ := x
    obtain ⟨hw1, hw2, hw3, hw4⟩ := hwx
    simp only at hx0 hx1 hx2 hx3 hw1 hw2 hw3 hw4
    obtain ⟨mh, rfl⟩ : ∃ m : Nat, mh = m := ⟨mh.toNat, by omega⟩
    obtain ⟨ms, rfl⟩ : ∃ m : Nat, ms = m := ⟨ms.toNat, by omega⟩
    have hbest := Best_val mh ms fr f1 (by omega) (by omega) (by omega) 2 (by omega)
    have hbl1 := HBL1.out.lt
    have hbf1 := HBF1.out.lt
    have hcf := HBF1.out.cell
    have hff := HBF1.out.frozen
    have HPR := Aside0.mk hpre
    clear hpre HPRE
    have hrg := bestN_range mh ms fr f1
    have htk : takesOf ⟨f0, f1, ⟨(mh : Int), (ms : Int)⟩⟩ fr = if (bestN mh ms fr f1).2 then (bestN mh ms fr f1).1 else -1 := rfl
    have hfo : freeOf ⟨f0, f1, ⟨(mh : Int), (ms : Int)⟩⟩ fr = if (bestN mh ms fr f1).2 then minus fr (2 ^ (bestN mh ms fr f1).1.toNat) else fr := rfl
    generalize bestN mh ms fr f1 = bst at *
    obtain ⟨c, there⟩ := bst
    have HBEST := Aside0.mk hbest
    clear hbest
    have hbW : Below wr.heap.size wr (wr.alloc (.cells #[.int .i64 f0, .int .i64 f1, .int .u32 mh, .int .u32 ms] 36)) := (Below.refl _ _).alloc (Nat.le_refl _) _
    have HT2 := Aside0.mk (HT1.out.step hbW)
    have HN := Aside0.mk (heap_alloc_new wr (.cells #[.int .i64 f0, .int .i64 f1, .int .u32 mh, .int .u32 ms] 36))
    have HBW := Aside0.mk hbW
    clear hbW
    cases there with
    | false =>
      have HTK := Aside0.mk htk
      have HFO := Aside0.mk hfo
      clear htk hfo hrg
      gi_wp2_with (refine ⟨trivial, ?_⟩; gi_at_call 89; refine (callsIn_wide.2 (mask_Best.calls 2 mh ms fr f1 c false _ HT2.out HBEST.out)).mono ?_; rintro e w1 ⟨rfl, hb1⟩; have hn1 := (hb1.block wr.heap.size (by simp)).trans HN.out; have k0 := blk_cell hn1 0; have k1 := blk_cell hn1 1; have k2 := blk_cell hn1 2; have k3 := blk_cell hn1 3; have HB1 := Aside0.mk (below_step HBW.out hb1); clear hb1 hn1; simp only [List.getElem?_toArray, List.getElem?_cons_zero, List.getElem?_cons_succ] at k0 k1 k2 k3)
      have hJ1 : J pre w1 := HJ.out pre wr w1 HJ1.out (gb_of_below HB1.out _)
      have hp1 := HPR.out
      rw [HTK.out, HFO.out] at hp1
      simp only [Bool.false_eq_true, if_false] at hp1
      have HP1 := Aside0.mk hp1
      obtain ⟨fn, tmps, assign, body, hy, hR⟩ := HY.out pre _ _ w1 hp1 hJ1
      dsimp only [encTurn] at hy
      clear hp1 hJ1
      rw [hy]
      refine ⟨fun h => (by simp [Fence.wide] at h), RoundIn.mono hR ?_⟩
      rintro e W3 (⟨rfl, hJ3, hk3⟩ | ⟨rfl, hJx3⟩)
      · have HR3 := Aside0.mk (And.intro hJ3 hk3)
        clear hJ3 hk3
        gi_wp2
        go_roundw
        case rel =>
          have hk3 := HR3.out.2
          have hs3 : ∀ j, (j = bl ∨ j = bf ∨ j < n₀) → W3.heap[j]? = wr.heap[j]? := fun j hj => (hk3 j hj).trans (HB1.out.block j (by omega))
          exact ⟨k + 1, fr, _, by omega, by go_num, hfr, ⟨by rw [HP1.out, List.append_assoc]; rfl⟩, ⟨(hs3 bl (.inl rfl)).trans HBL1.out⟩, ⟨(hs3 bf (.inr (.inl rfl))).trans HBF1.out⟩, ⟨HT1.out.same (hs3 0 (.inr (.inr h0n)))⟩, ⟨HW1.out.same (fun j hj => hs3 j (.inr (.inr hj)))⟩, ⟨HR3.out.1⟩⟩
        case measure => simp [intOf]; omega
      · gi_wp2
        refine bodyPost_ret (results_none rfl _ _ _) rfl ?_
        exact ⟨⟨_, rfl⟩, .inr hJx3⟩
    | true =>
      obtain ⟨hc0, hc1⟩ := hrg rfl
      obtain ⟨d, rfl⟩ : ∃ d : Nat, c = d := ⟨c.toNat, by omega⟩
      have hd8 : d < 8 := by omega
      simp only [if_true, Int.toNat_natCast] at htk hfo
      have HTK := Aside0.mk htk
      have HFO := Aside0.mk hfo
      have hd0 : (0 : Int) ≤ d := by omega
      clear htk hfo hrg hc0 hc1
      gi_wp2_with (refine ⟨trivial, ?_⟩; gi_at_call 89; refine (callsIn_wide.2 (mask_Best.calls 2 mh ms fr f1 d true _ HT2.out HBEST.out)).mono ?_; rintro e w1 ⟨rfl, hb1⟩; have hn1 := (hb1.block wr.heap.size (by simp)).trans HN.out; have k0 := blk_cell hn1 0; have k1 := blk_cell hn1 1; have k2 := blk_cell hn1 2; have k3 := blk_cell hn1 3; have HB1 := Aside0.mk (below_step HBW.out hb1); clear hb1 hn1; simp only [List.getElem?_toArray, List.getElem?_cons_zero, List.getElem?_cons_succ] at k0 k1 k2 k3)
      have hbf2 : Boxed w1 bf 24 (.int .u32 fr) := (HB1.out.block bf (by omega)).trans HBF1.out
      have hcf2 := hbf2.cell
      have hff2 := hbf2.frozen
      gi_region
      all_goals gi_wp2
      have hpw : (2 : Int) ^ d % 4294967296 = ((2 ^ d : Nat) : Int) := by
        have h2 := pow_lt256 d hd8
        rw [show (2 : Int) ^ d = ((2 ^ d : Nat) : Int) by simp]
        generalize 2 ^ d = q at h2 ⊢
        omega
      have e1 : bits BinOp.andNot IntKind.u32 (fr : Int) ((2 : Int) ^ d % 4294967296) = ((minus fr (2 ^ d) : Nat) : Int) := by
        rw [hpw]; exact andNot_byte fr (2 ^ d) hfr (pow_lt256 d hd8)
      rw [e1]
      have hg2 : w1.grownBy (w1.setCell ⟨bf, 0, none⟩ (.int .u32 ((minus fr (2 ^ d) : Nat) : Int))).drew (some bf) :=
        ⟨rfl, rfl, rfl, (grownBy_setCell' w1 bf _).size, fun j hj hne => (grownBy_setCell' w1 bf (.int .u32 ((minus fr (2 ^ d) : Nat) : Int))).block j hj hne⟩
      have hbf3 : Boxed (w1.setCell ⟨bf, 0, none⟩ (.int .u32 ((minus fr (2 ^ d) : Nat) : Int))).drew bf 24 (.int .u32 ((minus fr (2 ^ d) : Nat) : Int)) := hbf2.set _
      generalize (w1.setCell ⟨bf, 0, none⟩ (.int .u32 ((minus fr (2 ^ d) : Nat) : Int))).drew = w2 at *
      have hJ1 : J pre w2 := HJ.out pre wr w2 HJ1.out (gb_trans (gb_of_below HB1.out _) hg2 (fun j e => .inl (by cases e; rfl)))
      have hp1 := HPR.out
      rw [HTK.out, HFO.out] at hp1
      have HP1 := Aside0.mk hp1
      have HG2 := Aside0.mk hg2
      have HBF3 := Aside0.mk hbf3
      obtain ⟨fn, tmps, assign, body, hy, hR⟩ := HY.out pre _ _ w2 hp1 hJ1
      dsimp only [encTurn] at hy
      clear hp1 hJ1 hg2 hbf3 hcf2 hff2 hbf2 e1 hpw k0 k1 k2 k3
      rw [hy]
      refine ⟨fun h => (by simp [Fence.wide] at h), RoundIn.mono hR ?_⟩
      rintro e W3 (⟨rfl, hJ3, hk3⟩ | ⟨rfl, hJx3⟩)
      · have HR3 := Aside0.mk (And.intro hJ3 hk3)
        clear hJ3 hk3
        gi_wp2
        go_roundw
        case rel =>
          have hk3 := HR3.out.2
          have hs3 : ∀ j, (j = bl ∨ j < n₀) → W3.heap[j]? = wr.heap[j]? := fun j hj => ((hk3 j (by rcases hj with h | h <;> simp [h])).trans (HG2.out.block j (by have := HB1.out.size; omega) (fun e => by injection e; omega))).trans (HB1.out.block j (by omega))
          exact ⟨k + 1, minus fr (2 ^ d), _, by omega, by go_num, minus_lt _ _ hfr, ⟨by rw [HP1.out, List.append_assoc]; rfl⟩, ⟨(hs3 bl (.inl rfl)).trans HBL1.out⟩, ⟨(hk3 bf (.inr (.inl rfl))).trans HBF3.out⟩, ⟨HT1.out.same (hs3 0 (.inr h0n))⟩, ⟨HW1.out.same (fun j hj => hs3 j (.inr hj))⟩, ⟨HR3.out.1⟩⟩
        case measure => simp [intOf]; omega
      · gi_wp2
        refine bodyPost_ret (results_none rfl _ _ _) rfl ?_
        exact ⟨⟨_, rfl⟩, .inr hJx3⟩

end Go.Proofs.YtdmieaidheelbaaDoor.Q
end
/- Turned -/
section
/- What a loop over an iterator may turn: the words that its invariants are made of. -/
namespace Go.Proofs.YtdmieaidheelbaaDoor.Q
open Go Go.RowKit Go.Shelf Go.Proofs.YtdmieaidheelbaaDoor.Rng Go.Proofs.YtdmieaidheelbaaDoorW.PrintWords
set_option linter.unusedVariables false

/-- below `base`, the blocks of `own` alone may have turned -/
structure Turned (base : Nat) (own : Nat → Prop) (w w' : World) : Prop where
  os : w'.os = w.os
  tape : w'.tape = w.tape
  output : w'.output = w.output
  size : w.heap.size ≤ w'.heap.size
  block : ∀ k, k < base → ¬ own k → w'.heap[k]? = w.heap[k]?
variable {base : Nat} {own : Nat → Prop}
theorem Turned.refl (base : Nat) (own : Nat → Prop) (w : World) : Turned base own w w := ⟨rfl, rfl, rfl, Nat.le_refl _, fun _ _ _ => rfl⟩
theorem Turned.trans {a b c : World} (h : Turned base own a b) (k : Turned base own b c) : Turned base own a c :=
  ⟨k.os.trans h.os, k.tape.trans h.tape, k.output.trans h.output, Nat.le_trans h.size k.size, fun i hi hn => (k.block i hi hn).trans (h.block i hi hn)⟩
theorem Turned.weaken {own' : Nat → Prop} {a b : World} (h : Turned base own a b) (hw : ∀ k, own k → own' k) : Turned base own' a b := ⟨h.os, h.tape, h.output, h.size, fun k hk hn => h.block k hk (fun e => hn (hw k e))⟩
theorem Turned.alloc {a w : World} (h : Turned base own a w) (hB : base ≤ w.heap.size) (o : Obj) : Turned base own a (w.alloc o) :=
  h.trans ⟨rfl, rfl, rfl, by simp, fun k hk _ => Below.heap_alloc _ _ _ (by omega)⟩
theorem Turned.setCell {a w : World} (h : Turned base own a w) {p : Addr} (hp : own p.block ∨ base ≤ p.block) (u : Value) : Turned base own a (w.setCell p u) :=
  h.trans ⟨rfl, rfl, rfl, by simp [World.setCell], fun k hk hn => Below.heap_setCell _ _ _ _ (fun e => by subst e; rcases hp with hp | hp; exact hn hp; omega)⟩
theorem Turned.grown {a w w' : World} {row : Option Nat} (h : Turned base own a w) (hg : w.grownBy w' row) (hB : base ≤ w.heap.size) (hr : ∀ k, row = some k → own k ∨ base ≤ k) : Turned base own a w' :=
  h.trans ⟨hg.os, hg.tape, hg.output, hg.size, fun k hk hn => hg.block k (by omega) (fun e => by rcases hr k e.symm with h | h; exact hn h; omega)⟩
theorem Turned.step {a w w' : World} (h : Turned base own a w) (hB : base ≤ w.heap.size) (hb : Below w.heap.size w w') : Turned base own a w' :=
  h.trans ⟨hb.os, hb.tape, hb.output, hb.size, fun k hk _ => hb.block k (by omega)⟩
theorem Turned.drew {a w : World} (h : Turned base own a w) : Turned base own a w.drew := ⟨h.os, h.tape, h.output, h.size, h.block⟩
theorem Turned.below {n₀ : Nat} {w w' : World} (h : Turned base own w w') (hn : n₀ ≤ base) (ho : ∀ k, own k → n₀ ≤ k) : Below n₀ w w' :=
  ⟨h.os, h.tape, h.output, h.size, fun k hk => h.block k (by omega) (fun e => by have := ho k e; omega)⟩
theorem Turned.same {keep : Nat → Prop} {w w' : World} (h : Turned base own w w') (hk : ∀ k, keep k → k < base ∧ ¬ own k) : Same keep w w' := fun k hk' => h.block k (hk k hk').1 (hk k hk').2
/-- block B holds a slice that owns the cells xs, laid from `base` on -/
def Held (W : World) (base B : Nat) (t e : TypeId) (size k : Nat) (xs : List Value) : Prop := ∃ v, Boxed W B t v ∧ W.ownsRow base e size v k xs
theorem row_far {W Y : World} {base : Nat} {e : TypeId} {size : Nat} {v : Value} {k : Nat} {xs : List Value} {r : Nat} (h : W.ownsRow base e size v k xs) (hg : W.grownBy Y (some r)) (hr : r < base ∨ ∃ o : Obj, W.heap[r]? = some o ∧ o.isCells = false) : Y.ownsRow base e size v k xs := by
  refine h.kept hg ?_
  rcases h.2 with ⟨rfl, _⟩ | ⟨g, cap, cur, rfl, hgb, hgc, _⟩
  · exact .inl rfl
  · refine .inr (fun e => ?_)
    obtain rfl : g = r := by simpa [Value.ownBlock] using e
    rcases hr with hr | ⟨o, ho, hcl⟩
    · omega
    · rw [hgc] at ho; cases ho; cases hcl
theorem Held.far {W Y : World} {base B : Nat} {t e : TypeId} {size k : Nat} {xs : List Value} {r : Nat} (h : Held W base B t e size k xs) (hg : W.grownBy Y (some r)) (hr : (r < base ∧ r ≠ B) ∨ ∃ o : Obj, W.heap[r]? = some o ∧ o.isCells = false) : Held Y base B t e size k xs := by
  obtain ⟨v, h1, h2⟩ := h
  refine ⟨v, h1.kept hg (fun e => ?_), row_far h2 hg (hr.imp_left And.left)⟩
  obtain rfl : B = r := by injection e
  rcases hr with ⟨_, hr⟩ | ⟨o, ho, hcl⟩
  · exact hr rfl
  · rw [show W.heap[B]? = _ from h1] at ho; cases ho; cases hcl
theorem Held.step {W Y : World} {base B : Nat} {t e : TypeId} {size k : Nat} {xs : List Value} (h : Held W base B t e size k xs) (hb : Below W.heap.size W Y) : Held Y base B t e size k xs := by
  obtain ⟨v, h1, h2⟩ := h
  exact ⟨v, (hb.block B h1.lt).trans h1, pw_own_below h2 hb⟩
theorem Held.alloc {W : World} {base B : Nat} {t e : TypeId} {size k : Nat} {xs : List Value} (h : Held W base B t e size k xs) (o : Obj) : Held (W.alloc o) base B t e size k xs := h.step ((Below.refl _ _).alloc (Nat.le_refl _) _)

/-- behind an append into what a box holds -/
theorem appended2 {W w1 : World} {base B : Nat} {own : Nat → Prop} {t e : TypeId} {size : Nat} {v v' : Value} {k m : Nat} {xs ys : List Value} {tmp : Obj}
    (hv : Boxed W B t v) (hte : t ≠ e) (hrow : W.ownsRow base e size v k xs) (hb : base ≤ W.heap.size) (hB : own B)
    (hown' : w1.ownsRow base e size v' m ys) (hgrow : (W.alloc tmp).grownBy w1 v.ownBlock) :
    Boxed w1 B t v ∧ Held (w1.setCell ⟨B, 0, none⟩ v') base B t e size m ys ∧ KeepsOthers W (w1.setCell ⟨B, 0, none⟩ v') ∧ Turned base own W (w1.setCell ⟨B, 0, none⟩ v') := by
  have hv1 : Boxed w1 B t v := (hv.alloc tmp).kept hgrow (hv.not_row hte hrow)
  refine ⟨hv1, ⟨v', hv1.set v', hown'.kept (grownBy_setCell' w1 B v') (.inr (hv1.not_row hte hown').symm)⟩, ?_, ?_⟩
  · refine ((KeepsOthers.alloc W tmp).trans (KeepsOthers.of_grownBy hgrow fun j o ej hj => ?_)).trans (KeepsOthers.setCell _ _ _)
    rcases (hrow.alloc tmp).2 with ⟨rfl, _⟩ | ⟨g, cap, cur, rfl, _, hgb, _⟩
    · simp [Value.ownBlock] at ej
    · obtain rfl : g = j := by simpa [Value.ownBlock] using ej
      rw [hgb] at hj; cases hj; rfl
  · refine (((Turned.refl base own W).alloc hb tmp).grown hgrow (by simp; omega) fun j ej => ?_).setCell (p := ⟨B, 0, none⟩) (.inl hB) v'
    rcases hrow.2 with ⟨rfl, _⟩ | ⟨g, cap, cur, rfl, hgb, _, _⟩
    · simp [Value.ownBlock] at ej
    · obtain rfl : g = j := by simpa [Value.ownBlock] using ej
      exact .inr hgb
end Go.Proofs.YtdmieaidheelbaaDoor.Q
end
/- QFplaceasked -/
section
-- Written by a program of this session (hprint.py), which drives the kit's print over hand-proved contracts. Lean checks it.
namespace Go.Proofs.YtdmieaidheelbaaDoor.Q
open Go.RowKit Go.Proofs.YtdmieaidheelbaaDoorW.PrintWords Go.Proofs.YtdmieaidheelbaaDoorW.PrintLast Go.Proofs.YtdmieaidheelbaaDoorW.PrintMore
attribute [local go_sem] max2_int min2_int max_two min_two max_three min_three max_four min_four   -- for this text's walks alone
set_option linter.unusedVariables false
set_option linter.unusedSimpArgs false

/-! ### place_asked: function 57 -/
def place_asked.f (l0 : List (S36)) (a1 : Int) : Option (Int) := (place_Check.f l0).bind fun t110 => (if t110 = 0 then ((cpuset_Check.f a1).bind fun t111 => (some t111)) else (some t110))
set_option maxHeartbeats 8000000 in
set_option maxRecDepth 100000 in
theorem place_asked.calls (A0 : Option Addr) (c0 : Nat) (l0 : List (S36)) (a1 : Int) (r : Int) (w : World) (hr0 : Kd.C k36 w A0 l0.length l0) (hc0 : l0.length ≤ c0) (h : place_asked.f l0 a1 = some r) :
    Calls Tryd.prog 57 #[.slice A0 l0.length c0, .int .u32 a1] w fun e w' => e = .returned (.int .i64 r) ∧ Below w.heap.size w w' := by
  have HR0 := Aside0.mk hr0
  have HC0 := Aside0.mk hc0
  clear hr0 hc0
  have HB := Aside0.mk (Below.refl w.heap.size w)
  have H : ((place_Check.f l0).bind fun t110 => (if t110 = 0 then ((cpuset_Check.f a1).bind fun t111 => (some t111)) else (some t110))) = some r := h
  clear h
  replace H := Option.bind_eq_some_iff.mp H
  obtain ⟨t110, A30, H⟩ := H
  replace H : (if t110 = 0 then ((cpuset_Check.f a1).bind fun t111 => (some t111)) else (some t110)) = some r := H
  have A3 := Aside0.mk A30
  clear A30
  by_cases c4 : t110 = 0
  · rw [if_pos c4] at H
    have c4b0 : (t110 == 0) = true := beq_iff_eq.mpr c4
    have c4b1 : (t110 != 0) = false := bne_eq_false_iff_eq.mpr c4
    clear c4
    replace H := Option.bind_eq_some_iff.mp H
    obtain ⟨t111, A50, H⟩ := H
    replace H : (some t111) = some r := H
    have A5 := Aside0.mk A50
    clear A50
    obtain rfl := Option.some.inj H
    go_enter Tryd.func57, Tryd.ntmps57
    go_wp2_with (first | ((with_reducible refine gate_callee (f := 37) rfl ?_); refine goesL_ (some 7) rfl rfl Tryd.func37 (by kernel_rfl) rfl #[.slice A0 l0.length c0] rfl (by (try simp only [List.map_toArray, List.map_cons, List.map_nil]); first | done | rfl | (simp only [List.length_drop, List.length_take]; rfl)) ?_; (with_reducible refine (place_Check.calls _ _ l0 t110 _ ?side1 ?side2 A3.out).mono ?_); (case side1 => repeat (first | exact HR0.out | (with_reducible refine Kd.C_alloc ?_ _) | (with_reducible refine Kd.C_drewN ?_ _) | (with_reducible refine Kd.C_drew ?_))); (case side2 => exact HC0.out); rintro e w6 ⟨rfl, hb⟩; refine ⟨_, rfl, ?_⟩; have n0_ := Aside0.mk (below_step (by repeat (first | (with_reducible first | exact HB.out | apply below_alloc | apply pw_below_drewN | apply below_drew1) | exact HB.out)) hb); clear HB; have HB := n0_; clear n0_; (try clear hb); (try clear hb2); (try clear hk); (try clear hi)) | ((with_reducible refine gate_callee (f := 64) rfl ?_); refine goesL_ (some 12) rfl rfl Tryd.func64 (by kernel_rfl) rfl #[.int .u32 a1] rfl (by (try simp only [List.map_toArray, List.map_cons, List.map_nil]); first | done | rfl | (simp only [List.length_drop, List.length_take]; rfl)) ?_; (with_reducible refine (cpuset_Check.calls a1 t111 _ A5.out).mono ?_); rintro e w' ⟨rfl, ⟨nd, rfl⟩⟩; refine ⟨_, rfl, ?_⟩))
    go_ret
    exact ⟨by first | rfl | (simp [errW_none, errW_some] <;> rfl) | (simp [*, errW_none, errW_some] <;> rfl), by repeat (first | (with_reducible first | exact HB.out | apply below_alloc | apply pw_below_drewN | apply below_drew1) | exact HB.out)⟩
  · rw [if_neg c4] at H
    have c4b0 : (t110 == 0) = false := beq_eq_false_iff_ne.mpr c4
    have c4b1 : (t110 != 0) = true := bne_iff_ne.mpr c4
    obtain rfl := Option.some.inj H
    go_enter Tryd.func57, Tryd.ntmps57
    go_wp2_with (first | ((with_reducible refine gate_callee (f := 37) rfl ?_); refine goesL_ (some 7) rfl rfl Tryd.func37 (by kernel_rfl) rfl #[.slice A0 l0.length c0] rfl (by (try simp only [List.map_toArray, List.map_cons, List.map_nil]); first | done | rfl | (simp only [List.length_drop, List.length_take]; rfl)) ?_; (with_reducible refine (place_Check.calls _ _ l0 t110 _ ?side1 ?side2 A3.out).mono ?_); (case side1 => repeat (first | exact HR0.out | (with_reducible refine Kd.C_alloc ?_ _) | (with_reducible refine Kd.C_drewN ?_ _) | (with_reducible refine Kd.C_drew ?_))); (case side2 => exact HC0.out); rintro e w7 ⟨rfl, hb⟩; refine ⟨_, rfl, ?_⟩; have n0_ := Aside0.mk (below_step (by repeat (first | (with_reducible first | exact HB.out | apply below_alloc | apply pw_below_drewN | apply below_drew1) | exact HB.out)) hb); clear HB; have HB := n0_; clear n0_; (try clear hb); (try clear hb2); (try clear hk); (try clear hi)))
    go_ret
    exact ⟨by first | rfl | (simp [errW_none, errW_some] <;> rfl) | (simp [*, errW_none, errW_some] <;> rfl), by repeat (first | (with_reducible first | exact HB.out | apply below_alloc | apply pw_below_drewN | apply below_drew1) | exact HB.out)⟩

end Go.Proofs.YtdmieaidheelbaaDoor.Q
end
/- PlaceM -/
section
/- What package place answers, over lists and numbers; a row of placements of the call's own. Plain but for the memory's words. -/
namespace Go.Proofs.YtdmieaidheelbaaDoor.Q
open Go Go.RowKit Go.Shelf Go.Proofs.YtdmieaidheelbaaDoor.Rng Go.Proofs.YtdmieaidheelbaaDoorW.PrintWords Go.Proofs.YtdmieaidheelbaaDoorW.PrintLast Go.Proofs.YtdmieaidheelbaaDoorW.PrintMore
set_option linter.unusedVariables false
set_option linter.unusedSimpArgs false

def putOf (p : S36 × Int) : List S31 := if -1 < p.2 then [⟨p.1.f0, p.2⟩] else []
def putsOf (ts : List (S36 × Int)) : List S31 := ts.flatMap putOf
def takeAll (free : Nat) (ps : List S31) : Nat := ps.foldl (fun f p => minus f (2 ^ p.f1.toNat)) free
def askedOf (l : List S36) (a : Int) : Int := if checkFrom (List.replicate 17 false) (List.replicate 8 false) l ≠ 0 then checkFrom (List.replicate 17 false) (List.replicate 8 false) l else if a < 256 then 0 else 140
def okArgs (l : List S36) (a : Int) : Prop := (∀ x ∈ l, Wf36 x) ∧ l.length ≤ 1000000 ∧ 0 ≤ a ∧ a < 4294967296
instance (l : List S36) (a : Int) : Decidable (okArgs l a) := inferInstanceAs (Decidable (_ ∧ _ ∧ _ ∧ _))
theorem asked_val (l : List S36) (a : Int) (h : okArgs l a) : place_asked.f l a = some (askedOf l a) := by
  obtain ⟨h1, h2, h3, h4⟩ := h
  have e1 : place_Check.f l = some (checkFrom (List.replicate 17 false) (List.replicate 8 false) l) := by unfold place_Check.f; exact if_pos ⟨h1, h2⟩
  have e2 := Check_val a.toNat (by omega)
  rw [show ((a.toNat : Nat) : Int) = a by omega] at e2
  unfold place_asked.f askedOf
  rw [e1, Option.bind_some]
  generalize checkFrom (List.replicate 17 false) (List.replicate 8 false) l = q
  by_cases hq : q = 0
  · subst hq
    rw [if_pos rfl, e2]
    simp only [Option.bind_some, ne_eq, not_true_eq_false, if_false]
    congr 1
    by_cases h : a < 256
    · rw [if_pos h, if_pos (by omega)]
    · rw [if_neg h, if_neg (by omega)]
  · rw [if_neg hq, if_pos hq]

def place_Place.f (l0 : List S36) (a1 : Int) : Option (List S31 × Int × Int) :=
  if okArgs l0 a1 then some (if askedOf l0 a1 = 0 then (putsOf (turnsOf a1.toNat l0), (takeAll a1.toNat (putsOf (turnsOf a1.toNat l0)) : Int), 0) else ([], 0, askedOf l0 a1)) else none
theorem turns_len (free : Nat) (l : List S36) : (turnsOf free l).length = l.length := by
  induction l generalizing free with
  | nil => rfl
  | cons x l ih => simp [turnsOf, ih]
theorem puts_len (ts : List (S36 × Int)) : (putsOf ts).length ≤ ts.length := by
  induction ts with
  | nil => simp [putsOf]
  | cons p ts ih =>
    have : (putsOf (p :: ts)).length = (putOf p).length + (putsOf ts).length := by simp [putsOf]
    have h1 : (putOf p).length ≤ 1 := by unfold putOf; split <;> simp
    simp; omega
theorem puts_snoc (ts : List (S36 × Int)) (p : S36 × Int) : putsOf (ts ++ [p]) = putsOf ts ++ putOf p := by simp [putsOf]
theorem takes_range (x : S36) (free : Nat) (h : -1 < takesOf x free) : 0 ≤ takesOf x free ∧ takesOf x free < 8 := by
  unfold takesOf at h ⊢
  cases hb : (bestN x.f2.f0.toNat x.f2.f1.toNat free x.f1).2 with
  | true => rw [if_pos rfl]; exact bestN_range _ _ _ _ hb
  | false => rw [hb] at h; simp at h
theorem puts_range (l : List S36) : ∀ (free : Nat) (p : S31), p ∈ putsOf (turnsOf free l) → 0 ≤ p.f1 ∧ p.f1 < 8 := by
  induction l with
  | nil => intro free p h; simp [turnsOf, putsOf] at h
  | cons x l ih =>
    intro free p h
    simp only [turnsOf, putsOf, List.flatMap_cons, List.mem_append] at h
    rcases h with h | h
    · unfold putOf at h
      split at h
      · next hc =>
        simp at h; subst h
        exact takes_range x free hc
      · simp at h
    · exact ih _ p h
theorem takeAll_lt (free : Nat) (ps : List S31) (hf : free < 256) : takeAll free ps < 256 := by
  induction ps generalizing free with
  | nil => exact hf
  | cons p ps ih => exact ih _ (minus_lt _ _ hf)
theorem takeAll_step (free : Nat) (ps : List S31) (k : Nat) (hk : k < ps.length) : takeAll free (ps.take (k + 1)) = minus (takeAll free (ps.take k)) (2 ^ (rd_T31 ps k).f1.toNat) := by
  have : rd_T31 ps (k : Int) = ps[k] := by simp [rd_T31, hk]
  unfold takeAll
  rw [this, List.take_succ_eq_append_getElem hk, List.foldl_append]
  rfl
theorem rd31_mem (l : List S31) (k : Nat) (hk : k < l.length) : rd_T31 l (k : Int) ∈ l := by
  have : rd_T31 l (k : Int) = l[k] := by simp [rd_T31, hk]
  rw [this]; exact List.getElem_mem hk

/-- placements as cells -/
def enc31 (p : S31) : List Value := [.int .i64 p.f0, .int .i64 p.f1]
theorem enc31_len (ps : List S31) : (ps.flatMap enc31).length = ps.length * 2 := by
  induction ps with
  | nil => rfl
  | cons p ps ih => simp only [List.flatMap_cons, List.length_append, ih, List.length_cons, enc31, List.length_nil]; omega
theorem enc31_at (ps : List S31) : ∀ (j : Nat) (p : S31), ps[j]? = some p → ((ps.flatMap enc31).drop (j * 2)).take 2 = enc31 p := by
  induction ps with
  | nil => intro j p h; simp at h
  | cons q ps ih =>
    intro j p h
    cases j with
    | zero => simp at h; subst h; simp [enc31]
    | succ j =>
      simp at h
      rw [← ih j p h]
      rw [List.flatMap_cons, show (j + 1) * 2 = (enc31 q).length + j * 2 by simp [enc31]; omega, List.drop_append, List.drop_eq_nil_of_le (by omega), List.nil_append, Nat.add_sub_cancel_left]
theorem R31_of_own {w : World} {base : Nat} {v : Value} {ps : List S31} (h : w.ownsRow base 31 2 v ps.length (ps.flatMap enc31)) : Kd.R k31 31 w base (fun _ => True) v ps :=
  ⟨fun _ _ => trivial, _, h, enc31_len ps, fun j p hj => by rw [show k31.sz = 2 from rfl, enc31_at ps j p hj]; exact k31_mkM w base _ p⟩
end Go.Proofs.YtdmieaidheelbaaDoor.Q
end
/- PlaceFair -/
section
/- place.Home by its contract: the map of who is where. -/
namespace Go.Proofs.YtdmieaidheelbaaDoor.Q
open Go Go.RowKit Go.Shelf Go.Proofs.YtdmieaidheelbaaDoor.Rng Go.Proofs.YtdmieaidheelbaaDoorW.PrintWords Go.Proofs.YtdmieaidheelbaaDoorW.PrintLast Go.Proofs.YtdmieaidheelbaaDoorW.PrintMore
open Go.Maps (Keyed IsMap)
set_option linter.unusedVariables false
set_option linter.unusedSimpArgs false

def lastAt (l : List S36) (v : Int) : Option Int := (l.reverse.find? fun x => decide (x.f0 = v)).map (·.f1)
theorem lastAt_snoc (l : List S36) (x : S36) (v : Int) : lastAt (l ++ [x]) v = if x.f0 = v then some x.f1 else lastAt l v := by
  unfold lastAt
  rw [List.reverse_append, List.reverse_singleton, List.singleton_append, List.find?_cons]
  by_cases h : x.f0 = v
  · rw [if_pos h, decide_eq_true h]; rfl
  · rw [if_neg h, decide_eq_false h]
def homeOf (l : List S36) (p : S31) : List Int := match lastAt l p.f0 with | some c => if c = p.f1 ∧ -1 < c then [p.f0] else [] | none => []
def Wf31 (p : S31) : Prop := -9223372036854775808 ≤ p.f0 ∧ p.f0 ≤ 9223372036854775807 ∧ -9223372036854775808 ≤ p.f1 ∧ p.f1 ≤ 9223372036854775807
instance (p : S31) : Decidable (Wf31 p) := inferInstanceAs (Decidable (_ ∧ _ ∧ _ ∧ _))
def okHome (l : List S36) (ps : List S31) : Prop := (∀ x ∈ l, Wf36 x) ∧ l.length ≤ 1000000 ∧ (∀ p ∈ ps, Wf31 p) ∧ ps.length ≤ 1000000
instance (l : List S36) (ps : List S31) : Decidable (okHome l ps) := inferInstanceAs (Decidable (_ ∧ _ ∧ _ ∧ _))
def chk (l : List S36) : Int := checkFrom (List.replicate 17 false) (List.replicate 8 false) l
def place_Home.f (l0 : List S36) (l1 : List S31) : Option (List Int × Int) := if okHome l0 l1 then some (if chk l0 = 0 then (l1.flatMap (homeOf l0), 0) else ([], chk l0)) else none

theorem lawI : Keyed Tryd.prog 3 := Maps.int_keyed Tryd.underlying3
theorem wfI {n : Int} (h0 : -9223372036854775808 ≤ n) (h1 : n ≤ 9223372036854775807) : (Lit.int .i64 n).wf = true := by
  have a : IntKind.i64.min = -9223372036854775808 := by decide +kernel
  have b : IntKind.i64.max = 9223372036854775807 := by decide +kernel
  show (decide (IntKind.i64.min ≤ n) && decide (n ≤ IntKind.i64.max)) = true
  rw [a, b]; simp; omega
/-- the map tells what the last of a row with a number says -/
def AtMap (l : List S36) (D : DataW Unit) : Prop := ∀ v : Int, (Lit.int .i64 v).wf = true → match lastAt l v with
  | some c => Maps.has D (.int .i64 v) = true ∧ D.atKey (.int .i64 v) (.lit (.int .i64 0)) = .lit (.int .i64 c)
  | none => Maps.has D (.int .i64 v) = false
theorem AtMap.nil : AtMap [] (.map []) := fun v _ => by simp [lastAt, Maps.has_eq]
theorem AtMap.put {l : List S36} {D : DataW Unit} (h : AtMap l D) (hD : IsMap D) (x : S36) (hx : (Lit.int .i64 x.f0).wf = true) : AtMap (l ++ [x]) (D.put (.int .i64 x.f0) (.lit (.int .i64 x.f1))) := fun v hv => by
  have hk : WideAt.IsKeyLit (.int .i64 x.f0) := lawI.key (Maps.keyOf_int_mk Tryd.underlying3 hx)
  rw [lastAt_snoc]
  by_cases e : x.f0 = v
  · subst e
    rw [if_pos rfl]
    exact ⟨Maps.has_put_same hD hk _, Maps.atKey_put_same hD hk _ _⟩
  · rw [if_neg e]
    have hne : Lit.int .i64 v ≠ Lit.int .i64 x.f0 := fun h => by injection h with _ h; exact e h.symm
    have := h v hv
    revert this
    cases lastAt l v with
    | none => intro h; simp only at h ⊢; rw [Maps.has_put_other hne]; exact h
    | some c => intro h; simp only at h ⊢; rw [Maps.has_put_other hne, Maps.atKey_put_other hne]; exact h

theorem row_base {w : World} {base : Nat} {e : TypeId} {size : Nat} {v : Value} {n : Nat} {xs : List Value} (h : w.ownsRow base e size v n xs) : ∀ k, v.ownBlock = some k → base ≤ k := by
  intro k hk
  rcases h.2 with ⟨rfl, _⟩ | ⟨g, cap, cur, rfl, hg, _⟩
  · cases hk
  · simp only [Value.ownBlock, Option.some.injEq] at hk; omega
theorem row_not_map {w : World} {base : Nat} {e : TypeId} {size : Nat} {v : Value} {n : Nat} {xs : List Value} {b m : Nat} {D : DataW Unit} {k : TypeId} {R : Value → Option (DataW Unit × List MemPlace)} (h : w.ownsRow base e size v n xs) (hm : w.ownsMap Tryd.prog k R b m D) : some b ≠ v.ownBlock := by
  intro hk
  rcases h.2 with ⟨rfl, _⟩ | ⟨g, cap, cur, rfl, hg, hh, _⟩
  · cases hk
  · simp only [Value.ownBlock, Option.some.injEq] at hk
    subst hk
    obtain ⟨es, clock, hb, _⟩ := hm
    rw [hh] at hb
    cases hb
theorem check_range (l : List S36) : ∀ ms ts, checkFrom ms ts l = 0 → ∀ x ∈ l, 1 ≤ x.f0 ∧ x.f0 ≤ 16 ∧ -1 ≤ x.f1 ∧ x.f1 ≤ 7 := by
  induction l with
  | nil => intro ms ts _ x hx; simp at hx
  | cons y l ih =>
    intro ms ts h x hx
    unfold checkFrom at h
    split at h
    · cases h
    · next hb =>
      rcases List.mem_cons.1 hx with rfl | hx
      · unfold badWish at hb
        simp only [Bool.or_eq_true, Bool.and_eq_true, decide_eq_true_eq, not_or] at hb
        obtain ⟨⟨⟨⟨⟨⟨b1, b2⟩, _⟩, b4⟩, b5⟩, _⟩, _⟩ := hb
        omega
      · exact ih _ _ h x hx
set_option maxRecDepth 100000 in
set_option maxHeartbeats 4000000 in
theorem home_yes (A0 : Option Addr) (c0 : Nat) (l0 : List (S36)) (A1 : Option Addr) (c1 : Nat) (l1 : List (S31)) (w : World) (hr0 : Kd.C k36 w A0 l0.length l0) (hc0 : l0.length ≤ c0) (hr1 : Kd.C k31 w A1 l1.length l1) (hc1 : l1.length ≤ c1) (hok : okHome l0 l1) (hn : chk l0 = 0) :
    Calls Tryd.prog 45 #[.slice A0 l0.length c0, .slice A1 l1.length c1] w fun e w' => ∃ v, e = .returned (.tuple #[v, .int .i64 0]) ∧ Kd.R (Kd.int .i64) 3 w' w.heap.size (fun _ => True) v (l1.flatMap (homeOf l0)) ∧ Below w.heap.size w w' := by
  have hmm := @run_makeMap Tryd.prog
  have hv : place_Check.f l0 = some 0 := by unfold place_Check.f; rw [if_pos ⟨hok.1, hok.2.1⟩]; exact congrArg some hn
  have HV := Aside0.mk hv
  have HR0 := Aside0.mk hr0
  have HR1 := Aside0.mk hr1
  have HC0 := Aside0.mk hc0
  have HC1 := Aside0.mk hc1
  have HOK := Aside0.mk hok
  have hu36 := Tryd.underlying36
  have hu31 := Tryd.underlying31
  clear hv hr0 hr1 hc0 hc1 hok
  go_enter Tryd.func45, Tryd.ntmps45
  go_wp2_with (go_at_call 37; refine (place_Check.calls A0 c0 l0 0 w HR0.out HC0.out HV.out).mono ?_; rintro e w1 ⟨rfl, hb⟩; have HB1 := Aside0.mk hb; clear hb)
  have hsz : w.heap.size ≤ w1.heap.size := HB1.out.size
  have HRG := Aside0.mk (check_range l0 _ _ hn)
  go_loopw [23] (fun i wr => ∃ (k : Nat) (D : DataW Unit), k ≤ l0.length ∧ i = .int .i64 k ∧ Aside0 (wr.ownsMap Tryd.prog 3 (plainElem Tryd.prog 3) w1.heap.size k D) ∧ Aside0 (AtMap (l0.take k) D) ∧ Aside0 (Below w.heap.size w wr))
    (fun i _ => l0.length - (intOf i).toNat)
  case atStart => exact ⟨0, .map [], Nat.zero_le _, rfl, ⟨World.ownsMap_made w1 _ _ _⟩, ⟨AtMap.nil⟩, ⟨HB1.out.alloc hsz _⟩⟩
  case round =>
    obtain ⟨k, D, hk, rfl, HM, HA, HB⟩ := hrel
    by_cases hlt : k < l0.length
    case pos =>
      obtain ⟨ad, rfl, hx0, hx1, hx2, hx3⟩ := at_T36 (Kd.C_below HR0.out HB.out) (k : Int) (by omega) (by omega)
      rw [Int.toNat_natCast] at hx0 hx1 hx2 hx3
      have hrg := HRG.out _ (rd36_mem l0 k hlt)
      have hst : l0.take (k + 1) = l0.take k ++ [rd_T36 l0 (k : Int)] := by
        rw [List.take_succ_eq_append_getElem hlt]; simp [rd_T36, hlt]
      have HST := Aside0.mk hst
      clear hst
      generalize rd_T36 l0 (k : Int) = x at *
      obtain ⟨r1, r2, r3, r4⟩ := hrg
      have hlm := HOK.out.2.1
      have hm := HM.out.alloc (.cells #[.int .i64 x.f0, .int .i64 x.f1, .int .u32 x.f2.f0, .int .u32 x.f2.f1] 36)
      have hmax : k < maxLen := by unfold maxLen; omega
      have hw1 := wfI (n := x.f0) (by omega) (by omega)
      have hw2 := wfI (n := x.f1) (by omega) (by omega)
      have HW1 := Aside0.mk hw1
      have HW2 := Aside0.mk hw2
      have HMX := Aside0.mk hmax
      have HBA := Aside0.mk (HB.out.alloc (by have := HB.out.size; omega) (.cells #[.int .i64 x.f0, .int .i64 x.f1, .int .u32 x.f2.f0, .int .u32 x.f2.f1] 36))
      have HM2 := Aside0.mk hm
      clear hw1 hw2 hmax HM hm
      go_wp2_with (at_mapUpdate; refine wpList_mapUpdate_own _ rfl _ _ _ 70 rfl 3 3 lawI Tryd.underlying70 _ w1.heap.size k D rfl HM2.out HMX.out _ _ (.int .i64 x.f0) rfl rfl (Maps.keyOf_int_mk Tryd.underlying3 HW1.out) (.lit (.int .i64 x.f1)) [] (plainElem_int Tryd.underlying3 HW2.out) ?_; intro W5 hM5 hg5; have HM5 := Aside0.mk hM5; have HG5 := Aside0.mk hg5; clear hM5 hg5)
      go_roundw
      case measure => simp only [intOf]; omega
      case rel =>
        refine ⟨k + 1, _, by omega, rfl, HM5, ⟨?_⟩, ⟨HBA.out.grown HG5.out (by have := HB.out.size; simp; omega) (fun j e => by cases e; omega)⟩⟩
        rw [HST.out]
        exact HA.out.put HM2.out.isMap x HW1.out
    case neg =>
      obtain rfl : k = l0.length := by omega
      have ha := HA.out
      rw [List.take_length] at ha
      have HAM := Aside0.mk ha
      obtain ⟨i0, hi, hz0, hz1, hz2⟩ := info_parts infoInt
      have HM0 := HM
      have HB0 := HB
      clear ha HA HB1 HRG HV HR0 HC0
      go_wp2
      clear HB HM
      go_loopw [10, 35] (fun ov i wx => ∃ (k : Nat) (n : Nat) (xs : List Int), k ≤ l1.length ∧ i = .int .i64 k ∧ xs.length = n ∧ n ≤ k ∧ Aside0 (xs = (l1.take k).flatMap (homeOf l0)) ∧ Aside0 (wx.ownsRow w.heap.size 3 1 ov n (xs.map (Value.int .i64))) ∧
          Aside0 (wx.ownsMap Tryd.prog 3 (plainElem Tryd.prog 3) w1.heap.size l0.length D) ∧ Aside0 (Below w.heap.size w wx))
        (fun _ i _ => l1.length - (intOf i).toNat)
      case atStart => exact ⟨0, 0, [], Nat.zero_le _, rfl, rfl, Nat.le_refl _, ⟨rfl⟩, ⟨World.ownsRow_nil _ _ _ _⟩, HM0, HB0⟩
      case round =>
        obtain ⟨k, n, xs, hk1, rfl, hxl, hnk, HXS, HROW, HM, HB⟩ := hrel
        clear HM0 HB0 hlt
        generalize u10 = ov at *
        have hlm := HOK.out.2.2.2
        by_cases hlt : k < l1.length
        case neg =>
          obtain rfl : k = l1.length := by omega
          have hx := HXS.out
          rw [List.take_length] at hx
          have HXX := Aside0.mk hx
          clear hx HXS
          go_wp2
          go_ret2
          refine ⟨_, rfl, ?_, HB.out⟩
          rw [← HXX.out]
          refine Kd.R_of_own ?_ (fun _ _ => trivial)
          rw [hxl]; exact HROW.out
        case pos =>
          obtain ⟨ad, rfl, hx0, hx1⟩ := at_T31 (Kd.C_below HR1.out HB.out) (k : Int) (by omega) (by omega)
          rw [Int.toNat_natCast] at hx0 hx1
          have hwp := HOK.out.2.2.1 _ (rd31_mem l1 k hlt)
          have hst : l1.take (k + 1) = l1.take k ++ [rd_T31 l1 (k : Int)] := by
            rw [List.take_succ_eq_append_getElem hlt]; simp [rd_T31, hlt]
          have HST := Aside0.mk hst
          clear hst
          generalize rd_T31 l1 (k : Int) = x at *
          obtain ⟨v1, v2⟩ := x
          obtain ⟨p1, p2, p3, p4⟩ := hwp
          simp only at hx0 hx1 p1 p2 p3 p4
          have hwv := wfI p1 p2
          clear p1 p2 p3 p4
          have hm := HM.out.alloc (.cells #[.int .i64 v1, .int .i64 v2] 31)
          obtain ⟨v, ps, hrun, hv⟩ := hm.look_ok lawI Tryd.underlying70 (show (zeroValue 3).run Tryd.prog (wr.alloc (.cells #[.int .i64 v1, .int .i64 v2] 31)) = .ok (.int .i64 0) (wr.alloc (.cells #[.int .i64 v1, .int .i64 v2] 31)) by kernel_rfl) (plainElem_int Tryd.underlying3 (wfI (n := 0) (by omega) (by omega))) (Maps.keyOf_int_mk Tryd.underlying3 hwv)
          obtain ⟨c, rfl, hc, hwc⟩ := plainElem_int_inv Tryd.underlying3 hv
          have ham := HAM.out v1 hwv
          have HBA := Aside0.mk (HB.out.alloc (by have := HB.out.size; omega) (.cells #[.int .i64 v1, .int .i64 v2] 31))
          have HMA := Aside0.mk hm
          have HRA := Aside0.mk (HROW.out.alloc (.cells #[.int .i64 v1, .int .i64 v2] 31))
          have hho : homeOf l0 ⟨v1, v2⟩ = match lastAt l0 v1 with | some c => if c = v2 ∧ -1 < c then [v1] else [] | none => [] := rfl
          have hxs : xs ++ homeOf l0 ⟨v1, v2⟩ = (l1.take (k + 1)).flatMap (homeOf l0) := by rw [HST.out, List.flatMap_append, HXS.out]; simp
          have HXN := Aside0.mk hxs
          clear hwc hwv hm hv HM HB HROW hxs HXS HST
          cases hq : lastAt l0 v1 with
          | none =>
            rw [hq] at ham hho
            simp only at ham hho
            rw [ham] at hrun
            rw [hho, List.append_nil] at HXN
            clear hc ham hho hq
            go_wp2
            go_roundw
            case measure => simp only [intOf]; omega
            case rel => exact ⟨k + 1, n, xs, by omega, rfl, hxl, by omega, HXN, HRA, HMA, HBA⟩
          | some d =>
            rw [hq] at ham hho
            simp only at ham hho
            rw [ham.1] at hrun
            have hcd : c = d := by
              have := congrArg Prod.fst hc
              rw [ham.2] at this
              injection this with this
              injection this with _ this
              exact this.symm
            subst hcd
            clear hc ham hq
            by_cases h1 : c = v2
            · subst h1
              by_cases h2 : -1 < c
              · rw [if_pos ⟨rfl, h2⟩] at hho
                rw [hho] at HXN
                clear hho
                go_wp2_with (at_builtin; refine wpList_append_own _ rfl _ _ 42 rfl w.heap.size 3 i0 (.int .i64 0) 1 8 Tryd.underlying42 hi hz0 hz1 hz2 rfl (by decide) _ _ _ rfl (HRA.out.alloc _) ⟨wr.heap.size + 1, 0, none⟩ 1 1 [.int .i64 v1] rfl rfl (by have := cell_one_new (wr.alloc (.cells #[.int .i64 v1, .int .i64 c] 31)) (.int .i64 v1) 3; rw [World.size_alloc] at this; exact this) (by simp [Value.oneCell']) (by unfold maxLen; omega) (by omega) (by have := HBA.out.size; simp at this ⊢; omega) ?_; intro v' w6 hown' hgrow' _; have HOWN := Aside0.mk hown'; have HGROW := Aside0.mk hgrow'; clear hown' hgrow')
                go_roundw
                case measure => simp only [intOf]; omega
                case rel =>
                  have hne := row_not_map HRA.out HMA.out
                  refine ⟨k + 1, n + 1, xs ++ [v1], by omega, rfl, by simp [hxl], by omega, HXN, ⟨by have := HOWN.out; simpa using this⟩, ⟨(HMA.out.alloc _).kept HGROW.out hne⟩, ⟨(HBA.out.alloc (by have := HBA.out.size; omega) _).grown HGROW.out (by have := HBA.out.size; simp at this ⊢; omega) (row_base HRA.out)⟩⟩
              · rw [if_neg (fun h => h2 h.2)] at hho
                rw [hho, List.append_nil] at HXN
                have h2' : c ≤ -1 := by omega
                clear hho h2
                go_wp2
                go_roundw
                case measure => simp only [intOf]; omega
                case rel => exact ⟨k + 1, n, xs, by omega, rfl, hxl, by omega, HXN, HRA, HMA, HBA⟩
            · rw [if_neg (fun h => h1 h.1)] at hho
              rw [hho, List.append_nil] at HXN
              have h1' : (c == v2) = false := beq_eq_false_iff_ne.2 h1
              clear hho
              go_wp2
              go_roundw
              case measure => simp only [intOf]; omega
              case rel => exact ⟨k + 1, n, xs, by omega, rfl, hxl, by omega, HXN, HRA, HMA, HBA⟩

set_option maxRecDepth 100000 in
set_option maxHeartbeats 4000000 in
theorem home_no (A0 : Option Addr) (c0 : Nat) (l0 : List (S36)) (A1 : Option Addr) (c1 : Nat) (l1 : List (S31)) (w : World) (hr0 : Kd.C k36 w A0 l0.length l0) (hc0 : l0.length ≤ c0) (hok : okHome l0 l1) (hn : chk l0 ≠ 0) :
    Calls Tryd.prog 45 #[.slice A0 l0.length c0, .slice A1 l1.length c1] w fun e w' => e = .returned (.tuple #[.slice none 0 0, .int .i64 (chk l0)]) ∧ Below w.heap.size w w' := by
  have hv : place_Check.f l0 = some (chk l0) := by unfold place_Check.f; rw [if_pos ⟨hok.1, hok.2.1⟩]; rfl
  have hne : (chk l0 != 0) = true := by simpa using hn
  have HV := Aside0.mk hv
  have HR0 := Aside0.mk hr0
  have HC0 := Aside0.mk hc0
  clear hv hr0 hc0 hok hn
  generalize chk l0 = q at *
  go_enter Tryd.func45, Tryd.ntmps45
  go_wp2_with (go_at_call 37; refine (place_Check.calls A0 c0 l0 q w HR0.out HC0.out HV.out).mono ?_; rintro e w1 ⟨rfl, hb⟩; have HB1 := Aside0.mk hb; clear hb)
  go_ret2
  exact ⟨rfl, HB1.out⟩
theorem place_Home.calls (A0 : Option Addr) (c0 : Nat) (l0 : List (S36)) (A1 : Option Addr) (c1 : Nat) (l1 : List (S31)) (r1 : List Int) (r2 : Int) (w : World) (hr0 : Kd.C k36 w A0 l0.length l0) (hc0 : l0.length ≤ c0) (hr1 : Kd.C k31 w A1 l1.length l1) (hc1 : l1.length ≤ c1) (h : place_Home.f l0 l1 = some (r1, r2)) :
    Calls Tryd.prog 45 #[.slice A0 l0.length c0, .slice A1 l1.length c1] w fun e w' => ∃ v0_ : Value, e = .returned (.tuple #[v0_, .int .i64 r2]) ∧ Kd.R (Kd.int .i64) 3 w' w.heap.size (fun _ => True) v0_ r1 ∧ Below w.heap.size w w' := by
  unfold place_Home.f at h
  by_cases hok : okHome l0 l1
  case neg => rw [if_neg hok] at h; cases h
  rw [if_pos hok] at h
  replace h := Option.some.inj h
  by_cases h0 : chk l0 = 0
  · rw [if_pos h0] at h
    injection h with e1 e2
    subst e1 e2
    exact home_yes A0 c0 l0 A1 c1 l1 w hr0 hc0 hr1 hc1 hok h0
  · rw [if_neg h0] at h
    injection h with e1 e2
    subst e1 e2
    exact (home_no A0 c0 l0 A1 c1 l1 w hr0 hc0 hok h0).mono fun e w' h => ⟨_, h.1, Kd.R_nil _ _ _ _ _, h.2⟩
end Go.Proofs.YtdmieaidheelbaaDoor.Q
/- place.Fair by its contract: a closure over an array that the loop writes. -/
namespace Go.Proofs.YtdmieaidheelbaaDoor.Q
open Go Go.RowKit Go.Shelf Go.Proofs.YtdmieaidheelbaaDoor.Rng Go.Proofs.YtdmieaidheelbaaDoorW.PrintWords Go.Proofs.YtdmieaidheelbaaDoorW.PrintLast Go.Proofs.YtdmieaidheelbaaDoorW.PrintMore
set_option linter.unusedVariables false
set_option linter.unusedSimpArgs false

def allowsW (x : S36) (free : Nat) : Nat := allowsN x.f2.f0.toNat x.f2.f1.toNat free
def lacksN (free : Nat) (ah : List Bool) (x : S36) : Bool := (listOf (allowsW x free : Nat)).any fun c => !ah.getD c.toNat false
def fairFrom (free : Nat) : List Bool → List S36 → List S31 → Bool
  | _, [], left => left.isEmpty
  | ah, x :: l, [] => if lacksN free ah x then false else fairFrom free ah l []
  | ah, x :: l, p :: left => if p.f0 = x.f0 then (if hasN (allowsW x free) p.f1 && !ah.getD p.f1.toNat false then fairFrom free (ah.set p.f1.toNat true) l left else false)
      else if lacksN free ah x then false else fairFrom free ah l (p :: left)
theorem list_mem' (s : Nat) (c : Int) (h : c ∈ listOf (s : Int)) : 0 ≤ c ∧ c < 8 := by
  have := list_mem s c h
  exact ⟨this.1, this.2.1⟩
def okFair (l : List S36) (a : Int) (ps : List S31) : Prop := okArgs l a ∧ ps.length ≤ 1000000
instance (l : List S36) (a : Int) (ps : List S31) : Decidable (okFair l a ps) := inferInstanceAs (Decidable (_ ∧ _))
def place_Fair.f (l0 : List S36) (a1 : Int) (l2 : List S31) : Option (Bool × Int) := if okFair l0 a1 l2 then some (if askedOf l0 a1 = 0 then (fairFrom a1.toNat (List.replicate 8 false) l0 l2, 0) else (false, askedOf l0 a1)) else none

def IntsAt (W : World) (base : Nat) (A : Option Addr) (xs : List Int) : Prop := ∀ k, k < xs.length → ∃ ad, A = some ad ∧ base ≤ ad.block ∧ W.cell? (ad.add k) = some (.int .i64 (rd xs k))
theorem IntsAt.of {W : World} {base : Nat} {v : Value} {xs : List Int} (h : Kd.R (Kd.int .i64) 3 W base (fun _ => True) v xs) : ∃ A c, v = .slice A xs.length c ∧ IntsAt W base A xs := by
  obtain ⟨A, c, rfl, hc, hC⟩ := Kd.R_reads h
  refine ⟨A, c, rfl, fun k hk => ?_⟩
  obtain ⟨ad, e, hx⟩ := Kd.at_int hC (k : Int) (by omega) (by omega)
  rw [Int.toNat_natCast] at hx
  exact ⟨ad, e, Kd.R_base h _ (by rw [e]; rfl), hx⟩
theorem IntsAt.step {W W' : World} {base : Nat} {A : Option Addr} {xs : List Int} (h : IntsAt W base A xs) (hb : Below W.heap.size W W') : IntsAt W' base A xs := fun k hk => by
  obtain ⟨ad, e, hb2, hx⟩ := h k hk
  exact ⟨ad, e, hb2, (World.cell?_of_block (w := W) (hb.block _ (World.block_lt_of_cell? W _ hx))).trans hx⟩

set_option maxRecDepth 100000 in
set_option maxHeartbeats 4000000 in
theorem lacks_calls (bf ba : Nat) (x : S36) (hwf : Wf36 x) (free : Nat) (hf : free < 256) (ah : List Bool) (hah : ah.length = 8) (W : World) (hbf : Boxed W bf 24 (.int .u32 free)) (hba : Bools W ba 115 ah) (hT : TabW W) :
    Calls Tryd.prog 82 #[.agg #[.int .i64 x.f0, .int .i64 x.f1, .int .u32 x.f2.f0, .int .u32 x.f2.f1], .pointer (some ⟨bf, 0, none⟩), .pointer (some ⟨ba, 0, none⟩)] W fun e W' =>
      e = .returned (.bool (lacksN free ah x)) ∧ Below W.heap.size W W' := by
  obtain ⟨f0, f1, ⟨mh, ms⟩⟩ := x
  obtain ⟨hw1, hw2, hw3, hw4⟩ := hwf
  simp only at hw1 hw2 hw3 hw4
  obtain ⟨mh, rfl⟩ : ∃ m : Nat, mh = m := ⟨mh.toNat, by omega⟩
  obtain ⟨ms, rfl⟩ : ∃ m : Nat, ms = m := ⟨ms.toNat, by omega⟩
  have hal := Allows_val mh ms free (by omega) (by omega) (by omega) 2 (by omega)
  have hli := List_val (allowsN mh ms free) (by have := allowsN_lt mh ms free; omega)
  have hres : lacksN free ah ⟨f0, f1, ⟨(mh : Int), (ms : Int)⟩⟩ = (listOf (allowsN mh ms free : Nat)).any fun c => !ah.getD c.toNat false := rfl
  have hlen := listOf_len (allowsN mh ms free)
  have hmem := fun c => list_mem' (allowsN mh ms free) c
  generalize listOf (allowsN mh ms free : Nat) = cs at *
  rw [hres]
  have HMEM := Aside0.mk hmem
  clear hmem
  have hu36 := Tryd.underlying36
  have hu34 := Tryd.underlying34
  have hBA : Below W.heap.size W (W.alloc (.cells #[.int .i64 f0, .int .i64 f1, .int .u32 mh, .int .u32 ms] 36)) := (Below.refl _ _).alloc (Nat.le_refl _) _
  have hcf := (hbf.alloc (.cells #[.int .i64 f0, .int .i64 f1, .int .u32 mh, .int .u32 ms] 36)).cell
  have HAL := Aside0.mk hal
  have HLI := Aside0.mk hli
  have HBA := Aside0.mk hBA
  have HBF := Aside0.mk hbf
  have HBO := Aside0.mk hba
  have HT := Aside0.mk hT
  clear hal hli hres hbf hba hT hBA
  go_enter Tryd.func82, Tryd.ntmps82
  go_wp2_with (first
    | (go_at_call 22; refine (mask_Allows.calls 2 mh ms free _ _ HAL.out).mono ?_; rintro e w1 ⟨rfl, hb1⟩; have HB1 := Aside0.mk (HBA.out.trans (hb1.mono HBA.out.size)); clear hb1)
    | (go_at_call 68; refine (cpuset_List.calls _ _ _ (HT.out.step HB1.out) HLI.out).mono ?_; rintro e w2 ⟨v, rfl, hR, hb2⟩; obtain ⟨A2, k2, rfl, hI⟩ := IntsAt.of hR; have HB2 := Aside0.mk (HB1.out.trans (hb2.mono HB1.out.size)); have HI := Aside0.mk hI; clear hR hI hb2))
  have HBO2 := Aside0.mk (HBO.out.below HB2.out)
  clear HAL HLI HBA HB1 HBF hcf HBO HT
  go_loopw [13] (fun i wr => ∃ k : Nat, k ≤ cs.length ∧ i = .int .i64 k ∧ wr = w2 ∧ Aside0 ((cs.take k).any (fun c => !ah.getD c.toNat false) = false)) (fun i _ => cs.length - (intOf i).toNat)
  case atStart => exact ⟨0, Nat.zero_le _, rfl, rfl, ⟨rfl⟩⟩
  case round =>
    obtain ⟨k, hk, rfl, rfl, HNO⟩ := hrel
    by_cases hlt : k < cs.length
    case neg =>
      have hno := HNO.out
      rw [List.take_of_length_le (by omega)] at hno
      have HNN := Aside0.mk hno
      clear HMEM HI HBO2 HNO hno
      go_wp2
      go_ret
      refine ⟨?_, HB2.out⟩
      rw [HNN.out]; rfl
    case pos =>
      obtain ⟨ad, rfl, hb, hx⟩ := HI.out k hlt
      have e : cs[k] = rd cs (k : Int) := by simp [rd, hlt]
      have hxm := HMEM.out (rd cs k) (by rw [← e]; exact List.getElem_mem hlt)
      have hst := List.take_succ_eq_append_getElem hlt
      have hdr := List.drop_eq_getElem_cons hlt
      rw [e] at hst hdr
      have hall : cs = cs.take k ++ rd cs (k : Int) :: cs.drop (k + 1) := by rw [← hdr, List.take_append_drop]
      have HST := Aside0.mk hst
      have HALL := Aside0.mk hall
      clear hst hdr hall e
      generalize rd cs (k : Int) = c at *
      obtain ⟨hc0, hc8⟩ := hxm
      obtain ⟨dd, rfl⟩ : ∃ m : Nat, c = m := ⟨c.toNat, by omega⟩
      have hcell := HBO2.out.cell dd (by omega)
      cases hq : ah.getD dd false with
      | false =>
        rw [hq] at hcell
        have hres : (cs.any fun c => !ah.getD c.toNat false) = true := by
          rw [HALL.out, List.any_append, List.any_cons, Int.toNat_natCast, hq]; simp
        have HRES := Aside0.mk hres
        clear hq hres
        go_wp2
        go_ret
        refine ⟨?_, HB2.out⟩
        rw [HRES.out]; rfl
      | true =>
        rw [hq] at hcell
        have HQ := Aside0.mk hq
        clear hq
        go_wp2
        go_roundw
        case measure => simp only [intOf]; omega
        case rel => exact ⟨k + 1, by omega, rfl, trivial, ⟨by rw [HST.out, List.any_append, HNO.out]; simp only [List.any_cons, List.any_nil, Int.toNat_natCast, HQ.out]; rfl⟩⟩

set_option maxRecDepth 100000 in
set_option maxHeartbeats 4000000 in
theorem fair_no (A0 : Option Addr) (c0 : Nat) (l0 : List (S36)) (a1 : Int) (A2 : Option Addr) (c2 : Nat) (l2 : List (S31)) (w : World) (hr0 : Kd.C k36 w A0 l0.length l0) (hc0 : l0.length ≤ c0) (hok : okArgs l0 a1) (hn : askedOf l0 a1 ≠ 0) :
    Calls Tryd.prog 44 #[.slice A0 l0.length c0, .int .u32 a1, .slice A2 l2.length c2] w fun e w' => e = .returned (.tuple #[.bool false, .int .i64 (askedOf l0 a1)]) ∧ Below w.heap.size w w' := by
  have hv := asked_val l0 a1 hok
  have hne : (askedOf l0 a1 != 0) = true := by simpa using hn
  have hBA : Below w.heap.size w (w.alloc (.cells #[.int .u32 a1] 24)) := (Below.refl _ _).alloc (Nat.le_refl _) _
  have hcf := (Boxed.new w 24 (.int .u32 a1)).cell
  have HV := Aside0.mk hv
  have HR0 := Aside0.mk hr0
  have HC0 := Aside0.mk hc0
  have HBA := Aside0.mk hBA
  clear hv hr0 hc0 hok hn hBA
  generalize askedOf l0 a1 = q at *
  go_enter Tryd.func44, Tryd.ntmps44
  go_wp2
  go_step3
  go_wp2_with (go_at_call 57; refine (place_asked.calls A0 c0 l0 a1 q _ (Kd.C_below HR0.out HBA.out) HC0.out HV.out).mono ?_; rintro e w1 ⟨rfl, hb⟩; have HB1 := Aside0.mk (HBA.out.trans (hb.mono HBA.out.size)); clear hb)
  rw [Exit.noGoto_ret]
  go_ret2
  exact ⟨rfl, HB1.out⟩

set_option maxRecDepth 100000 in
set_option maxHeartbeats 8000000 in
theorem fair_yes (A0 : Option Addr) (c0 : Nat) (l0 : List (S36)) (free : Nat) (A2 : Option Addr) (c2 : Nat) (l2 : List (S31)) (w : World) (hr0 : Kd.C k36 w A0 l0.length l0) (hc0 : l0.length ≤ c0) (hr2 : Kd.C k31 w A2 l2.length l2) (hc2 : l2.length ≤ c2) (hok : okFair l0 free l2) (hn : askedOf l0 free = 0) (hf : free < 256) (hT : TabW w) :
    Calls Tryd.prog 44 #[.slice A0 l0.length c0, .int .u32 free, .slice A2 l2.length c2] w fun e w' => e = .returned (.tuple #[.bool (fairFrom free (List.replicate 8 false) l0 l2), .int .i64 0]) ∧ Below w.heap.size w w' := by
  have hv := asked_val l0 free hok.1
  rw [hn] at hv
  have hBA : Below w.heap.size w (w.alloc (.cells #[.int .u32 free] 24)) := (Below.refl _ _).alloc (Nat.le_refl _) _
  have hbx := Boxed.new w 24 (.int .u32 free)
  have hcf := hbx.cell
  have HV := Aside0.mk hv
  have HR0 := Aside0.mk hr0
  have HC0 := Aside0.mk hc0
  have HR2 := Aside0.mk hr2
  have HC2 := Aside0.mk hc2
  have HBA := Aside0.mk hBA
  have HBX := Aside0.mk hbx
  have HTW := Aside0.mk hT
  have HOK := Aside0.mk hok
  have hu36 := Tryd.underlying36
  have hu31 := Tryd.underlying31
  clear hv hr0 hc0 hr2 hc2 hok hn hBA hbx hT
  go_enter Tryd.func44, Tryd.ntmps44
  go_wp2
  go_step3
  go_wp2_with (go_at_call 57; refine (place_asked.calls A0 c0 l0 free 0 _ (Kd.C_below HR0.out HBA.out) HC0.out HV.out).mono ?_; rintro e w1 ⟨rfl, hb⟩; have HBX1 := Aside0.mk (show Boxed w1 w.heap.size 24 (.int .u32 free) from (hb.block _ HBX.out.lt).trans HBX.out); have HB1 := Aside0.mk (HBA.out.trans (hb.mono HBA.out.size)); clear hb)
  go_step3
  go_wp2
  have hba := heap_alloc_new w1 (.cells (List.replicate 8 (Value.bool false)).toArray 115)
  have HBO0 := Aside0.mk (show Bools (w1.alloc (.cells (List.replicate 8 (Value.bool false)).toArray 115)) w1.heap.size 115 (List.replicate 8 false) from hba)
  have HBF0 := Aside0.mk (HBX1.out.alloc (.cells (List.replicate 8 (Value.bool false)).toArray 115))
  have HB0 := Aside0.mk (HB1.out.alloc HB1.out.size (.cells (List.replicate 8 (Value.bool false)).toArray 115))
  have hs1 := HB1.out.size
  have hlt1 := HBX1.out.lt
  have HS1 := Aside0.mk (And.intro hs1 hlt1)
  clear hba HB1 HBX1 HBX HBA hcf HV hs1 hlt1
  generalize hnb : w1.heap.size = nb at *
  clear hnb
  go_loopg [10, 25] l0.length (fun g s10 s25 wx => ∃ (k : Nat) (ah : List Bool) (left : List S31) (Al : Option Addr) (cl : Nat), k + g = l0.length ∧ s25 = .int .i64 k ∧ s10 = .slice Al left.length cl ∧ ah.length = 8 ∧ left.length ≤ cl ∧ left.length ≤ 1000000 ∧
      Aside0 (fairFrom free (List.replicate 8 false) l0 l2 = fairFrom free ah (l0.drop k) left) ∧ Aside0 (Kd.C k31 w Al left.length left) ∧ Aside0 (Bools wx nb 115 ah) ∧ Aside0 (Boxed wx w.heap.size 24 (.int .u32 free)) ∧ Aside0 (Below w.heap.size w wx))
  case atStart => exact ⟨0, List.replicate 8 false, l2, A2, c2, by omega, rfl, rfl, by simp, HC2.out, HOK.out.2, ⟨rfl⟩, HR2, HBO0, HBF0, HB0⟩
  case round =>
    obtain ⟨k, ah, left, Al, cl, hkg, rfl, rfl, hahl, hlc, hlm, HF, HL, HBO, HBF, HB⟩ := hrel
    clear HBO0 HBF0 HB0
    cases gk with
    | zero =>
      have hk : ¬ ((k : Int) < (l0.length : Int)) := by omega
      have hres := HF.out
      rw [List.drop_eq_nil_of_le (by omega)] at hres
      have HRES := Aside0.mk hres
      clear hres HF
      cases left with
      | nil =>
        go_wp2
        (try rw [Exit.noGoto_ret])
        go_ret2
        refine ⟨?_, HB.out⟩
        rw [HRES.out]; rfl
      | cons p left =>
        have hq : (((p :: left).length : Int) == 0) = false := by rw [beq_eq_false_iff_ne, List.length_cons]; omega
        go_wp2
        (try rw [Exit.noGoto_ret])
        go_ret2
        refine ⟨?_, HB.out⟩
        rw [HRES.out]; rfl
    | succ go =>
      have hlt : k < l0.length := by omega
      obtain ⟨ad, rfl, hx0, hx1, hx2, hx3⟩ := at_T36 (Kd.C_below HR0.out HB.out) (k : Int) (by omega) (by omega)
      rw [Int.toNat_natCast] at hx0 hx1 hx2 hx3
      have hlm0 := HOK.out.1.2.1
      have hwx := HOK.out.1.1 _ (rd36_mem l0 k hlt)
      have hfr := HF.out
      rw [drop_rd l0 k hlt] at hfr
      generalize rd_T36 l0 (k : Int) = x at *
      obtain ⟨f0, f1, ⟨mh, ms⟩⟩ := x
      have HWX := Aside0.mk hwx
      obtain ⟨hw1, hw2, hw3, hw4⟩ := hwx
      simp only at hx0 hx1 hx2 hx3 hw1 hw2 hw3 hw4
      obtain ⟨mh, rfl⟩ : ∃ m : Nat, mh = m := ⟨mh.toNat, by omega⟩
      obtain ⟨ms, rfl⟩ : ∃ m : Nat, ms = m := ⟨ms.toNat, by omega⟩
      have HAL := Aside0.mk (Allows_val mh ms free (by omega) (by omega) (by omega) 2 (by omega))
      clear hw1 hw2 hw3 hw4
      have hbs := HB.out.size
      have HBA := Aside0.mk (HB.out.alloc hbs (.cells #[.int .i64 f0, .int .i64 f1, .int .u32 mh, .int .u32 ms] 36))
      have HBOA := Aside0.mk (HBO.out.alloc (.cells #[.int .i64 f0, .int .i64 f1, .int .u32 mh, .int .u32 ms] 36))
      have HBFA := Aside0.mk (HBF.out.alloc (.cells #[.int .i64 f0, .int .i64 f1, .int .u32 mh, .int .u32 ms] 36))
      have HTA := Aside0.mk (HTW.out.step HBA.out)
      have HBQ := Aside0.mk (fun n => below_at (m := n) rfl HBA.out)
      have HBOQ := Aside0.mk (fun n => show Bools ((wr.alloc (.cells #[.int .i64 f0, .int .i64 f1, .int .u32 mh, .int .u32 ms] 36)).drewN n) nb 115 ah from blk_at rfl HBOA.out)
      have HBFQ := Aside0.mk (fun n => show Boxed ((wr.alloc (.cells #[.int .i64 f0, .int .i64 f1, .int .u32 mh, .int .u32 ms] 36)).drewN n) w.heap.size 24 (.int .u32 free) from blk_at rfl HBFA.out)
      have HTQ := Aside0.mk (fun n => HTW.out.step (HBQ.out n))
      -- one that is not the next of the placements
      have hskip : (left.length = 0 ∨ ∃ p rest, left = p :: rest ∧ p.f0 ≠ f0) → Aside0 (fairFrom free (List.replicate 8 false) l0 l2 = if lacksN free ah ⟨f0, f1, ⟨(mh : Int), (ms : Int)⟩⟩ then false else fairFrom free ah (l0.drop (k + 1)) left) := by
        rintro (h | ⟨p, rest, rfl, h⟩)
        · obtain rfl := List.eq_nil_of_length_eq_zero h
          exact ⟨hfr⟩
        · refine ⟨hfr.trans ?_⟩
          rw [fairFrom, if_neg h]
      have hlk := fun W2 (h1 : Boxed W2 w.heap.size 24 (.int .u32 free)) (h2 : Bools W2 nb 115 ah) (h3 : TabW W2) => lacks_calls w.heap.size nb ⟨f0, f1, ⟨(mh : Int), (ms : Int)⟩⟩ HWX.out free hf ah hahl W2 h1 h2 h3
      have HLK := Aside0.mk hlk
      have HFR := Aside0.mk hfr
      clear hlk hfr HF HBO HBF
      cases left with
      | nil =>
        have HSK := hskip (.inl rfl)
        clear hskip HFR
        cases hq : lacksN free ah ⟨f0, f1, ⟨(mh : Int), (ms : Int)⟩⟩ with
        | true =>
          rw [hq] at HSK HLK
          clear hq
          go_wp2
          go_quiet (fail)
          go_wp2_with (go_at_call 82; refine (HLK.out _ (HBFQ.out nq) (HBOQ.out nq) (HTQ.out nq)).mono ?_; rintro e w5 ⟨rfl, hb5⟩; have HB5 := Aside0.mk ((HBQ.out nq).trans (hb5.mono (HBQ.out nq).size)); clear hb5)
          (try rw [Exit.noGoto_ret])
          go_ret2
          refine ⟨?_, HB5.out⟩
          rw [HSK.out]; rfl
        | false =>
          rw [hq] at HSK HLK
          clear hq
          go_wp2
          go_quiet (fail)
          go_wp2_with (go_at_call 82; refine (HLK.out _ (HBFQ.out nq) (HBOQ.out nq) (HTQ.out nq)).mono ?_; rintro e w5 ⟨rfl, hb5⟩; have HB5 := Aside0.mk ((HBQ.out nq).trans (hb5.mono (HBQ.out nq).size)); have HBO5 := Aside0.mk ((HBOQ.out nq).below hb5); have HBF5 := Aside0.mk (show Boxed w5 w.heap.size 24 (.int .u32 free) from (hb5.block _ (HBFQ.out nq).lt).trans (HBFQ.out nq)); clear hb5)
          go_roundg go
          case measure => omega
          case rel => exact ⟨k + 1, ah, [], Al, cl, by omega, rfl, rfl, hahl, hlc, by simp, ⟨HSK.out⟩, HL, HBO5, HBF5, HB5⟩
      | cons p rest =>
        obtain ⟨p0, p1⟩ := p
        have hlen : (List.length (⟨p0, p1⟩ :: rest)) = rest.length + 1 := rfl
        obtain ⟨ap, e, hp0, hp1⟩ := at_T31 (Kd.C_below HL.out HB.out) 0 (by omega) (by rw [hlen]; omega)
        subst e
        have er : rd_T31 (⟨p0, p1⟩ :: rest) 0 = ⟨p0, p1⟩ := rfl
        rw [er] at hp0 hp1
        have ea : ap.add 0 = ap := by unfold Addr.add; simp
        simp only [Int.toNat_zero, Nat.zero_mul, ea] at hp0 hp1
        have hp0a := (World.cell?_alloc_lt wr (.cells #[.int .i64 f0, .int .i64 f1, .int .u32 mh, .int .u32 ms] 36) _ (World.block_lt_of_cell? wr _ hp0)).trans hp0
        have hp1a := (World.cell?_alloc_lt wr (.cells #[.int .i64 f0, .int .i64 f1, .int .u32 mh, .int .u32 ms] 36) _ (World.block_lt_of_cell? wr _ hp1)).trans hp1
        have hq0 : (((rest.length + 1 : Nat) : Int) == 0) = false := by rw [beq_eq_false_iff_ne]; omega
        rw [hlen] at *
        by_cases hv : p0 = f0
        case neg =>
          have HSK := hskip (.inr ⟨_, _, rfl, hv⟩)
          have hvb : (p0 != f0) = true := by simpa using hv
          clear hskip HFR
          cases hq : lacksN free ah ⟨f0, f1, ⟨(mh : Int), (ms : Int)⟩⟩ with
          | true =>
            rw [hq] at HSK HLK
            clear hq
            go_wp2
            go_quiet (fail)
            go_wp2_with (go_at_call 82; refine (HLK.out _ (HBFQ.out nq) (HBOQ.out nq) (HTQ.out nq)).mono ?_; rintro e w5 ⟨rfl, hb5⟩; have HB5 := Aside0.mk ((HBQ.out nq).trans (hb5.mono (HBQ.out nq).size)); clear hb5)
            (try rw [Exit.noGoto_ret])
            go_ret2
            refine ⟨?_, HB5.out⟩
            rw [HSK.out]; rfl
          | false =>
            rw [hq] at HSK HLK
            clear hq
            go_wp2
            go_quiet (fail)
            go_wp2_with (go_at_call 82; refine (HLK.out _ (HBFQ.out nq) (HBOQ.out nq) (HTQ.out nq)).mono ?_; rintro e w5 ⟨rfl, hb5⟩; have HB5 := Aside0.mk ((HBQ.out nq).trans (hb5.mono (HBQ.out nq).size)); have HBO5 := Aside0.mk ((HBOQ.out nq).below hb5); have HBF5 := Aside0.mk (show Boxed w5 w.heap.size 24 (.int .u32 free) from (hb5.block _ (HBFQ.out nq).lt).trans (HBFQ.out nq)); clear hb5)
            go_roundg go
            case measure => omega
            case rel => exact ⟨k + 1, ah, ⟨p0, p1⟩ :: rest, some ap, cl, by omega, rfl, rfl, hahl, hlc, hlm, ⟨HSK.out⟩, HL, HBO5, HBF5, HB5⟩
        case pos =>
          subst hv
          clear hskip
          have hpp : fairFrom free ah (⟨p0, f1, ⟨(mh : Int), (ms : Int)⟩⟩ :: l0.drop (k + 1)) (⟨p0, p1⟩ :: rest) = if hasN (allowsN mh ms free) p1 && !ah.getD p1.toNat false then fairFrom free (ah.set p1.toNat true) (l0.drop (k + 1)) rest else false := by
            rw [fairFrom, if_pos rfl]; rfl
          have hfin := HFR.out.trans hpp
          have hcf2 := HBFA.out.cell
          have hha := Has_val (allowsN mh ms free) (by have := allowsN_lt mh ms free; omega) p1
          have HFIN := Aside0.mk hfin
          have hvb : (p0 != p0) = false := by simp
          clear hpp hfin HFR HLK
          cases hb : hasN (allowsN mh ms free) p1 with
          | false =>
            rw [hb] at hha HFIN
            have HHA := Aside0.mk hha
            clear hb hha
            go_wp2
            go_quiet (fail)
            go_wp2_with (first
              | (go_at_call 22; refine (mask_Allows.calls 2 mh ms free _ _ HAL.out).mono ?_; rintro e w5 ⟨rfl, hb5⟩; have HB5 := Aside0.mk ((HBQ.out nq).trans (hb5.mono (HBQ.out nq).size)); clear hb5)
              | (go_at_call 21; refine (cpuset_Has.calls (allowsN mh ms free) p1 false _ HHA.out).mono ?_; rintro e w6 ⟨rfl, ⟨nd, rfl⟩⟩))
            (try rw [Exit.noGoto_ret])
            go_ret2
            refine ⟨?_, below_at rfl HB5.out⟩
            rw [HFIN.out]; rfl
          | true =>
            have hb' := hb
            unfold hasN at hb'
            simp only [Bool.and_eq_true, decide_eq_true_eq] at hb'
            obtain ⟨⟨hp10, hp18⟩, _⟩ := hb'
            obtain ⟨dd, rfl⟩ : ∃ m : Nat, p1 = m := ⟨p1.toNat, by omega⟩
            rw [hb] at hha HFIN
            have HHA := Aside0.mk hha
            have hd8 : dd < 8 := by omega
            rw [Int.toNat_natCast] at HFIN
            clear hb hha
            cases hq : ah.getD dd false with
            | true =>
              rw [hq] at HFIN
              have hcq := fun n => (HBOQ.out n).cell dd (by omega)
              rw [hq] at hcq
              have HCQ := Aside0.mk hq
              clear hq hcq
              go_wp2
              go_quiet (fail)
              go_wp2_with (first
                | (go_at_call 22; refine (mask_Allows.calls 2 mh ms free _ _ HAL.out).mono ?_; rintro e w5 ⟨rfl, hb5⟩; have HB5 := Aside0.mk ((HBQ.out nq).trans (hb5.mono (HBQ.out nq).size)); have hcell := ((HBOQ.out nq).below hb5).cell dd (by omega); rw [HCQ.out] at hcell; clear hb5)
                | (go_at_call 21; refine (cpuset_Has.calls (allowsN mh ms free) dd true _ HHA.out).mono ?_; rintro e w6 ⟨rfl, ⟨nd, rfl⟩⟩))
              (try rw [Exit.noGoto_ret])
              go_ret2
              refine ⟨?_, below_at rfl HB5.out⟩
              rw [HFIN.out]; rfl
            | false =>
              rw [hq] at HFIN
              have HCQ := Aside0.mk hq
              clear hq
              obtain ⟨i1, hi1, _, hsz1, _⟩ := info_parts info31
              have hcut := cut_from (P := Tryd.prog) 26 31 .i64 Tryd.underlying26 hi1 2 hsz1 (some ap) (rest.length + 1) cl 1 (by omega) (by omega)
              rw [show ((1 : Int)).toNat = 1 from rfl, Nat.add_sub_cancel] at hcut
              have hCd := Kd.C_drop (m := 1) (c := cl) HL.out (by rw [List.length_cons]; omega) (by rw [List.length_cons]; omega)
              obtain ⟨A3, hA3⟩ : ∃ A3, A3 = (if cl = 1 then some ap else (some ap : Option Addr).map (·.add (1 * 2))) := ⟨_, rfl⟩
              rw [← hA3] at hcut
              replace hCd : Kd.C k31 w A3 rest.length rest := by rw [hA3]; exact hCd
              have HCD := Aside0.mk hCd
              clear hCd hA3 hi1 hsz1
              go_wp2
              go_quiet (fail)
              go_wp2_with (first
                | (go_at_call 22; refine (mask_Allows.calls 2 mh ms free _ _ HAL.out).mono ?_; rintro e w5 ⟨rfl, hb5⟩; have HB5 := Aside0.mk ((HBQ.out nq).trans (hb5.mono (HBQ.out nq).size)); have hcell := ((HBOQ.out nq).below hb5).cell dd (by omega); rw [HCQ.out] at hcell; have hfrz := ((HBOQ.out nq).below hb5).frozen dd; have HBO5 := Aside0.mk ((HBOQ.out nq).below hb5); have HBF5 := Aside0.mk (show Boxed w5 w.heap.size 24 (.int .u32 free) from (hb5.block _ (HBFQ.out nq).lt).trans (HBFQ.out nq)); clear hb5)
                | (go_at_call 21; refine (cpuset_Has.calls (allowsN mh ms free) dd true _ HHA.out).mono ?_; rintro e w6 ⟨rfl, ⟨nd, rfl⟩⟩))
              generalize hw6 : w5.drewN nd = w6
              have HB6 := Aside0.mk (below_at hw6 HB5.out)
              have HBO6 := Aside0.mk (show Bools w6 nb 115 ah from blk_at hw6 HBO5.out)
              have HBF6 := Aside0.mk (show Boxed w6 w.heap.size 24 (.int .u32 free) from blk_at hw6 HBF5.out)
              have hcell6 := HBO6.out.cell dd (by omega)
              rw [HCQ.out] at hcell6
              have hfrz6 := HBO6.out.frozen dd
              clear hw6 hcell hfrz HBO5 HBF5 HB5
              go_region
              all_goals go_wp2
              all_goals go_roundg go
              all_goals first
                | (case measure => omega)
                | (case rel =>
                    have g1 : rest.length ≤ cl - 1 := by rw [List.length_cons] at hlc; omega
                    have g2 : rest.length ≤ 1000000 := by rw [List.length_cons] at hlm; omega
                    have g3 : w.heap.size ≠ nb := by have := HS1.out.2; omega
                    have g4 : Below w.heap.size w (w6.setCell ⟨nb, dd, none⟩ (.bool true)) := HB6.out.setCell (p := ⟨nb, dd, none⟩) HS1.out.1 _
                    exact ⟨k + 1, ah.set dd true, rest, A3, cl - 1, by omega, rfl, rfl, by simpa using hahl, g1, g2, ⟨HFIN.out⟩, HCD, ⟨show Bools (w6.setCell ⟨nb, dd, none⟩ (.bool true)) nb 115 _ from HBO6.out.set dd true⟩, ⟨show Boxed (w6.setCell ⟨nb, dd, none⟩ (.bool true)) w.heap.size _ _ from blk_far HBF6.out g3 _⟩, ⟨below_drew g4⟩⟩)
theorem fair_lt {l : List S36} {a : Int} (h : askedOf l a = 0) : a < 256 := by
  unfold askedOf at h
  split at h
  · next hc => exact absurd h hc
  · split at h
    · assumption
    · cases h
theorem place_Fair.calls (A0 : Option Addr) (c0 : Nat) (l0 : List (S36)) (a1 : Int) (A2 : Option Addr) (c2 : Nat) (l2 : List (S31)) (r1 : Bool) (r2 : Int) (w : World) (hr0 : Kd.C k36 w A0 l0.length l0) (hc0 : l0.length ≤ c0) (hr2 : Kd.C k31 w A2 l2.length l2) (hc2 : l2.length ≤ c2) (hT : TabW w) (h : place_Fair.f l0 a1 l2 = some (r1, r2)) :
    Calls Tryd.prog 44 #[.slice A0 l0.length c0, .int .u32 a1, .slice A2 l2.length c2] w fun e w' => e = .returned (.tuple #[.bool r1, .int .i64 r2]) ∧ Below w.heap.size w w' := by
  unfold place_Fair.f at h
  by_cases hok : okFair l0 a1 l2
  case neg => rw [if_neg hok] at h; cases h
  rw [if_pos hok] at h
  replace h := Option.some.inj h
  by_cases h0 : askedOf l0 a1 = 0
  · rw [if_pos h0] at h
    injection h with e1 e2
    subst e1 e2
    have hf := fair_lt h0
    obtain ⟨free, rfl⟩ : ∃ n : Nat, a1 = n := ⟨a1.toNat, by have := hok.1.2.2.1; omega⟩
    exact fair_yes A0 c0 l0 free A2 c2 l2 w hr0 hc0 hr2 hc2 hok h0 (by omega) hT
  · rw [if_neg h0] at h
    injection h with e1 e2
    subst e1 e2
    exact fair_no A0 c0 l0 a1 A2 c2 l2 w hr0 hc0 hok.1 h0
end Go.Proofs.YtdmieaidheelbaaDoor.Q
end
/- Place -/
section
/- place.Place by its contract. -/
namespace Go.Proofs.YtdmieaidheelbaaDoor.Q
open Go Go.RowKit Go.Shelf Go.Proofs.YtdmieaidheelbaaDoor.Rng Go.Proofs.YtdmieaidheelbaaDoorW.PrintWords Go.Proofs.YtdmieaidheelbaaDoorW.PrintLast Go.Proofs.YtdmieaidheelbaaDoorW.PrintMore
set_option linter.unusedVariables false
set_option linter.unusedSimpArgs false
attribute [local go_sem] Oper.semAt_some

set_option maxRecDepth 100000 in
set_option maxHeartbeats 8000000 in
theorem place_no (A0 : Option Addr) (c0 : Nat) (l0 : List (S36)) (a1 : Int) (w : World) (hr0 : Kd.C k36 w A0 l0.length l0) (hc0 : l0.length ≤ c0) (hok : okArgs l0 a1) (hne : askedOf l0 a1 ≠ 0) :
    Calls Tryd.prog 16 #[.slice A0 l0.length c0, .int .u32 a1] w fun e w' => e = .returned (.tuple #[.slice none 0 0, .int .u32 0, .int .i64 (askedOf l0 a1)]) ∧ Below w.heap.size w w' := by
  have hv := Aside0.mk (asked_val l0 a1 hok)
  have hr1 := Aside0.mk hr0
  have hc1 := Aside0.mk hc0
  generalize askedOf l0 a1 = q at *
  have hq : (q != 0) = true := by rw [bne_iff_ne]; exact hne
  clear hne hr0 hc0 hok
  go_enter Tryd.func16, Tryd.ntmps16
  go_wp2_with (go_at_call 57; refine (place_asked.calls A0 c0 l0 a1 q _ hr1.out hc1.out hv.out).mono ?_; rintro e w1 ⟨rfl, hb1⟩; have HB1 := Aside0.mk hb1; clear hb1)
  go_ret3
  exact ⟨rfl, HB1.out⟩

/-- what a round keeps: the iterator's own variables, and all that lay -/
def keepP (b n₀ k : Nat) : Prop := k = b ∨ k = b + 1 ∨ k < n₀
def ownP (b k : Nat) : Prop := k = b ∨ k = b + 1 + 1
/-- between two rounds -/
def PlaceI (w4 : World) (b : Nat) (pre : List (S36 × Int)) (W : World) : Prop :=
  Held W w4.heap.size b 26 31 2 (putsOf pre).length ((putsOf pre).flatMap enc31) ∧ Turned w4.heap.size (ownP b) w4 W
def NoExit (_ : Code) (_ : World) : Prop := False

set_option maxRecDepth 100000 in
set_option maxHeartbeats 8000000 in
theorem place_yes (A0 : Option Addr) (c0 : Nat) (l0 : List (S36)) (free : Nat) (w : World) (hr0 : Kd.C k36 w A0 l0.length l0) (hc0 : l0.length ≤ c0) (hok : okArgs l0 free) (h0 : askedOf l0 free = 0) (hf : free < 256) (hT : TabW w) :
    Calls Tryd.prog 16 #[.slice A0 l0.length c0, .int .u32 free] w fun e w' => ∃ v, e = .returned (.tuple #[v, .int .u32 (takeAll free (putsOf (turnsOf free l0)) : Nat), .int .i64 0]) ∧ Kd.R k31 31 w' w.heap.size (fun _ => True) v (putsOf (turnsOf free l0)) ∧ Below w.heap.size w w' := by
  have hv := asked_val l0 free hok
  rw [h0] at hv
  obtain ⟨hwf, hlen, -, -⟩ := hok
  have HV := Aside0.mk hv
  have HR := Aside0.mk hr0
  have HC := Aside0.mk hc0
  have HWF := Aside0.mk hwf
  have HT := Aside0.mk hT
  have HW := Aside0.mk (Wishes.of hr0)
  clear hv hr0 hc0 hwf hT h0
  refine (callsIn_wide (n := 9)).1 ?_
  refine callsIn_of_wp_marks Tryd.func16 rfl trivial ?_ rfl
  simp only [Tryd.ntmps16, List.size_toArray, List.length_cons, List.length_nil, Nat.reduceAdd, Nat.reduceSub, Array.replicate_succ, Array.replicate_zero, List.push_toArray, List.append_toArray, List.nil_append, List.cons_append]
  gi_wp2_with (first
    | (refine ⟨trivial, ?_⟩; gi_at_call 57; refine (callsIn_wide.2 (place_asked.calls A0 c0 l0 free 0 _ HR.out HC.out HV.out)).mono ?_; rintro e w1 ⟨rfl, hb1⟩; have HB1 := Aside0.mk hb1; clear hb1)
    | (refine ⟨trivial, ?_⟩; gi_at_call 58; refine (callsIn_wide.2 (turns_calls _ _ _ _ _)).mono ?_; rintro e w2 ⟨rfl, rfl⟩))
  have hsz1 := HB1.out.size
  have hpos := HT.out.pos
  have HT1 := HT.out.step HB1.out
  have hB : Below w1.heap.size w1 (((w1.alloc (.cells #[.slice none 0 0] 26)).alloc (.cells #[.slice A0 l0.length c0] 22)).alloc (.cells #[.int .u32 free] 24)) :=
    (((Below.refl _ w1).alloc (Nat.le_refl _) _).alloc (by simp) _).alloc (by simp; omega) _
  have b0 := Boxed.new w1 26 (.slice none 0 0)
  have b1 := Boxed.new (w1.alloc (.cells #[.slice none 0 0] 26)) 22 (.slice A0 l0.length c0)
  have b2 := Boxed.new ((w1.alloc (.cells #[.slice none 0 0] 26)).alloc (.cells #[.slice A0 l0.length c0] 22)) 24 (.int .u32 free)
  simp only [World.size_alloc] at b1 b2
  replace b0 := (b0.alloc (.cells #[.slice A0 l0.length c0] 22)).alloc (.cells #[.int .u32 free] 24)
  replace b1 := b1.alloc (.cells #[.int .u32 free] 24)
  have hsz : (((w1.alloc (.cells #[.slice none 0 0] 26)).alloc (.cells #[.slice A0 l0.length c0] 22)).alloc (.cells #[.int .u32 free] 24)).heap.size = w1.heap.size + 3 := by simp
  have HT4 := HT1.step hB
  have hszl : w1.heap.size + 3 ≤ (((w1.alloc (.cells #[.slice none 0 0] 26)).alloc (.cells #[.slice A0 l0.length c0] 22)).alloc (.cells #[.int .u32 free] 24)).heap.size := by simp
  have HW4 := HW.out.same (W' := ((w1.alloc (.cells #[.slice none 0 0] 26)).alloc (.cells #[.slice A0 l0.length c0] 22)).alloc (.cells #[.int .u32 free] 24)) (fun k hk => (hB.block k (by omega)).trans (HB1.out.block k hk))
  obtain ⟨w4, hw4⟩ : ∃ w4, (((w1.alloc (.cells #[.slice none 0 0] 26)).alloc (.cells #[.slice A0 l0.length c0] 22)).alloc (.cells #[.int .u32 free] 24)) = w4 := ⟨_, rfl⟩
  rw [hw4] at b0 b1 b2 hB hsz hszl HT4 HW4 ⊢
  clear hw4
  have hit := turns1_iter (w1.heap.size + 1) (w1.heap.size + 1 + 1) w.heap.size A0 c0 l0 free hf hlen HWF.out w4 b1 b2 HT4 HW4 (by omega) (by omega) hpos
  have htl := turns_len free l0
  have HBA := Aside0.mk (below_step HB1.out hB)
  obtain ⟨i0, hi, hz0, hz1, hz2⟩ := info_parts info31
  refine wpIn_range (gf := 88) (lb := #[.pointer (some ⟨w1.heap.size + 1, 0, none⟩), .pointer (some ⟨w1.heap.size + 1 + 1, 0, none⟩)]) rfl (enters_of Tryd.func88 (by kernel_rfl) rfl) (keep := keepP (w1.heap.size + 1) w.heap.size) hit (fun _ => rfl) (by omega) (fun k hk => by unfold keepP at hk; omega)
    (PlaceI w4 w1.heap.size) NoExit
    ?calm (fun _ _ _ _ h _ _ => h.elim) ⟨⟨_, b0, World.ownsRow_nil _ _ _ _⟩, Turned.refl _ _ _⟩
    (fun pre x a' W => PlaceI w4 w1.heap.size pre W ∧
      ∃ bx, w4.heap.size ≤ bx ∧ W.heap[bx]? = some (.cells #[.int .i64 x.1.f0, .int .i64 x.1.f1, .int .u32 x.1.f2.f0, .int .u32 x.1.f2.f1] 36 (0, 0)) ∧
      a' = { tmps := ([.slice A0 l0.length c0, .int .u32 free, undef, undef, .slice none 0 0, .int .u32 0, .int .i64 0, .int .i64 0, .pointer (some ⟨w1.heap.size, 0, none⟩), .pointer (some ⟨bx, 0, none⟩), .int .i64 x.2, undef, undef, .slice A0 l0.length c0, .int .u32 free, .int .i64 0, .int .i64 0, .bool false, undef, .slice A0 l0.length c0, .int .u32 free,
        .func (.func 88) #[] #[.pointer (some ⟨w1.heap.size + 1, 0, none⟩), .pointer (some ⟨w1.heap.size + 1 + 1, 0, none⟩)], .agg #[.int .i64 x.1.f0, .int .i64 x.1.f1, .int .u32 x.1.f2.f0, .int .u32 x.1.f2.f1], .int .i64 x.2] ++ [undef, undef, undef, undef, undef, undef, undef, undef, undef, undef, undef, undef, undef, undef, undef, undef, undef, undef, undef, undef, undef, undef, undef]).toArray, defers := [] })
    ?calma ?assign ?body ?done (fun _ _ _ _ h _ => h.elim)
  case calm =>
    rintro pre X Y r ⟨h1, h2⟩ hg hr
    have hXs := h2.size
    refine ⟨h1.far hg ?_, h2.grown hg hXs (fun k e => by injection e with e; subst e; rcases hr with rfl | ⟨h, _⟩; exact .inl (.inr rfl); exact .inr h)⟩
    rcases hr with rfl | ⟨h, ho⟩
    · exact .inl ⟨by omega, by omega⟩
    · exact .inr ho
  case calma =>
    rintro ⟨pre, x, a'⟩ X Y r ⟨⟨h1, h2⟩, bx, h3, h4, h5⟩ hg ⟨hr, o, ho, hcl⟩
    have hXs := h2.size
    refine ⟨⟨h1.far hg (.inr ⟨o, ho, hcl⟩), h2.grown hg hXs (fun k e => by injection e with e; subst e; exact .inr hr)⟩, bx, h3, blk_grown h4 hg (fun e => ?_), h5⟩
    injection e with e
    subst e
    rw [h4] at ho; cases ho; cases hcl
  case assign =>
    rintro lp pre ⟨x, c⟩ rest W K hx hszW ⟨h1, h2⟩ hK
    have hu36 := Tryd.underlying36
    have HK := Aside0.mk hK
    clear hK hit hB b0 b1 b2 htl hi hz0 hz1 hz2 hsz hx
    dsimp only [encTurn]
    gi_wp2
    refine HK.out _ _ ((KeepsOthers.alloc _ _).from _) (fun k hk => Below.heap_alloc _ _ _ (by unfold keepP at hk; omega)) ⟨⟨h1.alloc _, h2.alloc hszW _⟩, W.heap.size, hszW, heap_alloc_new W _, rfl⟩
  case body =>
    rintro lp pre ⟨x, c⟩ rest a' W hx hszW ⟨⟨⟨v, hv, hrow⟩, h2⟩, bx, h3, h4, rfl⟩
    simp only [List.cons_append, List.nil_append] at h4 ⊢
    have c0' := hv.cell
    have k0 := blk_cell h4 0
    simp only [List.getElem?_toArray, List.getElem?_cons_zero] at k0
    have hpl : (putsOf pre).length < 1000000 := by
      have h1 := puts_len pre
      have h2 := congrArg List.length hx
      rw [htl] at h2; simp at h2; omega
    have HX := Aside0.mk hx
    have HX2 := Aside0.mk h2
    clear hx hit hB b0 b1 b2 h2 htl hsz
    by_cases hc : -1 < c
    · gi_wp2_with (gi_at_builtin; (refine wpListIn_append_own _ rfl _ _ 26 rfl w4.heap.size 31 i0 (.agg #[.int .i64 0, .int .i64 0]) 2 16 Tryd.underlying26 hi hz0 hz1 hz2 rfl (by decide) _ _ _ rfl (hrow.alloc _) ⟨W.heap.size, 0, none⟩ 1 1 [.int .i64 x.f0, .int .i64 c] rfl rfl (cell_two_new _ _ _ _) (by simp [Value.oneCell']) (by unfold maxLen; omega) (by omega) (by simp; omega) ?_); intro v' w2 hown' hgrow _; obtain ⟨g', cap', rfl⟩ := ownsRow_succ hown'; obtain ⟨hv1, hv2, hk2, hb2⟩ := appended2 (own := fun k => k = w1.heap.size) hv (by decide) hrow hszW rfl hown' hgrow; have hc1 := hv1.cell; have hf1 := hv1.frozen)
      refine ⟨hk2.from _, hb2.same (fun k hk => by unfold keepP at hk; exact ⟨by omega, by omega⟩), ?_, HX2.out.trans (hb2.weaken (fun k hk => .inl hk))⟩
      rw [puts_snoc, show putOf (x, c) = [⟨x.f0, c⟩] from if_pos hc]
      simpa [enc31] using hv2
    · have hc' : c ≤ -1 := by omega
      clear hc
      gi_wp2
      refine ⟨KeepsFrom.refl _ _, Same.refl _ _, ⟨v, hv, ?_⟩, HX2.out⟩
      rw [puts_snoc, show putOf (x, c) = [] from if_neg (by simp; omega), List.append_nil]
      exact hrow
  case done =>
    rintro D W hD ⟨⟨v, hv, hrow⟩, h2⟩ hK
    have HPR := Aside0.mk (puts_range l0 free)
    have hpl : (putsOf (turnsOf free l0)).length ≤ 1000000 := by have h1 := puts_len (turnsOf free l0); rw [htl] at h1; omega
    have HKR := Aside0.mk (R31_of_own hrow)
    obtain ⟨Av, cv, hvs⟩ := Kd.R_slice HKR.out
    generalize hps : putsOf (turnsOf free l0) = ps at *
    have HPS := Aside0.mk hps
    clear hps
    subst hvs
    have c0' := hv.cell
    have HX2 := Aside0.mk h2
    have HRow := Aside0.mk hrow
    obtain ⟨Ar, cr, hvr, hcr, hC⟩ := Kd.R_reads HKR.out
    obtain ⟨rfl, rfl⟩ : Av = Ar ∧ cv = cr := by injection hvr with h1 h2 h3; exact ⟨h1, h3⟩
    have HCr := Aside0.mk hC
    have HK := Aside0.mk hK
    clear hit hB b0 b1 b2 h2 htl hi hz0 hz1 hz2 hsz hrow hvr hC hK HT1 HW4 HT4
    gi_wp2
    gi_loopw [1, 35] (fun f i wr => ∃ (k : Nat), k ≤ ps.length ∧ i = .int .i64 k ∧ f = .int .u32 (takeAll free (ps.take k) : Nat) ∧ Aside0 (Below W.heap.size W wr)) (fun _ i _ => ps.length - (intOf i).toNat)
    case atStart => exact ⟨0, Nat.zero_le _, rfl, rfl, ⟨Below.refl _ _⟩⟩
    case round =>
      obtain ⟨k, hk, rfl, rfl, HB5⟩ := hrel
      have hfr := takeAll_lt free (ps.take k) hf
      by_cases hlt : k < ps.length
      · obtain ⟨ad, rfl, hp0, hp1⟩ := at_T31 (Kd.C_below HCr.out HB5.out) (k : Int) (by omega) (by omega)
        rw [Int.toNat_natCast] at hp0 hp1
        have hst := takeAll_step free ps k hlt
        have hrg := HPR.out _ (rd31_mem ps k hlt)
        generalize rd_T31 ps (k : Int) = p at *
        obtain ⟨p0, p1⟩ := p
        obtain ⟨q1, q2⟩ := hrg
        simp only at hp0 hp1 hst q1 q2
        obtain ⟨d, rfl⟩ : ∃ d : Nat, p1 = d := ⟨p1.toNat, by omega⟩
        have hd8 : d < 8 := by omega
        rw [Int.toNat_natCast] at hst
        have HST := Aside0.mk hst
        generalize hfe : takeAll free (ps.take k) = fr at *
        have HFE := Aside0.mk hfe
        have hu31 := Tryd.underlying31
        have hd0 : (0 : Int) ≤ d := by omega
        clear hst hfe q1 q2
        gi_wp2
        go_roundw
        case rel =>
          refine ⟨k + 1, by omega, by go_num, ?_, ⟨below_alloc HB5.out _⟩⟩
          have h2 := pow_lt256 d hd8
          rw [HST.out, ← andNot_byte fr (2 ^ d) hfr h2]
          congr 2
          rw [show (2 : Int) ^ d = ((2 ^ d : Nat) : Int) by simp]
          generalize 2 ^ d = q at h2 ⊢
          omega
        case measure => simp [intOf]; omega
      · obtain rfl : k = ps.length := by omega
        have hle : ps.length ≤ ps.length := Nat.le_refl _
        have hcB : wr.cell? ⟨w1.heap.size, 0, none⟩ = some (.slice Av ps.length cv) := pw_cell_below HB5.out c0'
        clear hlt c0'
        gi_wp2
        have hK' := (HB5.out.block D (Array.getElem?_eq_some_iff.1 HK.out).1).trans HK.out
        refine ⟨by simp, .inl ⟨_, _, rfl, run_takeDeferred hK', ?_⟩⟩
        refine ⟨_, results_tmp3 rfl _ _ _, .slice Av ps.length cv, ?_, ?_, ?_⟩
        · rw [HPS.out]
          show Ending.returned (.tuple #[.slice Av ps.length cv, .int .u32 (takeAll free (ps.take ps.length) : Nat), .int .i64 0]) = _
          rw [List.take_length]
        · rw [HPS.out]
          exact R31_of_own (ownsRow_lower (ownsRow_putObj (pw_own_below HRow.out HB5.out) _ hK' rfl) (Nat.le_trans HBA.out.size (Nat.le_refl _)))
        · have hB1 : Below w.heap.size w4 W := HX2.out.below HBA.out.size (fun k hk => by unfold ownP at hk; omega)
          have hB2 : Below w.heap.size w wr := (HBA.out.trans hB1).trans (HB5.out.mono (Nat.le_trans HBA.out.size HX2.out.size))
          exact below_far hB2 (Nat.le_refl _) (B := w.heap.size) (Nat.le_refl _) (grownBy_putObj' _ D _) (by have := HBA.out.size; omega)


theorem place_Place.calls (A0 : Option Addr) (c0 : Nat) (l0 : List (S36)) (a1 : Int) (r1 : List (S31)) (r2 : Int) (r3 : Int) (w : World) (hr0 : Kd.C k36 w A0 l0.length l0) (hc0 : l0.length ≤ c0) (hT : TabW w) (h : place_Place.f l0 a1 = some (r1, r2, r3)) :
    Calls Tryd.prog 16 #[.slice A0 l0.length c0, .int .u32 a1] w fun e w' => ∃ v0_ : Value, e = .returned (.tuple #[v0_, .int .u32 r2, .int .i64 r3]) ∧ Kd.R k31 31 w' w.heap.size (fun _ => True) v0_ r1 ∧ Below w.heap.size w w' := by
  unfold place_Place.f at h
  by_cases hok : okArgs l0 a1
  case neg => rw [if_neg hok] at h; cases h
  rw [if_pos hok] at h
  replace h := Option.some.inj h
  by_cases h0 : askedOf l0 a1 = 0
  · rw [if_pos h0] at h
    injection h with e1 h
    injection h with e2 e3
    subst e1 e2 e3
    have hf : a1 < 256 := by
      unfold askedOf at h0
      split at h0
      · next hc => exact absurd h0 hc
      · split at h0
        · assumption
        · cases h0
    obtain ⟨free, rfl⟩ : ∃ n : Nat, a1 = n := ⟨a1.toNat, by have := hok.2.2.1; omega⟩
    exact place_yes A0 c0 l0 free w hr0 hc0 hok h0 (by omega) hT
  · rw [if_neg h0] at h
    injection h with e1 h
    injection h with e2 e3
    subst e1 e2 e3
    exact (place_no A0 c0 l0 a1 w hr0 hc0 hok h0).mono fun e w' h => ⟨_, h.1, Kd.R_nil _ _ _ _ _, h.2⟩

end Go.Proofs.YtdmieaidheelbaaDoor.Q
end
/- QE1 -/
section
-- Written by a program of this session (hprint.py), which drives the kit's print over hand-proved contracts. Lean checks it.
namespace Go.Proofs.YtdmieaidheelbaaDoor.Q
open Go.RowKit Go.Proofs.YtdmieaidheelbaaDoorW.PrintWords Go.Proofs.YtdmieaidheelbaaDoorW.PrintLast Go.Proofs.YtdmieaidheelbaaDoorW.PrintMore
attribute [local go_sem] max2_int min2_int max_two min_two max_three min_three max_four min_four   -- for this text's walks alone
set_option linter.unusedVariables false
set_option linter.unusedSimpArgs false

theorem eqA31 (d : Nat) (w : World) (x0 y0 : Int) (x1 y1 : Int) :
    (Op.equalIn (d + 2) 31 (.agg #[.int .i64 x0, .int .i64 x1]) (.agg #[.int .i64 y0, .int .i64 y1])).run Tryd.prog w = .ok (x0 == y0 && (x1 == y1)) w := by
  refine eqA_of Tryd.underlying31 (by kernel_rfl) ?_
  refine eqf_cons (by rfl) (by go_simp; rfl) (by go_simp; rfl) (by go_simp) ?_
  exact eqf_last (by rfl) (by go_simp; rfl) (by go_simp; rfl) (by go_simp)
end Go.Proofs.YtdmieaidheelbaaDoor.Q
end
/- QFlaw13wakes -/
section
-- Written by a program of this session (hprint.py), which drives the kit's print over hand-proved contracts. Lean checks it.
namespace Go.Proofs.YtdmieaidheelbaaDoor.Q
open Go.RowKit Go.Proofs.YtdmieaidheelbaaDoorW.PrintWords Go.Proofs.YtdmieaidheelbaaDoorW.PrintLast Go.Proofs.YtdmieaidheelbaaDoorW.PrintMore
attribute [local go_sem] max2_int min2_int max_two min_two max_three min_three max_four min_four   -- for this text's walks alone
set_option linter.unusedVariables false
set_option linter.unusedSimpArgs false

attribute [local go_sem high] eqA31
/-! ### mainsheetlaw13_wakes: function 15 -/
def mainsheetlaw13_wakes.f  : Option (Bool) := (place_Place.f (([(⟨3, 1, (⟨255, 0⟩ : S34)⟩ : S36), (⟨5, (-1), (⟨255, 0⟩ : S34)⟩ : S36)] : List (S36))) 3).bind fun bt115 => (if bt115.2.2 = 0 then (if bt115.2.1 = 0 then (if (bt115.1.length : Int) = 2 then (if 0 < (bt115.1.length : Int) then (if (((rd_T31 bt115.1 0).f0) == 3 && (((rd_T31 bt115.1 0).f1) == 1)) = true then (if 1 < (bt115.1.length : Int) then (some (((rd_T31 bt115.1 1).f0) == 5 && (((rd_T31 bt115.1 1).f1) == 0))) else (none)) else (some false)) else (none)) else (some false)) else (some false)) else (some false))
set_option maxHeartbeats 8000000 in
set_option maxRecDepth 100000 in
theorem mainsheetlaw13_wakes.calls  (r : Bool) (w : World) (hT : TabW w) (h : mainsheetlaw13_wakes.f  = some r) :
    Calls Tryd.prog 15 #[] w fun e w' => e = .returned (.bool r) ∧ Below w.heap.size w w' := by
  have HT := Aside0.mk hT
  clear hT
  have hu34 := Tryd.underlying34
  have hu36 := Tryd.underlying36
  have hu31 := Tryd.underlying31
  have HB := Aside0.mk (Below.refl w.heap.size w)
  have H : ((place_Place.f (([(⟨3, 1, (⟨255, 0⟩ : S34)⟩ : S36), (⟨5, (-1), (⟨255, 0⟩ : S34)⟩ : S36)] : List (S36))) 3).bind fun bt115 => (if bt115.2.2 = 0 then (if bt115.2.1 = 0 then (if (bt115.1.length : Int) = 2 then (if 0 < (bt115.1.length : Int) then (if (((rd_T31 bt115.1 0).f0) == 3 && (((rd_T31 bt115.1 0).f1) == 1)) = true then (if 1 < (bt115.1.length : Int) then (some (((rd_T31 bt115.1 1).f0) == 5 && (((rd_T31 bt115.1 1).f1) == 0))) else (none)) else (some false)) else (none)) else (some false)) else (some false)) else (some false))) = some r := h
  clear h
  obtain ⟨y112, hy112⟩ : ∃ y_ : List (S36), y_ = (([(⟨3, 1, (⟨255, 0⟩ : S34)⟩ : S36), (⟨5, (-1), (⟨255, 0⟩ : S34)⟩ : S36)] : List (S36))) := ⟨_, rfl⟩
  replace H : ((place_Place.f y112 3).bind fun bt115 => (if bt115.2.2 = 0 then (if bt115.2.1 = 0 then (if (bt115.1.length : Int) = 2 then (if 0 < (bt115.1.length : Int) then (if (((rd_T31 bt115.1 0).f0) == 3 && (((rd_T31 bt115.1 0).f1) == 1)) = true then (if 1 < (bt115.1.length : Int) then (some (((rd_T31 bt115.1 1).f0) == 5 && (((rd_T31 bt115.1 1).f1) == 0))) else (none)) else (some false)) else (none)) else (some false)) else (some false)) else (some false))) = some r := by first | (rw [hy112]; with_reducible exact H) | (have H2_ := (Option.bind_some _ _).symm.trans H; rw [hy112]; with_reducible exact H2_) | (have H2_ := (Option.bind_some _ _).symm.trans H; with_reducible exact H2_) | with_reducible exact H | (rw [hy112]; exact H) | exact H
  have Ny112 := Aside0.mk hy112
  clear hy112
  replace H := Option.bind_eq_some_iff.mp H
  obtain ⟨⟨t115, t116, t117⟩, A10, H⟩ := H
  replace H : (if t117 = 0 then (if t116 = 0 then (if (t115.length : Int) = 2 then (if 0 < (t115.length : Int) then (if (((rd_T31 t115 0).f0) == 3 && (((rd_T31 t115 0).f1) == 1)) = true then (if 1 < (t115.length : Int) then (some (((rd_T31 t115 1).f0) == 5 && (((rd_T31 t115 1).f1) == 0))) else (none)) else (some false)) else (none)) else (some false)) else (some false)) else (some false)) = some r := H
  have A1 := Aside0.mk A10
  clear A10
  by_cases c2 : t117 = 0
  · rw [if_pos c2] at H
    have c2b0 : (t117 == 0) = true := beq_iff_eq.mpr c2
    have c2b1 : (t117 != 0) = false := bne_eq_false_iff_eq.mpr c2
    clear c2
    by_cases c3 : t116 = 0
    · rw [if_pos c3] at H
      have c3b0 : (t116 == 0) = true := beq_iff_eq.mpr c3
      have c3b1 : (t116 != 0) = false := bne_eq_false_iff_eq.mpr c3
      clear c3
      by_cases c4 : (t115.length : Int) = 2
      · rw [if_pos c4] at H
        have c4b0 : ((t115.length : Int) == 2) = true := beq_iff_eq.mpr c4
        have c4b1 : ((t115.length : Int) != 2) = false := bne_eq_false_iff_eq.mpr c4
        clear c4
        by_cases c5 : 0 < (t115.length : Int)
        · rw [if_pos c5] at H
          have c5b0 : decide (0 < (t115.length : Int)) = true := decide_eq_true c5
          have c5b1 : decide (0 < t115.length) = true := decide_eq_true (by omega)
          clear c5
          by_cases c6 : (((rd_T31 t115 0).f0) == 3 && (((rd_T31 t115 0).f1) == 1)) = true
          · rw [if_pos c6] at H
            have c6b0 : (((rd_T31 t115 0).f0) == 3 && (((rd_T31 t115 0).f1) == 1)) = true := c6
            (try (have c6b1 : decide (((rd_T31 t115 0).f0) = 3 && (((rd_T31 t115 0).f1) == 1)) = true := by simpa using c6))
            (try (have c6b2 : (((rd_T31 t115 0).f0) == 3 && (((rd_T31 t115 0).f1) == 1)) = true := by simpa using c6))
            clear c6
            by_cases c7 : 1 < (t115.length : Int)
            · rw [if_pos c7] at H
              have c7b0 : decide (1 < (t115.length : Int)) = true := decide_eq_true c7
              have c7b1 : decide (1 < t115.length) = true := decide_eq_true (by omega)
              clear c7
              obtain rfl := Option.some.inj H
              go_enter Tryd.func15, Tryd.ntmps15
              go_wp2_with (first | ((with_reducible refine gate_dst (N := 9) rfl ?_); (try (refine gate_guard (by rfl) ?_; dsimp only)); refine Kd.R_lit k36 _ 36 ?hg (N := 9) ?hd (xs := ([(⟨3, 1, (⟨255, 0⟩ : S34)⟩ : S36), (⟨5, (-1), (⟨255, 0⟩ : S34)⟩ : S36)] : List (S36))) (inner := [.int .i64 3, .int .i64 1, .int .u32 255, .int .u32 0, .int .i64 5, .int .i64 (-1), .int .u32 255, .int .u32 0]) (ok := fun _ => True) (okp := fun _ => True) ?hr ?hp (fun _ hk => hk) trivial (Below.refl _ _) (Nat.le_refl _) (by simp) ?_; (case hd => rfl); (case hg => rfl); (case hr => first | (go_simp; done) | (go_simp; rfl)); (case hp => exact (Reps.c4 (show Kd.M k36 _ _ _ (⟨3, 1, (⟨255, 0⟩ : S34)⟩ : S36) [.int .i64 3, .int .i64 1, .int .u32 255, .int .u32 0] from (k36_mkM _ _ _ (⟨3, 1, (⟨255, 0⟩ : S34)⟩ : S36) )) (Reps.c4 (show Kd.M k36 _ _ _ (⟨5, (-1), (⟨255, 0⟩ : S34)⟩ : S36) [.int .i64 5, .int .i64 (-1), .int .u32 255, .int .u32 0] from (k36_mkM _ _ _ (⟨5, (-1), (⟨255, 0⟩ : S34)⟩ : S36) )) (Reps.none _ _)))); intro v113 w8 ho9 hb hg_ hnew_; clear hg_ hnew_; (first | rw [← Ny112.out] at ho9 | (simp only [Int.reduceToNat] at ho9; rw [← Ny112.out] at ho9)); have n0_ := Aside0.mk (Kd.R_lower ho9 (below_size (by repeat (first | (with_reducible first | exact HB.out | apply below_alloc | apply pw_below_drewN | apply below_drew1) | exact HB.out)))); have n1_ := Aside0.mk (below_step (by repeat (first | (with_reducible first | exact HB.out | apply below_alloc | apply pw_below_drewN | apply below_drew1) | exact HB.out)) hb); clear HB; have HO114 := n0_; have HB := n1_; clear n0_ n1_; clear hb ho9; obtain ⟨Ao10, co10, eo10⟩ := Kd.R_slice HO114.out; subst eo10) | ((with_reducible refine gate_callee (f := 16) rfl ?_); refine goesL_ (some 10) rfl rfl Tryd.func16 (by kernel_rfl) rfl #[.slice Ao10 y112.length co10, .int .u32 3] rfl (by (try simp only [List.map_toArray, List.map_cons, List.map_nil]); first | done | rfl | (simp only [List.length_drop, List.length_take]; rfl)) ?_; (with_reducible refine (place_Place.calls _ _ y112 3 t115 t116 t117 _ ?side1 ?side2 ?tb A1.out).mono ?_); (case tb => exact HT.out.step (by repeat (first | (with_reducible first | exact HB.out | apply below_alloc | apply pw_below_drewN | apply below_drew1) | exact HB.out))); (case side1 => repeat (first | exact (Kd.R_reads' HO114.out).2.2 | (with_reducible refine Kd.C_alloc ?_ _) | (with_reducible refine Kd.C_drewN ?_ _) | (with_reducible refine Kd.C_drew ?_))); (case side2 => exact (Kd.R_reads' HO114.out).2.1); rintro e w11 ⟨v118, rfl, ho0, hb⟩; refine ⟨_, rfl, ?_⟩; have n0_ := Aside0.mk (Kd.R_below (by (with_reducible repeat (first | apply Kd.R_alloc | apply Kd.R_drewN | apply Kd.R_drew)); exact HO114.out) hb); have n1_ := Aside0.mk (Kd.R_lower ho0 (below_size (by repeat (first | (with_reducible first | exact HB.out | apply below_alloc | apply pw_below_drewN | apply below_drew1) | exact HB.out)))); have n2_ := Aside0.mk (below_step (by repeat (first | (with_reducible first | exact HB.out | apply below_alloc | apply pw_below_drewN | apply below_drew1) | exact HB.out)) hb); clear HO114; clear HB; have HO114 := n0_; have HO119 := n1_; have HB := n2_; clear n0_ n1_ n2_; (try clear hb); (try clear hb2); (try clear hk); (try clear hi); (try clear ho0); obtain ⟨Ao12, co12, eo12⟩ := Kd.R_slice HO119.out; subst eo12; have p120 : 0 ≤ (0 : Int) := (by omega); have q120 : 0 < (t115.length : Int) := of_decide_eq_true (by first | (with_reducible assumption) | assumption); obtain ⟨ad120, e120, hx120_0, hx120_1⟩ := at_T31 (Kd.R_reads' HO119.out).2.2 0 p120 q120; cases e120; have qi120 : (0 < t115.length) = True := eq_true (by omega); (try rw [show ((0 : Int)).toNat = 0 from rfl] at hx120_0); (try rw [show 0 * 2 = 0 from rfl] at hx120_0); (try rw [Addr.add_zero'] at hx120_0); (try rw [show ((0 : Int)).toNat = 0 from rfl] at hx120_1); (try rw [show 0 * 2 = 0 from rfl] at hx120_1); (try rw [Addr.add_zero'] at hx120_1); replace p120 := eq_true p120; replace q120 := eq_true q120; have p121 : 0 ≤ (1 : Int) := (by omega); have q121 : 1 < (t115.length : Int) := of_decide_eq_true (by first | (with_reducible assumption) | assumption); obtain ⟨ad121, e121, hx121_0, hx121_1⟩ := at_T31 (Kd.R_reads' HO119.out).2.2 1 p121 q121; obtain rfl : ad120 = ad121 := (by injection e121); (try simp only [show (1 : Int).toNat = 1 from rfl, Nat.reduceMul, Nat.reduceEqDiff, Go.Addr.add, ↓reduceIte] at hx121_0); (try simp only [show (1 : Int).toNat = 1 from rfl, Nat.reduceMul, Nat.reduceEqDiff, Go.Addr.add, ↓reduceIte] at hx121_1); have qi121 : (1 < t115.length) = True := eq_true (by omega); (try rw [show ((1 : Int)).toNat = 1 from rfl] at hx121_0); (try rw [show 1 * 2 = 2 from rfl] at hx121_0); (try rw [show ((1 : Int)).toNat = 1 from rfl] at hx121_1); (try rw [show 1 * 2 = 2 from rfl] at hx121_1); replace p121 := eq_true p121; replace q121 := eq_true q121))
              go_ret
              exact ⟨by first | rfl | (simp [errW_none, errW_some] <;> rfl) | (simp [*, errW_none, errW_some] <;> rfl), by repeat (first | (with_reducible first | exact HB.out | apply below_alloc | apply pw_below_drewN | apply below_drew1) | exact HB.out)⟩
            · rw [if_neg c7] at H
              exact absurd H (by simp)
          · rw [if_neg c6] at H
            have c6b0 : (((rd_T31 t115 0).f0) == 3 && (((rd_T31 t115 0).f1) == 1)) = false := by simpa using c6
            (try (have c6b1 : decide (((rd_T31 t115 0).f0) = 3 && (((rd_T31 t115 0).f1) == 1)) = false := by simpa using c6))
            (try (have c6b2 : (((rd_T31 t115 0).f0) == 3 && (((rd_T31 t115 0).f1) == 1)) = false := by simpa using c6))
            (try (have c6b3 : ¬ (((rd_T31 t115 0).f0) = 3 && (((rd_T31 t115 0).f1) == 1)) := by simpa using c6))
            clear c6
            obtain rfl := Option.some.inj H
            go_enter Tryd.func15, Tryd.ntmps15
            go_wp2_with (first | ((with_reducible refine gate_dst (N := 9) rfl ?_); (try (refine gate_guard (by rfl) ?_; dsimp only)); refine Kd.R_lit k36 _ 36 ?hg (N := 9) ?hd (xs := ([(⟨3, 1, (⟨255, 0⟩ : S34)⟩ : S36), (⟨5, (-1), (⟨255, 0⟩ : S34)⟩ : S36)] : List (S36))) (inner := [.int .i64 3, .int .i64 1, .int .u32 255, .int .u32 0, .int .i64 5, .int .i64 (-1), .int .u32 255, .int .u32 0]) (ok := fun _ => True) (okp := fun _ => True) ?hr ?hp (fun _ hk => hk) trivial (Below.refl _ _) (Nat.le_refl _) (by simp) ?_; (case hd => rfl); (case hg => rfl); (case hr => first | (go_simp; done) | (go_simp; rfl)); (case hp => exact (Reps.c4 (show Kd.M k36 _ _ _ (⟨3, 1, (⟨255, 0⟩ : S34)⟩ : S36) [.int .i64 3, .int .i64 1, .int .u32 255, .int .u32 0] from (k36_mkM _ _ _ (⟨3, 1, (⟨255, 0⟩ : S34)⟩ : S36) )) (Reps.c4 (show Kd.M k36 _ _ _ (⟨5, (-1), (⟨255, 0⟩ : S34)⟩ : S36) [.int .i64 5, .int .i64 (-1), .int .u32 255, .int .u32 0] from (k36_mkM _ _ _ (⟨5, (-1), (⟨255, 0⟩ : S34)⟩ : S36) )) (Reps.none _ _)))); intro v113 w13 ho14 hb hg_ hnew_; clear hg_ hnew_; (first | rw [← Ny112.out] at ho14 | (simp only [Int.reduceToNat] at ho14; rw [← Ny112.out] at ho14)); have n0_ := Aside0.mk (Kd.R_lower ho14 (below_size (by repeat (first | (with_reducible first | exact HB.out | apply below_alloc | apply pw_below_drewN | apply below_drew1) | exact HB.out)))); have n1_ := Aside0.mk (below_step (by repeat (first | (with_reducible first | exact HB.out | apply below_alloc | apply pw_below_drewN | apply below_drew1) | exact HB.out)) hb); clear HB; have HO114 := n0_; have HB := n1_; clear n0_ n1_; clear hb ho14; obtain ⟨Ao15, co15, eo15⟩ := Kd.R_slice HO114.out; subst eo15) | ((with_reducible refine gate_callee (f := 16) rfl ?_); refine goesL_ (some 10) rfl rfl Tryd.func16 (by kernel_rfl) rfl #[.slice Ao15 y112.length co15, .int .u32 3] rfl (by (try simp only [List.map_toArray, List.map_cons, List.map_nil]); first | done | rfl | (simp only [List.length_drop, List.length_take]; rfl)) ?_; (with_reducible refine (place_Place.calls _ _ y112 3 t115 t116 t117 _ ?side1 ?side2 ?tb A1.out).mono ?_); (case tb => exact HT.out.step (by repeat (first | (with_reducible first | exact HB.out | apply below_alloc | apply pw_below_drewN | apply below_drew1) | exact HB.out))); (case side1 => repeat (first | exact (Kd.R_reads' HO114.out).2.2 | (with_reducible refine Kd.C_alloc ?_ _) | (with_reducible refine Kd.C_drewN ?_ _) | (with_reducible refine Kd.C_drew ?_))); (case side2 => exact (Kd.R_reads' HO114.out).2.1); rintro e w16 ⟨v118, rfl, ho0, hb⟩; refine ⟨_, rfl, ?_⟩; have n0_ := Aside0.mk (Kd.R_below (by (with_reducible repeat (first | apply Kd.R_alloc | apply Kd.R_drewN | apply Kd.R_drew)); exact HO114.out) hb); have n1_ := Aside0.mk (Kd.R_lower ho0 (below_size (by repeat (first | (with_reducible first | exact HB.out | apply below_alloc | apply pw_below_drewN | apply below_drew1) | exact HB.out)))); have n2_ := Aside0.mk (below_step (by repeat (first | (with_reducible first | exact HB.out | apply below_alloc | apply pw_below_drewN | apply below_drew1) | exact HB.out)) hb); clear HO114; clear HB; have HO114 := n0_; have HO119 := n1_; have HB := n2_; clear n0_ n1_ n2_; (try clear hb); (try clear hb2); (try clear hk); (try clear hi); (try clear ho0); obtain ⟨Ao17, co17, eo17⟩ := Kd.R_slice HO119.out; subst eo17; have p120 : 0 ≤ (0 : Int) := (by omega); have q120 : 0 < (t115.length : Int) := of_decide_eq_true (by first | (with_reducible assumption) | assumption); obtain ⟨ad120, e120, hx120_0, hx120_1⟩ := at_T31 (Kd.R_reads' HO119.out).2.2 0 p120 q120; cases e120; have qi120 : (0 < t115.length) = True := eq_true (by omega); (try rw [show ((0 : Int)).toNat = 0 from rfl] at hx120_0); (try rw [show 0 * 2 = 0 from rfl] at hx120_0); (try rw [Addr.add_zero'] at hx120_0); (try rw [show ((0 : Int)).toNat = 0 from rfl] at hx120_1); (try rw [show 0 * 2 = 0 from rfl] at hx120_1); (try rw [Addr.add_zero'] at hx120_1); replace p120 := eq_true p120; replace q120 := eq_true q120))
            go_ret
            exact ⟨by first | rfl | (simp [errW_none, errW_some] <;> rfl) | (simp [*, errW_none, errW_some] <;> rfl), by repeat (first | (with_reducible first | exact HB.out | apply below_alloc | apply pw_below_drewN | apply below_drew1) | exact HB.out)⟩
        · rw [if_neg c5] at H
          exact absurd H (by simp)
      · rw [if_neg c4] at H
        have c4b0 : ((t115.length : Int) == 2) = false := beq_eq_false_iff_ne.mpr c4
        have c4b1 : ((t115.length : Int) != 2) = true := bne_iff_ne.mpr c4
        obtain rfl := Option.some.inj H
        go_enter Tryd.func15, Tryd.ntmps15
        go_wp2_with (first | ((with_reducible refine gate_dst (N := 9) rfl ?_); (try (refine gate_guard (by rfl) ?_; dsimp only)); refine Kd.R_lit k36 _ 36 ?hg (N := 9) ?hd (xs := ([(⟨3, 1, (⟨255, 0⟩ : S34)⟩ : S36), (⟨5, (-1), (⟨255, 0⟩ : S34)⟩ : S36)] : List (S36))) (inner := [.int .i64 3, .int .i64 1, .int .u32 255, .int .u32 0, .int .i64 5, .int .i64 (-1), .int .u32 255, .int .u32 0]) (ok := fun _ => True) (okp := fun _ => True) ?hr ?hp (fun _ hk => hk) trivial (Below.refl _ _) (Nat.le_refl _) (by simp) ?_; (case hd => rfl); (case hg => rfl); (case hr => first | (go_simp; done) | (go_simp; rfl)); (case hp => exact (Reps.c4 (show Kd.M k36 _ _ _ (⟨3, 1, (⟨255, 0⟩ : S34)⟩ : S36) [.int .i64 3, .int .i64 1, .int .u32 255, .int .u32 0] from (k36_mkM _ _ _ (⟨3, 1, (⟨255, 0⟩ : S34)⟩ : S36) )) (Reps.c4 (show Kd.M k36 _ _ _ (⟨5, (-1), (⟨255, 0⟩ : S34)⟩ : S36) [.int .i64 5, .int .i64 (-1), .int .u32 255, .int .u32 0] from (k36_mkM _ _ _ (⟨5, (-1), (⟨255, 0⟩ : S34)⟩ : S36) )) (Reps.none _ _)))); intro v113 w18 ho19 hb hg_ hnew_; clear hg_ hnew_; (first | rw [← Ny112.out] at ho19 | (simp only [Int.reduceToNat] at ho19; rw [← Ny112.out] at ho19)); have n0_ := Aside0.mk (Kd.R_lower ho19 (below_size (by repeat (first | (with_reducible first | exact HB.out | apply below_alloc | apply pw_below_drewN | apply below_drew1) | exact HB.out)))); have n1_ := Aside0.mk (below_step (by repeat (first | (with_reducible first | exact HB.out | apply below_alloc | apply pw_below_drewN | apply below_drew1) | exact HB.out)) hb); clear HB; have HO114 := n0_; have HB := n1_; clear n0_ n1_; clear hb ho19; obtain ⟨Ao20, co20, eo20⟩ := Kd.R_slice HO114.out; subst eo20) | ((with_reducible refine gate_callee (f := 16) rfl ?_); refine goesL_ (some 10) rfl rfl Tryd.func16 (by kernel_rfl) rfl #[.slice Ao20 y112.length co20, .int .u32 3] rfl (by (try simp only [List.map_toArray, List.map_cons, List.map_nil]); first | done | rfl | (simp only [List.length_drop, List.length_take]; rfl)) ?_; (with_reducible refine (place_Place.calls _ _ y112 3 t115 t116 t117 _ ?side1 ?side2 ?tb A1.out).mono ?_); (case tb => exact HT.out.step (by repeat (first | (with_reducible first | exact HB.out | apply below_alloc | apply pw_below_drewN | apply below_drew1) | exact HB.out))); (case side1 => repeat (first | exact (Kd.R_reads' HO114.out).2.2 | (with_reducible refine Kd.C_alloc ?_ _) | (with_reducible refine Kd.C_drewN ?_ _) | (with_reducible refine Kd.C_drew ?_))); (case side2 => exact (Kd.R_reads' HO114.out).2.1); rintro e w21 ⟨v118, rfl, ho0, hb⟩; refine ⟨_, rfl, ?_⟩; have n0_ := Aside0.mk (Kd.R_below (by (with_reducible repeat (first | apply Kd.R_alloc | apply Kd.R_drewN | apply Kd.R_drew)); exact HO114.out) hb); have n1_ := Aside0.mk (Kd.R_lower ho0 (below_size (by repeat (first | (with_reducible first | exact HB.out | apply below_alloc | apply pw_below_drewN | apply below_drew1) | exact HB.out)))); have n2_ := Aside0.mk (below_step (by repeat (first | (with_reducible first | exact HB.out | apply below_alloc | apply pw_below_drewN | apply below_drew1) | exact HB.out)) hb); clear HO114; clear HB; have HO114 := n0_; have HO119 := n1_; have HB := n2_; clear n0_ n1_ n2_; (try clear hb); (try clear hb2); (try clear hk); (try clear hi); (try clear ho0); obtain ⟨Ao22, co22, eo22⟩ := Kd.R_slice HO119.out; subst eo22))
        go_ret
        exact ⟨by first | rfl | (simp [errW_none, errW_some] <;> rfl) | (simp [*, errW_none, errW_some] <;> rfl), by repeat (first | (with_reducible first | exact HB.out | apply below_alloc | apply pw_below_drewN | apply below_drew1) | exact HB.out)⟩
    · rw [if_neg c3] at H
      have c3b0 : (t116 == 0) = false := beq_eq_false_iff_ne.mpr c3
      have c3b1 : (t116 != 0) = true := bne_iff_ne.mpr c3
      obtain rfl := Option.some.inj H
      go_enter Tryd.func15, Tryd.ntmps15
      go_wp2_with (first | ((with_reducible refine gate_dst (N := 9) rfl ?_); (try (refine gate_guard (by rfl) ?_; dsimp only)); refine Kd.R_lit k36 _ 36 ?hg (N := 9) ?hd (xs := ([(⟨3, 1, (⟨255, 0⟩ : S34)⟩ : S36), (⟨5, (-1), (⟨255, 0⟩ : S34)⟩ : S36)] : List (S36))) (inner := [.int .i64 3, .int .i64 1, .int .u32 255, .int .u32 0, .int .i64 5, .int .i64 (-1), .int .u32 255, .int .u32 0]) (ok := fun _ => True) (okp := fun _ => True) ?hr ?hp (fun _ hk => hk) trivial (Below.refl _ _) (Nat.le_refl _) (by simp) ?_; (case hd => rfl); (case hg => rfl); (case hr => first | (go_simp; done) | (go_simp; rfl)); (case hp => exact (Reps.c4 (show Kd.M k36 _ _ _ (⟨3, 1, (⟨255, 0⟩ : S34)⟩ : S36) [.int .i64 3, .int .i64 1, .int .u32 255, .int .u32 0] from (k36_mkM _ _ _ (⟨3, 1, (⟨255, 0⟩ : S34)⟩ : S36) )) (Reps.c4 (show Kd.M k36 _ _ _ (⟨5, (-1), (⟨255, 0⟩ : S34)⟩ : S36) [.int .i64 5, .int .i64 (-1), .int .u32 255, .int .u32 0] from (k36_mkM _ _ _ (⟨5, (-1), (⟨255, 0⟩ : S34)⟩ : S36) )) (Reps.none _ _)))); intro v113 w23 ho24 hb hg_ hnew_; clear hg_ hnew_; (first | rw [← Ny112.out] at ho24 | (simp only [Int.reduceToNat] at ho24; rw [← Ny112.out] at ho24)); have n0_ := Aside0.mk (Kd.R_lower ho24 (below_size (by repeat (first | (with_reducible first | exact HB.out | apply below_alloc | apply pw_below_drewN | apply below_drew1) | exact HB.out)))); have n1_ := Aside0.mk (below_step (by repeat (first | (with_reducible first | exact HB.out | apply below_alloc | apply pw_below_drewN | apply below_drew1) | exact HB.out)) hb); clear HB; have HO114 := n0_; have HB := n1_; clear n0_ n1_; clear hb ho24; obtain ⟨Ao25, co25, eo25⟩ := Kd.R_slice HO114.out; subst eo25) | ((with_reducible refine gate_callee (f := 16) rfl ?_); refine goesL_ (some 10) rfl rfl Tryd.func16 (by kernel_rfl) rfl #[.slice Ao25 y112.length co25, .int .u32 3] rfl (by (try simp only [List.map_toArray, List.map_cons, List.map_nil]); first | done | rfl | (simp only [List.length_drop, List.length_take]; rfl)) ?_; (with_reducible refine (place_Place.calls _ _ y112 3 t115 t116 t117 _ ?side1 ?side2 ?tb A1.out).mono ?_); (case tb => exact HT.out.step (by repeat (first | (with_reducible first | exact HB.out | apply below_alloc | apply pw_below_drewN | apply below_drew1) | exact HB.out))); (case side1 => repeat (first | exact (Kd.R_reads' HO114.out).2.2 | (with_reducible refine Kd.C_alloc ?_ _) | (with_reducible refine Kd.C_drewN ?_ _) | (with_reducible refine Kd.C_drew ?_))); (case side2 => exact (Kd.R_reads' HO114.out).2.1); rintro e w26 ⟨v118, rfl, ho0, hb⟩; refine ⟨_, rfl, ?_⟩; have n0_ := Aside0.mk (Kd.R_below (by (with_reducible repeat (first | apply Kd.R_alloc | apply Kd.R_drewN | apply Kd.R_drew)); exact HO114.out) hb); have n1_ := Aside0.mk (Kd.R_lower ho0 (below_size (by repeat (first | (with_reducible first | exact HB.out | apply below_alloc | apply pw_below_drewN | apply below_drew1) | exact HB.out)))); have n2_ := Aside0.mk (below_step (by repeat (first | (with_reducible first | exact HB.out | apply below_alloc | apply pw_below_drewN | apply below_drew1) | exact HB.out)) hb); clear HO114; clear HB; have HO114 := n0_; have HO119 := n1_; have HB := n2_; clear n0_ n1_ n2_; (try clear hb); (try clear hb2); (try clear hk); (try clear hi); (try clear ho0)))
      go_ret
      exact ⟨by first | rfl | (simp [errW_none, errW_some] <;> rfl) | (simp [*, errW_none, errW_some] <;> rfl), by repeat (first | (with_reducible first | exact HB.out | apply below_alloc | apply pw_below_drewN | apply below_drew1) | exact HB.out)⟩
  · rw [if_neg c2] at H
    have c2b0 : (t117 == 0) = false := beq_eq_false_iff_ne.mpr c2
    have c2b1 : (t117 != 0) = true := bne_iff_ne.mpr c2
    obtain rfl := Option.some.inj H
    go_enter Tryd.func15, Tryd.ntmps15
    go_wp2_with (first | ((with_reducible refine gate_dst (N := 9) rfl ?_); (try (refine gate_guard (by rfl) ?_; dsimp only)); refine Kd.R_lit k36 _ 36 ?hg (N := 9) ?hd (xs := ([(⟨3, 1, (⟨255, 0⟩ : S34)⟩ : S36), (⟨5, (-1), (⟨255, 0⟩ : S34)⟩ : S36)] : List (S36))) (inner := [.int .i64 3, .int .i64 1, .int .u32 255, .int .u32 0, .int .i64 5, .int .i64 (-1), .int .u32 255, .int .u32 0]) (ok := fun _ => True) (okp := fun _ => True) ?hr ?hp (fun _ hk => hk) trivial (Below.refl _ _) (Nat.le_refl _) (by simp) ?_; (case hd => rfl); (case hg => rfl); (case hr => first | (go_simp; done) | (go_simp; rfl)); (case hp => exact (Reps.c4 (show Kd.M k36 _ _ _ (⟨3, 1, (⟨255, 0⟩ : S34)⟩ : S36) [.int .i64 3, .int .i64 1, .int .u32 255, .int .u32 0] from (k36_mkM _ _ _ (⟨3, 1, (⟨255, 0⟩ : S34)⟩ : S36) )) (Reps.c4 (show Kd.M k36 _ _ _ (⟨5, (-1), (⟨255, 0⟩ : S34)⟩ : S36) [.int .i64 5, .int .i64 (-1), .int .u32 255, .int .u32 0] from (k36_mkM _ _ _ (⟨5, (-1), (⟨255, 0⟩ : S34)⟩ : S36) )) (Reps.none _ _)))); intro v113 w27 ho28 hb hg_ hnew_; clear hg_ hnew_; (first | rw [← Ny112.out] at ho28 | (simp only [Int.reduceToNat] at ho28; rw [← Ny112.out] at ho28)); have n0_ := Aside0.mk (Kd.R_lower ho28 (below_size (by repeat (first | (with_reducible first | exact HB.out | apply below_alloc | apply pw_below_drewN | apply below_drew1) | exact HB.out)))); have n1_ := Aside0.mk (below_step (by repeat (first | (with_reducible first | exact HB.out | apply below_alloc | apply pw_below_drewN | apply below_drew1) | exact HB.out)) hb); clear HB; have HO114 := n0_; have HB := n1_; clear n0_ n1_; clear hb ho28; obtain ⟨Ao29, co29, eo29⟩ := Kd.R_slice HO114.out; subst eo29) | ((with_reducible refine gate_callee (f := 16) rfl ?_); refine goesL_ (some 10) rfl rfl Tryd.func16 (by kernel_rfl) rfl #[.slice Ao29 y112.length co29, .int .u32 3] rfl (by (try simp only [List.map_toArray, List.map_cons, List.map_nil]); first | done | rfl | (simp only [List.length_drop, List.length_take]; rfl)) ?_; (with_reducible refine (place_Place.calls _ _ y112 3 t115 t116 t117 _ ?side1 ?side2 ?tb A1.out).mono ?_); (case tb => exact HT.out.step (by repeat (first | (with_reducible first | exact HB.out | apply below_alloc | apply pw_below_drewN | apply below_drew1) | exact HB.out))); (case side1 => repeat (first | exact (Kd.R_reads' HO114.out).2.2 | (with_reducible refine Kd.C_alloc ?_ _) | (with_reducible refine Kd.C_drewN ?_ _) | (with_reducible refine Kd.C_drew ?_))); (case side2 => exact (Kd.R_reads' HO114.out).2.1); rintro e w30 ⟨v118, rfl, ho0, hb⟩; refine ⟨_, rfl, ?_⟩; have n0_ := Aside0.mk (Kd.R_below (by (with_reducible repeat (first | apply Kd.R_alloc | apply Kd.R_drewN | apply Kd.R_drew)); exact HO114.out) hb); have n1_ := Aside0.mk (Kd.R_lower ho0 (below_size (by repeat (first | (with_reducible first | exact HB.out | apply below_alloc | apply pw_below_drewN | apply below_drew1) | exact HB.out)))); have n2_ := Aside0.mk (below_step (by repeat (first | (with_reducible first | exact HB.out | apply below_alloc | apply pw_below_drewN | apply below_drew1) | exact HB.out)) hb); clear HO114; clear HB; have HO114 := n0_; have HO119 := n1_; have HB := n2_; clear n0_ n1_ n2_; (try clear hb); (try clear hb2); (try clear hk); (try clear hi); (try clear ho0)))
    go_ret
    exact ⟨by first | rfl | (simp [errW_none, errW_some] <;> rfl) | (simp [*, errW_none, errW_some] <;> rfl), by repeat (first | (with_reducible first | exact HB.out | apply below_alloc | apply pw_below_drewN | apply below_drew1) | exact HB.out)⟩

end Go.Proofs.YtdmieaidheelbaaDoor.Q
end
/- PlaceP -/
section
/- The plain law of Place: rows in parts. -/
namespace Go.Proofs.YtdmieaidheelbaaDoor.Q
open Go Go.RowKit Go.Proofs.YtdmieaidheelbaaDoorW.PrintWords Go.Proofs.YtdmieaidheelbaaDoorW.PrintLast Go.Proofs.YtdmieaidheelbaaDoorW.PrintMore
set_option linter.unusedVariables false
set_option linter.unusedSimpArgs false

theorem wakes13 : mainsheetlaw13_wakes.f = some true := by decide +kernel

/-- what is free behind a row -/
def freeAfter (free : Nat) : List S36 → Nat
  | [] => free
  | x :: l => freeAfter (freeOf x free) l
theorem free_step (x : S36) (free : Nat) : takeAll free (putOf (x, takesOf x free)) = freeOf x free := by
  unfold putOf takesOf freeOf
  cases hb : (bestN x.f2.f0.toNat x.f2.f1.toNat free x.f1).2 with
  | true =>
    have := bestN_range _ _ _ _ hb
    simp only [if_true]
    rw [if_pos (by omega)]
    rfl
  | false => simp [takeAll]
theorem takeAll_append (free : Nat) (a b : List S31) : takeAll free (a ++ b) = takeAll (takeAll free a) b := by simp [takeAll, List.foldl_append]
theorem takeAll_turns (l : List S36) : ∀ free, takeAll free (putsOf (turnsOf free l)) = freeAfter free l := by
  induction l with
  | nil => intro free; rfl
  | cons x l ih =>
    intro free
    have : putsOf (turnsOf free (x :: l)) = putOf (x, takesOf x free) ++ putsOf (turnsOf (freeOf x free) l) := by simp [putsOf, turnsOf]
    rw [this, takeAll_append, free_step, ih]; rfl
theorem freeAfter_lt (l : List S36) : ∀ free, free < 256 → freeAfter free l < 256 := by
  induction l with
  | nil => intro free h; exact h
  | cons x l ih => intro free h; exact ih _ (freeOf_lt x free h)

/-- fewer marks, fewer refusals -/
def Le (a b : List Bool) : Prop := a.length = b.length ∧ ∀ i, a.getD i false = true → b.getD i false = true
theorem Le.set {a b : List Bool} (h : Le a b) (i : Nat) : Le (a.set i true) (b.set i true) := by
  refine ⟨by simp [h.1], fun j hj => ?_⟩
  rw [List.getD_eq_getElem?_getD, List.getElem?_set] at hj ⊢
  by_cases e : i = j
  · subst e
    rw [if_pos rfl] at hj ⊢
    rw [← h.1]; exact hj
  · rw [if_neg e] at hj ⊢
    have := h.2 j
    rw [List.getD_eq_getElem?_getD, List.getD_eq_getElem?_getD] at this
    exact this hj
theorem Le.refl (a : List Bool) : Le a a := ⟨rfl, fun _ h => h⟩
theorem Le.trans {a b c : List Bool} (h : Le a b) (k : Le b c) : Le a c := ⟨h.1.trans k.1, fun i hi => k.2 i (h.2 i hi)⟩
theorem asked_ok {l : List S36} {a : Int} : askedOf l a = 0 ↔ checkFrom (List.replicate 17 false) (List.replicate 8 false) l = 0 ∧ a < 256 := by
  unfold askedOf
  generalize checkFrom (List.replicate 17 false) (List.replicate 8 false) l = q
  by_cases h : q = 0
  · rw [if_neg (by simpa using h)]
    by_cases h2 : a < 256
    · rw [if_pos h2]; simp [h, h2]
    · rw [if_neg h2]; simp [h2]
  · rw [if_pos h]; simp [h]
end Go.Proofs.YtdmieaidheelbaaDoor.Q
end
/- Waits -/
section
/- mainsheetlaw13.PlaceWaits: the law's own walk, by hand (it makes a map). -/
namespace Go.Proofs.YtdmieaidheelbaaDoor.Q
open Go Go.RowKit Go.Shelf Go.Proofs.YtdmieaidheelbaaDoor.Rng Go.Proofs.YtdmieaidheelbaaDoorW.PrintWords Go.Proofs.YtdmieaidheelbaaDoorW.PrintLast Go.Proofs.YtdmieaidheelbaaDoorW.PrintMore
open Go.Maps (Keyed IsMap)
set_option linter.unusedVariables false
set_option linter.unusedSimpArgs false

/-- a placement as_ a wish: what the map tells is laid by the last one -/
def asW (p : S31) : S36 := ⟨p.f0, p.f1, ⟨0, 0⟩⟩
/-- what the law's first loop asks of the placements -/
def LawPuts (free left : Nat) (ps : List S31) : Prop := ∀ k, k < ps.length → lastAt ((ps.take k).map asW) (rd_T31 ps k).f0 = none ∧ hasN left (rd_T31 ps k).f1 = false ∧ hasN free (rd_T31 ps k).f1 = true ∧ 1 ≤ (rd_T31 ps k).f0 ∧ (rd_T31 ps k).f0 ≤ 16
/-- what its second loop asks of the wishes; `ah k`: what the first k have -/
def LawRow (free : Nat) (on : Int → Option Int) (ah ah' : Nat) (x : S36) : Prop := match on x.f0 with
  | none => minus (allowsW x free) ah = 0 ∧ ah' = ah
  | some c => 0 ≤ c ∧ c < 8 ∧ hasN (allowsW x free) c = true ∧ hasN ah c = false ∧ (hasN (allowsW x free) x.f1 = true → hasN ah x.f1 = false → c = x.f1) ∧ ah' = ah ||| 2 ^ c.toNat
def LawRows (free : Nat) (on : Int → Option Int) (ah : Nat → Nat) (l : List S36) : Prop := ah 0 = 0 ∧ (∀ k, ah k < 256) ∧ ∀ k, k < l.length → LawRow free on (ah k) (ah (k + 1)) (rd_T36 l k)

theorem or_step (A d : Nat) (hA : A < 256) (hd : d < 8) : bits BinOp.or IntKind.u32 (A : Int) ((2 : Int) ^ d % 4294967296) = ((A ||| 2 ^ d : Nat) : Int) := by
  have hp := pow_lt256 d hd
  have hpw : (2 : Int) ^ d % 4294967296 = ((2 ^ d : Nat) : Int) := by
    have : d = 0 ∨ d = 1 ∨ d = 2 ∨ d = 3 ∨ d = 4 ∨ d = 5 ∨ d = 6 ∨ d = 7 := by omega
    rcases this with rfl | rfl | rfl | rfl | rfl | rfl | rfl | rfl <;> decide
  rw [hpw]
  exact or_nat A (2 ^ d) (by omega) (by omega)
theorem map_below {W W' : World} {P : Program} {k : TypeId} {R : Value → Option (DataW Unit × List MemPlace)} {b n : Nat} {D : DataW Unit} (h : W.ownsMap P k R b n D) (hb : Below W.heap.size W W') : W'.ownsMap P k R b n D := by
  obtain ⟨es, clock, h1, r⟩ := h
  exact ⟨es, clock, (hb.block _ (blk_lt h1)).trans h1, r⟩
set_option maxRecDepth 100000 in
set_option maxHeartbeats 40000000 in
theorem law_waits (A0 : Option Addr) (c0 : Nat) (l0 : List (S36)) (free : Nat) (ps : List S31) (left : Nat) (ah : Nat → Nat) (w : World) (hr0 : Kd.C k36 w A0 l0.length l0) (hc0 : l0.length ≤ c0) (hl : l0.length ≤ 60) (hwf : ∀ x ∈ l0, Wf36 x) (hf : free < 256) (hT : TabW w)
    (hpl : place_Place.f l0 free = some (ps, (left : Int), 0)) (hps : ps.length ≤ 60) (hleft : left < 256) (h1 : LawPuts free left ps) (h2 : LawRows free (fun v => lastAt (ps.map asW) v) ah l0) (hrg : ∀ x ∈ l0, 1 ≤ x.f0 ∧ x.f0 ≤ 16) (hfair : place_Fair.f l0 free ps = some (true, 0)) (h3 : ah l0.length ||| left = free) :
    Calls Tryd.prog 8 #[.slice A0 l0.length c0, .int .u32 free] w fun e w' => e = .returned (.bool true) ∧ Below w.heap.size w w' := by
  have hmm := @run_makeMap Tryd.prog
  have HR0 := Aside0.mk hr0
  have HC0 := Aside0.mk hc0
  have HPL := Aside0.mk hpl
  have HP1 := Aside0.mk h1
  have HP2 := Aside0.mk h2
  have HFA := Aside0.mk hfair
  have HTW := Aside0.mk hT
  have HWF := Aside0.mk hwf
  have HRG := Aside0.mk hrg
  have H3 := Aside0.mk h3
  have hu36 := Tryd.underlying36
  have hu31 := Tryd.underlying31
  have hlt60 : decide ((l0.length : Int) > 60) = false := decide_eq_false (by omega)
  clear hr0 hc0 hpl h1 h2 hfair hT hwf hrg h3
  go_enter Tryd.func8, Tryd.ntmps8
  go_wp2_with (first
    | (go_at_call 15; refine (mainsheetlaw13_wakes.calls true _ HTW.out wakes13).mono ?_; rintro e w1 ⟨rfl, hb1⟩; have HB1 := Aside0.mk hb1; clear hb1)
    | (go_at_call 16; refine (place_Place.calls A0 c0 l0 free ps left 0 _ (Kd.C_below HR0.out HB1.out) HC0.out (HTW.out.step HB1.out) HPL.out).mono ?_; rintro e w2 ⟨v, rfl, hR, hb2⟩; obtain ⟨A2, k2, rfl, hk2, hC2⟩ := Kd.R_reads hR; have HB2 := Aside0.mk (HB1.out.trans (hb2.mono HB1.out.size)); have HR2 := Aside0.mk hC2; have HC2 := Aside0.mk hk2; clear hb2 hR hC2 hk2))
  go_loopw [40] (fun s40 wr => ∃ (k : Nat) (D : DataW Unit), k ≤ ps.length ∧ s40 = .int .i64 k ∧ Aside0 (wr.ownsMap Tryd.prog 3 (plainElem Tryd.prog 3) w2.heap.size k D) ∧ Aside0 (AtMap ((ps.take k).map asW) D) ∧ Aside0 (Below w2.heap.size w2 wr))
    (fun s40 _ => ps.length - (intOf s40).toNat)
  case atStart => exact ⟨0, .map [], Nat.zero_le _, rfl, ⟨World.ownsMap_made w2 _ _ _⟩, ⟨AtMap.nil⟩, ⟨(Below.refl _ w2).alloc (Nat.le_refl _) _⟩⟩
  case round =>
    obtain ⟨k, D, hk, rfl, HM, HA, HB⟩ := hrel
    by_cases hlt : k < ps.length
    case neg =>
      obtain rfl : k = ps.length := by omega
      have ha := HA.out
      rw [List.take_length] at ha
      have HAM := Aside0.mk ha
      have HM0 := HM
      have HB0 := HB
      clear ha HA hlt HM HB
      go_wp2
      go_loopw [13, 73] (fun s13 s73 wx => ∃ (k : Nat), k ≤ l0.length ∧ s73 = .int .i64 k ∧ s13 = .int .u32 (ah k) ∧ Aside0 (wx.ownsMap Tryd.prog 3 (plainElem Tryd.prog 3) w2.heap.size ps.length D) ∧ Aside0 (Below w2.heap.size w2 wx))
        (fun _ s73 _ => l0.length - (intOf s73).toNat)
      case atStart => exact ⟨0, Nat.zero_le _, rfl, by rw [HP2.out.1]; rfl, HM0, HB0⟩
      case round =>
        obtain ⟨k, hk2, rfl, rfl, HM, HB⟩ := hrel
        clear HM0 HB0
        by_cases hlt : k < l0.length
        case neg =>
          obtain rfl : k = l0.length := by omega
          have hor : bits BinOp.or IntKind.u32 (ah l0.length : Int) (left : Int) = (free : Int) := by
            have := HP2.out.2.1 l0.length
            rw [or_nat _ _ (by omega) (by omega), H3.out]
          clear hlt hk2
          go_wp2_with (go_at_call 44; refine (place_Fair.calls A0 c0 l0 free A2 k2 ps true 0 _ (Kd.C_below HR0.out (below_step HB2.out HB.out)) HC0.out (Kd.C_below HR2.out HB.out) HC2.out (HTW.out.step (below_step HB2.out HB.out)) HFA.out).mono ?_; rintro e w9 ⟨rfl, hb9⟩; have HB9 := Aside0.mk (below_step (below_step HB2.out HB.out) hb9); clear hb9)
          go_ret
          exact ⟨rfl, HB9.out⟩
        case pos =>
          obtain ⟨ad, rfl, hx0, hx1, hx2, hx3⟩ := at_T36 (Kd.C_below HR0.out (below_step HB2.out HB.out)) (k : Int) (by omega) (by omega)
          rw [Int.toNat_natCast] at hx0 hx1 hx2 hx3
          have hrow := HP2.out.2.2 k hlt
          have hah := HP2.out.2.1 k
          have hrx := HRG.out _ (rd36_mem l0 k hlt)
          have hwx := HWF.out _ (rd36_mem l0 k hlt)
          generalize rd_T36 l0 (k : Int) = x at *
          obtain ⟨v, a, ⟨mh, ms⟩⟩ := x
          obtain ⟨w1', w2', w3', w4'⟩ := hwx
          simp only at hx0 hx1 hx2 hx3 hrx w1' w2' w3' w4'
          obtain ⟨mh, rfl⟩ : ∃ m : Nat, mh = m := ⟨mh.toNat, by omega⟩
          obtain ⟨ms, rfl⟩ : ∃ m : Nat, ms = m := ⟨ms.toNat, by omega⟩
          unfold LawRow allowsW at hrow
          simp only [Int.toNat_natCast] at hrow
          have hal := Allows_val mh ms free (by omega) (by omega) (by omega) 2 (by omega)
          have hall := allowsN_lt mh ms free
          have HAL := Aside0.mk hal
          have hwv := wfI (n := v) (by omega) (by omega)
          have hm := HM.out.alloc (.cells #[.int .i64 v, .int .i64 a, .int .u32 mh, .int .u32 ms] 36)
          obtain ⟨mv, pp, hrun, hv⟩ := hm.look_ok lawI Tryd.underlying70 (show (zeroValue 3).run Tryd.prog (wr.alloc (.cells #[.int .i64 v, .int .i64 a, .int .u32 mh, .int .u32 ms] 36)) = .ok (.int .i64 0) (wr.alloc (.cells #[.int .i64 v, .int .i64 a, .int .u32 mh, .int .u32 ms] 36)) by kernel_rfl) (plainElem_int Tryd.underlying3 (wfI (n := 0) (by omega) (by omega))) (Maps.keyOf_int_mk Tryd.underlying3 hwv)
          obtain ⟨c, rfl, hc, hwc⟩ := plainElem_int_inv Tryd.underlying3 hv
          have ham := HAM.out v hwv
          have HBA := Aside0.mk (HB.out.alloc (by have := HB.out.size; omega) (.cells #[.int .i64 v, .int .i64 a, .int .u32 mh, .int .u32 ms] 36))
          have HMA := Aside0.mk hm
          clear hwv hm hv hwc hal HM HB hrx w1' w2' w3' w4'
          generalize hAA : allowsN mh ms free = aa at *
          cases hq : lastAt (ps.map asW) v with
          | none =>
            rw [hq] at ham hrow
            simp only at ham hrow
            rw [ham] at hrun
            have hwi : cpuset_Within.f (aa : Int) (ah k : Int) = some true := by
              have e1 : Go.bits .and .u32 (aa : Int) 255 = ((aa &&& 255 : Nat) : Int) := and_nat aa 255 (by omega) (by omega)
              have e2 : aa &&& 255 = aa := by rw [Nat.and_two_pow_sub_one_eq_mod aa 8]; omega
              unfold cpuset_Within.f
              rw [e1, e2, andNot_byte aa (ah k) hall hah, hrow.1]
              rfl
            have HWI := Aside0.mk hwi
            have HN := Aside0.mk hrow.2
            clear hwi hrow ham hc hq
            go_wp2_with (first
              | (go_at_call 22; refine (mask_Allows.calls 2 mh ms free _ _ HAL.out).mono ?_; rintro e w5 ⟨rfl, hb5⟩; have HB5 := Aside0.mk hb5; clear hb5)
              | (go_at_call 43; refine (cpuset_Within.calls aa (ah k) true _ HWI.out).mono ?_; rintro e w6 ⟨rfl, ⟨nd, rfl⟩⟩))
            go_roundw
            case measure => simp only [intOf]; omega
            case rel => exact ⟨k + 1, by omega, by go_num, by rw [HN.out], ⟨map_below HMA.out (pw_below_drewN HB5.out _)⟩, ⟨pw_below_drewN (below_step HBA.out HB5.out) _⟩⟩
          | some d =>
            rw [hq] at ham hrow
            simp only at ham hrow
            rw [ham.1] at hrun
            have hcd : c = d := by
              have := congrArg Prod.fst hc
              rw [ham.2] at this
              injection this with this
              injection this with _ this
              exact this.symm
            subst hcd
            obtain ⟨hc0, hc8, r1, r2, r3, r4⟩ := hrow
            have h1 := Has_val aa (by omega) c
            have h2 := Has_val (ah k) (by omega) c
            have h3 := Has_val aa (by omega) a
            have h4 := Has_val (ah k) (by omega) a
            rw [r1] at h1
            rw [r2] at h2
            have HH1 := Aside0.mk h1
            have HH2 := Aside0.mk h2
            have HN := Aside0.mk r4
            have HAK := Aside0.mk hah
            obtain ⟨dn, rfl⟩ : ∃ m : Nat, c = m := ⟨c.toNat, by omega⟩
            have hdn : dn < 8 := by omega
            clear hc ham hq h1 h2 r1 r2 r4
            cases hb1 : hasN aa a with
            | false =>
              rw [hb1] at h3
              have HH3 := Aside0.mk h3
              clear h3 h4 r3 hb1
              go_wp2_with (first
                | (go_at_call 22; refine (mask_Allows.calls 2 mh ms free _ _ HAL.out).mono ?_; rintro e w5 ⟨rfl, hb5⟩; have HB5 := Aside0.mk hb5; have hca := pw_cell_below hb5 (show (wr.alloc (.cells #[.int .i64 v, .int .i64 a, .int .u32 mh, .int .u32 ms] 36)).cell? ⟨wr.heap.size, 1, none⟩ = some (.int .i64 a) from (blk_cell (blk_new _ _) 1).trans rfl); clear hb5)
                | (go_at_call 21; refine (cpuset_Has.calls aa dn true _ HH1.out).mono ?_; rintro e w6 ⟨rfl, ⟨nd, rfl⟩⟩)
                | (go_at_call 21; refine (cpuset_Has.calls (ah k) dn false _ HH2.out).mono ?_; rintro e w7 ⟨rfl, ⟨nd2, rfl⟩⟩)
                | (go_at_call 21; refine (cpuset_Has.calls aa a false _ HH3.out).mono ?_; rintro e w8 ⟨rfl, ⟨nd3, rfl⟩⟩))
              go_roundw
              case measure => simp only [intOf]; omega
              case rel => exact ⟨k + 1, by omega, by go_num, by rw [HN.out, or_step _ _ HAK.out hdn, Int.toNat_natCast], ⟨map_below HMA.out (pw_below_drewN HB5.out _)⟩, ⟨pw_below_drewN (below_step HBA.out HB5.out) _⟩⟩
            | true =>
              rw [hb1] at h3
              have HH3 := Aside0.mk h3
              have r3' := r3 hb1
              clear h3 hb1 r3
              cases hb2 : hasN (ah k) a with
              | true =>
                rw [hb2] at h4
                have HH4 := Aside0.mk h4
                clear h4 hb2 r3'
                go_wp2_with (first
                | (go_at_call 22; refine (mask_Allows.calls 2 mh ms free _ _ HAL.out).mono ?_; rintro e w5 ⟨rfl, hb5⟩; have HB5 := Aside0.mk hb5; have hca := pw_cell_below hb5 (show (wr.alloc (.cells #[.int .i64 v, .int .i64 a, .int .u32 mh, .int .u32 ms] 36)).cell? ⟨wr.heap.size, 1, none⟩ = some (.int .i64 a) from (blk_cell (blk_new _ _) 1).trans rfl); clear hb5)
                | (go_at_call 21; refine (cpuset_Has.calls aa dn true _ HH1.out).mono ?_; rintro e w6 ⟨rfl, ⟨nd, rfl⟩⟩)
                | (go_at_call 21; refine (cpuset_Has.calls (ah k) dn false _ HH2.out).mono ?_; rintro e w7 ⟨rfl, ⟨nd2, rfl⟩⟩)
                | (go_at_call 21; refine (cpuset_Has.calls aa a true _ HH3.out).mono ?_; rintro e w8 ⟨rfl, ⟨nd3, rfl⟩⟩)
                | (go_at_call 21; refine (cpuset_Has.calls (ah k) a true _ HH4.out).mono ?_; rintro e w9 ⟨rfl, ⟨nd4, rfl⟩⟩))
                go_roundw
                case measure => simp only [intOf]; omega
                case rel => exact ⟨k + 1, by omega, by go_num, by rw [HN.out, or_step _ _ HAK.out hdn, Int.toNat_natCast], ⟨map_below HMA.out (pw_below_drewN HB5.out _)⟩, ⟨pw_below_drewN (below_step HBA.out HB5.out) _⟩⟩
              | false =>
                obtain rfl := r3' hb2
                have hne : ((dn : Int) != (dn : Int)) = false := by simp
                clear h4 hb2 r3'
                go_wp2_with (first
                | (go_at_call 22; refine (mask_Allows.calls 2 mh ms free _ _ HAL.out).mono ?_; rintro e w5 ⟨rfl, hb5⟩; have HB5 := Aside0.mk hb5; have hca := pw_cell_below hb5 (show (wr.alloc (.cells #[.int .i64 v, .int .i64 (dn : Int), .int .u32 mh, .int .u32 ms] 36)).cell? ⟨wr.heap.size, 1, none⟩ = some (.int .i64 (dn : Int)) from (blk_cell (blk_new _ _) 1).trans rfl); clear hb5)
                | (go_at_call 21; refine (cpuset_Has.calls aa dn true _ HH1.out).mono ?_; rintro e w6 ⟨rfl, ⟨nd, rfl⟩⟩)
                | (go_at_call 21; refine (cpuset_Has.calls (ah k) dn false _ HH2.out).mono ?_; rintro e w7 ⟨rfl, ⟨nd2, rfl⟩⟩))
                go_roundw
                case measure => simp only [intOf]; omega
                case rel => exact ⟨k + 1, by omega, by go_num, by rw [HN.out, or_step _ _ HAK.out hdn, Int.toNat_natCast], ⟨map_below HMA.out (pw_below_drewN HB5.out _)⟩, ⟨pw_below_drewN (below_step HBA.out HB5.out) _⟩⟩
    case pos =>
      obtain ⟨ad, rfl, hx0, hx1⟩ := at_T31 (Kd.C_below HR2.out HB.out) (k : Int) (by omega) (by omega)
      rw [Int.toNat_natCast] at hx0 hx1
      obtain ⟨q1, q2, q3, q4, q5⟩ := HP1.out k hlt
      have hst : ps.take (k + 1) = ps.take k ++ [rd_T31 ps (k : Int)] := by
        rw [List.take_succ_eq_append_getElem hlt]; simp [rd_T31, hlt]
      have HST := Aside0.mk hst
      clear hst
      generalize rd_T31 ps (k : Int) = x at *
      obtain ⟨v1, v2⟩ := x
      simp only at hx0 hx1 q1 q2 q3 q4 q5
      have h2 : 0 ≤ v2 ∧ v2 < 8 := by unfold hasN at q3; simp only [Bool.and_eq_true, decide_eq_true_eq] at q3; exact q3.1
      have hwv := wfI (n := v1) (by omega) (by omega)
      have hwv2 := wfI (n := v2) (by omega) (by omega)
      have hm := HM.out.alloc (.cells #[.int .i64 v1, .int .i64 v2] 31)
      obtain ⟨v, pp, hrun, hv⟩ := hm.look_ok lawI Tryd.underlying70 (show (zeroValue 3).run Tryd.prog (wr.alloc (.cells #[.int .i64 v1, .int .i64 v2] 31)) = .ok (.int .i64 0) (wr.alloc (.cells #[.int .i64 v1, .int .i64 v2] 31)) by kernel_rfl) (plainElem_int Tryd.underlying3 (wfI (n := 0) (by omega) (by omega))) (Maps.keyOf_int_mk Tryd.underlying3 hwv)
      obtain ⟨c, rfl, hc, hwc⟩ := plainElem_int_inv Tryd.underlying3 hv
      have ham := HA.out v1 hwv
      rw [q1] at ham
      simp only at ham
      rw [ham] at hrun
      have hH1 := Has_val left (by omega) v2
      have hH2 := Has_val free (by omega) v2
      rw [q2] at hH1
      rw [q3] at hH2
      have HH1 := Aside0.mk hH1
      have HH2 := Aside0.mk hH2
      have HBA := Aside0.mk (HB.out.alloc (by have := HB.out.size; omega) (.cells #[.int .i64 v1, .int .i64 v2] 31))
      have HMA := Aside0.mk hm
      have HW1 := Aside0.mk hwv
      have HW2 := Aside0.mk hwv2
      have hmax : k < maxLen := by unfold maxLen; omega
      have HMX := Aside0.mk hmax
      clear hmax hwv hwv2 hm hv hwc hc ham q1 q2 q3 hH1 hH2 HM HB
      go_wp2_with (first
        | (go_at_call 21; refine (cpuset_Has.calls left v2 false _ HH1.out).mono ?_; rintro e w6 ⟨rfl, ⟨nd, rfl⟩⟩)
        | (go_at_call 21; refine (cpuset_Has.calls free v2 true _ HH2.out).mono ?_; rintro e w7 ⟨rfl, ⟨nd2, rfl⟩⟩)
        | (at_mapUpdate; refine wpList_mapUpdate_own _ rfl _ _ _ 70 rfl 3 3 lawI Tryd.underlying70 _ w2.heap.size k D rfl HMA.out HMX.out _ _ (.int .i64 v1) rfl rfl (Maps.keyOf_int_mk Tryd.underlying3 HW1.out) (.lit (.int .i64 v2)) [] (plainElem_int Tryd.underlying3 HW2.out) ?_; intro W5 hM5 hg5; have HM5 := Aside0.mk hM5; have HG5 := Aside0.mk hg5; clear hM5 hg5))
      go_roundw
      case measure => simp only [intOf]; omega
      case rel =>
        refine ⟨k + 1, _, by omega, by go_num, HM5, ⟨?_⟩, ⟨(pw_below_drewN HBA.out (nd + nd2)).grown HG5.out (by have := HBA.out.size; exact this) (fun j e => by injection e with e; omega)⟩⟩
        rw [HST.out, List.map_append]
        exact HA.out.put HMA.out.isMap (asW ⟨v1, v2⟩) HW1.out
end Go.Proofs.YtdmieaidheelbaaDoor.Q
end
/- WaitsN -/
section
/- mainsheetlaw13.PlaceWaits where nothing is placed: more wishes than are gone through, or wishes that are refused. -/
namespace Go.Proofs.YtdmieaidheelbaaDoor.Q
open Go Go.RowKit Go.Shelf Go.Proofs.YtdmieaidheelbaaDoor.Rng Go.Proofs.YtdmieaidheelbaaDoorW.PrintWords Go.Proofs.YtdmieaidheelbaaDoorW.PrintLast Go.Proofs.YtdmieaidheelbaaDoorW.PrintMore
set_option linter.unusedVariables false
set_option linter.unusedSimpArgs false
set_option maxRecDepth 100000 in
set_option maxHeartbeats 4000000 in
theorem law_over (A0 : Option Addr) (c0 : Nat) (l0 : List (S36)) (a1 : Int) (w : World) (hl : 60 < l0.length) (hT : TabW w) :
    Calls Tryd.prog 8 #[.slice A0 l0.length c0, .int .u32 a1] w fun e w' => e = .returned (.bool true) ∧ Below w.heap.size w w' := by
  have HTW := Aside0.mk hT
  have hlt60 : decide ((l0.length : Int) > 60) = true := decide_eq_true (by omega)
  have hlt61 : decide (60 < (l0.length : Int)) = true := decide_eq_true (by omega)
  clear hT hl
  go_enter Tryd.func8, Tryd.ntmps8
  go_wp2_with (first
    | (go_at_call 15; refine (mainsheetlaw13_wakes.calls true _ HTW.out wakes13).mono ?_; rintro e w1 ⟨rfl, hb1⟩; have HB1 := Aside0.mk hb1; clear hb1))
  go_ret
  exact ⟨rfl, HB1.out⟩
set_option maxRecDepth 100000 in
set_option maxHeartbeats 4000000 in
theorem law_no (A0 : Option Addr) (c0 : Nat) (l0 : List (S36)) (a1 q : Int) (w : World) (hr0 : Kd.C k36 w A0 l0.length l0) (hc0 : l0.length ≤ c0) (hl : l0.length ≤ 60) (hT : TabW w) (hq : q ≠ 0) (hpl : place_Place.f l0 a1 = some ([], 0, q)) :
    Calls Tryd.prog 8 #[.slice A0 l0.length c0, .int .u32 a1] w fun e w' => e = .returned (.bool true) ∧ Below w.heap.size w w' := by
  have HTW := Aside0.mk hT
  have HR0 := Aside0.mk hr0
  have HC0 := Aside0.mk hc0
  have HPL := Aside0.mk hpl
  have hlt60 : decide ((l0.length : Int) > 60) = false := decide_eq_false (by omega)
  have hlt61 : decide (60 < (l0.length : Int)) = false := decide_eq_false (by omega)
  have hqn : (q != 0) = true := by simpa using hq
  clear hT hl hr0 hc0 hpl hq
  go_enter Tryd.func8, Tryd.ntmps8
  go_wp2_with (first
    | (go_at_call 15; refine (mainsheetlaw13_wakes.calls true _ HTW.out wakes13).mono ?_; rintro e w1 ⟨rfl, hb1⟩; have HB1 := Aside0.mk hb1; clear hb1)
    | (go_at_call 16; refine (place_Place.calls A0 c0 l0 a1 [] 0 q _ (Kd.C_below HR0.out HB1.out) HC0.out (HTW.out.step HB1.out) HPL.out).mono ?_; rintro e w2 ⟨v, rfl, hR, hb2⟩; obtain ⟨A2, k2, rfl, hk2, hC2⟩ := Kd.R_reads hR; have HB2 := Aside0.mk (HB1.out.trans (hb2.mono HB1.out.size)); clear hb2 hR hC2 hk2))
  go_ret
  exact ⟨rfl, HB2.out⟩
end Go.Proofs.YtdmieaidheelbaaDoor.Q
end
/- PureWaits -/
section
/- PlaceWaits, the plain law, and the law's walk joined to it. -/
namespace Go.Proofs.YtdmieaidheelbaaDoor.Q
open Go Go.RowKit Go.Proofs.YtdmieaidheelbaaDoorW.PrintWords Go.Proofs.YtdmieaidheelbaaDoorW.PrintLast Go.Proofs.YtdmieaidheelbaaDoorW.PrintMore
set_option linter.unusedVariables false
set_option linter.unusedSimpArgs false

theorem lw_bit_lt (a b : Nat) (ha : a < 256) (h : a.testBit b = true) : b < 8 := by
  rcases Nat.lt_or_ge b 8 with hb | hb
  · exact hb
  · rw [Nat.testBit_lt_two_pow (Nat.lt_of_lt_of_le ha (by have := Nat.pow_le_pow_right (n := 2) (by decide) hb; simpa using this))] at h
    cases h
theorem lw_ext {a b : Nat} (ha : a < 256) (hb : b < 256) (h : ∀ i, i < 8 → a.testBit i = b.testBit i) : a = b := by
  refine Nat.eq_of_testBit_eq fun i => ?_
  rcases Nat.lt_or_ge i 8 with hi | hi
  · exact h i hi
  · have e : ∀ c, c < 256 → c.testBit i = false := fun c hc => by
      cases hq : c.testBit i with
      | false => rfl
      | true => have := lw_bit_lt c i hc hq; omega
    rw [e a ha, e b hb]
theorem lw_may (h s p b : Nat) (hp : p < 256) : (allowsN h s p).testBit b = (maskOk h s && h.testBit b && p.testBit b) := by
  unfold allowsN
  cases hm : maskOk h s with
  | true => simp [hp]
  | false => simp
theorem lw_mem (s : Nat) (c : Int) (h0 : 0 ≤ c) (h8 : c < 8) : hasN s c = s.testBit c.toNat := by simp [hasN, h0, h8]
theorem lw_next : ∀ n : Fin 256, n.val ≠ 0 → (nextOf n.val (-1)).2 = true := by decide +kernel
theorem lw_likes (h s p c : Nat) (hc : (likesN h s p).testBit c = true) : (allowsN h s p).testBit c = true := by
  unfold likesN at hc
  split at hc
  · exact hc
  · rw [Nat.testBit_and] at hc
    simp at hc
    exact hc.1
/-- what a turn takes may be taken -/
theorem lw_some (h s p : Nat) (a : Int) (hb : (bestN h s p a).2 = true) : hasN (allowsN h s p) (bestN h s p a).1 = true ∧ (hasN (allowsN h s p) a = true → (bestN h s p a).1 = a) := by
  unfold bestN at hb ⊢
  cases hh : hasN (allowsN h s p) a with
  | true => simp [hh]
  | false =>
    rw [hh] at hb
    simp only [Bool.false_eq_true, if_false] at hb ⊢
    refine ⟨?_, fun h => by cases h⟩
    have h1 := list_mem _ _ (nextOf_mem _ _ hb)
    rw [lw_mem _ _ h1.1 h1.2.1]
    exact lw_likes _ _ _ _ h1.2.2
theorem lw_none (h s p : Nat) (a : Int) (hb : (bestN h s p a).2 = false) : allowsN h s p = 0 := by
  unfold bestN at hb
  split at hb
  · cases hb
  · refine Decidable.byContradiction fun hn => ?_
    have hl : likesN h s p ≠ 0 := by
      unfold likesN
      split
      · exact hn
      · assumption
    have := lw_next ⟨likesN h s p, likesN_lt _ _ _⟩ hl
    rw [this] at hb
    cases hb
theorem lw_pow (c : Int) (b : Nat) (h0 : 0 ≤ c) : (2 ^ c.toNat).testBit b = decide ((b : Int) = c) := by
  rw [pow_bit]
  by_cases e : (b : Int) = c
  · have : c.toNat = b := by omega
    simp [e, this]
  · have : c.toNat ≠ b := by omega
    simp [e, this]
/-- a turn: who takes what, or waits -/
theorem lw_turn (x : S36) (f : Nat) (hf : f < 256) : (takesOf x f = -1 ∧ allowsW x f = 0 ∧ freeOf x f = f) ∨
    (0 ≤ takesOf x f ∧ takesOf x f < 8 ∧ hasN (allowsW x f) (takesOf x f) = true ∧ (hasN (allowsW x f) x.f1 = true → takesOf x f = x.f1) ∧ freeOf x f = minus f (2 ^ (takesOf x f).toNat)) := by
  unfold takesOf freeOf allowsW
  cases hb : (bestN x.f2.f0.toNat x.f2.f1.toNat f x.f1).2 with
  | false => exact .inl ⟨by simp, lw_none _ _ _ _ hb, by simp⟩
  | true =>
    obtain ⟨h1, h2⟩ := lw_some _ _ _ _ hb
    obtain ⟨r1, r2⟩ := bestN_range _ _ _ _ hb
    simp only [if_true]
    exact .inr ⟨r1, r2, h1, h2, trivial⟩
theorem free_sub (l : List S36) : ∀ f, f < 256 → ∀ b, b < 8 → (freeAfter f l).testBit b = true → f.testBit b = true := by
  induction l with
  | nil => intro f _ b _ h; exact h
  | cons x l ih =>
    intro f hf b hb h
    have := ih _ (freeOf_lt x f hf) b hb h
    rcases lw_turn x f hf with ⟨_, _, e⟩ | ⟨h0, h8, _, _, e⟩
    · rwa [e] at this
    · rw [e, minus_bit _ _ _ (pow_lt256 _ (by omega)) hb] at this
      simp only [Bool.and_eq_true] at this
      exact this.1
theorem free_snoc (l : List S36) (x : S36) : ∀ f, freeAfter f (l ++ [x]) = freeOf x (freeAfter f l) := by
  induction l with
  | nil => intro f; rfl
  | cons y l ih => intro f; exact ih _

/-! vCPUs are apart -/
theorem lw_apart (l : List S36) : ∀ ms ts, ms.length = 17 → checkFrom ms ts l = 0 → (∀ x ∈ l, (1 ≤ x.f0 ∧ x.f0 ≤ 16) ∧ ms.getD x.f0.toNat false = false) ∧ l.Pairwise (fun x y => x.f0 ≠ y.f0) := by
  induction l with
  | nil => intro _ _ _ _; exact ⟨by simp, List.Pairwise.nil⟩
  | cons y l ih =>
    intro ms ts hm h
    unfold checkFrom at h
    split at h
    · cases h
    · next hb =>
      obtain ⟨g1, g2⟩ := ih (ms.set y.f0.toNat true) _ (by simp [hm]) h
      unfold badWish at hb
      simp only [Bool.or_eq_true, Bool.and_eq_true, decide_eq_true_eq, not_or] at hb
      obtain ⟨⟨⟨⟨⟨⟨b1, b2⟩, b3⟩, b4⟩, b5⟩, _⟩, _⟩ := hb
      have hset : ∀ j, (ms.set y.f0.toNat true).getD j false = (ms.getD j false || decide (y.f0.toNat = j)) := fun j => by
        rw [List.getD_eq_getElem?_getD, List.getElem?_set, List.getD_eq_getElem?_getD]
        by_cases e : y.f0.toNat = j
        · subst e; rw [if_pos rfl, if_pos (by omega)]; simp
        · rw [if_neg e]; simp [e]
      refine ⟨fun x hx => ?_, List.pairwise_cons.2 ⟨fun x hx => ?_, g2⟩⟩
      · rcases List.mem_cons.1 hx with rfl | hx
        · exact ⟨⟨by omega, by omega⟩, by simpa using b3⟩
        · obtain ⟨q1, q2⟩ := g1 x hx
          rw [hset] at q2
          simp only [Bool.or_eq_false_iff] at q2
          exact ⟨q1, q2.1⟩
      · obtain ⟨q1, q2⟩ := g1 x hx
        rw [hset] at q2
        simp only [Bool.or_eq_false_iff, decide_eq_false_iff_not] at q2
        intro e
        exact q2.2 (by rw [e])

/-! where a vCPU is: the last placement of it -/
theorem lastAt_none (l : List S36) (v : Int) (h : ∀ x ∈ l, x.f0 ≠ v) : lastAt l v = none := by
  unfold lastAt
  rw [List.find?_eq_none.2 (fun x hx => by have := h x (List.mem_reverse.1 hx); simpa using this)]
  rfl
theorem lastAt_append (l1 l2 : List S36) (v : Int) : lastAt (l1 ++ l2) v = match lastAt l2 v with | some c => some c | none => lastAt l1 v := by
  unfold lastAt
  rw [List.reverse_append, List.find?_append]
  cases l2.reverse.find? (fun x => decide (x.f0 = v)) <;> rfl
theorem lw_puts_cons (x : S36) (f : Nat) (l : List S36) : putsOf (turnsOf f (x :: l)) = putOf (x, takesOf x f) ++ putsOf (turnsOf (freeOf x f) l) := by simp [putsOf, turnsOf]
theorem lw_puts_f0 (l : List S36) : ∀ f, ∀ p ∈ putsOf (turnsOf f l), ∃ x ∈ l, p.f0 = x.f0 := by
  induction l with
  | nil => intro f p hp; simp [turnsOf, putsOf] at hp
  | cons x l ih =>
    intro f p hp
    rw [lw_puts_cons] at hp
    rcases List.mem_append.1 hp with hp | hp
    · unfold putOf at hp
      split at hp
      · obtain rfl := List.mem_singleton.1 hp; exact ⟨x, by simp, rfl⟩
      · simp at hp
    · obtain ⟨y, hy, e⟩ := ih _ p hp
      exact ⟨y, by simp [hy], e⟩
theorem lastAt_turn (l : List S36) (hp : l.Pairwise (fun x y => x.f0 ≠ y.f0)) : ∀ (f : Nat), f < 256 → ∀ k (h : k < l.length), lastAt ((putsOf (turnsOf f l)).map asW) l[k].f0 = if takesOf l[k] (freeAfter f (l.take k)) = -1 then none else some (takesOf l[k] (freeAfter f (l.take k))) := by
  induction l with
  | nil => intro f _ k h; simp at h
  | cons x l ih =>
    intro f hf k h
    obtain ⟨h1, h2⟩ := List.pairwise_cons.1 hp
    rw [lw_puts_cons, List.map_append, lastAt_append]
    cases k with
    | zero =>
      have hn : lastAt ((putsOf (turnsOf (freeOf x f) l)).map asW) x.f0 = none := lastAt_none _ _ (fun y hy => by
        obtain ⟨p, hp, rfl⟩ := List.mem_map.1 hy
        obtain ⟨z, hz, e⟩ := lw_puts_f0 l _ p hp
        show p.f0 ≠ x.f0
        rw [e]; exact fun e2 => h1 z hz e2.symm)
      show (match lastAt ((putsOf (turnsOf (freeOf x f) l)).map asW) x.f0 with | some c => some c | none => lastAt ((putOf (x, takesOf x f)).map asW) x.f0) = if takesOf x f = -1 then none else some (takesOf x f)
      rw [hn]
      unfold putOf
      rcases lw_turn x f hf with ⟨e, _, _⟩ | ⟨e0, e8, _⟩
      · rw [e]; rfl
      · rw [if_pos (by omega), if_neg (by omega)]
        simp [lastAt, asW]
    | succ k =>
      have hk : k < l.length := by simpa using h
      show (match lastAt ((putsOf (turnsOf (freeOf x f) l)).map asW) l[k].f0 with | some c => some c | none => lastAt ((putOf (x, takesOf x f)).map asW) l[k].f0) = if takesOf l[k] (freeAfter (freeOf x f) (l.take k)) = -1 then none else some (takesOf l[k] (freeAfter (freeOf x f) (l.take k)))
      rw [ih h2 _ (freeOf_lt x f hf) k hk]
      have hn : lastAt ((putOf (x, takesOf x f)).map asW) l[k].f0 = none := lastAt_none _ _ (fun y hy => by
        obtain ⟨p, hp, rfl⟩ := List.mem_map.1 hy
        have : p.f0 = x.f0 := by
          unfold putOf at hp
          split at hp
          · obtain rfl := List.mem_singleton.1 hp; rfl
          · simp at hp
        show p.f0 ≠ l[k].f0
        rw [this]; exact h1 _ (List.getElem_mem hk))
      rw [hn]
      by_cases e : takesOf l[k] (freeAfter (freeOf x f) (l.take k)) = -1
      · rw [if_pos e]
      · rw [if_neg e]

/-! the first loop -/
theorem law_puts_gen (l : List S36) (hp : l.Pairwise (fun x y => x.f0 ≠ y.f0)) (free : Nat) (hfree : free < 256) : ∀ (f : Nat), f < 256 → (∀ b, b < 8 → f.testBit b = true → free.testBit b = true) →
    (putsOf (turnsOf f l)).Pairwise (fun p q => p.f0 ≠ q.f0) ∧ ∀ p ∈ putsOf (turnsOf f l), hasN (freeAfter f l) p.f1 = false ∧ hasN free p.f1 = true := by
  induction l with
  | nil => intro f _ _; exact ⟨List.Pairwise.nil, by simp [turnsOf, putsOf]⟩
  | cons x l ih =>
    intro f hf hs
    obtain ⟨h1, h2⟩ := List.pairwise_cons.1 hp
    have hs2 : ∀ b, b < 8 → (freeOf x f).testBit b = true → free.testBit b = true := fun b hb h => hs b hb (free_sub [x] f hf b hb h)
    obtain ⟨g1, g2⟩ := ih h2 (freeOf x f) (freeOf_lt x f hf) hs2
    rw [lw_puts_cons]
    rcases lw_turn x f hf with ⟨e, _, _⟩ | ⟨e0, e8, e1, _, e2⟩
    · have : putOf (x, takesOf x f) = [] := by unfold putOf; rw [e]; rfl
      rw [this, List.nil_append]; exact ⟨g1, g2⟩
    · have : putOf (x, takesOf x f) = [⟨x.f0, takesOf x f⟩] := by unfold putOf; rw [if_pos (by omega)]
      rw [this, List.singleton_append]
      refine ⟨List.pairwise_cons.2 ⟨fun q hq => ?_, g1⟩, fun p hp => ?_⟩
      · obtain ⟨z, hz, e⟩ := lw_puts_f0 l _ q hq
        show x.f0 ≠ q.f0
        rw [e]; exact h1 z hz
      · rcases List.mem_cons.1 hp with rfl | hp
        · refine ⟨?_, ?_⟩
          · show hasN (freeAfter (freeOf x f) l) (takesOf x f) = false
            rw [lw_mem _ _ e0 e8]
            cases hq : (freeAfter (freeOf x f) l).testBit (takesOf x f).toNat with
            | false => rfl
            | true =>
              have := free_sub l _ (freeOf_lt x f hf) _ (by omega) hq
              rw [e2, minus_bit _ _ _ (pow_lt256 _ (by omega)) (by omega), lw_pow _ _ e0] at this
              have h3 : (((takesOf x f).toNat : Nat) : Int) = takesOf x f := by omega
              simp [h3] at this
          · show hasN free (takesOf x f) = true
            rw [lw_mem _ _ e0 e8] at e1 ⊢
            unfold allowsW at e1
            rw [lw_may _ _ _ _ hf] at e1
            simp only [Bool.and_eq_true] at e1
            exact hs _ (by omega) e1.2
        · exact g2 p hp
theorem law_puts_of (ps : List S31) (free left : Nat) (hp : ps.Pairwise (fun p q => p.f0 ≠ q.f0)) (h : ∀ p ∈ ps, (hasN left p.f1 = false ∧ hasN free p.f1 = true) ∧ 1 ≤ p.f0 ∧ p.f0 ≤ 16) : LawPuts free left ps := by
  intro k hk
  have e : rd_T31 ps (k : Int) = ps[k] := by simp [rd_T31, hk]
  obtain ⟨⟨h1, h2⟩, h3, h4⟩ := h _ (List.getElem_mem hk)
  rw [e]
  refine ⟨lastAt_none _ _ (fun y hy => ?_), h1, h2, h3, h4⟩
  obtain ⟨p, hp2, rfl⟩ := List.mem_map.1 hy
  obtain ⟨j, hj, rfl⟩ := List.mem_iff_getElem.1 hp2
  have hjk : j < k := by simp at hj; omega
  show (ps.take k)[j].f0 ≠ ps[k].f0
  rw [List.getElem_take]
  exact List.pairwise_iff_getElem.1 hp j k (by omega) hk hjk

/-! the second loop -/
def ahOf (l : List S36) (free : Nat) (k : Nat) : Nat := minus free (freeAfter free (l.take k))
theorem ah_bit (l : List S36) (free : Nat) (hf : free < 256) (k b : Nat) (hb : b < 8) : (ahOf l free k).testBit b = (free.testBit b && !(freeAfter free (l.take k)).testBit b) :=
  minus_bit _ _ _ (freeAfter_lt _ _ hf) hb
theorem law_rows (l : List S36) (free : Nat) (hf : free < 256) (hp : l.Pairwise (fun x y => x.f0 ≠ y.f0)) : LawRows free (fun v => lastAt ((putsOf (turnsOf free l)).map asW) v) (ahOf l free) l := by
  refine ⟨?_, fun k => minus_lt _ _ hf, fun k hk => ?_⟩
  · refine lw_ext (minus_lt _ _ hf) (by omega) (fun b hb => ?_)
    rw [ah_bit l free hf 0 b hb, Nat.zero_testBit]
    simp [freeAfter]
  · have e : rd_T36 l (k : Int) = l[k] := by simp [rd_T36, hk]
    rw [e]
    have hfk := freeAfter_lt (l.take k) free hf
    have hsn : freeAfter free (l.take (k + 1)) = freeOf l[k] (freeAfter free (l.take k)) := by rw [List.take_succ_eq_append_getElem hk, free_snoc]
    have hsub := free_sub (l.take k) free hf
    unfold LawRow
    simp only
    rw [lastAt_turn l hp free hf k hk]
    rcases lw_turn l[k] (freeAfter free (l.take k)) hfk with ⟨h1, h2, h3⟩ | ⟨h0, h8, h1, h2, h3⟩
    · rw [if_pos h1]
      refine ⟨?_, by unfold ahOf; rw [hsn, h3]⟩
      refine lw_ext (minus_lt _ _ (allowsN_lt _ _ _)) (by omega) (fun b hb => ?_)
      rw [minus_bit _ _ _ (show ahOf l free k < 256 from minus_lt _ _ hf) hb, Nat.zero_testBit]
      have h4 : (allowsW l[k] (freeAfter free (l.take k))).testBit b = false := by rw [h2, Nat.zero_testBit]
      show ((allowsW l[k] free).testBit b && !(ahOf l free k).testBit b) = false
      unfold allowsW at h4 ⊢
      rw [lw_may _ _ _ _ hfk] at h4
      rw [lw_may _ _ _ _ hf, ah_bit l free hf k b hb]
      revert h4
      cases (maskOk l[k].f2.f0.toNat l[k].f2.f1.toNat && (l[k].f2.f0.toNat).testBit b) <;> cases free.testBit b <;> cases (freeAfter free (l.take k)).testBit b <;> simp
    · rw [if_neg (by omega)]
      have h1' := h1
      rw [lw_mem _ _ h0 h8] at h1
      unfold allowsW at h1
      rw [lw_may _ _ _ _ hfk] at h1
      simp only [Bool.and_eq_true] at h1
      have hcf := hsub _ (by omega) h1.2
      refine ⟨h0, h8, ?_, ?_, fun ha1 ha2 => ?_, ?_⟩
      · rw [lw_mem _ _ h0 h8]
        unfold allowsW
        rw [lw_may _ _ _ _ hf, h1.1.1, h1.1.2, hcf]
        rfl
      · rw [lw_mem _ _ h0 h8, ah_bit l free hf k _ (by omega), h1.2]
        simp
      · refine h2 ?_
        have hr : 0 ≤ l[k].f1 ∧ l[k].f1 < 8 := by unfold hasN at ha1; simp only [Bool.and_eq_true, decide_eq_true_eq] at ha1; exact ha1.1
        rw [lw_mem _ _ hr.1 hr.2] at ha1 ha2 ⊢
        unfold allowsW at ha1 ⊢
        rw [lw_may _ _ _ _ hf] at ha1
        rw [ah_bit l free hf k _ (by omega)] at ha2
        rw [lw_may _ _ _ _ hfk]
        simp only [Bool.and_eq_true] at ha1
        rw [ha1.1.1, ha1.1.2]
        rw [ha1.2] at ha2
        simpa using ha2
      · have hpw := pow_lt256 (takesOf l[k] (freeAfter free (l.take k))).toNat (by omega)
        refine lw_ext (minus_lt _ _ hf) (or_lt256 _ _ (minus_lt _ _ hf) hpw) (fun b hb => ?_)
        show (ahOf l free (k + 1)).testBit b = (ahOf l free k ||| 2 ^ (takesOf l[k] (freeAfter free (l.take k))).toNat).testBit b
        rw [Nat.testBit_or, ah_bit l free hf (k + 1) b hb, ah_bit l free hf k b hb, hsn, h3, minus_bit _ _ _ hpw hb, lw_pow _ _ h0]
        by_cases e : (b : Int) = takesOf l[k] (freeAfter free (l.take k))
        · have eb : b = (takesOf l[k] (freeAfter free (l.take k))).toNat := by omega
          rw [← eb] at hcf
          simp [e, hcf]
        · simp [e]

/-! what Place tells is fair -/
theorem fair_turns (free : Nat) (hfree : free < 256) (l : List S36) (hp : l.Pairwise (fun x y => x.f0 ≠ y.f0)) : ∀ (f : Nat) (ah : List Bool), f < 256 → ah.length = 8 → (∀ b, b < 8 → f.testBit b = (free.testBit b && !ah.getD b false)) → fairFrom free ah l (putsOf (turnsOf f l)) = true := by
  induction l with
  | nil => intro f ah _ _ _; rfl
  | cons x l ih =>
    intro f ah hf hal hb
    obtain ⟨h1, h2⟩ := List.pairwise_cons.1 hp
    rw [lw_puts_cons]
    rcases lw_turn x f hf with ⟨e, e1, e2⟩ | ⟨e0, e8, e1, _, e2⟩
    · have hput : putOf (x, takesOf x f) = [] := by unfold putOf; rw [e]; rfl
      rw [hput, List.nil_append, e2]
      have hl : lacksN free ah x = false := by
        unfold lacksN
        rw [List.any_eq_false]
        intro c hc
        have hm := list_mem _ _ hc
        have h3 : (allowsW x f).testBit c.toNat = false := by rw [e1, Nat.zero_testBit]
        have h4 := hm.2.2
        unfold allowsW at h3 h4
        rw [lw_may _ _ _ _ hf] at h3
        rw [lw_may _ _ _ _ hfree] at h4
        simp only [Bool.and_eq_true] at h4
        rw [h4.1.1, h4.1.2, hb _ (by omega), h4.2] at h3
        simpa using h3
      have hrec := ih h2 f ah hf hal hb
      match hq : putsOf (turnsOf f l), hrec with
      | [], hrec => rw [fairFrom, hl]; exact hrec
      | p :: left, hrec =>
        have hne : p.f0 ≠ x.f0 := by
          obtain ⟨z, hz, ez⟩ := lw_puts_f0 l f p (by rw [hq]; simp)
          rw [ez]; exact fun e2 => h1 z hz e2.symm
        rw [fairFrom, if_neg hne, hl]; exact hrec
    · have hput : putOf (x, takesOf x f) = [⟨x.f0, takesOf x f⟩] := by unfold putOf; rw [if_pos (by omega)]
      rw [hput, List.singleton_append, fairFrom, if_pos rfl]
      rw [lw_mem _ _ e0 e8] at e1
      unfold allowsW at e1
      rw [lw_may _ _ _ _ hf] at e1
      simp only [Bool.and_eq_true] at e1
      have h5 := hb (takesOf x f).toNat (by omega)
      rw [e1.2] at h5
      have h6 : free.testBit (takesOf x f).toNat = true ∧ ah.getD (takesOf x f).toNat false = false := by
        revert h5
        cases free.testBit (takesOf x f).toNat <;> cases ah.getD (takesOf x f).toNat false <;> simp
      have h7 : (hasN (allowsW x free) (takesOf x f) && !ah.getD (takesOf x f).toNat false) = true := by
        rw [lw_mem _ _ e0 e8]
        unfold allowsW
        rw [lw_may _ _ _ _ hfree, e1.1.1, e1.1.2, h6.1, h6.2]
        rfl
      simp only
      rw [if_pos h7]
      refine ih h2 _ _ (freeOf_lt x f hf) (by simpa using hal) (fun b hb8 => ?_)
      rw [e2, minus_bit _ _ _ (pow_lt256 _ (by omega)) hb8, hb b hb8, lw_pow _ _ e0, List.getD_eq_getElem?_getD, List.getD_eq_getElem?_getD, List.getElem?_set]
      by_cases e : (b : Int) = takesOf x f
      · have eb : (takesOf x f).toNat = b := by omega
        rw [if_pos eb, if_pos (by omega)]
        simp [e]
      · have eb : (takesOf x f).toNat ≠ b := by omega
        rw [if_neg eb]
        simp [e]

theorem mainsheetlaw13_PlaceWaits.calls (A0 : Option Addr) (c0 : Nat) (l0 : List (S36)) (a1 : Int) (w : World) (hr0 : Kd.C k36 w A0 l0.length l0) (hc0 : l0.length ≤ c0) (hwf : ∀ x ∈ l0, Wf36 x) (h0 : 0 ≤ a1) (h1 : a1 < 4294967296) (hT : TabW w) :
    Calls Tryd.prog 8 #[.slice A0 l0.length c0, .int .u32 a1] w fun e w' => e = .returned (.bool true) ∧ Below w.heap.size w w' := by
  rcases Nat.lt_or_ge 60 l0.length with hl | hl
  · exact law_over A0 c0 l0 a1 w hl hT
  · have hok : okArgs l0 a1 := ⟨hwf, by omega, h0, h1⟩
    by_cases he : askedOf l0 a1 = 0
    · obtain ⟨hc, ha⟩ := asked_ok.1 he
      obtain ⟨free, rfl⟩ : ∃ n : Nat, a1 = n := ⟨a1.toNat, by omega⟩
      have hf : free < 256 := by omega
      obtain ⟨hr, hp⟩ := lw_apart l0 _ _ (by simp) hc
      have hpl : place_Place.f l0 free = some (putsOf (turnsOf free l0), ((freeAfter free l0 : Nat) : Int), 0) := by
        unfold place_Place.f
        rw [if_pos hok, if_pos he, Int.toNat_natCast, takeAll_turns]
      obtain ⟨g1, g2⟩ := law_puts_gen l0 hp free hf free hf (fun _ _ h => h)
      have hlen := puts_len (turnsOf free l0)
      rw [turns_len] at hlen
      refine law_waits A0 c0 l0 free _ (freeAfter free l0) (ahOf l0 free) w hr0 hc0 hl hwf hf hT hpl (by omega) (freeAfter_lt _ _ hf) ?_ (law_rows l0 free hf hp) (fun x hx => (hr x hx).1) ?_ ?_
      · refine law_puts_of _ _ _ g1 (fun p hp2 => ⟨g2 p hp2, ?_⟩)
        obtain ⟨x, hx, e⟩ := lw_puts_f0 l0 free p hp2
        rw [e]; exact (hr x hx).1
      · unfold place_Fair.f
        rw [if_pos ⟨hok, by omega⟩, if_pos he, Int.toNat_natCast, fair_turns free hf l0 hp free _ hf (by simp) (fun b hb => by
          have : (List.replicate 8 false).getD b false = false := by rw [List.getD_eq_getElem?_getD, List.getElem?_replicate]; split <;> rfl
          rw [this]; simp)]
      · refine lw_ext (or_lt256 _ _ (minus_lt _ _ hf) (freeAfter_lt _ _ hf)) hf (fun b hb => ?_)
        rw [Nat.testBit_or, ah_bit l0 free hf _ b hb, List.take_length]
        have := free_sub l0 free hf b hb
        revert this
        cases free.testBit b <;> cases (freeAfter free l0).testBit b <;> simp
    · refine law_no A0 c0 l0 a1 _ w hr0 hc0 hl hT he ?_
      unfold place_Place.f
      rw [if_pos hok, if_neg he]
end Go.Proofs.YtdmieaidheelbaaDoor.Q
end
