/- place.turns: the iterator over wishes and the pCPUs that they take, by its contract. -/
import Derived.Test.YtdmieaidheelbaaDoorPlaceCheck
import Derived.Test.YtdmieaidheelbaaDoorSetB
namespace Go.Proofs.YtdmieaidheelbaaDoor.Q
open Go Go.RowKit Go.Shelf Go.Proofs.YtdmieaidheelbaaDoor.Rng Go.Proofs.YtdmieaidheelbaaDoorW.PrintWords Go.Proofs.YtdmieaidheelbaaDoorW.PrintLast Go.Proofs.YtdmieaidheelbaaDoorW.PrintMore
set_option linter.unusedVariables false
set_option linter.unusedSimpArgs false

/-- the pCPU that a wish takes of a set; -1: none -/
def takesOf (x : S36) (free : Nat) : Int := if (bestN x.f2.f0.toNat x.f2.f1.toNat free x.f1).2 then (bestN x.f2.f0.toNat x.f2.f1.toNat free x.f1).1 else -1
def freeOf (x : S36) (free : Nat) : Nat := if (bestN x.f2.f0.toNat x.f2.f1.toNat free x.f1).2 then minus free (2 ^ (bestN x.f2.f0.toNat x.f2.f1.toNat free x.f1).1.toNat) else free
def turnsOf (free : Nat) : List S36 → List (S36 × Int)
  | [] => []
  | x :: l => (x, takesOf x free) :: turnsOf (freeOf x free) l

theorem list_mem (s : Nat) (c : Int) (h : c ∈ listOf s) : 0 ≤ c ∧ c < 8 ∧ s.testBit c.toNat = true := by
  unfold listOf at h
  obtain ⟨n, hn, rfl⟩ := List.mem_map.1 h
  obtain ⟨h1, h2⟩ := List.mem_filter.1 hn
  have : n < 8 := by simpa using h1
  rw [Int.toNat_natCast] at h2
  exact ⟨by omega, by omega, by simpa using h2⟩
theorem nextOf_mem (s : Nat) (a : Int) (h : (nextOf s a).2 = true) : (nextOf s a).1 ∈ listOf s := by
  unfold nextOf at h ⊢
  cases hf : (listOf s).find? fun c => decide (a < c) with
  | none => rw [hf] at h; simp at h
  | some c => exact List.mem_of_find?_eq_some hf
theorem bestN_range (h s p : Nat) (a : Int) (hb : (bestN h s p a).2 = true) : 0 ≤ (bestN h s p a).1 ∧ (bestN h s p a).1 < 8 := by
  unfold bestN at hb ⊢
  cases hh : hasN (allowsN h s p) a with
  | true =>
    simp only [if_true]
    unfold hasN at hh
    simp at hh
    exact ⟨hh.1.1, hh.1.2⟩
  | false =>
    rw [hh] at hb
    simp only [Bool.false_eq_true, if_false] at hb ⊢
    have := list_mem _ _ (nextOf_mem _ _ hb)
    exact ⟨this.1, this.2.1⟩
theorem freeOf_lt (x : S36) (free : Nat) (hf : free < 256) : freeOf x free < 256 := by
  unfold freeOf; split
  · exact minus_lt _ _ hf
  · exact hf

/-- a row of wishes lies below block n₀ -/
def Wishes (W : World) (n₀ : Nat) (A : Option Addr) (l : List S36) : Prop := ∀ k, k < l.length → ∃ ad, A = some ad ∧ ad.block < n₀ ∧
  W.cell? (ad.add (k * 4)) = some (.int .i64 (rd_T36 l k).f0) ∧ W.cell? ⟨(ad.add (k * 4)).block, (ad.add (k * 4)).off + 1, none⟩ = some (.int .i64 (rd_T36 l k).f1) ∧
  W.cell? ⟨(ad.add (k * 4)).block, (ad.add (k * 4)).off + 2, none⟩ = some (.int .u32 (rd_T36 l k).f2.f0) ∧ W.cell? ⟨(ad.add (k * 4)).block, (ad.add (k * 4)).off + 3, none⟩ = some (.int .u32 (rd_T36 l k).f2.f1)
theorem add_block (a : Addr) (n : Nat) : (a.add n).block = a.block := by unfold Addr.add; split <;> rfl
theorem Wishes.of {w : World} {A : Option Addr} {l : List S36} (h : Kd.C k36 w A l.length l) : Wishes w w.heap.size A l := fun k hk => by
  obtain ⟨ad, e, h0, h1, h2, h3⟩ := at_T36 h (k : Int) (by omega) (by omega)
  rw [Int.toNat_natCast] at h0 h1 h2 h3
  exact ⟨ad, e, by have := World.block_lt_of_cell? w _ h0; rwa [add_block] at this, h0, h1, h2, h3⟩
theorem Wishes.same {W W' : World} {n₀ : Nat} {A : Option Addr} {l : List S36} (h : Wishes W n₀ A l) (hs : ∀ k, k < n₀ → W'.heap[k]? = W.heap[k]?) : Wishes W' n₀ A l := fun k hk => by
  obtain ⟨ad, e, hb, h0, h1, h2, h3⟩ := h k hk
  have hb' : (ad.add (k * 4)).block < n₀ := by rw [add_block]; exact hb
  exact ⟨ad, e, hb, (World.cell?_of_block (w := W) (hs _ hb')).trans h0, (World.cell?_of_block (w := W) (a := ⟨_, _, none⟩) (hs _ hb')).trans h1, (World.cell?_of_block (w := W) (a := ⟨_, _, none⟩) (hs _ hb')).trans h2, (World.cell?_of_block (w := W) (a := ⟨_, _, none⟩) (hs _ hb')).trans h3⟩
theorem drop_rd (l : List S36) (k : Nat) (hk : k < l.length) : l.drop k = rd_T36 l k :: l.drop (k + 1) := by
  rw [List.drop_eq_getElem_cons hk]
  have : rd_T36 l (k : Int) = l[k] := by simp [rd_T36, hk]
  rw [this]

def encTurn (x : S36 × Int) : Array Value := #[.agg #[.int .i64 x.1.f0, .int .i64 x.1.f1, .int .u32 x.1.f2.f0, .int .u32 x.1.f2.f1], .int .i64 x.2]

set_option maxHeartbeats 1000000 in
theorem turns_calls (A : Option Addr) (n c : Nat) (free : Int) (w : World) : Calls Tryd.prog 58 #[.slice A n c, .int .u32 free] w fun e w' =>
    e = .returned (.func (.func 88) #[] #[.pointer (some ⟨w.heap.size, 0, none⟩), .pointer (some ⟨w.heap.size + 1, 0, none⟩)]) ∧ w' = (w.alloc (.cells #[.slice A n c] 22)).alloc (.cells #[.int .u32 free] 24) := by
  go_enter Tryd.func58, Tryd.ntmps58
  go_wp2
  go_ret
  exact ⟨rfl, rfl⟩

set_option maxRecDepth 100000 in
set_option maxHeartbeats 8000000 in
theorem turns1_iter (bl bf n₀ : Nat) (A : Option Addr) (cap : Nat) (l : List S36) (free : Nat) (hf : free < 256) (hlen : l.length ≤ 1000000) (hwf : ∀ x ∈ l, Wf36 x) (w0 : World)
    (hbl : Boxed w0 bl 22 (.slice A l.length cap)) (hbf : Boxed w0 bf 24 (.int .u32 free)) (hT : TabW w0) (hW : Wishes w0 n₀ A l) (hn0 : n₀ ≤ bl) (hlf : bl < bf) (h0n : 0 < n₀) :
    Iter Tryd.prog 88 #[.pointer (some ⟨bl, 0, none⟩), .pointer (some ⟨bf, 0, none⟩)] encTurn bf (fun k => k = bl ∨ k = bf ∨ k < n₀) (turnsOf free l) w0 := by
  intro lp J Jx W hBW hJ hY h0
  have HY := Aside0.mk hY
  have HJ := Aside0.mk hJ
  have HWF := Aside0.mk hwf
  have HBL := Aside0.mk (show Boxed W bl 22 (.slice A l.length cap) from (hBW.block bl hbl.lt).trans hbl)
  have HBF := Aside0.mk (show Boxed W bf 24 (.int .u32 free) from (hBW.block bf hbf.lt).trans hbf)
  have HTW := Aside0.mk (hT.below (by have := hT.pos; omega) hBW)
  have HW := Aside0.mk (hW.same (W' := W) (fun k hk => hBW.block k (by have := hbl.lt; omega)))
  have H0 := Aside0.mk h0
  clear hY hJ hwf hbl hbf hT hW hBW h0
  have hu36 := Tryd.underlying36
  have hcl := HBL.out.cell
  refine callsIn_of_wp Tryd.func88 rfl trivial ?_ rfl
  simp only [Tryd.ntmps88, List.size_toArray, List.length_cons, List.length_nil, Nat.reduceAdd, Nat.reduceSub, Array.replicate_succ, Array.replicate_zero, List.push_toArray, List.append_toArray, List.nil_append, List.cons_append]
  gi_wp2
  gi_loopw [10] (fun i wr => ∃ (k fr : Nat) (pre : List (S36 × Int)), k ≤ l.length ∧ i = .int .i64 k ∧ fr < 256 ∧ Aside0 (turnsOf free l = pre ++ turnsOf fr (l.drop k)) ∧ Aside0 (Boxed wr bl 22 (.slice A l.length cap)) ∧ Aside0 (Boxed wr bf 24 (.int .u32 fr)) ∧ Aside0 (TabW wr) ∧ Aside0 (Wishes wr n₀ A l) ∧ Aside0 (J pre wr))
    (fun i _ => l.length - (intOf i).toNat)
  case atStart => exact ⟨0, free, [], Nat.zero_le _, rfl, hf, ⟨rfl⟩, HBL, HBF, HTW, HW, H0⟩
  case round =>
    obtain ⟨k, fr, pre, hk, rfl, hfr, HPRE, HBL1, HBF1, HT1, HW1, HJ1⟩ := hrel
    clear hcl HBL HBF HTW HW H0 hf
    by_cases hlt : k < l.length
    case neg =>
      have hge : l.length ≤ k := by omega
      clear hlt
      have hJ' := HJ1.out
      have hp := HPRE.out
      rw [List.drop_eq_nil_of_le hge] at hp
      simp only [turnsOf, List.append_nil] at hp
      rw [← hp] at hJ'
      have HJ2 := Aside0.mk hJ'
      clear hJ' hp
      gi_wp2
      go_end0
      exact ⟨⟨_, rfl⟩, .inl HJ2.out⟩
    case pos =>
    obtain ⟨ad, rfl, had, hx0, hx1, hx2, hx3⟩ := HW1.out k hlt
    have hpre := HPRE.out
    rw [drop_rd l k hlt, turnsOf] at hpre
    have hwx := HWF.out _ (rd36_mem l k hlt)
    generalize rd_T36 l (k : Int) = x at *
    obtain ⟨f0, f1, ⟨mh, ms⟩⟩ := x
    obtain ⟨hw1, hw2, hw3, hw4⟩ := hwx
    simp only at hx0 hx1 hx2 hx3 hw1 hw2 hw3 hw4
    obtain ⟨mh, rfl⟩ : ∃ m : Nat, mh = m := ⟨mh.toNat, by omega⟩
    obtain ⟨ms, rfl⟩ : ∃ m : Nat, ms = m := ⟨ms.toNat, by omega⟩
    have hbest := Best_val mh ms fr f1 (by omega) (by omega) (by omega) 2 (by omega)
    have hbl1 := HBL1.out.lt
    have hbf1 := HBF1.out.lt
    have hcf := HBF1.out.cell
    have hff := HBF1.out.frozen
    have HPR := Aside0.mk hpre
    clear hpre HPRE
    have hrg := bestN_range mh ms fr f1
    have htk : takesOf ⟨f0, f1, ⟨(mh : Int), (ms : Int)⟩⟩ fr = if (bestN mh ms fr f1).2 then (bestN mh ms fr f1).1 else -1 := rfl
    have hfo : freeOf ⟨f0, f1, ⟨(mh : Int), (ms : Int)⟩⟩ fr = if (bestN mh ms fr f1).2 then minus fr (2 ^ (bestN mh ms fr f1).1.toNat) else fr := rfl
    generalize bestN mh ms fr f1 = bst at *
    obtain ⟨c, there⟩ := bst
    have HBEST := Aside0.mk hbest
    clear hbest
    have hbW : Below wr.heap.size wr (wr.alloc (.cells #[.int .i64 f0, .int .i64 f1, .int .u32 mh, .int .u32 ms] 36)) := (Below.refl _ _).alloc (Nat.le_refl _) _
    have HT2 := Aside0.mk (HT1.out.step hbW)
    have HN := Aside0.mk (heap_alloc_new wr (.cells #[.int .i64 f0, .int .i64 f1, .int .u32 mh, .int .u32 ms] 36))
    have HBW := Aside0.mk hbW
    clear hbW
    cases there with
    | false =>
      have HTK := Aside0.mk htk
      have HFO := Aside0.mk hfo
      clear htk hfo hrg
      gi_wp2_with (refine ⟨trivial, ?_⟩; gi_at_call 89; refine (callsIn_wide.2 (mask_Best.calls 2 mh ms fr f1 c false _ HT2.out HBEST.out)).mono ?_; rintro e w1 ⟨rfl, hb1⟩; have hn1 := (hb1.block wr.heap.size (by simp)).trans HN.out; have k0 := blk_cell hn1 0; have k1 := blk_cell hn1 1; have k2 := blk_cell hn1 2; have k3 := blk_cell hn1 3; have HB1 := Aside0.mk (below_step HBW.out hb1); clear hb1 hn1; simp only [List.getElem?_toArray, List.getElem?_cons_zero, List.getElem?_cons_succ] at k0 k1 k2 k3)
      have hJ1 : J pre w1 := HJ.out pre wr w1 HJ1.out (gb_of_below HB1.out _)
      have hp1 := HPR.out
      rw [HTK.out, HFO.out] at hp1
      simp only [Bool.false_eq_true, if_false] at hp1
      have HP1 := Aside0.mk hp1
      obtain ⟨fn, tmps, assign, body, hy, hR⟩ := HY.out pre _ _ w1 hp1 hJ1
      dsimp only [encTurn] at hy
      clear hp1 hJ1
      rw [hy]
      refine ⟨fun h => (by simp [Fence.wide] at h), RoundIn.mono hR ?_⟩
      rintro e W3 (⟨rfl, hJ3, hk3⟩ | ⟨rfl, hJx3⟩)
      · have HR3 := Aside0.mk (And.intro hJ3 hk3)
        clear hJ3 hk3
        gi_wp2
        go_roundw
        case rel =>
          have hk3 := HR3.out.2
          have hs3 : ∀ j, (j = bl ∨ j = bf ∨ j < n₀) → W3.heap[j]? = wr.heap[j]? := fun j hj => (hk3 j hj).trans (HB1.out.block j (by omega))
          exact ⟨k + 1, fr, _, by omega, by go_num, hfr, ⟨by rw [HP1.out, List.append_assoc]; rfl⟩, ⟨(hs3 bl (.inl rfl)).trans HBL1.out⟩, ⟨(hs3 bf (.inr (.inl rfl))).trans HBF1.out⟩, ⟨HT1.out.same (hs3 0 (.inr (.inr h0n)))⟩, ⟨HW1.out.same (fun j hj => hs3 j (.inr (.inr hj)))⟩, ⟨HR3.out.1⟩⟩
        case measure => simp [intOf]; omega
      · gi_wp2
        refine bodyPost_ret (results_none rfl _ _ _) rfl ?_
        exact ⟨⟨_, rfl⟩, .inr hJx3⟩
    | true =>
      obtain ⟨hc0, hc1⟩ := hrg rfl
      obtain ⟨d, rfl⟩ : ∃ d : Nat, c = d := ⟨c.toNat, by omega⟩
      have hd8 : d < 8 := by omega
      simp only [if_true, Int.toNat_natCast] at htk hfo
      have HTK := Aside0.mk htk
      have HFO := Aside0.mk hfo
      have hd0 : (0 : Int) ≤ d := by omega
      clear htk hfo hrg hc0 hc1
      gi_wp2_with (refine ⟨trivial, ?_⟩; gi_at_call 89; refine (callsIn_wide.2 (mask_Best.calls 2 mh ms fr f1 d true _ HT2.out HBEST.out)).mono ?_; rintro e w1 ⟨rfl, hb1⟩; have hn1 := (hb1.block wr.heap.size (by simp)).trans HN.out; have k0 := blk_cell hn1 0; have k1 := blk_cell hn1 1; have k2 := blk_cell hn1 2; have k3 := blk_cell hn1 3; have HB1 := Aside0.mk (below_step HBW.out hb1); clear hb1 hn1; simp only [List.getElem?_toArray, List.getElem?_cons_zero, List.getElem?_cons_succ] at k0 k1 k2 k3)
      have hbf2 : Boxed w1 bf 24 (.int .u32 fr) := (HB1.out.block bf (by omega)).trans HBF1.out
      have hcf2 := hbf2.cell
      have hff2 := hbf2.frozen
      gi_region
      all_goals gi_wp2
      have hpw : (2 : Int) ^ d % 4294967296 = ((2 ^ d : Nat) : Int) := by
        have h2 := pow_lt256 d hd8
        rw [show (2 : Int) ^ d = ((2 ^ d : Nat) : Int) by simp]
        generalize 2 ^ d = q at h2 ⊢
        omega
      have e1 : bits BinOp.andNot IntKind.u32 (fr : Int) ((2 : Int) ^ d % 4294967296) = ((minus fr (2 ^ d) : Nat) : Int) := by
        rw [hpw]; exact andNot_byte fr (2 ^ d) hfr (pow_lt256 d hd8)
      rw [e1]
      have hg2 : w1.grownBy (w1.setCell ⟨bf, 0, none⟩ (.int .u32 ((minus fr (2 ^ d) : Nat) : Int))).drew (some bf) :=
        ⟨rfl, rfl, rfl, (grownBy_setCell' w1 bf _).size, fun j hj hne => (grownBy_setCell' w1 bf (.int .u32 ((minus fr (2 ^ d) : Nat) : Int))).block j hj hne⟩
      have hbf3 : Boxed (w1.setCell ⟨bf, 0, none⟩ (.int .u32 ((minus fr (2 ^ d) : Nat) : Int))).drew bf 24 (.int .u32 ((minus fr (2 ^ d) : Nat) : Int)) := hbf2.set _
      generalize (w1.setCell ⟨bf, 0, none⟩ (.int .u32 ((minus fr (2 ^ d) : Nat) : Int))).drew = w2 at *
      have hJ1 : J pre w2 := HJ.out pre wr w2 HJ1.out (gb_trans (gb_of_below HB1.out _) hg2 (fun j e => .inl (by cases e; rfl)))
      have hp1 := HPR.out
      rw [HTK.out, HFO.out] at hp1
      have HP1 := Aside0.mk hp1
      have HG2 := Aside0.mk hg2
      have HBF3 := Aside0.mk hbf3
      obtain ⟨fn, tmps, assign, body, hy, hR⟩ := HY.out pre _ _ w2 hp1 hJ1
      dsimp only [encTurn] at hy
      clear hp1 hJ1 hg2 hbf3 hcf2 hff2 hbf2 e1 hpw k0 k1 k2 k3
      rw [hy]
      refine ⟨fun h => (by simp [Fence.wide] at h), RoundIn.mono hR ?_⟩
      rintro e W3 (⟨rfl, hJ3, hk3⟩ | ⟨rfl, hJx3⟩)
      · have HR3 := Aside0.mk (And.intro hJ3 hk3)
        clear hJ3 hk3
        gi_wp2
        go_roundw
        case rel =>
          have hk3 := HR3.out.2
          have hs3 : ∀ j, (j = bl ∨ j < n₀) → W3.heap[j]? = wr.heap[j]? := fun j hj => ((hk3 j (by rcases hj with h | h <;> simp [h])).trans (HG2.out.block j (by have := HB1.out.size; omega) (fun e => by injection e; omega))).trans (HB1.out.block j (by omega))
          exact ⟨k + 1, minus fr (2 ^ d), _, by omega, by go_num, minus_lt _ _ hfr, ⟨by rw [HP1.out, List.append_assoc]; rfl⟩, ⟨(hs3 bl (.inl rfl)).trans HBL1.out⟩, ⟨(hk3 bf (.inr (.inl rfl))).trans HBF3.out⟩, ⟨HT1.out.same (hs3 0 (.inr h0n))⟩, ⟨HW1.out.same (fun j hj => hs3 j (.inr hj))⟩, ⟨HR3.out.1⟩⟩
        case measure => simp [intOf]; omega
      · gi_wp2
        refine bodyPost_ret (results_none rfl _ _ _) rfl ?_
        exact ⟨⟨_, rfl⟩, .inr hJx3⟩

#print axioms turns1_iter
end Go.Proofs.YtdmieaidheelbaaDoor.Q
