/- The sets of package cpuset: math/bits.TrailingZeros32 at a byte, the iterator of a set, Next and List, by their contracts. -/
import Derived.Test.YtlfljoihcjmnkaaDoorProg
import Derived.Test.YtlfljoihcjmnkaaDoorRng
import Derived.Test.YtlfljoihcjmnkaaDoorWWords
import Derived.Lib.TrailingZeros
import Derived.Laws.BitsAllLaws
import Derived.Maps.AppendAt
import Derived.KernelRfl
import Derived.Lib.Hide
import Derived.Shelf.Abstract
namespace Go.Proofs.YtlfljoihcjmnkaaDoor.Q
open Go Go.RowKit Go.Shelf Go.Proofs.YtlfljoihcjmnkaaDoor.Rng Go.Proofs.YtlfljoihcjmnkaaDoorW.PrintWords
set_option linter.unusedVariables false
set_option linter.unusedSimpArgs false

/-- the table of math/bits lies in its variable -/
def TabW (w : World) : Prop := ∀ j, j < 32 → w.cell? ⟨0, j, none⟩ = some (.int .u8 (Lib.deBruijn32tab.getD j 0))
theorem TabW.same {w w' : World} (h : TabW w) (h0 : w'.heap[0]? = w.heap[0]?) : TabW w' := fun j hj => (World.cell?_of_block (w := w) (a := ⟨0, j, none⟩) h0).trans (h j hj)
theorem TabW.pos {w : World} (h : TabW w) : 0 < w.heap.size := World.block_lt_of_cell? w _ (h 0 (by omega))
theorem TabW.below {w w' : World} {B : Nat} (h : TabW w) (hB : 0 < B) (hb : Below B w w') : TabW w' := h.same (hb.block 0 hB)
theorem TabW.step {w w' : World} (h : TabW w) (hb : Below w.heap.size w w') : TabW w' := h.below h.pos hb
theorem TabW.grown {w w' : World} {c : Nat} (h : TabW w) (hc : 0 < c) (hb : w.grownBy w' (some c)) : TabW w' := h.same (hb.block 0 h.pos (fun e => by cases e; omega))

theorem gb_trans {a b d : World} {r : Nat} {r' : Option Nat} (h : a.grownBy b (some r)) (k : b.grownBy d r') (hr : ∀ j, r' = some j → j = r ∨ a.heap.size ≤ j) : a.grownBy d (some r) :=
  ⟨k.os.trans h.os, k.tape.trans h.tape, k.output.trans h.output, Nat.le_trans h.size k.size, fun i hi hne =>
    (k.block i (Nat.lt_of_lt_of_le hi h.size) (fun e => by rcases hr i e.symm with h1 | h1
                                                           · exact hne (by rw [h1])
                                                           · omega)).trans (h.block i hi hne)⟩
theorem gb_refl (a : World) (r : Option Nat) : a.grownBy a r := ⟨rfl, rfl, rfl, Nat.le_refl _, fun _ _ _ => rfl⟩
theorem gb_of_below {a b : World} (h : Below a.heap.size a b) (r : Option Nat) : a.grownBy b r := ⟨h.os, h.tape, h.output, h.size, fun k hk _ => h.block k hk⟩

/-- those in a set, rising -/
def listOf (s : Int) : List Int := ((List.range 8).filter fun c => s.toNat.testBit c).map fun (c : Nat) => (c : Int)

theorem tz_tab : ∀ x : Nat, x < 256 → x ≠ 0 → (x &&& (4294967296 - x)) * 125613361 % 4294967296 / 134217728 < 32 ∧ Lib.deBruijn32tab.getD ((x &&& (4294967296 - x)) * 125613361 % 4294967296 / 134217728) 0 = Lib.ctz 32 x ∧ Lib.ctz 32 x < 8 := by decide +kernel
theorem list_step : ∀ x : Nat, x < 256 → x ≠ 0 → listOf (x : Int) = (Lib.ctz 32 x : Int) :: listOf ((x &&& (x - 1) : Nat) : Int) := by decide +kernel
theorem list_len : ∀ x : Nat, x < 256 → (listOf (x : Int)).length ≤ 8 := by decide +kernel
theorem and_lt : ∀ x : Nat, x < 256 → x &&& (x - 1) < 256 ∧ (x ≠ 0 → x &&& (x - 1) < x) := by decide +kernel
theorem testBit_255 : ∀ c, c < 8 → Nat.testBit 255 c = true := by decide
theorem list_255 (s : Nat) : listOf ((s &&& 255 : Nat) : Int) = listOf (s : Int) := by
  unfold listOf
  congr 1
  refine List.filter_congr fun c hc => ?_
  have hc8 : c < 8 := by simpa using hc
  simp [Nat.testBit_and, testBit_255 c hc8]

theorem tz_key (x : Nat) (hx : x < 256) (h0 : x ≠ 0) :
    bits BinOp.and IntKind.u32 (x : Int) (-(x : Int) % 4294967296) * 125613361 % 4294967296 / 134217728 = (((x &&& (4294967296 - x)) * 125613361 % 4294967296 / 134217728 : Nat) : Int) := by
  have e1 : -(x : Int) % 4294967296 = ((4294967296 - x : Nat) : Int) := by omega
  rw [e1, u32_and_nat x _ (by omega) (by omega)]
  omega

set_option maxHeartbeats 1000000 in
theorem tz_core (x k idx : Nat) (w : World) (hx0 : ((x : Int) == 0) = false)
    (key : bits BinOp.and IntKind.u32 (x : Int) (-(x : Int) % 4294967296) * 125613361 % 4294967296 / 134217728 = (idx : Int))
    (hi : idx < 32) (hk : k < 32) (hcell : w.cell? ⟨0, idx, none⟩ = some (.int .u8 k)) :
    Calls Tryd.prog 44 #[.int .u32 x] w fun e w' => e = .returned (.int .i64 k) ∧ w' = w := by
  go_enter Tryd.func44, Tryd.ntmps44
  go_wp2_with (simp only [key])
  go_ret
  exact ⟨rfl, rfl⟩

/-- math/bits.TrailingZeros32 at a byte that is not 0 -/
theorem tz_calls (x : Nat) (hx : x < 256) (h0 : x ≠ 0) (w : World) (hT : TabW w) :
    Calls Tryd.prog 44 #[.int .u32 x] w fun e w' => e = .returned (.int .i64 (Lib.ctz 32 x)) ∧ w' = w := by
  obtain ⟨hi, htab, hk⟩ := tz_tab x hx h0
  have hcell := hT _ hi
  rw [htab] at hcell
  exact tz_core x _ _ w (by simp; omega) (tz_key x hx h0) hi (by omega) hcell

/-- the number in a box, for a measure -/
def numAt (b : Nat) (w : World) : Nat := match w.cell? ⟨b, 0, none⟩ with | some (.int _ q) => q.toNat | _ => 0
theorem numAt_of {b : Nat} {w : World} {t : TypeId} {q : Int} {k : IntKind} (h : Boxed w b t (.int k q)) : numAt b w = q.toNat := by
  unfold numAt; rw [h.cell]

set_option maxRecDepth 100000 in
set_option maxHeartbeats 2000000 in
/-- the iterator of a set -/
theorem in1_iter (b : Nat) (s : Nat) (hs : s < 4294967296) (w0 : World) (hb : Boxed w0 b 24 (.int .u32 s)) (hT : TabW w0) (hb0 : 0 < b) :
    Iter Tryd.prog 43 #[.pointer (some ⟨b, 0, none⟩)] (fun x : Int => #[.int .i64 x]) b (fun k => k = b ∨ k = 0) (listOf s) w0 := by
  intro l J Jx W hW hJ hY h0
  have hbW : Boxed W b 24 (.int .u32 s) := (hW.block b hb.lt).trans hb
  have hTW : TabW W := hT.below (by have := hT.pos; omega) hW
  have hx : s &&& 255 < 256 := by have := Nat.and_le_right (n := s) (m := 255); omega
  have e1 : bits BinOp.and IntKind.u32 (s : Int) 255 = ((s &&& 255 : Nat) : Int) := u32_and_nat s 255 hs (by omega)
  have E1 := Lib.hid e1
  clear e1
  have hcell := hbW.cell
  have hfr := hbW.frozen
  refine callsIn_of_wp Tryd.func43 rfl trivial ?_ rfl
  simp only [Tryd.ntmps43, List.size_toArray, List.length_cons, List.length_nil, Nat.reduceAdd, Nat.reduceSub, Array.replicate_succ, Array.replicate_zero, List.push_toArray, List.append_toArray, List.nil_append, List.cons_append]
  clear hW hb hT
  gi_wp2
  gi_loopw [5] (fun _ wr => ∃ (pre : List Int) (x : Nat), x < 256 ∧ listOf s = pre ++ listOf (x : Int) ∧ Boxed wr b 24 (.int .u32 x) ∧ TabW wr ∧ J pre wr)
    (fun _ wr => numAt b wr)
  case atStart =>
    refine ⟨[], s &&& 255, hx, by rw [list_255]; rfl, ?_, hTW.grown hb0 (grownBy_setCell' _ _ _), hJ _ _ _ h0 (grownBy_setCell' _ _ _)⟩
    rw [← E1.out]
    exact hbW.set _
  case round =>
    obtain ⟨pre, x, hx1, hpre, hbx, hTx, hJx'⟩ := hrel
    clear hbW hTW E1 hcell hfr h0 hx
    have hcell := hbx.cell
    have hfr := hbx.frozen
    by_cases hx0 : x = 0
    · subst hx0
      gi_wp2
      go_end0
      refine ⟨⟨_, rfl⟩, .inl ?_⟩
      rw [hpre, show listOf ((0 : Nat) : Int) = [] from by decide +kernel]
      simpa using hJx'
    · have hne : (((x : Int)) != 0) = true := by rw [bne_iff_ne]; omega
      have hl := list_step x hx1 hx0
      rw [hl] at hpre
      obtain ⟨fn, tmps, assign, body, hy, hR⟩ := hY pre _ _ wr hpre hJx'
      have e2 : bits BinOp.and IntKind.u32 (x : Int) ((x : Int) - 1) = ((x &&& (x - 1) : Nat) : Int) := by
        rw [show ((x : Int) - 1) = ((x - 1 : Nat) : Int) by omega]; exact u32_and_nat x (x - 1) (by omega) (by omega)
      have E2 := Lib.hid e2
      clear e2
      have hlo : (0 : Int) ≤ x := by omega
      have hhi : (x : Int) ≤ 255 := by omega
      have hpos : (1 : Int) ≤ x := by omega
      gi_wp2_with (refine ⟨trivial, ?_⟩; gi_at_call 44; refine (callsIn_wide.2 (tz_calls x hx1 hx0 wr hTx)).mono ?_; rintro e w' ⟨rfl, rfl⟩)
      refine hR.mono ?_
      rintro e W3 (⟨rfl, hJ3, hk3⟩ | ⟨rfl, hJx3⟩)
      · have hb3 : Boxed W3 b 24 (.int .u32 x) := (hk3 b (.inl rfl)).trans hbx
        have hT3 : TabW W3 := hTx.same (hk3 0 (.inr rfl))
        have hc3 := hb3.cell
        have hf3 := hb3.frozen
        gi_wp2
        go_roundw
        case rel =>
          refine ⟨pre ++ [(Lib.ctz 32 x : Int)], x &&& (x - 1), (and_lt x hx1).1, by rw [hpre]; simp, ?_, hT3.grown hb0 (grownBy_setCell' _ _ _), hJ _ _ _ hJ3 (grownBy_setCell' _ _ _)⟩
          rw [← E2.out]
          exact hb3.set _
        case measure =>
          rw [numAt_of (hb3.set _), numAt_of hbx, E2.out]
          have := (and_lt x hx1).2 hx0
          omega
      · gi_wp2
        refine bodyPost_ret (results_none rfl _ _ _) rfl ?_
        exact ⟨⟨_, rfl⟩, .inr hJx3⟩

#print axioms in1_iter
end Go.Proofs.YtlfljoihcjmnkaaDoor.Q
