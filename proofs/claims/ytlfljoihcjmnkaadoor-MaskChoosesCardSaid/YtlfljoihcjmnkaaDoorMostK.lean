/- mask.most: the most masks of a row that have a choice: the recursive closure with its map of what was found, by its contract. -/
import Derived.Test.YtlfljoihcjmnkaaDoorMasks
import Derived.Maps.OwnIn
import Derived.Maps.Own
import Derived.Maps.OwnSet
import Derived.Maps.OwnOps
import Derived.Maps.Views
import Derived.DeepKeys5
import Derived.ProofKit
import Derived.Deep.RegionWith
import Derived.BigRegion
namespace Go.Proofs.YtlfljoihcjmnkaaDoor.Q
open Go Go.RowKit Go.Shelf Go.Proofs.YtlfljoihcjmnkaaDoor.Rng Go.Proofs.YtlfljoihcjmnkaaDoorW.PrintWords Go.Proofs.YtlfljoihcjmnkaaDoorW.PrintLast Go.Proofs.YtlfljoihcjmnkaaDoorW.PrintMore
open Go.Maps (Keyed IsMap)
set_option linter.unusedVariables false
set_option linter.unusedSimpArgs false

/-- how many of a row of masks have a choice at most -/
def mostN : List S31 → Nat → Nat
  | [], _ => 0
  | m :: l, s => if s = 0 then 0 else (listOf (allowsN m.f0.toNat m.f1.toNat s : Nat)).foldl (fun n c => max n (1 + mostN l (minus s (2 ^ c.toNat)))) (mostN l s)
def timesT : Nat → Nat
  | 0 => 0
  | d + 1 => 1 + 9 * timesT d

theorem lawF : Keyed Tryd.prog 62 := Keyed.of_law (deep_law_laid (by kernel_rfl) (m := 3) (by omega) (of_decide_eq_true (by kernel_rfl)) (by kernel_rfl) (by rw [Tryd.underlying62]))
def keyL (i s : Nat) : Lit := .string (keyBytes [.int .i64 i, .int .u32 s])
theorem wf_i64 (i : Nat) (hi : i ≤ 1000) : (Lit.int .i64 (i : Int)).wf = true := by
  have a : IntKind.i64.min = -9223372036854775808 := by decide +kernel
  have b : IntKind.i64.max = 9223372036854775807 := by decide +kernel
  show (decide (IntKind.i64.min ≤ (i : Int)) && decide ((i : Int) ≤ IntKind.i64.max)) = true
  rw [a, b]; simp; omega
theorem wf_u32 (s : Nat) (hs : s < 256) : (Lit.int .u32 (s : Int)).wf = true := by
  have a : IntKind.u32.min = 0 := by decide +kernel
  have b : IntKind.u32.max = 4294967295 := by decide +kernel
  show (decide (IntKind.u32.min ≤ (s : Int)) && decide ((s : Int) ≤ IntKind.u32.max)) = true
  rw [a, b]; simp; omega
theorem lits_int {t : TypeId} {q : IntKind} (d : Nat) (ht : Tryd.prog.underlying t = some (.int q)) {n : Int} (hw : (Lit.int q n).wf = true) : Tryd.prog.keyLits (d + 1) t [.int q n] = some [.int q n] := by
  simp only [Program.keyLits, ht]
  simp [hw]
theorem key_of (i s : Nat) (hi : i ≤ 1000) (hs : s < 256) : keyOf Tryd.prog 62 (.agg #[.int .i64 i, .int .u32 s]) = some (keyL i s) := by
  have hp : 0 < Tryd.prog.types.size := of_decide_eq_true (by kernel_rfl)
  obtain ⟨d, hn⟩ : ∃ d, Tryd.prog.types.size = d + 1 := ⟨Tryd.prog.types.size - 1, by omega⟩
  have h1 := lits_int d Tryd.underlying3 (wf_i64 i hi)
  have h2 := lits_int d Tryd.underlying24 (wf_u32 s hs)
  have hk : Tryd.prog.keyType 62 = true := by kernel_rfl
  have c0 : Tryd.prog.cellsOf 62 = 2 := by kernel_rfl
  have c1 : Tryd.prog.cellsOf 3 = 1 := by kernel_rfl
  have c2 : Tryd.prog.cellsOf 24 = 1 := by kernel_rfl
  have hf : (Value.agg #[.int .i64 i, .int .u32 s]).formed Tryd.prog 62 = true := by simp [Value.formed, Tryd.underlying62, c0]
  unfold keyOf
  rw [Tryd.underlying62]
  simp only [hk, hf, Bool.and_self, if_true]
  rw [hn]
  simp only [Program.keyLits.eq_def Tryd.prog (d + 1 + 1), Tryd.underlying62]
  simp [c0, c1, c2, Value.cells, h1, h2, keyL]

theorem list_mem (s : Nat) (c : Int) (h : c ∈ listOf s) : 0 ≤ c ∧ c < 8 ∧ s.testBit c.toNat = true := by
  unfold listOf at h
  obtain ⟨n, hn, rfl⟩ := List.mem_map.1 h
  obtain ⟨h1, h2⟩ := List.mem_filter.1 hn
  have : n < 8 := by simpa using h1
  rw [Int.toNat_natCast] at h2
  exact ⟨by omega, by omega, by simpa using h2⟩
theorem add_block (a : Addr) (n : Nat) : (a.add n).block = a.block := by unfold Addr.add; split <;> rfl
theorem wrap_succ (k : Nat) (h : k < 1000) : wrap64 ((k : Int) + 1) = (k : Int) + 1 := wrap_small _ (by omega) (by omega)
theorem isKey (i s : Nat) (hi : i ≤ 1000) (hs : s < 256) : WideAt.IsKeyLit (keyL i s) := lawF.key (key_of i s hi hs)
theorem key_inj {i s j r : Nat} (hi : i ≤ 1000) (hs : s < 256) (hj : j ≤ 1000) (hr : r < 256) (h : keyL i s = keyL j r) : i = j ∧ s = r := by
  have a := key_of i s hi hs
  rw [h] at a
  have := lawF.inj a (key_of j r hj hr)
  injection this with this
  simp at this
  exact ⟨by omega, by omega⟩

/-- what the map holds is what was to be found -/
def Memo (l : List S31) (D : DataW Unit) : Prop := ∀ i s, i ≤ l.length → s < 256 → Maps.has D (keyL i s) = true → D.atKey (keyL i s) (.lit (.int .i64 0)) = .lit (.int .i64 (mostN (l.drop i) s : Nat))
theorem Memo.empty (l : List S31) : Memo l (.map []) := fun i s _ _ h => by simp [Maps.has_eq] at h
theorem Memo.put {l : List S31} {D : DataW Unit} (h : Memo l D) (hD : IsMap D) (hl : l.length ≤ 1000) (i s : Nat) (hi : i ≤ l.length) (hs : s < 256) : Memo l (D.put (keyL i s) (.lit (.int .i64 (mostN (l.drop i) s : Nat)))) := fun j r hj hr hh => by
  by_cases e : keyL j r = keyL i s
  · obtain ⟨rfl, rfl⟩ := key_inj (by omega) hr (by omega) hs e
    exact Maps.atKey_put_same hD (isKey _ _ (by omega) hs) _ _
  · rw [Maps.has_put_other e] at hh
    rw [Maps.atKey_put_other e]
    exact h j r hj hr hh

theorem timesT_le : ∀ d : Fin 17, timesT d.val ≤ 1000000000000000 := by decide +kernel
theorem mostN_le (l : List S31) : ∀ s, mostN l s ≤ l.length := by
  induction l with
  | nil => intro s; exact Nat.le_refl _
  | cons m l ih =>
    intro s
    unfold mostN
    split
    · omega
    · have : ∀ (cs : List Int) (n : Nat), n ≤ l.length + 1 → cs.foldl (fun n c => max n (1 + mostN l (minus s (2 ^ c.toNat)))) n ≤ l.length + 1 := by
        intro cs
        induction cs with
        | nil => intro n hn; exact hn
        | cons c cs ih2 => intro n hn; exact ih2 _ (by have := ih (minus s (2 ^ c.toNat)); show max n (1 + mostN l (minus s (2 ^ c.toNat))) ≤ l.length + 1; omega)
      exact this _ _ (by have := ih s; omega)

/-- a row of masks lies below block n₀ -/
def MasksAt (W : World) (n₀ : Nat) (A : Option Addr) (l : List S31) : Prop := ∀ k, k < l.length → ∃ ad, A = some ad ∧ ad.block < n₀ ∧
  W.cell? (ad.add (k * 2)) = some (.int .u32 (rd_T31 l k).f0) ∧ W.cell? ⟨(ad.add (k * 2)).block, (ad.add (k * 2)).off + 1, none⟩ = some (.int .u32 (rd_T31 l k).f1)
theorem MasksAt.of {w : World} {A : Option Addr} {l : List S31} (h : Kd.C k31 w A l.length l) : MasksAt w w.heap.size A l := fun k hk => by
  obtain ⟨ad, e, h0, h1⟩ := at_T31 h (k : Int) (by omega) (by omega)
  rw [Int.toNat_natCast] at h0 h1
  exact ⟨ad, e, by have := World.block_lt_of_cell? w _ h0; rwa [add_block] at this, h0, h1⟩
theorem MasksAt.same {W W' : World} {n₀ : Nat} {A : Option Addr} {l : List S31} (h : MasksAt W n₀ A l) (hs : ∀ k, k < n₀ → W'.heap[k]? = W.heap[k]?) : MasksAt W' n₀ A l := fun k hk => by
  obtain ⟨ad, e, hb, h0, h1⟩ := h k hk
  have hb' : (ad.add (k * 2)).block < n₀ := by rw [add_block]; exact hb
  exact ⟨ad, e, hb, (World.cell?_of_block (w := W) (hs _ hb')).trans h0, (World.cell?_of_block (w := W) (a := ⟨_, _, none⟩) (hs _ hb')).trans h1⟩
end Go.Proofs.YtlfljoihcjmnkaaDoor.Q
