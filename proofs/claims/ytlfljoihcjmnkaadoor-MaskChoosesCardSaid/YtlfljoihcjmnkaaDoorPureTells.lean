/- MaskTells, the plain law. -/
import Derived.Test.YtlfljoihcjmnkaaDoorRefs
import Derived.Test.YtlfljoihcjmnkaaDoorChoice
import Derived.Test.YtlfljoihcjmnkaaDoorQFlaw07MaskTells
namespace Go.Proofs.YtlfljoihcjmnkaaDoor.Q
open Go Go.RowKit Go.Proofs.YtlfljoihcjmnkaaDoorW.PrintWords Go.Proofs.YtlfljoihcjmnkaaDoorW.PrintLast Go.Proofs.YtlfljoihcjmnkaaDoorW.PrintMore
set_option linter.unusedVariables false
set_option linter.unusedSimpArgs false

theorem wakes07 (k : Nat) (hk : 2 ≤ k) : mainsheetlaw07_wakes.f k = some true := by
  have hc : mask_Choice.f [(⟨3, 0⟩ : S31), (⟨1, 0⟩ : S31)] 3 = some ([1, 0], 0) := by decide +kernel
  have hb : mask_Best.f k 7 4 5 1 = some (2, true) := by
    have := Best_val 7 4 5 1 (by omega) (by omega) (by omega) k hk
    have e : bestN 7 4 5 1 = (2, true) := by decide +kernel
    rw [e] at this
    exact this
  unfold mainsheetlaw07_wakes.f
  rw [hc, hb]
  decide +kernel

theorem next_none7 : nextOf ((0 : Nat) : Int) (-1) = (0, false) := by decide +kernel
theorem none_of {h s p : Nat} (at_ : Int) (e0 : allowsN h s p = 0) : likesN h s p = 0 ∧ bestN h s p at_ = (0, false) := by
  have e1 : likesN h s p = 0 := by unfold likesN; rw [e0]; simp
  refine ⟨e1, ?_⟩
  unfold bestN; rw [e0, e1]
  have : hasN 0 at_ = false := by unfold hasN; simp
  rw [this, if_neg (by simp)]
  exact next_none7
theorem tells_none (h s p : Nat) (at_ : Int) (hh : h < 4294967296) (hs : s < 4294967296) (hp : p < 4294967296) (e0 : allowsN h s p = 0) (k : Nat) (hk : 3 ≤ k) :
    mainsheetlaw07_MaskTells.j1 k (p : Int) at_ (bestN h s p at_).1 (bestN h s p at_).2 true (h : Int) (s : Int) = some true := by
  obtain ⟨e1, e2⟩ := none_of at_ e0
  obtain ⟨k, rfl⟩ : ∃ m, k = m + 1 := ⟨k - 1, by omega⟩
  simp only [mainsheetlaw07_MaskTells.j1, if_true]
  rw [Allows_val h s p hh hs hp k (by omega), Option.bind_some, e0, if_pos (by simp), Likes_val h s p hh hs hp k (by omega), Option.bind_some, e1, if_pos (by simp), e2]
  rfl
theorem tells_some (h s p : Nat) (at_ : Int) (hh : h < 4294967296) (hs : s < 4294967296) (hp : p < 4294967296) (hm : maskOk h s = true) (hq : p < 256) (k : Nat) (hk : 20 ≤ k) :
    mainsheetlaw07_MaskTells.j1 k (p : Int) at_ (bestN h s p at_).1 (bestN h s p at_).2 false (h : Int) (s : Int) = some true := by
  obtain ⟨k, rfl⟩ : ∃ m, k = m + 2 := ⟨k - 2, by omega⟩
  have e0 : allowsN h s p = h &&& p := by unfold allowsN; rw [hm]; simp [hq]
  have hR := MAllows_val h s p hh hp
  have hR2 := MLikes_val h s p hh hs hp
  have hl : ((likesN h s p : Nat) : Int) = if h &&& p &&& s = 0 then ((h &&& p : Nat) : Int) else ((h &&& p &&& s : Nat) : Int) := by unfold likesN; rw [e0]; split <;> rfl
  have hlt := likesN_lt h s p
  have hlt2 := allowsN_lt h s p
  rw [← hl] at hR2
  rw [← e0] at hR
  rw [mainsheetlaw07_MaskTells.j1, if_neg (by simp), hR, Option.bind_some, hR2, Option.bind_some, Allows_val h s p hh hs hp (k + 1) (by omega), Option.bind_some, if_pos rfl, Likes_val h s p hh hs hp (k + 1) (by omega), Option.bind_some, bne_self_eq_false, mainsheetlaw07_MaskTells.j2, if_neg (by simp), RHas_val _ (by omega), Option.bind_some]
  unfold bestN
  cases hasN (allowsN h s p) at_ with
  | true => simp
  | false =>
    rw [if_neg (by simp), RNext_val _ (by omega) _ _ (by omega), Option.bind_some, if_pos (by simp)]
    simp
theorem pure_MaskTells (h s p at_ : Int) (h0 : 0 ≤ h) (h1 : h < 4294967296) (s0 : 0 ≤ s) (s1 : s < 4294967296) (p0 : 0 ≤ p) (p1 : p < 4294967296) : ∃ k, mainsheetlaw07_MaskTells.f k h s p at_ = some true := by
  obtain ⟨h, rfl⟩ : ∃ n : Nat, h = n := ⟨h.toNat, by omega⟩
  obtain ⟨s, rfl⟩ : ∃ n : Nat, s = n := ⟨s.toNat, by omega⟩
  obtain ⟨p, rfl⟩ : ∃ n : Nat, p = n := ⟨p.toNat, by omega⟩
  have hh : h < 4294967296 := by omega
  have hs : s < 4294967296 := by omega
  have hp : p < 4294967296 := by omega
  refine ⟨99 + 1, ?_⟩
  unfold mainsheetlaw07_MaskTells.f
  rw [wakes07 (99 + 1) (by omega), Option.bind_some, if_pos rfl, MRight_val, Option.bind_some, MCheck_val h s hh hs (99 + 1) (by omega), Option.bind_some, Best_val h s p at_ hh hs hp (99 + 1) (by omega), Option.bind_some]
  cases hm : maskOk h s with
  | false =>
    have e0 : allowsN h s p = 0 := by unfold allowsN; rw [hm]; rfl
    rw [if_neg (by decide), if_neg (by simp), show (((if false = true then 0 else 170 : Int) != 170) = false) from by decide, mainsheetlaw07_MaskTells.j0, if_neg (by simp), if_neg (by simp)]
    exact tells_none h s p at_ hh hs hp e0 99 (by omega)
  | true =>
    rw [if_neg (by decide), if_pos rfl, mainsheetlaw07_MaskTells.j0, if_neg (by simp), if_pos rfl, RRight_val, Option.bind_some]
    by_cases hq : p < 256
    · rw [show decide ((p : Int) < 256) = true from decide_eq_true (by omega), Bool.not_true]
      exact tells_some h s p at_ hh hs hp hm hq 99 (by omega)
    · rw [show decide ((p : Int) < 256) = false from decide_eq_false (by omega), Bool.not_false]
      have e0 : allowsN h s p = 0 := by unfold allowsN; rw [hm]; simp [hq]
      exact tells_none h s p at_ hh hs hp e0 99 (by omega)
#print axioms pure_MaskTells
end Go.Proofs.YtlfljoihcjmnkaaDoor.Q
