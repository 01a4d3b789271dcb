/- What package place answers, over lists and numbers; a row of placements of the call's own. Plain but for the memory's words. -/
import Derived.Test.YtdmieaidheelbaaDoorTurns
import Derived.Test.YtdmieaidheelbaaDoorTurned
import Derived.Test.YtdmieaidheelbaaDoorQFplaceasked
namespace Go.Proofs.YtdmieaidheelbaaDoor.Q
open Go Go.RowKit Go.Shelf Go.Proofs.YtdmieaidheelbaaDoor.Rng Go.Proofs.YtdmieaidheelbaaDoorW.PrintWords Go.Proofs.YtdmieaidheelbaaDoorW.PrintLast Go.Proofs.YtdmieaidheelbaaDoorW.PrintMore
set_option linter.unusedVariables false
set_option linter.unusedSimpArgs false

def putOf (p : S36 × Int) : List S31 := if -1 < p.2 then [⟨p.1.f0, p.2⟩] else []
def putsOf (ts : List (S36 × Int)) : List S31 := ts.flatMap putOf
def takeAll (free : Nat) (ps : List S31) : Nat := ps.foldl (fun f p => minus f (2 ^ p.f1.toNat)) free
def waitOf (p : S36 × Int) : List Int := if p.2 = -1 then [p.1.f0] else []
def waitsOf (ts : List (S36 × Int)) : List Int := ts.flatMap waitOf
def askedOf (l : List S36) (a : Int) : Int := if checkFrom (List.replicate 17 false) (List.replicate 8 false) l ≠ 0 then checkFrom (List.replicate 17 false) (List.replicate 8 false) l else if a < 256 then 0 else 140
def okArgs (l : List S36) (a : Int) : Prop := (∀ x ∈ l, Wf36 x) ∧ l.length ≤ 1000000 ∧ 0 ≤ a ∧ a < 4294967296
instance (l : List S36) (a : Int) : Decidable (okArgs l a) := inferInstanceAs (Decidable (_ ∧ _ ∧ _ ∧ _))
theorem asked_val (l : List S36) (a : Int) (h : okArgs l a) : place_asked.f l a = some (askedOf l a) := by
  obtain ⟨h1, h2, h3, h4⟩ := h
  have e1 : place_Check.f l = some (checkFrom (List.replicate 17 false) (List.replicate 8 false) l) := by unfold place_Check.f; exact if_pos ⟨h1, h2⟩
  have e2 := Check_val a.toNat (by omega)
  rw [show ((a.toNat : Nat) : Int) = a by omega] at e2
  unfold place_asked.f askedOf
  rw [e1, Option.bind_some]
  generalize checkFrom (List.replicate 17 false) (List.replicate 8 false) l = q
  by_cases hq : q = 0
  · subst hq
    rw [if_pos rfl, e2]
    simp only [Option.bind_some, ne_eq, not_true_eq_false, if_false]
    congr 1
    by_cases h : a < 256
    · rw [if_pos h, if_pos (by omega)]
    · rw [if_neg h, if_neg (by omega)]
  · rw [if_neg hq, if_pos hq]

def place_Place.f (l0 : List S36) (a1 : Int) : Option (List S31 × Int × Int) :=
  if okArgs l0 a1 then some (if askedOf l0 a1 = 0 then (putsOf (turnsOf a1.toNat l0), (takeAll a1.toNat (putsOf (turnsOf a1.toNat l0)) : Int), 0) else ([], 0, askedOf l0 a1)) else none
def place_Waits.f (l0 : List S36) (a1 : Int) : Option (List Int × Int) :=
  if okArgs l0 a1 then some (if askedOf l0 a1 = 0 then (waitsOf (turnsOf a1.toNat l0), 0) else ([], askedOf l0 a1)) else none
def movesOf (ts : List (S36 × Int)) : Int := (ts.filter fun p => decide (p.2 ≠ -1) && decide (-1 < p.1.f1) && decide (p.1.f1 ≠ p.2)).length
def waitCount (ts : List (S36 × Int)) : Int := (ts.filter fun p => decide (p.2 = -1)).length
def place_Moves.f (l0 : List S36) (a1 : Int) : Option (Int × Int × Int) :=
  if okArgs l0 a1 then some (if askedOf l0 a1 = 0 then (movesOf (turnsOf a1.toNat l0), waitCount (turnsOf a1.toNat l0), 0) else (0, 0, askedOf l0 a1)) else none

theorem turns_len (free : Nat) (l : List S36) : (turnsOf free l).length = l.length := by
  induction l generalizing free with
  | nil => rfl
  | cons x l ih => simp [turnsOf, ih]
theorem puts_len (ts : List (S36 × Int)) : (putsOf ts).length ≤ ts.length := by
  induction ts with
  | nil => simp [putsOf]
  | cons p ts ih =>
    have : (putsOf (p :: ts)).length = (putOf p).length + (putsOf ts).length := by simp [putsOf]
    have h1 : (putOf p).length ≤ 1 := by unfold putOf; split <;> simp
    simp; omega
theorem waits_len (ts : List (S36 × Int)) : (waitsOf ts).length ≤ ts.length := by
  induction ts with
  | nil => simp [waitsOf]
  | cons p ts ih =>
    have : (waitsOf (p :: ts)).length = (waitOf p).length + (waitsOf ts).length := by simp [waitsOf]
    have h1 : (waitOf p).length ≤ 1 := by unfold waitOf; split <;> simp
    simp; omega
theorem puts_snoc (ts : List (S36 × Int)) (p : S36 × Int) : putsOf (ts ++ [p]) = putsOf ts ++ putOf p := by simp [putsOf]
theorem waits_snoc (ts : List (S36 × Int)) (p : S36 × Int) : waitsOf (ts ++ [p]) = waitsOf ts ++ waitOf p := by simp [waitsOf]

theorem takes_range (x : S36) (free : Nat) (h : -1 < takesOf x free) : 0 ≤ takesOf x free ∧ takesOf x free < 8 := by
  unfold takesOf at h ⊢
  cases hb : (bestN x.f2.f0.toNat x.f2.f1.toNat free x.f1).2 with
  | true => rw [if_pos rfl]; exact bestN_range _ _ _ _ hb
  | false => rw [hb] at h; simp at h
theorem puts_range (l : List S36) : ∀ (free : Nat) (p : S31), p ∈ putsOf (turnsOf free l) → 0 ≤ p.f1 ∧ p.f1 < 8 := by
  induction l with
  | nil => intro free p h; simp [turnsOf, putsOf] at h
  | cons x l ih =>
    intro free p h
    simp only [turnsOf, putsOf, List.flatMap_cons, List.mem_append] at h
    rcases h with h | h
    · unfold putOf at h
      split at h
      · next hc =>
        simp at h; subst h
        exact takes_range x free hc
      · simp at h
    · exact ih _ p h
theorem takeAll_lt (free : Nat) (ps : List S31) (hf : free < 256) : takeAll free ps < 256 := by
  induction ps generalizing free with
  | nil => exact hf
  | cons p ps ih => exact ih _ (minus_lt _ _ hf)
theorem takeAll_step (free : Nat) (ps : List S31) (k : Nat) (hk : k < ps.length) : takeAll free (ps.take (k + 1)) = minus (takeAll free (ps.take k)) (2 ^ (rd_T31 ps k).f1.toNat) := by
  have : rd_T31 ps (k : Int) = ps[k] := by simp [rd_T31, hk]
  unfold takeAll
  rw [this, List.take_succ_eq_append_getElem hk, List.foldl_append]
  rfl
theorem rd31_mem (l : List S31) (k : Nat) (hk : k < l.length) : rd_T31 l (k : Int) ∈ l := by
  have : rd_T31 l (k : Int) = l[k] := by simp [rd_T31, hk]
  rw [this]; exact List.getElem_mem hk

/-- placements as cells -/
def enc31 (p : S31) : List Value := [.int .i64 p.f0, .int .i64 p.f1]
theorem enc31_len (ps : List S31) : (ps.flatMap enc31).length = ps.length * 2 := by
  induction ps with
  | nil => rfl
  | cons p ps ih => simp only [List.flatMap_cons, List.length_append, ih, List.length_cons, enc31, List.length_nil]; omega
theorem enc31_at (ps : List S31) : ∀ (j : Nat) (p : S31), ps[j]? = some p → ((ps.flatMap enc31).drop (j * 2)).take 2 = enc31 p := by
  induction ps with
  | nil => intro j p h; simp at h
  | cons q ps ih =>
    intro j p h
    cases j with
    | zero => simp at h; subst h; simp [enc31]
    | succ j =>
      simp at h
      rw [← ih j p h]
      rw [List.flatMap_cons, show (j + 1) * 2 = (enc31 q).length + j * 2 by simp [enc31]; omega, List.drop_append, List.drop_eq_nil_of_le (by omega), List.nil_append, Nat.add_sub_cancel_left]
theorem R31_of_own {w : World} {base : Nat} {v : Value} {ps : List S31} (h : w.ownsRow base 31 2 v ps.length (ps.flatMap enc31)) : Kd.R k31 31 w base (fun _ => True) v ps :=
  ⟨fun _ _ => trivial, _, h, enc31_len ps, fun j p hj => by rw [show k31.sz = 2 from rfl, enc31_at ps j p hj]; exact k31_mkM w base _ p⟩
end Go.Proofs.YtdmieaidheelbaaDoor.Q
