/- PlacePlaces, the plain law. -/
import Derived.Test.YtdmieaidheelbaaDoorRef13
import Derived.Test.YtdmieaidheelbaaDoorPureMore
import Derived.Test.YtdmieaidheelbaaDoorQFlaw13PlacePlaces
namespace Go.Proofs.YtdmieaidheelbaaDoor.Q
open Go Go.RowKit Go.Proofs.YtdmieaidheelbaaDoorW.PrintWords Go.Proofs.YtdmieaidheelbaaDoorW.PrintLast Go.Proofs.YtdmieaidheelbaaDoorW.PrintMore
set_option linter.unusedVariables false
set_option linter.unusedSimpArgs false

theorem lift {α : Type} {F : Nat → Option α} (hm : ∀ k, LeO (F k) (F (k + 1))) {k0 : Nat} {r : α} (h : F k0 = some r) : ∀ k, k0 ≤ k → F k = some r := by
  intro k hk
  induction k with
  | zero => obtain rfl : k0 = 0 := by omega
            exact h
  | succ k ih =>
    rcases Nat.lt_or_ge k k0 with hlt | hge
    · obtain rfl : k0 = k + 1 := by omega
      exact h
    · exact hm k _ (ih hge)

theorem Takes_val (x : S36) (hwf : Wf36 x) (hok : okM x.f2 = true) (free : Nat) (hf : free < 256) (k : Nat) (hk : 9 ≤ k) : mainsheetref13_Takes.f k x.f0 x.f1 x.f2.f0 x.f2.f1 (free : Int) = some (takesOf x free) := by
  obtain ⟨w1, w2, w3, w4⟩ := hwf
  have e1 : ((x.f2.f0.toNat : Nat) : Int) = x.f2.f0 := by omega
  have e2 : ((x.f2.f1.toNat : Nat) : Int) = x.f2.f1 := by omega
  have hA := MAllows_val x.f2.f0.toNat x.f2.f1.toNat free (by omega) (by omega)
  have hL := MLikes_val x.f2.f0.toNat x.f2.f1.toNat free (by omega) (by omega) (by omega)
  rw [e1, e2] at hA hL
  unfold okM at hok
  have e0 : allowsN x.f2.f0.toNat x.f2.f1.toNat free = x.f2.f0.toNat &&& free := by unfold allowsN; rw [hok]; simp [hf]
  have hl : ((likesN x.f2.f0.toNat x.f2.f1.toNat free : Nat) : Int) = if x.f2.f0.toNat &&& free &&& x.f2.f1.toNat = 0 then ((x.f2.f0.toNat &&& free : Nat) : Int) else ((x.f2.f0.toNat &&& free &&& x.f2.f1.toNat : Nat) : Int) := by unfold likesN; rw [e0]; split <;> rfl
  have hlt := likesN_lt x.f2.f0.toNat x.f2.f1.toNat free
  have hlt2 := allowsN_lt x.f2.f0.toNat x.f2.f1.toNat free
  rw [← hl] at hL
  rw [← e0] at hA
  unfold mainsheetref13_Takes.f takesOf bestN
  rw [hA, Option.bind_some, RHas_val _ (by omega), Option.bind_some]
  cases hasN (allowsN x.f2.f0.toNat x.f2.f1.toNat free) x.f1 with
  | true => rfl
  | false =>
    rw [if_neg (by simp), hL, Option.bind_some, RNext_val _ (by omega) _ _ hk, Option.bind_some]
    simp only [Bool.false_eq_true, if_false]
    split <;> rfl

theorem without_all : ∀ c : Fin 8, ∀ f : Fin 256, mainsheetref13_without.f 100 (f.val : Int) (c.val : Int) = some ((minus f.val (2 ^ c.val) : Nat) : Int) := by decide +kernel
theorem Without_val (f : Nat) (hf : f < 256) (c : Int) (h0 : 0 ≤ c) (h8 : c < 8) (k : Nat) (hk : 100 ≤ k) : mainsheetref13_without.f k (f : Int) c = some ((minus f (2 ^ c.toNat) : Nat) : Int) := by
  obtain ⟨n, rfl⟩ : ∃ n : Nat, c = n := ⟨c.toNat, by omega⟩
  rw [Int.toNat_natCast]
  exact lift (mainsheetref13_without.mono _ _) (without_all ⟨n, by omega⟩ ⟨f, hf⟩) k hk

theorem place_loop (l : List S36) (hl : l.length ≤ 1000000) (hwf : ∀ x ∈ l, Wf36 x) (hok : ∀ x ∈ l, okM x.f2 = true) (n : Nat) : ∀ (k i free : Nat) (out : List Int), i ≤ l.length → l.length - i = n → free < 256 → n + 101 ≤ k → out.length = i →
    mainsheetref13_Place.l0 k l (free : Int) out (i : Int) = some (out ++ (turnsOf free (l.drop i)).map (·.2), ((freeAfter free (l.drop i) : Nat) : Int)) := by
  induction n with
  | zero =>
    intro k i free out hi hn hf hk ho
    obtain ⟨k, rfl⟩ : ∃ m, k = m + 1 := ⟨k - 1, by omega⟩
    rw [mainsheetref13_Place.l0, if_neg (by omega), List.drop_eq_nil_of_le (by omega)]
    simp [turnsOf, freeAfter]
  | succ n ih =>
    intro k i free out hi hn hf hk ho
    obtain ⟨k, rfl⟩ : ∃ m, k = m + 1 := ⟨k - 1, by omega⟩
    have hil : i < l.length := by omega
    have hm := List.getElem_mem hil
    rw [mainsheetref13_Place.l0, if_pos (by omega), if_pos (by omega), rd36_get l i hil, Takes_val _ (hwf _ hm) (hok _ hm) free hf k (by omega), Option.bind_some, if_pos (by omega), Option.bind_some, wrap_small _ (by omega) (by omega), show (i : Int) + 1 = ((i + 1 : Nat) : Int) by omega, List.drop_eq_getElem_cons hil]
    simp only [turnsOf, freeAfter, List.map_cons]
    by_cases ht : takesOf l[i] free ≥ 0
    · have hr := takes_range l[i] free (by omega)
      have hfr : freeOf l[i] free = minus free (2 ^ (takesOf l[i] free).toNat) := by
        unfold freeOf takesOf at *
        split
        · rfl
        · next h => rw [if_neg h] at ht; omega
      rw [if_pos ht, Without_val free hf _ hr.1 hr.2 k (by omega), Option.bind_some, ih k (i + 1) _ _ (by omega) (by omega) (minus_lt _ _ hf) (by omega) (by simp [ho]), hfr]
      simp
    · have hfr : freeOf l[i] free = free := by
        unfold freeOf takesOf at *
        split
        · next h => rw [if_pos h] at ht; have := bestN_range _ _ _ _ h; omega
        · rfl
      rw [if_neg ht, ih k (i + 1) _ _ (by omega) (by omega) hf (by omega) (by simp [ho]), hfr]
      simp

def zipPuts (l : List S36) (at_ : List Int) : List S31 := putsOf (l.zip at_)
theorem puts_loop (l : List S36) (at_ : List Int) (hl : l.length ≤ 1000000) (ha : at_.length = l.length) (hm : ∀ c ∈ at_, -1 ≤ c) (n : Nat) : ∀ (k i : Nat) (out : List S31), i ≤ l.length → l.length - i = n → n + 1 ≤ k → out.length ≤ i →
    mainsheetref13_Puts.l0 k l at_ out (i : Int) = some (out ++ putsOf ((l.drop i).zip (at_.drop i))) := by
  induction n with
  | zero =>
    intro k i out hi hn hk ho
    obtain ⟨k, rfl⟩ : ∃ m, k = m + 1 := ⟨k - 1, by omega⟩
    rw [mainsheetref13_Puts.l0, if_neg (by omega), List.drop_eq_nil_of_le (by omega)]
    simp [putsOf]
  | succ n ih =>
    intro k i out hi hn hk ho
    obtain ⟨k, rfl⟩ : ∃ m, k = m + 1 := ⟨k - 1, by omega⟩
    have hil : i < l.length := by omega
    have e : rd at_ (i : Int) = at_[i]'(by omega) := by simp [rd, show i < at_.length by omega]
    have hmi := hm _ (List.getElem_mem (show i < at_.length by omega))
    have d1 := List.drop_eq_getElem_cons hil
    have d2 := List.drop_eq_getElem_cons (show i < at_.length by omega)
    rw [mainsheetref13_Puts.l0, if_pos (by omega), if_pos (by omega), if_pos (by omega), e, rd36_get l i hil, wrap_small _ (by omega) (by omega), show (i : Int) + 1 = ((i + 1 : Nat) : Int) by omega, d1, d2, List.zip_cons_cons]
    have hp : putsOf ((l[i], at_[i]'(by omega)) :: (l.drop (i + 1)).zip (at_.drop (i + 1))) = putOf (l[i], at_[i]'(by omega)) ++ putsOf ((l.drop (i + 1)).zip (at_.drop (i + 1))) := by simp [putsOf]
    rw [hp]
    unfold putOf
    by_cases ht : at_[i]'(by omega) ≥ 0
    · rw [if_pos ht, if_pos (by omega), ih k (i + 1) _ (by omega) (by omega) (by omega) (by simp; omega), if_pos (by omega)]
      simp
    · rw [if_neg ht, ih k (i + 1) _ (by omega) (by omega) (by omega) (by omega), if_neg (by omega)]
      simp
theorem same_puts (a : List S31) (ha : a.length ≤ 1000000) (n : Nat) : ∀ (k i : Nat), i ≤ a.length → a.length - i = n → n + 1 ≤ k → mainsheetref13_SamePuts.l0 k a a (i : Int) = some true := by
  induction n with
  | zero =>
    intro k i hi hn hk
    obtain ⟨k, rfl⟩ : ∃ m, k = m + 1 := ⟨k - 1, by omega⟩
    rw [mainsheetref13_SamePuts.l0, if_neg (by omega)]
  | succ n ih =>
    intro k i hi hn hk
    obtain ⟨k, rfl⟩ : ∃ m, k = m + 1 := ⟨k - 1, by omega⟩
    rw [mainsheetref13_SamePuts.l0, if_pos (by omega), if_pos (by omega), if_pos (by omega), wrap_small _ (by omega) (by omega), show (i : Int) + 1 = ((i + 1 : Nat) : Int) by omega, ih k (i + 1) (by omega) (by omega) (by omega)]
    simp

theorem zip_turns (l : List S36) : ∀ free, l.zip ((turnsOf free l).map (·.2)) = turnsOf free l := by
  induction l with
  | nil => intro free; rfl
  | cons x l ih => intro free; simp [turnsOf, ih]
theorem turns_ge (l : List S36) : ∀ free p, p ∈ turnsOf free l → -1 ≤ p.2 := by
  induction l with
  | nil => intro free p h; simp [turnsOf] at h
  | cons x l ih =>
    intro free p h
    rcases List.mem_cons.1 h with rfl | h
    · show -1 ≤ takesOf x free
      unfold takesOf
      split
      · next h => have := bestN_range _ _ _ _ h; omega
      · omega
    · exact ih _ _ h

theorem zip_split (ts : List (S36 × Int)) : (ts.map (·.1)).zip (ts.map (·.2)) = ts := by
  induction ts with
  | nil => rfl
  | cons p ts ih => simp [ih]
def isMove (p : S36 × Int) : Bool := decide (p.2 ≠ -1) && decide (-1 < p.1.f1) && decide (p.1.f1 ≠ p.2)
def isWait (p : S36 × Int) : Bool := decide (p.2 = -1)
theorem places_l0 (x0 : List S36) (ps : List S31) (left : Int) (ws : List Int) (moved : Int) (ts : List (S36 × Int)) (hts : ts.length = x0.length) (hx : ts.map (·.1) = x0) (hge : ∀ p ∈ ts, -1 ≤ p.2) (hl : x0.length ≤ 60)
    (hps : putsOf ts = ps) (hws : waitsOf ts = ws) (hmv : moved = (ts.filter isMove).length) (n : Nat) : ∀ (k i : Nat) (wait : List Int) (moves : Nat), i ≤ x0.length → x0.length - i = n → n + 200 ≤ k → wait = waitsOf (ts.take i) → moves = ((ts.take i).filter isMove).length →
    mainsheetlaw13_PlacePlaces.l0 k x0 ps left 0 ws 0 moved (ws.length : Int) 0 (ts.map (·.2)) left wait (moves : Int) x0 (x0.length : Int) (i : Int) = some true := by
  have hpl : ps.length ≤ 60 := by rw [← hps]; have := puts_len ts; omega
  have hwl : ws.length ≤ 60 := by rw [← hws]; have := waits_len ts; omega
  induction n with
  | zero =>
    intro k i wait moves hi hn hk hw hmo
    obtain ⟨k, rfl⟩ : ∃ m, k = m + 2 := ⟨k - 2, by omega⟩
    have hall : ts.take i = ts := List.take_of_length_le (by omega)
    rw [hall] at hw hmo
    rw [hws] at hw
    subst hw
    rw [mainsheetlaw13_PlacePlaces.l0, if_neg (by omega), if_pos rfl, if_pos rfl, if_pos rfl, if_pos rfl, if_pos (by rw [hmv, hmo]), bne_self_eq_false, mainsheetlaw13_PlacePlaces.j2, if_neg (by simp)]
    have hp := puts_loop x0 (ts.map (·.2)) (by omega) (by simpa using hts) (by intro c hc; obtain ⟨p, hp, rfl⟩ := List.mem_map.1 hc; exact hge p hp) x0.length k 0 [] (by omega) (by omega) (by omega) (by simp)
    have hz : x0.zip (ts.map (·.2)) = ts := by rw [← hx]; exact zip_split ts
    simp only [List.drop_zero, List.nil_append, hz, hps] at hp
    have hp' : mainsheetref13_Puts.f k x0 (ts.map (·.2)) = some ps := hp
    rw [hp', Option.bind_some]
    have hs : mainsheetref13_SamePuts.f k ps ps = some true := by
      unfold mainsheetref13_SamePuts.f
      rw [if_pos rfl]
      exact same_puts ps (by omega) ps.length k 0 (by omega) (by omega) (by omega)
    rw [hs, Option.bind_some, if_pos rfl, Same_val _ _ (by omega) k (by omega), Option.bind_some]
    simp
  | succ n ih =>
    intro k i wait moves hi hn hk hw hmo
    obtain ⟨k, rfl⟩ : ∃ m, k = m + 1 := ⟨k - 1, by omega⟩
    have hil : i < x0.length := by omega
    have hit : i < ts.length := by omega
    have e : rd (ts.map (·.2)) (i : Int) = ts[i].2 := by simp [rd, hit]
    have e1 : x0[i] = ts[i].1 := by subst hx; simp
    have hmi := hge _ (List.getElem_mem hit)
    have hwl2 : wait.length ≤ 60 := by rw [hw]; have := waits_len (ts.take i); rw [List.length_take] at this; omega
    have hml2 : moves ≤ 60 := by rw [hmo]; have := List.length_filter_le isMove (ts.take i); rw [List.length_take] at this; omega
    have ht1 : ts.take (i + 1) = ts.take i ++ [ts[i]] := List.take_succ_eq_append_getElem hit
    have hw2 : waitsOf (ts.take (i + 1)) = wait ++ waitOf ts[i] := by rw [ht1, waits_snoc, hw]
    have hm2 : ((ts.take (i + 1)).filter isMove).length = moves + (if isMove ts[i] then 1 else 0) := by
      rw [ht1, List.filter_append, List.length_append, hmo]
      cases hq : isMove ts[i] <;> simp [List.filter_cons, hq]
    rw [mainsheetlaw13_PlacePlaces.l0, if_pos (by omega), if_pos (by omega), if_pos (by omega), if_pos (by rw [List.length_map]; omega), e, rd36_get x0 i hil, e1, wrap_small ((i : Int) + 1) (by omega) (by omega), show (i : Int) + 1 = ((i + 1 : Nat) : Int) by omega]
    unfold waitOf at hw2
    unfold isMove at hm2
    by_cases h1 : ts[i].2 < 0
    · have h1' : ts[i].2 = -1 := by omega
      rw [if_pos h1, if_pos (by omega)]
      rw [if_pos h1'] at hw2
      simp only [h1', ne_eq, not_true_eq_false, decide_false, Bool.false_and, Bool.false_eq_true, if_false, Nat.add_zero] at hm2
      exact ih k (i + 1) _ _ (by omega) (by omega) (by omega) hw2.symm hm2.symm
    · have h1' : ts[i].2 ≠ -1 := by omega
      rw [if_neg h1]
      rw [if_neg h1', List.append_nil] at hw2
      by_cases h2 : ts[i].1.f1 ≥ 0
      · rw [if_pos h2]
        have h2' : -1 < ts[i].1.f1 := by omega
        by_cases h3 : ts[i].1.f1 = ts[i].2
        · rw [if_pos h3]
          simp only [h3, ne_eq, not_true_eq_false, decide_false, Bool.and_false, Bool.false_eq_true, if_false, Nat.add_zero] at hm2
          exact ih k (i + 1) _ _ (by omega) (by omega) (by omega) hw2.symm hm2.symm
        · rw [if_neg h3, wrap_small _ (by omega) (by omega), show (moves : Int) + 1 = ((moves + 1 : Nat) : Int) by omega]
          simp only [h1', h2', h3, ne_eq, not_false_eq_true, decide_true, Bool.and_self, if_true] at hm2
          exact ih k (i + 1) _ _ (by omega) (by omega) (by omega) hw2.symm hm2.symm
      · rw [if_neg h2]
        have h2' : ¬ (-1 < ts[i].1.f1) := by omega
        simp only [h2', decide_false, Bool.and_false, Bool.false_and, Bool.false_eq_true, if_false, Nat.add_zero] at hm2
        exact ih k (i + 1) _ _ (by omega) (by omega) (by omega) hw2.symm hm2.symm

theorem places_ok (l : List S36) : ∀ (ms ts : List Bool), checkFrom ms ts l = 0 → ∀ x ∈ l, okM x.f2 = true := by
  induction l with
  | nil => intro ms ts _ x hx; simp at hx
  | cons y l ih =>
    intro ms ts h x hx
    unfold checkFrom at h
    split at h
    · cases h
    · next hb =>
      rcases List.mem_cons.1 hx with rfl | hx
      · cases ho : okM x.f2 with
        | true => rfl
        | false => exact absurd (bad6 (f0 := x.f0) (f1 := x.f1) (ms := ms) (ts := ts) ho) hb
      · exact ih _ _ h x hx
theorem wait_len (ts : List (S36 × Int)) : waitCount ts = ((waitsOf ts).length : Int) := by
  unfold waitCount
  congr 1
  induction ts with
  | nil => rfl
  | cons p ts ih =>
    have : waitsOf (p :: ts) = waitOf p ++ waitsOf ts := by simp [waitsOf]
    rw [this, List.length_append, ← ih, List.filter_cons]
    unfold waitOf
    by_cases h : p.2 = -1
    · simp [h]; omega
    · simp [h]
theorem turns_fst (free : Nat) (l : List S36) : (turnsOf free l).map (·.1) = l := by
  induction l generalizing free with
  | nil => rfl
  | cons x l ih => simp [turnsOf, ih]
theorem pure_PlacePlaces (l : List S36) (free : Int) (hwf : ∀ x ∈ l, Wf36 x) (h0 : 0 ≤ free) (h1 : free < 4294967296) : ∃ k, mainsheetlaw13_PlacePlaces.f k l free = some true := by
  by_cases h60 : (l.length : Int) > 60
  · refine ⟨1, ?_⟩
    unfold mainsheetlaw13_PlacePlaces.f
    rw [wakes13, Option.bind_some, if_pos rfl, if_pos h60]
  have hl : l.length ≤ 60 := by omega
  obtain ⟨K1, hK1⟩ := Right13_val l (by omega) hwf
  obtain ⟨K2, hK2⟩ := why_val l free (by omega) hwf
  refine ⟨K1 + K2 + 400 + 1, ?_⟩
  have hok : okArgs l free := ⟨hwf, by omega, h0, h1⟩
  have hc : place_Check.f l = some (placeOk l) := by unfold place_Check.f placeOk; exact if_pos ⟨hwf, by omega⟩
  unfold mainsheetlaw13_PlacePlaces.f
  rw [wakes13, Option.bind_some, if_pos rfl, if_neg h60, Option.bind_some, if_pos (by simp; omega), List.nil_append, Option.bind_some]
  have hP : place_Place.f l free = some (if askedOf l free = 0 then (putsOf (turnsOf free.toNat l), (takeAll free.toNat (putsOf (turnsOf free.toNat l)) : Int), 0) else ([], 0, askedOf l free)) := by unfold place_Place.f; exact if_pos hok
  have hW : place_Waits.f l free = some (if askedOf l free = 0 then (waitsOf (turnsOf free.toNat l), 0) else ([], askedOf l free)) := by unfold place_Waits.f; exact if_pos hok
  have hM : place_Moves.f l free = some (if askedOf l free = 0 then (movesOf (turnsOf free.toNat l), waitCount (turnsOf free.toNat l), 0) else (0, 0, askedOf l free)) := by unfold place_Moves.f; exact if_pos hok
  rw [hP, Option.bind_some, hW, Option.bind_some, hM, Option.bind_some, hc, Option.bind_some, hK1 _ (by omega), Option.bind_some]
  have hj : ∀ b : Bool, b = false → mainsheetlaw13_PlacePlaces.j0 (K1 + K2 + 400 + 1) l free (if askedOf l free = 0 then (putsOf (turnsOf free.toNat l), (takeAll free.toNat (putsOf (turnsOf free.toNat l)) : Int), (0 : Int)) else ([], 0, askedOf l free)).1
      (if askedOf l free = 0 then (putsOf (turnsOf free.toNat l), (takeAll free.toNat (putsOf (turnsOf free.toNat l)) : Int), (0 : Int)) else ([], 0, askedOf l free)).2.1 (if askedOf l free = 0 then (putsOf (turnsOf free.toNat l), (takeAll free.toNat (putsOf (turnsOf free.toNat l)) : Int), (0 : Int)) else ([], 0, askedOf l free)).2.2
      (if askedOf l free = 0 then (waitsOf (turnsOf free.toNat l), (0 : Int)) else ([], askedOf l free)).1 (if askedOf l free = 0 then (waitsOf (turnsOf free.toNat l), (0 : Int)) else ([], askedOf l free)).2
      (if askedOf l free = 0 then (movesOf (turnsOf free.toNat l), waitCount (turnsOf free.toNat l), (0 : Int)) else (0, 0, askedOf l free)).1 (if askedOf l free = 0 then (movesOf (turnsOf free.toNat l), waitCount (turnsOf free.toNat l), (0 : Int)) else (0, 0, askedOf l free)).2.1 (if askedOf l free = 0 then (movesOf (turnsOf free.toNat l), waitCount (turnsOf free.toNat l), (0 : Int)) else (0, 0, askedOf l free)).2.2 b = some true := by
    intro b hb
    subst hb
    rw [mainsheetlaw13_PlacePlaces.j0, if_neg (by simp), hK2 _ (by omega), Option.bind_some]
    by_cases ha : askedOf l free = 0
    · obtain ⟨hcc, hf⟩ := asked_ok.1 ha
      simp only [ha, if_true]
      have hm := places_ok l _ _ hcc
      obtain ⟨f, rfl⟩ : ∃ n : Nat, free = n := ⟨free.toNat, by omega⟩
      have hpl := place_loop l (by omega) hwf hm l.length (K1 + K2 + 400) 0 f [] (by omega) (by omega) (by omega) (by omega) rfl
      simp only [List.drop_zero, List.nil_append] at hpl
      have hpl' : mainsheetref13_Place.f (K1 + K2 + 400) l (f : Int) = some ((turnsOf f l).map (·.2), ((freeAfter f l : Nat) : Int)) := hpl
      rw [hpl', Option.bind_some, Int.toNat_natCast, takeAll_turns]
      have hwc : waitCount (turnsOf f l) = ((waitsOf (turnsOf f l)).length : Int) := wait_len _
      rw [hwc]
      have hmv : movesOf (turnsOf f l) = (((turnsOf f l).filter isMove).length : Int) := rfl
      exact places_l0 l (putsOf (turnsOf f l)) _ (waitsOf (turnsOf f l)) _ (turnsOf f l) (turns_len f l) (turns_fst f l) (turns_ge l f) hl rfl rfl hmv l.length _ 0 [] 0 (by omega) (by omega) (by omega) rfl rfl
    · simp only [ha, if_false]
      simp
  by_cases hp : placeOk l = 0
  · rw [hp, show (decide ((0 : Int) = 0) != ((0 : Int) == 0)) = false from rfl, if_neg (by simp), if_pos (by simp)]
    exact hj false rfl
  · have h230 : placeOk l = 230 := (check_cases l _ _).resolve_left hp
    rw [h230, show (decide ((230 : Int) = 0) != ((230 : Int) == 0)) = false from rfl, if_neg (by simp), if_neg (by simp), show ((230 : Int) != 230) = false from rfl]
    exact hj false rfl
#print axioms pure_PlacePlaces
end Go.Proofs.YtdmieaidheelbaaDoor.Q
