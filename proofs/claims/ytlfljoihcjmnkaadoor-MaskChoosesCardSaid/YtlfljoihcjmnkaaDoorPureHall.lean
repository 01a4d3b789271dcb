/- MaskHall, the plain law. -/
import Derived.Test.YtlfljoihcjmnkaaDoorHall
import Derived.Test.YtlfljoihcjmnkaaDoorPureTells
import Derived.Test.YtlfljoihcjmnkaaDoorQFlaw07MaskHall
namespace Go.Proofs.YtlfljoihcjmnkaaDoor.Q
open Go Go.RowKit Go.Proofs.YtlfljoihcjmnkaaDoorW.PrintWords Go.Proofs.YtlfljoihcjmnkaaDoorW.PrintLast Go.Proofs.YtlfljoihcjmnkaaDoorW.PrintMore
set_option linter.unusedVariables false
set_option linter.unusedSimpArgs false

theorem Count_val (a : Nat) (ha : a < 256) : cpuset_Count.f (a : Int) = some (ones a : Int) := by
  have e : Go.bits .and .u32 (a : Int) 255 = (a : Int) := by
    have h1 : Go.bits .and .u32 (a : Int) 255 = ((a &&& 255 : Nat) : Int) := and_nat a 255 (by omega) (by omega)
    rw [h1, show a &&& 255 = a by rw [Nat.and_two_pow_sub_one_eq_mod a 8]; omega]
  unfold cpuset_Count.f
  rw [e]
  unfold bits_OnesCount32.f
  rw [if_pos (by omega), Int.toNat_natCast]
  rfl
theorem choose_step (m : S31) (l : List S31) (s : Nat) (hs : s < 256) (h : mostN (m :: l) s = (m :: l).length) :
    ∃ c : Nat, c < 8 ∧ (hN m &&& s).testBit c = true ∧ mostN l (minus s (2 ^ c)) = l.length ∧ chooseN (m :: l) s = (c : Int) :: chooseN l (minus s (2 ^ c)) := by
  obtain ⟨c, hc, hb, hr⟩ := (most_sdr (m :: l) s hs).1 h
  rw [choose_cons, allows_hN m s hs]
  cases hf : (listOf (hN m &&& s : Nat)).find? fun c => decide (mostN l (minus s (2 ^ c.toNat)) = l.length) with
  | none =>
    rw [List.find?_eq_none] at hf
    have := hf c (mem_listOf _ c hc hb)
    rw [Int.toNat_natCast, (most_sdr l _ (minus_lt _ _ hs)).2 hr] at this
    simp at this
  | some d =>
    have h1 := List.mem_of_find?_eq_some hf
    have h2 := List.find?_some hf
    obtain ⟨d0, d8, db⟩ := list_mem _ _ h1
    refine ⟨d.toNat, by omega, db, by simpa using h2, ?_⟩
    simp only [Int.toNat_of_nonneg d0]

def sel (k : Nat) : Nat → Nat → List Bool
  | _, 0 => []
  | i, d + 1 => k.testBit i :: sel k (i + 1) d
theorem sel_len (k : Nat) : ∀ d i, (sel k i d).length = d := by
  intro d
  induction d with
  | zero => intro i; rfl
  | succ d ih => intro i; simp [sel, ih]
def encB : List Bool → Nat
  | [] => 0
  | b :: I => b.toNat + 2 * encB I
theorem encB_lt (I : List Bool) : encB I < 2 ^ I.length := by
  induction I with
  | nil => simp [encB]
  | cons b I ih => simp only [encB, List.length_cons, Nat.pow_succ]; cases b <;> simp <;> omega
theorem encB_bit (I : List Bool) : ∀ j, (encB I).testBit j = I.getD j false := by
  induction I with
  | nil => intro j; simp [encB]
  | cons b I ih =>
    intro j
    cases j with
    | zero => simp only [encB, Nat.testBit_zero, List.getD_cons_zero]; cases b <;> simp <;> omega
    | succ j =>
      rw [List.getD_cons_succ, ← ih j, Nat.testBit_succ]
      congr 1
      simp only [encB]; cases b <;> simp <;> omega
theorem sel_of (I : List Bool) : ∀ (k i : Nat), (∀ j, j < I.length → k.testBit (i + j) = I.getD j false) → sel k i I.length = I := by
  induction I with
  | nil => intro k i _; rfl
  | cons b I ih =>
    intro k i h
    simp only [List.length_cons, sel]
    have h0 := h 0 (by simp)
    simp only [Nat.add_zero, List.getD_cons_zero] at h0
    rw [h0, ih k (i + 1) (fun j hj => by
      have := h (j + 1) (by simp only [List.length_cons]; omega)
      rw [List.getD_cons_succ] at this
      rw [← this]; congr 1; omega)]
def okSel (l : List S31) (s k : Nat) : Bool := decide (cnt (sel k 0 l.length) ≤ ones (un l (sel k 0 l.length) &&& s))
def allOk (l : List S31) (s : Nat) : Nat → Bool
  | 0 => true
  | j + 1 => allOk l s j && okSel l s j
theorem allOk_iff (l : List S31) (s : Nat) : ∀ n, allOk l s n = true ↔ ∀ j, j < n → okSel l s j = true := by
  intro n
  induction n with
  | zero => simp [allOk]
  | succ n ih =>
    simp only [allOk, Bool.and_eq_true, ih]
    constructor
    · rintro ⟨h1, h2⟩ j hj
      rcases Nat.lt_or_ge j n with h | h
      · exact h1 j h
      · obtain rfl : j = n := by omega
        exact h2
    · intro h; exact ⟨fun j hj => h j (by omega), h n (by omega)⟩
theorem allOk_most (l : List S31) (s : Nat) (hs : s < 256) : allOk l s (2 ^ l.length) = decide (mostN l s = l.length) := by
  have h : allOk l s (2 ^ l.length) = true ↔ mostN l s = l.length := by
    rw [allOk_iff, most_sdr l s hs]
    constructor
    · intro h
      refine hall_sdr l s fun I hI => ?_
      have hk := h (encB I) (by rw [← hI]; exact encB_lt I)
      have he : sel (encB I) 0 l.length = I := by rw [← hI]; exact sel_of I _ 0 (fun j _ => by rw [Nat.zero_add]; exact encB_bit I j)
      unfold okSel at hk
      rw [he] at hk
      exact of_decide_eq_true hk
    · intro h j _
      exact decide_eq_true (sdr_hall l s h _ (sel_len _ _ _))
  by_cases hm : mostN l s = l.length
  · rw [h.2 hm, decide_eq_true hm]
  · rw [decide_eq_false hm]; exact Bool.eq_false_iff.2 (fun e => hm (h.1 e))

theorem and_one : ∀ q : Fin 1024, Go.bits .and .i64 (q.val : Int) 1 = ((q.val % 2 : Nat) : Int) := by decide +kernel
theorem bit_of (k i : Nat) (hk : k < 1024) (hi : i < 20) : (Go.bits .and .i64 (shr .i64 (k : Int) (i : Int)) 1 = 1) ↔ k.testBit i = true := by
  have e : shr .i64 (k : Int) (i : Int) = ((k / 2 ^ i : Nat) : Int) := by
    unfold shr
    rw [Nat.min_eq_left (by show i ≤ 64; omega), Int.toNat_natCast, Int.natCast_ediv]; simp
  rw [e, and_one ⟨k / 2 ^ i, Nat.lt_of_le_of_lt (Nat.div_le_self _ _) hk⟩, Nat.testBit_eq_decide_div_mod_eq]
  simp only [decide_eq_true_eq]
  omega
theorem rdM_at (l : List S31) (i : Nat) (hi : i < l.length) : rd_T31 l (i : Int) = l[i] := by simp [rd_T31, hi]
theorem allows_at (m : S31) (hw : Wf34 m) (s : Nat) (hs : s < 256) (k : Nat) (hk : 2 ≤ k) : mask_Allows.f k m.f0 m.f1 (s : Int) = some ((hN m &&& s : Nat) : Int) := by
  obtain ⟨w1, w2, w3, w4⟩ := hw
  have := Allows_val m.f0.toNat m.f1.toNat s (by omega) (by omega) (by omega) k hk
  rw [show ((m.f0.toNat : Nat) : Int) = m.f0 by omega, show ((m.f1.toNat : Nat) : Int) = m.f1 by omega, allows_hN m s hs] at this
  exact this

theorem hall_l1 (l : List S31) (hl : l.length ≤ 10) (hwf : ∀ x ∈ l, Wf34 x) (s : Nat) (hs : s < 256) (x5 : List Int) (x6 : Int) (x7 : Bool) (kk : Nat) (hkk : kk < 1024) (xN : Int) (r : Bool) (K : Nat)
    (hnext : ∀ k, K ≤ k → mainsheetlaw07_MaskHall.l0 k l (s : Int) x5 x6 (x7 && okSel l s kk) xN ((kk + 1 : Nat) : Int) = some r) (d : Nat) : ∀ (i c u k : Nat), i + d = l.length → c ≤ i → u < 256 → K + d + 4 ≤ k →
    c + cnt (sel kk i d) = cnt (sel kk 0 l.length) → u ||| (un (l.drop i) (sel kk i d) &&& s) = un l (sel kk 0 l.length) &&& s →
    mainsheetlaw07_MaskHall.l1 k l (s : Int) x5 x6 x7 (kk : Int) (c : Int) (u : Int) xN (kk : Int) l (l.length : Int) (i : Int) = some r := by
  induction d with
  | zero =>
    intro i c u k hi hc hu hk h1 h2
    obtain ⟨k, rfl⟩ : ∃ m, k = m + 1 := ⟨k - 1, by omega⟩
    rw [mainsheetlaw07_MaskHall.l1, if_neg (by omega)]
    have h1' : cnt (sel kk 0 l.length) = c := by simpa [sel, cnt] using h1.symm
    have h2' : un l (sel kk 0 l.length) &&& s = u := by
      rw [← h2, List.drop_eq_nil_of_le (by omega)]; simp [un]
    have hn := hnext k (by omega)
    unfold okSel at hn
    rw [h1', h2'] at hn
    rw [wrap_small ((kk : Int) + 1) (by omega) (by omega), show (kk : Int) + 1 = ((kk + 1 : Nat) : Int) by omega]
    cases x7 with
    | true =>
      rw [if_pos rfl, Count_val u hu, Option.bind_some]
      rw [Bool.true_and] at hn
      rw [show decide ((ones u : Int) ≥ (c : Int)) = decide (c ≤ ones u) from decide_eq_decide.2 (by omega)]
      exact hn
    | false =>
      rw [if_neg (by simp)]
      exact hn
  | succ d ih =>
    intro i c u k hi hc hu hk h1 h2
    obtain ⟨k, rfl⟩ : ∃ m, k = m + 1 := ⟨k - 1, by omega⟩
    have hil : i < l.length := by omega
    have hal := allows_at l[i] (hwf _ (List.getElem_mem hil)) s hs k (by omega)
    have hlt := and_lt256' (hN l[i]) s hs
    rw [List.drop_eq_getElem_cons hil] at h2
    simp only [sel, un, cnt, List.countP_cons, id_eq] at h1 h2
    rw [mainsheetlaw07_MaskHall.l1, if_pos (by omega), if_pos (by omega), if_pos (by omega), rdM_at l i hil, hal, Option.bind_some, or_nat u _ (by omega) (by omega), wrap_small ((i : Int) + 1) (by omega) (by omega), show (i : Int) + 1 = ((i + 1 : Nat) : Int) by omega, wrap_small ((c : Int) + 1) (by omega) (by omega), show (c : Int) + 1 = ((c + 1 : Nat) : Int) by omega]
    cases hb : kk.testBit i with
    | true =>
      rw [if_pos ((bit_of kk i hkk (by omega)).2 hb)]
      rw [hb] at h1 h2
      refine ih (i + 1) (c + 1) (u ||| (hN l[i] &&& s)) k (by omega) (by omega) (or_lt256 _ _ hu hlt) (by omega) ?_ ?_
      · simp only [if_true] at h1; unfold cnt; omega
      · rw [← h2]
        refine Nat.eq_of_testBit_eq fun j => ?_
        simp only [if_true, Nat.testBit_or, Nat.testBit_and]
        cases u.testBit j <;> cases (hN l[i]).testBit j <;> cases s.testBit j <;> cases (un (l.drop (i + 1)) (sel kk (i + 1) d)).testBit j <;> rfl
    | false =>
      rw [if_neg (fun e => by rw [(bit_of kk i hkk (by omega)).1 e] at hb; cases hb)]
      rw [hb] at h1 h2
      refine ih (i + 1) c u k (by omega) (by omega) hu (by omega) ?_ ?_
      · simp only [Bool.false_eq_true, if_false, Nat.add_zero] at h1; unfold cnt; omega
      · rw [← h2]
        simp

theorem hall_l0 (l : List S31) (hl : l.length ≤ 10) (hwf : ∀ x ∈ l, Wf34 x) (s : Nat) (hs : s < 256) (x5 : List Int) (x6 : Int) (K2 : Nat)
    (hend : allOk l s (2 ^ l.length) = (x6 == 0)) (hl2 : ∀ k, K2 ≤ k → mainsheetlaw07_MaskHall.l2 k l (s : Int) x5 x6 0 x5 (x5.length : Int) 0 = some true) (d : Nat) : ∀ kk, kk + d = 2 ^ l.length → ∃ K, ∀ k, K ≤ k →
    mainsheetlaw07_MaskHall.l0 k l (s : Int) x5 x6 (allOk l s kk) ((2 ^ l.length : Nat) : Int) (kk : Int) = some true := by
  have hp : 2 ^ l.length ≤ 1024 := by
    have := Nat.pow_le_pow_right (n := 2) (by omega) hl
    simpa using this
  induction d with
  | zero =>
    intro kk hkk
    refine ⟨K2 + 1, fun k hk => ?_⟩
    obtain ⟨k, rfl⟩ : ∃ m, k = m + 1 := ⟨k - 1, by omega⟩
    rw [mainsheetlaw07_MaskHall.l0, if_neg (by omega)]
    rw [Nat.add_zero] at hkk
    rw [hkk, hend, bne_self_eq_false, if_neg (by simp)]
    exact hl2 k (by omega)
  | succ d ih =>
    intro kk hkk
    obtain ⟨K, hK⟩ := ih (kk + 1) (by omega)
    refine ⟨K + l.length + 5, fun k hk => ?_⟩
    obtain ⟨k, rfl⟩ : ∃ m, k = m + 1 := ⟨k - 1, by omega⟩
    rw [mainsheetlaw07_MaskHall.l0, if_pos (by omega)]
    exact hall_l1 l hl hwf s hs x5 x6 (allOk l s kk) kk (by omega) _ true K hK l.length 0 0 0 k (by omega) (by omega) (by omega) (by omega) (by simp) (by simp)

theorem hall_l2 (l : List S31) (hl : l.length ≤ 10) (hwf : ∀ x ∈ l, Wf34 x) (s : Nat) (hs : s < 256) (a : List Int) (hal : a.length = l.length) (d : Nat) : ∀ (i si met k : Nat), i + d = l.length → si < 256 → met < 256 → d + 4 ≤ k →
    a.drop i = chooseN (l.drop i) si → mostN (l.drop i) si = (l.drop i).length → (∀ c, c < 8 → si.testBit c = true → s.testBit c = true ∧ met.testBit c = false) →
    mainsheetlaw07_MaskHall.l2 k l (s : Int) a 0 (met : Int) a (a.length : Int) (i : Int) = some true := by
  induction d with
  | zero =>
    intro i si met k hi hsi hmet hk h1 h2 h3
    obtain ⟨k, rfl⟩ : ∃ m, k = m + 1 := ⟨k - 1, by omega⟩
    rw [mainsheetlaw07_MaskHall.l2, if_neg (by omega), if_pos rfl, hal]
    simp
  | succ d ih =>
    intro i si met k hi hsi hmet hk h1 h2 h3
    obtain ⟨k, rfl⟩ : ∃ m, k = m + 1 := ⟨k - 1, by omega⟩
    have hil : i < l.length := by omega
    rw [List.drop_eq_getElem_cons hil] at h1 h2
    obtain ⟨c, hc, hb, hm, hcs⟩ := choose_step _ _ si hsi h2
    rw [hcs, List.drop_eq_getElem_cons (show i < a.length by omega)] at h1
    injection h1 with h1 h4
    have e : rd a (i : Int) = (c : Int) := by simp [rd, show i < a.length by omega, h1]
    rw [Nat.testBit_and, Bool.and_eq_true] at hb
    obtain ⟨hb1, hb2⟩ := hb
    obtain ⟨g1, g2⟩ := h3 c hc hb2
    have hal2 := allows_at l[i] (hwf _ (List.getElem_mem hil)) s hs k (by omega)
    have hlt := and_lt256' (hN l[i]) s hs
    have c8 : (c : Int) < 8 := by omega
    have k1 : hasN (hN l[i] &&& s) (c : Int) = true := by unfold hasN; simp [c8, hb1, g1]
    have k2 : hasN met (c : Int) = false := by unfold hasN; simp [g2]
    have hpw := pow_lt256 c hc
    rw [mainsheetlaw07_MaskHall.l2, if_pos (by omega), if_pos (by omega), if_pos (by omega), if_pos (by omega), rdM_at l i hil, hal2, Option.bind_some, e, Has_val _ (by omega), Option.bind_some, if_pos k1, Has_val _ (by omega), Option.bind_some, k2, if_neg (by simp), if_pos (by omega), shl_one c hc, or_nat met _ (by omega) (by omega), wrap_small ((i : Int) + 1) (by omega) (by omega), show (i : Int) + 1 = ((i + 1 : Nat) : Int) by omega]
    refine ih (i + 1) (minus si (2 ^ c)) (met ||| 2 ^ c) k (by omega) (minus_lt _ _ hsi) (or_lt256 _ _ hmet hpw) (by omega) h4 hm (fun e he hbe => ?_)
    rw [minus_bit _ _ _ hpw he, pow_bit, Bool.and_eq_true] at hbe
    obtain ⟨q1, q2⟩ := h3 e he hbe.1
    refine ⟨q1, ?_⟩
    rw [Nat.testBit_or, q2, pow_bit]
    simpa using hbe.2
theorem askedM_ne4 (l : List S31) (a : Int) : askedM l a ≠ 4 := by
  unfold askedM
  split
  · omega
  · split
    · split <;> omega
    · omega
theorem choose_len (l : List S31) : ∀ s, s < 256 → mostN l s = l.length → (chooseN l s).length = l.length := by
  induction l with
  | nil => intro s _ _; rfl
  | cons m l ih =>
    intro s hs h
    obtain ⟨c, _, _, hm, he⟩ := choose_step m l s hs h
    rw [he, List.length_cons, ih _ (minus_lt _ _ hs) hm, List.length_cons]

theorem hall_j0 (l : List S31) (hl : l.length ≤ 10) (hwf : ∀ x ∈ l, Wf34 x) (free : Int) (h0 : 0 ≤ free) (h1 : free < 4294967296) : ∃ K, ∀ k, K ≤ k → mainsheetlaw07_MaskHall.j0 k l free = some true := by
  have hok : okChoice l free := ⟨hwf, by omega, h0, h1⟩
  by_cases ha : askedM l free = 0
  · obtain ⟨hall, hf, h16⟩ := askedM_ok ha
    obtain ⟨s, rfl⟩ : ∃ n : Nat, free = n := ⟨free.toNat, by omega⟩
    have hs : s < 256 := by omega
    have hmle := mostN_le l s
    have hao := allOk_most l s hs
    have hsh : shl .i64 1 (l.length : Int) = ((2 ^ l.length : Nat) : Int) := by
      have h : ∀ n : Fin 11, shl .i64 1 (n.val : Int) = ((2 ^ n.val : Nat) : Int) := by decide +kernel
      exact h ⟨l.length, by omega⟩
    by_cases hm : mostN l s < l.length
    · have hc : mask_Choice.f l (s : Int) = some ([], 4) := by
        unfold mask_Choice.f
        rw [if_pos hok, if_neg (by simpa using ha), Int.toNat_natCast, if_pos hm]
      rw [decide_eq_false (by omega)] at hao
      obtain ⟨K, hK⟩ := hall_l0 l hl hwf s hs [] 4 1 (by rw [hao]; rfl) (fun k hk => by
        obtain ⟨k, rfl⟩ : ∃ m, k = m + 1 := ⟨k - 1, by omega⟩
        rw [mainsheetlaw07_MaskHall.l2, if_neg (by simp), if_neg (by omega)]) (2 ^ l.length) 0 (by omega)
      refine ⟨K + 2, fun k hk => ?_⟩
      obtain ⟨k, rfl⟩ : ∃ m, k = m + 2 := ⟨k - 2, by omega⟩
      rw [mainsheetlaw07_MaskHall.j0, hc, Option.bind_some]
      simp only
      rw [if_neg (by omega), show ((4 : Int) != 4) = false from rfl, mainsheetlaw07_MaskHall.j1, if_neg (by simp), hsh]
      exact hK k (by omega)
    · have hm' : mostN l s = l.length := by omega
      have hc : mask_Choice.f l (s : Int) = some (chooseN l s, 0) := by
        unfold mask_Choice.f
        rw [if_pos hok, if_neg (by simpa using ha), Int.toNat_natCast, if_neg hm]
      rw [decide_eq_true hm'] at hao
      have hcl := choose_len l s hs hm'
      obtain ⟨K, hK⟩ := hall_l0 l hl hwf s hs (chooseN l s) 0 (l.length + 4) (by rw [hao]; rfl) (fun k hk => hall_l2 l hl hwf s hs (chooseN l s) hcl l.length 0 s 0 k (by omega) hs (by omega) (by omega) rfl hm' (fun c _ hb => ⟨hb, by simp⟩)) (2 ^ l.length) 0 (by omega)
      refine ⟨K + 2, fun k hk => ?_⟩
      obtain ⟨k, rfl⟩ : ∃ m, k = m + 2 := ⟨k - 2, by omega⟩
      rw [mainsheetlaw07_MaskHall.j0, hc, Option.bind_some]
      simp only
      rw [if_pos trivial, mainsheetlaw07_MaskHall.j1, if_neg (by simp), hsh]
      exact hK k (by omega)
  · have hc : mask_Choice.f l free = some ([], askedM l free) := by
      unfold mask_Choice.f
      rw [if_pos hok, if_pos ha]
    refine ⟨2, fun k hk => ?_⟩
    obtain ⟨k, rfl⟩ : ∃ m, k = m + 2 := ⟨k - 2, by omega⟩
    have h4 : (askedM l free != 4) = true := by simpa using askedM_ne4 l free
    rw [mainsheetlaw07_MaskHall.j0, hc, Option.bind_some]
    simp only
    rw [if_neg ha, h4, mainsheetlaw07_MaskHall.j1, if_pos rfl]
    rfl
theorem pure_MaskHall (l : List S31) (free : Int) (hwf : ∀ x ∈ l, Wf34 x) (h0 : 0 ≤ free) (h1 : free < 4294967296) : ∃ k, mainsheetlaw07_MaskHall.f k l free = some true := by
  by_cases h10 : (l.length : Int) > 10
  · obtain ⟨K, hK⟩ := hall_j0 (l.take 10) (by rw [List.length_take]; omega) (fun x hx => hwf x (List.mem_of_mem_take hx)) free h0 h1
    refine ⟨K + 2, ?_⟩
    unfold mainsheetlaw07_MaskHall.f
    rw [wakes07 (K + 2) (by omega), Option.bind_some, if_pos rfl, if_pos h10, if_pos (by omega)]
    exact hK _ (by omega)
  · obtain ⟨K, hK⟩ := hall_j0 l (by omega) hwf free h0 h1
    refine ⟨K + 2, ?_⟩
    unfold mainsheetlaw07_MaskHall.f
    rw [wakes07 (K + 2) (by omega), Option.bind_some, if_pos rfl, if_neg h10]
    exact hK _ (by omega)
#print axioms pure_MaskHall
end Go.Proofs.YtlfljoihcjmnkaaDoor.Q
