/- Texts of the proof of PickWhole, joined. -/
import Derived.Deep.RegionHeld3
import Derived.WalkSmall
import Derived.WalkSpells
import Derived.BigRegionIn
import Derived.WalkMore
import Derived.Deep.LoopGhost
import Derived.BigQuiet
import Derived.Deep.QuietTactic
import Derived.Test.YtdmieaidheelbaaDoorPkPickWholec
/- PickGood -/
section
/- What pick.Check lets through: each member has one wish, in its order. Lists and numbers alone. -/
namespace Go.Proofs.YtdmieaidheelbaaDoor.Q
open Go Go.RowKit Go.Proofs.YtdmieaidheelbaaDoorW.PrintWords Go.Proofs.YtdmieaidheelbaaDoorW.PrintLast Go.Proofs.YtdmieaidheelbaaDoorW.PrintMore
set_option linter.unusedVariables false
set_option linter.unusedSimpArgs false

abbrev Ent := S90
def at17 (met : List Bool) (c : Int) : Bool := met.getD c.toNat false
theorem at17_set (met : List Bool) (hm : met.length = 17) (v : Int) (h1 : 1 ≤ v) (h2 : v ≤ 16) (c : Int) (hc : 0 ≤ c) : at17 (met.set v.toNat true) c = (at17 met c || decide (c = v)) := by
  unfold at17
  rw [List.getD_eq_getElem?_getD, List.getElem?_set, List.getD_eq_getElem?_getD]
  by_cases e : c = v
  · subst e
    rw [if_pos rfl, if_pos (by omega)]; simp
  · rw [if_neg (by omega)]; simp [e]
def Rises (prev : Option Int) (v : Int) : Prop := ∀ p, prev = some p → p < v
theorem low_iff (prev : Option Int) (v : Int) : low prev v = false ↔ Rises prev v := by
  unfold low Rises
  cases prev with
  | none => simp
  | some p => simp
theorem badMem_iff (met : List Bool) (prev : Option Int) (v : Int) : badMem met prev v = false ↔ 1 ≤ v ∧ v ≤ 16 ∧ at17 met v = false ∧ Rises prev v := by
  unfold badMem
  simp only [Bool.or_eq_false_iff, decide_eq_false_iff_not, low_iff]
  unfold at17
  constructor
  · rintro ⟨⟨⟨h1, h2⟩, h3⟩, h4⟩; exact ⟨by omega, by omega, h3, h4⟩
  · rintro ⟨h1, h2, h3, h4⟩; exact ⟨⟨⟨by omega, by omega⟩, h3⟩, h4⟩
def MemsOk (met : List Bool) (prev : Option Int) (l : List Int) : Prop := l.Pairwise (· < ·) ∧ ∀ v ∈ l, 1 ≤ v ∧ v ≤ 16 ∧ at17 met v = false ∧ Rises prev v
theorem mems_iff (l : List Int) : ∀ (met : List Bool) (prev : Option Int), met.length = 17 → ((∃ met', checkMems met prev l = some met') ↔ MemsOk met prev l) := by
  induction l with
  | nil => intro met prev _; exact ⟨fun _ => ⟨List.Pairwise.nil, by simp⟩, fun _ => ⟨met, rfl⟩⟩
  | cons v l ih =>
    intro met prev hm
    rw [checkMems]
    constructor
    · rintro ⟨met', h⟩
      split at h
      · cases h
      · next hb =>
        obtain ⟨h1, h2, h3, h4⟩ := (badMem_iff _ _ _).1 (by simpa using hb)
        obtain ⟨g1, g2⟩ := (ih (met.set v.toNat true) (some v) (by simpa using hm)).1 ⟨met', h⟩
        refine ⟨List.pairwise_cons.2 ⟨fun u hu => (g2 u hu).2.2.2 v rfl, g1⟩, fun u hu => ?_⟩
        rcases List.mem_cons.1 hu with rfl | hu
        · exact ⟨h1, h2, h3, h4⟩
        · obtain ⟨q1, q2, q3, q4⟩ := g2 u hu
          have := q4 v rfl
          rw [at17_set met hm v h1 h2 u (by omega)] at q3
          simp only [Bool.or_eq_false_iff] at q3
          exact ⟨q1, q2, q3.1, fun p hp => by have := h4 p hp; omega⟩
    · rintro ⟨g1, g2⟩
      obtain ⟨h1, h2⟩ := List.pairwise_cons.1 g1
      have hv := g2 v (by simp)
      rw [if_neg (by rw [(badMem_iff _ _ _).2 hv]; simp)]
      refine (ih (met.set v.toNat true) (some v) (by simpa using hm)).2 ⟨h2, fun u hu => ?_⟩
      obtain ⟨q1, q2, q3, q4⟩ := g2 u (by simp [hu])
      have := h1 u hu
      refine ⟨q1, q2, ?_, fun p hp => by cases hp; exact this⟩
      rw [at17_set met hm v hv.1 hv.2.1 u (by omega), q3, decide_eq_false (by omega)]; rfl
theorem mems_met (l : List Int) : ∀ (met met' : List Bool) (prev : Option Int), met.length = 17 → checkMems met prev l = some met' → met'.length = 17 ∧ ∀ c, 0 ≤ c → at17 met' c = (at17 met c || decide (c ∈ l)) := by
  induction l with
  | nil => intro met met' prev hm h; obtain rfl : met = met' := by simpa [checkMems] using h
           exact ⟨hm, fun c _ => by simp⟩
  | cons v l ih =>
    intro met met' prev hm h
    rw [checkMems] at h
    split at h
    · cases h
    · next hb =>
      obtain ⟨h1, h2, h3, h4⟩ := (badMem_iff _ _ _).1 (by simpa using hb)
      obtain ⟨g1, g2⟩ := ih _ met' _ (by simpa using hm) h
      refine ⟨g1, fun c hc => ?_⟩
      rw [g2 c hc, at17_set met hm v h1 h2 c hc]
      by_cases e : c = v
      · simp [e]
      · simp [e]

def EntsOk (met : List Bool) (l : List Ent) : Prop :=
  (∀ x ∈ l, 1 ≤ x.f0.length ∧ x.f0.length ≤ 8 ∧ MemsOk met none x.f0) ∧ l.Pairwise (fun x y => ∀ v ∈ x.f0, v ∉ y.f0)
def members (l : List Ent) : List Int := l.flatMap (·.f0)
theorem ents_iff (l : List Ent) : ∀ (met : List Bool) (n : Nat), met.length = 17 → ((∃ r, checkEnts met n l = some r) ↔ EntsOk met l) := by
  induction l with
  | nil => intro met n _; exact ⟨fun _ => ⟨by simp, List.Pairwise.nil⟩, fun _ => ⟨_, rfl⟩⟩
  | cons x l ih =>
    intro met n hm
    rw [checkEnts]
    constructor
    · rintro ⟨r, h⟩
      split at h
      · cases h
      · next hlen =>
        cases hq : checkMems met none x.f0 with
        | none => rw [hq] at h; cases h
        | some met' =>
          rw [hq] at h
          have hmo := (mems_iff x.f0 met none hm).1 ⟨met', hq⟩
          obtain ⟨hm', hmet⟩ := mems_met x.f0 met met' none hm hq
          obtain ⟨g1, g2⟩ := (ih met' _ hm').1 ⟨r, h⟩
          refine ⟨fun y hy => ?_, List.pairwise_cons.2 ⟨fun y hy v hv hvy => ?_, g2⟩⟩
          · rcases List.mem_cons.1 hy with rfl | hy
            · exact ⟨by omega, by omega, hmo⟩
            · obtain ⟨q1, q2, q3, q4⟩ := g1 y hy
              refine ⟨q1, q2, q3, fun v hv => ?_⟩
              obtain ⟨p1, p2, p3, p4⟩ := q4 v hv
              rw [hmet v (by omega)] at p3
              simp only [Bool.or_eq_false_iff] at p3
              exact ⟨p1, p2, p3.1, p4⟩
          · obtain ⟨p1, p2, p3, p4⟩ := (g1 y hy).2.2.2 v hvy
            rw [hmet v (by omega), decide_eq_true hv] at p3
            simp at p3
    · rintro ⟨g1, g2⟩
      obtain ⟨h1, h2⟩ := List.pairwise_cons.1 g2
      obtain ⟨q1, q2, q3⟩ := g1 x (by simp)
      rw [if_neg (by omega)]
      obtain ⟨met', hq⟩ := (mems_iff x.f0 met none hm).2 q3
      obtain ⟨hm', hmet⟩ := mems_met x.f0 met met' none hm hq
      rw [hq]
      refine (ih met' _ hm').2 ⟨fun y hy => ?_, h2⟩
      obtain ⟨p1, p2, p3, p4⟩ := g1 y (by simp [hy])
      refine ⟨p1, p2, p3, fun v hv => ?_⟩
      obtain ⟨r1, r2, r3, r4⟩ := p4 v hv
      refine ⟨r1, r2, ?_, r4⟩
      rw [hmet v (by omega), r3, decide_eq_false (fun h => h1 y hy v h hv)]; rfl
theorem ents_met (l : List Ent) : ∀ (met met' : List Bool) (n n' : Nat), met.length = 17 → checkEnts met n l = some (met', n') → n' = n + (members l).length ∧ ∀ c, 0 ≤ c → at17 met' c = (at17 met c || decide (c ∈ members l)) := by
  induction l with
  | nil => intro met met' n n' hm h; obtain ⟨rfl, rfl⟩ : met = met' ∧ n = n' := by simpa [checkEnts] using h
           exact ⟨by simp [members], fun c _ => by simp [members]⟩
  | cons x l ih =>
    intro met met' n n' hm h
    rw [checkEnts] at h
    split at h
    · cases h
    · cases hq : checkMems met none x.f0 with
      | none => rw [hq] at h; cases h
      | some met1 =>
        rw [hq] at h
        obtain ⟨hm1, hmet⟩ := mems_met x.f0 met met1 none hm hq
        obtain ⟨g1, g2⟩ := ih met1 met' _ n' hm1 h
        refine ⟨by rw [g1]; simp [members]; omega, fun c hc => ?_⟩
        rw [g2 c hc, hmet c hc]
        simp [members, Bool.or_assoc]
def WsOk (met : List Bool) (prev : Option Int) (w : List S36) : Prop := w.Pairwise (fun a b => a.f0 < b.f0) ∧ ∀ x ∈ w, 1 ≤ x.f0 ∧ x.f0 ≤ 16 ∧ at17 met x.f0 = true ∧ Rises prev x.f0
theorem badW_iff (met : List Bool) (prev : Option Int) (v : Int) : badW met prev v = false ↔ 1 ≤ v ∧ v ≤ 16 ∧ at17 met v = true ∧ Rises prev v := by
  unfold badW
  simp only [Bool.or_eq_false_iff, decide_eq_false_iff_not, low_iff, Bool.not_eq_false']
  unfold at17
  constructor
  · rintro ⟨⟨⟨h1, h2⟩, h3⟩, h4⟩; exact ⟨by omega, by omega, h3, h4⟩
  · rintro ⟨h1, h2, h3, h4⟩; exact ⟨⟨⟨by omega, by omega⟩, h3⟩, h4⟩
theorem ws_iff (w : List S36) : ∀ (met : List Bool) (prev : Option Int), checkWs met prev w = true ↔ WsOk met prev w := by
  induction w with
  | nil => intro met prev; exact ⟨fun _ => ⟨List.Pairwise.nil, by simp⟩, fun _ => rfl⟩
  | cons x w ih =>
    intro met prev
    rw [checkWs]
    constructor
    · intro h
      split at h
      · cases h
      · next hb =>
        have hv := (badW_iff _ _ _).1 (by simpa using hb)
        obtain ⟨g1, g2⟩ := (ih met (some x.f0)).1 h
        refine ⟨List.pairwise_cons.2 ⟨fun u hu => (g2 u hu).2.2.2 _ rfl, g1⟩, fun u hu => ?_⟩
        rcases List.mem_cons.1 hu with rfl | hu
        · exact hv
        · obtain ⟨q1, q2, q3, q4⟩ := g2 u hu
          exact ⟨q1, q2, q3, fun p hp => by have := hv.2.2.2 p hp; have := q4 _ rfl; omega⟩
    · rintro ⟨g1, g2⟩
      obtain ⟨h1, h2⟩ := List.pairwise_cons.1 g1
      rw [if_neg (by rw [(badW_iff _ _ _).2 (g2 x (by simp))]; simp)]
      refine (ih met (some x.f0)).2 ⟨h2, fun u hu => ?_⟩
      obtain ⟨q1, q2, q3, q4⟩ := g2 u (by simp [hu])
      exact ⟨q1, q2, q3, fun p hp => by cases hp; exact h1 u hu⟩

/-- the form of what may be picked from -/
structure Shape (l : List Ent) (w : List S36) : Prop where
  len : ∀ x ∈ l, 1 ≤ x.f0.length ∧ x.f0.length ≤ 8
  rise : ∀ x ∈ l, x.f0.Pairwise (· < ·)
  range : ∀ x ∈ l, ∀ v ∈ x.f0, 1 ≤ v ∧ v ≤ 16
  apart : l.Pairwise (fun x y => ∀ v ∈ x.f0, v ∉ y.f0)
  wrise : w.Pairwise (fun a b => a.f0 < b.f0)
  wmem : ∀ x ∈ w, x.f0 ∈ members l
  count : w.length = (members l).length
theorem at17_met0 (c : Int) : at17 met0 c = false := by
  unfold at17 met0
  rw [List.getD_eq_getElem?_getD, List.getElem?_replicate]
  split <;> rfl
theorem shape_iff (l : List Ent) (w : List S36) : (∃ met n, checkEnts met0 0 l = some (met, n) ∧ checkWs met none w = true ∧ w.length = n) ↔ Shape l w := by
  constructor
  · rintro ⟨met, n, h1, h2, h3⟩
    obtain ⟨e1, e2⟩ := (ents_iff l met0 0 (by decide)).1 ⟨_, h1⟩
    obtain ⟨m1, m2⟩ := ents_met l met0 met 0 n (by decide) h1
    obtain ⟨w1, w2⟩ := (ws_iff w met none).1 h2
    refine ⟨fun x hx => ⟨(e1 x hx).1, (e1 x hx).2.1⟩, fun x hx => (e1 x hx).2.2.1, fun x hx v hv => ⟨((e1 x hx).2.2.2 v hv).1, ((e1 x hx).2.2.2 v hv).2.1⟩, e2, w1, fun x hx => ?_, by omega⟩
    obtain ⟨q1, q2, q3, q4⟩ := w2 x hx
    rw [m2 _ (by omega), at17_met0] at q3
    simpa using q3
  · intro h
    obtain ⟨r, hr⟩ := (ents_iff l met0 0 (by decide)).2 ⟨fun x hx => ⟨(h.len x hx).1, (h.len x hx).2, h.rise x hx, fun v hv => ⟨(h.range x hx v hv).1, (h.range x hx v hv).2, at17_met0 v, fun p hp => by cases hp⟩⟩, h.apart⟩
    obtain ⟨met, n⟩ := r
    obtain ⟨m1, m2⟩ := ents_met l met0 met 0 n (by decide) hr
    refine ⟨met, n, hr, (ws_iff w met none).2 ⟨h.wrise, fun x hx => ?_⟩, by rw [h.count]; omega⟩
    have hm := h.wmem x hx
    obtain ⟨y, hy, hv⟩ := List.mem_flatMap.1 hm
    obtain ⟨r1, r2⟩ := h.range y hy _ hv
    refine ⟨r1, r2, ?_, fun p hp => by cases hp⟩
    rw [m2 _ (by omega), decide_eq_true hm]; simp
theorem pickCheck_eq (l : List Ent) (w : List S36) : (Shape l w ∧ pickCheck l w = placeChk w) ∨ (¬ Shape l w ∧ pickCheck l w = 290) := by
  unfold pickCheck
  cases h1 : checkEnts met0 0 l with
  | none => exact .inr ⟨(fun h => by obtain ⟨met, n, g, _⟩ := (shape_iff l w).2 h; rw [h1] at g; cases g), rfl⟩
  | some r =>
    obtain ⟨met, n⟩ := r
    by_cases h2 : checkWs met none w = true
    · by_cases h3 : w.length = n
      · exact .inl ⟨(shape_iff l w).1 ⟨met, n, h1, h2, h3⟩, by show (if checkWs met none w then (if w.length = n then placeChk w else 290) else 290) = _; rw [if_pos h2, if_pos h3]⟩
      · refine .inr ⟨fun h => ?_, by show (if checkWs met none w then (if w.length = n then placeChk w else 290) else 290) = _; rw [if_pos h2, if_neg h3]⟩
        obtain ⟨met', n', g, _, g3⟩ := (shape_iff l w).2 h
        rw [h1] at g; cases g; exact h3 g3
    · refine .inr ⟨fun h => ?_, by show (if checkWs met none w then (if w.length = n then placeChk w else 290) else 290) = _; rw [if_neg h2]⟩
      obtain ⟨met', n', g, g2, _⟩ := (shape_iff l w).2 h
      rw [h1] at g; cases g; exact h2 g2
theorem pickCheck_zero (l : List Ent) (w : List S36) : pickCheck l w = 0 ↔ Shape l w ∧ placeChk w = 0 := by
  rcases pickCheck_eq l w with ⟨h1, h2⟩ | ⟨h1, h2⟩
  · rw [h2]; exact ⟨fun h => ⟨h1, h⟩, fun h => h.2⟩
  · rw [h2]; exact ⟨(fun h => by cases h), (fun h => absurd h.1 h1)⟩

/-! each member has one wish -/
theorem rising_nodup {l : List Int} (h : l.Pairwise (· < ·)) : l.Nodup := h.imp (fun h e => by omega)
theorem rising_ext : ∀ (a b : List Int), a.Pairwise (· < ·) → b.Pairwise (· < ·) → (∀ v, v ∈ a ↔ v ∈ b) → a = b := by
  intro a
  induction a with
  | nil =>
    intro b _ _ h
    cases b with
    | nil => rfl
    | cons y b => exact absurd ((h y).2 (by simp)) (by simp)
  | cons x a ih =>
    intro b ha hb h
    cases b with
    | nil => exact absurd ((h x).1 (by simp)) (by simp)
    | cons y b =>
      obtain ⟨a1, a2⟩ := List.pairwise_cons.1 ha
      obtain ⟨b1, b2⟩ := List.pairwise_cons.1 hb
      have hxy : x = y := by
        rcases List.mem_cons.1 ((h x).1 (by simp)) with e | e
        · exact e
        · rcases List.mem_cons.1 ((h y).2 (by simp)) with e2 | e2
          · exact e2.symm
          · have := a1 y e2; have := b1 x e; omega
      subst hxy
      rw [ih b a2 b2 (fun v => ⟨fun hv => ?_, fun hv => ?_⟩)]
      · rcases List.mem_cons.1 ((h v).1 (by simp [hv])) with e | e
        · have := a1 v hv; omega
        · exact e
      · rcases List.mem_cons.1 ((h v).2 (by simp [hv])) with e | e
        · have := b1 v hv; omega
        · exact e
section
variable {l : List Ent} {w : List S36} (h : Shape l w)
include h
theorem Shape.all_wish : ∀ v ∈ members l, v ∈ w.map (·.f0) := by
  intro v hv
  refine Decidable.byContradiction fun hn => ?_
  have hnod : (w.map (·.f0)).Nodup := by
    rw [List.nodup_iff_pairwise_ne, List.pairwise_map]
    exact h.wrise.imp (fun h e => by omega)
  have := nodup_le (v :: w.map (·.f0)) (members l) (List.nodup_cons.2 ⟨hn, hnod⟩) (fun x hx => by
    rcases List.mem_cons.1 hx with rfl | hx
    · exact hv
    · obtain ⟨y, hy, rfl⟩ := List.mem_map.1 hx
      exact h.wmem y hy)
  have hc := h.count
  simp at this
  omega
theorem Shape.wishes (x : Ent) (hx : x ∈ l) : (wishesN w x.f0).map (·.f0) = x.f0 := by
  refine rising_ext _ _ ?_ (h.rise x hx) (fun v => ⟨fun hv => ?_, fun hv => ?_⟩)
  · rw [List.pairwise_map]
    exact List.Pairwise.filter _ h.wrise
  · obtain ⟨y, hy, rfl⟩ := List.mem_map.1 hv
    have := (List.mem_filter.1 hy).2
    simpa using this
  · obtain ⟨y, hy, e⟩ := List.mem_map.1 (h.all_wish v (List.mem_flatMap.2 ⟨x, hx, hv⟩))
    exact List.mem_map.2 ⟨y, List.mem_filter.2 ⟨hy, by simpa [e] using hv⟩, e⟩
theorem Shape.wishes_len (x : Ent) (hx : x ∈ l) : (wishesN w x.f0).length = x.f0.length := by
  have := congrArg List.length (h.wishes x hx)
  simpa using this
end
end Go.Proofs.YtdmieaidheelbaaDoor.Q
end
/- RngR -/
section
/- A range over a function whose iterator hands on what lies in memory of its own: the statement's law. -/
namespace Go.Proofs.YtdmieaidheelbaaDoor.Rng
open Go Go.RowKit

variable {P : Program}
/-- The contract of an iterator value that hands on what lies in memory of its own: `R x W vs`: the values vs say x in the world W. -/
def IterR {α : Type} (P : Program) (g : Nat) (lb : Array Value) (R : α → World → Array Value → Prop) (c : Nat) (keep : Nat → Prop) (xs : List α) (w0 : World) : Prop :=
  ∀ (l : Nat) (J : List α → World → Prop) (Jx : World → Prop) (W : World), Below w0.heap.size w0 W →
    (∀ pre A B, J pre A → A.grownBy B (some c) → J pre B) →
    (∀ pre x post W1 vs, xs = pre ++ x :: post → J pre W1 → R x W1 vs → YieldAt Fence.wide 7 P l vs W1 fun e W' =>
      (e = .returned (.bool true) ∧ J (pre ++ [x]) W' ∧ Same keep W1 W') ∨ (e = .returned (.bool false) ∧ Jx W')) →
    J [] W → CallsIn Fence.wide 8 P g (#[.func (.yield l) #[] #[]] ++ lb) W fun e W' => (∃ v, e = .returned v) ∧ (J xs W' ∨ Jx W')
/-- THE STATEMENT. -/
theorem wpIn_rangeR {α : Type} {g : Operand} {ps : Array Tmp} {assign body : Code} {Q : Exit → Act → World → Prop} {a : Act} {w : World}
    {gf : Nat} {lb : Array Value} (hg : a.eval g = .func (.func gf) #[] lb) (eg : ∀ args w, (callFunc gf args).run P w = .ok (.enter gf args) w)
    {R : α → World → Array Value → Prop} {c : Nat} {keep : Nat → Prop} {xs : List α} (hit : IterR P gf lb R c keep xs w) (hps : ∀ x W vs, R x W vs → vs.size = ps.size)
    (hc : c < w.heap.size) (hkeep : ∀ k, keep k → k < w.heap.size)
    (I : List α → World → Prop) (Ix : Code → World → Prop) (hI : Calm w.heap.size c I) (hIx : CalmB w.heap.size Ix) (h0 : I [] w)
    (Ax : List α → α → Act → World → Prop) (hAx : CalmB w.heap.size (fun (s : List α × α × Act) W => Ax s.1 s.2.1 s.2.2 W))
    (hassign : ∀ (l : Nat) (pre : List α) (x : α) (rest : List α) (W : World) (vs : Array Value) (K : Act → World → Prop), xs = pre ++ x :: rest → w.heap.size ≤ W.heap.size → I pre W → R x W vs →
      (∀ a' W', KeepsFrom w.heap.size W W' → Same keep W W' → Ax pre x a' W' → K a' W') →
      assign.wpIn (Fence.wide.inRound l) 7 P (Exit.then K (fun _ _ _ => False)) { tmps := (ps.zip vs).foldl (fun t (p, v) => t.setIfInBounds p v) a.tmps, defers := [] } W)
    (hbody : ∀ (l : Nat) (pre : List α) (x : α) (rest : List α) (a' : Act) (W : World), xs = pre ++ x :: rest → w.heap.size ≤ W.heap.size → Ax pre x a' W →
      body.wpIn (Fence.wide.inRound l) 7 P (post w.heap.size keep I Ix (pre ++ [x]) W) a' W)
    (hdone : ∀ (D : Nat) (W : World), w.heap.size ≤ D → I xs W → W.heap[D]? = some (.deferred (some [])) → Q .normal { a with defers := { target := .collected D, args := #[] } :: a.defers } W)
    (hstop : ∀ (D : Nat) (j : Code) (W : World), w.heap.size ≤ D → Ix j W → W.heap[D]? = some (.deferred (some [])) → j.wpIn Fence.wide 9 P Q { a with defers := { target := .collected D, args := #[] } :: a.defers } W) :
    (Code.rangeFunc g ps assign body).wpIn Fence.wide 9 P Q a w := by
  refine wpIn_rangeFunc ?_
  intro fn _
  obtain ⟨rec, hrec⟩ : ∃ rec : LoopState → Option Code → Loop, rec = fun st pe => { state := st, pending := pe, fn, tmps := a.tmps, params := ps, assign, body, defers := w.heap.size } := ⟨_, rfl⟩
  obtain ⟨W1, hW1⟩ : ∃ W1, (w.alloc (.deferred (some []))).alloc (.loop (rec .ready none)) = W1 := ⟨_, rfl⟩
  have hrun := run_enterLoop_outer (P := P) (w := w) fn a.tmps ps assign body
  rw [show ((w.alloc (.deferred (some []))).alloc (.loop { state := .ready, pending := none, fn, tmps := a.tmps, params := ps, assign, body, defers := w.heap.size })) = W1 by rw [← hW1, hrec]] at hrun
  have hL : W1.heap[w.heap.size + 1]? = some (.loop (rec .ready none)) := by
    have := World.alloc_heap_new (w.alloc (.deferred (some []))) (.loop (rec .ready none)); rw [World.size_alloc, hW1] at this; exact this
  have hD : W1.heap[w.heap.size]? = some (.deferred (some [])) := by
    rw [← hW1]; exact (Below.heap_alloc _ _ _ (by simp)).trans (World.alloc_heap_new w _)
  have hI1 : I [] W1 := by rw [← hW1]; exact hI.alloc _ (hI.alloc _ h0)
  have hB1 : Below w.heap.size w W1 := by rw [← hW1]; exact ((Below.refl _ w).alloc (Nat.le_refl _) _).alloc (by simp) _
  clear hW1 h0
  -- the two blocks of book-keeping lie on through whatever turns one block that is not they
  have far : ∀ {X Y : World} {k : Nat} {o : Obj}, X.grownBy Y (some c) → w.heap.size ≤ k → X.heap[k]? = some o → Y.heap[k]? = some o := fun hg' hk ho =>
    (hg'.block _ (Array.getElem?_eq_some_iff.1 ho).1 (fun e => by cases e; omega)).trans ho
  refine ⟨w.heap.size + 1, _, W1, { target := .fn (.func gf) lb, args := #[.func (.yield (w.heap.size + 1)) #[] #[]] }, W1, gf, #[.func (.yield (w.heap.size + 1)) #[] #[]] ++ lb, W1, hrun, ?_, fun _ _ => trivial, ?_, fun h => by simp [Fence.wide] at h, ?_⟩
  · simp only [resolve, hg]
    simp [go_sem]
  · simp [invoke, go_sem, eg]
  refine (hit (w.heap.size + 1)
    (fun pre W => (I pre W ∧ w.heap.size ≤ W.heap.size) ∧ W.heap[w.heap.size + 1]? = some (.loop (rec .ready none)) ∧ W.heap[w.heap.size]? = some (.deferred (some [])))
    (fun W => ∃ j, Ix j W ∧ W.heap[w.heap.size + 1]? = some (.loop (rec .done (some j))) ∧ W.heap[w.heap.size]? = some (.deferred (some [])))
    W1 hB1 (fun s X Y hs hg' => ⟨⟨hI s X Y c hs.1.1 hg' (.inl rfl), Nat.le_trans hs.1.2 hg'.size⟩, far hg' (by omega) hs.2.1, far hg' (Nat.le_refl _) hs.2.2⟩) ?_ ⟨⟨hI1, hB1.size⟩, hL, hD⟩).mono ?_
  · -- a round
    rintro pre x rest W vs hx ⟨⟨hi, hsz⟩, hl, hk⟩ hr0
    have hlt := (Array.getElem?_eq_some_iff.1 hl).1
    have hy := run_yield (P := P) (args := vs) hl (by rw [hrec]; exact hps x W vs hr0)
    rw [hrec] at hy
    refine ⟨fn, _, assign, body, hy, roundIn_of_wpIn trivial (hassign _ pre x rest W vs _ hx hsz hi hr0 ?_)⟩
    intro a' Wa hkf hsm hax
    replace hl := hkf.same _ _ (by omega) hl rfl
    replace hk := hkf.same _ _ (Nat.le_refl _) hk rfl
    replace hlt := (Array.getElem?_eq_some_iff.1 hl).1
    refine ⟨_, run_beginRound hl (by rw [hrec]), ?_⟩
    obtain ⟨Wb, hWb⟩ : ∃ Wb, Wa.putObj (w.heap.size + 1) (.loop { rec .ready none with state := .busy }) = Wb := ⟨_, rfl⟩
    have hlb : Wb.heap[w.heap.size + 1]? = some (.loop { rec .ready none with state := .busy }) := by rw [← hWb]; exact World.putObj_heap_same hlt
    have hkb : Wb.heap[w.heap.size]? = some (.deferred (some [])) := by rw [← hWb]; exact (World.putObj_heap_other (by omega)).trans hk
    have haxb : Ax pre x a' Wb := by rw [← hWb]; exact hAx.putObj (s := (pre, x, a')) _ hax (by omega) hl rfl
    have hszb : w.heap.size ≤ Wb.heap.size := by have := hkf.size; rw [← hWb]; simp only [World.putObj_size]; omega
    have hsmb : Same keep W Wb := hsm.trans (fun k hk' => by rw [← hWb]; exact World.putObj_heap_other (by have := hkeep k hk'; omega))
    rw [hWb]
    clear hWb
    refine wpIn_mono (hbody _ pre x rest a' Wb hx hszb haxb) ?_
    have fin : ∀ (jump : Option Code) (W3 : World), KeepsFrom w.heap.size Wb W3 → ∃ W4, (Instr.endRound (w.heap.size + 1) jump).run P W3 = .ok (.bool jump.isNone) W4 ∧ W4 = W3.putObj (w.heap.size + 1) (.loop (rec (if jump.isNone then .ready else .done) jump)) ∧
        W3.heap[w.heap.size + 1]? = some (.loop { rec .ready none with state := .busy }) ∧
        W4.heap[w.heap.size + 1]? = some (.loop (rec (if jump.isNone then .ready else .done) jump)) ∧ W4.heap[w.heap.size]? = some (.deferred (some [])) := fun jump W3 h3 => by
      have hl3 := h3.same _ _ (by omega) hlb rfl
      have hr3 := run_endRound (P := P) jump hl3
      have he : Obj.loop { ({ rec .ready none with state := .busy } : Loop) with state := if jump.isNone then .ready else .done, pending := jump } = .loop (rec (if jump.isNone then .ready else .done) jump) := by rw [hrec]
      rw [he] at hr3
      exact ⟨_, hr3, rfl, hl3, World.putObj_heap_same (Array.getElem?_eq_some_iff.1 hl3).1, (World.putObj_heap_other (by omega)).trans (h3.same _ _ (Nat.le_refl _) hkb rfl)⟩
    rintro e a3 W3 hp
    cases e with
    | normal =>
      obtain ⟨h3, hs3, hi3⟩ := hp
      obtain ⟨W4, hr, hW4, hl3, hl4, hk4⟩ := fin none W3 h3
      refine ⟨_, W4, hr, .inl ⟨rfl, ⟨⟨by rw [hW4]; exact hI.putObj _ hi3 (by omega) hl3 rfl, ?_⟩, hl4, hk4⟩, (hsmb.trans hs3).trans ?_⟩⟩
      · have := h3.size; rw [hW4]; simp only [World.putObj_size]; omega
      · intro k hk'; rw [hW4]; exact World.putObj_heap_other (by have := hkeep k hk'; omega)
    | ret =>
      obtain ⟨h3, hi3⟩ := hp
      obtain ⟨W4, hr, hW4, hl3, hl4, hk4⟩ := fin (some .ret) W3 h3
      exact ⟨_, W4, hr, .inr ⟨rfl, .ret, by rw [hW4]; exact hIx.putObj _ hi3 (by omega) hl3 rfl, hl4, hk4⟩⟩
    | exit id =>
      obtain ⟨h3, hi3⟩ := hp
      obtain ⟨W4, hr, hW4, hl3, hl4, hk4⟩ := fin (some (.exit id)) W3 h3
      exact ⟨_, W4, hr, .inr ⟨rfl, .exit id, by rw [hW4]; exact hIx.putObj _ hi3 (by omega) hl3 rfl, hl4, hk4⟩⟩
    | goto t =>
      obtain ⟨h3, hi3⟩ := hp
      obtain ⟨W4, hr, hW4, hl3, hl4, hk4⟩ := fin (some (.goto t)) W3 h3
      exact ⟨_, W4, hr, .inr ⟨rfl, .goto t, by rw [hW4]; exact hIx.putObj _ hi3 (by omega) hl3 rfl, hl4, hk4⟩⟩
    | panic ch => exact hp.elim
    | outgrown => exact hp.elim
  · -- behind the iterator
    rintro e W2 ⟨⟨v, rfl⟩, (⟨⟨hi, _⟩, hl, hk⟩ | ⟨j, hi, hl, hk⟩)⟩
    · have hend := run_endLoop (P := P) hl (by rw [hrec]; simp)
      rw [show (rec .ready none).pending = none by rw [hrec]] at hend
      exact ⟨none, _, hend, hdone _ _ (Nat.le_refl _) (hI.putObj _ hi (by omega) hl rfl) ((World.putObj_heap_other (by omega)).trans hk)⟩
    · have hend := run_endLoop (P := P) hl (by rw [hrec]; simp)
      rw [show (rec .done (some j)).pending = some j by rw [hrec]] at hend
      exact ⟨some j, _, hend, hstop _ j _ (Nat.le_refl _) (hIx.putObj _ hi (by omega) hl rfl) ((World.putObj_heap_other (by omega)).trans hk)⟩
end Go.Proofs.YtdmieaidheelbaaDoor.Rng
end
/- PickTurns -/
section
/- pick.turns: the iterator over entities and the pCPUs that they take, by its contract. -/
namespace Go.Proofs.YtdmieaidheelbaaDoor.Q
open Go Go.RowKit Go.Shelf Go.Proofs.YtdmieaidheelbaaDoor.Rng Go.Proofs.YtdmieaidheelbaaDoorW.PrintWords Go.Proofs.YtdmieaidheelbaaDoorW.PrintLast Go.Proofs.YtdmieaidheelbaaDoorW.PrintMore
set_option linter.unusedVariables false
set_option linter.unusedSimpArgs false

/-- a set without some pCPUs -/
def lessAll (free : Nat) (l : List Int) : Nat := l.foldl (fun f c => minus f (2 ^ c.toNat)) free
/-- the pCPUs that an entity takes; none: it waits -/
def atOf (w : List S36) (free : Nat) (x : Ent) : Option (List Int) := if (takesP free (wishesN w x.f0)).2 then some (takesP free (wishesN w x.f0)).1 else none
def pickTurns (w : List S36) : Nat → List Ent → List (Ent × Option (List Int))
  | _, [] => []
  | free, x :: l => (x, atOf w free x) :: pickTurns w (lessAll free ((atOf w free x).getD [])) l
theorem lessAll_lt (free : Nat) (hf : free < 256) (l : List Int) : lessAll free l < 256 := by
  induction l generalizing free with
  | nil => exact hf
  | cons c l ih => exact ih _ (minus_lt _ _ hf)
theorem lessAll_step (free : Nat) (l : List Int) (k : Nat) (hk : k < l.length) : lessAll free (l.take (k + 1)) = minus (lessAll free (l.take k)) (2 ^ (rd l k).toNat) := by
  unfold lessAll
  rw [List.take_succ_eq_append_getElem hk, List.foldl_append, rd_eq l k hk]
  rfl
theorem ents_drop (l : List Ent) (k : Nat) (hk : k < l.length) : l.drop k = rd_T90 l k :: l.drop (k + 1) := by
  rw [List.drop_eq_getElem_cons hk]
  have : rd_T90 l (k : Int) = l[k] := by simp [rd_T90, hk]
  rw [this]
theorem ent_mem (l : List Ent) (k : Nat) (hk : k < l.length) : rd_T90 l (k : Int) ∈ l := by
  have : rd_T90 l (k : Int) = l[k] := by simp [rd_T90, hk]
  rw [this]; exact List.getElem_mem hk
theorem nextOf_mem2 (s : Nat) (a : Int) (h : (nextOf s a).2 = true) : (nextOf s a).1 ∈ listOf s := by
  unfold nextOf at h ⊢
  cases hf : (listOf s).find? fun c => decide (a < c) with
  | none => rw [hf] at h; simp at h
  | some c => exact List.mem_of_find?_eq_some hf
theorem best_range (h s p : Nat) (a : Int) (hb : (bestN h s p a).2 = true) : hasN (allowsN h s p) (bestN h s p a).1 = true := by
  unfold bestN at hb ⊢
  cases hh : hasN (allowsN h s p) a with
  | true => simpa using hh
  | false =>
    rw [hh] at hb
    simp only [Bool.false_eq_true, if_false] at hb ⊢
    have h1 := nextOf_mem2 _ _ hb
    rw [mem_listOf] at h1
    unfold hasN
    simp only [Bool.and_eq_true, decide_eq_true_eq]
    exact ⟨⟨h1.1, h1.2.1⟩, likes_sub _ _ _ _ h1.2.2⟩
/-- what was matched was chosen from the rows -/
theorem sdr_mem (rows : List (List Int)) : ∀ taken f, Sdr rows taken f → f.length = rows.length ∧ ∀ i (h : i < f.length), f[i] ∈ rowAt rows i := by
  intro taken f h
  have h1 := (sdr_fun rows taken f h).1
  have hl : f.length = rows.length := by
    clear h1
    induction rows generalizing taken f with
    | nil => simp [show f = [] from h]
    | cons row rest ih =>
      obtain ⟨c, g, rfl, _, _, hg⟩ := h
      simp [ih _ _ hg]
  exact ⟨hl, fun i hi => by have := (h1 i (by omega)).1; simpa [List.getD_eq_getElem?_getD, hi] using this⟩
theorem at_range (w : List S36) (free : Nat) (x : Ent) (hw : (wishesN w x.f0).length = x.f0.length) (m : List Int) (h : atOf w free x = some m) (hx : 0 < x.f0.length) :
    m.length = x.f0.length ∧ ∀ c ∈ m, 0 ≤ c ∧ c < 8 := by
  unfold atOf at h
  split at h
  case isFalse => cases h
  case isTrue ht =>
  obtain rfl := Option.some.inj h
  unfold takesP at ht ⊢
  by_cases h1 : 1 < (wishesN w x.f0).length
  · rw [if_pos h1] at ht ⊢
    unfold matchP at ht ⊢
    cases hq : matchFrom ((wishesN w x.f0).map (choicesN free)) [] with
    | none => rw [hq] at ht; cases ht
    | some m =>
      obtain ⟨f, rfl, hf⟩ := match_sdr _ _ _ hq
      obtain ⟨hl, hm⟩ := sdr_mem _ _ _ hf
      simp only [List.nil_append]
      refine ⟨by rw [hl, List.length_map, hw], fun c hc => ?_⟩
      obtain ⟨i, hi, rfl⟩ := List.mem_iff_getElem.1 hc
      have := hm i hi
      unfold rowAt at this
      rw [List.getD_eq_getElem?_getD, List.getElem?_map] at this
      rw [hl, List.length_map] at hi
      rw [List.getElem?_eq_getElem hi] at this
      exact (choice_ok free _).2 _ this
  · rw [if_neg h1] at ht ⊢
    match hws : wishesN w x.f0, hw, h1 with
    | [], hw, _ => simp at hw; omega
    | [y], hw, _ =>
      rw [hws] at ht
      simp only at ht ⊢
      have hb := best_range _ _ _ _ ht
      unfold hasN at hb
      simp only [Bool.and_eq_true, decide_eq_true_eq] at hb
      refine ⟨by simpa using hw, fun c hc => ?_⟩
      have hc' := mem_one hc
      rw [hc']; exact hb.1
    | _ :: _ :: _, _, h1 => simp at h1

theorem heap36 : Kd.Heap k36 := Kd.heap_iso _ (Kd.heap_pair (Kd.heap_int _) (Kd.heap_pair (Kd.heap_int _) (Kd.heap_iso _ (Kd.heap_pair (Kd.heap_int _) (Kd.heap_int _)))))
/-- what lay in w0 lies as it did -/
def Stays (w0 W : World) : Prop := ∀ k, k < w0.heap.size → W.heap[k]? = w0.heap[k]?
theorem Stays.step {w0 W W' : World} (h : Stays w0 W) (hs : w0.heap.size ≤ W.heap.size) (hb : Below W.heap.size W W') : Stays w0 W' := fun k hk => (hb.block k (by omega)).trans (h k hk)
/-- numbers in a row of the call's own -/
theorem own_of_R {W : World} {base : Nat} {ok : Nat → Prop} {v : Value} {xs : List Int} (h : Kd.R (Kd.int .i64) 3 W base ok v xs) : W.ownsRow base 3 1 v xs.length (xs.map (Value.int .i64)) := by
  obtain ⟨_, inner, ho, hr⟩ := h
  have : inner = xs.map (Value.int .i64) := by
    have hl : inner.length = xs.length := by have := hr.1; simpa [Kd.int, Kd.scalar] using this
    refine List.ext_getElem (by simpa using hl) (fun j h1 h2 => ?_)
    have hj : j < xs.length := by omega
    have h3 : (inner.drop (j * 1)).take 1 = [Value.int .i64 xs[j]] := hr.2 j xs[j] (List.getElem?_eq_getElem hj)
    rw [Nat.mul_one] at h3
    have h4 := congrArg (fun l => l[0]?) h3
    simp [h1] at h4
    simp [h4]
  rw [← this]; exact ho
/-- what is handed on: the entity's cells, and the row of what it takes -/
def Turn (w00 : World) (p : Ent × Option (List Int)) (W : World) (vs : Array Value) : Prop :=
  ∃ Am cm v, vs = #[.agg #[.slice Am p.1.f0.length cm, .int .u64 p.1.f1.f0.f0, .int .u64 p.1.f1.f0.f1, .int .u64 p.1.f1.f1, .int .u64 p.1.f2, .bool p.1.f3], v] ∧ p.1.f0.length ≤ cm ∧
    (Kd.int .i64).C w00 Am p.1.f0.length p.1.f0 ∧ W.ownsRow w00.heap.size 3 1 v (p.2.getD []).length ((p.2.getD []).map (Value.int .i64)) ∧
    (match p.2 with | none => v = .slice none 0 0 | some m => ∃ A n c, v = .slice (some A) n c)

set_option maxHeartbeats 1000000 in
theorem pturns_calls (A : Option Addr) (n c : Nat) (A1 : Option Addr) (n1 c1 : Nat) (free : Int) (w : World) : Calls Tryd.prog 61 #[.slice A n c, .slice A1 n1 c1, .int .u32 free] w fun e w' =>
    e = .returned (.func (.func 90) #[] #[.pointer (some ⟨w.heap.size, 0, none⟩), .pointer (some ⟨w.heap.size + 1, 0, none⟩), .pointer (some ⟨w.heap.size + 1 + 1, 0, none⟩)]) ∧
    w' = ((w.alloc (.cells #[.slice A n c] 39)).alloc (.cells #[.slice A1 n1 c1] 22)).alloc (.cells #[.int .u32 free] 24) := by
  go_enter Tryd.func61, Tryd.ntmps61
  go_wp2
  go_ret
  exact ⟨rfl, rfl⟩

set_option maxRecDepth 100000 in
set_option maxHeartbeats 8000000 in
theorem pturns1_iter (bl : Nat) (w00 : World) (A : Option Addr) (cap : Nat) (l : List Ent) (A1 : Option Addr) (cap1 : Nat) (ws : List S36) (free : Nat) (hf : free < 256) (hsh : Shape l ws) (hlen : l.length ≤ 1000000) (hwlen : ws.length ≤ 1000000) (hwf : ∀ x ∈ ws, Wf36 x) (w0 : World)
    (hr0 : Kd.C k90 w00 A l.length l) (hc0 : l.length ≤ cap) (hr1 : Kd.C k36 w00 A1 ws.length ws) (hc1 : ws.length ≤ cap1) (hst : Stays w00 w0)
    (hbl : Boxed w0 bl 39 (.slice A l.length cap)) (hbw : Boxed w0 (bl + 1) 22 (.slice A1 ws.length cap1)) (hbf : Boxed w0 (bl + 1 + 1) 24 (.int .u32 free)) (hT : TabW w00) (hn0 : w00.heap.size ≤ bl) :
    IterR Tryd.prog 90 #[.pointer (some ⟨bl, 0, none⟩), .pointer (some ⟨bl + 1, 0, none⟩), .pointer (some ⟨bl + 1 + 1, 0, none⟩)] (Turn w00) (bl + 1 + 1) (fun k => k = bl ∨ k = bl + 1 ∨ k = bl + 1 + 1 ∨ k < w00.heap.size) (pickTurns ws free l) w0 := by
  intro lp J Jx W hBW hJ hY h0
  have HY := Aside0.mk hY
  have HJ := Aside0.mk hJ
  have HWF := Aside0.mk hwf
  have HR0 := Aside0.mk hr0
  have HR1 := Aside0.mk hr1
  have HSH := Aside0.mk hsh
  have HC0 := Aside0.mk hc0
  have HC1 := Aside0.mk hc1
  have HTT := Aside0.mk hT
  have hlt0 := hbf.lt
  have HBL := Aside0.mk (show Boxed W bl 39 (.slice A l.length cap) from (hBW.block bl hbl.lt).trans hbl)
  have HBW := Aside0.mk (show Boxed W (bl + 1) 22 (.slice A1 ws.length cap1) from (hBW.block _ hbw.lt).trans hbw)
  have HBF := Aside0.mk (show Boxed W (bl + 1 + 1) 24 (.int .u32 free) from (hBW.block _ hbf.lt).trans hbf)
  have HST := Aside0.mk (show Stays w00 W from fun k hk => (hBW.block k (by omega)).trans (hst k hk))
  have H0 := Aside0.mk h0
  have HN := Aside0.mk hn0
  clear hY hJ hwf hbl hbw hbf hT hst hBW h0 hr0 hr1 hsh hc0 hc1 hlt0 hn0
  have hu90 := Tryd.underlying90
  have hcl := HBL.out.cell
  refine callsIn_of_wp Tryd.func90 rfl trivial ?_ rfl
  simp only [Tryd.ntmps90, List.size_toArray, List.length_cons, List.length_nil, Nat.reduceAdd, Nat.reduceSub, Array.replicate_succ, Array.replicate_zero, List.push_toArray, List.append_toArray, List.nil_append, List.cons_append]
  gi_wp2
  gi_loopw [13] (fun i wr => ∃ (k fr : Nat) (pre : List (Ent × Option (List Int))), k ≤ l.length ∧ i = .int .i64 k ∧ fr < 256 ∧ Aside0 (pickTurns ws free l = pre ++ pickTurns ws fr (l.drop k)) ∧ Aside0 (Boxed wr bl 39 (.slice A l.length cap)) ∧ Aside0 (Boxed wr (bl + 1) 22 (.slice A1 ws.length cap1)) ∧ Aside0 (Boxed wr (bl + 1 + 1) 24 (.int .u32 fr)) ∧ Aside0 (Stays w00 wr) ∧ Aside0 (J pre wr))
    (fun i _ => l.length - (intOf i).toNat)
  case atStart => exact ⟨0, free, [], Nat.zero_le _, rfl, hf, ⟨rfl⟩, HBL, HBW, HBF, HST, H0⟩
  case round =>
    obtain ⟨k, fr, pre, hk, rfl, hfr, HPRE, HBL1, HBW1, HBF1, HST1, HJ1⟩ := hrel
    clear hcl HBL HBW HBF HST H0 hf
    by_cases hlt : k < l.length
    case neg =>
      have hge : l.length ≤ k := by omega
      clear hlt
      have hJ' := HJ1.out
      have hp := HPRE.out
      rw [List.drop_eq_nil_of_le hge] at hp
      simp only [pickTurns, List.append_nil] at hp
      rw [← hp] at hJ'
      have HJ2 := Aside0.mk hJ'
      clear hJ' hp
      gi_wp2
      go_end0
      exact ⟨⟨_, rfl⟩, .inl HJ2.out⟩
    case pos =>
    obtain ⟨ad, Am, cm, rfl, hx0, hx1, hx2, hx3, hx4, hx5, hcm, hCm⟩ := at_T90 HR0.out (k : Int) (by omega) (by omega)
    rw [Int.toNat_natCast] at hx0 hx1 hx2 hx3 hx4 hx5
    have stay : ∀ {a : Addr} {v : Value}, w00.cell? a = some v → wr.cell? a = some v := fun {a v} h => (World.cell?_of_block (w := w00) (HST1.out a.block (World.block_lt_of_cell? w00 a h))).trans h
    replace hx0 := stay hx0
    replace hx1 := stay hx1
    replace hx2 := stay hx2
    replace hx3 := stay hx3
    replace hx4 := stay hx4
    replace hx5 := stay hx5
    have hpre := HPRE.out
    rw [ents_drop l k hlt, pickTurns] at hpre
    have hmem := ent_mem l k hlt
    generalize rd_T90 l (k : Int) = x at *
    have hwl := HSH.out.wishes_len x hmem
    have hml := HSH.out.len x hmem
    have hrange := at_range ws fr x hwl
    have hwx : ∀ y ∈ wishesN ws x.f0, Wf34 y.f2 := fun y hy => HWF.out y (List.mem_filter.1 hy).1
    obtain ⟨K1, hK1⟩ := takes_val (wishesN ws x.f0) fr (by omega) hwx (by omega) (by omega)
    have hwv := wishes_val ws x.f0 hwlen (by omega) (K1 + ws.length + x.f0.length + 1) (by omega)
    have htv := hK1 K1 (Nat.le_refl _)
    have hat : atOf ws fr x = if (takesP fr (wishesN ws x.f0)).2 then some (takesP fr (wishesN ws x.f0)).1 else none := rfl
    clear hK1 hwl hwx stay
    generalize wishesN ws x.f0 = wx at *
    generalize takesP fr wx = tk at *
    obtain ⟨m, there⟩ := tk
    simp only at hat
    obtain ⟨ms, ⟨⟨t1, t2⟩, t3⟩, t4, t5⟩ := x
    simp only at hx0 hx1 hx2 hx3 hx4 hx5 hcm hCm hml hwv
    have HWV := Aside0.mk hwv
    have HTV := Aside0.mk htv
    have HPR := Aside0.mk hpre
    have HAT := Aside0.mk hat
    have HRG := Aside0.mk hrange
    have HCM := Aside0.mk hCm
    clear hwv htv hpre hat hrange hCm HPRE hmem
    have hlf := HBF1.out.lt
    have HSZ := Aside0.mk (And.intro hlf (Nat.le_trans HN.out (show bl ≤ wr.heap.size by omega)))
    clear hlf
    gi_wp2
    have HBE := Aside0.mk ((Below.refl _ wr).alloc (Nat.le_refl _) (.cells #[.slice Am ms.length cm, .int .u64 t1, .int .u64 t2, .int .u64 t3, .int .u64 t4, .bool t5] 90))
    have HX := Aside0.mk (heap_alloc_new wr (.cells #[.slice Am ms.length cm, .int .u64 t1, .int .u64 t2, .int .u64 t3, .int .u64 t4, .bool t5] 90))
    clear hx0 hx1 hx2 hx3 hx4 hx5
    generalize hw1 : wr.alloc (.cells #[.slice Am ms.length cm, .int .u64 t1, .int .u64 t2, .int .u64 t3, .int .u64 t4, .bool t5] 90) = w1 at *
    have hs1 : w1.heap.size = wr.heap.size + 1 := by rw [← hw1]; simp
    clear hw1
    have cw := (show Boxed w1 (bl + 1) 22 (.slice A1 ws.length cap1) from (HBE.out.block _ HBW1.out.lt).trans HBW1.out).cell
    have cf := (show Boxed w1 (bl + 1 + 1) 24 (.int .u32 fr) from (HBE.out.block _ HBF1.out.lt).trans HBF1.out).cell
    have cx := blk_cell HX.out 0
    simp only [List.getElem?_toArray, List.getElem?_cons_zero] at cx
    have HS1 := Aside0.mk (HST1.out.step HSZ.out.2 HBE.out)
    have HT1 := Aside0.mk (HTT.out.same (HS1.out 0 HTT.out.pos))
    have HSZ1 := Aside0.mk hs1
    clear hs1
    refine wpIn_wide.2 ?_
    go_region_held3 (fun W => W.cell? ⟨bl + 1, 0, none⟩ = some (.slice A1 ws.length cap1) ∧ W.cell? ⟨wr.heap.size, 0, none⟩ = some (.slice Am ms.length cm) ∧ W.cell? ⟨bl + 1 + 1, 0, none⟩ = some (.int .u32 fr))
      (first | exact ⟨cw, cx, cf⟩ | exact ⟨kw, kx, kf⟩ | exact ⟨qw, qx, qf⟩ | go_keep)
      (first
        | (go_at_call 67; refine (pick_wishes.calls (K1 + ws.length + ms.length + 1) A1 cap1 ws Am cm ms wx _ ?_ HC1.out ?_ hcm HWV.out).mono ?_; exact heap36.C (fun k hk => HS1.out k hk) HR1.out; exact (Kd.heap_int _).C (fun k hk => HS1.out k hk) HCM.out; rintro e w2 ⟨v2, rfl, hR2, hb2⟩; have kw := pw_cell_below hb2 (show (w1.drew).cell? _ = _ from cw); have kx := pw_cell_below hb2 (show (w1.drew).cell? _ = _ from cx); have kf := pw_cell_below hb2 (show (w1.drew).cell? _ = _ from cf); obtain ⟨A2, c2, rfl, hc2, hC2⟩ := Kd.R_reads hR2; have HB2 := Aside0.mk (show Below w1.heap.size w1 w2 from ⟨hb2.os, hb2.tape, hb2.output, hb2.size, hb2.block⟩); have HC2 := Aside0.mk hC2; have HCC2 := Aside0.mk hc2; clear hb2 hR2 hC2 hc2)
        | (go_at_call 91; refine (pick_takes.calls K1 A2 c2 wx fr m there _ HC2.out HCC2.out (HT1.out.step HB2.out) HTV.out).mono ?_; rintro e w3 ⟨v3, rfl, hR3, hb3⟩; have qw := pw_cell_below hb3 kw; have qx := pw_cell_below hb3 kx; have qf := pw_cell_below hb3 kf; have HB3 := Aside0.mk (below_step HB2.out hb3); have HR3 := Aside0.mk (own_of_R (Kd.R_lower hR3 (show w00.heap.size ≤ w2.heap.size by have := HB2.out.size; have := HSZ.out.2; have := HSZ1.out; omega))); clear hb3 hR3))
    have hn3 : w1.heap.size ≤ w3.heap.size := HB3.out.size
    have HX3 := Aside0.mk ((HB3.out.block _ (by have := HSZ1.out; omega)).trans HX.out)
    have HBL3 := Aside0.mk (show Boxed w3 bl 39 (.slice (some ad) l.length cap) from (HB3.out.block _ (by have := HSZ1.out; have := HSZ.out.1; omega)).trans ((HBE.out.block _ (by have := HSZ.out.1; omega)).trans HBL1.out))
    have HBW3 := Aside0.mk (show Boxed w3 (bl + 1) 22 (.slice A1 ws.length cap1) from (HB3.out.block _ (by have := HSZ1.out; have := HSZ.out.1; omega)).trans ((HBE.out.block _ (by have := HSZ.out.1; omega)).trans HBW1.out))
    have HBF3 := Aside0.mk (show Boxed w3 (bl + 1 + 1) 24 (.int .u32 fr) from (HB3.out.block _ (by have := HSZ1.out; have := HSZ.out.1; omega)).trans ((HBE.out.block _ (by have := HSZ.out.1; omega)).trans HBF1.out))
    have HST3 := Aside0.mk (show Stays w00 w3 from HS1.out.step (by have := HSZ1.out; have := HSZ.out.2; omega) HB3.out)
    have HG3 := Aside0.mk (show wr.grownBy w3 (some (bl + 1 + 1)) from gb_trans (gb_of_below HBE.out _) (gb_of_below HB3.out none) (fun j e => by cases e))
    have HSZ3 := Aside0.mk (show bl + 1 + 1 < wr.heap.size ∧ wr.heap.size < w3.heap.size ∧ w00.heap.size ≤ bl by have := HSZ1.out; have := HSZ.out.1; have := HN.out; omega)
    clear HBE HX HS1 HT1 HSZ1 cw cf cx kw kx kf qw qx qf HB2 HB3 HC2 HCC2 HWV HTV hn3 HBL1 HBW1 HBF1 HST1
    cases there with
    | false =>
      have hat : atOf ws fr ⟨ms, ⟨⟨t1, t2⟩, t3⟩, t4, t5⟩ = none := HAT.out
      have HJ4 := Aside0.mk (HJ.out pre wr w3 HJ1.out HG3.out)
      have hp1 := HPR.out
      rw [hat] at hp1
      have HP1 := Aside0.mk hp1
      have HTN : Aside0 (Turn w00 (⟨ms, ⟨⟨t1, t2⟩, t3⟩, t4, t5⟩, none) w3 #[.agg #[.slice Am ms.length cm, .int .u64 t1, .int .u64 t2, .int .u64 t3, .int .u64 t4, .bool t5], .slice none 0 0]) :=
        ⟨⟨Am, cm, _, rfl, hcm, HCM.out, World.ownsRow_nil _ _ _ _, rfl⟩⟩
      clear hat hp1 HR3 HAT HRG HPR HJ1 HCM
      gi_wp2
      gi_loopw [30] (fun i wi => i = .int .i64 0 ∧ wi = w3) (fun _ _ => 0)
      case atStart => exact ⟨rfl, rfl⟩
      case round =>
        obtain ⟨rfl, rfl⟩ := hrel
        have kk0 := blk_cell HX3.out 0
        have kk1 := blk_cell HX3.out 1
        have kk2 := blk_cell HX3.out 2
        have kk3 := blk_cell HX3.out 3
        have kk4 := blk_cell HX3.out 4
        have kk5 := blk_cell HX3.out 5
        simp only [List.getElem?_toArray, List.getElem?_cons_zero, List.getElem?_cons_succ] at kk0 kk1 kk2 kk3 kk4 kk5
        gi_wp2
        obtain ⟨fn, tmps, assign, body, hy, hR⟩ := HY.out pre _ _ _ _ HP1.out HJ4.out HTN.out
        clear kk0 kk1 kk2 kk3 kk4 kk5
        rw [hy]
        refine ⟨fun h => (by simp [Fence.wide] at h), RoundIn.mono hR ?_⟩
        rintro e W5 (⟨rfl, hJ5, hk5⟩ | ⟨rfl, hJx5⟩)
        · have HR5 := Aside0.mk (And.intro hJ5 hk5)
          clear hJ5 hk5
          gi_wp2
          go_roundw
          case rel =>
            have hk5 := HR5.out.2
            exact ⟨k + 1, fr, _, by omega, by go_num, hfr, ⟨by rw [HP1.out, List.append_assoc]; rfl⟩, ⟨(hk5 bl (.inl rfl)).trans HBL3.out⟩, ⟨(hk5 _ (.inr (.inl rfl))).trans HBW3.out⟩, ⟨(hk5 _ (.inr (.inr (.inl rfl)))).trans HBF3.out⟩,
              ⟨fun j hj => (hk5 j (.inr (.inr (.inr hj)))).trans (HST3.out j hj)⟩, ⟨HR5.out.1⟩⟩
          case measure => simp [intOf]; omega
        · gi_wp2
          refine bodyPost_ret (results_none rfl _ _ _) rfl ?_
          exact ⟨⟨_, rfl⟩, .inr hJx5⟩
    | true =>
      have hat : atOf ws fr ⟨ms, ⟨⟨t1, t2⟩, t3⟩, t4, t5⟩ = some m := HAT.out
      obtain ⟨hml2, hmr⟩ := HRG.out m hat (by omega)
      have hp1 := HPR.out
      rw [hat] at hp1
      have HP1 := Aside0.mk hp1
      have HMR := Aside0.mk hmr
      obtain ⟨g, cap3, rfl, _, _⟩ := HR3.out.form (by omega)
      have hgg : g ≠ bl + 1 + 1 := fun e => (HBF3.out.not_row (by decide) HR3.out) (by rw [← e]; rfl)
      have HGG := Aside0.mk hgg
      have HML2 := Aside0.mk hml2
      have hm8 : m.length ≤ 8 := by omega
      clear hml2 hat hp1 hmr HAT HRG HPR hgg
      have HRW := HR3
      have HBB := HBF3
      have cB := HBB.out.cell
      clear HR3 HBF3 cB
      gi_wp2
      gi_loopw [30] (fun i wi => ∃ j : Nat, j ≤ m.length ∧ i = .int .i64 j ∧ Aside0 (Boxed wi (bl + 1 + 1) 24 (.int .u32 (lessAll fr (m.take j) : Nat))) ∧ Aside0 (wi.ownsRow w00.heap.size 3 1 (.slice (some ⟨g, 0, none⟩) m.length cap3) m.length (m.map (Value.int .i64))) ∧ Aside0 (w3.grownBy wi (some (bl + 1 + 1))))
        (fun i _ => m.length - (intOf i).toNat)
      case atStart => exact ⟨0, Nat.zero_le _, rfl, HBB, HRW, ⟨gb_refl _ _⟩⟩
      case round =>
        obtain ⟨j, hj, rfl, HB4, HR4, HG4⟩ := hrel
        by_cases hjl : j < m.length
        case neg =>
          obtain rfl : j = m.length := by omega
          have hB4 := HB4.out
          rw [List.take_length] at hB4
          have HB5 := Aside0.mk hB4
          have HX4 := Aside0.mk ((HG4.out.block _ (by have := HSZ3.out; omega) (fun e => by injection e; have := HSZ3.out; omega)).trans HX3.out)
          have kk0 := blk_cell HX4.out 0
          have kk1 := blk_cell HX4.out 1
          have kk2 := blk_cell HX4.out 2
          have kk3 := blk_cell HX4.out 3
          have kk4 := blk_cell HX4.out 4
          have kk5 := blk_cell HX4.out 5
          simp only [List.getElem?_toArray, List.getElem?_cons_zero, List.getElem?_cons_succ] at kk0 kk1 kk2 kk3 kk4 kk5
          have HSM := Aside0.mk (fun j (hj : j = bl ∨ j = bl + 1 ∨ j < w00.heap.size) => HG4.out.block j (by have := HSZ3.out; omega) (fun e => by injection e; have := HSZ3.out; omega))
          have HJ4 := Aside0.mk (HJ.out pre _ _ HJ1.out (gb_trans HG3.out HG4.out (fun j e => .inl (by cases e; rfl))))
          have HTN : Aside0 (Turn w00 (⟨ms, ⟨⟨t1, t2⟩, t3⟩, t4, t5⟩, some m) wr #[.agg #[.slice Am ms.length cm, .int .u64 t1, .int .u64 t2, .int .u64 t3, .int .u64 t4, .bool t5], .slice (some ⟨g, 0, none⟩) m.length cap3]) :=
            ⟨⟨Am, cm, _, rfl, hcm, HCM.out, HR4.out, _, _, _, rfl⟩⟩
          clear hB4 hjl HB4 HR4 HMR
          gi_wp2
          obtain ⟨fn, tmps, assign, body, hy, hR⟩ := HY.out pre _ _ _ _ HP1.out HJ4.out HTN.out
          clear kk0 kk1 kk2 kk3 kk4 kk5
          rw [hy]
          refine ⟨fun h => (by simp [Fence.wide] at h), RoundIn.mono hR ?_⟩
          rintro e W5 (⟨rfl, hJ5, hk5⟩ | ⟨rfl, hJx5⟩)
          · have HR5 := Aside0.mk (And.intro hJ5 hk5)
            clear hJ5 hk5
            gi_wp2
            go_roundw
            case rel =>
              have hk5 := HR5.out.2
              exact ⟨k + 1, lessAll fr m, _, by omega, by go_num, lessAll_lt fr hfr m, ⟨by rw [HP1.out, List.append_assoc]; rfl⟩, ⟨(hk5 bl (.inl rfl)).trans ((HSM.out _ (.inl rfl)).trans HBL3.out)⟩, ⟨(hk5 _ (.inr (.inl rfl))).trans ((HSM.out _ (.inr (.inl rfl))).trans HBW3.out)⟩, ⟨(hk5 _ (.inr (.inr (.inl rfl)))).trans HB5.out⟩,
                ⟨fun j hj => (hk5 j (.inr (.inr (.inr hj)))).trans ((HSM.out j (.inr (.inr hj))).trans (HST3.out j hj))⟩, ⟨HR5.out.1⟩⟩
            case measure => simp [intOf]; omega
          · gi_wp2
            refine bodyPost_ret (results_none rfl _ _ _) rfl ?_
            exact ⟨⟨_, rfl⟩, .inr hJx5⟩
        case pos =>
          have hcell := HR4.out.cellAt j (by omega)
          rw [List.getElem?_map, List.getElem?_eq_getElem hjl] at hcell
          simp only [Option.map_some] at hcell
          have hcr := HMR.out _ (List.getElem_mem hjl)
          have hls := lessAll_step fr m j hjl
          rw [rd_eq m j hjl] at hls
          have HLS := Aside0.mk hls
          have hfl := lessAll_lt fr hfr (m.take j)
          generalize m[j] = c at *
          obtain ⟨hc0, hc8⟩ := hcr
          obtain ⟨d, rfl⟩ : ∃ d : Nat, c = d := ⟨c.toNat, by omega⟩
          have hd8 : d < 8 := by omega
          have hd0 : (0 : Int) ≤ d := by omega
          have hcf := HB4.out.cell
          have hff := HB4.out.frozen
          generalize hfe : lessAll fr (m.take j) = fq at *
          have HFE := Aside0.mk hfe
          clear hls hfe hc0 hc8
          gi_wp2
          gi_region
          all_goals gi_wp2
          have hpw : (2 : Int) ^ d % 4294967296 = ((2 ^ d : Nat) : Int) := by
            have h2 := pow_lt256 d hd8
            rw [show (2 : Int) ^ d = ((2 ^ d : Nat) : Int) by simp]
            generalize 2 ^ d = q at h2 ⊢
            omega
          have e1 : bits BinOp.andNot IntKind.u32 (fq : Int) ((2 : Int) ^ d % 4294967296) = ((minus fq (2 ^ d) : Nat) : Int) := by
            rw [hpw]; exact andNot_byte fq (2 ^ d) hfl (pow_lt256 d hd8)
          rw [e1]
          have hg2 : wr.grownBy (wr.setCell ⟨bl + 1 + 1, 0, none⟩ (.int .u32 ((minus fq (2 ^ d) : Nat) : Int))).drew (some (bl + 1 + 1)) :=
            ⟨rfl, rfl, rfl, (grownBy_setCell' wr (bl + 1 + 1) _).size, fun j hj hne => (grownBy_setCell' wr (bl + 1 + 1) (.int .u32 ((minus fq (2 ^ d) : Nat) : Int))).block j hj hne⟩
          have hbf3 : Boxed (wr.setCell ⟨bl + 1 + 1, 0, none⟩ (.int .u32 ((minus fq (2 ^ d) : Nat) : Int))).drew (bl + 1 + 1) 24 (.int .u32 ((minus fq (2 ^ d) : Nat) : Int)) := HB4.out.set _
          clear hcell hcf hff
          go_roundw
          case rel =>
            refine ⟨j + 1, by omega, by go_num, ⟨?_⟩, ⟨HR4.out.kept hg2 (.inr (by simpa [Value.ownBlock] using HGG.out))⟩, ⟨gb_trans HG4.out hg2 (fun j e => .inl (by cases e; rfl))⟩⟩
            rw [HLS.out, Int.toNat_natCast]; exact hbf3
          case measure => simp [intOf]; omega
end Go.Proofs.YtdmieaidheelbaaDoor.Q
end
/- QFpickasked -/
section
-- Written by a program of this session (hprint.py), which drives the kit's print over hand-proved contracts. Lean checks it.
namespace Go.Proofs.YtdmieaidheelbaaDoor.Q
open Go.RowKit Go.Proofs.YtdmieaidheelbaaDoorW.PrintWords Go.Proofs.YtdmieaidheelbaaDoorW.PrintLast Go.Proofs.YtdmieaidheelbaaDoorW.PrintMore
attribute [local go_sem] max2_int min2_int max_two min_two max_three min_three max_four min_four   -- for this text's walks alone
set_option linter.unusedVariables false
set_option linter.unusedSimpArgs false

/-! ### pick_asked: function 60 -/
def pick_asked.f (l0 : List (S90)) (l1 : List (S36)) (a2 : Int) : Option (Int) := (pick_Check.f l0 l1).bind fun t319 => (if t319 = 0 then ((cpuset_Check.f a2).bind fun t320 => (some t320)) else (some t319))
set_option maxHeartbeats 8000000 in
set_option maxRecDepth 100000 in
theorem pick_asked.calls (A0 : Option Addr) (c0 : Nat) (l0 : List (S90)) (A1 : Option Addr) (c1 : Nat) (l1 : List (S36)) (a2 : Int) (r : Int) (w : World) (hr0 : Kd.C k90 w A0 l0.length l0) (hc0 : l0.length ≤ c0) (hr1 : Kd.C k36 w A1 l1.length l1) (hc1 : l1.length ≤ c1) (h : pick_asked.f l0 l1 a2 = some r) :
    Calls Tryd.prog 60 #[.slice A0 l0.length c0, .slice A1 l1.length c1, .int .u32 a2] w fun e w' => e = .returned (.int .i64 r) ∧ Below w.heap.size w w' := by
  have HR0 := Aside0.mk hr0
  have HC0 := Aside0.mk hc0
  clear hr0 hc0
  have HR1 := Aside0.mk hr1
  have HC1 := Aside0.mk hc1
  clear hr1 hc1
  have HB := Aside0.mk (Below.refl w.heap.size w)
  have H : ((pick_Check.f l0 l1).bind fun t319 => (if t319 = 0 then ((cpuset_Check.f a2).bind fun t320 => (some t320)) else (some t319))) = some r := h
  clear h
  replace H := Option.bind_eq_some_iff.mp H
  obtain ⟨t319, A40, H⟩ := H
  replace H : (if t319 = 0 then ((cpuset_Check.f a2).bind fun t320 => (some t320)) else (some t319)) = some r := H
  have A4 := Aside0.mk A40
  clear A40
  by_cases c5 : t319 = 0
  · rw [if_pos c5] at H
    have c5b0 : (t319 == 0) = true := beq_iff_eq.mpr c5
    have c5b1 : (t319 != 0) = false := bne_eq_false_iff_eq.mpr c5
    clear c5
    replace H := Option.bind_eq_some_iff.mp H
    obtain ⟨t320, A60, H⟩ := H
    replace H : (some t320) = some r := H
    have A6 := Aside0.mk A60
    clear A60
    obtain rfl := Option.some.inj H
    go_enter Tryd.func60, Tryd.ntmps60
    go_wp2_with (first | ((with_reducible refine gate_callee (f := 48) rfl ?_); refine goesL_ (some 10) rfl rfl Tryd.func48 (by kernel_rfl) rfl #[.slice A0 l0.length c0, .slice A1 l1.length c1] rfl (by (try simp only [List.map_toArray, List.map_cons, List.map_nil]); first | done | rfl | (simp only [List.length_drop, List.length_take]; rfl)) ?_; (with_reducible refine (pick_Check.calls _ _ l0 _ _ l1 t319 _ ?side1 ?side2 ?side3 ?side4 A4.out).mono ?_); (case side1 => repeat (first | exact HR0.out | (with_reducible refine Kd.C_alloc ?_ _) | (with_reducible refine Kd.C_drewN ?_ _) | (with_reducible refine Kd.C_drew ?_))); (case side2 => exact HC0.out); (case side3 => repeat (first | exact HR1.out | (with_reducible refine Kd.C_alloc ?_ _) | (with_reducible refine Kd.C_drewN ?_ _) | (with_reducible refine Kd.C_drew ?_))); (case side4 => exact HC1.out); rintro e w7 ⟨rfl, hb⟩; refine ⟨_, rfl, ?_⟩; have n0_ := Aside0.mk (below_step (by repeat (first | (with_reducible first | exact HB.out | apply below_alloc | apply pw_below_drewN | apply below_drew1) | exact HB.out)) hb); clear HB; have HB := n0_; clear n0_; (try clear hb); (try clear hb2); (try clear hk); (try clear hi)) | ((with_reducible refine gate_callee (f := 64) rfl ?_); refine goesL_ (some 15) rfl rfl Tryd.func64 (by kernel_rfl) rfl #[.int .u32 a2] rfl (by (try simp only [List.map_toArray, List.map_cons, List.map_nil]); first | done | rfl | (simp only [List.length_drop, List.length_take]; rfl)) ?_; (with_reducible refine (cpuset_Check.calls a2 t320 _ A6.out).mono ?_); rintro e w' ⟨rfl, ⟨nd, rfl⟩⟩; refine ⟨_, rfl, ?_⟩))
    go_ret
    exact ⟨by first | rfl | (simp [errW_none, errW_some] <;> rfl) | (simp [*, errW_none, errW_some] <;> rfl), by repeat (first | (with_reducible first | exact HB.out | apply below_alloc | apply pw_below_drewN | apply below_drew1) | exact HB.out)⟩
  · rw [if_neg c5] at H
    have c5b0 : (t319 == 0) = false := beq_eq_false_iff_ne.mpr c5
    have c5b1 : (t319 != 0) = true := bne_iff_ne.mpr c5
    obtain rfl := Option.some.inj H
    go_enter Tryd.func60, Tryd.ntmps60
    go_wp2_with (first | ((with_reducible refine gate_callee (f := 48) rfl ?_); refine goesL_ (some 10) rfl rfl Tryd.func48 (by kernel_rfl) rfl #[.slice A0 l0.length c0, .slice A1 l1.length c1] rfl (by (try simp only [List.map_toArray, List.map_cons, List.map_nil]); first | done | rfl | (simp only [List.length_drop, List.length_take]; rfl)) ?_; (with_reducible refine (pick_Check.calls _ _ l0 _ _ l1 t319 _ ?side1 ?side2 ?side3 ?side4 A4.out).mono ?_); (case side1 => repeat (first | exact HR0.out | (with_reducible refine Kd.C_alloc ?_ _) | (with_reducible refine Kd.C_drewN ?_ _) | (with_reducible refine Kd.C_drew ?_))); (case side2 => exact HC0.out); (case side3 => repeat (first | exact HR1.out | (with_reducible refine Kd.C_alloc ?_ _) | (with_reducible refine Kd.C_drewN ?_ _) | (with_reducible refine Kd.C_drew ?_))); (case side4 => exact HC1.out); rintro e w8 ⟨rfl, hb⟩; refine ⟨_, rfl, ?_⟩; have n0_ := Aside0.mk (below_step (by repeat (first | (with_reducible first | exact HB.out | apply below_alloc | apply pw_below_drewN | apply below_drew1) | exact HB.out)) hb); clear HB; have HB := n0_; clear n0_; (try clear hb); (try clear hb2); (try clear hk); (try clear hi)))
    go_ret
    exact ⟨by first | rfl | (simp [errW_none, errW_some] <;> rfl) | (simp [*, errW_none, errW_some] <;> rfl), by repeat (first | (with_reducible first | exact HB.out | apply below_alloc | apply pw_below_drewN | apply below_drew1) | exact HB.out)⟩

end Go.Proofs.YtdmieaidheelbaaDoor.Q
end
/- Pick -/
section
/- pick.Pick by its contract. -/
namespace Go.Proofs.YtdmieaidheelbaaDoor.Q
open Go Go.RowKit Go.Shelf Go.Proofs.YtdmieaidheelbaaDoor.Rng Go.Proofs.YtdmieaidheelbaaDoorW.PrintWords Go.Proofs.YtdmieaidheelbaaDoorW.PrintLast Go.Proofs.YtdmieaidheelbaaDoorW.PrintMore
set_option linter.unusedVariables false
set_option linter.unusedSimpArgs false
attribute [local go_sem] Oper.semAt_some

/-- placements as cells -/
def encP (p : S31) : List Value := [.int .i64 p.f0, .int .i64 p.f1]
theorem encP_len (ps : List S31) : (ps.flatMap encP).length = ps.length * 2 := by
  induction ps with
  | nil => rfl
  | cons p ps ih => simp only [List.flatMap_cons, List.length_append, ih, List.length_cons, encP, List.length_nil]; omega
theorem encP_at (ps : List S31) : ∀ (j : Nat) (p : S31), ps[j]? = some p → ((ps.flatMap encP).drop (j * 2)).take 2 = encP p := by
  induction ps with
  | nil => intro j p h; simp at h
  | cons q ps ih =>
    intro j p h
    cases j with
    | zero => simp at h; subst h; simp [encP]
    | succ j =>
      simp at h
      rw [← ih j p h]
      rw [List.flatMap_cons, show (j + 1) * 2 = (encP q).length + j * 2 by simp [encP]; omega, List.drop_append, List.drop_eq_nil_of_le (by omega), List.nil_append, Nat.add_sub_cancel_left]
theorem RP_of_own {w : World} {base : Nat} {v : Value} {ps : List S31} (h : w.ownsRow base 31 2 v ps.length (ps.flatMap encP)) : Kd.R k31 31 w base (fun _ => True) v ps :=
  ⟨fun _ _ => trivial, _, h, encP_len ps, fun j p hj => by rw [show k31.sz = 2 from rfl, encP_at ps j p hj]; exact k31_mkM w base _ p⟩

/-- who is placed in a turn, and who waits -/
def zipP (vs cs : List Int) : List S31 := List.zipWith (fun v c => (⟨v, c⟩ : S31)) vs cs
def putsP (p : Ent × Option (List Int)) : List S31 := match p.2 with | none => [] | some m => zipP p.1.f0 m
def waitsP (p : Ent × Option (List Int)) : List Int := match p.2 with | none => p.1.f0 | some _ => []
def pickPuts (ts : List (Ent × Option (List Int))) : List S31 := ts.flatMap putsP
def pickWaits (ts : List (Ent × Option (List Int))) : List Int := ts.flatMap waitsP
theorem pickPuts_snoc (ts : List (Ent × Option (List Int))) (p : Ent × Option (List Int)) : pickPuts (ts ++ [p]) = pickPuts ts ++ putsP p := by simp [pickPuts]
theorem pickWaits_snoc (ts : List (Ent × Option (List Int))) (p : Ent × Option (List Int)) : pickWaits (ts ++ [p]) = pickWaits ts ++ waitsP p := by simp [pickWaits]
def askedP (l : List Ent) (w : List S36) (a : Int) : Int := if pickCheck l w ≠ 0 then pickCheck l w else if a < 256 then 0 else 140
def okPickArgs (l : List Ent) (w : List S36) (a : Int) : Prop := okPick l w ∧ 0 ≤ a ∧ a < 4294967296
instance (l : List Ent) (w : List S36) (a : Int) : Decidable (okPickArgs l w a) := inferInstanceAs (Decidable (_ ∧ _ ∧ _))
theorem askedP_val (l : List Ent) (w : List S36) (a : Int) (h : okPickArgs l w a) : pick_asked.f l w a = some (askedP l w a) := by
  obtain ⟨h1, h3, h4⟩ := h
  have e1 : pick_Check.f l w = some (pickCheck l w) := by unfold pick_Check.f; exact if_pos h1
  have e2 := Check_val a.toNat (by omega)
  rw [show ((a.toNat : Nat) : Int) = a by omega] at e2
  unfold pick_asked.f askedP
  rw [e1, Option.bind_some]
  generalize pickCheck l w = q
  by_cases hq : q = 0
  · subst hq
    rw [if_pos rfl, e2]
    simp only [Option.bind_some, ne_eq, not_true_eq_false, if_false]
    congr 1
    by_cases h : a < 256
    · rw [if_pos h, if_pos (by omega)]
    · rw [if_neg h, if_neg (by omega)]
  · rw [if_neg hq, if_pos hq]
theorem askedP_ok {l : List Ent} {w : List S36} {a : Int} : askedP l w a = 0 ↔ pickCheck l w = 0 ∧ a < 256 := by
  unfold askedP
  generalize pickCheck l w = q
  by_cases h : q = 0
  · rw [if_neg (by simpa using h)]
    by_cases h2 : a < 256
    · rw [if_pos h2]; simp [h, h2]
    · rw [if_neg h2]; simp [h2]
  · rw [if_pos h]; simp [h]
def pick_Pick.f (l0 : List Ent) (l1 : List S36) (a2 : Int) : Option (List S31 × List Int × Int) :=
  if okPickArgs l0 l1 a2 then some (if askedP l0 l1 a2 = 0 then (pickPuts (pickTurns l1 a2.toNat l0), pickWaits (pickTurns l1 a2.toNat l0), 0) else ([], [], askedP l0 l1 a2)) else none

set_option maxRecDepth 100000 in
set_option maxHeartbeats 8000000 in
theorem pick_no (A0 : Option Addr) (c0 : Nat) (l0 : List Ent) (A1 : Option Addr) (c1 : Nat) (l1 : List S36) (a2 : Int) (w : World) (hr0 : Kd.C k90 w A0 l0.length l0) (hc0 : l0.length ≤ c0) (hr1 : Kd.C k36 w A1 l1.length l1) (hc1 : l1.length ≤ c1) (hok : okPickArgs l0 l1 a2) (hne : askedP l0 l1 a2 ≠ 0) :
    Calls Tryd.prog 20 #[.slice A0 l0.length c0, .slice A1 l1.length c1, .int .u32 a2] w fun e w' => e = .returned (.tuple #[.slice none 0 0, .slice none 0 0, .int .i64 (askedP l0 l1 a2)]) ∧ Below w.heap.size w w' := by
  have hv := Aside0.mk (askedP_val l0 l1 a2 hok)
  have HR0 := Aside0.mk hr0
  have HC0 := Aside0.mk hc0
  have HR1 := Aside0.mk hr1
  have HC1 := Aside0.mk hc1
  generalize askedP l0 l1 a2 = q at *
  have hq : (q != 0) = true := by rw [bne_iff_ne]; exact hne
  clear hne hr0 hc0 hr1 hc1 hok
  go_enter Tryd.func20, Tryd.ntmps20
  go_wp2_with (go_at_call 60; refine (pick_asked.calls A0 c0 l0 A1 c1 l1 a2 q _ HR0.out HC0.out HR1.out HC1.out hv.out).mono ?_; rintro e w1 ⟨rfl, hb1⟩; have HB1 := Aside0.mk hb1; clear hb1)
  go_ret3
  exact ⟨rfl, HB1.out⟩

theorem zip_step (vs cs : List Int) (j : Nat) (hv : j < vs.length) (hc : j < cs.length) : zipP (vs.take (j + 1)) (cs.take (j + 1)) = zipP (vs.take j) (cs.take j) ++ [⟨vs[j], cs[j]⟩] := by
  unfold zipP
  rw [List.take_succ_eq_append_getElem hv, List.take_succ_eq_append_getElem hc, List.zipWith_append (by simp; omega)]
  rfl
theorem turns_fst (w : List S36) (l : List Ent) : ∀ free, (pickTurns w free l).map (·.1) = l := by
  induction l with
  | nil => intro free; rfl
  | cons x l ih => intro free; simp [pickTurns, ih]
theorem pturns_range (w : List S36) (free : Nat) (hf : free < 256) (l0 : List Ent) (hs : Shape l0 w) (l : List Ent) (hl : ∀ x ∈ l, x ∈ l0) : ∀ p ∈ pickTurns w free l, p.1 ∈ l0 ∧ ∀ m, p.2 = some m → m.length = p.1.f0.length ∧ ∀ c ∈ m, 0 ≤ c ∧ c < 8 := by
  induction l generalizing free with
  | nil => intro p hp; simp [pickTurns] at hp
  | cons x l ih =>
    intro p hp
    rw [pickTurns] at hp
    have hx := hl x (by simp)
    rcases List.mem_cons.1 hp with rfl | hp
    · exact ⟨hx, fun m hm => at_range w free x (hs.wishes_len x hx) m hm (hs.len x hx).1⟩
    · exact ih _ (lessAll_lt _ hf _) (fun y hy => hl y (by simp [hy])) p hp
theorem pickPuts_le (ts : List (Ent × Option (List Int))) : (pickPuts ts).length ≤ (members (ts.map (·.1))).length ∧ (pickWaits ts).length ≤ (members (ts.map (·.1))).length := by
  induction ts with
  | nil => simp [pickPuts, pickWaits]
  | cons p ts ih =>
    have h1 : (putsP p).length ≤ p.1.f0.length := by unfold putsP; split <;> simp [zipP]; omega
    have h2 : (waitsP p).length ≤ p.1.f0.length := by unfold waitsP; split <;> simp
    have e1 : (pickPuts (p :: ts)).length = (putsP p).length + (pickPuts ts).length := by simp [pickPuts]
    have e2 : (pickWaits (p :: ts)).length = (waitsP p).length + (pickWaits ts).length := by simp [pickWaits]
    have e3 : (members ((p :: ts).map (·.1))).length = p.1.f0.length + (members (ts.map (·.1))).length := by simp [members]
    omega
theorem pturns_bound (w : List S36) (free : Nat) (l : List Ent) (hs : Shape l w) (pre : List (Ent × Option (List Int))) (p : Ent × Option (List Int)) (rest : List (Ent × Option (List Int))) (h : pickTurns w free l = pre ++ p :: rest) :
    (pickPuts pre).length + p.1.f0.length ≤ w.length ∧ (pickWaits pre).length + p.1.f0.length ≤ w.length := by
  have h1 := congrArg (fun ts => (members (ts.map (·.1))).length) h
  simp only [turns_fst] at h1
  have h2 := pickPuts_le pre
  have h3 := hs.count
  simp [members] at h1 h2 h3
  omega
theorem own_apart {W : World} {base base' : Nat} {e e' : TypeId} {size size' : Nat} {v v' : Value} {k k' : Nat} {xs xs' : List Value} (h : W.ownsRow base e size v k xs) (h' : W.ownsRow base' e' size' v' k' xs') (hne : e ≠ e') : v.ownBlock = none ∨ v.ownBlock ≠ v'.ownBlock := by
  cases hq : v.ownBlock with
  | none => exact .inl rfl
  | some g =>
    refine .inr (fun e => ?_)
    obtain ⟨c1, hc1⟩ := own_typed h g hq
    obtain ⟨c2, hc2⟩ := own_typed h' g e.symm
    rw [hc1] at hc2
    injection hc2 with hc2
    injection hc2 with _ hc2
    exact hne hc2
/-- behind an append into what a box holds, without a cell beside -/
theorem appended1 {W w1 : World} {base B : Nat} {own : Nat → Prop} {t e : TypeId} {size : Nat} {v v' : Value} {k m : Nat} {xs ys : List Value}
    (hv : Boxed W B t v) (hte : t ≠ e) (hrow : W.ownsRow base e size v k xs) (hb : base ≤ W.heap.size) (hB : own B)
    (hown' : w1.ownsRow base e size v' m ys) (hgrow : W.grownBy w1 v.ownBlock) :
    Boxed w1 B t v ∧ Held (w1.setCell ⟨B, 0, none⟩ v') base B t e size m ys ∧ KeepsOthers W (w1.setCell ⟨B, 0, none⟩ v') ∧ Turned base own W (w1.setCell ⟨B, 0, none⟩ v') := by
  have hv1 : Boxed w1 B t v := hv.kept hgrow (hv.not_row hte hrow)
  refine ⟨hv1, ⟨v', hv1.set v', hown'.kept (grownBy_setCell' w1 B v') (.inr (hv1.not_row hte hown').symm)⟩, ?_, ?_⟩
  · refine (KeepsOthers.of_grownBy hgrow fun j o ej hj => ?_).trans (KeepsOthers.setCell _ _ _)
    rcases hrow.2 with ⟨rfl, _⟩ | ⟨g, cap, cur, rfl, _, hgb, _⟩
    · simp [Value.ownBlock] at ej
    · obtain rfl : g = j := by simpa [Value.ownBlock] using ej
      rw [hgb] at hj; cases hj; rfl
  · refine ((Turned.refl base own W).grown hgrow hb fun j ej => ?_).setCell (p := ⟨B, 0, none⟩) (.inl hB) v'
    rcases hrow.2 with ⟨rfl, _⟩ | ⟨g, cap, cur, rfl, hgb, _, _⟩
    · simp [Value.ownBlock] at ej
    · obtain rfl : g = j := by simpa [Value.ownBlock] using ej
      exact .inr hgb
/-- another row, of another type, has grown -/
theorem held_over {W w1 : World} {base base' B : Nat} {t e e' : TypeId} {size size' k k' : Nat} {v' : Value} {xs xs' : List Value} (h : Held W base B t e size k xs) (h' : W.ownsRow base' e' size' v' k' xs') (ht : t ≠ e') (he : e ≠ e') (hg : W.grownBy w1 v'.ownBlock) : Held w1 base B t e size k xs := by
  obtain ⟨v, h1, h2⟩ := h
  exact ⟨v, h1.kept hg (h1.not_row ht h'), h2.kept hg (own_apart h2 h' he)⟩
/-- a store into another box -/
theorem Held.setOther {W : World} {base B B' : Nat} {t t' e : TypeId} {size k : Nat} {xs : List Value} {u : Value} (h : Held W base B t e size k xs) (hB : B ≠ B') (ht : t' ≠ e) (hb : Boxed W B' t' u) {z : Value} : Held (W.setCell ⟨B', 0, none⟩ z) base B t e size k xs := by
  obtain ⟨v, h1, h2⟩ := h
  exact ⟨v, h1.kept (grownBy_setCell' W B' z) (fun e => hB (by injection e)), h2.kept (grownBy_setCell' W B' z) (.inr (hb.not_row ht h2).symm)⟩
theorem wpAnyIn_round {n : Nat} {P : Program} {md : Region.Mode} {ops : Array Oper} {Q : Exit → Act → World → Prop} (l : Nat) (hd : ∀ (i : Nat) (o : Oper), ops[i]? = some o → ∀ c, o.op ≠ .defer c) :
    ∀ (fuel : Nat) (listed : Array Bool) (a : Act) (w : World), wpAnyIn Fence.wide n P md ops Q fuel listed a w → wpAnyIn (Fence.wide.inRound l) n P md ops Q fuel listed a w := by
  intro fuel
  induction fuel with
  | zero => intro listed a w h; exact h
  | succ fuel ih =>
    intro listed a w h
    refine ⟨h.1, fun i hi => ?_⟩
    have h2 := h.2 i hi
    unfold wpOpIn at h2 ⊢
    cases ho : ops[i]? with
    | none => rw [ho] at h2; exact ih _ _ _ h2
    | some o =>
      rw [ho] at h2
      simp only at h2 ⊢
      by_cases hw : Region.wanted o (yielded ops a.tmps) = true
      · rw [if_pos hw] at h2 ⊢
        have h3 := Oper.wpIn_mono (fun a w h => ih (listed.setIfInBounds i true) a w h) h2
        unfold Oper.wpIn at h3 ⊢
        rw [Oper.semAt_plain _ _ _ (hd i o ho)] at h3 ⊢
        exact h3
      · rw [if_neg hw] at h2 ⊢
        exact ⟨h2.1, ih _ _ _ h2.2⟩
theorem append_stepIn {n : Nat} {P : Program} {o : Oper} {a : Act} {W W' : World} {K : Act → World → Prop} {Q : Exit → Act → World → Prop} {c : Prop} [Decidable c] (hc : c) {R : Prop} (s x : Operand) (t : TypeId)
    (ho : o.op = .call { callee := .builtin .append, args := #[s, x], argTypes := #[t, t] }) (v vx v' : Value) (hs : a.eval s = v) (hx : a.eval x = vx)
    (hrun : (Builtin.append_ #[t, t] o.type #[v, vx]).run P W = .ok v' W') (h : K (a.put o.dst v') W') : if c then Oper.wpIn Fence.wide n P o a W K Q else R := by
  rw [if_pos hc]
  refine ⟨fun _ _ => trivial, ?_⟩
  rw [Oper.semAt_plain _ _ _ (fun c e => by rw [ho] at e; cases e)]
  unfold execOp
  simp only [ho, resolve, invoke, builtin, Sem.run_bind, Sem.run_pure, Result.andThen_ok, List.map_toArray, List.map_cons, List.map_nil, hs, hx, hrun]
  exact h
theorem keeps_drew {W W' : World} (h : KeepsOthers W.drew W') : KeepsOthers W W' := ⟨h.1, h.2⟩
def ownK (b k : Nat) : Prop := k = b ∨ k = b + 1 ∨ k = b + 1 + 1 + 1 + 1
/-- between two rounds -/
def PickI (w4 : World) (b : Nat) (pre : List (Ent × Option (List Int))) (W : World) : Prop :=
  Held W w4.heap.size b 26 31 2 (pickPuts pre).length ((pickPuts pre).flatMap encP) ∧ Held W w4.heap.size (b + 1) 42 3 1 (pickWaits pre).length ((pickWaits pre).map (Value.int .i64)) ∧ Turned w4.heap.size (ownK b) w4 W
def NoExitK (_ : Code) (_ : World) : Prop := False

set_option maxRecDepth 100000 in
set_option maxHeartbeats 8000000 in
theorem pick_yes (A0 : Option Addr) (c0 : Nat) (l0 : List Ent) (A1 : Option Addr) (c1 : Nat) (l1 : List S36) (free : Nat) (w : World) (hr0 : Kd.C k90 w A0 l0.length l0) (hc0 : l0.length ≤ c0) (hr1 : Kd.C k36 w A1 l1.length l1) (hc1 : l1.length ≤ c1) (hok : okPickArgs l0 l1 free) (h0 : askedP l0 l1 free = 0) (hT : TabW w) :
    Calls Tryd.prog 20 #[.slice A0 l0.length c0, .slice A1 l1.length c1, .int .u32 free] w fun e w' => ∃ v0 v1, e = .returned (.tuple #[v0, v1, .int .i64 0]) ∧ Kd.R k31 31 w' w.heap.size (fun _ => True) v0 (pickPuts (pickTurns l1 free l0)) ∧ Kd.R (Kd.int .i64) 3 w' w.heap.size (fun _ => True) v1 (pickWaits (pickTurns l1 free l0)) ∧ Below w.heap.size w w' := by
  have hv := askedP_val l0 l1 free hok
  rw [h0] at hv
  obtain ⟨⟨hwf, hl1, hl0⟩, -, -⟩ := hok
  obtain ⟨hpc, hf⟩ := askedP_ok.1 h0
  have hsh := ((pickCheck_zero l0 l1).1 hpc).1
  have hf' : free < 256 := by omega
  have HV := Aside0.mk hv
  have HR0 := Aside0.mk hr0
  have HC0 := Aside0.mk hc0
  have HR1 := Aside0.mk hr1
  have HC1 := Aside0.mk hc1
  have HWF := Aside0.mk hwf
  have HT := Aside0.mk hT
  have HSH := Aside0.mk hsh
  clear hv hr0 hc0 hr1 hc1 hwf hT h0 hpc hsh hf
  refine (callsIn_wide (n := 9)).1 ?_
  refine callsIn_of_wp_marks Tryd.func20 rfl trivial ?_ rfl
  simp only [Tryd.ntmps20, List.size_toArray, List.length_cons, List.length_nil, Nat.reduceAdd, Nat.reduceSub, Array.replicate_succ, Array.replicate_zero, List.push_toArray, List.append_toArray, List.nil_append, List.cons_append]
  gi_wp2_with (first
    | (refine ⟨trivial, ?_⟩; gi_at_call 60; refine (callsIn_wide.2 (pick_asked.calls A0 c0 l0 A1 c1 l1 free 0 _ HR0.out HC0.out HR1.out HC1.out HV.out)).mono ?_; rintro e w1 ⟨rfl, hb1⟩; have HB1 := Aside0.mk hb1; clear hb1)
    | (refine ⟨trivial, ?_⟩; gi_at_call 61; refine (callsIn_wide.2 (pturns_calls _ _ _ _ _ _ _ _)).mono ?_; rintro e w2 ⟨rfl, rfl⟩))
  have hsz1 := HB1.out.size
  have hpos := HT.out.pos
  have HT1 := HT.out.step HB1.out
  have hB : Below w1.heap.size w1 (((((w1.alloc (.cells #[.slice none 0 0] 26)).alloc (.cells #[.slice none 0 0] 42)).alloc (.cells #[.slice A0 l0.length c0] 39)).alloc (.cells #[.slice A1 l1.length c1] 22)).alloc (.cells #[.int .u32 free] 24)) :=
    (((((Below.refl _ w1).alloc (Nat.le_refl _) _).alloc (by simp) _).alloc (by simp; omega) _).alloc (by simp; omega) _).alloc (by simp; omega) _
  have b0 := Boxed.new w1 26 (.slice none 0 0)
  have b1 := Boxed.new (w1.alloc (.cells #[.slice none 0 0] 26)) 42 (.slice none 0 0)
  have b2 := Boxed.new ((w1.alloc (.cells #[.slice none 0 0] 26)).alloc (.cells #[.slice none 0 0] 42)) 39 (.slice A0 l0.length c0)
  have b3 := Boxed.new (((w1.alloc (.cells #[.slice none 0 0] 26)).alloc (.cells #[.slice none 0 0] 42)).alloc (.cells #[.slice A0 l0.length c0] 39)) 22 (.slice A1 l1.length c1)
  have b4 := Boxed.new ((((w1.alloc (.cells #[.slice none 0 0] 26)).alloc (.cells #[.slice none 0 0] 42)).alloc (.cells #[.slice A0 l0.length c0] 39)).alloc (.cells #[.slice A1 l1.length c1] 22)) 24 (.int .u32 free)
  simp only [World.size_alloc] at b1 b2 b3 b4
  replace b0 := (((b0.alloc (.cells #[.slice none 0 0] 42)).alloc (.cells #[.slice A0 l0.length c0] 39)).alloc (.cells #[.slice A1 l1.length c1] 22)).alloc (.cells #[.int .u32 free] 24)
  replace b1 := ((b1.alloc (.cells #[.slice A0 l0.length c0] 39)).alloc (.cells #[.slice A1 l1.length c1] 22)).alloc (.cells #[.int .u32 free] 24)
  replace b2 := (b2.alloc (.cells #[.slice A1 l1.length c1] 22)).alloc (.cells #[.int .u32 free] 24)
  replace b3 := b3.alloc (.cells #[.int .u32 free] 24)
  have hsz : (((((w1.alloc (.cells #[.slice none 0 0] 26)).alloc (.cells #[.slice none 0 0] 42)).alloc (.cells #[.slice A0 l0.length c0] 39)).alloc (.cells #[.slice A1 l1.length c1] 22)).alloc (.cells #[.int .u32 free] 24)).heap.size = w1.heap.size + 5 := by simp
  obtain ⟨w4, hw4⟩ : ∃ w4, (((((w1.alloc (.cells #[.slice none 0 0] 26)).alloc (.cells #[.slice none 0 0] 42)).alloc (.cells #[.slice A0 l0.length c0] 39)).alloc (.cells #[.slice A1 l1.length c1] 22)).alloc (.cells #[.int .u32 free] 24)) = w4 := ⟨_, rfl⟩
  rw [hw4] at b0 b1 b2 b3 b4 hB hsz ⊢
  clear hw4
  have hST : Stays w1 w4 := fun k hk => hB.block k hk
  have hit := pturns1_iter (w1.heap.size + 1 + 1) w1 A0 c0 l0 A1 c1 l1 free hf' HSH.out hl0 hl1 HWF.out w4 (Kd.C_below HR0.out HB1.out) HC0.out (Kd.C_below HR1.out HB1.out) HC1.out hST b2 b3 b4 HT1 (by omega)
  have HBA := Aside0.mk (below_step HB1.out hB)
  refine wpIn_rangeR (gf := 90) (lb := #[.pointer (some ⟨w1.heap.size + 1 + 1, 0, none⟩), .pointer (some ⟨w1.heap.size + 1 + 1 + 1, 0, none⟩), .pointer (some ⟨w1.heap.size + 1 + 1 + 1 + 1, 0, none⟩)]) rfl (enters_of Tryd.func90 (by kernel_rfl) rfl) hit (fun x W vs h => by obtain ⟨_, _, _, rfl, _⟩ := h; rfl) (by omega) (fun k hk => by omega)
    (PickI w4 w1.heap.size) NoExitK
    ?calm (fun _ _ _ _ h _ _ => h.elim) ⟨⟨_, b0, World.ownsRow_nil _ _ _ _⟩, ⟨_, b1, World.ownsRow_nil _ _ _ _⟩, Turned.refl _ _ _⟩
    (fun pre x a' W => PickI w4 w1.heap.size pre W ∧
      ∃ bx Am cm v, w4.heap.size ≤ bx ∧ W.heap[bx]? = some (.cells #[.slice Am x.1.f0.length cm, .int .u64 x.1.f1.f0.f0, .int .u64 x.1.f1.f0.f1, .int .u64 x.1.f1.f1, .int .u64 x.1.f2, .bool x.1.f3] 90 (0, 0)) ∧
      (Kd.int .i64).C w1 Am x.1.f0.length x.1.f0 ∧ W.ownsRow w1.heap.size 3 1 v (x.2.getD []).length ((x.2.getD []).map (Value.int .i64)) ∧ (match x.2 with | none => v = .slice none 0 0 | some m => ∃ A n c, v = .slice (some A) n c) ∧
      a' = { tmps := ([.slice A0 l0.length c0, .slice A1 l1.length c1, .int .u32 free, undef, undef, undef, .slice none 0 0, .slice none 0 0, .int .i64 0, .int .i64 0, .pointer (some ⟨w1.heap.size, 0, none⟩), .pointer (some ⟨w1.heap.size + 1, 0, none⟩), .pointer (some ⟨bx, 0, none⟩), v, undef, undef,
        .slice A0 l0.length c0, .slice A1 l1.length c1, .int .u32 free, .int .i64 0, .int .i64 0, .bool false, undef, .slice A0 l0.length c0, .slice A1 l1.length c1, .int .u32 free,
        .func (.func 90) #[] #[.pointer (some ⟨w1.heap.size + 1 + 1, 0, none⟩), .pointer (some ⟨w1.heap.size + 1 + 1 + 1, 0, none⟩), .pointer (some ⟨w1.heap.size + 1 + 1 + 1 + 1, 0, none⟩)],
        .agg #[.slice Am x.1.f0.length cm, .int .u64 x.1.f1.f0.f0, .int .u64 x.1.f1.f0.f1, .int .u64 x.1.f1.f1, .int .u64 x.1.f2, .bool x.1.f3], v] ++ [undef, undef, undef, undef, undef, undef, undef, undef, undef, undef, undef, undef, undef, undef, undef, undef, undef, undef, undef, undef, undef, undef, undef, undef, undef, undef]).toArray, defers := [] })
    ?calma ?assign ?body ?done (fun _ _ _ _ h _ => h.elim)
  case calm =>
    rintro pre X Y r ⟨h1, h2, h3⟩ hg hr
    have hXs := h3.size
    refine ⟨h1.far hg ?_, h2.far hg ?_, h3.grown hg hXs (fun k e => by injection e with e; subst e; rcases hr with rfl | ⟨h, _⟩; exact .inl (.inr (.inr rfl)); exact .inr h)⟩
    · rcases hr with rfl | ⟨h, ho⟩
      · exact .inl ⟨by omega, by omega⟩
      · exact .inr ho
    · rcases hr with rfl | ⟨h, ho⟩
      · exact .inl ⟨by omega, by omega⟩
      · exact .inr ho
  case calma =>
    rintro ⟨pre, x, a'⟩ X Y r ⟨⟨h1, h2, h3⟩, bx, Am, cm, v, g1, g2, g3, g4, g5, g6⟩ hg ⟨hr, o, ho, hcl⟩
    have hXs := h3.size
    refine ⟨⟨h1.far hg (.inr ⟨o, ho, hcl⟩), h2.far hg (.inr ⟨o, ho, hcl⟩), h3.grown hg hXs (fun k e => by injection e with e; subst e; exact .inr hr)⟩, bx, Am, cm, v, g1, blk_grown g2 hg (fun e => ?_), g3, row_far g4 hg (.inr ⟨o, ho, hcl⟩), g5, g6⟩
    injection e with e
    subst e
    rw [g2] at ho; cases ho; cases hcl
  case assign =>
    rintro lp pre ⟨x, a⟩ rest W vs K hx hszW ⟨h1, h2, h3⟩ ⟨Am, cm, v, rfl, q1, q2, q3, q4⟩ hK
    have hu90 := Tryd.underlying90
    have HK := Aside0.mk hK
    have HQ := Aside0.mk (And.intro q2 (And.intro q3 q4))
    have hszl : w1.heap.size + 5 ≤ w4.heap.size := by omega
    clear hK hit hB b0 b1 b2 b3 b4 hsz hx q2 q3 q4
    gi_wp2
    refine HK.out _ _ ((KeepsOthers.alloc _ _).from _) (fun k hk => Below.heap_alloc _ _ _ (by omega)) ⟨⟨h1.alloc _, h2.alloc _, h3.alloc hszW _⟩, W.heap.size, Am, cm, v, hszW, heap_alloc_new W _, HQ.out.1, HQ.out.2.1.alloc _, HQ.out.2.2, rfl⟩
  case body =>
    rintro lp pre ⟨x, a⟩ rest a' W hx hszW ⟨⟨⟨v0, hv0, hrow0⟩, ⟨v1, hv1, hrow1⟩, h3⟩, bx, Am, cm, v, g1, g2, g3, g4, g5, rfl⟩
    simp only [List.cons_append, List.nil_append] at g2 g3 g4 g5 ⊢
    have hszl : w1.heap.size + 5 ≤ w4.heap.size := by omega
    have hmem : (x, a) ∈ pickTurns l1 free l0 := by rw [hx]; simp
    obtain ⟨hxl, hxm⟩ := pturns_range l1 free hf' l0 HSH.out l0 (fun _ h => h) _ hmem
    obtain ⟨hx1, hx8⟩ := HSH.out.len x hxl
    have hbound := pturns_bound l1 free l0 HSH.out pre (x, a) rest hx
    simp only at hxl hxm hx1 hx8 hbound
    have hST2 : Stays w1 W := fun k hk => (h3.block k (by omega) (by unfold ownK; omega)).trans (hB.block k hk)
    have HC1 := Aside0.mk ((Kd.heap_int .i64).C (fun k hk => hST2 k hk) g3)
    have HC0' := Aside0.mk g3
    obtain ⟨ad, rfl, _⟩ := g3.2.2 hx1
    have k0 := blk_cell g2 0
    simp only [List.getElem?_toArray, List.getElem?_cons_zero] at k0
    have HX2 := Aside0.mk h3
    have HSTW := Aside0.mk hST2
    have hbd : (pickPuts pre).length + x.f0.length ≤ 1000000 ∧ (pickWaits pre).length + x.f0.length ≤ 1000000 := by omega
    clear hit hB b0 b1 b2 b3 b4 h3 hsz hST hST2 g3 hx hmem hbound HSH
    cases a with
    | none =>
      simp only at g5
      subst g5
      obtain ⟨i0, hi, hz0, hz1, hz2⟩ := info_parts info3
      have hnil := Lib.run_eql_slice_nil (P := Tryd.prog) W 42 3 none 0 0 0 0 Tryd.underlying42
      have hnews : ∀ j u, (x.f0.map (Value.int .i64))[j]? = some u → W.cell? (ad.add j) = some u := fun j u hu => by
        rw [List.getElem?_map] at hu
        obtain ⟨y, hy, rfl⟩ := Option.map_eq_some_iff.1 hu
        obtain ⟨hj, rfl⟩ := List.getElem?_eq_some_iff.1 hy
        obtain ⟨ai, e, hc⟩ := Kd.at_int HC1.out (j : Int) (by omega) (by omega)
        injection e with e
        subst e
        rw [Int.toNat_natCast, rd_eq _ _ hj] at hc
        exact hc
      have HNW := Aside0.mk hnews
      have c1' := hv1.cell
      clear hnews g4 hxm
      gi_wp2_with (gi_at_builtin; (refine wpListIn_append_own _ rfl _ _ 42 rfl w4.heap.size 3 i0 (.int .i64 0) 1 8 Tryd.underlying42 hi hz0 hz1 hz2 rfl (by decide) _ _ _ rfl hrow1 ad x.f0.length cm (x.f0.map (Value.int .i64)) rfl (by simp) HNW.out (by simp [Value.oneCell']) (by unfold maxLen; omega) (by omega) hszW ?_); intro v' w2 hown' hgrow _; obtain ⟨g', cap', rfl, _, _⟩ := hown'.form (by omega); obtain ⟨hw1, hw2, hw3, hw4⟩ := appended1 (own := fun k => k = w1.heap.size + 1) hv1 (by decide) hrow1 hszW rfl hown' hgrow; have hp2 := held_over ⟨v0, hv0, hrow0⟩ hrow1 (by decide) (by decide) hgrow; have hc1 := hw1.cell; have hf1 := hw1.frozen)
      refine ⟨hw3.from _, hw4.same (fun k hk => ⟨by omega, by omega⟩), ?_, ?_, HX2.out.trans (hw4.weaken (fun k hk => .inr (.inl hk)))⟩
      · rw [pickPuts_snoc, show putsP (x, (none : Option (List Int))) = [] from rfl, List.append_nil]
        exact hp2.setOther (by omega) (by decide) hw1
      · rw [pickWaits_snoc, show waitsP (x, (none : Option (List Int))) = x.f0 from rfl]
        simpa using hw2
    | some m =>
      obtain ⟨Av, nv, cv, rfl⟩ := g5
      obtain ⟨hml, hmr⟩ := hxm m rfl
      simp only [Option.getD_some] at g4
      obtain ⟨g, cap3, e3, _, _⟩ := g4.form (by omega)
      injection e3 with e3 e4 e5
      injection e3 with e3
      subst e3 e4 e5
      obtain ⟨i0, hi, hz0, hz1, hz2⟩ := info_parts info31
      have hnil := Lib.run_eql_slice_nil (P := Tryd.prog) W 42 3 (some ⟨g, 0, none⟩) m.length cv 0 0 Tryd.underlying42
      have HML := Aside0.mk hml
      have HG2 := Aside0.mk g2
      have HG4 := Aside0.mk g4
      have HH0 := Aside0.mk (show Held W w4.heap.size w1.heap.size 26 31 2 (pickPuts pre).length ((pickPuts pre).flatMap encP) from ⟨v0, hv0, hrow0⟩)
      have HH1 := Aside0.mk (show Held W w4.heap.size (w1.heap.size + 1) 42 3 1 (pickWaits pre).length ((pickWaits pre).map (Value.int .i64)) from ⟨v1, hv1, hrow1⟩)
      have hu31 := Tryd.underlying31
      clear hml g2 g4 hv0 hrow0 hv1 hrow1 hxm hmr hxl
      gi_wp2
      gi_loopw [38] (fun s38 wi => ∃ j : Nat, j ≤ x.f0.length ∧ s38 = .int .i64 j ∧ Aside0 (Held wi w4.heap.size w1.heap.size 26 31 2 (pickPuts pre ++ zipP (x.f0.take j) (m.take j)).length ((pickPuts pre ++ zipP (x.f0.take j) (m.take j)).flatMap encP)) ∧
          Aside0 (Held wi w4.heap.size (w1.heap.size + 1) 42 3 1 (pickWaits pre).length ((pickWaits pre).map (Value.int .i64))) ∧ Aside0 (wi.ownsRow w1.heap.size 3 1 (.slice (some ⟨g, 0, none⟩) m.length cv) m.length (m.map (Value.int .i64))) ∧
          Aside0 (KeepsOthers W wi) ∧ Aside0 (Turned w4.heap.size (fun k => k = w1.heap.size) W wi))
        (fun s38 _ => x.f0.length - (intOf s38).toNat)
      case atStart => exact ⟨0, Nat.zero_le _, rfl, by simpa [zipP] using HH0, HH1, HG4, ⟨KeepsOthers.refl _⟩, ⟨Turned.refl _ _ _⟩⟩
      case round =>
        obtain ⟨j, hj, rfl, HP, HWt, HRw, HK, HTu⟩ := hrel
        clear HH0 HH1 HG4
        by_cases hjl : j < x.f0.length
        case neg =>
          obtain rfl : j = x.f0.length := by omega
          clear hjl
          gi_wp2
          refine ⟨HK.out.from _, HTu.out.same (fun k hk => ⟨by omega, by omega⟩), ?_, ?_, HX2.out.trans (HTu.out.weaken (fun k hk => .inl hk))⟩
          · have h1 := HP.out
            rw [List.take_length, show m.take x.f0.length = m by rw [← HML.out, List.take_length]] at h1
            rw [pickPuts_snoc]
            exact h1
          · rw [pickWaits_snoc, show waitsP (x, some m) = [] from rfl, List.append_nil]
            exact HWt.out
        case pos =>
          obtain ⟨v0, hv0, hrow0⟩ := HP.out
          obtain ⟨ai, e, hcm⟩ := Kd.at_int ((Kd.heap_int .i64).C (w1 := wr) (fun k hk => (HTu.out.block k (by omega) (by omega)).trans (HSTW.out k hk)) HC0'.out) (j : Int) (by omega) (by omega)
          injection e with e
          subst e
          rw [Int.toNat_natCast, rd_eq _ _ hjl] at hcm
          have hjm : j < m.length := by rw [HML.out]; exact hjl
          have hcr := HRw.out.cellAt j (by omega)
          rw [List.getElem?_map, List.getElem?_eq_getElem hjm] at hcr
          simp only [Option.map_some] at hcr
          have hzip : zipP (x.f0.take (j + 1)) (m.take (j + 1)) = zipP (x.f0.take j) (m.take j) ++ [⟨x.f0[j], m[j]⟩] := zip_step x.f0 m j hjl hjm
          have hzl : (zipP (x.f0.take j) (m.take j)).length ≤ j := by unfold zipP; simp; omega
          have hlen : (pickPuts pre ++ zipP (x.f0.take j) (m.take j)).length < 1000000 := by rw [List.length_append]; omega
          have HZ := Aside0.mk hzip
          generalize x.f0[j] = pv at *
          generalize m[j] = pc at *
          generalize hps : pickPuts pre ++ zipP (x.f0.take j) (m.take j) = ps at *
          have HPS := Aside0.mk hps
          clear hzip hps hzl
          have hwr : w4.heap.size ≤ wr.heap.size := Nat.le_trans hszW HTu.out.size
          have hd0 : Boxed wr.drew w1.heap.size 26 v0 := hv0
          have hdr : wr.drew.ownsRow w4.heap.size 31 2 v0 ps.length (ps.flatMap encP) := hrow0
          obtain ⟨v', w6, hrun, hown', hgrow, _⟩ := run_append_own (P := Tryd.prog) (wr.drew.alloc (.cells #[.int .i64 pv, .int .i64 pc] 31)) w4.heap.size 26 26 31 i0 (.agg #[.int .i64 0, .int .i64 0]) 2 16 Tryd.underlying26 hi hz0 hz1 hz2 rfl (by decide) v0 ps.length (ps.flatMap encP) (hdr.alloc _)
            ⟨wr.heap.size, 0, none⟩ 1 1 [.int .i64 pv, .int .i64 pc] rfl (cell_two_new wr.drew _ _ _) (by simp [Value.oneCell']) (by unfold maxLen; omega) (by omega) (by show w4.heap.size ≤ (wr.drew.alloc _).heap.size; rw [World.size_alloc]; show w4.heap.size ≤ wr.heap.size + 1; omega)
          obtain ⟨g', cap', rfl, _, _⟩ := hown'.form (by omega)
          obtain ⟨hw1, hw2, hw3, hw4⟩ := appended2 (own := fun k => k = w1.heap.size) hd0 (by decide) hdr hwr rfl hown' hgrow
          have cb := hd0.cell
          have cb3 := (hv0.alloc (.cells #[.int .i64 pv, .int .i64 pc] 31)).cell
          have hq1 : Held wr.drew w4.heap.size (w1.heap.size + 1) 42 3 1 (pickWaits pre).length ((pickWaits pre).map (Value.int .i64)) := HWt.out
          have hq2 := held_over (hq1.alloc (.cells #[.int .i64 pv, .int .i64 pc] 31)) (hdr.alloc _) (by decide) (by decide) hgrow
          have HQ4 := Aside0.mk (hq2.setOther (z := .slice (some ⟨g', 0, none⟩) (ps.length + 1) cap') (by omega) (by decide) hw1)
          have hs1 : wr.drew.ownsRow w1.heap.size 3 1 (.slice (some ⟨g, 0, none⟩) m.length cv) m.length (m.map (Value.int .i64)) := HRw.out
          have hs2 := (hs1.alloc (.cells #[.int .i64 pv, .int .i64 pc] 31)).kept hgrow (own_apart hs1 hdr (by decide))
          have HS4 := Aside0.mk (hs2.kept (grownBy_setCell' w6 w1.heap.size (.slice (some ⟨g', 0, none⟩) (ps.length + 1) cap')) (.inr (hw1.not_row (by decide) hs2).symm))
          clear hq1 hq2 hs1 hs2
          have cb2 := (hd0.alloc (.cells #[.int .i64 pv, .int .i64 pc] 31)).cell
          have cr1 : wr.drew.cell? ⟨g, j, none⟩ = some (.int .i64 pc) := hcr
          have cr2 := (World.cell?_alloc_lt wr.drew (.cells #[.int .i64 pv, .int .i64 pc] 31) _ (World.block_lt_of_cell? wr.drew _ cr1)).trans cr1
          have cw1 := hw1.cell
          have fw1 := hw1.frozen
          have HW2 := Aside0.mk hw2
          have HW3 := Aside0.mk hw3
          have HW4 := Aside0.mk hw4
          have HGR := Aside0.mk hgrow
          have HDR := Aside0.mk hdr
          have hj0 : (0 : Int) ≤ j := by omega
          have hj1 : (j : Int) < (m.length : Int) := by omega
          clear hv0 hrow0 hd0 hdr hown' hgrow hw1 hw2 hw3 hw4 hcr
          gi_wp2
          refine wpIn_region_any (by kernel_rfl) (wpAnyIn_round lp ?_ _ _ _ _ ?_)
          · intro i o ho c hc
            have : i < 10 := by
              have := (Array.getElem?_eq_some_iff.1 ho).1
              simpa using this
            have hi : i = 0 ∨ i = 1 ∨ i = 2 ∨ i = 3 ∨ i = 4 ∨ i = 5 ∨ i = 6 ∨ i = 7 ∨ i = 8 ∨ i = 9 := by omega
            rcases hi with rfl | rfl | rfl | rfl | rfl | rfl | rfl | rfl | rfl | rfl <;> (injection ho with ho; subst ho; cases hc)
          refine wpAnyIn_take (i := 1) (v := .int .i64 pv) rfl rfl (by kernel_rfl) (by kernel_rfl) (by kernel_rfl) (fun _ _ _ h => h) ⟨Or.inl ⟨by rfl, fun w => by go_simp⟩, fun _ => rfl⟩ ?_
          refine wpAnyIn_take (i := 2) (v := .slice (some ⟨g, 0, none⟩) m.length cv) rfl rfl (by kernel_rfl) (by kernel_rfl) (by kernel_rfl) (fun _ _ _ h => h) ⟨Or.inl ⟨by rfl, fun w => by go_simp⟩, fun _ => rfl⟩ ?_
          refine wpAnyIn_take (i := 3) (v := .int .i64 j) rfl rfl (by kernel_rfl) (by kernel_rfl) (by kernel_rfl) (fun _ _ _ h => h) ⟨Or.inl ⟨by rfl, fun w => by go_simp⟩, fun _ => rfl⟩ ?_
          refine wpAnyIn_take (i := 4) (v := .pointer (some ⟨g, j, none⟩)) rfl rfl (by kernel_rfl) (by kernel_rfl) (by kernel_rfl) (fun _ _ _ h => h) ⟨Or.inl ⟨by rfl, fun w => by go_simp⟩, fun _ => rfl⟩ ?_
          refine wpAnyIn_ready (rs := [0, 5]) (by kernel_rfl) (by simp) ?_
          refine AllReadyIn.cons rfl (fun K hK => ?_) (AllReadyIn.cons rfl (fun K hK => ?_) AllReadyIn.nil)
          · go_simp
            refine hK _ _ ?_
            clear hK K
            refine wpAnyIn_ready (rs := [5]) (by kernel_rfl) (by simp) ?_
            refine AllReadyIn.cons rfl (fun K hK => ?_) AllReadyIn.nil
            go_simp
            refine hK _ _ ?_
            clear hK K
            refine wpAnyIn_take (i := 6) (v := .agg #[.int .i64 pv, .int .i64 pc]) rfl rfl (by kernel_rfl) (by kernel_rfl) (by kernel_rfl) (fun _ _ _ h => h) ⟨Or.inl ⟨by rfl, fun w => by go_simp⟩, fun _ => rfl⟩ ?_
            refine wpAnyIn_ready (rs := [7]) (by kernel_rfl) (by simp) ?_
            refine AllReadyIn.cons rfl (fun K hK => ?_) AllReadyIn.nil
            go_simp
            refine hK _ _ ?_
            clear hK K
            refine wpAnyIn_ready (rs := [8]) (by kernel_rfl) (by simp) ?_
            refine AllReadyIn.cons rfl (fun K hK => ?_) AllReadyIn.nil
            refine append_stepIn (by rfl) _ _ 26 rfl v0 (.slice (some ⟨wr.heap.size, 0, none⟩) 1 1) _ rfl rfl hrun ?_
            refine hK _ _ ?_
            clear hK K
            refine wpAnyIn_ready (rs := [9]) (by kernel_rfl) (by simp) ?_
            refine AllReadyIn.cons rfl (fun K hK => ?_) AllReadyIn.nil
            go_simp
            refine hK _ _ ?_
            clear hK K
            refine wpAnyIn_done (by kernel_rfl) ?_ _
            gi_wp2
            go_roundw
            case rel =>
              refine ⟨j + 1, by omega, by go_num, ⟨?_⟩, HQ4, HS4, ⟨HK.out.trans (keeps_drew HW3.out)⟩, ⟨HTu.out.drew.trans HW4.out⟩⟩
              have h5 := HW2.out
              rw [HZ.out, ← List.append_assoc, HPS.out]
              simpa [encP] using h5
            case measure => simp only [intOf]; omega
          · go_simp
            refine hK _ _ ?_
            clear hK K
            refine wpAnyIn_take (i := 6) (v := .agg #[.int .i64 pv, .int .i64 pc]) rfl rfl (by kernel_rfl) (by kernel_rfl) (by kernel_rfl) (fun _ _ _ h => h) ⟨Or.inl ⟨by rfl, fun w => by go_simp⟩, fun _ => rfl⟩ ?_
            refine wpAnyIn_ready (rs := [0, 7]) (by kernel_rfl) (by simp) ?_
            refine AllReadyIn.cons rfl (fun K hK => ?_) (AllReadyIn.cons rfl (fun K hK => ?_) AllReadyIn.nil)
            · go_simp
              refine hK _ _ ?_
              clear hK K
              refine wpAnyIn_ready (rs := [7]) (by kernel_rfl) (by simp) ?_
              refine AllReadyIn.cons rfl (fun K hK => ?_) AllReadyIn.nil
              go_simp
              refine hK _ _ ?_
              clear hK K
              refine wpAnyIn_ready (rs := [8]) (by kernel_rfl) (by simp) ?_
              refine AllReadyIn.cons rfl (fun K hK => ?_) AllReadyIn.nil
              refine append_stepIn (by rfl) _ _ 26 rfl v0 (.slice (some ⟨wr.heap.size, 0, none⟩) 1 1) _ rfl rfl hrun ?_
              refine hK _ _ ?_
              clear hK K
              refine wpAnyIn_ready (rs := [9]) (by kernel_rfl) (by simp) ?_
              refine AllReadyIn.cons rfl (fun K hK => ?_) AllReadyIn.nil
              go_simp
              refine hK _ _ ?_
              clear hK K
              refine wpAnyIn_done (by kernel_rfl) ?_ _
              gi_wp2
              go_roundw
              case rel =>
                refine ⟨j + 1, by omega, by go_num, ⟨?_⟩, HQ4, HS4, ⟨HK.out.trans (keeps_drew HW3.out)⟩, ⟨HTu.out.drew.trans HW4.out⟩⟩
                have h5 := HW2.out
                rw [HZ.out, ← List.append_assoc, HPS.out]
                simpa [encP] using h5
              case measure => simp only [intOf]; omega
            · go_simp
              refine hK _ _ ?_
              clear hK K
              refine wpAnyIn_ready (rs := [0]) (by kernel_rfl) (by simp) ?_
              refine AllReadyIn.cons rfl (fun K hK => ?_) AllReadyIn.nil
              go_simp
              refine hK _ _ ?_
              clear hK K
              refine wpAnyIn_ready (rs := [8]) (by kernel_rfl) (by simp) ?_
              refine AllReadyIn.cons rfl (fun K hK => ?_) AllReadyIn.nil
              refine append_stepIn (by rfl) _ _ 26 rfl v0 (.slice (some ⟨wr.heap.size, 0, none⟩) 1 1) _ rfl rfl hrun ?_
              refine hK _ _ ?_
              clear hK K
              refine wpAnyIn_ready (rs := [9]) (by kernel_rfl) (by simp) ?_
              refine AllReadyIn.cons rfl (fun K hK => ?_) AllReadyIn.nil
              go_simp
              refine hK _ _ ?_
              clear hK K
              refine wpAnyIn_done (by kernel_rfl) ?_ _
              gi_wp2
              go_roundw
              case rel =>
                refine ⟨j + 1, by omega, by go_num, ⟨?_⟩, HQ4, HS4, ⟨HK.out.trans (keeps_drew HW3.out)⟩, ⟨HTu.out.drew.trans HW4.out⟩⟩
                have h5 := HW2.out
                rw [HZ.out, ← List.append_assoc, HPS.out]
                simpa [encP] using h5
              case measure => simp only [intOf]; omega
  case done =>
    rintro D W hD ⟨⟨v0, hv0, hrow0⟩, ⟨v1, hv1, hrow1⟩, h3⟩ hK
    have HKR := Aside0.mk (RP_of_own hrow0)
    have HKW := Aside0.mk (show Kd.R (Kd.int .i64) 3 W w4.heap.size (fun _ => True) v1 (pickWaits (pickTurns l1 free l0)) from Kd.R_of_own hrow1 (fun _ _ => trivial))
    have c0' := hv0.cell
    have c1' := hv1.cell
    have HX2 := Aside0.mk h3
    have HRow0 := Aside0.mk hrow0
    have HRow1 := Aside0.mk hrow1
    have HK := Aside0.mk hK
    clear hit hB b0 b1 b2 b3 b4 h3 hsz hrow0 hrow1 hv0 hv1 hK HT1 hST
    gi_wp2
    refine wpIn_wide.2 ?_
    go_quiet (fail)
    gi_wp2
    have hK' : (W.drewN nq).heap[D]? = some (.deferred (some [])) := HK.out
    refine ⟨by simp, .inl ⟨_, _, rfl, run_takeDeferred hK', ?_⟩⟩
    refine ⟨_, results_tmp3 rfl _ _ _, v0, v1, rfl, ?_, ?_, ?_⟩
    · exact RP_of_own (ownsRow_lower (ownsRow_putObj (show (W.drewN nq).ownsRow _ _ _ _ _ _ from HRow0.out) _ hK' rfl) HBA.out.size)
    · exact Kd.R_of_own (ownsRow_lower (ownsRow_putObj (show (W.drewN nq).ownsRow _ _ _ _ _ _ from HRow1.out) _ hK' rfl) HBA.out.size) (fun _ _ => trivial)
    · have hB1 : Below w.heap.size w4 W := HX2.out.below HBA.out.size (fun k hk => by unfold ownK at hk; omega)
      have hB2 : Below w.heap.size w (W.drewN nq) := pw_below_drewN (HBA.out.trans hB1) nq
      exact below_far hB2 (Nat.le_refl _) (B := w.heap.size) (Nat.le_refl _) (grownBy_putObj' _ D _) (by have := HBA.out.size; omega)
theorem pick_Pick.calls (A0 : Option Addr) (c0 : Nat) (l0 : List Ent) (A1 : Option Addr) (c1 : Nat) (l1 : List S36) (a2 : Int) (r1 : List S31) (r2 : List Int) (r3 : Int) (w : World) (hr0 : Kd.C k90 w A0 l0.length l0) (hc0 : l0.length ≤ c0) (hr1 : Kd.C k36 w A1 l1.length l1) (hc1 : l1.length ≤ c1) (hT : TabW w) (h : pick_Pick.f l0 l1 a2 = some (r1, r2, r3)) :
    Calls Tryd.prog 20 #[.slice A0 l0.length c0, .slice A1 l1.length c1, .int .u32 a2] w fun e w' => ∃ v0_ v1_ : Value, e = .returned (.tuple #[v0_, v1_, .int .i64 r3]) ∧ Kd.R k31 31 w' w.heap.size (fun _ => True) v0_ r1 ∧ Kd.R (Kd.int .i64) 3 w' w.heap.size (fun _ => True) v1_ r2 ∧ Below w.heap.size w w' := by
  unfold pick_Pick.f at h
  by_cases hok : okPickArgs l0 l1 a2
  case neg => rw [if_neg hok] at h; cases h
  rw [if_pos hok] at h
  replace h := Option.some.inj h
  by_cases h0 : askedP l0 l1 a2 = 0
  · rw [if_pos h0] at h
    injection h with e1 h
    injection h with e2 e3
    subst e1 e2 e3
    obtain ⟨free, rfl⟩ : ∃ n : Nat, a2 = n := ⟨a2.toNat, by have := hok.2.1; omega⟩
    exact pick_yes A0 c0 l0 A1 c1 l1 free w hr0 hc0 hr1 hc1 hok h0 hT
  · rw [if_neg h0] at h
    injection h with e1 h
    injection h with e2 e3
    subst e1 e2 e3
    exact (pick_no A0 c0 l0 A1 c1 l1 a2 w hr0 hc0 hr1 hc1 hok h0).mono fun e w' h => ⟨_, _, h.1, Kd.R_nil _ _ _ _ _, Kd.R_nil _ _ _ _ _, h.2⟩
end Go.Proofs.YtdmieaidheelbaaDoor.Q
end
/- PickOn -/
section
/- pick.On by its contract: the first placement of a vCPU, at every row of placements. -/
namespace Go.Proofs.YtdmieaidheelbaaDoor.Q
open Go Go.RowKit Go.Proofs.YtdmieaidheelbaaDoorW.PrintWords Go.Proofs.YtdmieaidheelbaaDoorW.PrintLast Go.Proofs.YtdmieaidheelbaaDoorW.PrintMore
set_option linter.unusedVariables false
set_option linter.unusedSimpArgs false

/-- the mask of a wish that a call has returned -/
theorem field36_2 (v0 v1 v2 v3 : Value) (w : World) : (Instr.field 36 (.agg #[v0, v1, v2, v3]) 2).run Tryd.prog w = .ok (.agg #[v2, v3]) w := by
  simp [Instr.field, asAgg, go_sem]
/-- where the first is that something holds of -/
def firstOn (v : Int) : List S31 → Nat → Int
  | [], _ => -1
  | x :: l, i => if (x.f0 == v) = true then (i : Int) else firstOn v l (i + 1)
def onP (l : List S31) (v : Int) : Int × Bool := match l.find? (fun x => x.f0 == v) with | some x => (x.f1, true) | none => (0, false)
def pick_On.f (l0 : List S31) (a1 : Int) : Option (Int × Bool) := if l0.length ≤ 1000000 then some (onP l0 a1) else none
theorem firstOn_spec (v : Int) (l : List S31) : ∀ i, (firstOn v l i = -1 ∧ l.find? (fun x => x.f0 == v) = none) ∨ (∃ j : Nat, firstOn v l i = ((i + j : Nat) : Int) ∧ ∃ h : j < l.length, l.find? (fun x => x.f0 == v) = some l[j]) := by
  induction l with
  | nil => intro i; exact .inl ⟨rfl, rfl⟩
  | cons x l ih =>
    intro i
    rw [firstOn, List.find?_cons]
    cases h : (x.f0 == v) with
    | true => exact .inr ⟨0, rfl, Nat.zero_lt_succ _, rfl⟩
    | false =>
      simp only [Bool.false_eq_true, if_false]
      rcases ih (i + 1) with ⟨h1, h2⟩ | ⟨j, h1, hj, h2⟩
      · exact .inl ⟨h1, h2⟩
      · exact .inr ⟨j + 1, by rw [h1]; congr 1; omega, by simpa using hj, by simpa using h2⟩

set_option maxRecDepth 100000 in
set_option maxHeartbeats 8000000 in
theorem on1_calls (b : Nat) (v : Int) (x0 x1 : Int) (W : World) (hb : Boxed W b 3 (.int .i64 v)) :
    Calls Tryd.prog 66 #[.agg #[.int .i64 x0, .int .i64 x1], .pointer (some ⟨b, 0, none⟩)] W fun e w' => e = .returned (.bool (x0 == v)) ∧ Below W.heap.size W w' := by
  have hu31 := Tryd.underlying31
  have hbl := hb.lt
  have HB := Aside0.mk ((Below.refl W.heap.size W).alloc (Nat.le_refl _) (.cells #[.int .i64 x0, .int .i64 x1] 31))
  have hcell := (hb.alloc (.cells #[.int .i64 x0, .int .i64 x1] 31)).cell
  clear hb
  go_enter Tryd.func66, Tryd.ntmps66
  go_wp2
  go_ret
  exact ⟨rfl, by first | exact HB.out | exact pw_below_drewN HB.out _⟩

set_option maxRecDepth 100000 in
set_option maxHeartbeats 8000000 in
theorem indexOn_calls (b : Nat) (v : Int) (A0 : Option Addr) (c0 : Nat) (l0 : List S31) (w : World) (hr0 : Kd.C k31 w A0 l0.length l0) (hc0 : l0.length ≤ c0) (hl : l0.length ≤ 1000000) (hb : Boxed w b 3 (.int .i64 v)) :
    Calls Tryd.prog 92 #[.slice A0 l0.length c0, .func (.func 66) #[] #[.pointer (some ⟨b, 0, none⟩)]] w fun e w' => e = .returned (.int .i64 (firstOn v l0 0)) ∧ Below w.heap.size w w' := by
  have hu31 := Tryd.underlying31
  have HR0 := Aside0.mk hr0
  have HC0 := Aside0.mk hc0
  have HBX := Aside0.mk hb
  clear hr0 hc0 hb
  go_enter Tryd.func92, Tryd.ntmps92
  go_wp2
  go_loopw [8] (fun s8 wr => ∃ (k : Nat), k ≤ l0.length ∧ s8 = .int .i64 k ∧ Aside0 (firstOn v (l0.drop k) k = firstOn v l0 0) ∧ Aside0 (Below w.heap.size w wr))
    (fun s8 _ => l0.length - (intOf s8).toNat)
  case atStart => exact ⟨0, Nat.zero_le _, rfl, ⟨rfl⟩, ⟨Below.refl _ w⟩⟩
  case round =>
    obtain ⟨k, hk, rfl, HF, HB⟩ := hrel
    by_cases hlt : k < l0.length
    case neg =>
      obtain rfl : k = l0.length := by omega
      have hf := HF.out
      rw [List.drop_length, firstOn] at hf
      have HFF := Aside0.mk hf
      clear hf HF hlt
      go_wp2
      go_ret
      exact ⟨by rw [← HFF.out]; rfl, HB.out⟩
    case pos =>
      have hf := HF.out
      rw [List.drop_eq_getElem_cons hlt, show l0[k] = rd_T31 l0 (k : Int) by simp [rd_T31, hlt], firstOn] at hf
      have HFF := Aside0.mk hf
      clear hf HF
      obtain ⟨ad, rfl, hx0, hx1⟩ := at_T31 (Kd.C_below HR0.out HB.out) (k : Int) (by omega) (by omega)
      rw [Int.toNat_natCast] at hx0 hx1
      generalize rd_T31 l0 (k : Int) = x at *
      have hp : decide ((k : Int) < (l0.length : Int)) = true := decide_eq_true (by omega)
      cases hq : (x.f0 == v) with
      | true =>
        have hf := HFF.out
        rw [hq, if_pos rfl] at hf
        have HFT := Aside0.mk hf
        clear HFF hf
        go_wp2_with (go_at_call 66; refine (on1_calls b v x.f0 x.f1 _ ((HB.out.block _ HBX.out.lt).trans HBX.out)).mono ?_; rintro e w5 ⟨rfl, hb5⟩; have HB5 := Aside0.mk (below_step HB.out hb5); clear hb5; try rw [hq])
        go_ret
        exact ⟨by rw [← HFT.out]; rfl, HB5.out⟩
      | false =>
        have hf := HFF.out
        rw [hq, if_neg (by simp)] at hf
        have HFN := Aside0.mk hf
        clear HFF hf
        go_wp2_with (go_at_call 66; refine (on1_calls b v x.f0 x.f1 _ ((HB.out.block _ HBX.out.lt).trans HBX.out)).mono ?_; rintro e w5 ⟨rfl, hb5⟩; have HB5 := Aside0.mk (below_step HB.out hb5); clear hb5; try rw [hq])
        go_roundw
        case measure => simp only [intOf]; omega
        case rel => exact ⟨k + 1, by omega, by simp, HFN, HB5⟩
def findP (l : List S31) (v : Int) : S31 × Bool := match l.find? (fun x => x.f0 == v) with | some x => (x, true) | none => (⟨0, 0⟩, false)
theorem on_find (l : List S31) (v : Int) : onP l v = ((findP l v).1.f1, (findP l v).2) := by
  unfold onP findP
  cases l.find? (fun x => x.f0 == v) <;> rfl
set_option maxRecDepth 100000 in
set_option maxHeartbeats 8000000 in
theorem findOn_calls (b : Nat) (v : Int) (A0 : Option Addr) (c0 : Nat) (l0 : List S31) (w : World) (hr0 : Kd.C k31 w A0 l0.length l0) (hc0 : l0.length ≤ c0) (hl : l0.length ≤ 1000000) (hb : Boxed w b 3 (.int .i64 v)) :
    Calls Tryd.prog 65 #[.slice A0 l0.length c0, .func (.func 66) #[] #[.pointer (some ⟨b, 0, none⟩)]] w fun e w' => e = .returned (.tuple #[.agg #[.int .i64 (findP l0 v).1.f0, .int .i64 (findP l0 v).1.f1], .bool (findP l0 v).2]) ∧ Below w.heap.size w w' := by
  have hu31 := Tryd.underlying31
  have HR0 := Aside0.mk hr0
  have HC0 := Aside0.mk hc0
  have HL := Aside0.mk hl
  have HB := Aside0.mk ((Below.refl w.heap.size w).alloc (Nat.le_refl _) (.cells #[.int .i64 0, .int .i64 0] 31))
  have HBX := Aside0.mk (hb.alloc (.cells #[.int .i64 0, .int .i64 0] 31))
  have hnew := heap_alloc_new w (.cells #[.int .i64 0, .int .i64 0] 31)
  have HN := Aside0.mk hnew
  clear hr0 hc0 hb hnew hl
  rcases firstOn_spec v l0 0 with ⟨hf, hfd⟩ | ⟨j, hf, hj, hfd⟩
  · have HP := Aside0.mk (show findP l0 v = (⟨0, 0⟩, false) by unfold findP; rw [hfd])
    have HF := Aside0.mk hf
    clear hf hfd
    go_enter Tryd.func65, Tryd.ntmps65
    go_wp2_with (go_at_call 92; refine (indexOn_calls b v A0 c0 l0 _ (Kd.C_below HR0.out HB.out) HC0.out HL.out HBX.out).mono ?_; rintro e w5 ⟨rfl, hb5⟩; rw [HF.out]; have HB5 := Aside0.mk (below_step HB.out hb5); have hn5 := (hb5.block _ (blk_lt HN.out)).trans HN.out; have hk0 := (blk_cell hn5 0); have hk1 := (blk_cell hn5 1); have hz0 := blk_frozen hn5 0; have hz1 := blk_frozen hn5 1; have HN5 := Aside0.mk hn5; simp only [List.getElem?_toArray, List.getElem?_cons_zero, List.getElem?_cons_succ] at hk0 hk1; clear hb5 hn5)
    refine bodyPost_ret (results_ct rfl _ _ w.heap.size 31 #[.int .i64 0, .int .i64 0] (0, 0) _ rfl (by refine blk_put (cs := #[.int .i64 0, .int .i64 0]) ?_ 1 _ rfl; refine blk_put (cs := #[.int .i64 0, .int .i64 0]) ?_ 0 _ rfl; exact HN5.out) hu31 rfl (by kernel_rfl)) rfl ?_
    exact ⟨by rw [HP.out]; rfl, (HB5.out.setCell (Nat.le_refl _) _).setCell (Nat.le_refl _) _⟩
  · have HP := Aside0.mk (show findP l0 v = (l0[j], true) by unfold findP; rw [hfd])
    have hf' : firstOn v l0 0 = (j : Int) := by rw [hf]; omega
    have HF := Aside0.mk hf'
    obtain ⟨ad, rfl, hx0, hx1⟩ := at_T31 HR0.out (j : Int) (by omega) (by omega)
    rw [Int.toNat_natCast] at hx0 hx1
    have HX0 := Aside0.mk hx0
    have HX1 := Aside0.mk hx1
    replace HP := Aside0.mk (HP.out.trans (by rw [show l0[j] = rd_T31 l0 (j : Int) by simp [rd_T31, hj]]))
    clear hf hfd hf' hx0 hx1
    generalize rd_T31 l0 (j : Int) = x at *
    have hj0 : decide ((j : Int) < 0) = false := decide_eq_false (by omega)
    go_enter Tryd.func65, Tryd.ntmps65
    go_wp2_with (go_at_call 92; refine (indexOn_calls b v (some ad) c0 l0 _ (Kd.C_below HR0.out HB.out) HC0.out HL.out HBX.out).mono ?_; rintro e w5 ⟨rfl, hb5⟩; rw [HF.out]; have HB5 := Aside0.mk (below_step HB.out hb5); have hn5 := (hb5.block _ (blk_lt HN.out)).trans HN.out; have hk0 := (blk_cell hn5 0); have hk1 := (blk_cell hn5 1); have hz0 := blk_frozen hn5 0; have hz1 := blk_frozen hn5 1; have HN5 := Aside0.mk hn5; simp only [List.getElem?_toArray, List.getElem?_cons_zero, List.getElem?_cons_succ] at hk0 hk1; have hy0 := pw_cell_below HB5.out HX0.out; have hy1 := pw_cell_below HB5.out HX1.out; clear hb5 hn5)
    refine bodyPost_ret (results_ct rfl _ _ w.heap.size 31 #[.int .i64 x.f0, .int .i64 x.f1] (0, 0) _ rfl (by refine blk_put (cs := #[.int .i64 x.f0, .int .i64 0]) ?_ 1 _ rfl; refine blk_put (cs := #[.int .i64 0, .int .i64 0]) ?_ 0 _ rfl; exact HN5.out) hu31 rfl (by kernel_rfl)) rfl ?_
    exact ⟨by rw [HP.out]; rfl, (HB5.out.setCell (Nat.le_refl _) _).setCell (Nat.le_refl _) _⟩
set_option maxRecDepth 100000 in
set_option maxHeartbeats 8000000 in
theorem pick_On.calls (A0 : Option Addr) (c0 : Nat) (l0 : List S31) (a1 : Int) (r1 : Int) (r2 : Bool) (w : World) (hr0 : Kd.C k31 w A0 l0.length l0) (hc0 : l0.length ≤ c0) (h : pick_On.f l0 a1 = some (r1, r2)) :
    Calls Tryd.prog 24 #[.slice A0 l0.length c0, .int .i64 a1] w fun e w' => e = .returned (.tuple #[.int .i64 r1, .bool r2]) ∧ Below w.heap.size w w' := by
  unfold pick_On.f at h
  by_cases hl : l0.length ≤ 1000000
  case neg => rw [if_neg hl] at h; cases h
  rw [if_pos hl] at h
  have e := (on_find l0 a1).symm.trans (Option.some.inj h)
  have HE1 := Aside0.mk (congrArg Prod.fst e)
  have HE2 := Aside0.mk (congrArg Prod.snd e)
  have hu31 := Tryd.underlying31
  have HR0 := Aside0.mk hr0
  have HC0 := Aside0.mk hc0
  have HL := Aside0.mk hl
  have HB := Aside0.mk ((Below.refl w.heap.size w).alloc (Nat.le_refl _) (.cells #[.int .i64 a1] 3))
  have HBX := Aside0.mk (show Boxed (w.alloc (.cells #[.int .i64 a1] 3)) w.heap.size 3 (.int .i64 a1) from heap_alloc_new w _)
  clear hr0 hc0 hl h e
  go_enter Tryd.func24, Tryd.ntmps24
  go_wp2_with (go_at_call 65; refine (findOn_calls w.heap.size a1 A0 c0 l0 _ (Kd.C_below HR0.out HB.out) HC0.out HL.out HBX.out).mono ?_; rintro e w5 ⟨rfl, hb5⟩; have HB5 := Aside0.mk (below_step HB.out hb5); clear hb5)
  refine bodyPost_ret (results_tmp2 rfl _ _ _) rfl ?_
  exact ⟨by rw [← HE1.out, ← HE2.out]; rfl, below_alloc HB5.out _⟩
end Go.Proofs.YtdmieaidheelbaaDoor.Q
end
/- PickFacts -/
section
/- What the turns of pick.Pick are: who is where, what is free when. Lists and numbers alone. -/
namespace Go.Proofs.YtdmieaidheelbaaDoor.Q
open Go Go.RowKit Go.Proofs.YtdmieaidheelbaaDoorW.PrintWords Go.Proofs.YtdmieaidheelbaaDoorW.PrintLast Go.Proofs.YtdmieaidheelbaaDoorW.PrintMore
set_option linter.unusedVariables false
set_option linter.unusedSimpArgs false

abbrev Turns := List (Ent × Option (List Int))
/-! a vCPU's wish -/
section
variable {l0 : List Ent} {w : List S36} (hs : Shape l0 w)
include hs
theorem wish_unique : ∀ x ∈ w, ∀ y ∈ w, x.f0 = y.f0 → x = y := by
  have h := hs.wrise
  clear hs
  induction w with
  | nil => intro x hx; simp at hx
  | cons z w ih =>
    obtain ⟨h1, h2⟩ := List.pairwise_cons.1 h
    intro x hx y hy e
    rcases List.mem_cons.1 hx with rfl | hx2
    · rcases List.mem_cons.1 hy with rfl | hy2
      · rfl
      · have := h1 y hy2; omega
    · rcases List.mem_cons.1 hy with e2 | hy2
      · subst e2; have := h1 x hx2; omega
      · exact ih h2 x hx2 y hy2 e
theorem wishOf_eq (y : S36) (hy : y ∈ w) : wishOf w y.f0 = y := by
  have hm : y ∈ wishesN w [y.f0] := List.mem_filter.2 ⟨hy, by simp⟩
  unfold wishOf
  match hq : wishesN w [y.f0], hm with
  | z :: rest, hm =>
    have hz : z ∈ wishesN w [y.f0] := by rw [hq]; simp
    obtain ⟨z1, z2⟩ := List.mem_filter.1 hz
    exact wish_unique hs z z1 y hy (by simpa using z2)
theorem wishOf_mem (v : Int) (hv : v ∈ members l0) : wishOf w v ∈ w ∧ (wishOf w v).f0 = v := by
  obtain ⟨y, hy, rfl⟩ := List.mem_map.1 (hs.all_wish v hv)
  rw [wishOf_eq hs y hy]
  exact ⟨hy, rfl⟩
theorem wishes_get (x : Ent) (hx : x ∈ l0) (j : Nat) (hj : j < x.f0.length) : ∃ h : j < (wishesN w x.f0).length, (wishesN w x.f0)[j] = wishOf w x.f0[j] := by
  have hl := hs.wishes_len x hx
  refine ⟨by omega, ?_⟩
  have hm0 : (wishesN w x.f0)[j]'(by omega) ∈ wishesN w x.f0 := List.getElem_mem _
  have hm : (wishesN w x.f0)[j]'(by omega) ∈ w := (List.mem_filter.1 hm0).1
  have hf : ((wishesN w x.f0)[j]'(by omega)).f0 = x.f0[j] := by
    have := hs.wishes x hx
    have h2 : ((wishesN w x.f0).map (·.f0))[j]? = x.f0[j]? := by rw [this]
    rw [List.getElem?_map, List.getElem?_eq_getElem (show j < (wishesN w x.f0).length by omega), List.getElem?_eq_getElem hj] at h2
    simpa using h2
  rw [← hf]; exact (wishOf_eq hs _ hm).symm
end
/-- what a mask lets a vCPU take of what is free -/
def mayN (w : List S36) (v : Int) (free : Nat) : Nat := allowsN (wishOf w v).f2.f0.toNat (wishOf w v).f2.f1.toNat free
structure Took (w : List S36) (free : Nat) (x : Ent) (m : List Int) : Prop where
  len : m.length = x.f0.length
  nodup : m.Nodup
  may : ∀ j (h : j < x.f0.length), hasN (mayN w x.f0[j] free) (m.getD j 0) = true
theorem sdr_nodup (rows : List (List Int)) (f : List Int) (h : Sdr rows [] f) : f.Nodup := by
  obtain ⟨hl, _⟩ := sdr_mem rows [] f h
  have h2 := (sdr_fun rows [] f h).2
  rw [List.nodup_iff_pairwise_ne, List.pairwise_iff_getElem]
  intro i j hi hj hij e
  have := h2 i j (by omega) (by omega) (by simpa [List.getD_eq_getElem?_getD, hi, hj] using e)
  omega
theorem took {l0 : List Ent} {w : List S36} (hs : Shape l0 w) (x : Ent) (hx : x ∈ l0) (free : Nat) (m : List Int) (h : atOf w free x = some m) : Took w free x m := by
  have hw := hs.wishes_len x hx
  have hlen := (hs.len x hx).1
  obtain ⟨r1, r2⟩ := at_range w free x hw m h (by omega)
  unfold atOf at h
  split at h
  case isFalse => cases h
  case isTrue ht =>
  have hm := Option.some.inj h
  clear h
  unfold takesP at ht hm
  by_cases h1 : 1 < (wishesN w x.f0).length
  · rw [if_pos h1] at ht hm
    unfold matchP at ht hm
    cases hq : matchFrom ((wishesN w x.f0).map (choicesN free)) [] with
    | none => rw [hq] at ht; cases ht
    | some m' =>
      rw [hq] at hm
      obtain rfl : m' = m := hm
      obtain ⟨f, e, hf⟩ := match_sdr _ _ _ hq
      rw [List.nil_append] at e
      subst e
      refine ⟨r1, sdr_nodup _ _ hf, fun j hj => ?_⟩
      obtain ⟨hl, hmm⟩ := sdr_mem _ _ _ hf
      obtain ⟨g1, g2⟩ := wishes_get hs x hx j hj
      have := hmm j (by omega)
      unfold rowAt at this
      rw [List.getD_eq_getElem?_getD, List.getElem?_map, List.getElem?_eq_getElem g1, g2] at this
      have h3 : m'[j]'(by omega) ∈ choicesM (wishOf w x.f0[j]).f2.f0.toNat (wishOf w x.f0[j]).f2.f1.toNat free (wishOf w x.f0[j]).f1 := this
      rw [mem_choicesM] at h3
      rw [List.getD_eq_getElem?_getD, List.getElem?_eq_getElem (by omega)]
      exact h3
  · rw [if_neg h1] at ht hm
    obtain ⟨g1, g2⟩ := wishes_get hs x hx 0 (by omega)
    match hws : wishesN w x.f0, hw, h1 with
    | [], hw, _ => simp at hw; omega
    | [y], hw, _ =>
      simp only [hws] at ht hm g2
      have hb := best_range _ _ _ _ ht
      obtain rfl : [_] = m := hm
      refine ⟨r1, by simp, fun j hj => ?_⟩
      have hj0 : j = 0 := by simp at hw; omega
      subst hj0
      have g3 : y = wishOf w x.f0[0] := by simpa using g2
      unfold mayN
      rw [← g3]
      exact hb
    | _ :: _ :: _, _, h1 => simp at h1
theorem next_some2 : ∀ n : Fin 256, n.val ≠ 0 → (nextOf n.val (-1)).2 = true := by decide +kernel
theorem best_none (h s p : Nat) (a : Int) (hb : (bestN h s p a).2 = false) : allowsN h s p = 0 := by
  unfold bestN at hb
  split at hb
  · cases hb
  · refine Decidable.byContradiction fun hn => ?_
    have hl : likesN h s p ≠ 0 := by
      unfold likesN
      split
      · exact hn
      · assumption
    have := next_some2 ⟨likesN h s p, likesN_lt _ _ _⟩ hl
    rw [this] at hb
    cases hb
theorem waits_one {l0 : List Ent} {w : List S36} (hs : Shape l0 w) (x : Ent) (hx : x ∈ l0) (free : Nat) (h : atOf w free x = none) (v : Int) (hv : x.f0 = [v]) : mayN w v free = 0 := by
  have hw := hs.wishes_len x hx
  obtain ⟨g1, g2⟩ := wishes_get hs x hx 0 (by rw [hv]; simp)
  unfold atOf takesP at h
  rw [hv] at hw
  match hws : wishesN w x.f0, hw with
  | [y], hw =>
    simp only [hws] at h g2
    have g3 : y = wishOf w v := by
      have e : x.f0[0]'(by rw [hv]; simp) = v := by simp [hv]
      rw [← e]; simpa using g2
    unfold mayN
    rw [← g3]
    refine best_none _ _ _ y.f1 ?_
    cases hb : (bestN y.f2.f0.toNat y.f2.f1.toNat free y.f1).2 with
    | false => rfl
    | true =>
      rw [if_neg (show ¬ 1 < [y].length by simp)] at h
      simp [hb] at h
  | [], hw => rw [hv] at hws; rw [hws] at hw; simp at hw
  | _ :: _ :: _, hw => rw [hv] at hws; rw [hws] at hw; simp at hw

/-! what is free ahead of a turn -/
def freeAt (w : List S36) : Nat → List Ent → Nat → Nat
  | free, [], _ => free
  | free, _ :: _, 0 => free
  | free, x :: l, i + 1 => freeAt w (lessAll free ((atOf w free x).getD [])) l i
theorem freeAt_zero (w : List S36) (free : Nat) (l : List Ent) : freeAt w free l 0 = free := by cases l <;> rfl
theorem turns_get (w : List S36) (l : List Ent) : ∀ (free i : Nat) (h : i < l.length), (pickTurns w free l)[i]? = some (l[i], atOf w (freeAt w free l i) l[i]) := by
  induction l with
  | nil => intro free i h; simp at h
  | cons x l ih =>
    intro free i h
    cases i with
    | zero => rfl
    | succ i =>
      rw [pickTurns, List.getElem?_cons_succ, ih _ i (by simpa using h)]
      rfl
theorem freeAt_succ (w : List S36) (l : List Ent) : ∀ (free i : Nat) (h : i < l.length), freeAt w free l (i + 1) = lessAll (freeAt w free l i) ((atOf w (freeAt w free l i) l[i]).getD []) := by
  induction l with
  | nil => intro free i h; simp at h
  | cons x l ih =>
    intro free i h
    cases i with
    | zero => show freeAt w _ l 0 = _; rw [freeAt_zero]; rfl
    | succ i =>
      show freeAt w _ l (i + 1) = _
      rw [ih _ i (by simpa using h)]
      rfl
theorem freeAt_lt (w : List S36) (l : List Ent) : ∀ (free i : Nat), free < 256 → freeAt w free l i < 256 := by
  induction l with
  | nil => intro free i h; cases i <;> exact h
  | cons x l ih =>
    intro free i h
    cases i with
    | zero => exact h
    | succ i => exact ih _ i (lessAll_lt _ h _)
theorem lessAll_bit (m : List Int) (hm : ∀ c ∈ m, 0 ≤ c ∧ c < 8) : ∀ (f b : Nat), b < 8 → (lessAll f m).testBit b = (f.testBit b && !decide ((b : Int) ∈ m)) := by
  induction m with
  | nil => intro f b hb; simp [lessAll]
  | cons c m ih =>
    intro f b hb
    obtain ⟨h0, h8⟩ := hm c (by simp)
    show (lessAll (minus f (2 ^ c.toNat)) m).testBit b = _
    rw [ih (fun x hx => hm x (by simp [hx])) _ b hb, minus_bit _ _ _ (pow_lt256 _ (by omega)) hb, pow_bit, Bool.and_assoc]
    congr 1
    by_cases e : (b : Int) = c
    · have : c.toNat = b := by omega
      simp [e, this]
    · have : c.toNat ≠ b := by omega
      simp [e, this]
theorem orRow_bit (m : List Int) (hm : ∀ c ∈ m, 0 ≤ c ∧ c < 8) : ∀ (a b : Nat), a < 256 → b < 8 → (orRow a m).testBit b = (a.testBit b || decide ((b : Int) ∈ m)) ∧ orRow a m < 256 := by
  induction m with
  | nil => intro a b ha hb; simp [orRow, ha]
  | cons c m ih =>
    intro a b ha hb
    obtain ⟨h0, h8⟩ := hm c (by simp)
    have hp := pow_lt256 c.toNat (by omega)
    obtain ⟨g1, g2⟩ := ih (fun x hx => hm x (by simp [hx])) (a ||| 2 ^ c.toNat) b (or_lt256 _ _ ha hp) hb
    refine ⟨?_, g2⟩
    show (orRow (a ||| 2 ^ c.toNat) m).testBit b = _
    rw [g1, Nat.testBit_or, pow_bit, Bool.or_assoc]
    congr 1
    by_cases e : (b : Int) = c
    · have : c.toNat = b := by omega
      simp [e, this]
    · have : c.toNat ≠ b := by omega
      simp [e, this]
theorem bit_lt (a b : Nat) (ha : a < 256) (h : a.testBit b = true) : b < 8 := by
  rcases Nat.lt_or_ge b 8 with hb | hb
  · exact hb
  · rw [Nat.testBit_lt_two_pow (Nat.lt_of_lt_of_le ha (by have := Nat.pow_le_pow_right (n := 2) (by decide) hb; simpa using this))] at h
    cases h

/-! where a vCPU is -/
theorem find_zip_none (v : Int) : ∀ (vs cs : List Int), v ∉ vs → (zipP vs cs).find? (fun x => x.f0 == v) = none := by
  intro vs
  induction vs with
  | nil => intro cs _; rfl
  | cons u vs ih =>
    intro cs hv
    cases cs with
    | nil => rfl
    | cons c cs =>
      have hu : (u == v) = false := by simp at hv ⊢; omega
      show List.find? _ (⟨u, c⟩ :: zipP vs cs) = none
      rw [List.find?_cons]
      simp only [hu]
      exact ih cs (fun h => hv (by simp [h]))
theorem find_zip : ∀ (vs cs : List Int), vs.Nodup → vs.length = cs.length → ∀ j (h : j < vs.length), (zipP vs cs).find? (fun x => x.f0 == vs[j]) = some ⟨vs[j], cs.getD j 0⟩ := by
  intro vs
  induction vs with
  | nil => intro cs _ _ j h; simp at h
  | cons u vs ih =>
    intro cs hn hl j h
    cases cs with
    | nil => simp at hl
    | cons c cs =>
      obtain ⟨h1, h2⟩ := List.nodup_cons.1 hn
      cases j with
      | zero => show List.find? _ (⟨u, c⟩ :: zipP vs cs) = _; rw [List.find?_cons]; simp
      | succ j =>
        have hj : j < vs.length := by simpa using h
        have hu : (u == vs[j]) = false := by
          simp only [beq_eq_false_iff_ne]
          intro e; exact h1 (e ▸ List.getElem_mem hj)
        show List.find? (fun x => x.f0 == vs[j]) (⟨u, c⟩ :: zipP vs cs) = _
        rw [List.find?_cons]
        simp only [hu]
        rw [ih cs h2 (by simpa using hl) j hj]
        simp
def TsOk (ts : Turns) : Prop := (∀ p ∈ ts, p.1.f0.Nodup ∧ ∀ m, p.2 = some m → m.length = p.1.f0.length) ∧ ts.Pairwise (fun p q => ∀ v ∈ p.1.f0, v ∉ q.1.f0)
theorem puts_cons (p : Ent × Option (List Int)) (ts : Turns) : pickPuts (p :: ts) = putsP p ++ pickPuts ts := by simp [pickPuts]
theorem find_none_ts (v : Int) : ∀ (ts : Turns), (∀ p ∈ ts, v ∉ p.1.f0) → (pickPuts ts).find? (fun x => x.f0 == v) = none := by
  intro ts
  induction ts with
  | nil => intro _; rfl
  | cons p ts ih =>
    intro h
    rw [puts_cons, List.find?_append, ih (fun q hq => h q (by simp [hq]))]
    have hp := h p (by simp)
    unfold putsP
    cases p.2 with
    | none => rfl
    | some m => simp [find_zip_none v _ _ hp]
theorem on_ts : ∀ (ts : Turns), TsOk ts → ∀ p ∈ ts, ∀ j (h : j < p.1.f0.length), onP (pickPuts ts) p.1.f0[j] = match p.2 with | none => (0, false) | some m => (m.getD j 0, true) := by
  intro ts
  induction ts with
  | nil => intro _ p hp; simp at hp
  | cons q ts ih =>
    intro ⟨h1, h2⟩ p hp j hj
    obtain ⟨h3, h4⟩ := List.pairwise_cons.1 h2
    rcases List.mem_cons.1 hp with rfl | hp
    · have hn := (h1 p (by simp)).1
      unfold onP
      rw [puts_cons, List.find?_append, find_none_ts _ ts (fun r hr => h3 r hr _ (List.getElem_mem hj))]
      unfold putsP
      cases hq : p.2 with
      | none => rfl
      | some m =>
        have hl := (h1 p (by simp)).2 m hq
        simp only
        rw [find_zip _ _ hn hl.symm j hj]
        rfl
    · have := ih ⟨fun r hr => h1 r (by simp [hr]), h4⟩ p hp j hj
      rw [← this]
      unfold onP
      rw [puts_cons, List.find?_append]
      have hv : p.1.f0[j] ∉ q.1.f0 := fun hm => h3 p hp _ hm (List.getElem_mem hj)
      have : (putsP q).find? (fun x => x.f0 == p.1.f0[j]) = none := by
        unfold putsP
        cases q.2 with
        | none => rfl
        | some m => exact find_zip_none _ _ _ hv
      rw [this]; rfl
theorem turns_ok {l0 : List Ent} {w : List S36} (hs : Shape l0 w) (free : Nat) (l : List Ent) (hl : ∀ x ∈ l, x ∈ l0) (hp : l.Pairwise (fun x y => ∀ v ∈ x.f0, v ∉ y.f0)) : TsOk (pickTurns w free l) := by
  induction l generalizing free with
  | nil => exact ⟨by simp [pickTurns], List.Pairwise.nil⟩
  | cons x l ih =>
    obtain ⟨h1, h2⟩ := List.pairwise_cons.1 hp
    obtain ⟨g1, g2⟩ := ih (lessAll free ((atOf w free x).getD [])) (fun y hy => hl y (by simp [hy])) h2
    refine ⟨fun p hp => ?_, List.pairwise_cons.2 ⟨fun p hp => ?_, g2⟩⟩
    · rcases List.mem_cons.1 hp with rfl | hp
      · exact ⟨rising_nodup (hs.rise x (hl x (by simp))), fun m hm => (took hs x (hl x (by simp)) free m hm).len⟩
      · exact g1 p hp
    · have : p.1 ∈ (pickTurns w (lessAll free ((atOf w free x).getD [])) l).map (·.1) := List.mem_map.2 ⟨p, hp, rfl⟩
      rw [turns_fst] at this
      exact h1 p.1 this
/-- the placements' place of a member of the i-th entity -/
theorem on_at {l : List Ent} {w : List S36} (hs : Shape l w) (free i : Nat) (hi : i < l.length) (j : Nat) (hj : j < l[i].f0.length) :
    onP (pickPuts (pickTurns w free l)) l[i].f0[j] = match atOf w (freeAt w free l i) l[i] with | none => (0, false) | some m => (m.getD j 0, true) := by
  have h := turns_get w l free i hi
  have hm := List.mem_of_getElem? h
  exact on_ts _ (turns_ok hs free l (fun _ h => h) hs.apart) _ hm j hj
theorem took_range {w : List S36} {free : Nat} {x : Ent} {m : List Int} (h : Took w free x m) : ∀ c ∈ m, 0 ≤ c ∧ c < 8 := by
  intro c hc
  obtain ⟨j, hj, rfl⟩ := List.mem_iff_getElem.1 hc
  have := h.may j (by have := h.len; omega)
  rw [List.getD_eq_getElem?_getD, List.getElem?_eq_getElem hj] at this
  unfold hasN at this
  simp only [Bool.and_eq_true, decide_eq_true_eq] at this
  exact this.1
theorem On_val (puts : List S31) (hl : puts.length ≤ 1000000) (v : Int) : pick_On.f puts v = some (onP puts v) := by unfold pick_On.f; rw [if_pos hl]
theorem Within_val (a b : Nat) (ha : a < 256) (hb : b < 256) (h : ∀ i, i < 8 → a.testBit i = true → b.testBit i = true) : cpuset_Within.f (a : Int) (b : Int) = some true := by
  have h1 : Go.bits .and .u32 (a : Int) 255 = ((a &&& 255 : Nat) : Int) := and_nat a 255 (by omega) (by omega)
  have h2 : a &&& 255 = a := by rw [Nat.and_two_pow_sub_one_eq_mod a 8]; omega
  unfold cpuset_Within.f
  rw [h1, h2, andNot_nat a b (by omega) hb]
  have : a &&& (4294967295 - b) = 0 := by
    refine Nat.eq_of_testBit_eq fun i => ?_
    rw [Nat.testBit_and, Nat.zero_testBit]
    cases hai : a.testBit i with
    | false => rfl
    | true =>
      have hi := bit_lt a i ha hai
      rw [testBit_max_sub b i (by omega) (by omega), h i hi hai]
      rfl
  rw [this]
  rfl
end Go.Proofs.YtdmieaidheelbaaDoor.Q
end
/- QRa -/
section
-- Written by a program of this session (hprint.py), which drives the kit's print over hand-proved contracts. Lean checks it.
namespace Go.Proofs.YtdmieaidheelbaaDoor.Q
open Go.RowKit Go.Proofs.YtdmieaidheelbaaDoorW.PrintWords Go.Proofs.YtdmieaidheelbaaDoorW.PrintLast Go.Proofs.YtdmieaidheelbaaDoorW.PrintMore
attribute [local go_sem] max2_int min2_int max_two min_two max_three min_three max_four min_four   -- for this text's walks alone
set_option linter.unusedVariables false
set_option linter.unusedSimpArgs false

/-! ### mainsheetref04_SameInts: function 31 -/
def mainsheetref04_SameInts.l0 : Nat → List Int → List Int → Int → Int → Option (Bool)
  | 0, _, _, _, _ => none
  | k + 1, x0, x1, x12, x13 => if x13 < x12 then (if 0 ≤ x13 then (if x13 < (x0.length : Int) then (if x13 < (x1.length : Int) then (if (rd x0 x13) = (rd x1 x13) then (mainsheetref04_SameInts.l0 k x0 x1 x12 (wrap64 (x13 + 1))) else (some false)) else (none)) else (none)) else (none)) else (some true)
def mainsheetref04_SameInts.f (k : Nat) (l0 : List Int) (l1 : List Int) : Option (Bool) := if (l0.length : Int) = (l1.length : Int) then (mainsheetref04_SameInts.l0 k l0 l1 (l0.length : Int) 0) else (some false)
theorem mainsheetref04_SameInts.mono_l : ∀ k, (∀ y0 y1 y2 y3, LeO (mainsheetref04_SameInts.l0 k y0 y1 y2 y3) (mainsheetref04_SameInts.l0 (k + 1) y0 y1 y2 y3))
  | 0 => fun _ _ _ _ r h => by simp [mainsheetref04_SameInts.l0] at h
  | k + 1 => by
    have ih0 := mainsheetref04_SameInts.mono_l k
    · intro y0 y1 y2 y3
      unfold mainsheetref04_SameInts.l0
      repeat' first
      | (with_reducible exact ih0 _ _ _ _)
      | (with_reducible exact LeO.refl _)
      | (with_reducible exact LeO.none _)
      | (with_reducible refine LeO.ite ?_ ?_)
      | (with_reducible refine LeO.bind ?_ (fun _ => ?_))
      | exact ih0 _ _ _ _
      | exact LeO.none _
      | refine LeO.ite ?_ ?_
      | refine LeO.bind ?_ (fun _ => ?_)
theorem mainsheetref04_SameInts.mono : ∀ a0 a1 k, LeO (mainsheetref04_SameInts.f k a0 a1) (mainsheetref04_SameInts.f (k + 1) a0 a1) := by
  intro a0 a1 k
  have ih0 := mainsheetref04_SameInts.mono_l k
  unfold mainsheetref04_SameInts.f
  repeat' first
      | (with_reducible exact ih0 _ _ _ _)
      | (with_reducible exact LeO.refl _)
      | (with_reducible exact LeO.none _)
      | (with_reducible refine LeO.ite ?_ ?_)
      | (with_reducible refine LeO.bind ?_ (fun _ => ?_))
      | exact ih0 _ _ _ _
      | exact LeO.none _
      | refine LeO.ite ?_ ?_
      | refine LeO.bind ?_ (fun _ => ?_)
/-! ### mainsheetref04_Cpu: function 99 -/
def mainsheetref04_Cpu.f (a0 : Int) : Option (Bool) := if a0 ≥ 0 then (some (decide (a0 < 8))) else (some false)
/-! ### mainsheetref04_Has: function 76 -/
def mainsheetref04_Has.f (a0 : Int) (a1 : Int) : Option (Bool) := (mainsheetref04_Cpu.f a1).bind fun t180 => (if t180 = true then (if 0 ≤ a1 then (some ((Int.tmod (shr .u32 a0 a1) 2) == 1)) else (none)) else (some false))
/-! ### mainsheetref07_Allows: function 77 -/
def mainsheetref07_Allows.f (a0_0 : Int) (a0_1 : Int) (a1 : Int) : Option (Int) := some (Go.bits .and .u32 a0_0 a1)
/-! ### mainsheetref07_Likes: function 87 -/
def mainsheetref07_Likes.f (a0_0 : Int) (a0_1 : Int) (a1 : Int) : Option (Int) := if (Go.bits .and .u32 (Go.bits .and .u32 a0_0 a1) a0_1) > 0 then (some (Go.bits .and .u32 (Go.bits .and .u32 a0_0 a1) a0_1)) else (some (Go.bits .and .u32 a0_0 a1))
/-! ### mainsheetref04_List: function 101 -/
def mainsheetref04_List.l0 : Nat → Int → List Int → Int → Option (List Int)
  | 0, _, _, _ => none
  | k + 1, x0, x3, x5 => if x5 < 8 then ((mainsheetref04_Has.f x0 x5).bind fun t183 => (if t183 = true then (if x3.length < 17592186044416 then (mainsheetref04_List.l0 k x0 (x3 ++ [x5]) (wrap64 (x5 + 1))) else (none)) else (mainsheetref04_List.l0 k x0 x3 (wrap64 (x5 + 1))))) else (some x3)
def mainsheetref04_List.f (k : Nat) (a0 : Int) : Option (List Int) := mainsheetref04_List.l0 k a0 ([] : List Int) 0
theorem mainsheetref04_List.mono_l : ∀ k, (∀ y0 y1 y2, LeO (mainsheetref04_List.l0 k y0 y1 y2) (mainsheetref04_List.l0 (k + 1) y0 y1 y2))
  | 0 => fun _ _ _ r h => by simp [mainsheetref04_List.l0] at h
  | k + 1 => by
    have ih0 := mainsheetref04_List.mono_l k
    · intro y0 y1 y2
      unfold mainsheetref04_List.l0
      repeat' first
      | (with_reducible exact ih0 _ _ _)
      | (with_reducible exact LeO.refl _)
      | (with_reducible exact LeO.none _)
      | (with_reducible refine LeO.ite ?_ ?_)
      | (with_reducible refine LeO.bind ?_ (fun _ => ?_))
      | exact ih0 _ _ _
      | exact LeO.none _
      | refine LeO.ite ?_ ?_
      | refine LeO.bind ?_ (fun _ => ?_)
theorem mainsheetref04_List.mono : ∀ a0 k, LeO (mainsheetref04_List.f k a0) (mainsheetref04_List.f (k + 1) a0) := by
  intro a0 k
  have ih0 := mainsheetref04_List.mono_l k
  unfold mainsheetref04_List.f
  repeat' first
      | (with_reducible exact ih0 _ _ _)
      | (with_reducible exact LeO.refl _)
      | (with_reducible exact LeO.none _)
      | (with_reducible refine LeO.ite ?_ ?_)
      | (with_reducible refine LeO.bind ?_ (fun _ => ?_))
      | exact ih0 _ _ _
      | exact LeO.none _
      | refine LeO.ite ?_ ?_
      | refine LeO.bind ?_ (fun _ => ?_)
/-! ### mainsheetref04_Next: function 100 -/
def mainsheetref04_Next.l0 : Nat → Int → List Int → Int → Int → Option (Int × Bool)
  | 0, _, _, _, _ => none
  | k + 1, x1, x9, x10, x11 => if x11 < x10 then (if 0 ≤ x11 then (if x11 < (x9.length : Int) then (if (rd x9 x11) > x1 then (some (rd x9 x11, true)) else (mainsheetref04_Next.l0 k x1 x9 x10 (wrap64 (x11 + 1)))) else (none)) else (none)) else (some (0, false))
def mainsheetref04_Next.f (k : Nat) (a0 : Int) (a1 : Int) : Option (Int × Bool) := (mainsheetref04_List.f k a0).bind fun t187 => (mainsheetref04_Next.l0 k a1 t187 (t187.length : Int) 0)
theorem mainsheetref04_Next.mono_l : ∀ k, (∀ y0 y1 y2 y3, LeO (mainsheetref04_Next.l0 k y0 y1 y2 y3) (mainsheetref04_Next.l0 (k + 1) y0 y1 y2 y3))
  | 0 => fun _ _ _ _ r h => by simp [mainsheetref04_Next.l0] at h
  | k + 1 => by
    have ih0 := mainsheetref04_Next.mono_l k
    · intro y0 y1 y2 y3
      unfold mainsheetref04_Next.l0
      repeat' first
      | (with_reducible exact ih0 _ _ _ _)
      | (with_reducible exact mainsheetref04_List.mono _ _)
      | (with_reducible exact LeO.refl _)
      | (with_reducible exact LeO.none _)
      | (with_reducible refine LeO.ite ?_ ?_)
      | (with_reducible refine LeO.bind ?_ (fun _ => ?_))
      | exact ih0 _ _ _ _
      | exact mainsheetref04_List.mono _ _
      | exact LeO.none _
      | refine LeO.ite ?_ ?_
      | refine LeO.bind ?_ (fun _ => ?_)
theorem mainsheetref04_Next.mono : ∀ a0 a1 k, LeO (mainsheetref04_Next.f k a0 a1) (mainsheetref04_Next.f (k + 1) a0 a1) := by
  intro a0 a1 k
  have ih0 := mainsheetref04_Next.mono_l k
  unfold mainsheetref04_Next.f
  repeat' first
      | (with_reducible exact ih0 _ _ _ _)
      | (with_reducible exact mainsheetref04_List.mono _ _)
      | (with_reducible exact LeO.refl _)
      | (with_reducible exact LeO.none _)
      | (with_reducible refine LeO.ite ?_ ?_)
      | (with_reducible refine LeO.bind ?_ (fun _ => ?_))
      | exact ih0 _ _ _ _
      | exact mainsheetref04_List.mono _ _
      | exact LeO.none _
      | refine LeO.ite ?_ ?_
      | refine LeO.bind ?_ (fun _ => ?_)
/-! ### mainsheetref04_Of: function 103 -/
def mainsheetref04_Of.l0 : Nat → Int → List Int → Int → Int → Option (Int × Bool)
  | 0, _, _, _, _ => none
  | k + 1, x4, x7, x8, x9 => if x9 < x8 then (if 0 ≤ x9 then (if x9 < (x7.length : Int) then ((mainsheetref04_Cpu.f (rd x7 x9)).bind fun t590 => (if t590 = true then ((mainsheetref04_Has.f x4 (rd x7 x9)).bind fun t591 => (if t591 = true then (mainsheetref04_Of.l0 k x4 x7 x8 (wrap64 (x9 + 1))) else (if 0 ≤ (rd x7 x9) then (mainsheetref04_Of.l0 k ((x4 + (shl .u32 1 (rd x7 x9))) % 4294967296) x7 x8 (wrap64 (x9 + 1))) else (none)))) else (some (0, false)))) else (none)) else (none)) else (some (x4, true))
def mainsheetref04_Of.f (k : Nat) (l0 : List Int) : Option (Int × Bool) := mainsheetref04_Of.l0 k 0 l0 (l0.length : Int) 0
theorem mainsheetref04_Of.mono_l : ∀ k, (∀ y0 y1 y2 y3, LeO (mainsheetref04_Of.l0 k y0 y1 y2 y3) (mainsheetref04_Of.l0 (k + 1) y0 y1 y2 y3))
  | 0 => fun _ _ _ _ r h => by simp [mainsheetref04_Of.l0] at h
  | k + 1 => by
    have ih0 := mainsheetref04_Of.mono_l k
    · intro y0 y1 y2 y3
      unfold mainsheetref04_Of.l0
      repeat' first
      | (with_reducible exact ih0 _ _ _ _)
      | (with_reducible exact LeO.refl _)
      | (with_reducible exact LeO.none _)
      | (with_reducible refine LeO.ite ?_ ?_)
      | (with_reducible refine LeO.bind ?_ (fun _ => ?_))
      | exact ih0 _ _ _ _
      | exact LeO.none _
      | refine LeO.ite ?_ ?_
      | refine LeO.bind ?_ (fun _ => ?_)
theorem mainsheetref04_Of.mono : ∀ a0 k, LeO (mainsheetref04_Of.f k a0) (mainsheetref04_Of.f (k + 1) a0) := by
  intro a0 k
  have ih0 := mainsheetref04_Of.mono_l k
  unfold mainsheetref04_Of.f
  repeat' first
      | (with_reducible exact ih0 _ _ _ _)
      | (with_reducible exact LeO.refl _)
      | (with_reducible exact LeO.none _)
      | (with_reducible refine LeO.ite ?_ ?_)
      | (with_reducible refine LeO.bind ?_ (fun _ => ?_))
      | exact ih0 _ _ _ _
      | exact LeO.none _
      | refine LeO.ite ?_ ?_
      | refine LeO.bind ?_ (fun _ => ?_)
end Go.Proofs.YtdmieaidheelbaaDoor.Q
end
/- Refs -/
section
/- What the document's functions of layers 4 and 7 answer: plain Lean. -/
namespace Go.Proofs.YtdmieaidheelbaaDoor.Q
open Go Go.RowKit Go.Proofs.YtdmieaidheelbaaDoorW.PrintWords Go.Proofs.YtdmieaidheelbaaDoorW.PrintLast Go.Proofs.YtdmieaidheelbaaDoorW.PrintMore
set_option linter.unusedVariables false
set_option linter.unusedSimpArgs false

end Go.Proofs.YtdmieaidheelbaaDoor.Q
end
/- QFref19has -/
section
-- Written by a program of this session (hprint.py), which drives the kit's print over hand-proved contracts. Lean checks it.
namespace Go.Proofs.YtdmieaidheelbaaDoor.Q
open Go.RowKit Go.Proofs.YtdmieaidheelbaaDoorW.PrintWords Go.Proofs.YtdmieaidheelbaaDoorW.PrintLast Go.Proofs.YtdmieaidheelbaaDoorW.PrintMore
attribute [local go_sem] max2_int min2_int max_two min_two max_three min_three max_four min_four   -- for this text's walks alone
set_option linter.unusedVariables false
set_option linter.unusedSimpArgs false

/-! ### mainsheetref19_has: function 83 -/
def mainsheetref19_has.l0 : Nat → List Int → Int → Int → Option (Bool)
  | 0, _, _, _ => none
  | k + 1, x0, x1, x5 => if x5 < (x0.length : Int) then (if 0 ≤ x5 then (if (rd x0 x5) = x1 then (some true) else (mainsheetref19_has.l0 k x0 x1 (wrap64 (x5 + 1)))) else (none)) else (some false)
def mainsheetref19_has.f (k : Nat) (l0 : List Int) (a1 : Int) : Option (Bool) := mainsheetref19_has.l0 k l0 a1 0
theorem mainsheetref19_has.mono_l : ∀ k, (∀ y0 y1 y2, LeO (mainsheetref19_has.l0 k y0 y1 y2) (mainsheetref19_has.l0 (k + 1) y0 y1 y2))
  | 0 => fun _ _ _ r h => by simp [mainsheetref19_has.l0] at h
  | k + 1 => by
    have ih0 := mainsheetref19_has.mono_l k
    · intro y0 y1 y2
      unfold mainsheetref19_has.l0
      repeat' first
      | (with_reducible exact ih0 _ _ _)
      | (with_reducible exact LeO.refl _)
      | (with_reducible exact LeO.none _)
      | (with_reducible refine LeO.ite ?_ ?_)
      | (with_reducible refine LeO.bind ?_ (fun _ => ?_))
      | exact ih0 _ _ _
      | exact LeO.none _
      | refine LeO.ite ?_ ?_
      | refine LeO.bind ?_ (fun _ => ?_)
theorem mainsheetref19_has.mono : ∀ a0 a1 k, LeO (mainsheetref19_has.f k a0 a1) (mainsheetref19_has.f (k + 1) a0 a1) := by
  intro a0 a1 k
  have ih0 := mainsheetref19_has.mono_l k
  unfold mainsheetref19_has.f
  repeat' first
      | (with_reducible exact ih0 _ _ _)
      | (with_reducible exact LeO.refl _)
      | (with_reducible exact LeO.none _)
      | (with_reducible refine LeO.ite ?_ ?_)
      | (with_reducible refine LeO.bind ?_ (fun _ => ?_))
      | exact ih0 _ _ _
      | exact LeO.none _
      | refine LeO.ite ?_ ?_
      | refine LeO.bind ?_ (fun _ => ?_)
end Go.Proofs.YtdmieaidheelbaaDoor.Q
end
/- QFref19Choices -/
section
-- Written by a program of this session (hprint.py), which drives the kit's print over hand-proved contracts. Lean checks it.
namespace Go.Proofs.YtdmieaidheelbaaDoor.Q
open Go.RowKit Go.Proofs.YtdmieaidheelbaaDoorW.PrintWords Go.Proofs.YtdmieaidheelbaaDoorW.PrintLast Go.Proofs.YtdmieaidheelbaaDoorW.PrintMore
attribute [local go_sem] max2_int min2_int max_two min_two max_three min_three max_four min_four   -- for this text's walks alone
set_option linter.unusedVariables false
set_option linter.unusedSimpArgs false

/-! ### mainsheetref19_Choices: function 54 -/
mutual
def mainsheetref19_Choices.j0 : Nat → Int → Int → List Int → Option (List Int)
  | 0, _, _, _ => none
  | k + 1, x5, x6, x7 => mainsheetref19_Choices.l0 k x5 x6 x7 0
def mainsheetref19_Choices.l0 : Nat → Int → Int → List Int → Int → Option (List Int)
  | 0, _, _, _, _ => none
  | k + 1, x5, x6, x7, x8 => if x8 < 8 then ((mainsheetref04_Has.f x6 x8).bind fun t537 => (if t537 = true then ((mainsheetref19_has.f k x7 x8).bind fun t538 => (if t538 = true then (mainsheetref19_Choices.l0 k x5 x6 x7 (wrap64 (x8 + 1))) else (if x7.length < 17592186044416 then (mainsheetref19_Choices.l0 k x5 x6 (x7 ++ [x8]) (wrap64 (x8 + 1))) else (none)))) else (mainsheetref19_Choices.l0 k x5 x6 x7 (wrap64 (x8 + 1))))) else (mainsheetref19_Choices.l1 k x5 x7 0)
def mainsheetref19_Choices.l1 : Nat → Int → List Int → Int → Option (List Int)
  | 0, _, _, _ => none
  | k + 1, x5, x7, x9 => if x9 < 8 then ((mainsheetref04_Has.f x5 x9).bind fun t542 => (if t542 = true then ((mainsheetref19_has.f k x7 x9).bind fun t543 => (if t543 = true then (mainsheetref19_Choices.l1 k x5 x7 (wrap64 (x9 + 1))) else (if x7.length < 17592186044416 then (mainsheetref19_Choices.l1 k x5 (x7 ++ [x9]) (wrap64 (x9 + 1))) else (none)))) else (mainsheetref19_Choices.l1 k x5 x7 (wrap64 (x9 + 1))))) else (some x7)
end
def mainsheetref19_Choices.f (k : Nat) (a0_0 : Int) (a0_1 : Int) (a0_2 : Int) (a0_3 : Int) (a1 : Int) : Option (List Int) := (mainsheetref07_Allows.f a0_2 a0_3 a1).bind fun t531 => ((mainsheetref07_Likes.f a0_2 a0_3 a1).bind fun t532 => ((mainsheetref04_Has.f t531 a0_1).bind fun t533 => (if t533 = true then (if ([] : List Int).length < 17592186044416 then (mainsheetref19_Choices.j0 k t531 t532 (([] : List Int) ++ [a0_1])) else (none)) else (mainsheetref19_Choices.j0 k t531 t532 ([] : List Int)))))
theorem mainsheetref19_Choices.mono_l : ∀ k, (∀ y0 y1 y2, LeO (mainsheetref19_Choices.j0 k y0 y1 y2) (mainsheetref19_Choices.j0 (k + 1) y0 y1 y2)) ∧ (∀ y0 y1 y2 y3, LeO (mainsheetref19_Choices.l0 k y0 y1 y2 y3) (mainsheetref19_Choices.l0 (k + 1) y0 y1 y2 y3)) ∧ (∀ y0 y1 y2, LeO (mainsheetref19_Choices.l1 k y0 y1 y2) (mainsheetref19_Choices.l1 (k + 1) y0 y1 y2))
  | 0 => ⟨fun _ _ _ r h => by simp [mainsheetref19_Choices.j0] at h, fun _ _ _ _ r h => by simp [mainsheetref19_Choices.l0] at h, fun _ _ _ r h => by simp [mainsheetref19_Choices.l1] at h⟩
  | k + 1 => by
    obtain ⟨ih0, ih1, ih2⟩ := mainsheetref19_Choices.mono_l k
    refine ⟨?_, ?_, ?_⟩
    · intro y0 y1 y2
      unfold mainsheetref19_Choices.j0
      repeat' first
      | (with_reducible exact ih0 _ _ _)
      | (with_reducible exact ih1 _ _ _ _)
      | (with_reducible exact ih2 _ _ _)
      | (with_reducible exact mainsheetref19_has.mono _ _ _)
      | (with_reducible exact LeO.refl _)
      | (with_reducible exact LeO.none _)
      | (with_reducible refine LeO.ite ?_ ?_)
      | (with_reducible refine LeO.bind ?_ (fun _ => ?_))
      | exact ih0 _ _ _
      | exact ih1 _ _ _ _
      | exact ih2 _ _ _
      | exact mainsheetref19_has.mono _ _ _
      | exact LeO.none _
      | refine LeO.ite ?_ ?_
      | refine LeO.bind ?_ (fun _ => ?_)
    · intro y0 y1 y2 y3
      unfold mainsheetref19_Choices.l0
      repeat' first
      | (with_reducible exact ih0 _ _ _)
      | (with_reducible exact ih1 _ _ _ _)
      | (with_reducible exact ih2 _ _ _)
      | (with_reducible exact mainsheetref19_has.mono _ _ _)
      | (with_reducible exact LeO.refl _)
      | (with_reducible exact LeO.none _)
      | (with_reducible refine LeO.ite ?_ ?_)
      | (with_reducible refine LeO.bind ?_ (fun _ => ?_))
      | exact ih0 _ _ _
      | exact ih1 _ _ _ _
      | exact ih2 _ _ _
      | exact mainsheetref19_has.mono _ _ _
      | exact LeO.none _
      | refine LeO.ite ?_ ?_
      | refine LeO.bind ?_ (fun _ => ?_)
    · intro y0 y1 y2
      unfold mainsheetref19_Choices.l1
      repeat' first
      | (with_reducible exact ih0 _ _ _)
      | (with_reducible exact ih1 _ _ _ _)
      | (with_reducible exact ih2 _ _ _)
      | (with_reducible exact mainsheetref19_has.mono _ _ _)
      | (with_reducible exact LeO.refl _)
      | (with_reducible exact LeO.none _)
      | (with_reducible refine LeO.ite ?_ ?_)
      | (with_reducible refine LeO.bind ?_ (fun _ => ?_))
      | exact ih0 _ _ _
      | exact ih1 _ _ _ _
      | exact ih2 _ _ _
      | exact mainsheetref19_has.mono _ _ _
      | exact LeO.none _
      | refine LeO.ite ?_ ?_
      | refine LeO.bind ?_ (fun _ => ?_)
theorem mainsheetref19_Choices.mono : ∀ a0 a1 a2 a3 a4 k, LeO (mainsheetref19_Choices.f k a0 a1 a2 a3 a4) (mainsheetref19_Choices.f (k + 1) a0 a1 a2 a3 a4) := by
  intro a0 a1 a2 a3 a4 k
  obtain ⟨ih0, ih1, ih2⟩ := mainsheetref19_Choices.mono_l k
  unfold mainsheetref19_Choices.f
  repeat' first
      | (with_reducible exact ih0 _ _ _)
      | (with_reducible exact ih1 _ _ _ _)
      | (with_reducible exact ih2 _ _ _)
      | (with_reducible exact mainsheetref19_has.mono _ _ _)
      | (with_reducible exact LeO.refl _)
      | (with_reducible exact LeO.none _)
      | (with_reducible refine LeO.ite ?_ ?_)
      | (with_reducible refine LeO.bind ?_ (fun _ => ?_))
      | exact ih0 _ _ _
      | exact ih1 _ _ _ _
      | exact ih2 _ _ _
      | exact mainsheetref19_has.mono _ _ _
      | exact LeO.none _
      | refine LeO.ite ?_ ?_
      | refine LeO.bind ?_ (fun _ => ?_)
end Go.Proofs.YtdmieaidheelbaaDoor.Q
end
/- QE1 -/
section
-- Written by a program of this session (hprint.py), which drives the kit's print over hand-proved contracts. Lean checks it.
namespace Go.Proofs.YtdmieaidheelbaaDoor.Q
open Go.RowKit Go.Proofs.YtdmieaidheelbaaDoorW.PrintWords Go.Proofs.YtdmieaidheelbaaDoorW.PrintLast Go.Proofs.YtdmieaidheelbaaDoorW.PrintMore
attribute [local go_sem] max2_int min2_int max_two min_two max_three min_three max_four min_four   -- for this text's walks alone
set_option linter.unusedVariables false
set_option linter.unusedSimpArgs false

theorem eqA31 (d : Nat) (w : World) (x0 y0 : Int) (x1 y1 : Int) :
    (Op.equalIn (d + 2) 31 (.agg #[.int .i64 x0, .int .i64 x1]) (.agg #[.int .i64 y0, .int .i64 y1])).run Tryd.prog w = .ok (x0 == y0 && (x1 == y1)) w := by
  refine eqA_of Tryd.underlying31 (by kernel_rfl) ?_
  refine eqf_cons (by rfl) (by go_simp; rfl) (by go_simp; rfl) (by go_simp) ?_
  exact eqf_last (by rfl) (by go_simp; rfl) (by go_simp; rfl) (by go_simp)
end Go.Proofs.YtdmieaidheelbaaDoor.Q
end
/- QFlaw19wakes -/
section
-- Written by a program of this session (hprint.py), which drives the kit's print over hand-proved contracts. Lean checks it.
namespace Go.Proofs.YtdmieaidheelbaaDoor.Q
open Go.RowKit Go.Proofs.YtdmieaidheelbaaDoorW.PrintWords Go.Proofs.YtdmieaidheelbaaDoorW.PrintLast Go.Proofs.YtdmieaidheelbaaDoorW.PrintMore
attribute [local go_sem] max2_int min2_int max_two min_two max_three min_three max_four min_four   -- for this text's walks alone
set_option linter.unusedVariables false
set_option linter.unusedSimpArgs false

attribute [local go_sem high] eqA31
/-! ### mainsheetlaw19_wakes: function 18 -/
def mainsheetlaw19_wakes.f  : Option (Bool) := (pick_Pick.f (([(⟨(([3] : List Int)), (⟨(⟨0, 0⟩ : S86), 0⟩ : S88), 0, false⟩ : S90), (⟨(([1, 2] : List Int)), (⟨(⟨0, 0⟩ : S86), 0⟩ : S88), 0, false⟩ : S90), (⟨(([4] : List Int)), (⟨(⟨0, 0⟩ : S86), 0⟩ : S88), 0, false⟩ : S90)] : List (S90))) (([(⟨1, (-1), (⟨3, 0⟩ : S34)⟩ : S36), (⟨2, (-1), (⟨3, 0⟩ : S34)⟩ : S36), (⟨3, 1, (⟨3, 0⟩ : S34)⟩ : S36), (⟨4, (-1), (⟨3, 0⟩ : S34)⟩ : S36)] : List (S36))) 3).bind fun bt337 => (if bt337.2.2 = 0 then (if (bt337.1.length : Int) = 2 then (if 0 < (bt337.1.length : Int) then (if (((rd_T31 bt337.1 0).f0) == 3 && (((rd_T31 bt337.1 0).f1) == 1)) = true then (if 1 < (bt337.1.length : Int) then (if (((rd_T31 bt337.1 1).f0) == 4 && (((rd_T31 bt337.1 1).f1) == 0)) = true then (some ((bt337.2.1.length : Int) == 2)) else (some false)) else (none)) else (some false)) else (none)) else (some false)) else (some false))
set_option maxHeartbeats 8000000 in
set_option maxRecDepth 100000 in
theorem mainsheetlaw19_wakes.calls  (r : Bool) (w : World) (hT : TabW w) (h : mainsheetlaw19_wakes.f  = some r) :
    Calls Tryd.prog 18 #[] w fun e w' => e = .returned (.bool r) ∧ Below w.heap.size w w' := by
  have HT := Aside0.mk hT
  clear hT
  have hu34 := Tryd.underlying34
  have hu90 := Tryd.underlying90
  have hu36 := Tryd.underlying36
  have hu31 := Tryd.underlying31
  have HB := Aside0.mk (Below.refl w.heap.size w)
  have H : ((pick_Pick.f (([(⟨(([3] : List Int)), (⟨(⟨0, 0⟩ : S86), 0⟩ : S88), 0, false⟩ : S90), (⟨(([1, 2] : List Int)), (⟨(⟨0, 0⟩ : S86), 0⟩ : S88), 0, false⟩ : S90), (⟨(([4] : List Int)), (⟨(⟨0, 0⟩ : S86), 0⟩ : S88), 0, false⟩ : S90)] : List (S90))) (([(⟨1, (-1), (⟨3, 0⟩ : S34)⟩ : S36), (⟨2, (-1), (⟨3, 0⟩ : S34)⟩ : S36), (⟨3, 1, (⟨3, 0⟩ : S34)⟩ : S36), (⟨4, (-1), (⟨3, 0⟩ : S34)⟩ : S36)] : List (S36))) 3).bind fun bt337 => (if bt337.2.2 = 0 then (if (bt337.1.length : Int) = 2 then (if 0 < (bt337.1.length : Int) then (if (((rd_T31 bt337.1 0).f0) == 3 && (((rd_T31 bt337.1 0).f1) == 1)) = true then (if 1 < (bt337.1.length : Int) then (if (((rd_T31 bt337.1 1).f0) == 4 && (((rd_T31 bt337.1 1).f1) == 0)) = true then (some ((bt337.2.1.length : Int) == 2)) else (some false)) else (none)) else (some false)) else (none)) else (some false)) else (some false))) = some r := h
  clear h
  obtain ⟨y322, hy322⟩ : ∃ y_ : List Int, y_ = (([3] : List Int)) := ⟨_, rfl⟩
  replace H : ((pick_Pick.f (([(⟨y322, (⟨(⟨0, 0⟩ : S86), 0⟩ : S88), 0, false⟩ : S90), (⟨(([1, 2] : List Int)), (⟨(⟨0, 0⟩ : S86), 0⟩ : S88), 0, false⟩ : S90), (⟨(([4] : List Int)), (⟨(⟨0, 0⟩ : S86), 0⟩ : S88), 0, false⟩ : S90)] : List (S90))) (([(⟨1, (-1), (⟨3, 0⟩ : S34)⟩ : S36), (⟨2, (-1), (⟨3, 0⟩ : S34)⟩ : S36), (⟨3, 1, (⟨3, 0⟩ : S34)⟩ : S36), (⟨4, (-1), (⟨3, 0⟩ : S34)⟩ : S36)] : List (S36))) 3).bind fun bt337 => (if bt337.2.2 = 0 then (if (bt337.1.length : Int) = 2 then (if 0 < (bt337.1.length : Int) then (if (((rd_T31 bt337.1 0).f0) == 3 && (((rd_T31 bt337.1 0).f1) == 1)) = true then (if 1 < (bt337.1.length : Int) then (if (((rd_T31 bt337.1 1).f0) == 4 && (((rd_T31 bt337.1 1).f1) == 0)) = true then (some ((bt337.2.1.length : Int) == 2)) else (some false)) else (none)) else (some false)) else (none)) else (some false)) else (some false))) = some r := by first | (rw [hy322]; with_reducible exact H) | (have H2_ := (Option.bind_some _ _).symm.trans H; rw [hy322]; with_reducible exact H2_) | (have H2_ := (Option.bind_some _ _).symm.trans H; with_reducible exact H2_) | with_reducible exact H | (rw [hy322]; exact H) | exact H
  have Ny322 := Aside0.mk hy322
  clear hy322
  obtain ⟨y325, hy325⟩ : ∃ y_ : List Int, y_ = (([1, 2] : List Int)) := ⟨_, rfl⟩
  replace H : ((pick_Pick.f (([(⟨y322, (⟨(⟨0, 0⟩ : S86), 0⟩ : S88), 0, false⟩ : S90), (⟨y325, (⟨(⟨0, 0⟩ : S86), 0⟩ : S88), 0, false⟩ : S90), (⟨(([4] : List Int)), (⟨(⟨0, 0⟩ : S86), 0⟩ : S88), 0, false⟩ : S90)] : List (S90))) (([(⟨1, (-1), (⟨3, 0⟩ : S34)⟩ : S36), (⟨2, (-1), (⟨3, 0⟩ : S34)⟩ : S36), (⟨3, 1, (⟨3, 0⟩ : S34)⟩ : S36), (⟨4, (-1), (⟨3, 0⟩ : S34)⟩ : S36)] : List (S36))) 3).bind fun bt337 => (if bt337.2.2 = 0 then (if (bt337.1.length : Int) = 2 then (if 0 < (bt337.1.length : Int) then (if (((rd_T31 bt337.1 0).f0) == 3 && (((rd_T31 bt337.1 0).f1) == 1)) = true then (if 1 < (bt337.1.length : Int) then (if (((rd_T31 bt337.1 1).f0) == 4 && (((rd_T31 bt337.1 1).f1) == 0)) = true then (some ((bt337.2.1.length : Int) == 2)) else (some false)) else (none)) else (some false)) else (none)) else (some false)) else (some false))) = some r := by first | (rw [hy325]; with_reducible exact H) | (have H2_ := (Option.bind_some _ _).symm.trans H; rw [hy325]; with_reducible exact H2_) | (have H2_ := (Option.bind_some _ _).symm.trans H; with_reducible exact H2_) | with_reducible exact H | (rw [hy325]; exact H) | exact H
  have Ny325 := Aside0.mk hy325
  clear hy325
  obtain ⟨y328, hy328⟩ : ∃ y_ : List Int, y_ = (([4] : List Int)) := ⟨_, rfl⟩
  replace H : ((pick_Pick.f (([(⟨y322, (⟨(⟨0, 0⟩ : S86), 0⟩ : S88), 0, false⟩ : S90), (⟨y325, (⟨(⟨0, 0⟩ : S86), 0⟩ : S88), 0, false⟩ : S90), (⟨y328, (⟨(⟨0, 0⟩ : S86), 0⟩ : S88), 0, false⟩ : S90)] : List (S90))) (([(⟨1, (-1), (⟨3, 0⟩ : S34)⟩ : S36), (⟨2, (-1), (⟨3, 0⟩ : S34)⟩ : S36), (⟨3, 1, (⟨3, 0⟩ : S34)⟩ : S36), (⟨4, (-1), (⟨3, 0⟩ : S34)⟩ : S36)] : List (S36))) 3).bind fun bt337 => (if bt337.2.2 = 0 then (if (bt337.1.length : Int) = 2 then (if 0 < (bt337.1.length : Int) then (if (((rd_T31 bt337.1 0).f0) == 3 && (((rd_T31 bt337.1 0).f1) == 1)) = true then (if 1 < (bt337.1.length : Int) then (if (((rd_T31 bt337.1 1).f0) == 4 && (((rd_T31 bt337.1 1).f1) == 0)) = true then (some ((bt337.2.1.length : Int) == 2)) else (some false)) else (none)) else (some false)) else (none)) else (some false)) else (some false))) = some r := by first | (rw [hy328]; with_reducible exact H) | (have H2_ := (Option.bind_some _ _).symm.trans H; rw [hy328]; with_reducible exact H2_) | (have H2_ := (Option.bind_some _ _).symm.trans H; with_reducible exact H2_) | with_reducible exact H | (rw [hy328]; exact H) | exact H
  have Ny328 := Aside0.mk hy328
  clear hy328
  obtain ⟨y331, hy331⟩ : ∃ y_ : List (S90), y_ = (([(⟨y322, (⟨(⟨0, 0⟩ : S86), 0⟩ : S88), 0, false⟩ : S90), (⟨y325, (⟨(⟨0, 0⟩ : S86), 0⟩ : S88), 0, false⟩ : S90), (⟨y328, (⟨(⟨0, 0⟩ : S86), 0⟩ : S88), 0, false⟩ : S90)] : List (S90))) := ⟨_, rfl⟩
  replace H : ((pick_Pick.f y331 (([(⟨1, (-1), (⟨3, 0⟩ : S34)⟩ : S36), (⟨2, (-1), (⟨3, 0⟩ : S34)⟩ : S36), (⟨3, 1, (⟨3, 0⟩ : S34)⟩ : S36), (⟨4, (-1), (⟨3, 0⟩ : S34)⟩ : S36)] : List (S36))) 3).bind fun bt337 => (if bt337.2.2 = 0 then (if (bt337.1.length : Int) = 2 then (if 0 < (bt337.1.length : Int) then (if (((rd_T31 bt337.1 0).f0) == 3 && (((rd_T31 bt337.1 0).f1) == 1)) = true then (if 1 < (bt337.1.length : Int) then (if (((rd_T31 bt337.1 1).f0) == 4 && (((rd_T31 bt337.1 1).f1) == 0)) = true then (some ((bt337.2.1.length : Int) == 2)) else (some false)) else (none)) else (some false)) else (none)) else (some false)) else (some false))) = some r := by first | (rw [hy331]; with_reducible exact H) | (have H2_ := (Option.bind_some _ _).symm.trans H; rw [hy331]; with_reducible exact H2_) | (have H2_ := (Option.bind_some _ _).symm.trans H; with_reducible exact H2_) | with_reducible exact H | (rw [hy331]; exact H) | exact H
  have Ny331 := Aside0.mk hy331
  clear hy331
  obtain ⟨y334, hy334⟩ : ∃ y_ : List (S36), y_ = (([(⟨1, (-1), (⟨3, 0⟩ : S34)⟩ : S36), (⟨2, (-1), (⟨3, 0⟩ : S34)⟩ : S36), (⟨3, 1, (⟨3, 0⟩ : S34)⟩ : S36), (⟨4, (-1), (⟨3, 0⟩ : S34)⟩ : S36)] : List (S36))) := ⟨_, rfl⟩
  replace H : ((pick_Pick.f y331 y334 3).bind fun bt337 => (if bt337.2.2 = 0 then (if (bt337.1.length : Int) = 2 then (if 0 < (bt337.1.length : Int) then (if (((rd_T31 bt337.1 0).f0) == 3 && (((rd_T31 bt337.1 0).f1) == 1)) = true then (if 1 < (bt337.1.length : Int) then (if (((rd_T31 bt337.1 1).f0) == 4 && (((rd_T31 bt337.1 1).f1) == 0)) = true then (some ((bt337.2.1.length : Int) == 2)) else (some false)) else (none)) else (some false)) else (none)) else (some false)) else (some false))) = some r := by first | (rw [hy334]; with_reducible exact H) | (have H2_ := (Option.bind_some _ _).symm.trans H; rw [hy334]; with_reducible exact H2_) | (have H2_ := (Option.bind_some _ _).symm.trans H; with_reducible exact H2_) | with_reducible exact H | (rw [hy334]; exact H) | exact H
  have Ny334 := Aside0.mk hy334
  clear hy334
  replace H := Option.bind_eq_some_iff.mp H
  obtain ⟨⟨t337, t338, t339⟩, A10, H⟩ := H
  replace H : (if t339 = 0 then (if (t337.length : Int) = 2 then (if 0 < (t337.length : Int) then (if (((rd_T31 t337 0).f0) == 3 && (((rd_T31 t337 0).f1) == 1)) = true then (if 1 < (t337.length : Int) then (if (((rd_T31 t337 1).f0) == 4 && (((rd_T31 t337 1).f1) == 0)) = true then (some ((t338.length : Int) == 2)) else (some false)) else (none)) else (some false)) else (none)) else (some false)) else (some false)) = some r := H
  have A1 := Aside0.mk A10
  clear A10
  by_cases c2 : t339 = 0
  · rw [if_pos c2] at H
    have c2b0 : (t339 == 0) = true := beq_iff_eq.mpr c2
    have c2b1 : (t339 != 0) = false := bne_eq_false_iff_eq.mpr c2
    clear c2
    by_cases c3 : (t337.length : Int) = 2
    · rw [if_pos c3] at H
      have c3b0 : ((t337.length : Int) == 2) = true := beq_iff_eq.mpr c3
      have c3b1 : ((t337.length : Int) != 2) = false := bne_eq_false_iff_eq.mpr c3
      clear c3
      by_cases c4 : 0 < (t337.length : Int)
      · rw [if_pos c4] at H
        have c4b0 : decide (0 < (t337.length : Int)) = true := decide_eq_true c4
        have c4b1 : decide (0 < t337.length) = true := decide_eq_true (by omega)
        clear c4
        by_cases c5 : (((rd_T31 t337 0).f0) == 3 && (((rd_T31 t337 0).f1) == 1)) = true
        · rw [if_pos c5] at H
          have c5b0 : (((rd_T31 t337 0).f0) == 3 && (((rd_T31 t337 0).f1) == 1)) = true := c5
          (try (have c5b1 : decide (((rd_T31 t337 0).f0) = 3 && (((rd_T31 t337 0).f1) == 1)) = true := by simpa using c5))
          (try (have c5b2 : (((rd_T31 t337 0).f0) == 3 && (((rd_T31 t337 0).f1) == 1)) = true := by simpa using c5))
          clear c5
          by_cases c6 : 1 < (t337.length : Int)
          · rw [if_pos c6] at H
            have c6b0 : decide (1 < (t337.length : Int)) = true := decide_eq_true c6
            have c6b1 : decide (1 < t337.length) = true := decide_eq_true (by omega)
            clear c6
            by_cases c7 : (((rd_T31 t337 1).f0) == 4 && (((rd_T31 t337 1).f1) == 0)) = true
            · rw [if_pos c7] at H
              have c7b0 : (((rd_T31 t337 1).f0) == 4 && (((rd_T31 t337 1).f1) == 0)) = true := c7
              (try (have c7b1 : decide (((rd_T31 t337 1).f0) = 4 && (((rd_T31 t337 1).f1) == 0)) = true := by simpa using c7))
              (try (have c7b2 : (((rd_T31 t337 1).f0) == 4 && (((rd_T31 t337 1).f1) == 0)) = true := by simpa using c7))
              clear c7
              obtain rfl := Option.some.inj H
              go_enter Tryd.func18, Tryd.ntmps18
              go_wp2_with (first | ((with_reducible refine gate_dst (N := 1) rfl ?_); (try (refine gate_guard (by rfl) ?_; dsimp only)); refine box_event ?hg (N := 1) ?hd (cs := #[.int .u32 0, .int .u32 0]) (t := 34) ?hr ?_; (case hd => rfl); (case hg => rfl); (case hr => first | (go_simp; done) | (go_simp; rfl)); intro gb321 hg w8 hbox hb; have n0_ := Aside0.mk (below_step (by repeat (first | (with_reducible first | exact HB.out | apply below_alloc | apply pw_below_drewN | apply below_drew1) | exact HB.out)) hb); have n1_ := Aside0.mk (hbox); have n2_ := Aside0.mk ((by rw [hg]; exact (below_size (by repeat (first | (with_reducible first | exact HB.out | apply below_alloc | apply pw_below_drewN | apply below_drew1) | exact HB.out))) : w.heap.size ≤ gb321)); have n3_ := Aside0.mk ((by rw [hg]; exact (below_size (by repeat (first | (with_reducible first | exact HB.out | apply below_alloc | apply pw_below_drewN | apply below_drew1) | exact HB.out))) : w.heap.size ≤ gb321)); clear HB; have HB := n0_; have BK321 := n1_; have GW321 := n2_; have GE321 := n3_; clear n0_ n1_ n2_ n3_; clear hb hbox hg; have hcz9_0 : w8.cell? ⟨gb321, 0, none⟩ = some (.int .u32 0) := (blk_cell BK321.out 0).trans rfl; have hcz9_1 : w8.cell? ⟨gb321, 1, none⟩ = some (.int .u32 0) := (blk_cell BK321.out 1).trans rfl; have hfz9_0 := blk_frozen BK321.out 0; have hfz9_1 := blk_frozen BK321.out 1) | ((with_reducible refine gate_dst (N := 8) rfl ?_); (try (refine gate_guard (by rfl) ?_; dsimp only)); refine Kd.R_lit (Kd.int .i64) _ 3 ?hg (N := 8) ?hd (xs := ([3] : List Int)) (inner := [.int .i64 3]) (ok := fun _ => True) (okp := fun _ => True) ?hr ?hp (fun _ hk => hk) trivial (Below.refl _ _) (Nat.le_refl _) (by simp) ?_; (case hd => rfl); (case hg => rfl); (case hr => first | (go_simp; done) | (go_simp; rfl)); (case hp => exact (Reps.one (show Kd.M (Kd.int .i64) _ _ _ 3 [.int .i64 3] from rfl) (Reps.none _ _))); intro v323 w10 ho11 hb hg_ hnew_; clear hg_ hnew_; (first | rw [← Ny322.out] at ho11 | (simp only [Int.reduceToNat] at ho11; rw [← Ny322.out] at ho11)); have n0_ := Aside0.mk (Kd.R_lower ho11 (below_size (by repeat (first | (with_reducible first | exact HB.out | apply below_alloc | apply pw_below_drewN | apply below_drew1 | refine below_set ?_ GE321.out) | exact HB.out)))); have n1_ := Aside0.mk (blk_below (g := gb321) (o := .cells #[.int .u32 3, .int .u32 0] 34 (0, 0)) (by (with_reducible repeat (first | refine blk_drewN ?_ _ | refine blk_drew ?_ | refine blk_alloc ?_ _)); refine blk_put (cs := #[.int .u32 3, .int .u32 0]) ?_ 1 _ rfl; (with_reducible repeat (first | refine blk_drewN ?_ _ | refine blk_drew ?_ | refine blk_alloc ?_ _)); refine blk_put (cs := #[.int .u32 0, .int .u32 0]) ?_ 0 _ rfl; (with_reducible repeat (first | refine blk_drewN ?_ _ | refine blk_drew ?_ | refine blk_alloc ?_ _)); exact BK321.out) hb); have n2_ := Aside0.mk (below_step (by repeat (first | (with_reducible first | exact HB.out | apply below_alloc | apply pw_below_drewN | apply below_drew1 | refine below_set ?_ GE321.out) | exact HB.out)) hb); clear BK321; clear HB; have HO324 := n0_; have BK321 := n1_; have HB := n2_; clear n0_ n1_ n2_; clear hb ho11; obtain ⟨Ao12, co12, eo12⟩ := Kd.R_slice HO324.out; subst eo12) | ((with_reducible refine gate_dst (N := 10) rfl ?_); (try (refine gate_guard (by rfl) ?_; dsimp only)); refine Kd.R_lit (Kd.int .i64) _ 3 ?hg (N := 10) ?hd (xs := ([1, 2] : List Int)) (inner := [.int .i64 1, .int .i64 2]) (ok := fun _ => True) (okp := fun _ => True) ?hr ?hp (fun _ hk => hk) trivial (Below.refl _ _) (Nat.le_refl _) (by simp) ?_; (case hd => rfl); (case hg => rfl); (case hr => first | (go_simp; done) | (go_simp; rfl)); (case hp => exact (Reps.one (show Kd.M (Kd.int .i64) _ _ _ 1 [.int .i64 1] from rfl) (Reps.one (show Kd.M (Kd.int .i64) _ _ _ 2 [.int .i64 2] from rfl) (Reps.none _ _)))); intro v326 w13 ho14 hb hg_ hnew_; clear hg_ hnew_; (first | rw [← Ny325.out] at ho14 | (simp only [Int.reduceToNat] at ho14; rw [← Ny325.out] at ho14)); have n0_ := Aside0.mk (Kd.R_elder' (by (with_reducible repeat (first | apply Kd.R_alloc | apply Kd.R_drewN | apply Kd.R_drew)); exact HO324.out) (Kd.R_base ho14) hb); have n1_ := Aside0.mk (Kd.R_lower (Kd.R_new' ho14 (Kd.R_lt (by (with_reducible repeat (first | apply Kd.R_alloc | apply Kd.R_drewN | apply Kd.R_drew)); exact HO324.out))) (below_size (by repeat (first | (with_reducible first | exact HB.out | apply below_alloc | apply pw_below_drewN | apply below_drew1 | refine below_set ?_ GE321.out) | exact HB.out)))); have n2_ := Aside0.mk (blk_below (g := gb321) (o := .cells #[.int .u32 3, .int .u32 0] 34 (0, 0)) (by (with_reducible repeat (first | refine blk_drewN ?_ _ | refine blk_drew ?_ | refine blk_alloc ?_ _)); exact BK321.out) hb); have n3_ := Aside0.mk (below_step (by repeat (first | (with_reducible first | exact HB.out | apply below_alloc | apply pw_below_drewN | apply below_drew1 | refine below_set ?_ GE321.out) | exact HB.out)) hb); clear HO324; clear BK321; clear HB; have HO324 := n0_; have HO327 := n1_; have BK321 := n2_; have HB := n3_; clear n0_ n1_ n2_ n3_; clear hb ho14; obtain ⟨Ao15, co15, eo15⟩ := Kd.R_slice HO327.out; subst eo15) | ((with_reducible refine gate_dst (N := 12) rfl ?_); (try (refine gate_guard (by rfl) ?_; dsimp only)); refine Kd.R_lit (Kd.int .i64) _ 3 ?hg (N := 12) ?hd (xs := ([4] : List Int)) (inner := [.int .i64 4]) (ok := fun _ => True) (okp := fun _ => True) ?hr ?hp (fun _ hk => hk) trivial (Below.refl _ _) (Nat.le_refl _) (by simp) ?_; (case hd => rfl); (case hg => rfl); (case hr => first | (go_simp; done) | (go_simp; rfl)); (case hp => exact (Reps.one (show Kd.M (Kd.int .i64) _ _ _ 4 [.int .i64 4] from rfl) (Reps.none _ _))); intro v329 w16 ho17 hb hg_ hnew_; clear hg_ hnew_; (first | rw [← Ny328.out] at ho17 | (simp only [Int.reduceToNat] at ho17; rw [← Ny328.out] at ho17)); have n0_ := Aside0.mk (Kd.R_elder' (by (with_reducible repeat (first | apply Kd.R_alloc | apply Kd.R_drewN | apply Kd.R_drew)); exact HO324.out) (Kd.R_base ho17) hb); have n1_ := Aside0.mk (Kd.R_elder' (by (with_reducible repeat (first | apply Kd.R_alloc | apply Kd.R_drewN | apply Kd.R_drew)); exact HO327.out) (Kd.R_base ho17) hb); have n2_ := Aside0.mk (Kd.R_lower (Kd.R_new' (Kd.R_new' ho17 (Kd.R_lt (by (with_reducible repeat (first | apply Kd.R_alloc | apply Kd.R_drewN | apply Kd.R_drew)); exact HO324.out))) (Kd.R_lt (by (with_reducible repeat (first | apply Kd.R_alloc | apply Kd.R_drewN | apply Kd.R_drew)); exact HO327.out))) (below_size (by repeat (first | (with_reducible first | exact HB.out | apply below_alloc | apply pw_below_drewN | apply below_drew1 | refine below_set ?_ GE321.out) | exact HB.out)))); have n3_ := Aside0.mk (blk_below (g := gb321) (o := .cells #[.int .u32 3, .int .u32 0] 34 (0, 0)) (by (with_reducible repeat (first | refine blk_drewN ?_ _ | refine blk_drew ?_ | refine blk_alloc ?_ _)); exact BK321.out) hb); have n4_ := Aside0.mk (below_step (by repeat (first | (with_reducible first | exact HB.out | apply below_alloc | apply pw_below_drewN | apply below_drew1 | refine below_set ?_ GE321.out) | exact HB.out)) hb); clear HO324; clear HO327; clear BK321; clear HB; have HO324 := n0_; have HO327 := n1_; have HO330 := n2_; have BK321 := n3_; have HB := n4_; clear n0_ n1_ n2_ n3_ n4_; clear hb ho17; obtain ⟨Ao18, co18, eo18⟩ := Kd.R_slice HO330.out; subst eo18) | ((with_reducible refine gate_dst (N := 14) rfl ?_); (try (refine gate_guard (by rfl) ?_; dsimp only)); refine Kd.N_lit k90 _ 90 ?hg (N' := 14) ?hd (xs := ([(⟨y322, (⟨(⟨0, 0⟩ : S86), 0⟩ : S88), 0, false⟩ : S90), (⟨y325, (⟨(⟨0, 0⟩ : S86), 0⟩ : S88), 0, false⟩ : S90), (⟨y328, (⟨(⟨0, 0⟩ : S86), 0⟩ : S88), 0, false⟩ : S90)] : List (S90))) (inner := [.slice Ao12 y322.length co12, .int .u64 0, .int .u64 0, .int .u64 0, .int .u64 0, .bool false, .slice Ao15 y325.length co15, .int .u64 0, .int .u64 0, .int .u64 0, .int .u64 0, .bool false, .slice Ao18 y328.length co18, .int .u64 0, .int .u64 0, .int .u64 0, .int .u64 0, .bool false]) (ok := (fun k_ => k_ ≠ gb321)) (okp := (fun k_ => k_ ≠ gb321)) ?hr ?hp (fun _ hk => hk) ((show ∀ k_, w16.heap.size ≤ k_ → (fun k_ => k_ ≠ gb321) k_ from fun k_ hk => Kd.freshB (g := gb321) (o := .cells #[.int .u32 3, .int .u32 0] 34 (0, 0)) (by (with_reducible repeat (first | refine blk_drewN ?_ _ | refine blk_drew ?_ | refine blk_alloc ?_ _)); exact BK321.out) k_ hk) _ (Nat.le_refl _)) (Below.refl _ _) (Nat.le_refl _) (by simp) ?_; (case hd => rfl); (case hg => rfl); (case hr => first | (go_simp; done) | (go_simp; rfl)); (case hp => exact (Reps.c6 (show Kd.FK k90 _ _ (⟨y322, (⟨(⟨0, 0⟩ : S86), 0⟩ : S88), 0, false⟩ : S90) [.slice Ao12 y322.length co12, .int .u64 0, .int .u64 0, .int .u64 0, .int .u64 0, .bool false] from (k90_mkF _ _ (⟨y322, (⟨(⟨0, 0⟩ : S86), 0⟩ : S88), 0, false⟩ : S90) (Kd.R_reads' (Kd.R_mono (ok' := (fun k_ => k_ ≠ gb321)) (Kd.R_types (HO324.out) BK321.out (by decide)) (fun k_ hk => hk.2))).2.1 (Kd.R_F (Kd.R_mono (ok' := (fun k_ => k_ ≠ gb321)) (Kd.R_types (HO324.out) BK321.out (by decide)) (fun k_ hk => hk.2))))) (Reps.c6 (show Kd.FK k90 _ _ (⟨y325, (⟨(⟨0, 0⟩ : S86), 0⟩ : S88), 0, false⟩ : S90) [.slice Ao15 y325.length co15, .int .u64 0, .int .u64 0, .int .u64 0, .int .u64 0, .bool false] from (k90_mkF _ _ (⟨y325, (⟨(⟨0, 0⟩ : S86), 0⟩ : S88), 0, false⟩ : S90) (Kd.R_reads' (Kd.R_mono (ok' := (fun k_ => k_ ≠ gb321)) (Kd.R_types (HO327.out) BK321.out (by decide)) (fun k_ hk => hk.2))).2.1 (Kd.R_F (Kd.R_mono (ok' := (fun k_ => k_ ≠ gb321)) (Kd.R_types (HO327.out) BK321.out (by decide)) (fun k_ hk => hk.2))))) (Reps.c6 (show Kd.FK k90 _ _ (⟨y328, (⟨(⟨0, 0⟩ : S86), 0⟩ : S88), 0, false⟩ : S90) [.slice Ao18 y328.length co18, .int .u64 0, .int .u64 0, .int .u64 0, .int .u64 0, .bool false] from (k90_mkF _ _ (⟨y328, (⟨(⟨0, 0⟩ : S86), 0⟩ : S88), 0, false⟩ : S90) (Kd.R_reads' (Kd.R_mono (ok' := (fun k_ => k_ ≠ gb321)) (Kd.R_types (HO330.out) BK321.out (by decide)) (fun k_ hk => hk.2))).2.1 (Kd.R_F (Kd.R_mono (ok' := (fun k_ => k_ ≠ gb321)) (Kd.R_types (HO330.out) BK321.out (by decide)) (fun k_ hk => hk.2))))) (Reps.none _ _))))); intro v332 w19 ho20 hb hg_ hnew_; clear hg_ hnew_; (first | rw [← Ny331.out] at ho20 | (simp only [Int.reduceToNat] at ho20; rw [← Ny331.out] at ho20)); have n0_ := Aside0.mk (Kd.N_lower ho20 (below_size (by repeat (first | (with_reducible first | exact HB.out | apply below_alloc | apply pw_below_drewN | apply below_drew1 | refine below_set ?_ GE321.out) | exact HB.out)))); have n1_ := Aside0.mk (blk_below (g := gb321) (o := .cells #[.int .u32 3, .int .u32 0] 34 (0, 0)) (by (with_reducible repeat (first | refine blk_drewN ?_ _ | refine blk_drew ?_ | refine blk_alloc ?_ _)); exact BK321.out) hb); have n2_ := Aside0.mk (below_step (by repeat (first | (with_reducible first | exact HB.out | apply below_alloc | apply pw_below_drewN | apply below_drew1 | refine below_set ?_ GE321.out) | exact HB.out)) hb); clear BK321; clear HB; clear HO324; clear HO327; clear HO330; have HO333 := n0_; have BK321 := n1_; have HB := n2_; clear n0_ n1_ n2_; clear hb ho20; have hcz21_0 : w19.cell? ⟨gb321, 0, none⟩ = some (.int .u32 3) := (blk_cell BK321.out 0).trans rfl; have hcz21_1 : w19.cell? ⟨gb321, 1, none⟩ = some (.int .u32 0) := (blk_cell BK321.out 1).trans rfl; have hfz21_0 := blk_frozen BK321.out 0; have hfz21_1 := blk_frozen BK321.out 1) | ((with_reducible refine gate_dst (N := 23) rfl ?_); (try (refine gate_guard (by rfl) ?_; dsimp only)); refine Kd.R_lit k36 _ 36 ?hg (N := 23) ?hd (xs := ([(⟨1, (-1), (⟨3, 0⟩ : S34)⟩ : S36), (⟨2, (-1), (⟨3, 0⟩ : S34)⟩ : S36), (⟨3, 1, (⟨3, 0⟩ : S34)⟩ : S36), (⟨4, (-1), (⟨3, 0⟩ : S34)⟩ : S36)] : List (S36))) (inner := [.int .i64 1, .int .i64 (-1), .int .u32 3, .int .u32 0, .int .i64 2, .int .i64 (-1), .int .u32 3, .int .u32 0, .int .i64 3, .int .i64 1, .int .u32 3, .int .u32 0, .int .i64 4, .int .i64 (-1), .int .u32 3, .int .u32 0]) (ok := fun _ => True) (okp := fun _ => True) ?hr ?hp (fun _ hk => hk) trivial (Below.refl _ _) (Nat.le_refl _) (by simp) ?_; (case hd => rfl); (case hg => rfl); (case hr => first | (go_simp; done) | (go_simp; rfl)); (case hp => exact (Reps.c4 (show Kd.M k36 _ _ _ (⟨1, (-1), (⟨3, 0⟩ : S34)⟩ : S36) [.int .i64 1, .int .i64 (-1), .int .u32 3, .int .u32 0] from (k36_mkM _ _ _ (⟨1, (-1), (⟨3, 0⟩ : S34)⟩ : S36) )) (Reps.c4 (show Kd.M k36 _ _ _ (⟨2, (-1), (⟨3, 0⟩ : S34)⟩ : S36) [.int .i64 2, .int .i64 (-1), .int .u32 3, .int .u32 0] from (k36_mkM _ _ _ (⟨2, (-1), (⟨3, 0⟩ : S34)⟩ : S36) )) (Reps.c4 (show Kd.M k36 _ _ _ (⟨3, 1, (⟨3, 0⟩ : S34)⟩ : S36) [.int .i64 3, .int .i64 1, .int .u32 3, .int .u32 0] from (k36_mkM _ _ _ (⟨3, 1, (⟨3, 0⟩ : S34)⟩ : S36) )) (Reps.c4 (show Kd.M k36 _ _ _ (⟨4, (-1), (⟨3, 0⟩ : S34)⟩ : S36) [.int .i64 4, .int .i64 (-1), .int .u32 3, .int .u32 0] from (k36_mkM _ _ _ (⟨4, (-1), (⟨3, 0⟩ : S34)⟩ : S36) )) (Reps.none _ _)))))); intro v335 w22 ho23 hb hg_ hnew_; clear hg_ hnew_; (first | rw [← Ny334.out] at ho23 | (simp only [Int.reduceToNat] at ho23; rw [← Ny334.out] at ho23)); have n0_ := Aside0.mk (Kd.N_elder' (by (with_reducible repeat (first | apply Kd.N_alloc | apply Kd.N_drewN | apply Kd.N_drew)); exact HO333.out) (Kd.R_base ho23) hb); have n1_ := Aside0.mk (Kd.R_lower ho23 (below_size (by repeat (first | (with_reducible first | exact HB.out | apply below_alloc | apply pw_below_drewN | apply below_drew1 | refine below_set ?_ GE321.out) | exact HB.out)))); have n2_ := Aside0.mk (blk_below (g := gb321) (o := .cells #[.int .u32 3, .int .u32 0] 34 (0, 0)) (by (with_reducible repeat (first | refine blk_drewN ?_ _ | refine blk_drew ?_ | refine blk_alloc ?_ _)); exact BK321.out) hb); have n3_ := Aside0.mk (below_step (by repeat (first | (with_reducible first | exact HB.out | apply below_alloc | apply pw_below_drewN | apply below_drew1 | refine below_set ?_ GE321.out) | exact HB.out)) hb); clear HO333; clear BK321; clear HB; have HO333 := n0_; have HO336 := n1_; have BK321 := n2_; have HB := n3_; clear n0_ n1_ n2_ n3_; clear hb ho23; obtain ⟨Ao24, co24, eo24⟩ := Kd.N_slice HO333.out; subst eo24; obtain ⟨Ao25, co25, eo25⟩ := Kd.R_slice HO336.out; subst eo25) | ((with_reducible refine gate_callee (f := 20) rfl ?_); refine goesL_ (some 27) rfl rfl Tryd.func20 (by kernel_rfl) rfl #[.slice Ao24 y331.length co24, .slice Ao25 y334.length co25, .int .u32 3] rfl (by (try simp only [List.map_toArray, List.map_cons, List.map_nil]); first | done | rfl | (simp only [List.length_drop, List.length_take]; rfl)) ?_; (with_reducible refine (pick_Pick.calls _ _ y331 _ _ y334 3 t337 t338 t339 _ ?side1 ?side2 ?side3 ?side4 ?tb A1.out).mono ?_); (case tb => exact HT.out.step (by repeat (first | (with_reducible first | exact HB.out | apply below_alloc | apply pw_below_drewN | apply below_drew1 | refine below_set ?_ GE321.out) | exact HB.out))); (case side1 => repeat (first | exact (Kd.N_reads' HO333.out).2.2 | (with_reducible refine Kd.C_alloc ?_ _) | (with_reducible refine Kd.C_drewN ?_ _) | (with_reducible refine Kd.C_drew ?_))); (case side2 => exact (Kd.N_reads' HO333.out).2.1); (case side3 => repeat (first | exact (Kd.R_reads' HO336.out).2.2 | (with_reducible refine Kd.C_alloc ?_ _) | (with_reducible refine Kd.C_drewN ?_ _) | (with_reducible refine Kd.C_drew ?_))); (case side4 => exact (Kd.R_reads' HO336.out).2.1); rintro e w26 ⟨v340, v342, rfl, ho0, ho1, hb⟩; refine ⟨_, rfl, ?_⟩; have n0_ := Aside0.mk (Kd.N_mono (Kd.N_told (Kd.N_told (Kd.N_old (by (with_reducible repeat (first | apply Kd.N_alloc | apply Kd.N_drewN | apply Kd.N_drew)); exact HO333.out) hb) (Kd.R_base ho0)) (Kd.R_base ho1)) (fun _ h_ => h_.1)); have n1_ := Aside0.mk (Kd.R_below (by (with_reducible repeat (first | apply Kd.R_alloc | apply Kd.R_drewN | apply Kd.R_drew)); exact HO336.out) hb); have n2_ := Aside0.mk (Kd.R_lower ho0 (below_size (by repeat (first | (with_reducible first | exact HB.out | apply below_alloc | apply pw_below_drewN | apply below_drew1 | refine below_set ?_ GE321.out) | exact HB.out)))); have n3_ := Aside0.mk (Kd.R_lower ho1 (below_size (by repeat (first | (with_reducible first | exact HB.out | apply below_alloc | apply pw_below_drewN | apply below_drew1 | refine below_set ?_ GE321.out) | exact HB.out)))); have n4_ := Aside0.mk (blk_below (g := gb321) (o := .cells #[.int .u32 3, .int .u32 0] 34 (0, 0)) (by (with_reducible repeat (first | refine blk_drewN ?_ _ | refine blk_drew ?_ | refine blk_alloc ?_ _)); exact BK321.out) hb); have n5_ := Aside0.mk (below_step (by repeat (first | (with_reducible first | exact HB.out | apply below_alloc | apply pw_below_drewN | apply below_drew1 | refine below_set ?_ GE321.out) | exact HB.out)) hb); clear HO333; clear HO336; clear BK321; clear HB; have HO333 := n0_; have HO336 := n1_; have HO341 := n2_; have HO343 := n3_; have BK321 := n4_; have HB := n5_; clear n0_ n1_ n2_ n3_ n4_ n5_; (try clear hb); (try clear hb2); (try clear hk); (try clear hi); (try clear ho0); (try clear ho1); obtain ⟨Ao27, co27, eo27⟩ := Kd.R_slice HO341.out; subst eo27; have p344 : 0 ≤ (0 : Int) := (by omega); have q344 : 0 < (t337.length : Int) := of_decide_eq_true (by first | (with_reducible assumption) | assumption); obtain ⟨ad344, e344, hx344_0, hx344_1⟩ := at_T31 (Kd.R_reads' HO341.out).2.2 0 p344 q344; cases e344; have qi344 : (0 < t337.length) = True := eq_true (by omega); (try rw [show ((0 : Int)).toNat = 0 from rfl] at hx344_0); (try rw [show 0 * 2 = 0 from rfl] at hx344_0); (try rw [Addr.add_zero'] at hx344_0); (try rw [show ((0 : Int)).toNat = 0 from rfl] at hx344_1); (try rw [show 0 * 2 = 0 from rfl] at hx344_1); (try rw [Addr.add_zero'] at hx344_1); replace p344 := eq_true p344; replace q344 := eq_true q344; have p345 : 0 ≤ (1 : Int) := (by omega); have q345 : 1 < (t337.length : Int) := of_decide_eq_true (by first | (with_reducible assumption) | assumption); obtain ⟨ad345, e345, hx345_0, hx345_1⟩ := at_T31 (Kd.R_reads' HO341.out).2.2 1 p345 q345; obtain rfl : ad344 = ad345 := (by injection e345); (try simp only [show (1 : Int).toNat = 1 from rfl, Nat.reduceMul, Nat.reduceEqDiff, Go.Addr.add, ↓reduceIte] at hx345_0); (try simp only [show (1 : Int).toNat = 1 from rfl, Nat.reduceMul, Nat.reduceEqDiff, Go.Addr.add, ↓reduceIte] at hx345_1); have qi345 : (1 < t337.length) = True := eq_true (by omega); (try rw [show ((1 : Int)).toNat = 1 from rfl] at hx345_0); (try rw [show 1 * 2 = 2 from rfl] at hx345_0); (try rw [show ((1 : Int)).toNat = 1 from rfl] at hx345_1); (try rw [show 1 * 2 = 2 from rfl] at hx345_1); replace p345 := eq_true p345; replace q345 := eq_true q345; obtain ⟨Ao28, co28, eo28⟩ := Kd.R_slice HO343.out; subst eo28))
              go_ret
              exact ⟨by first | rfl | (simp [errW_none, errW_some] <;> rfl) | (simp [*, errW_none, errW_some] <;> rfl), by repeat (first | (with_reducible first | exact HB.out | apply below_alloc | apply pw_below_drewN | apply below_drew1 | refine below_set ?_ GE321.out) | exact HB.out)⟩
            · rw [if_neg c7] at H
              have c7b0 : (((rd_T31 t337 1).f0) == 4 && (((rd_T31 t337 1).f1) == 0)) = false := by simpa using c7
              (try (have c7b1 : decide (((rd_T31 t337 1).f0) = 4 && (((rd_T31 t337 1).f1) == 0)) = false := by simpa using c7))
              (try (have c7b2 : (((rd_T31 t337 1).f0) == 4 && (((rd_T31 t337 1).f1) == 0)) = false := by simpa using c7))
              (try (have c7b3 : ¬ (((rd_T31 t337 1).f0) = 4 && (((rd_T31 t337 1).f1) == 0)) := by simpa using c7))
              clear c7
              obtain rfl := Option.some.inj H
              go_enter Tryd.func18, Tryd.ntmps18
              go_wp2_with (first | ((with_reducible refine gate_dst (N := 1) rfl ?_); (try (refine gate_guard (by rfl) ?_; dsimp only)); refine box_event ?hg (N := 1) ?hd (cs := #[.int .u32 0, .int .u32 0]) (t := 34) ?hr ?_; (case hd => rfl); (case hg => rfl); (case hr => first | (go_simp; done) | (go_simp; rfl)); intro gb321 hg w29 hbox hb; have n0_ := Aside0.mk (below_step (by repeat (first | (with_reducible first | exact HB.out | apply below_alloc | apply pw_below_drewN | apply below_drew1) | exact HB.out)) hb); have n1_ := Aside0.mk (hbox); have n2_ := Aside0.mk ((by rw [hg]; exact (below_size (by repeat (first | (with_reducible first | exact HB.out | apply below_alloc | apply pw_below_drewN | apply below_drew1) | exact HB.out))) : w.heap.size ≤ gb321)); have n3_ := Aside0.mk ((by rw [hg]; exact (below_size (by repeat (first | (with_reducible first | exact HB.out | apply below_alloc | apply pw_below_drewN | apply below_drew1) | exact HB.out))) : w.heap.size ≤ gb321)); clear HB; have HB := n0_; have BK321 := n1_; have GW321 := n2_; have GE321 := n3_; clear n0_ n1_ n2_ n3_; clear hb hbox hg; have hcz30_0 : w29.cell? ⟨gb321, 0, none⟩ = some (.int .u32 0) := (blk_cell BK321.out 0).trans rfl; have hcz30_1 : w29.cell? ⟨gb321, 1, none⟩ = some (.int .u32 0) := (blk_cell BK321.out 1).trans rfl; have hfz30_0 := blk_frozen BK321.out 0; have hfz30_1 := blk_frozen BK321.out 1) | ((with_reducible refine gate_dst (N := 8) rfl ?_); (try (refine gate_guard (by rfl) ?_; dsimp only)); refine Kd.R_lit (Kd.int .i64) _ 3 ?hg (N := 8) ?hd (xs := ([3] : List Int)) (inner := [.int .i64 3]) (ok := fun _ => True) (okp := fun _ => True) ?hr ?hp (fun _ hk => hk) trivial (Below.refl _ _) (Nat.le_refl _) (by simp) ?_; (case hd => rfl); (case hg => rfl); (case hr => first | (go_simp; done) | (go_simp; rfl)); (case hp => exact (Reps.one (show Kd.M (Kd.int .i64) _ _ _ 3 [.int .i64 3] from rfl) (Reps.none _ _))); intro v323 w31 ho32 hb hg_ hnew_; clear hg_ hnew_; (first | rw [← Ny322.out] at ho32 | (simp only [Int.reduceToNat] at ho32; rw [← Ny322.out] at ho32)); have n0_ := Aside0.mk (Kd.R_lower ho32 (below_size (by repeat (first | (with_reducible first | exact HB.out | apply below_alloc | apply pw_below_drewN | apply below_drew1 | refine below_set ?_ GE321.out) | exact HB.out)))); have n1_ := Aside0.mk (blk_below (g := gb321) (o := .cells #[.int .u32 3, .int .u32 0] 34 (0, 0)) (by (with_reducible repeat (first | refine blk_drewN ?_ _ | refine blk_drew ?_ | refine blk_alloc ?_ _)); refine blk_put (cs := #[.int .u32 3, .int .u32 0]) ?_ 1 _ rfl; (with_reducible repeat (first | refine blk_drewN ?_ _ | refine blk_drew ?_ | refine blk_alloc ?_ _)); refine blk_put (cs := #[.int .u32 0, .int .u32 0]) ?_ 0 _ rfl; (with_reducible repeat (first | refine blk_drewN ?_ _ | refine blk_drew ?_ | refine blk_alloc ?_ _)); exact BK321.out) hb); have n2_ := Aside0.mk (below_step (by repeat (first | (with_reducible first | exact HB.out | apply below_alloc | apply pw_below_drewN | apply below_drew1 | refine below_set ?_ GE321.out) | exact HB.out)) hb); clear BK321; clear HB; have HO324 := n0_; have BK321 := n1_; have HB := n2_; clear n0_ n1_ n2_; clear hb ho32; obtain ⟨Ao33, co33, eo33⟩ := Kd.R_slice HO324.out; subst eo33) | ((with_reducible refine gate_dst (N := 10) rfl ?_); (try (refine gate_guard (by rfl) ?_; dsimp only)); refine Kd.R_lit (Kd.int .i64) _ 3 ?hg (N := 10) ?hd (xs := ([1, 2] : List Int)) (inner := [.int .i64 1, .int .i64 2]) (ok := fun _ => True) (okp := fun _ => True) ?hr ?hp (fun _ hk => hk) trivial (Below.refl _ _) (Nat.le_refl _) (by simp) ?_; (case hd => rfl); (case hg => rfl); (case hr => first | (go_simp; done) | (go_simp; rfl)); (case hp => exact (Reps.one (show Kd.M (Kd.int .i64) _ _ _ 1 [.int .i64 1] from rfl) (Reps.one (show Kd.M (Kd.int .i64) _ _ _ 2 [.int .i64 2] from rfl) (Reps.none _ _)))); intro v326 w34 ho35 hb hg_ hnew_; clear hg_ hnew_; (first | rw [← Ny325.out] at ho35 | (simp only [Int.reduceToNat] at ho35; rw [← Ny325.out] at ho35)); have n0_ := Aside0.mk (Kd.R_elder' (by (with_reducible repeat (first | apply Kd.R_alloc | apply Kd.R_drewN | apply Kd.R_drew)); exact HO324.out) (Kd.R_base ho35) hb); have n1_ := Aside0.mk (Kd.R_lower (Kd.R_new' ho35 (Kd.R_lt (by (with_reducible repeat (first | apply Kd.R_alloc | apply Kd.R_drewN | apply Kd.R_drew)); exact HO324.out))) (below_size (by repeat (first | (with_reducible first | exact HB.out | apply below_alloc | apply pw_below_drewN | apply below_drew1 | refine below_set ?_ GE321.out) | exact HB.out)))); have n2_ := Aside0.mk (blk_below (g := gb321) (o := .cells #[.int .u32 3, .int .u32 0] 34 (0, 0)) (by (with_reducible repeat (first | refine blk_drewN ?_ _ | refine blk_drew ?_ | refine blk_alloc ?_ _)); exact BK321.out) hb); have n3_ := Aside0.mk (below_step (by repeat (first | (with_reducible first | exact HB.out | apply below_alloc | apply pw_below_drewN | apply below_drew1 | refine below_set ?_ GE321.out) | exact HB.out)) hb); clear HO324; clear BK321; clear HB; have HO324 := n0_; have HO327 := n1_; have BK321 := n2_; have HB := n3_; clear n0_ n1_ n2_ n3_; clear hb ho35; obtain ⟨Ao36, co36, eo36⟩ := Kd.R_slice HO327.out; subst eo36) | ((with_reducible refine gate_dst (N := 12) rfl ?_); (try (refine gate_guard (by rfl) ?_; dsimp only)); refine Kd.R_lit (Kd.int .i64) _ 3 ?hg (N := 12) ?hd (xs := ([4] : List Int)) (inner := [.int .i64 4]) (ok := fun _ => True) (okp := fun _ => True) ?hr ?hp (fun _ hk => hk) trivial (Below.refl _ _) (Nat.le_refl _) (by simp) ?_; (case hd => rfl); (case hg => rfl); (case hr => first | (go_simp; done) | (go_simp; rfl)); (case hp => exact (Reps.one (show Kd.M (Kd.int .i64) _ _ _ 4 [.int .i64 4] from rfl) (Reps.none _ _))); intro v329 w37 ho38 hb hg_ hnew_; clear hg_ hnew_; (first | rw [← Ny328.out] at ho38 | (simp only [Int.reduceToNat] at ho38; rw [← Ny328.out] at ho38)); have n0_ := Aside0.mk (Kd.R_elder' (by (with_reducible repeat (first | apply Kd.R_alloc | apply Kd.R_drewN | apply Kd.R_drew)); exact HO324.out) (Kd.R_base ho38) hb); have n1_ := Aside0.mk (Kd.R_elder' (by (with_reducible repeat (first | apply Kd.R_alloc | apply Kd.R_drewN | apply Kd.R_drew)); exact HO327.out) (Kd.R_base ho38) hb); have n2_ := Aside0.mk (Kd.R_lower (Kd.R_new' (Kd.R_new' ho38 (Kd.R_lt (by (with_reducible repeat (first | apply Kd.R_alloc | apply Kd.R_drewN | apply Kd.R_drew)); exact HO324.out))) (Kd.R_lt (by (with_reducible repeat (first | apply Kd.R_alloc | apply Kd.R_drewN | apply Kd.R_drew)); exact HO327.out))) (below_size (by repeat (first | (with_reducible first | exact HB.out | apply below_alloc | apply pw_below_drewN | apply below_drew1 | refine below_set ?_ GE321.out) | exact HB.out)))); have n3_ := Aside0.mk (blk_below (g := gb321) (o := .cells #[.int .u32 3, .int .u32 0] 34 (0, 0)) (by (with_reducible repeat (first | refine blk_drewN ?_ _ | refine blk_drew ?_ | refine blk_alloc ?_ _)); exact BK321.out) hb); have n4_ := Aside0.mk (below_step (by repeat (first | (with_reducible first | exact HB.out | apply below_alloc | apply pw_below_drewN | apply below_drew1 | refine below_set ?_ GE321.out) | exact HB.out)) hb); clear HO324; clear HO327; clear BK321; clear HB; have HO324 := n0_; have HO327 := n1_; have HO330 := n2_; have BK321 := n3_; have HB := n4_; clear n0_ n1_ n2_ n3_ n4_; clear hb ho38; obtain ⟨Ao39, co39, eo39⟩ := Kd.R_slice HO330.out; subst eo39) | ((with_reducible refine gate_dst (N := 14) rfl ?_); (try (refine gate_guard (by rfl) ?_; dsimp only)); refine Kd.N_lit k90 _ 90 ?hg (N' := 14) ?hd (xs := ([(⟨y322, (⟨(⟨0, 0⟩ : S86), 0⟩ : S88), 0, false⟩ : S90), (⟨y325, (⟨(⟨0, 0⟩ : S86), 0⟩ : S88), 0, false⟩ : S90), (⟨y328, (⟨(⟨0, 0⟩ : S86), 0⟩ : S88), 0, false⟩ : S90)] : List (S90))) (inner := [.slice Ao33 y322.length co33, .int .u64 0, .int .u64 0, .int .u64 0, .int .u64 0, .bool false, .slice Ao36 y325.length co36, .int .u64 0, .int .u64 0, .int .u64 0, .int .u64 0, .bool false, .slice Ao39 y328.length co39, .int .u64 0, .int .u64 0, .int .u64 0, .int .u64 0, .bool false]) (ok := (fun k_ => k_ ≠ gb321)) (okp := (fun k_ => k_ ≠ gb321)) ?hr ?hp (fun _ hk => hk) ((show ∀ k_, w37.heap.size ≤ k_ → (fun k_ => k_ ≠ gb321) k_ from fun k_ hk => Kd.freshB (g := gb321) (o := .cells #[.int .u32 3, .int .u32 0] 34 (0, 0)) (by (with_reducible repeat (first | refine blk_drewN ?_ _ | refine blk_drew ?_ | refine blk_alloc ?_ _)); exact BK321.out) k_ hk) _ (Nat.le_refl _)) (Below.refl _ _) (Nat.le_refl _) (by simp) ?_; (case hd => rfl); (case hg => rfl); (case hr => first | (go_simp; done) | (go_simp; rfl)); (case hp => exact (Reps.c6 (show Kd.FK k90 _ _ (⟨y322, (⟨(⟨0, 0⟩ : S86), 0⟩ : S88), 0, false⟩ : S90) [.slice Ao33 y322.length co33, .int .u64 0, .int .u64 0, .int .u64 0, .int .u64 0, .bool false] from (k90_mkF _ _ (⟨y322, (⟨(⟨0, 0⟩ : S86), 0⟩ : S88), 0, false⟩ : S90) (Kd.R_reads' (Kd.R_mono (ok' := (fun k_ => k_ ≠ gb321)) (Kd.R_types (HO324.out) BK321.out (by decide)) (fun k_ hk => hk.2))).2.1 (Kd.R_F (Kd.R_mono (ok' := (fun k_ => k_ ≠ gb321)) (Kd.R_types (HO324.out) BK321.out (by decide)) (fun k_ hk => hk.2))))) (Reps.c6 (show Kd.FK k90 _ _ (⟨y325, (⟨(⟨0, 0⟩ : S86), 0⟩ : S88), 0, false⟩ : S90) [.slice Ao36 y325.length co36, .int .u64 0, .int .u64 0, .int .u64 0, .int .u64 0, .bool false] from (k90_mkF _ _ (⟨y325, (⟨(⟨0, 0⟩ : S86), 0⟩ : S88), 0, false⟩ : S90) (Kd.R_reads' (Kd.R_mono (ok' := (fun k_ => k_ ≠ gb321)) (Kd.R_types (HO327.out) BK321.out (by decide)) (fun k_ hk => hk.2))).2.1 (Kd.R_F (Kd.R_mono (ok' := (fun k_ => k_ ≠ gb321)) (Kd.R_types (HO327.out) BK321.out (by decide)) (fun k_ hk => hk.2))))) (Reps.c6 (show Kd.FK k90 _ _ (⟨y328, (⟨(⟨0, 0⟩ : S86), 0⟩ : S88), 0, false⟩ : S90) [.slice Ao39 y328.length co39, .int .u64 0, .int .u64 0, .int .u64 0, .int .u64 0, .bool false] from (k90_mkF _ _ (⟨y328, (⟨(⟨0, 0⟩ : S86), 0⟩ : S88), 0, false⟩ : S90) (Kd.R_reads' (Kd.R_mono (ok' := (fun k_ => k_ ≠ gb321)) (Kd.R_types (HO330.out) BK321.out (by decide)) (fun k_ hk => hk.2))).2.1 (Kd.R_F (Kd.R_mono (ok' := (fun k_ => k_ ≠ gb321)) (Kd.R_types (HO330.out) BK321.out (by decide)) (fun k_ hk => hk.2))))) (Reps.none _ _))))); intro v332 w40 ho41 hb hg_ hnew_; clear hg_ hnew_; (first | rw [← Ny331.out] at ho41 | (simp only [Int.reduceToNat] at ho41; rw [← Ny331.out] at ho41)); have n0_ := Aside0.mk (Kd.N_lower ho41 (below_size (by repeat (first | (with_reducible first | exact HB.out | apply below_alloc | apply pw_below_drewN | apply below_drew1 | refine below_set ?_ GE321.out) | exact HB.out)))); have n1_ := Aside0.mk (blk_below (g := gb321) (o := .cells #[.int .u32 3, .int .u32 0] 34 (0, 0)) (by (with_reducible repeat (first | refine blk_drewN ?_ _ | refine blk_drew ?_ | refine blk_alloc ?_ _)); exact BK321.out) hb); have n2_ := Aside0.mk (below_step (by repeat (first | (with_reducible first | exact HB.out | apply below_alloc | apply pw_below_drewN | apply below_drew1 | refine below_set ?_ GE321.out) | exact HB.out)) hb); clear BK321; clear HB; clear HO324; clear HO327; clear HO330; have HO333 := n0_; have BK321 := n1_; have HB := n2_; clear n0_ n1_ n2_; clear hb ho41; have hcz42_0 : w40.cell? ⟨gb321, 0, none⟩ = some (.int .u32 3) := (blk_cell BK321.out 0).trans rfl; have hcz42_1 : w40.cell? ⟨gb321, 1, none⟩ = some (.int .u32 0) := (blk_cell BK321.out 1).trans rfl; have hfz42_0 := blk_frozen BK321.out 0; have hfz42_1 := blk_frozen BK321.out 1) | ((with_reducible refine gate_dst (N := 23) rfl ?_); (try (refine gate_guard (by rfl) ?_; dsimp only)); refine Kd.R_lit k36 _ 36 ?hg (N := 23) ?hd (xs := ([(⟨1, (-1), (⟨3, 0⟩ : S34)⟩ : S36), (⟨2, (-1), (⟨3, 0⟩ : S34)⟩ : S36), (⟨3, 1, (⟨3, 0⟩ : S34)⟩ : S36), (⟨4, (-1), (⟨3, 0⟩ : S34)⟩ : S36)] : List (S36))) (inner := [.int .i64 1, .int .i64 (-1), .int .u32 3, .int .u32 0, .int .i64 2, .int .i64 (-1), .int .u32 3, .int .u32 0, .int .i64 3, .int .i64 1, .int .u32 3, .int .u32 0, .int .i64 4, .int .i64 (-1), .int .u32 3, .int .u32 0]) (ok := fun _ => True) (okp := fun _ => True) ?hr ?hp (fun _ hk => hk) trivial (Below.refl _ _) (Nat.le_refl _) (by simp) ?_; (case hd => rfl); (case hg => rfl); (case hr => first | (go_simp; done) | (go_simp; rfl)); (case hp => exact (Reps.c4 (show Kd.M k36 _ _ _ (⟨1, (-1), (⟨3, 0⟩ : S34)⟩ : S36) [.int .i64 1, .int .i64 (-1), .int .u32 3, .int .u32 0] from (k36_mkM _ _ _ (⟨1, (-1), (⟨3, 0⟩ : S34)⟩ : S36) )) (Reps.c4 (show Kd.M k36 _ _ _ (⟨2, (-1), (⟨3, 0⟩ : S34)⟩ : S36) [.int .i64 2, .int .i64 (-1), .int .u32 3, .int .u32 0] from (k36_mkM _ _ _ (⟨2, (-1), (⟨3, 0⟩ : S34)⟩ : S36) )) (Reps.c4 (show Kd.M k36 _ _ _ (⟨3, 1, (⟨3, 0⟩ : S34)⟩ : S36) [.int .i64 3, .int .i64 1, .int .u32 3, .int .u32 0] from (k36_mkM _ _ _ (⟨3, 1, (⟨3, 0⟩ : S34)⟩ : S36) )) (Reps.c4 (show Kd.M k36 _ _ _ (⟨4, (-1), (⟨3, 0⟩ : S34)⟩ : S36) [.int .i64 4, .int .i64 (-1), .int .u32 3, .int .u32 0] from (k36_mkM _ _ _ (⟨4, (-1), (⟨3, 0⟩ : S34)⟩ : S36) )) (Reps.none _ _)))))); intro v335 w43 ho44 hb hg_ hnew_; clear hg_ hnew_; (first | rw [← Ny334.out] at ho44 | (simp only [Int.reduceToNat] at ho44; rw [← Ny334.out] at ho44)); have n0_ := Aside0.mk (Kd.N_elder' (by (with_reducible repeat (first | apply Kd.N_alloc | apply Kd.N_drewN | apply Kd.N_drew)); exact HO333.out) (Kd.R_base ho44) hb); have n1_ := Aside0.mk (Kd.R_lower ho44 (below_size (by repeat (first | (with_reducible first | exact HB.out | apply below_alloc | apply pw_below_drewN | apply below_drew1 | refine below_set ?_ GE321.out) | exact HB.out)))); have n2_ := Aside0.mk (blk_below (g := gb321) (o := .cells #[.int .u32 3, .int .u32 0] 34 (0, 0)) (by (with_reducible repeat (first | refine blk_drewN ?_ _ | refine blk_drew ?_ | refine blk_alloc ?_ _)); exact BK321.out) hb); have n3_ := Aside0.mk (below_step (by repeat (first | (with_reducible first | exact HB.out | apply below_alloc | apply pw_below_drewN | apply below_drew1 | refine below_set ?_ GE321.out) | exact HB.out)) hb); clear HO333; clear BK321; clear HB; have HO333 := n0_; have HO336 := n1_; have BK321 := n2_; have HB := n3_; clear n0_ n1_ n2_ n3_; clear hb ho44; obtain ⟨Ao45, co45, eo45⟩ := Kd.N_slice HO333.out; subst eo45; obtain ⟨Ao46, co46, eo46⟩ := Kd.R_slice HO336.out; subst eo46) | ((with_reducible refine gate_callee (f := 20) rfl ?_); refine goesL_ (some 27) rfl rfl Tryd.func20 (by kernel_rfl) rfl #[.slice Ao45 y331.length co45, .slice Ao46 y334.length co46, .int .u32 3] rfl (by (try simp only [List.map_toArray, List.map_cons, List.map_nil]); first | done | rfl | (simp only [List.length_drop, List.length_take]; rfl)) ?_; (with_reducible refine (pick_Pick.calls _ _ y331 _ _ y334 3 t337 t338 t339 _ ?side1 ?side2 ?side3 ?side4 ?tb A1.out).mono ?_); (case tb => exact HT.out.step (by repeat (first | (with_reducible first | exact HB.out | apply below_alloc | apply pw_below_drewN | apply below_drew1 | refine below_set ?_ GE321.out) | exact HB.out))); (case side1 => repeat (first | exact (Kd.N_reads' HO333.out).2.2 | (with_reducible refine Kd.C_alloc ?_ _) | (with_reducible refine Kd.C_drewN ?_ _) | (with_reducible refine Kd.C_drew ?_))); (case side2 => exact (Kd.N_reads' HO333.out).2.1); (case side3 => repeat (first | exact (Kd.R_reads' HO336.out).2.2 | (with_reducible refine Kd.C_alloc ?_ _) | (with_reducible refine Kd.C_drewN ?_ _) | (with_reducible refine Kd.C_drew ?_))); (case side4 => exact (Kd.R_reads' HO336.out).2.1); rintro e w47 ⟨v340, v342, rfl, ho0, ho1, hb⟩; refine ⟨_, rfl, ?_⟩; have n0_ := Aside0.mk (Kd.N_mono (Kd.N_told (Kd.N_told (Kd.N_old (by (with_reducible repeat (first | apply Kd.N_alloc | apply Kd.N_drewN | apply Kd.N_drew)); exact HO333.out) hb) (Kd.R_base ho0)) (Kd.R_base ho1)) (fun _ h_ => h_.1)); have n1_ := Aside0.mk (Kd.R_below (by (with_reducible repeat (first | apply Kd.R_alloc | apply Kd.R_drewN | apply Kd.R_drew)); exact HO336.out) hb); have n2_ := Aside0.mk (Kd.R_lower ho0 (below_size (by repeat (first | (with_reducible first | exact HB.out | apply below_alloc | apply pw_below_drewN | apply below_drew1 | refine below_set ?_ GE321.out) | exact HB.out)))); have n3_ := Aside0.mk (Kd.R_lower ho1 (below_size (by repeat (first | (with_reducible first | exact HB.out | apply below_alloc | apply pw_below_drewN | apply below_drew1 | refine below_set ?_ GE321.out) | exact HB.out)))); have n4_ := Aside0.mk (blk_below (g := gb321) (o := .cells #[.int .u32 3, .int .u32 0] 34 (0, 0)) (by (with_reducible repeat (first | refine blk_drewN ?_ _ | refine blk_drew ?_ | refine blk_alloc ?_ _)); exact BK321.out) hb); have n5_ := Aside0.mk (below_step (by repeat (first | (with_reducible first | exact HB.out | apply below_alloc | apply pw_below_drewN | apply below_drew1 | refine below_set ?_ GE321.out) | exact HB.out)) hb); clear HO333; clear HO336; clear BK321; clear HB; have HO333 := n0_; have HO336 := n1_; have HO341 := n2_; have HO343 := n3_; have BK321 := n4_; have HB := n5_; clear n0_ n1_ n2_ n3_ n4_ n5_; (try clear hb); (try clear hb2); (try clear hk); (try clear hi); (try clear ho0); (try clear ho1); obtain ⟨Ao48, co48, eo48⟩ := Kd.R_slice HO341.out; subst eo48; have p344 : 0 ≤ (0 : Int) := (by omega); have q344 : 0 < (t337.length : Int) := of_decide_eq_true (by first | (with_reducible assumption) | assumption); obtain ⟨ad344, e344, hx344_0, hx344_1⟩ := at_T31 (Kd.R_reads' HO341.out).2.2 0 p344 q344; cases e344; have qi344 : (0 < t337.length) = True := eq_true (by omega); (try rw [show ((0 : Int)).toNat = 0 from rfl] at hx344_0); (try rw [show 0 * 2 = 0 from rfl] at hx344_0); (try rw [Addr.add_zero'] at hx344_0); (try rw [show ((0 : Int)).toNat = 0 from rfl] at hx344_1); (try rw [show 0 * 2 = 0 from rfl] at hx344_1); (try rw [Addr.add_zero'] at hx344_1); replace p344 := eq_true p344; replace q344 := eq_true q344; have p345 : 0 ≤ (1 : Int) := (by omega); have q345 : 1 < (t337.length : Int) := of_decide_eq_true (by first | (with_reducible assumption) | assumption); obtain ⟨ad345, e345, hx345_0, hx345_1⟩ := at_T31 (Kd.R_reads' HO341.out).2.2 1 p345 q345; obtain rfl : ad344 = ad345 := (by injection e345); (try simp only [show (1 : Int).toNat = 1 from rfl, Nat.reduceMul, Nat.reduceEqDiff, Go.Addr.add, ↓reduceIte] at hx345_0); (try simp only [show (1 : Int).toNat = 1 from rfl, Nat.reduceMul, Nat.reduceEqDiff, Go.Addr.add, ↓reduceIte] at hx345_1); have qi345 : (1 < t337.length) = True := eq_true (by omega); (try rw [show ((1 : Int)).toNat = 1 from rfl] at hx345_0); (try rw [show 1 * 2 = 2 from rfl] at hx345_0); (try rw [show ((1 : Int)).toNat = 1 from rfl] at hx345_1); (try rw [show 1 * 2 = 2 from rfl] at hx345_1); replace p345 := eq_true p345; replace q345 := eq_true q345))
              go_ret
              exact ⟨by first | rfl | (simp [errW_none, errW_some] <;> rfl) | (simp [*, errW_none, errW_some] <;> rfl), by repeat (first | (with_reducible first | exact HB.out | apply below_alloc | apply pw_below_drewN | apply below_drew1 | refine below_set ?_ GE321.out) | exact HB.out)⟩
          · rw [if_neg c6] at H
            exact absurd H (by simp)
        · rw [if_neg c5] at H
          have c5b0 : (((rd_T31 t337 0).f0) == 3 && (((rd_T31 t337 0).f1) == 1)) = false := by simpa using c5
          (try (have c5b1 : decide (((rd_T31 t337 0).f0) = 3 && (((rd_T31 t337 0).f1) == 1)) = false := by simpa using c5))
          (try (have c5b2 : (((rd_T31 t337 0).f0) == 3 && (((rd_T31 t337 0).f1) == 1)) = false := by simpa using c5))
          (try (have c5b3 : ¬ (((rd_T31 t337 0).f0) = 3 && (((rd_T31 t337 0).f1) == 1)) := by simpa using c5))
          clear c5
          obtain rfl := Option.some.inj H
          go_enter Tryd.func18, Tryd.ntmps18
          go_wp2_with (first | ((with_reducible refine gate_dst (N := 1) rfl ?_); (try (refine gate_guard (by rfl) ?_; dsimp only)); refine box_event ?hg (N := 1) ?hd (cs := #[.int .u32 0, .int .u32 0]) (t := 34) ?hr ?_; (case hd => rfl); (case hg => rfl); (case hr => first | (go_simp; done) | (go_simp; rfl)); intro gb321 hg w49 hbox hb; have n0_ := Aside0.mk (below_step (by repeat (first | (with_reducible first | exact HB.out | apply below_alloc | apply pw_below_drewN | apply below_drew1) | exact HB.out)) hb); have n1_ := Aside0.mk (hbox); have n2_ := Aside0.mk ((by rw [hg]; exact (below_size (by repeat (first | (with_reducible first | exact HB.out | apply below_alloc | apply pw_below_drewN | apply below_drew1) | exact HB.out))) : w.heap.size ≤ gb321)); have n3_ := Aside0.mk ((by rw [hg]; exact (below_size (by repeat (first | (with_reducible first | exact HB.out | apply below_alloc | apply pw_below_drewN | apply below_drew1) | exact HB.out))) : w.heap.size ≤ gb321)); clear HB; have HB := n0_; have BK321 := n1_; have GW321 := n2_; have GE321 := n3_; clear n0_ n1_ n2_ n3_; clear hb hbox hg; have hcz50_0 : w49.cell? ⟨gb321, 0, none⟩ = some (.int .u32 0) := (blk_cell BK321.out 0).trans rfl; have hcz50_1 : w49.cell? ⟨gb321, 1, none⟩ = some (.int .u32 0) := (blk_cell BK321.out 1).trans rfl; have hfz50_0 := blk_frozen BK321.out 0; have hfz50_1 := blk_frozen BK321.out 1) | ((with_reducible refine gate_dst (N := 8) rfl ?_); (try (refine gate_guard (by rfl) ?_; dsimp only)); refine Kd.R_lit (Kd.int .i64) _ 3 ?hg (N := 8) ?hd (xs := ([3] : List Int)) (inner := [.int .i64 3]) (ok := fun _ => True) (okp := fun _ => True) ?hr ?hp (fun _ hk => hk) trivial (Below.refl _ _) (Nat.le_refl _) (by simp) ?_; (case hd => rfl); (case hg => rfl); (case hr => first | (go_simp; done) | (go_simp; rfl)); (case hp => exact (Reps.one (show Kd.M (Kd.int .i64) _ _ _ 3 [.int .i64 3] from rfl) (Reps.none _ _))); intro v323 w51 ho52 hb hg_ hnew_; clear hg_ hnew_; (first | rw [← Ny322.out] at ho52 | (simp only [Int.reduceToNat] at ho52; rw [← Ny322.out] at ho52)); have n0_ := Aside0.mk (Kd.R_lower ho52 (below_size (by repeat (first | (with_reducible first | exact HB.out | apply below_alloc | apply pw_below_drewN | apply below_drew1 | refine below_set ?_ GE321.out) | exact HB.out)))); have n1_ := Aside0.mk (blk_below (g := gb321) (o := .cells #[.int .u32 3, .int .u32 0] 34 (0, 0)) (by (with_reducible repeat (first | refine blk_drewN ?_ _ | refine blk_drew ?_ | refine blk_alloc ?_ _)); refine blk_put (cs := #[.int .u32 3, .int .u32 0]) ?_ 1 _ rfl; (with_reducible repeat (first | refine blk_drewN ?_ _ | refine blk_drew ?_ | refine blk_alloc ?_ _)); refine blk_put (cs := #[.int .u32 0, .int .u32 0]) ?_ 0 _ rfl; (with_reducible repeat (first | refine blk_drewN ?_ _ | refine blk_drew ?_ | refine blk_alloc ?_ _)); exact BK321.out) hb); have n2_ := Aside0.mk (below_step (by repeat (first | (with_reducible first | exact HB.out | apply below_alloc | apply pw_below_drewN | apply below_drew1 | refine below_set ?_ GE321.out) | exact HB.out)) hb); clear BK321; clear HB; have HO324 := n0_; have BK321 := n1_; have HB := n2_; clear n0_ n1_ n2_; clear hb ho52; obtain ⟨Ao53, co53, eo53⟩ := Kd.R_slice HO324.out; subst eo53) | ((with_reducible refine gate_dst (N := 10) rfl ?_); (try (refine gate_guard (by rfl) ?_; dsimp only)); refine Kd.R_lit (Kd.int .i64) _ 3 ?hg (N := 10) ?hd (xs := ([1, 2] : List Int)) (inner := [.int .i64 1, .int .i64 2]) (ok := fun _ => True) (okp := fun _ => True) ?hr ?hp (fun _ hk => hk) trivial (Below.refl _ _) (Nat.le_refl _) (by simp) ?_; (case hd => rfl); (case hg => rfl); (case hr => first | (go_simp; done) | (go_simp; rfl)); (case hp => exact (Reps.one (show Kd.M (Kd.int .i64) _ _ _ 1 [.int .i64 1] from rfl) (Reps.one (show Kd.M (Kd.int .i64) _ _ _ 2 [.int .i64 2] from rfl) (Reps.none _ _)))); intro v326 w54 ho55 hb hg_ hnew_; clear hg_ hnew_; (first | rw [← Ny325.out] at ho55 | (simp only [Int.reduceToNat] at ho55; rw [← Ny325.out] at ho55)); have n0_ := Aside0.mk (Kd.R_elder' (by (with_reducible repeat (first | apply Kd.R_alloc | apply Kd.R_drewN | apply Kd.R_drew)); exact HO324.out) (Kd.R_base ho55) hb); have n1_ := Aside0.mk (Kd.R_lower (Kd.R_new' ho55 (Kd.R_lt (by (with_reducible repeat (first | apply Kd.R_alloc | apply Kd.R_drewN | apply Kd.R_drew)); exact HO324.out))) (below_size (by repeat (first | (with_reducible first | exact HB.out | apply below_alloc | apply pw_below_drewN | apply below_drew1 | refine below_set ?_ GE321.out) | exact HB.out)))); have n2_ := Aside0.mk (blk_below (g := gb321) (o := .cells #[.int .u32 3, .int .u32 0] 34 (0, 0)) (by (with_reducible repeat (first | refine blk_drewN ?_ _ | refine blk_drew ?_ | refine blk_alloc ?_ _)); exact BK321.out) hb); have n3_ := Aside0.mk (below_step (by repeat (first | (with_reducible first | exact HB.out | apply below_alloc | apply pw_below_drewN | apply below_drew1 | refine below_set ?_ GE321.out) | exact HB.out)) hb); clear HO324; clear BK321; clear HB; have HO324 := n0_; have HO327 := n1_; have BK321 := n2_; have HB := n3_; clear n0_ n1_ n2_ n3_; clear hb ho55; obtain ⟨Ao56, co56, eo56⟩ := Kd.R_slice HO327.out; subst eo56) | ((with_reducible refine gate_dst (N := 12) rfl ?_); (try (refine gate_guard (by rfl) ?_; dsimp only)); refine Kd.R_lit (Kd.int .i64) _ 3 ?hg (N := 12) ?hd (xs := ([4] : List Int)) (inner := [.int .i64 4]) (ok := fun _ => True) (okp := fun _ => True) ?hr ?hp (fun _ hk => hk) trivial (Below.refl _ _) (Nat.le_refl _) (by simp) ?_; (case hd => rfl); (case hg => rfl); (case hr => first | (go_simp; done) | (go_simp; rfl)); (case hp => exact (Reps.one (show Kd.M (Kd.int .i64) _ _ _ 4 [.int .i64 4] from rfl) (Reps.none _ _))); intro v329 w57 ho58 hb hg_ hnew_; clear hg_ hnew_; (first | rw [← Ny328.out] at ho58 | (simp only [Int.reduceToNat] at ho58; rw [← Ny328.out] at ho58)); have n0_ := Aside0.mk (Kd.R_elder' (by (with_reducible repeat (first | apply Kd.R_alloc | apply Kd.R_drewN | apply Kd.R_drew)); exact HO324.out) (Kd.R_base ho58) hb); have n1_ := Aside0.mk (Kd.R_elder' (by (with_reducible repeat (first | apply Kd.R_alloc | apply Kd.R_drewN | apply Kd.R_drew)); exact HO327.out) (Kd.R_base ho58) hb); have n2_ := Aside0.mk (Kd.R_lower (Kd.R_new' (Kd.R_new' ho58 (Kd.R_lt (by (with_reducible repeat (first | apply Kd.R_alloc | apply Kd.R_drewN | apply Kd.R_drew)); exact HO324.out))) (Kd.R_lt (by (with_reducible repeat (first | apply Kd.R_alloc | apply Kd.R_drewN | apply Kd.R_drew)); exact HO327.out))) (below_size (by repeat (first | (with_reducible first | exact HB.out | apply below_alloc | apply pw_below_drewN | apply below_drew1 | refine below_set ?_ GE321.out) | exact HB.out)))); have n3_ := Aside0.mk (blk_below (g := gb321) (o := .cells #[.int .u32 3, .int .u32 0] 34 (0, 0)) (by (with_reducible repeat (first | refine blk_drewN ?_ _ | refine blk_drew ?_ | refine blk_alloc ?_ _)); exact BK321.out) hb); have n4_ := Aside0.mk (below_step (by repeat (first | (with_reducible first | exact HB.out | apply below_alloc | apply pw_below_drewN | apply below_drew1 | refine below_set ?_ GE321.out) | exact HB.out)) hb); clear HO324; clear HO327; clear BK321; clear HB; have HO324 := n0_; have HO327 := n1_; have HO330 := n2_; have BK321 := n3_; have HB := n4_; clear n0_ n1_ n2_ n3_ n4_; clear hb ho58; obtain ⟨Ao59, co59, eo59⟩ := Kd.R_slice HO330.out; subst eo59) | ((with_reducible refine gate_dst (N := 14) rfl ?_); (try (refine gate_guard (by rfl) ?_; dsimp only)); refine Kd.N_lit k90 _ 90 ?hg (N' := 14) ?hd (xs := ([(⟨y322, (⟨(⟨0, 0⟩ : S86), 0⟩ : S88), 0, false⟩ : S90), (⟨y325, (⟨(⟨0, 0⟩ : S86), 0⟩ : S88), 0, false⟩ : S90), (⟨y328, (⟨(⟨0, 0⟩ : S86), 0⟩ : S88), 0, false⟩ : S90)] : List (S90))) (inner := [.slice Ao53 y322.length co53, .int .u64 0, .int .u64 0, .int .u64 0, .int .u64 0, .bool false, .slice Ao56 y325.length co56, .int .u64 0, .int .u64 0, .int .u64 0, .int .u64 0, .bool false, .slice Ao59 y328.length co59, .int .u64 0, .int .u64 0, .int .u64 0, .int .u64 0, .bool false]) (ok := (fun k_ => k_ ≠ gb321)) (okp := (fun k_ => k_ ≠ gb321)) ?hr ?hp (fun _ hk => hk) ((show ∀ k_, w57.heap.size ≤ k_ → (fun k_ => k_ ≠ gb321) k_ from fun k_ hk => Kd.freshB (g := gb321) (o := .cells #[.int .u32 3, .int .u32 0] 34 (0, 0)) (by (with_reducible repeat (first | refine blk_drewN ?_ _ | refine blk_drew ?_ | refine blk_alloc ?_ _)); exact BK321.out) k_ hk) _ (Nat.le_refl _)) (Below.refl _ _) (Nat.le_refl _) (by simp) ?_; (case hd => rfl); (case hg => rfl); (case hr => first | (go_simp; done) | (go_simp; rfl)); (case hp => exact (Reps.c6 (show Kd.FK k90 _ _ (⟨y322, (⟨(⟨0, 0⟩ : S86), 0⟩ : S88), 0, false⟩ : S90) [.slice Ao53 y322.length co53, .int .u64 0, .int .u64 0, .int .u64 0, .int .u64 0, .bool false] from (k90_mkF _ _ (⟨y322, (⟨(⟨0, 0⟩ : S86), 0⟩ : S88), 0, false⟩ : S90) (Kd.R_reads' (Kd.R_mono (ok' := (fun k_ => k_ ≠ gb321)) (Kd.R_types (HO324.out) BK321.out (by decide)) (fun k_ hk => hk.2))).2.1 (Kd.R_F (Kd.R_mono (ok' := (fun k_ => k_ ≠ gb321)) (Kd.R_types (HO324.out) BK321.out (by decide)) (fun k_ hk => hk.2))))) (Reps.c6 (show Kd.FK k90 _ _ (⟨y325, (⟨(⟨0, 0⟩ : S86), 0⟩ : S88), 0, false⟩ : S90) [.slice Ao56 y325.length co56, .int .u64 0, .int .u64 0, .int .u64 0, .int .u64 0, .bool false] from (k90_mkF _ _ (⟨y325, (⟨(⟨0, 0⟩ : S86), 0⟩ : S88), 0, false⟩ : S90) (Kd.R_reads' (Kd.R_mono (ok' := (fun k_ => k_ ≠ gb321)) (Kd.R_types (HO327.out) BK321.out (by decide)) (fun k_ hk => hk.2))).2.1 (Kd.R_F (Kd.R_mono (ok' := (fun k_ => k_ ≠ gb321)) (Kd.R_types (HO327.out) BK321.out (by decide)) (fun k_ hk => hk.2))))) (Reps.c6 (show Kd.FK k90 _ _ (⟨y328, (⟨(⟨0, 0⟩ : S86), 0⟩ : S88), 0, false⟩ : S90) [.slice Ao59 y328.length co59, .int .u64 0, .int .u64 0, .int .u64 0, .int .u64 0, .bool false] from (k90_mkF _ _ (⟨y328, (⟨(⟨0, 0⟩ : S86), 0⟩ : S88), 0, false⟩ : S90) (Kd.R_reads' (Kd.R_mono (ok' := (fun k_ => k_ ≠ gb321)) (Kd.R_types (HO330.out) BK321.out (by decide)) (fun k_ hk => hk.2))).2.1 (Kd.R_F (Kd.R_mono (ok' := (fun k_ => k_ ≠ gb321)) (Kd.R_types (HO330.out) BK321.out (by decide)) (fun k_ hk => hk.2))))) (Reps.none _ _))))); intro v332 w60 ho61 hb hg_ hnew_; clear hg_ hnew_; (first | rw [← Ny331.out] at ho61 | (simp only [Int.reduceToNat] at ho61; rw [← Ny331.out] at ho61)); have n0_ := Aside0.mk (Kd.N_lower ho61 (below_size (by repeat (first | (with_reducible first | exact HB.out | apply below_alloc | apply pw_below_drewN | apply below_drew1 | refine below_set ?_ GE321.out) | exact HB.out)))); have n1_ := Aside0.mk (blk_below (g := gb321) (o := .cells #[.int .u32 3, .int .u32 0] 34 (0, 0)) (by (with_reducible repeat (first | refine blk_drewN ?_ _ | refine blk_drew ?_ | refine blk_alloc ?_ _)); exact BK321.out) hb); have n2_ := Aside0.mk (below_step (by repeat (first | (with_reducible first | exact HB.out | apply below_alloc | apply pw_below_drewN | apply below_drew1 | refine below_set ?_ GE321.out) | exact HB.out)) hb); clear BK321; clear HB; clear HO324; clear HO327; clear HO330; have HO333 := n0_; have BK321 := n1_; have HB := n2_; clear n0_ n1_ n2_; clear hb ho61; have hcz62_0 : w60.cell? ⟨gb321, 0, none⟩ = some (.int .u32 3) := (blk_cell BK321.out 0).trans rfl; have hcz62_1 : w60.cell? ⟨gb321, 1, none⟩ = some (.int .u32 0) := (blk_cell BK321.out 1).trans rfl; have hfz62_0 := blk_frozen BK321.out 0; have hfz62_1 := blk_frozen BK321.out 1) | ((with_reducible refine gate_dst (N := 23) rfl ?_); (try (refine gate_guard (by rfl) ?_; dsimp only)); refine Kd.R_lit k36 _ 36 ?hg (N := 23) ?hd (xs := ([(⟨1, (-1), (⟨3, 0⟩ : S34)⟩ : S36), (⟨2, (-1), (⟨3, 0⟩ : S34)⟩ : S36), (⟨3, 1, (⟨3, 0⟩ : S34)⟩ : S36), (⟨4, (-1), (⟨3, 0⟩ : S34)⟩ : S36)] : List (S36))) (inner := [.int .i64 1, .int .i64 (-1), .int .u32 3, .int .u32 0, .int .i64 2, .int .i64 (-1), .int .u32 3, .int .u32 0, .int .i64 3, .int .i64 1, .int .u32 3, .int .u32 0, .int .i64 4, .int .i64 (-1), .int .u32 3, .int .u32 0]) (ok := fun _ => True) (okp := fun _ => True) ?hr ?hp (fun _ hk => hk) trivial (Below.refl _ _) (Nat.le_refl _) (by simp) ?_; (case hd => rfl); (case hg => rfl); (case hr => first | (go_simp; done) | (go_simp; rfl)); (case hp => exact (Reps.c4 (show Kd.M k36 _ _ _ (⟨1, (-1), (⟨3, 0⟩ : S34)⟩ : S36) [.int .i64 1, .int .i64 (-1), .int .u32 3, .int .u32 0] from (k36_mkM _ _ _ (⟨1, (-1), (⟨3, 0⟩ : S34)⟩ : S36) )) (Reps.c4 (show Kd.M k36 _ _ _ (⟨2, (-1), (⟨3, 0⟩ : S34)⟩ : S36) [.int .i64 2, .int .i64 (-1), .int .u32 3, .int .u32 0] from (k36_mkM _ _ _ (⟨2, (-1), (⟨3, 0⟩ : S34)⟩ : S36) )) (Reps.c4 (show Kd.M k36 _ _ _ (⟨3, 1, (⟨3, 0⟩ : S34)⟩ : S36) [.int .i64 3, .int .i64 1, .int .u32 3, .int .u32 0] from (k36_mkM _ _ _ (⟨3, 1, (⟨3, 0⟩ : S34)⟩ : S36) )) (Reps.c4 (show Kd.M k36 _ _ _ (⟨4, (-1), (⟨3, 0⟩ : S34)⟩ : S36) [.int .i64 4, .int .i64 (-1), .int .u32 3, .int .u32 0] from (k36_mkM _ _ _ (⟨4, (-1), (⟨3, 0⟩ : S34)⟩ : S36) )) (Reps.none _ _)))))); intro v335 w63 ho64 hb hg_ hnew_; clear hg_ hnew_; (first | rw [← Ny334.out] at ho64 | (simp only [Int.reduceToNat] at ho64; rw [← Ny334.out] at ho64)); have n0_ := Aside0.mk (Kd.N_elder' (by (with_reducible repeat (first | apply Kd.N_alloc | apply Kd.N_drewN | apply Kd.N_drew)); exact HO333.out) (Kd.R_base ho64) hb); have n1_ := Aside0.mk (Kd.R_lower ho64 (below_size (by repeat (first | (with_reducible first | exact HB.out | apply below_alloc | apply pw_below_drewN | apply below_drew1 | refine below_set ?_ GE321.out) | exact HB.out)))); have n2_ := Aside0.mk (blk_below (g := gb321) (o := .cells #[.int .u32 3, .int .u32 0] 34 (0, 0)) (by (with_reducible repeat (first | refine blk_drewN ?_ _ | refine blk_drew ?_ | refine blk_alloc ?_ _)); exact BK321.out) hb); have n3_ := Aside0.mk (below_step (by repeat (first | (with_reducible first | exact HB.out | apply below_alloc | apply pw_below_drewN | apply below_drew1 | refine below_set ?_ GE321.out) | exact HB.out)) hb); clear HO333; clear BK321; clear HB; have HO333 := n0_; have HO336 := n1_; have BK321 := n2_; have HB := n3_; clear n0_ n1_ n2_ n3_; clear hb ho64; obtain ⟨Ao65, co65, eo65⟩ := Kd.N_slice HO333.out; subst eo65; obtain ⟨Ao66, co66, eo66⟩ := Kd.R_slice HO336.out; subst eo66) | ((with_reducible refine gate_callee (f := 20) rfl ?_); refine goesL_ (some 27) rfl rfl Tryd.func20 (by kernel_rfl) rfl #[.slice Ao65 y331.length co65, .slice Ao66 y334.length co66, .int .u32 3] rfl (by (try simp only [List.map_toArray, List.map_cons, List.map_nil]); first | done | rfl | (simp only [List.length_drop, List.length_take]; rfl)) ?_; (with_reducible refine (pick_Pick.calls _ _ y331 _ _ y334 3 t337 t338 t339 _ ?side1 ?side2 ?side3 ?side4 ?tb A1.out).mono ?_); (case tb => exact HT.out.step (by repeat (first | (with_reducible first | exact HB.out | apply below_alloc | apply pw_below_drewN | apply below_drew1 | refine below_set ?_ GE321.out) | exact HB.out))); (case side1 => repeat (first | exact (Kd.N_reads' HO333.out).2.2 | (with_reducible refine Kd.C_alloc ?_ _) | (with_reducible refine Kd.C_drewN ?_ _) | (with_reducible refine Kd.C_drew ?_))); (case side2 => exact (Kd.N_reads' HO333.out).2.1); (case side3 => repeat (first | exact (Kd.R_reads' HO336.out).2.2 | (with_reducible refine Kd.C_alloc ?_ _) | (with_reducible refine Kd.C_drewN ?_ _) | (with_reducible refine Kd.C_drew ?_))); (case side4 => exact (Kd.R_reads' HO336.out).2.1); rintro e w67 ⟨v340, v342, rfl, ho0, ho1, hb⟩; refine ⟨_, rfl, ?_⟩; have n0_ := Aside0.mk (Kd.N_mono (Kd.N_told (Kd.N_told (Kd.N_old (by (with_reducible repeat (first | apply Kd.N_alloc | apply Kd.N_drewN | apply Kd.N_drew)); exact HO333.out) hb) (Kd.R_base ho0)) (Kd.R_base ho1)) (fun _ h_ => h_.1)); have n1_ := Aside0.mk (Kd.R_below (by (with_reducible repeat (first | apply Kd.R_alloc | apply Kd.R_drewN | apply Kd.R_drew)); exact HO336.out) hb); have n2_ := Aside0.mk (Kd.R_lower ho0 (below_size (by repeat (first | (with_reducible first | exact HB.out | apply below_alloc | apply pw_below_drewN | apply below_drew1 | refine below_set ?_ GE321.out) | exact HB.out)))); have n3_ := Aside0.mk (Kd.R_lower ho1 (below_size (by repeat (first | (with_reducible first | exact HB.out | apply below_alloc | apply pw_below_drewN | apply below_drew1 | refine below_set ?_ GE321.out) | exact HB.out)))); have n4_ := Aside0.mk (blk_below (g := gb321) (o := .cells #[.int .u32 3, .int .u32 0] 34 (0, 0)) (by (with_reducible repeat (first | refine blk_drewN ?_ _ | refine blk_drew ?_ | refine blk_alloc ?_ _)); exact BK321.out) hb); have n5_ := Aside0.mk (below_step (by repeat (first | (with_reducible first | exact HB.out | apply below_alloc | apply pw_below_drewN | apply below_drew1 | refine below_set ?_ GE321.out) | exact HB.out)) hb); clear HO333; clear HO336; clear BK321; clear HB; have HO333 := n0_; have HO336 := n1_; have HO341 := n2_; have HO343 := n3_; have BK321 := n4_; have HB := n5_; clear n0_ n1_ n2_ n3_ n4_ n5_; (try clear hb); (try clear hb2); (try clear hk); (try clear hi); (try clear ho0); (try clear ho1); obtain ⟨Ao68, co68, eo68⟩ := Kd.R_slice HO341.out; subst eo68; have p344 : 0 ≤ (0 : Int) := (by omega); have q344 : 0 < (t337.length : Int) := of_decide_eq_true (by first | (with_reducible assumption) | assumption); obtain ⟨ad344, e344, hx344_0, hx344_1⟩ := at_T31 (Kd.R_reads' HO341.out).2.2 0 p344 q344; cases e344; have qi344 : (0 < t337.length) = True := eq_true (by omega); (try rw [show ((0 : Int)).toNat = 0 from rfl] at hx344_0); (try rw [show 0 * 2 = 0 from rfl] at hx344_0); (try rw [Addr.add_zero'] at hx344_0); (try rw [show ((0 : Int)).toNat = 0 from rfl] at hx344_1); (try rw [show 0 * 2 = 0 from rfl] at hx344_1); (try rw [Addr.add_zero'] at hx344_1); replace p344 := eq_true p344; replace q344 := eq_true q344))
          go_ret
          exact ⟨by first | rfl | (simp [errW_none, errW_some] <;> rfl) | (simp [*, errW_none, errW_some] <;> rfl), by repeat (first | (with_reducible first | exact HB.out | apply below_alloc | apply pw_below_drewN | apply below_drew1 | refine below_set ?_ GE321.out) | exact HB.out)⟩
      · rw [if_neg c4] at H
        exact absurd H (by simp)
    · rw [if_neg c3] at H
      have c3b0 : ((t337.length : Int) == 2) = false := beq_eq_false_iff_ne.mpr c3
      have c3b1 : ((t337.length : Int) != 2) = true := bne_iff_ne.mpr c3
      obtain rfl := Option.some.inj H
      go_enter Tryd.func18, Tryd.ntmps18
      go_wp2_with (first | ((with_reducible refine gate_dst (N := 1) rfl ?_); (try (refine gate_guard (by rfl) ?_; dsimp only)); refine box_event ?hg (N := 1) ?hd (cs := #[.int .u32 0, .int .u32 0]) (t := 34) ?hr ?_; (case hd => rfl); (case hg => rfl); (case hr => first | (go_simp; done) | (go_simp; rfl)); intro gb321 hg w69 hbox hb; have n0_ := Aside0.mk (below_step (by repeat (first | (with_reducible first | exact HB.out | apply below_alloc | apply pw_below_drewN | apply below_drew1) | exact HB.out)) hb); have n1_ := Aside0.mk (hbox); have n2_ := Aside0.mk ((by rw [hg]; exact (below_size (by repeat (first | (with_reducible first | exact HB.out | apply below_alloc | apply pw_below_drewN | apply below_drew1) | exact HB.out))) : w.heap.size ≤ gb321)); have n3_ := Aside0.mk ((by rw [hg]; exact (below_size (by repeat (first | (with_reducible first | exact HB.out | apply below_alloc | apply pw_below_drewN | apply below_drew1) | exact HB.out))) : w.heap.size ≤ gb321)); clear HB; have HB := n0_; have BK321 := n1_; have GW321 := n2_; have GE321 := n3_; clear n0_ n1_ n2_ n3_; clear hb hbox hg; have hcz70_0 : w69.cell? ⟨gb321, 0, none⟩ = some (.int .u32 0) := (blk_cell BK321.out 0).trans rfl; have hcz70_1 : w69.cell? ⟨gb321, 1, none⟩ = some (.int .u32 0) := (blk_cell BK321.out 1).trans rfl; have hfz70_0 := blk_frozen BK321.out 0; have hfz70_1 := blk_frozen BK321.out 1) | ((with_reducible refine gate_dst (N := 8) rfl ?_); (try (refine gate_guard (by rfl) ?_; dsimp only)); refine Kd.R_lit (Kd.int .i64) _ 3 ?hg (N := 8) ?hd (xs := ([3] : List Int)) (inner := [.int .i64 3]) (ok := fun _ => True) (okp := fun _ => True) ?hr ?hp (fun _ hk => hk) trivial (Below.refl _ _) (Nat.le_refl _) (by simp) ?_; (case hd => rfl); (case hg => rfl); (case hr => first | (go_simp; done) | (go_simp; rfl)); (case hp => exact (Reps.one (show Kd.M (Kd.int .i64) _ _ _ 3 [.int .i64 3] from rfl) (Reps.none _ _))); intro v323 w71 ho72 hb hg_ hnew_; clear hg_ hnew_; (first | rw [← Ny322.out] at ho72 | (simp only [Int.reduceToNat] at ho72; rw [← Ny322.out] at ho72)); have n0_ := Aside0.mk (Kd.R_lower ho72 (below_size (by repeat (first | (with_reducible first | exact HB.out | apply below_alloc | apply pw_below_drewN | apply below_drew1 | refine below_set ?_ GE321.out) | exact HB.out)))); have n1_ := Aside0.mk (blk_below (g := gb321) (o := .cells #[.int .u32 3, .int .u32 0] 34 (0, 0)) (by (with_reducible repeat (first | refine blk_drewN ?_ _ | refine blk_drew ?_ | refine blk_alloc ?_ _)); refine blk_put (cs := #[.int .u32 3, .int .u32 0]) ?_ 1 _ rfl; (with_reducible repeat (first | refine blk_drewN ?_ _ | refine blk_drew ?_ | refine blk_alloc ?_ _)); refine blk_put (cs := #[.int .u32 0, .int .u32 0]) ?_ 0 _ rfl; (with_reducible repeat (first | refine blk_drewN ?_ _ | refine blk_drew ?_ | refine blk_alloc ?_ _)); exact BK321.out) hb); have n2_ := Aside0.mk (below_step (by repeat (first | (with_reducible first | exact HB.out | apply below_alloc | apply pw_below_drewN | apply below_drew1 | refine below_set ?_ GE321.out) | exact HB.out)) hb); clear BK321; clear HB; have HO324 := n0_; have BK321 := n1_; have HB := n2_; clear n0_ n1_ n2_; clear hb ho72; obtain ⟨Ao73, co73, eo73⟩ := Kd.R_slice HO324.out; subst eo73) | ((with_reducible refine gate_dst (N := 10) rfl ?_); (try (refine gate_guard (by rfl) ?_; dsimp only)); refine Kd.R_lit (Kd.int .i64) _ 3 ?hg (N := 10) ?hd (xs := ([1, 2] : List Int)) (inner := [.int .i64 1, .int .i64 2]) (ok := fun _ => True) (okp := fun _ => True) ?hr ?hp (fun _ hk => hk) trivial (Below.refl _ _) (Nat.le_refl _) (by simp) ?_; (case hd => rfl); (case hg => rfl); (case hr => first | (go_simp; done) | (go_simp; rfl)); (case hp => exact (Reps.one (show Kd.M (Kd.int .i64) _ _ _ 1 [.int .i64 1] from rfl) (Reps.one (show Kd.M (Kd.int .i64) _ _ _ 2 [.int .i64 2] from rfl) (Reps.none _ _)))); intro v326 w74 ho75 hb hg_ hnew_; clear hg_ hnew_; (first | rw [← Ny325.out] at ho75 | (simp only [Int.reduceToNat] at ho75; rw [← Ny325.out] at ho75)); have n0_ := Aside0.mk (Kd.R_elder' (by (with_reducible repeat (first | apply Kd.R_alloc | apply Kd.R_drewN | apply Kd.R_drew)); exact HO324.out) (Kd.R_base ho75) hb); have n1_ := Aside0.mk (Kd.R_lower (Kd.R_new' ho75 (Kd.R_lt (by (with_reducible repeat (first | apply Kd.R_alloc | apply Kd.R_drewN | apply Kd.R_drew)); exact HO324.out))) (below_size (by repeat (first | (with_reducible first | exact HB.out | apply below_alloc | apply pw_below_drewN | apply below_drew1 | refine below_set ?_ GE321.out) | exact HB.out)))); have n2_ := Aside0.mk (blk_below (g := gb321) (o := .cells #[.int .u32 3, .int .u32 0] 34 (0, 0)) (by (with_reducible repeat (first | refine blk_drewN ?_ _ | refine blk_drew ?_ | refine blk_alloc ?_ _)); exact BK321.out) hb); have n3_ := Aside0.mk (below_step (by repeat (first | (with_reducible first | exact HB.out | apply below_alloc | apply pw_below_drewN | apply below_drew1 | refine below_set ?_ GE321.out) | exact HB.out)) hb); clear HO324; clear BK321; clear HB; have HO324 := n0_; have HO327 := n1_; have BK321 := n2_; have HB := n3_; clear n0_ n1_ n2_ n3_; clear hb ho75; obtain ⟨Ao76, co76, eo76⟩ := Kd.R_slice HO327.out; subst eo76) | ((with_reducible refine gate_dst (N := 12) rfl ?_); (try (refine gate_guard (by rfl) ?_; dsimp only)); refine Kd.R_lit (Kd.int .i64) _ 3 ?hg (N := 12) ?hd (xs := ([4] : List Int)) (inner := [.int .i64 4]) (ok := fun _ => True) (okp := fun _ => True) ?hr ?hp (fun _ hk => hk) trivial (Below.refl _ _) (Nat.le_refl _) (by simp) ?_; (case hd => rfl); (case hg => rfl); (case hr => first | (go_simp; done) | (go_simp; rfl)); (case hp => exact (Reps.one (show Kd.M (Kd.int .i64) _ _ _ 4 [.int .i64 4] from rfl) (Reps.none _ _))); intro v329 w77 ho78 hb hg_ hnew_; clear hg_ hnew_; (first | rw [← Ny328.out] at ho78 | (simp only [Int.reduceToNat] at ho78; rw [← Ny328.out] at ho78)); have n0_ := Aside0.mk (Kd.R_elder' (by (with_reducible repeat (first | apply Kd.R_alloc | apply Kd.R_drewN | apply Kd.R_drew)); exact HO324.out) (Kd.R_base ho78) hb); have n1_ := Aside0.mk (Kd.R_elder' (by (with_reducible repeat (first | apply Kd.R_alloc | apply Kd.R_drewN | apply Kd.R_drew)); exact HO327.out) (Kd.R_base ho78) hb); have n2_ := Aside0.mk (Kd.R_lower (Kd.R_new' (Kd.R_new' ho78 (Kd.R_lt (by (with_reducible repeat (first | apply Kd.R_alloc | apply Kd.R_drewN | apply Kd.R_drew)); exact HO324.out))) (Kd.R_lt (by (with_reducible repeat (first | apply Kd.R_alloc | apply Kd.R_drewN | apply Kd.R_drew)); exact HO327.out))) (below_size (by repeat (first | (with_reducible first | exact HB.out | apply below_alloc | apply pw_below_drewN | apply below_drew1 | refine below_set ?_ GE321.out) | exact HB.out)))); have n3_ := Aside0.mk (blk_below (g := gb321) (o := .cells #[.int .u32 3, .int .u32 0] 34 (0, 0)) (by (with_reducible repeat (first | refine blk_drewN ?_ _ | refine blk_drew ?_ | refine blk_alloc ?_ _)); exact BK321.out) hb); have n4_ := Aside0.mk (below_step (by repeat (first | (with_reducible first | exact HB.out | apply below_alloc | apply pw_below_drewN | apply below_drew1 | refine below_set ?_ GE321.out) | exact HB.out)) hb); clear HO324; clear HO327; clear BK321; clear HB; have HO324 := n0_; have HO327 := n1_; have HO330 := n2_; have BK321 := n3_; have HB := n4_; clear n0_ n1_ n2_ n3_ n4_; clear hb ho78; obtain ⟨Ao79, co79, eo79⟩ := Kd.R_slice HO330.out; subst eo79) | ((with_reducible refine gate_dst (N := 14) rfl ?_); (try (refine gate_guard (by rfl) ?_; dsimp only)); refine Kd.N_lit k90 _ 90 ?hg (N' := 14) ?hd (xs := ([(⟨y322, (⟨(⟨0, 0⟩ : S86), 0⟩ : S88), 0, false⟩ : S90), (⟨y325, (⟨(⟨0, 0⟩ : S86), 0⟩ : S88), 0, false⟩ : S90), (⟨y328, (⟨(⟨0, 0⟩ : S86), 0⟩ : S88), 0, false⟩ : S90)] : List (S90))) (inner := [.slice Ao73 y322.length co73, .int .u64 0, .int .u64 0, .int .u64 0, .int .u64 0, .bool false, .slice Ao76 y325.length co76, .int .u64 0, .int .u64 0, .int .u64 0, .int .u64 0, .bool false, .slice Ao79 y328.length co79, .int .u64 0, .int .u64 0, .int .u64 0, .int .u64 0, .bool false]) (ok := (fun k_ => k_ ≠ gb321)) (okp := (fun k_ => k_ ≠ gb321)) ?hr ?hp (fun _ hk => hk) ((show ∀ k_, w77.heap.size ≤ k_ → (fun k_ => k_ ≠ gb321) k_ from fun k_ hk => Kd.freshB (g := gb321) (o := .cells #[.int .u32 3, .int .u32 0] 34 (0, 0)) (by (with_reducible repeat (first | refine blk_drewN ?_ _ | refine blk_drew ?_ | refine blk_alloc ?_ _)); exact BK321.out) k_ hk) _ (Nat.le_refl _)) (Below.refl _ _) (Nat.le_refl _) (by simp) ?_; (case hd => rfl); (case hg => rfl); (case hr => first | (go_simp; done) | (go_simp; rfl)); (case hp => exact (Reps.c6 (show Kd.FK k90 _ _ (⟨y322, (⟨(⟨0, 0⟩ : S86), 0⟩ : S88), 0, false⟩ : S90) [.slice Ao73 y322.length co73, .int .u64 0, .int .u64 0, .int .u64 0, .int .u64 0, .bool false] from (k90_mkF _ _ (⟨y322, (⟨(⟨0, 0⟩ : S86), 0⟩ : S88), 0, false⟩ : S90) (Kd.R_reads' (Kd.R_mono (ok' := (fun k_ => k_ ≠ gb321)) (Kd.R_types (HO324.out) BK321.out (by decide)) (fun k_ hk => hk.2))).2.1 (Kd.R_F (Kd.R_mono (ok' := (fun k_ => k_ ≠ gb321)) (Kd.R_types (HO324.out) BK321.out (by decide)) (fun k_ hk => hk.2))))) (Reps.c6 (show Kd.FK k90 _ _ (⟨y325, (⟨(⟨0, 0⟩ : S86), 0⟩ : S88), 0, false⟩ : S90) [.slice Ao76 y325.length co76, .int .u64 0, .int .u64 0, .int .u64 0, .int .u64 0, .bool false] from (k90_mkF _ _ (⟨y325, (⟨(⟨0, 0⟩ : S86), 0⟩ : S88), 0, false⟩ : S90) (Kd.R_reads' (Kd.R_mono (ok' := (fun k_ => k_ ≠ gb321)) (Kd.R_types (HO327.out) BK321.out (by decide)) (fun k_ hk => hk.2))).2.1 (Kd.R_F (Kd.R_mono (ok' := (fun k_ => k_ ≠ gb321)) (Kd.R_types (HO327.out) BK321.out (by decide)) (fun k_ hk => hk.2))))) (Reps.c6 (show Kd.FK k90 _ _ (⟨y328, (⟨(⟨0, 0⟩ : S86), 0⟩ : S88), 0, false⟩ : S90) [.slice Ao79 y328.length co79, .int .u64 0, .int .u64 0, .int .u64 0, .int .u64 0, .bool false] from (k90_mkF _ _ (⟨y328, (⟨(⟨0, 0⟩ : S86), 0⟩ : S88), 0, false⟩ : S90) (Kd.R_reads' (Kd.R_mono (ok' := (fun k_ => k_ ≠ gb321)) (Kd.R_types (HO330.out) BK321.out (by decide)) (fun k_ hk => hk.2))).2.1 (Kd.R_F (Kd.R_mono (ok' := (fun k_ => k_ ≠ gb321)) (Kd.R_types (HO330.out) BK321.out (by decide)) (fun k_ hk => hk.2))))) (Reps.none _ _))))); intro v332 w80 ho81 hb hg_ hnew_; clear hg_ hnew_; (first | rw [← Ny331.out] at ho81 | (simp only [Int.reduceToNat] at ho81; rw [← Ny331.out] at ho81)); have n0_ := Aside0.mk (Kd.N_lower ho81 (below_size (by repeat (first | (with_reducible first | exact HB.out | apply below_alloc | apply pw_below_drewN | apply below_drew1 | refine below_set ?_ GE321.out) | exact HB.out)))); have n1_ := Aside0.mk (blk_below (g := gb321) (o := .cells #[.int .u32 3, .int .u32 0] 34 (0, 0)) (by (with_reducible repeat (first | refine blk_drewN ?_ _ | refine blk_drew ?_ | refine blk_alloc ?_ _)); exact BK321.out) hb); have n2_ := Aside0.mk (below_step (by repeat (first | (with_reducible first | exact HB.out | apply below_alloc | apply pw_below_drewN | apply below_drew1 | refine below_set ?_ GE321.out) | exact HB.out)) hb); clear BK321; clear HB; clear HO324; clear HO327; clear HO330; have HO333 := n0_; have BK321 := n1_; have HB := n2_; clear n0_ n1_ n2_; clear hb ho81; have hcz82_0 : w80.cell? ⟨gb321, 0, none⟩ = some (.int .u32 3) := (blk_cell BK321.out 0).trans rfl; have hcz82_1 : w80.cell? ⟨gb321, 1, none⟩ = some (.int .u32 0) := (blk_cell BK321.out 1).trans rfl; have hfz82_0 := blk_frozen BK321.out 0; have hfz82_1 := blk_frozen BK321.out 1) | ((with_reducible refine gate_dst (N := 23) rfl ?_); (try (refine gate_guard (by rfl) ?_; dsimp only)); refine Kd.R_lit k36 _ 36 ?hg (N := 23) ?hd (xs := ([(⟨1, (-1), (⟨3, 0⟩ : S34)⟩ : S36), (⟨2, (-1), (⟨3, 0⟩ : S34)⟩ : S36), (⟨3, 1, (⟨3, 0⟩ : S34)⟩ : S36), (⟨4, (-1), (⟨3, 0⟩ : S34)⟩ : S36)] : List (S36))) (inner := [.int .i64 1, .int .i64 (-1), .int .u32 3, .int .u32 0, .int .i64 2, .int .i64 (-1), .int .u32 3, .int .u32 0, .int .i64 3, .int .i64 1, .int .u32 3, .int .u32 0, .int .i64 4, .int .i64 (-1), .int .u32 3, .int .u32 0]) (ok := fun _ => True) (okp := fun _ => True) ?hr ?hp (fun _ hk => hk) trivial (Below.refl _ _) (Nat.le_refl _) (by simp) ?_; (case hd => rfl); (case hg => rfl); (case hr => first | (go_simp; done) | (go_simp; rfl)); (case hp => exact (Reps.c4 (show Kd.M k36 _ _ _ (⟨1, (-1), (⟨3, 0⟩ : S34)⟩ : S36) [.int .i64 1, .int .i64 (-1), .int .u32 3, .int .u32 0] from (k36_mkM _ _ _ (⟨1, (-1), (⟨3, 0⟩ : S34)⟩ : S36) )) (Reps.c4 (show Kd.M k36 _ _ _ (⟨2, (-1), (⟨3, 0⟩ : S34)⟩ : S36) [.int .i64 2, .int .i64 (-1), .int .u32 3, .int .u32 0] from (k36_mkM _ _ _ (⟨2, (-1), (⟨3, 0⟩ : S34)⟩ : S36) )) (Reps.c4 (show Kd.M k36 _ _ _ (⟨3, 1, (⟨3, 0⟩ : S34)⟩ : S36) [.int .i64 3, .int .i64 1, .int .u32 3, .int .u32 0] from (k36_mkM _ _ _ (⟨3, 1, (⟨3, 0⟩ : S34)⟩ : S36) )) (Reps.c4 (show Kd.M k36 _ _ _ (⟨4, (-1), (⟨3, 0⟩ : S34)⟩ : S36) [.int .i64 4, .int .i64 (-1), .int .u32 3, .int .u32 0] from (k36_mkM _ _ _ (⟨4, (-1), (⟨3, 0⟩ : S34)⟩ : S36) )) (Reps.none _ _)))))); intro v335 w83 ho84 hb hg_ hnew_; clear hg_ hnew_; (first | rw [← Ny334.out] at ho84 | (simp only [Int.reduceToNat] at ho84; rw [← Ny334.out] at ho84)); have n0_ := Aside0.mk (Kd.N_elder' (by (with_reducible repeat (first | apply Kd.N_alloc | apply Kd.N_drewN | apply Kd.N_drew)); exact HO333.out) (Kd.R_base ho84) hb); have n1_ := Aside0.mk (Kd.R_lower ho84 (below_size (by repeat (first | (with_reducible first | exact HB.out | apply below_alloc | apply pw_below_drewN | apply below_drew1 | refine below_set ?_ GE321.out) | exact HB.out)))); have n2_ := Aside0.mk (blk_below (g := gb321) (o := .cells #[.int .u32 3, .int .u32 0] 34 (0, 0)) (by (with_reducible repeat (first | refine blk_drewN ?_ _ | refine blk_drew ?_ | refine blk_alloc ?_ _)); exact BK321.out) hb); have n3_ := Aside0.mk (below_step (by repeat (first | (with_reducible first | exact HB.out | apply below_alloc | apply pw_below_drewN | apply below_drew1 | refine below_set ?_ GE321.out) | exact HB.out)) hb); clear HO333; clear BK321; clear HB; have HO333 := n0_; have HO336 := n1_; have BK321 := n2_; have HB := n3_; clear n0_ n1_ n2_ n3_; clear hb ho84; obtain ⟨Ao85, co85, eo85⟩ := Kd.N_slice HO333.out; subst eo85; obtain ⟨Ao86, co86, eo86⟩ := Kd.R_slice HO336.out; subst eo86) | ((with_reducible refine gate_callee (f := 20) rfl ?_); refine goesL_ (some 27) rfl rfl Tryd.func20 (by kernel_rfl) rfl #[.slice Ao85 y331.length co85, .slice Ao86 y334.length co86, .int .u32 3] rfl (by (try simp only [List.map_toArray, List.map_cons, List.map_nil]); first | done | rfl | (simp only [List.length_drop, List.length_take]; rfl)) ?_; (with_reducible refine (pick_Pick.calls _ _ y331 _ _ y334 3 t337 t338 t339 _ ?side1 ?side2 ?side3 ?side4 ?tb A1.out).mono ?_); (case tb => exact HT.out.step (by repeat (first | (with_reducible first | exact HB.out | apply below_alloc | apply pw_below_drewN | apply below_drew1 | refine below_set ?_ GE321.out) | exact HB.out))); (case side1 => repeat (first | exact (Kd.N_reads' HO333.out).2.2 | (with_reducible refine Kd.C_alloc ?_ _) | (with_reducible refine Kd.C_drewN ?_ _) | (with_reducible refine Kd.C_drew ?_))); (case side2 => exact (Kd.N_reads' HO333.out).2.1); (case side3 => repeat (first | exact (Kd.R_reads' HO336.out).2.2 | (with_reducible refine Kd.C_alloc ?_ _) | (with_reducible refine Kd.C_drewN ?_ _) | (with_reducible refine Kd.C_drew ?_))); (case side4 => exact (Kd.R_reads' HO336.out).2.1); rintro e w87 ⟨v340, v342, rfl, ho0, ho1, hb⟩; refine ⟨_, rfl, ?_⟩; have n0_ := Aside0.mk (Kd.N_mono (Kd.N_told (Kd.N_told (Kd.N_old (by (with_reducible repeat (first | apply Kd.N_alloc | apply Kd.N_drewN | apply Kd.N_drew)); exact HO333.out) hb) (Kd.R_base ho0)) (Kd.R_base ho1)) (fun _ h_ => h_.1)); have n1_ := Aside0.mk (Kd.R_below (by (with_reducible repeat (first | apply Kd.R_alloc | apply Kd.R_drewN | apply Kd.R_drew)); exact HO336.out) hb); have n2_ := Aside0.mk (Kd.R_lower ho0 (below_size (by repeat (first | (with_reducible first | exact HB.out | apply below_alloc | apply pw_below_drewN | apply below_drew1 | refine below_set ?_ GE321.out) | exact HB.out)))); have n3_ := Aside0.mk (Kd.R_lower ho1 (below_size (by repeat (first | (with_reducible first | exact HB.out | apply below_alloc | apply pw_below_drewN | apply below_drew1 | refine below_set ?_ GE321.out) | exact HB.out)))); have n4_ := Aside0.mk (blk_below (g := gb321) (o := .cells #[.int .u32 3, .int .u32 0] 34 (0, 0)) (by (with_reducible repeat (first | refine blk_drewN ?_ _ | refine blk_drew ?_ | refine blk_alloc ?_ _)); exact BK321.out) hb); have n5_ := Aside0.mk (below_step (by repeat (first | (with_reducible first | exact HB.out | apply below_alloc | apply pw_below_drewN | apply below_drew1 | refine below_set ?_ GE321.out) | exact HB.out)) hb); clear HO333; clear HO336; clear BK321; clear HB; have HO333 := n0_; have HO336 := n1_; have HO341 := n2_; have HO343 := n3_; have BK321 := n4_; have HB := n5_; clear n0_ n1_ n2_ n3_ n4_ n5_; (try clear hb); (try clear hb2); (try clear hk); (try clear hi); (try clear ho0); (try clear ho1); obtain ⟨Ao88, co88, eo88⟩ := Kd.R_slice HO341.out; subst eo88))
      go_ret
      exact ⟨by first | rfl | (simp [errW_none, errW_some] <;> rfl) | (simp [*, errW_none, errW_some] <;> rfl), by repeat (first | (with_reducible first | exact HB.out | apply below_alloc | apply pw_below_drewN | apply below_drew1 | refine below_set ?_ GE321.out) | exact HB.out)⟩
  · rw [if_neg c2] at H
    have c2b0 : (t339 == 0) = false := beq_eq_false_iff_ne.mpr c2
    have c2b1 : (t339 != 0) = true := bne_iff_ne.mpr c2
    obtain rfl := Option.some.inj H
    go_enter Tryd.func18, Tryd.ntmps18
    go_wp2_with (first | ((with_reducible refine gate_dst (N := 1) rfl ?_); (try (refine gate_guard (by rfl) ?_; dsimp only)); refine box_event ?hg (N := 1) ?hd (cs := #[.int .u32 0, .int .u32 0]) (t := 34) ?hr ?_; (case hd => rfl); (case hg => rfl); (case hr => first | (go_simp; done) | (go_simp; rfl)); intro gb321 hg w89 hbox hb; have n0_ := Aside0.mk (below_step (by repeat (first | (with_reducible first | exact HB.out | apply below_alloc | apply pw_below_drewN | apply below_drew1) | exact HB.out)) hb); have n1_ := Aside0.mk (hbox); have n2_ := Aside0.mk ((by rw [hg]; exact (below_size (by repeat (first | (with_reducible first | exact HB.out | apply below_alloc | apply pw_below_drewN | apply below_drew1) | exact HB.out))) : w.heap.size ≤ gb321)); have n3_ := Aside0.mk ((by rw [hg]; exact (below_size (by repeat (first | (with_reducible first | exact HB.out | apply below_alloc | apply pw_below_drewN | apply below_drew1) | exact HB.out))) : w.heap.size ≤ gb321)); clear HB; have HB := n0_; have BK321 := n1_; have GW321 := n2_; have GE321 := n3_; clear n0_ n1_ n2_ n3_; clear hb hbox hg; have hcz90_0 : w89.cell? ⟨gb321, 0, none⟩ = some (.int .u32 0) := (blk_cell BK321.out 0).trans rfl; have hcz90_1 : w89.cell? ⟨gb321, 1, none⟩ = some (.int .u32 0) := (blk_cell BK321.out 1).trans rfl; have hfz90_0 := blk_frozen BK321.out 0; have hfz90_1 := blk_frozen BK321.out 1) | ((with_reducible refine gate_dst (N := 8) rfl ?_); (try (refine gate_guard (by rfl) ?_; dsimp only)); refine Kd.R_lit (Kd.int .i64) _ 3 ?hg (N := 8) ?hd (xs := ([3] : List Int)) (inner := [.int .i64 3]) (ok := fun _ => True) (okp := fun _ => True) ?hr ?hp (fun _ hk => hk) trivial (Below.refl _ _) (Nat.le_refl _) (by simp) ?_; (case hd => rfl); (case hg => rfl); (case hr => first | (go_simp; done) | (go_simp; rfl)); (case hp => exact (Reps.one (show Kd.M (Kd.int .i64) _ _ _ 3 [.int .i64 3] from rfl) (Reps.none _ _))); intro v323 w91 ho92 hb hg_ hnew_; clear hg_ hnew_; (first | rw [← Ny322.out] at ho92 | (simp only [Int.reduceToNat] at ho92; rw [← Ny322.out] at ho92)); have n0_ := Aside0.mk (Kd.R_lower ho92 (below_size (by repeat (first | (with_reducible first | exact HB.out | apply below_alloc | apply pw_below_drewN | apply below_drew1 | refine below_set ?_ GE321.out) | exact HB.out)))); have n1_ := Aside0.mk (blk_below (g := gb321) (o := .cells #[.int .u32 3, .int .u32 0] 34 (0, 0)) (by (with_reducible repeat (first | refine blk_drewN ?_ _ | refine blk_drew ?_ | refine blk_alloc ?_ _)); refine blk_put (cs := #[.int .u32 3, .int .u32 0]) ?_ 1 _ rfl; (with_reducible repeat (first | refine blk_drewN ?_ _ | refine blk_drew ?_ | refine blk_alloc ?_ _)); refine blk_put (cs := #[.int .u32 0, .int .u32 0]) ?_ 0 _ rfl; (with_reducible repeat (first | refine blk_drewN ?_ _ | refine blk_drew ?_ | refine blk_alloc ?_ _)); exact BK321.out) hb); have n2_ := Aside0.mk (below_step (by repeat (first | (with_reducible first | exact HB.out | apply below_alloc | apply pw_below_drewN | apply below_drew1 | refine below_set ?_ GE321.out) | exact HB.out)) hb); clear BK321; clear HB; have HO324 := n0_; have BK321 := n1_; have HB := n2_; clear n0_ n1_ n2_; clear hb ho92; obtain ⟨Ao93, co93, eo93⟩ := Kd.R_slice HO324.out; subst eo93) | ((with_reducible refine gate_dst (N := 10) rfl ?_); (try (refine gate_guard (by rfl) ?_; dsimp only)); refine Kd.R_lit (Kd.int .i64) _ 3 ?hg (N := 10) ?hd (xs := ([1, 2] : List Int)) (inner := [.int .i64 1, .int .i64 2]) (ok := fun _ => True) (okp := fun _ => True) ?hr ?hp (fun _ hk => hk) trivial (Below.refl _ _) (Nat.le_refl _) (by simp) ?_; (case hd => rfl); (case hg => rfl); (case hr => first | (go_simp; done) | (go_simp; rfl)); (case hp => exact (Reps.one (show Kd.M (Kd.int .i64) _ _ _ 1 [.int .i64 1] from rfl) (Reps.one (show Kd.M (Kd.int .i64) _ _ _ 2 [.int .i64 2] from rfl) (Reps.none _ _)))); intro v326 w94 ho95 hb hg_ hnew_; clear hg_ hnew_; (first | rw [← Ny325.out] at ho95 | (simp only [Int.reduceToNat] at ho95; rw [← Ny325.out] at ho95)); have n0_ := Aside0.mk (Kd.R_elder' (by (with_reducible repeat (first | apply Kd.R_alloc | apply Kd.R_drewN | apply Kd.R_drew)); exact HO324.out) (Kd.R_base ho95) hb); have n1_ := Aside0.mk (Kd.R_lower (Kd.R_new' ho95 (Kd.R_lt (by (with_reducible repeat (first | apply Kd.R_alloc | apply Kd.R_drewN | apply Kd.R_drew)); exact HO324.out))) (below_size (by repeat (first | (with_reducible first | exact HB.out | apply below_alloc | apply pw_below_drewN | apply below_drew1 | refine below_set ?_ GE321.out) | exact HB.out)))); have n2_ := Aside0.mk (blk_below (g := gb321) (o := .cells #[.int .u32 3, .int .u32 0] 34 (0, 0)) (by (with_reducible repeat (first | refine blk_drewN ?_ _ | refine blk_drew ?_ | refine blk_alloc ?_ _)); exact BK321.out) hb); have n3_ := Aside0.mk (below_step (by repeat (first | (with_reducible first | exact HB.out | apply below_alloc | apply pw_below_drewN | apply below_drew1 | refine below_set ?_ GE321.out) | exact HB.out)) hb); clear HO324; clear BK321; clear HB; have HO324 := n0_; have HO327 := n1_; have BK321 := n2_; have HB := n3_; clear n0_ n1_ n2_ n3_; clear hb ho95; obtain ⟨Ao96, co96, eo96⟩ := Kd.R_slice HO327.out; subst eo96) | ((with_reducible refine gate_dst (N := 12) rfl ?_); (try (refine gate_guard (by rfl) ?_; dsimp only)); refine Kd.R_lit (Kd.int .i64) _ 3 ?hg (N := 12) ?hd (xs := ([4] : List Int)) (inner := [.int .i64 4]) (ok := fun _ => True) (okp := fun _ => True) ?hr ?hp (fun _ hk => hk) trivial (Below.refl _ _) (Nat.le_refl _) (by simp) ?_; (case hd => rfl); (case hg => rfl); (case hr => first | (go_simp; done) | (go_simp; rfl)); (case hp => exact (Reps.one (show Kd.M (Kd.int .i64) _ _ _ 4 [.int .i64 4] from rfl) (Reps.none _ _))); intro v329 w97 ho98 hb hg_ hnew_; clear hg_ hnew_; (first | rw [← Ny328.out] at ho98 | (simp only [Int.reduceToNat] at ho98; rw [← Ny328.out] at ho98)); have n0_ := Aside0.mk (Kd.R_elder' (by (with_reducible repeat (first | apply Kd.R_alloc | apply Kd.R_drewN | apply Kd.R_drew)); exact HO324.out) (Kd.R_base ho98) hb); have n1_ := Aside0.mk (Kd.R_elder' (by (with_reducible repeat (first | apply Kd.R_alloc | apply Kd.R_drewN | apply Kd.R_drew)); exact HO327.out) (Kd.R_base ho98) hb); have n2_ := Aside0.mk (Kd.R_lower (Kd.R_new' (Kd.R_new' ho98 (Kd.R_lt (by (with_reducible repeat (first | apply Kd.R_alloc | apply Kd.R_drewN | apply Kd.R_drew)); exact HO324.out))) (Kd.R_lt (by (with_reducible repeat (first | apply Kd.R_alloc | apply Kd.R_drewN | apply Kd.R_drew)); exact HO327.out))) (below_size (by repeat (first | (with_reducible first | exact HB.out | apply below_alloc | apply pw_below_drewN | apply below_drew1 | refine below_set ?_ GE321.out) | exact HB.out)))); have n3_ := Aside0.mk (blk_below (g := gb321) (o := .cells #[.int .u32 3, .int .u32 0] 34 (0, 0)) (by (with_reducible repeat (first | refine blk_drewN ?_ _ | refine blk_drew ?_ | refine blk_alloc ?_ _)); exact BK321.out) hb); have n4_ := Aside0.mk (below_step (by repeat (first | (with_reducible first | exact HB.out | apply below_alloc | apply pw_below_drewN | apply below_drew1 | refine below_set ?_ GE321.out) | exact HB.out)) hb); clear HO324; clear HO327; clear BK321; clear HB; have HO324 := n0_; have HO327 := n1_; have HO330 := n2_; have BK321 := n3_; have HB := n4_; clear n0_ n1_ n2_ n3_ n4_; clear hb ho98; obtain ⟨Ao99, co99, eo99⟩ := Kd.R_slice HO330.out; subst eo99) | ((with_reducible refine gate_dst (N := 14) rfl ?_); (try (refine gate_guard (by rfl) ?_; dsimp only)); refine Kd.N_lit k90 _ 90 ?hg (N' := 14) ?hd (xs := ([(⟨y322, (⟨(⟨0, 0⟩ : S86), 0⟩ : S88), 0, false⟩ : S90), (⟨y325, (⟨(⟨0, 0⟩ : S86), 0⟩ : S88), 0, false⟩ : S90), (⟨y328, (⟨(⟨0, 0⟩ : S86), 0⟩ : S88), 0, false⟩ : S90)] : List (S90))) (inner := [.slice Ao93 y322.length co93, .int .u64 0, .int .u64 0, .int .u64 0, .int .u64 0, .bool false, .slice Ao96 y325.length co96, .int .u64 0, .int .u64 0, .int .u64 0, .int .u64 0, .bool false, .slice Ao99 y328.length co99, .int .u64 0, .int .u64 0, .int .u64 0, .int .u64 0, .bool false]) (ok := (fun k_ => k_ ≠ gb321)) (okp := (fun k_ => k_ ≠ gb321)) ?hr ?hp (fun _ hk => hk) ((show ∀ k_, w97.heap.size ≤ k_ → (fun k_ => k_ ≠ gb321) k_ from fun k_ hk => Kd.freshB (g := gb321) (o := .cells #[.int .u32 3, .int .u32 0] 34 (0, 0)) (by (with_reducible repeat (first | refine blk_drewN ?_ _ | refine blk_drew ?_ | refine blk_alloc ?_ _)); exact BK321.out) k_ hk) _ (Nat.le_refl _)) (Below.refl _ _) (Nat.le_refl _) (by simp) ?_; (case hd => rfl); (case hg => rfl); (case hr => first | (go_simp; done) | (go_simp; rfl)); (case hp => exact (Reps.c6 (show Kd.FK k90 _ _ (⟨y322, (⟨(⟨0, 0⟩ : S86), 0⟩ : S88), 0, false⟩ : S90) [.slice Ao93 y322.length co93, .int .u64 0, .int .u64 0, .int .u64 0, .int .u64 0, .bool false] from (k90_mkF _ _ (⟨y322, (⟨(⟨0, 0⟩ : S86), 0⟩ : S88), 0, false⟩ : S90) (Kd.R_reads' (Kd.R_mono (ok' := (fun k_ => k_ ≠ gb321)) (Kd.R_types (HO324.out) BK321.out (by decide)) (fun k_ hk => hk.2))).2.1 (Kd.R_F (Kd.R_mono (ok' := (fun k_ => k_ ≠ gb321)) (Kd.R_types (HO324.out) BK321.out (by decide)) (fun k_ hk => hk.2))))) (Reps.c6 (show Kd.FK k90 _ _ (⟨y325, (⟨(⟨0, 0⟩ : S86), 0⟩ : S88), 0, false⟩ : S90) [.slice Ao96 y325.length co96, .int .u64 0, .int .u64 0, .int .u64 0, .int .u64 0, .bool false] from (k90_mkF _ _ (⟨y325, (⟨(⟨0, 0⟩ : S86), 0⟩ : S88), 0, false⟩ : S90) (Kd.R_reads' (Kd.R_mono (ok' := (fun k_ => k_ ≠ gb321)) (Kd.R_types (HO327.out) BK321.out (by decide)) (fun k_ hk => hk.2))).2.1 (Kd.R_F (Kd.R_mono (ok' := (fun k_ => k_ ≠ gb321)) (Kd.R_types (HO327.out) BK321.out (by decide)) (fun k_ hk => hk.2))))) (Reps.c6 (show Kd.FK k90 _ _ (⟨y328, (⟨(⟨0, 0⟩ : S86), 0⟩ : S88), 0, false⟩ : S90) [.slice Ao99 y328.length co99, .int .u64 0, .int .u64 0, .int .u64 0, .int .u64 0, .bool false] from (k90_mkF _ _ (⟨y328, (⟨(⟨0, 0⟩ : S86), 0⟩ : S88), 0, false⟩ : S90) (Kd.R_reads' (Kd.R_mono (ok' := (fun k_ => k_ ≠ gb321)) (Kd.R_types (HO330.out) BK321.out (by decide)) (fun k_ hk => hk.2))).2.1 (Kd.R_F (Kd.R_mono (ok' := (fun k_ => k_ ≠ gb321)) (Kd.R_types (HO330.out) BK321.out (by decide)) (fun k_ hk => hk.2))))) (Reps.none _ _))))); intro v332 w100 ho101 hb hg_ hnew_; clear hg_ hnew_; (first | rw [← Ny331.out] at ho101 | (simp only [Int.reduceToNat] at ho101; rw [← Ny331.out] at ho101)); have n0_ := Aside0.mk (Kd.N_lower ho101 (below_size (by repeat (first | (with_reducible first | exact HB.out | apply below_alloc | apply pw_below_drewN | apply below_drew1 | refine below_set ?_ GE321.out) | exact HB.out)))); have n1_ := Aside0.mk (blk_below (g := gb321) (o := .cells #[.int .u32 3, .int .u32 0] 34 (0, 0)) (by (with_reducible repeat (first | refine blk_drewN ?_ _ | refine blk_drew ?_ | refine blk_alloc ?_ _)); exact BK321.out) hb); have n2_ := Aside0.mk (below_step (by repeat (first | (with_reducible first | exact HB.out | apply below_alloc | apply pw_below_drewN | apply below_drew1 | refine below_set ?_ GE321.out) | exact HB.out)) hb); clear BK321; clear HB; clear HO324; clear HO327; clear HO330; have HO333 := n0_; have BK321 := n1_; have HB := n2_; clear n0_ n1_ n2_; clear hb ho101; have hcz102_0 : w100.cell? ⟨gb321, 0, none⟩ = some (.int .u32 3) := (blk_cell BK321.out 0).trans rfl; have hcz102_1 : w100.cell? ⟨gb321, 1, none⟩ = some (.int .u32 0) := (blk_cell BK321.out 1).trans rfl; have hfz102_0 := blk_frozen BK321.out 0; have hfz102_1 := blk_frozen BK321.out 1) | ((with_reducible refine gate_dst (N := 23) rfl ?_); (try (refine gate_guard (by rfl) ?_; dsimp only)); refine Kd.R_lit k36 _ 36 ?hg (N := 23) ?hd (xs := ([(⟨1, (-1), (⟨3, 0⟩ : S34)⟩ : S36), (⟨2, (-1), (⟨3, 0⟩ : S34)⟩ : S36), (⟨3, 1, (⟨3, 0⟩ : S34)⟩ : S36), (⟨4, (-1), (⟨3, 0⟩ : S34)⟩ : S36)] : List (S36))) (inner := [.int .i64 1, .int .i64 (-1), .int .u32 3, .int .u32 0, .int .i64 2, .int .i64 (-1), .int .u32 3, .int .u32 0, .int .i64 3, .int .i64 1, .int .u32 3, .int .u32 0, .int .i64 4, .int .i64 (-1), .int .u32 3, .int .u32 0]) (ok := fun _ => True) (okp := fun _ => True) ?hr ?hp (fun _ hk => hk) trivial (Below.refl _ _) (Nat.le_refl _) (by simp) ?_; (case hd => rfl); (case hg => rfl); (case hr => first | (go_simp; done) | (go_simp; rfl)); (case hp => exact (Reps.c4 (show Kd.M k36 _ _ _ (⟨1, (-1), (⟨3, 0⟩ : S34)⟩ : S36) [.int .i64 1, .int .i64 (-1), .int .u32 3, .int .u32 0] from (k36_mkM _ _ _ (⟨1, (-1), (⟨3, 0⟩ : S34)⟩ : S36) )) (Reps.c4 (show Kd.M k36 _ _ _ (⟨2, (-1), (⟨3, 0⟩ : S34)⟩ : S36) [.int .i64 2, .int .i64 (-1), .int .u32 3, .int .u32 0] from (k36_mkM _ _ _ (⟨2, (-1), (⟨3, 0⟩ : S34)⟩ : S36) )) (Reps.c4 (show Kd.M k36 _ _ _ (⟨3, 1, (⟨3, 0⟩ : S34)⟩ : S36) [.int .i64 3, .int .i64 1, .int .u32 3, .int .u32 0] from (k36_mkM _ _ _ (⟨3, 1, (⟨3, 0⟩ : S34)⟩ : S36) )) (Reps.c4 (show Kd.M k36 _ _ _ (⟨4, (-1), (⟨3, 0⟩ : S34)⟩ : S36) [.int .i64 4, .int .i64 (-1), .int .u32 3, .int .u32 0] from (k36_mkM _ _ _ (⟨4, (-1), (⟨3, 0⟩ : S34)⟩ : S36) )) (Reps.none _ _)))))); intro v335 w103 ho104 hb hg_ hnew_; clear hg_ hnew_; (first | rw [← Ny334.out] at ho104 | (simp only [Int.reduceToNat] at ho104; rw [← Ny334.out] at ho104)); have n0_ := Aside0.mk (Kd.N_elder' (by (with_reducible repeat (first | apply Kd.N_alloc | apply Kd.N_drewN | apply Kd.N_drew)); exact HO333.out) (Kd.R_base ho104) hb); have n1_ := Aside0.mk (Kd.R_lower ho104 (below_size (by repeat (first | (with_reducible first | exact HB.out | apply below_alloc | apply pw_below_drewN | apply below_drew1 | refine below_set ?_ GE321.out) | exact HB.out)))); have n2_ := Aside0.mk (blk_below (g := gb321) (o := .cells #[.int .u32 3, .int .u32 0] 34 (0, 0)) (by (with_reducible repeat (first | refine blk_drewN ?_ _ | refine blk_drew ?_ | refine blk_alloc ?_ _)); exact BK321.out) hb); have n3_ := Aside0.mk (below_step (by repeat (first | (with_reducible first | exact HB.out | apply below_alloc | apply pw_below_drewN | apply below_drew1 | refine below_set ?_ GE321.out) | exact HB.out)) hb); clear HO333; clear BK321; clear HB; have HO333 := n0_; have HO336 := n1_; have BK321 := n2_; have HB := n3_; clear n0_ n1_ n2_ n3_; clear hb ho104; obtain ⟨Ao105, co105, eo105⟩ := Kd.N_slice HO333.out; subst eo105; obtain ⟨Ao106, co106, eo106⟩ := Kd.R_slice HO336.out; subst eo106) | ((with_reducible refine gate_callee (f := 20) rfl ?_); refine goesL_ (some 27) rfl rfl Tryd.func20 (by kernel_rfl) rfl #[.slice Ao105 y331.length co105, .slice Ao106 y334.length co106, .int .u32 3] rfl (by (try simp only [List.map_toArray, List.map_cons, List.map_nil]); first | done | rfl | (simp only [List.length_drop, List.length_take]; rfl)) ?_; (with_reducible refine (pick_Pick.calls _ _ y331 _ _ y334 3 t337 t338 t339 _ ?side1 ?side2 ?side3 ?side4 ?tb A1.out).mono ?_); (case tb => exact HT.out.step (by repeat (first | (with_reducible first | exact HB.out | apply below_alloc | apply pw_below_drewN | apply below_drew1 | refine below_set ?_ GE321.out) | exact HB.out))); (case side1 => repeat (first | exact (Kd.N_reads' HO333.out).2.2 | (with_reducible refine Kd.C_alloc ?_ _) | (with_reducible refine Kd.C_drewN ?_ _) | (with_reducible refine Kd.C_drew ?_))); (case side2 => exact (Kd.N_reads' HO333.out).2.1); (case side3 => repeat (first | exact (Kd.R_reads' HO336.out).2.2 | (with_reducible refine Kd.C_alloc ?_ _) | (with_reducible refine Kd.C_drewN ?_ _) | (with_reducible refine Kd.C_drew ?_))); (case side4 => exact (Kd.R_reads' HO336.out).2.1); rintro e w107 ⟨v340, v342, rfl, ho0, ho1, hb⟩; refine ⟨_, rfl, ?_⟩; have n0_ := Aside0.mk (Kd.N_mono (Kd.N_told (Kd.N_told (Kd.N_old (by (with_reducible repeat (first | apply Kd.N_alloc | apply Kd.N_drewN | apply Kd.N_drew)); exact HO333.out) hb) (Kd.R_base ho0)) (Kd.R_base ho1)) (fun _ h_ => h_.1)); have n1_ := Aside0.mk (Kd.R_below (by (with_reducible repeat (first | apply Kd.R_alloc | apply Kd.R_drewN | apply Kd.R_drew)); exact HO336.out) hb); have n2_ := Aside0.mk (Kd.R_lower ho0 (below_size (by repeat (first | (with_reducible first | exact HB.out | apply below_alloc | apply pw_below_drewN | apply below_drew1 | refine below_set ?_ GE321.out) | exact HB.out)))); have n3_ := Aside0.mk (Kd.R_lower ho1 (below_size (by repeat (first | (with_reducible first | exact HB.out | apply below_alloc | apply pw_below_drewN | apply below_drew1 | refine below_set ?_ GE321.out) | exact HB.out)))); have n4_ := Aside0.mk (blk_below (g := gb321) (o := .cells #[.int .u32 3, .int .u32 0] 34 (0, 0)) (by (with_reducible repeat (first | refine blk_drewN ?_ _ | refine blk_drew ?_ | refine blk_alloc ?_ _)); exact BK321.out) hb); have n5_ := Aside0.mk (below_step (by repeat (first | (with_reducible first | exact HB.out | apply below_alloc | apply pw_below_drewN | apply below_drew1 | refine below_set ?_ GE321.out) | exact HB.out)) hb); clear HO333; clear HO336; clear BK321; clear HB; have HO333 := n0_; have HO336 := n1_; have HO341 := n2_; have HO343 := n3_; have BK321 := n4_; have HB := n5_; clear n0_ n1_ n2_ n3_ n4_ n5_; (try clear hb); (try clear hb2); (try clear hk); (try clear hi); (try clear ho0); (try clear ho1)))
    go_ret
    exact ⟨by first | rfl | (simp [errW_none, errW_some] <;> rfl) | (simp [*, errW_none, errW_some] <;> rfl), by repeat (first | (with_reducible first | exact HB.out | apply below_alloc | apply pw_below_drewN | apply below_drew1 | refine below_set ?_ GE321.out) | exact HB.out)⟩

end Go.Proofs.YtdmieaidheelbaaDoor.Q
end
/- PureChoices -/
section
/- PickChoices, the plain law: a member's choices are the document's. -/
namespace Go.Proofs.YtdmieaidheelbaaDoor.Q
open Go Go.RowKit Go.Proofs.YtdmieaidheelbaaDoorW.PrintWords Go.Proofs.YtdmieaidheelbaaDoorW.PrintLast Go.Proofs.YtdmieaidheelbaaDoorW.PrintMore
set_option linter.unusedVariables false
set_option linter.unusedSimpArgs false

theorem wakes19 : mainsheetlaw19_wakes.f = some true := by decide +kernel
end Go.Proofs.YtdmieaidheelbaaDoor.Q
end
/- QFlaw19PickWaits -/
section
-- Written by a program of this session (hprint.py), which drives the kit's print over hand-proved contracts. Lean checks it.
namespace Go.Proofs.YtdmieaidheelbaaDoor.Q
open Go.RowKit Go.Proofs.YtdmieaidheelbaaDoorW.PrintWords Go.Proofs.YtdmieaidheelbaaDoorW.PrintLast Go.Proofs.YtdmieaidheelbaaDoorW.PrintMore
attribute [local go_sem] max2_int min2_int max_two min_two max_three min_three max_four min_four   -- for this text's walks alone
set_option linter.unusedVariables false
set_option linter.unusedSimpArgs false

/-! ### mainsheetlaw19_PickWaits: function 13 -/
mutual
def mainsheetlaw19_PickWaits.l0 : Nat → List (S31) → Int → List (S90) → Int → Int → List (S90) → List (S36) → Int → Option (Bool)
  | 0, _, _, _, _, _, _, _, _ => none
  | k + 1, x3, x6, x36, x37, x38, x744000, x744001, x744002 => if x38 < x37 then (if 0 ≤ x38 then (if x38 < (x36.length : Int) then (if 0 < (((rd_T90 x36 x38).f0).length : Int) then ((pick_On.f x3 (rd ((rd_T90 x36 x38).f0) 0)).bind fun bt756 => (if bt756.2 = true then (mainsheetlaw19_PickWaits.j1 k x3 x6 x36 x37 x38 false x744000 x744001 x744002 ((rd_T90 x36 x38).f0) ((rd_T90 x36 x38).f1.f0.f0) ((rd_T90 x36 x38).f1.f0.f1) ((rd_T90 x36 x38).f1.f1) ((rd_T90 x36 x38).f2) ((rd_T90 x36 x38).f3)) else (if (((rd_T90 x36 x38).f0).length : Int) = 1 then ((mainsheetlaw19_Ask_wish.f k x744000 x744001 x744002 (rd ((rd_T90 x36 x38).f0) 0)).bind fun bt759 => ((mask_Allows.f k bt759.2.2.1 bt759.2.2.2 x744002).bind fun t763 => ((cpuset_Within.f t763 x6).bind fun t764 => (mainsheetlaw19_PickWaits.j1 k x3 x6 x36 x37 x38 (!t764) x744000 x744001 x744002 ((rd_T90 x36 x38).f0) ((rd_T90 x36 x38).f1.f0.f0) ((rd_T90 x36 x38).f1.f0.f1) ((rd_T90 x36 x38).f1.f1) ((rd_T90 x36 x38).f2) ((rd_T90 x36 x38).f3))))) else (mainsheetlaw19_PickWaits.j1 k x3 x6 x36 x37 x38 false x744000 x744001 x744002 ((rd_T90 x36 x38).f0) ((rd_T90 x36 x38).f1.f0.f0) ((rd_T90 x36 x38).f1.f0.f1) ((rd_T90 x36 x38).f1.f1) ((rd_T90 x36 x38).f2) ((rd_T90 x36 x38).f3))))) else (none)) else (none)) else (none)) else (some true)
def mainsheetlaw19_PickWaits.j1 : Nat → List (S31) → Int → List (S90) → Int → Int → Bool → List (S90) → List (S36) → Int → List Int → Int → Int → Int → Int → Bool → Option (Bool)
  | 0, _, _, _, _, _, _, _, _, _, _, _, _, _, _, _ => none
  | k + 1, x3, x6, x36, x37, x38, x73, x744000, x744001, x744002, x755000, x755001, x755002, x755003, x755004, x755005 => if x73 = true then (some false) else (mainsheetlaw19_PickWaits.l1 k x3 x6 x36 x37 x38 x755000 (x755000.length : Int) 0 x744000 x744001 x744002)
def mainsheetlaw19_PickWaits.l1 : Nat → List (S31) → Int → List (S90) → Int → Int → List Int → Int → Int → List (S90) → List (S36) → Int → Option (Bool)
  | 0, _, _, _, _, _, _, _, _, _, _, _ => none
  | k + 1, x3, x6, x36, x37, x38, x75, x76, x77, x744000, x744001, x744002 => if x77 < x76 then (if 0 ≤ x77 then (if x77 < (x75.length : Int) then ((pick_On.f x3 (rd x75 x77)).bind fun bt766 => (if bt766.2 = true then (if 0 ≤ bt766.1 then (mainsheetlaw19_PickWaits.l1 k x3 (Go.bits .or .u32 x6 (shl .u32 1 bt766.1)) x36 x37 x38 x75 x76 (wrap64 (x77 + 1)) x744000 x744001 x744002) else (none)) else (mainsheetlaw19_PickWaits.l1 k x3 x6 x36 x37 x38 x75 x76 (wrap64 (x77 + 1)) x744000 x744001 x744002))) else (none)) else (none)) else (mainsheetlaw19_PickWaits.l0 k x3 x6 x36 x37 (wrap64 (x38 + 1)) x744000 x744001 x744002)
end
def mainsheetlaw19_PickWaits.f (k : Nat) (l0_0 : List (S90)) (l0_1 : List (S36)) (a0_2 : Int) : Option (Bool) := (mainsheetlaw19_wakes.f).bind fun t744 => (if t744 = true then ((mainsheetlaw19_Ask_over.f k l0_0 l0_1 a0_2).bind fun t745 => (if t745 = true then (some true) else ((pick_Pick.f l0_0 l0_1 a0_2).bind fun bt746 => (if bt746.2.2 = 0 then (mainsheetlaw19_PickWaits.l0 k bt746.1 0 l0_0 (l0_0.length : Int) 0 l0_0 l0_1 a0_2) else (some ((bt746.1.length : Int) == 0)))))) else (some false))
theorem mainsheetlaw19_PickWaits.mono_l : ∀ k, (∀ y0 y1 y2 y3 y4 y5 y6 y7, LeO (mainsheetlaw19_PickWaits.l0 k y0 y1 y2 y3 y4 y5 y6 y7) (mainsheetlaw19_PickWaits.l0 (k + 1) y0 y1 y2 y3 y4 y5 y6 y7)) ∧ (∀ y0 y1 y2 y3 y4 y5 y6 y7 y8 y9 y10 y11 y12 y13 y14, LeO (mainsheetlaw19_PickWaits.j1 k y0 y1 y2 y3 y4 y5 y6 y7 y8 y9 y10 y11 y12 y13 y14) (mainsheetlaw19_PickWaits.j1 (k + 1) y0 y1 y2 y3 y4 y5 y6 y7 y8 y9 y10 y11 y12 y13 y14)) ∧ (∀ y0 y1 y2 y3 y4 y5 y6 y7 y8 y9 y10, LeO (mainsheetlaw19_PickWaits.l1 k y0 y1 y2 y3 y4 y5 y6 y7 y8 y9 y10) (mainsheetlaw19_PickWaits.l1 (k + 1) y0 y1 y2 y3 y4 y5 y6 y7 y8 y9 y10))
  | 0 => ⟨fun _ _ _ _ _ _ _ _ r h => by simp [mainsheetlaw19_PickWaits.l0] at h, fun _ _ _ _ _ _ _ _ _ _ _ _ _ _ _ r h => by simp [mainsheetlaw19_PickWaits.j1] at h, fun _ _ _ _ _ _ _ _ _ _ _ r h => by simp [mainsheetlaw19_PickWaits.l1] at h⟩
  | k + 1 => by
    obtain ⟨ih0, ih1, ih2⟩ := mainsheetlaw19_PickWaits.mono_l k
    refine ⟨?_, ?_, ?_⟩
    · intro y0 y1 y2 y3 y4 y5 y6 y7
      unfold mainsheetlaw19_PickWaits.l0
      repeat' first
      | (with_reducible exact ih0 _ _ _ _ _ _ _ _)
      | (with_reducible exact ih1 _ _ _ _ _ _ _ _ _ _ _ _ _ _ _)
      | (with_reducible exact ih2 _ _ _ _ _ _ _ _ _ _ _)
      | (with_reducible exact mainsheetlaw19_Ask_over.mono _ _ _ _)
      | (with_reducible exact mainsheetlaw19_Ask_wish.mono _ _ _ _ _)
      | (with_reducible exact mask_Allows.mono _ _ _ _)
      | (with_reducible exact LeO.refl _)
      | (with_reducible exact LeO.none _)
      | (with_reducible refine LeO.ite ?_ ?_)
      | (with_reducible refine LeO.bind ?_ (fun _ => ?_))
      | exact ih0 _ _ _ _ _ _ _ _
      | exact ih1 _ _ _ _ _ _ _ _ _ _ _ _ _ _ _
      | exact ih2 _ _ _ _ _ _ _ _ _ _ _
      | exact mainsheetlaw19_Ask_over.mono _ _ _ _
      | exact mainsheetlaw19_Ask_wish.mono _ _ _ _ _
      | exact mask_Allows.mono _ _ _ _
      | exact LeO.none _
      | refine LeO.ite ?_ ?_
      | refine LeO.bind ?_ (fun _ => ?_)
    · intro y0 y1 y2 y3 y4 y5 y6 y7 y8 y9 y10 y11 y12 y13 y14
      unfold mainsheetlaw19_PickWaits.j1
      repeat' first
      | (with_reducible exact ih0 _ _ _ _ _ _ _ _)
      | (with_reducible exact ih1 _ _ _ _ _ _ _ _ _ _ _ _ _ _ _)
      | (with_reducible exact ih2 _ _ _ _ _ _ _ _ _ _ _)
      | (with_reducible exact mainsheetlaw19_Ask_over.mono _ _ _ _)
      | (with_reducible exact mainsheetlaw19_Ask_wish.mono _ _ _ _ _)
      | (with_reducible exact mask_Allows.mono _ _ _ _)
      | (with_reducible exact LeO.refl _)
      | (with_reducible exact LeO.none _)
      | (with_reducible refine LeO.ite ?_ ?_)
      | (with_reducible refine LeO.bind ?_ (fun _ => ?_))
      | exact ih0 _ _ _ _ _ _ _ _
      | exact ih1 _ _ _ _ _ _ _ _ _ _ _ _ _ _ _
      | exact ih2 _ _ _ _ _ _ _ _ _ _ _
      | exact mainsheetlaw19_Ask_over.mono _ _ _ _
      | exact mainsheetlaw19_Ask_wish.mono _ _ _ _ _
      | exact mask_Allows.mono _ _ _ _
      | exact LeO.none _
      | refine LeO.ite ?_ ?_
      | refine LeO.bind ?_ (fun _ => ?_)
    · intro y0 y1 y2 y3 y4 y5 y6 y7 y8 y9 y10
      unfold mainsheetlaw19_PickWaits.l1
      repeat' first
      | (with_reducible exact ih0 _ _ _ _ _ _ _ _)
      | (with_reducible exact ih1 _ _ _ _ _ _ _ _ _ _ _ _ _ _ _)
      | (with_reducible exact ih2 _ _ _ _ _ _ _ _ _ _ _)
      | (with_reducible exact mainsheetlaw19_Ask_over.mono _ _ _ _)
      | (with_reducible exact mainsheetlaw19_Ask_wish.mono _ _ _ _ _)
      | (with_reducible exact mask_Allows.mono _ _ _ _)
      | (with_reducible exact LeO.refl _)
      | (with_reducible exact LeO.none _)
      | (with_reducible refine LeO.ite ?_ ?_)
      | (with_reducible refine LeO.bind ?_ (fun _ => ?_))
      | exact ih0 _ _ _ _ _ _ _ _
      | exact ih1 _ _ _ _ _ _ _ _ _ _ _ _ _ _ _
      | exact ih2 _ _ _ _ _ _ _ _ _ _ _
      | exact mainsheetlaw19_Ask_over.mono _ _ _ _
      | exact mainsheetlaw19_Ask_wish.mono _ _ _ _ _
      | exact mask_Allows.mono _ _ _ _
      | exact LeO.none _
      | refine LeO.ite ?_ ?_
      | refine LeO.bind ?_ (fun _ => ?_)
theorem mainsheetlaw19_PickWaits.mono : ∀ a0 a1 a2 k, LeO (mainsheetlaw19_PickWaits.f k a0 a1 a2) (mainsheetlaw19_PickWaits.f (k + 1) a0 a1 a2) := by
  intro a0 a1 a2 k
  obtain ⟨ih0, ih1, ih2⟩ := mainsheetlaw19_PickWaits.mono_l k
  unfold mainsheetlaw19_PickWaits.f
  repeat' first
      | (with_reducible exact ih0 _ _ _ _ _ _ _ _)
      | (with_reducible exact ih1 _ _ _ _ _ _ _ _ _ _ _ _ _ _ _)
      | (with_reducible exact ih2 _ _ _ _ _ _ _ _ _ _ _)
      | (with_reducible exact mainsheetlaw19_Ask_over.mono _ _ _ _)
      | (with_reducible exact mainsheetlaw19_Ask_wish.mono _ _ _ _ _)
      | (with_reducible exact mask_Allows.mono _ _ _ _)
      | (with_reducible exact LeO.refl _)
      | (with_reducible exact LeO.none _)
      | (with_reducible refine LeO.ite ?_ ?_)
      | (with_reducible refine LeO.bind ?_ (fun _ => ?_))
      | exact ih0 _ _ _ _ _ _ _ _
      | exact ih1 _ _ _ _ _ _ _ _ _ _ _ _ _ _ _
      | exact ih2 _ _ _ _ _ _ _ _ _ _ _
      | exact mainsheetlaw19_Ask_over.mono _ _ _ _
      | exact mainsheetlaw19_Ask_wish.mono _ _ _ _ _
      | exact mask_Allows.mono _ _ _ _
      | exact LeO.none _
      | refine LeO.ite ?_ ?_
      | refine LeO.bind ?_ (fun _ => ?_)
end Go.Proofs.YtdmieaidheelbaaDoor.Q
end
/- PurePickWaits -/
section
/- PickWaits, the plain law. -/
namespace Go.Proofs.YtdmieaidheelbaaDoor.Q
open Go Go.RowKit Go.Proofs.YtdmieaidheelbaaDoorW.PrintWords Go.Proofs.YtdmieaidheelbaaDoorW.PrintLast Go.Proofs.YtdmieaidheelbaaDoorW.PrintMore
set_option linter.unusedVariables false
set_option linter.unusedSimpArgs false

theorem may_bit (h s p b : Nat) (hp : p < 256) : (allowsN h s p).testBit b = (maskOk h s && h.testBit b && p.testBit b) := by
  unfold allowsN
  cases hm : maskOk h s with
  | true => simp [hp]
  | false => simp
theorem shl_bit (c : Int) (h0 : 0 ≤ c) (h8 : c < 8) : shl .u32 1 c = ((2 ^ c.toNat : Nat) : Int) := by
  have := shl_one c.toNat (by omega)
  rwa [show ((c.toNat : Nat) : Int) = c by omega] at this
section
variable {l : List Ent} {w : List S36} {free : Nat}
theorem waits_inner (hs : Shape l w) (hwl : w.length ≤ 60) (puts : List S31) (hputs : puts = pickPuts (pickTurns w free l)) (hpl : puts.length ≤ 1000000) (i : Nat) (hi : i < l.length) (a : Int) (p : Option (List Int)) (hp : p = atOf w (freeAt w free l i) l[i]) (K : Nat)
    (hnext : ∀ k, K ≤ k → ∀ A', A' = orRow 0 [] → True) (d : Nat) : ∀ (k j A : Nat), j + d = l[i].f0.length → A < 256 → K + d + 1 ≤ k →
    (∀ k', K ≤ k' → mainsheetlaw19_PickWaits.l0 k' puts ((orRow A ((p.getD []).drop j) : Nat) : Int) l (l.length : Int) (wrap64 ((i : Int) + 1)) l w a = some true) →
    mainsheetlaw19_PickWaits.l1 k puts (A : Int) l (l.length : Int) (i : Int) l[i].f0 (l[i].f0.length : Int) (j : Int) l w a = some true := by
  have hlen := (hs.len l[i] (List.getElem_mem hi)).2
  induction d with
  | zero =>
    intro k j A hj hA hk hn
    obtain ⟨k, rfl⟩ : ∃ m, k = m + 1 := ⟨k - 1, by omega⟩
    rw [mainsheetlaw19_PickWaits.l1, if_neg (by omega)]
    have := hn k (by omega)
    have hd : (p.getD []).drop j = [] := by
      refine List.drop_eq_nil_of_le ?_
      cases hq : p with
      | none => simp
      | some m => rw [hp] at hq; have := (took hs _ (List.getElem_mem hi) _ m hq).len; simp; omega
    rw [hd] at this
    exact this
  | succ d ih =>
    intro k j A hj hA hk hn
    obtain ⟨k, rfl⟩ : ∃ m, k = m + 1 := ⟨k - 1, by omega⟩
    have hjl : j < l[i].f0.length := by omega
    have hon := on_at hs free i hi j hjl
    rw [← hputs, ← hp] at hon
    rw [mainsheetlaw19_PickWaits.l1, if_pos (by omega), if_pos (by omega), if_pos (by omega), rd_eq _ _ hjl, On_val puts hpl, Option.bind_some, hon, w64 _ (by omega) (by omega), show (j : Int) + 1 = ((j + 1 : Nat) : Int) by omega]
    cases hq : p with
    | none =>
      subst hq
      simp only [Bool.false_eq_true, if_false]
      exact ih k (j + 1) A (by omega) hA (by omega) (fun k' hk' => by have := hn k' hk'; simpa using this)
    | some m =>
      subst hq
      have ht := took hs _ (List.getElem_mem hi) _ m hp.symm
      have hjm : j < m.length := by rw [ht.len]; exact hjl
      have hr := took_range ht _ (List.getElem_mem hjm)
      have hg : m.getD j 0 = m[j] := by simp [List.getD_eq_getElem?_getD, hjm]
      have hpw := pow_lt256 m[j].toNat (by omega)
      simp only [if_true]
      rw [hg, if_pos hr.1, shl_bit _ hr.1 hr.2, or_nat _ _ (by omega) (by omega)]
      refine ih k (j + 1) _ (by omega) (or_lt256 _ _ hA hpw) (by omega) (fun k' hk' => ?_)
      have := hn k' hk'
      rw [Option.getD_some, List.drop_eq_getElem_cons hjm] at this
      exact this
theorem waits_outer (hs : Shape l w) (hll : l.length ≤ 40) (hwl : w.length ≤ 60) (hwf : ∀ x ∈ w, Wf36 x) (hf : free < 256) (puts : List S31) (hputs : puts = pickPuts (pickTurns w free l)) (hpl : puts.length ≤ 1000000) (d : Nat) :
    ∀ (k i A : Nat), i + d = l.length → d * 20 + 100 ≤ k → A < 256 → (∀ b, b < 8 → (freeAt w free l i).testBit b = (free.testBit b && !A.testBit b)) →
    mainsheetlaw19_PickWaits.l0 k puts (A : Int) l (l.length : Int) (i : Int) l w (free : Int) = some true := by
  induction d with
  | zero =>
    intro k i A hi hk hA hb
    obtain ⟨k, rfl⟩ : ∃ m, k = m + 1 := ⟨k - 1, by omega⟩
    rw [mainsheetlaw19_PickWaits.l0, if_neg (by omega)]
  | succ d ih =>
    intro k i A hi hk hA hb
    obtain ⟨k, rfl⟩ : ∃ m, k = m + 2 := ⟨k - 2, by omega⟩
    have hil : i < l.length := by omega
    have hm := List.getElem_mem hil
    obtain ⟨h1, h8⟩ := hs.len _ hm
    have hfl := freeAt_lt w l free i hf
    have hon := on_at hs free i hil 0 (by omega)
    rw [← hputs] at hon
    -- the members' round, and the rest
    have hgo : mainsheetlaw19_PickWaits.j1 (k + 1) puts (A : Int) l (l.length : Int) (i : Int) false l w (free : Int) l[i].f0 l[i].f1.f0.f0 l[i].f1.f0.f1 l[i].f1.f1 l[i].f2 l[i].f3 = some true := by
      rw [mainsheetlaw19_PickWaits.j1, if_neg (by simp)]
      refine waits_inner hs hwl puts hputs hpl i hil free _ rfl (d * 20 + 100) (fun _ _ _ _ => trivial) l[i].f0.length k 0 A (by omega) hA (by omega) (fun k' hk' => ?_)
      have hmr : ∀ c ∈ (atOf w (freeAt w free l i) l[i]).getD [], 0 ≤ c ∧ c < 8 := by
        cases hq : atOf w (freeAt w free l i) l[i] with
        | none => simp
        | some m => exact took_range (took hs _ hm _ m hq)
      rw [w64 _ (by omega) (by omega), show (i : Int) + 1 = ((i + 1 : Nat) : Int) by omega, List.drop_zero]
      refine ih k' (i + 1) _ (by omega) hk' (orRow_bit _ hmr A 0 hA (by omega)).2 (fun b hb8 => ?_)
      rw [freeAt_succ w l free i hil, lessAll_bit _ hmr _ _ hb8, hb b hb8, (orRow_bit _ hmr A b hA hb8).1, Bool.not_or, Bool.and_assoc]
    have hr0 : rd l[i].f0 0 = l[i].f0[0]'(by omega) := rd_eq l[i].f0 0 (by omega)
    rw [mainsheetlaw19_PickWaits.l0, if_pos (by omega), if_pos (by omega), if_pos (by omega), rd90_eq l i hil, if_pos (by omega), hr0, On_val puts hpl, Option.bind_some, hon]
    cases hq : atOf w (freeAt w free l i) l[i] with
    | some m =>
      simp only [if_true]
      exact hgo
    | none =>
      simp only [Bool.false_eq_true, if_false]
      by_cases hone : ((l[i].f0.length : Nat) : Int) = 1
      · rw [if_pos hone]
        obtain ⟨v, hv⟩ := List.length_eq_one_iff.1 (show l[i].f0.length = 1 by omega)
        have hv0 : l[i].f0[0]'(by omega) = v := by simp [hv]
        have hz := waits_one hs _ hm _ hq v hv
        have hvm : v ∈ members l := List.mem_flatMap.2 ⟨l[i], hm, by rw [hv]; simp⟩
        have hwo := (wishOf_mem hs v hvm).1
        obtain ⟨w1, w2, w3, w4⟩ := hwf _ hwo
        have hA' := Allows_val (wishOf w v).f2.f0.toNat (wishOf w v).f2.f1.toNat free (by omega) (by omega) (by omega) (k + 1) (by omega)
        rw [show (((wishOf w v).f2.f0.toNat : Nat) : Int) = (wishOf w v).f2.f0 by omega, show (((wishOf w v).f2.f1.toNat : Nat) : Int) = (wishOf w v).f2.f1 by omega] at hA'
        rw [hv0, wish_val l w _ v (by omega) (k + 1) (by omega), Option.bind_some, hA', Option.bind_some, Within_val _ A (allowsN_lt _ _ _) hA (fun b hb8 hbit => ?_), Option.bind_some]
        · exact hgo
        · unfold mayN at hz
          have h3 := may_bit (wishOf w v).f2.f0.toNat (wishOf w v).f2.f1.toNat (freeAt w free l i) b hfl
          rw [hz, hb b hb8] at h3
          rw [may_bit _ _ _ _ hf] at hbit
          simp only [Bool.and_eq_true] at hbit
          rw [hbit.1.1, hbit.1.2, hbit.2] at h3
          simpa using h3.symm
      · rw [if_neg hone]
        exact hgo
end
theorem pure_PickWaits (l : List Ent) (w : List S36) (a : Int) (hwf : ∀ x ∈ w, Wf36 x) (h0 : 0 ≤ a) (h1 : a < 4294967296) : ∃ k, mainsheetlaw19_PickWaits.f k l w a = some true := by
  refine ⟨1000, ?_⟩
  unfold mainsheetlaw19_PickWaits.f
  rw [wakes19, Option.bind_some, if_pos rfl]
  rcases over_val l w a 1000 (by omega) with ho | ⟨ho, hl, hw, hm⟩
  · rw [ho, Option.bind_some, if_pos rfl]
  · rw [ho, Option.bind_some, if_neg (by simp)]
    have hok : okPickArgs l w a := ⟨⟨hwf, by omega, by omega⟩, h0, h1⟩
    have hP : pick_Pick.f l w a = some (if askedP l w a = 0 then (pickPuts (pickTurns w a.toNat l), pickWaits (pickTurns w a.toNat l), 0) else ([], [], askedP l w a)) := by unfold pick_Pick.f; exact if_pos hok
    rw [hP, Option.bind_some]
    by_cases he : askedP l w a = 0
    · rw [if_pos he, if_pos rfl]
      obtain ⟨hc, ha⟩ := askedP_ok.1 he
      obtain ⟨hs, hpc⟩ := (pickCheck_zero l w).1 hc
      have hpl := (pickPuts_le (pickTurns w a.toNat l)).1
      rw [turns_fst, ← hs.count] at hpl
      have hcast : ((a.toNat : Nat) : Int) = a := by omega
      have := waits_outer hs hl hw hwf (show a.toNat < 256 by omega) _ rfl (by omega) l.length 1000 0 0 (by omega) (by omega) (by omega) (fun b hb => by rw [freeAt_zero]; simp)
      rw [hcast] at this
      exact this
    · rw [if_neg he, if_neg (by simpa using he)]
      rfl
end Go.Proofs.YtdmieaidheelbaaDoor.Q
end
