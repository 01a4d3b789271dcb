import Derived.Test.YtdmieaidheelbaaDoorPlaceM
import Derived.Maps.OwnIn
import Derived.Maps.Own
import Derived.Maps.OwnSet
import Derived.Maps.OwnOps
import Derived.Maps.Views
import Derived.WalkSmall
import Derived.WalkMore
import Derived.Deep.LoopGhost
import Derived.BigQuiet
import Derived.Deep.QuietTactic
/- place.Home by its contract: the map of who is where. -/
namespace Go.Proofs.YtdmieaidheelbaaDoor.Q
open Go Go.RowKit Go.Shelf Go.Proofs.YtdmieaidheelbaaDoor.Rng Go.Proofs.YtdmieaidheelbaaDoorW.PrintWords Go.Proofs.YtdmieaidheelbaaDoorW.PrintLast Go.Proofs.YtdmieaidheelbaaDoorW.PrintMore
open Go.Maps (Keyed IsMap)
set_option linter.unusedVariables false
set_option linter.unusedSimpArgs false

def lastAt (l : List S36) (v : Int) : Option Int := (l.reverse.find? fun x => decide (x.f0 = v)).map (·.f1)
theorem lastAt_snoc (l : List S36) (x : S36) (v : Int) : lastAt (l ++ [x]) v = if x.f0 = v then some x.f1 else lastAt l v := by
  unfold lastAt
  rw [List.reverse_append, List.reverse_singleton, List.singleton_append, List.find?_cons]
  by_cases h : x.f0 = v
  · rw [if_pos h, decide_eq_true h]; rfl
  · rw [if_neg h, decide_eq_false h]
def homeOf (l : List S36) (p : S31) : List Int := match lastAt l p.f0 with | some c => if c = p.f1 ∧ -1 < c then [p.f0] else [] | none => []
def Wf31 (p : S31) : Prop := -9223372036854775808 ≤ p.f0 ∧ p.f0 ≤ 9223372036854775807 ∧ -9223372036854775808 ≤ p.f1 ∧ p.f1 ≤ 9223372036854775807
instance (p : S31) : Decidable (Wf31 p) := inferInstanceAs (Decidable (_ ∧ _ ∧ _ ∧ _))
def okHome (l : List S36) (ps : List S31) : Prop := (∀ x ∈ l, Wf36 x) ∧ l.length ≤ 1000000 ∧ (∀ p ∈ ps, Wf31 p) ∧ ps.length ≤ 1000000
instance (l : List S36) (ps : List S31) : Decidable (okHome l ps) := inferInstanceAs (Decidable (_ ∧ _ ∧ _ ∧ _))
def chk (l : List S36) : Int := checkFrom (List.replicate 17 false) (List.replicate 8 false) l
def place_Home.f (l0 : List S36) (l1 : List S31) : Option (List Int × Int) := if okHome l0 l1 then some (if chk l0 = 0 then (l1.flatMap (homeOf l0), 0) else ([], chk l0)) else none

theorem lawI : Keyed Tryd.prog 3 := Maps.int_keyed Tryd.underlying3
theorem wfI {n : Int} (h0 : -9223372036854775808 ≤ n) (h1 : n ≤ 9223372036854775807) : (Lit.int .i64 n).wf = true := by
  have a : IntKind.i64.min = -9223372036854775808 := by decide +kernel
  have b : IntKind.i64.max = 9223372036854775807 := by decide +kernel
  show (decide (IntKind.i64.min ≤ n) && decide (n ≤ IntKind.i64.max)) = true
  rw [a, b]; simp; omega
/-- the map tells what the last of a row with a number says -/
def AtMap (l : List S36) (D : DataW Unit) : Prop := ∀ v : Int, (Lit.int .i64 v).wf = true → match lastAt l v with
  | some c => Maps.has D (.int .i64 v) = true ∧ D.atKey (.int .i64 v) (.lit (.int .i64 0)) = .lit (.int .i64 c)
  | none => Maps.has D (.int .i64 v) = false
theorem AtMap.nil : AtMap [] (.map []) := fun v _ => by simp [lastAt, Maps.has_eq]
theorem AtMap.put {l : List S36} {D : DataW Unit} (h : AtMap l D) (hD : IsMap D) (x : S36) (hx : (Lit.int .i64 x.f0).wf = true) : AtMap (l ++ [x]) (D.put (.int .i64 x.f0) (.lit (.int .i64 x.f1))) := fun v hv => by
  have hk : WideAt.IsKeyLit (.int .i64 x.f0) := lawI.key (Maps.keyOf_int_mk Tryd.underlying3 hx)
  rw [lastAt_snoc]
  by_cases e : x.f0 = v
  · subst e
    rw [if_pos rfl]
    exact ⟨Maps.has_put_same hD hk _, Maps.atKey_put_same hD hk _ _⟩
  · rw [if_neg e]
    have hne : Lit.int .i64 v ≠ Lit.int .i64 x.f0 := fun h => by injection h with _ h; exact e h.symm
    have := h v hv
    revert this
    cases lastAt l v with
    | none => intro h; simp only at h ⊢; rw [Maps.has_put_other hne]; exact h
    | some c => intro h; simp only at h ⊢; rw [Maps.has_put_other hne, Maps.atKey_put_other hne]; exact h

theorem row_base {w : World} {base : Nat} {e : TypeId} {size : Nat} {v : Value} {n : Nat} {xs : List Value} (h : w.ownsRow base e size v n xs) : ∀ k, v.ownBlock = some k → base ≤ k := by
  intro k hk
  rcases h.2 with ⟨rfl, _⟩ | ⟨g, cap, cur, rfl, hg, _⟩
  · cases hk
  · simp only [Value.ownBlock, Option.some.injEq] at hk; omega
theorem row_not_map {w : World} {base : Nat} {e : TypeId} {size : Nat} {v : Value} {n : Nat} {xs : List Value} {b m : Nat} {D : DataW Unit} {k : TypeId} {R : Value → Option (DataW Unit × List MemPlace)} (h : w.ownsRow base e size v n xs) (hm : w.ownsMap Tryd.prog k R b m D) : some b ≠ v.ownBlock := by
  intro hk
  rcases h.2 with ⟨rfl, _⟩ | ⟨g, cap, cur, rfl, hg, hh, _⟩
  · cases hk
  · simp only [Value.ownBlock, Option.some.injEq] at hk
    subst hk
    obtain ⟨es, clock, hb, _⟩ := hm
    rw [hh] at hb
    cases hb
theorem check_range (l : List S36) : ∀ ms ts, checkFrom ms ts l = 0 → ∀ x ∈ l, 1 ≤ x.f0 ∧ x.f0 ≤ 16 ∧ -1 ≤ x.f1 ∧ x.f1 ≤ 7 := by
  induction l with
  | nil => intro ms ts _ x hx; simp at hx
  | cons y l ih =>
    intro ms ts h x hx
    unfold checkFrom at h
    split at h
    · cases h
    · next hb =>
      rcases List.mem_cons.1 hx with rfl | hx
      · unfold badWish at hb
        simp only [Bool.or_eq_true, Bool.and_eq_true, decide_eq_true_eq, not_or] at hb
        obtain ⟨⟨⟨⟨⟨⟨b1, b2⟩, _⟩, b4⟩, b5⟩, _⟩, _⟩ := hb
        omega
      · exact ih _ _ h x hx
set_option maxRecDepth 100000 in
set_option maxHeartbeats 4000000 in
theorem home_yes (A0 : Option Addr) (c0 : Nat) (l0 : List (S36)) (A1 : Option Addr) (c1 : Nat) (l1 : List (S31)) (w : World) (hr0 : Kd.C k36 w A0 l0.length l0) (hc0 : l0.length ≤ c0) (hr1 : Kd.C k31 w A1 l1.length l1) (hc1 : l1.length ≤ c1) (hok : okHome l0 l1) (hn : chk l0 = 0) :
    Calls Tryd.prog 45 #[.slice A0 l0.length c0, .slice A1 l1.length c1] w fun e w' => ∃ v, e = .returned (.tuple #[v, .int .i64 0]) ∧ Kd.R (Kd.int .i64) 3 w' w.heap.size (fun _ => True) v (l1.flatMap (homeOf l0)) ∧ Below w.heap.size w w' := by
  have hmm := @run_makeMap Tryd.prog
  have hv : place_Check.f l0 = some 0 := by unfold place_Check.f; rw [if_pos ⟨hok.1, hok.2.1⟩]; exact congrArg some hn
  have HV := Aside0.mk hv
  have HR0 := Aside0.mk hr0
  have HR1 := Aside0.mk hr1
  have HC0 := Aside0.mk hc0
  have HC1 := Aside0.mk hc1
  have HOK := Aside0.mk hok
  have hu36 := Tryd.underlying36
  have hu31 := Tryd.underlying31
  clear hv hr0 hr1 hc0 hc1 hok
  go_enter Tryd.func45, Tryd.ntmps45
  go_wp2_with (go_at_call 37; refine (place_Check.calls A0 c0 l0 0 w HR0.out HC0.out HV.out).mono ?_; rintro e w1 ⟨rfl, hb⟩; have HB1 := Aside0.mk hb; clear hb)
  have hsz : w.heap.size ≤ w1.heap.size := HB1.out.size
  have HRG := Aside0.mk (check_range l0 _ _ hn)
  go_loopw [23] (fun i wr => ∃ (k : Nat) (D : DataW Unit), k ≤ l0.length ∧ i = .int .i64 k ∧ Aside0 (wr.ownsMap Tryd.prog 3 (plainElem Tryd.prog 3) w1.heap.size k D) ∧ Aside0 (AtMap (l0.take k) D) ∧ Aside0 (Below w.heap.size w wr))
    (fun i _ => l0.length - (intOf i).toNat)
  case atStart => exact ⟨0, .map [], Nat.zero_le _, rfl, ⟨World.ownsMap_made w1 _ _ _⟩, ⟨AtMap.nil⟩, ⟨HB1.out.alloc hsz _⟩⟩
  case round =>
    obtain ⟨k, D, hk, rfl, HM, HA, HB⟩ := hrel
    by_cases hlt : k < l0.length
    case pos =>
      obtain ⟨ad, rfl, hx0, hx1, hx2, hx3⟩ := at_T36 (Kd.C_below HR0.out HB.out) (k : Int) (by omega) (by omega)
      rw [Int.toNat_natCast] at hx0 hx1 hx2 hx3
      have hrg := HRG.out _ (rd36_mem l0 k hlt)
      have hst : l0.take (k + 1) = l0.take k ++ [rd_T36 l0 (k : Int)] := by
        rw [List.take_succ_eq_append_getElem hlt]; simp [rd_T36, hlt]
      have HST := Aside0.mk hst
      clear hst
      generalize rd_T36 l0 (k : Int) = x at *
      obtain ⟨r1, r2, r3, r4⟩ := hrg
      have hlm := HOK.out.2.1
      have hm := HM.out.alloc (.cells #[.int .i64 x.f0, .int .i64 x.f1, .int .u32 x.f2.f0, .int .u32 x.f2.f1] 36)
      have hmax : k < maxLen := by unfold maxLen; omega
      have hw1 := wfI (n := x.f0) (by omega) (by omega)
      have hw2 := wfI (n := x.f1) (by omega) (by omega)
      have HW1 := Aside0.mk hw1
      have HW2 := Aside0.mk hw2
      have HMX := Aside0.mk hmax
      have HBA := Aside0.mk (HB.out.alloc (by have := HB.out.size; omega) (.cells #[.int .i64 x.f0, .int .i64 x.f1, .int .u32 x.f2.f0, .int .u32 x.f2.f1] 36))
      have HM2 := Aside0.mk hm
      clear hw1 hw2 hmax HM hm
      go_wp2_with (at_mapUpdate; refine wpList_mapUpdate_own _ rfl _ _ _ 70 rfl 3 3 lawI Tryd.underlying70 _ w1.heap.size k D rfl HM2.out HMX.out _ _ (.int .i64 x.f0) rfl rfl (Maps.keyOf_int_mk Tryd.underlying3 HW1.out) (.lit (.int .i64 x.f1)) [] (plainElem_int Tryd.underlying3 HW2.out) ?_; intro W5 hM5 hg5; have HM5 := Aside0.mk hM5; have HG5 := Aside0.mk hg5; clear hM5 hg5)
      go_roundw
      case measure => simp only [intOf]; omega
      case rel =>
        refine ⟨k + 1, _, by omega, rfl, HM5, ⟨?_⟩, ⟨HBA.out.grown HG5.out (by have := HB.out.size; simp; omega) (fun j e => by cases e; omega)⟩⟩
        rw [HST.out]
        exact HA.out.put HM2.out.isMap x HW1.out
    case neg =>
      obtain rfl : k = l0.length := by omega
      have ha := HA.out
      rw [List.take_length] at ha
      have HAM := Aside0.mk ha
      obtain ⟨i0, hi, hz0, hz1, hz2⟩ := info_parts infoInt
      have HM0 := HM
      have HB0 := HB
      clear ha HA HB1 HRG HV HR0 HC0
      go_wp2
      clear HB HM
      go_loopw [10, 35] (fun ov i wx => ∃ (k : Nat) (n : Nat) (xs : List Int), k ≤ l1.length ∧ i = .int .i64 k ∧ xs.length = n ∧ n ≤ k ∧ Aside0 (xs = (l1.take k).flatMap (homeOf l0)) ∧ Aside0 (wx.ownsRow w.heap.size 3 1 ov n (xs.map (Value.int .i64))) ∧
          Aside0 (wx.ownsMap Tryd.prog 3 (plainElem Tryd.prog 3) w1.heap.size l0.length D) ∧ Aside0 (Below w.heap.size w wx))
        (fun _ i _ => l1.length - (intOf i).toNat)
      case atStart => exact ⟨0, 0, [], Nat.zero_le _, rfl, rfl, Nat.le_refl _, ⟨rfl⟩, ⟨World.ownsRow_nil _ _ _ _⟩, HM0, HB0⟩
      case round =>
        obtain ⟨k, n, xs, hk1, rfl, hxl, hnk, HXS, HROW, HM, HB⟩ := hrel
        clear HM0 HB0 hlt
        generalize u10 = ov at *
        have hlm := HOK.out.2.2.2
        by_cases hlt : k < l1.length
        case neg =>
          obtain rfl : k = l1.length := by omega
          have hx := HXS.out
          rw [List.take_length] at hx
          have HXX := Aside0.mk hx
          clear hx HXS
          go_wp2
          go_ret2
          refine ⟨_, rfl, ?_, HB.out⟩
          rw [← HXX.out]
          refine Kd.R_of_own ?_ (fun _ _ => trivial)
          rw [hxl]; exact HROW.out
        case pos =>
          obtain ⟨ad, rfl, hx0, hx1⟩ := at_T31 (Kd.C_below HR1.out HB.out) (k : Int) (by omega) (by omega)
          rw [Int.toNat_natCast] at hx0 hx1
          have hwp := HOK.out.2.2.1 _ (rd31_mem l1 k hlt)
          have hst : l1.take (k + 1) = l1.take k ++ [rd_T31 l1 (k : Int)] := by
            rw [List.take_succ_eq_append_getElem hlt]; simp [rd_T31, hlt]
          have HST := Aside0.mk hst
          clear hst
          generalize rd_T31 l1 (k : Int) = x at *
          obtain ⟨v1, v2⟩ := x
          obtain ⟨p1, p2, p3, p4⟩ := hwp
          simp only at hx0 hx1 p1 p2 p3 p4
          have hwv := wfI p1 p2
          clear p1 p2 p3 p4
          have hm := HM.out.alloc (.cells #[.int .i64 v1, .int .i64 v2] 31)
          obtain ⟨v, ps, hrun, hv⟩ := hm.look_ok lawI Tryd.underlying70 (show (zeroValue 3).run Tryd.prog (wr.alloc (.cells #[.int .i64 v1, .int .i64 v2] 31)) = .ok (.int .i64 0) (wr.alloc (.cells #[.int .i64 v1, .int .i64 v2] 31)) by kernel_rfl) (plainElem_int Tryd.underlying3 (wfI (n := 0) (by omega) (by omega))) (Maps.keyOf_int_mk Tryd.underlying3 hwv)
          obtain ⟨c, rfl, hc, hwc⟩ := plainElem_int_inv Tryd.underlying3 hv
          have ham := HAM.out v1 hwv
          have HBA := Aside0.mk (HB.out.alloc (by have := HB.out.size; omega) (.cells #[.int .i64 v1, .int .i64 v2] 31))
          have HMA := Aside0.mk hm
          have HRA := Aside0.mk (HROW.out.alloc (.cells #[.int .i64 v1, .int .i64 v2] 31))
          have hho : homeOf l0 ⟨v1, v2⟩ = match lastAt l0 v1 with | some c => if c = v2 ∧ -1 < c then [v1] else [] | none => [] := rfl
          have hxs : xs ++ homeOf l0 ⟨v1, v2⟩ = (l1.take (k + 1)).flatMap (homeOf l0) := by rw [HST.out, List.flatMap_append, HXS.out]; simp
          have HXN := Aside0.mk hxs
          clear hwc hwv hm hv HM HB HROW hxs HXS HST
          cases hq : lastAt l0 v1 with
          | none =>
            rw [hq] at ham hho
            simp only at ham hho
            rw [ham] at hrun
            rw [hho, List.append_nil] at HXN
            clear hc ham hho hq
            go_wp2
            go_roundw
            case measure => simp only [intOf]; omega
            case rel => exact ⟨k + 1, n, xs, by omega, rfl, hxl, by omega, HXN, HRA, HMA, HBA⟩
          | some d =>
            rw [hq] at ham hho
            simp only at ham hho
            rw [ham.1] at hrun
            have hcd : c = d := by
              have := congrArg Prod.fst hc
              rw [ham.2] at this
              injection this with this
              injection this with _ this
              exact this.symm
            subst hcd
            clear hc ham hq
            by_cases h1 : c = v2
            · subst h1
              by_cases h2 : -1 < c
              · rw [if_pos ⟨rfl, h2⟩] at hho
                rw [hho] at HXN
                clear hho
                go_wp2_with (at_builtin; refine wpList_append_own _ rfl _ _ 42 rfl w.heap.size 3 i0 (.int .i64 0) 1 8 Tryd.underlying42 hi hz0 hz1 hz2 rfl (by decide) _ _ _ rfl (HRA.out.alloc _) ⟨wr.heap.size + 1, 0, none⟩ 1 1 [.int .i64 v1] rfl rfl (by have := cell_one_new (wr.alloc (.cells #[.int .i64 v1, .int .i64 c] 31)) (.int .i64 v1) 3; rw [World.size_alloc] at this; exact this) (by simp [Value.oneCell']) (by unfold maxLen; omega) (by omega) (by have := HBA.out.size; simp at this ⊢; omega) ?_; intro v' w6 hown' hgrow' _; have HOWN := Aside0.mk hown'; have HGROW := Aside0.mk hgrow'; clear hown' hgrow')
                go_roundw
                case measure => simp only [intOf]; omega
                case rel =>
                  have hne := row_not_map HRA.out HMA.out
                  refine ⟨k + 1, n + 1, xs ++ [v1], by omega, rfl, by simp [hxl], by omega, HXN, ⟨by have := HOWN.out; simpa using this⟩, ⟨(HMA.out.alloc _).kept HGROW.out hne⟩, ⟨(HBA.out.alloc (by have := HBA.out.size; omega) _).grown HGROW.out (by have := HBA.out.size; simp at this ⊢; omega) (row_base HRA.out)⟩⟩
              · rw [if_neg (fun h => h2 h.2)] at hho
                rw [hho, List.append_nil] at HXN
                have h2' : c ≤ -1 := by omega
                clear hho h2
                go_wp2
                go_roundw
                case measure => simp only [intOf]; omega
                case rel => exact ⟨k + 1, n, xs, by omega, rfl, hxl, by omega, HXN, HRA, HMA, HBA⟩
            · rw [if_neg (fun h => h1 h.1)] at hho
              rw [hho, List.append_nil] at HXN
              have h1' : (c == v2) = false := beq_eq_false_iff_ne.2 h1
              clear hho
              go_wp2
              go_roundw
              case measure => simp only [intOf]; omega
              case rel => exact ⟨k + 1, n, xs, by omega, rfl, hxl, by omega, HXN, HRA, HMA, HBA⟩

set_option maxRecDepth 100000 in
set_option maxHeartbeats 4000000 in
theorem home_no (A0 : Option Addr) (c0 : Nat) (l0 : List (S36)) (A1 : Option Addr) (c1 : Nat) (l1 : List (S31)) (w : World) (hr0 : Kd.C k36 w A0 l0.length l0) (hc0 : l0.length ≤ c0) (hok : okHome l0 l1) (hn : chk l0 ≠ 0) :
    Calls Tryd.prog 45 #[.slice A0 l0.length c0, .slice A1 l1.length c1] w fun e w' => e = .returned (.tuple #[.slice none 0 0, .int .i64 (chk l0)]) ∧ Below w.heap.size w w' := by
  have hv : place_Check.f l0 = some (chk l0) := by unfold place_Check.f; rw [if_pos ⟨hok.1, hok.2.1⟩]; rfl
  have hne : (chk l0 != 0) = true := by simpa using hn
  have HV := Aside0.mk hv
  have HR0 := Aside0.mk hr0
  have HC0 := Aside0.mk hc0
  clear hv hr0 hc0 hok hn
  generalize chk l0 = q at *
  go_enter Tryd.func45, Tryd.ntmps45
  go_wp2_with (go_at_call 37; refine (place_Check.calls A0 c0 l0 q w HR0.out HC0.out HV.out).mono ?_; rintro e w1 ⟨rfl, hb⟩; have HB1 := Aside0.mk hb; clear hb)
  go_ret2
  exact ⟨rfl, HB1.out⟩
theorem place_Home.calls (A0 : Option Addr) (c0 : Nat) (l0 : List (S36)) (A1 : Option Addr) (c1 : Nat) (l1 : List (S31)) (r1 : List Int) (r2 : Int) (w : World) (hr0 : Kd.C k36 w A0 l0.length l0) (hc0 : l0.length ≤ c0) (hr1 : Kd.C k31 w A1 l1.length l1) (hc1 : l1.length ≤ c1) (h : place_Home.f l0 l1 = some (r1, r2)) :
    Calls Tryd.prog 45 #[.slice A0 l0.length c0, .slice A1 l1.length c1] w fun e w' => ∃ v0_ : Value, e = .returned (.tuple #[v0_, .int .i64 r2]) ∧ Kd.R (Kd.int .i64) 3 w' w.heap.size (fun _ => True) v0_ r1 ∧ Below w.heap.size w w' := by
  unfold place_Home.f at h
  by_cases hok : okHome l0 l1
  case neg => rw [if_neg hok] at h; cases h
  rw [if_pos hok] at h
  replace h := Option.some.inj h
  by_cases h0 : chk l0 = 0
  · rw [if_pos h0] at h
    injection h with e1 e2
    subst e1 e2
    exact home_yes A0 c0 l0 A1 c1 l1 w hr0 hc0 hr1 hc1 hok h0
  · rw [if_neg h0] at h
    injection h with e1 e2
    subst e1 e2
    exact (home_no A0 c0 l0 A1 c1 l1 w hr0 hc0 hok h0).mono fun e w' h => ⟨_, h.1, Kd.R_nil _ _ _ _ _, h.2⟩
#print axioms place_Home.calls
end Go.Proofs.YtdmieaidheelbaaDoor.Q
/- place.Fair by its contract: a closure over an array that the loop writes. -/
namespace Go.Proofs.YtdmieaidheelbaaDoor.Q
open Go Go.RowKit Go.Shelf Go.Proofs.YtdmieaidheelbaaDoor.Rng Go.Proofs.YtdmieaidheelbaaDoorW.PrintWords Go.Proofs.YtdmieaidheelbaaDoorW.PrintLast Go.Proofs.YtdmieaidheelbaaDoorW.PrintMore
set_option linter.unusedVariables false
set_option linter.unusedSimpArgs false

def allowsW (x : S36) (free : Nat) : Nat := allowsN x.f2.f0.toNat x.f2.f1.toNat free
def lacksN (free : Nat) (ah : List Bool) (x : S36) : Bool := (listOf (allowsW x free : Nat)).any fun c => !ah.getD c.toNat false
def fairFrom (free : Nat) : List Bool → List S36 → List S31 → Bool
  | _, [], left => left.isEmpty
  | ah, x :: l, [] => if lacksN free ah x then false else fairFrom free ah l []
  | ah, x :: l, p :: left => if p.f0 = x.f0 then (if hasN (allowsW x free) p.f1 && !ah.getD p.f1.toNat false then fairFrom free (ah.set p.f1.toNat true) l left else false)
      else if lacksN free ah x then false else fairFrom free ah l (p :: left)
theorem list_mem' (s : Nat) (c : Int) (h : c ∈ listOf (s : Int)) : 0 ≤ c ∧ c < 8 := by
  have := list_mem s c h
  exact ⟨this.1, this.2.1⟩
def okFair (l : List S36) (a : Int) (ps : List S31) : Prop := okArgs l a ∧ ps.length ≤ 1000000
instance (l : List S36) (a : Int) (ps : List S31) : Decidable (okFair l a ps) := inferInstanceAs (Decidable (_ ∧ _))
def place_Fair.f (l0 : List S36) (a1 : Int) (l2 : List S31) : Option (Bool × Int) := if okFair l0 a1 l2 then some (if askedOf l0 a1 = 0 then (fairFrom a1.toNat (List.replicate 8 false) l0 l2, 0) else (false, askedOf l0 a1)) else none

def IntsAt (W : World) (base : Nat) (A : Option Addr) (xs : List Int) : Prop := ∀ k, k < xs.length → ∃ ad, A = some ad ∧ base ≤ ad.block ∧ W.cell? (ad.add k) = some (.int .i64 (rd xs k))
theorem IntsAt.of {W : World} {base : Nat} {v : Value} {xs : List Int} (h : Kd.R (Kd.int .i64) 3 W base (fun _ => True) v xs) : ∃ A c, v = .slice A xs.length c ∧ IntsAt W base A xs := by
  obtain ⟨A, c, rfl, hc, hC⟩ := Kd.R_reads h
  refine ⟨A, c, rfl, fun k hk => ?_⟩
  obtain ⟨ad, e, hx⟩ := Kd.at_int hC (k : Int) (by omega) (by omega)
  rw [Int.toNat_natCast] at hx
  exact ⟨ad, e, Kd.R_base h _ (by rw [e]; rfl), hx⟩
theorem IntsAt.step {W W' : World} {base : Nat} {A : Option Addr} {xs : List Int} (h : IntsAt W base A xs) (hb : Below W.heap.size W W') : IntsAt W' base A xs := fun k hk => by
  obtain ⟨ad, e, hb2, hx⟩ := h k hk
  exact ⟨ad, e, hb2, (World.cell?_of_block (w := W) (hb.block _ (World.block_lt_of_cell? W _ hx))).trans hx⟩

set_option maxRecDepth 100000 in
set_option maxHeartbeats 4000000 in
theorem lacks_calls (bf ba : Nat) (x : S36) (hwf : Wf36 x) (free : Nat) (hf : free < 256) (ah : List Bool) (hah : ah.length = 8) (W : World) (hbf : Boxed W bf 24 (.int .u32 free)) (hba : Bools W ba 115 ah) (hT : TabW W) :
    Calls Tryd.prog 82 #[.agg #[.int .i64 x.f0, .int .i64 x.f1, .int .u32 x.f2.f0, .int .u32 x.f2.f1], .pointer (some ⟨bf, 0, none⟩), .pointer (some ⟨ba, 0, none⟩)] W fun e W' =>
      e = .returned (.bool (lacksN free ah x)) ∧ Below W.heap.size W W' := by
  obtain ⟨f0, f1, ⟨mh, ms⟩⟩ := x
  obtain ⟨hw1, hw2, hw3, hw4⟩ := hwf
  simp only at hw1 hw2 hw3 hw4
  obtain ⟨mh, rfl⟩ : ∃ m : Nat, mh = m := ⟨mh.toNat, by omega⟩
  obtain ⟨ms, rfl⟩ : ∃ m : Nat, ms = m := ⟨ms.toNat, by omega⟩
  have hal := Allows_val mh ms free (by omega) (by omega) (by omega) 2 (by omega)
  have hli := List_val (allowsN mh ms free) (by have := allowsN_lt mh ms free; omega)
  have hres : lacksN free ah ⟨f0, f1, ⟨(mh : Int), (ms : Int)⟩⟩ = (listOf (allowsN mh ms free : Nat)).any fun c => !ah.getD c.toNat false := rfl
  have hlen := listOf_len (allowsN mh ms free)
  have hmem := fun c => list_mem' (allowsN mh ms free) c
  generalize listOf (allowsN mh ms free : Nat) = cs at *
  rw [hres]
  have HMEM := Aside0.mk hmem
  clear hmem
  have hu36 := Tryd.underlying36
  have hu34 := Tryd.underlying34
  have hBA : Below W.heap.size W (W.alloc (.cells #[.int .i64 f0, .int .i64 f1, .int .u32 mh, .int .u32 ms] 36)) := (Below.refl _ _).alloc (Nat.le_refl _) _
  have hcf := (hbf.alloc (.cells #[.int .i64 f0, .int .i64 f1, .int .u32 mh, .int .u32 ms] 36)).cell
  have HAL := Aside0.mk hal
  have HLI := Aside0.mk hli
  have HBA := Aside0.mk hBA
  have HBF := Aside0.mk hbf
  have HBO := Aside0.mk hba
  have HT := Aside0.mk hT
  clear hal hli hres hbf hba hT hBA
  go_enter Tryd.func82, Tryd.ntmps82
  go_wp2_with (first
    | (go_at_call 22; refine (mask_Allows.calls 2 mh ms free _ _ HAL.out).mono ?_; rintro e w1 ⟨rfl, hb1⟩; have HB1 := Aside0.mk (HBA.out.trans (hb1.mono HBA.out.size)); clear hb1)
    | (go_at_call 68; refine (cpuset_List.calls _ _ _ (HT.out.step HB1.out) HLI.out).mono ?_; rintro e w2 ⟨v, rfl, hR, hb2⟩; obtain ⟨A2, k2, rfl, hI⟩ := IntsAt.of hR; have HB2 := Aside0.mk (HB1.out.trans (hb2.mono HB1.out.size)); have HI := Aside0.mk hI; clear hR hI hb2))
  have HBO2 := Aside0.mk (HBO.out.below HB2.out)
  clear HAL HLI HBA HB1 HBF hcf HBO HT
  go_loopw [13] (fun i wr => ∃ k : Nat, k ≤ cs.length ∧ i = .int .i64 k ∧ wr = w2 ∧ Aside0 ((cs.take k).any (fun c => !ah.getD c.toNat false) = false)) (fun i _ => cs.length - (intOf i).toNat)
  case atStart => exact ⟨0, Nat.zero_le _, rfl, rfl, ⟨rfl⟩⟩
  case round =>
    obtain ⟨k, hk, rfl, rfl, HNO⟩ := hrel
    by_cases hlt : k < cs.length
    case neg =>
      have hno := HNO.out
      rw [List.take_of_length_le (by omega)] at hno
      have HNN := Aside0.mk hno
      clear HMEM HI HBO2 HNO hno
      go_wp2
      go_ret
      refine ⟨?_, HB2.out⟩
      rw [HNN.out]; rfl
    case pos =>
      obtain ⟨ad, rfl, hb, hx⟩ := HI.out k hlt
      have e : cs[k] = rd cs (k : Int) := by simp [rd, hlt]
      have hxm := HMEM.out (rd cs k) (by rw [← e]; exact List.getElem_mem hlt)
      have hst := List.take_succ_eq_append_getElem hlt
      have hdr := List.drop_eq_getElem_cons hlt
      rw [e] at hst hdr
      have hall : cs = cs.take k ++ rd cs (k : Int) :: cs.drop (k + 1) := by rw [← hdr, List.take_append_drop]
      have HST := Aside0.mk hst
      have HALL := Aside0.mk hall
      clear hst hdr hall e
      generalize rd cs (k : Int) = c at *
      obtain ⟨hc0, hc8⟩ := hxm
      obtain ⟨dd, rfl⟩ : ∃ m : Nat, c = m := ⟨c.toNat, by omega⟩
      have hcell := HBO2.out.cell dd (by omega)
      cases hq : ah.getD dd false with
      | false =>
        rw [hq] at hcell
        have hres : (cs.any fun c => !ah.getD c.toNat false) = true := by
          rw [HALL.out, List.any_append, List.any_cons, Int.toNat_natCast, hq]; simp
        have HRES := Aside0.mk hres
        clear hq hres
        go_wp2
        go_ret
        refine ⟨?_, HB2.out⟩
        rw [HRES.out]; rfl
      | true =>
        rw [hq] at hcell
        have HQ := Aside0.mk hq
        clear hq
        go_wp2
        go_roundw
        case measure => simp only [intOf]; omega
        case rel => exact ⟨k + 1, by omega, rfl, trivial, ⟨by rw [HST.out, List.any_append, HNO.out]; simp only [List.any_cons, List.any_nil, Int.toNat_natCast, HQ.out]; rfl⟩⟩

set_option maxRecDepth 100000 in
set_option maxHeartbeats 4000000 in
theorem fair_no (A0 : Option Addr) (c0 : Nat) (l0 : List (S36)) (a1 : Int) (A2 : Option Addr) (c2 : Nat) (l2 : List (S31)) (w : World) (hr0 : Kd.C k36 w A0 l0.length l0) (hc0 : l0.length ≤ c0) (hok : okArgs l0 a1) (hn : askedOf l0 a1 ≠ 0) :
    Calls Tryd.prog 44 #[.slice A0 l0.length c0, .int .u32 a1, .slice A2 l2.length c2] w fun e w' => e = .returned (.tuple #[.bool false, .int .i64 (askedOf l0 a1)]) ∧ Below w.heap.size w w' := by
  have hv := asked_val l0 a1 hok
  have hne : (askedOf l0 a1 != 0) = true := by simpa using hn
  have hBA : Below w.heap.size w (w.alloc (.cells #[.int .u32 a1] 24)) := (Below.refl _ _).alloc (Nat.le_refl _) _
  have hcf := (Boxed.new w 24 (.int .u32 a1)).cell
  have HV := Aside0.mk hv
  have HR0 := Aside0.mk hr0
  have HC0 := Aside0.mk hc0
  have HBA := Aside0.mk hBA
  clear hv hr0 hc0 hok hn hBA
  generalize askedOf l0 a1 = q at *
  go_enter Tryd.func44, Tryd.ntmps44
  go_wp2
  go_step3
  go_wp2_with (go_at_call 57; refine (place_asked.calls A0 c0 l0 a1 q _ (Kd.C_below HR0.out HBA.out) HC0.out HV.out).mono ?_; rintro e w1 ⟨rfl, hb⟩; have HB1 := Aside0.mk (HBA.out.trans (hb.mono HBA.out.size)); clear hb)
  rw [Exit.noGoto_ret]
  go_ret2
  exact ⟨rfl, HB1.out⟩

set_option maxRecDepth 100000 in
set_option maxHeartbeats 8000000 in
theorem fair_yes (A0 : Option Addr) (c0 : Nat) (l0 : List (S36)) (free : Nat) (A2 : Option Addr) (c2 : Nat) (l2 : List (S31)) (w : World) (hr0 : Kd.C k36 w A0 l0.length l0) (hc0 : l0.length ≤ c0) (hr2 : Kd.C k31 w A2 l2.length l2) (hc2 : l2.length ≤ c2) (hok : okFair l0 free l2) (hn : askedOf l0 free = 0) (hf : free < 256) (hT : TabW w) :
    Calls Tryd.prog 44 #[.slice A0 l0.length c0, .int .u32 free, .slice A2 l2.length c2] w fun e w' => e = .returned (.tuple #[.bool (fairFrom free (List.replicate 8 false) l0 l2), .int .i64 0]) ∧ Below w.heap.size w w' := by
  have hv := asked_val l0 free hok.1
  rw [hn] at hv
  have hBA : Below w.heap.size w (w.alloc (.cells #[.int .u32 free] 24)) := (Below.refl _ _).alloc (Nat.le_refl _) _
  have hbx := Boxed.new w 24 (.int .u32 free)
  have hcf := hbx.cell
  have HV := Aside0.mk hv
  have HR0 := Aside0.mk hr0
  have HC0 := Aside0.mk hc0
  have HR2 := Aside0.mk hr2
  have HC2 := Aside0.mk hc2
  have HBA := Aside0.mk hBA
  have HBX := Aside0.mk hbx
  have HTW := Aside0.mk hT
  have HOK := Aside0.mk hok
  have hu36 := Tryd.underlying36
  have hu31 := Tryd.underlying31
  clear hv hr0 hc0 hr2 hc2 hok hn hBA hbx hT
  go_enter Tryd.func44, Tryd.ntmps44
  go_wp2
  go_step3
  go_wp2_with (go_at_call 57; refine (place_asked.calls A0 c0 l0 free 0 _ (Kd.C_below HR0.out HBA.out) HC0.out HV.out).mono ?_; rintro e w1 ⟨rfl, hb⟩; have HBX1 := Aside0.mk (show Boxed w1 w.heap.size 24 (.int .u32 free) from (hb.block _ HBX.out.lt).trans HBX.out); have HB1 := Aside0.mk (HBA.out.trans (hb.mono HBA.out.size)); clear hb)
  go_step3
  go_wp2
  have hba := heap_alloc_new w1 (.cells (List.replicate 8 (Value.bool false)).toArray 115)
  have HBO0 := Aside0.mk (show Bools (w1.alloc (.cells (List.replicate 8 (Value.bool false)).toArray 115)) w1.heap.size 115 (List.replicate 8 false) from hba)
  have HBF0 := Aside0.mk (HBX1.out.alloc (.cells (List.replicate 8 (Value.bool false)).toArray 115))
  have HB0 := Aside0.mk (HB1.out.alloc HB1.out.size (.cells (List.replicate 8 (Value.bool false)).toArray 115))
  have hs1 := HB1.out.size
  have hlt1 := HBX1.out.lt
  have HS1 := Aside0.mk (And.intro hs1 hlt1)
  clear hba HB1 HBX1 HBX HBA hcf HV hs1 hlt1
  generalize hnb : w1.heap.size = nb at *
  clear hnb
  go_loopg [10, 25] l0.length (fun g s10 s25 wx => ∃ (k : Nat) (ah : List Bool) (left : List S31) (Al : Option Addr) (cl : Nat), k + g = l0.length ∧ s25 = .int .i64 k ∧ s10 = .slice Al left.length cl ∧ ah.length = 8 ∧ left.length ≤ cl ∧ left.length ≤ 1000000 ∧
      Aside0 (fairFrom free (List.replicate 8 false) l0 l2 = fairFrom free ah (l0.drop k) left) ∧ Aside0 (Kd.C k31 w Al left.length left) ∧ Aside0 (Bools wx nb 115 ah) ∧ Aside0 (Boxed wx w.heap.size 24 (.int .u32 free)) ∧ Aside0 (Below w.heap.size w wx))
  case atStart => exact ⟨0, List.replicate 8 false, l2, A2, c2, by omega, rfl, rfl, by simp, HC2.out, HOK.out.2, ⟨rfl⟩, HR2, HBO0, HBF0, HB0⟩
  case round =>
    obtain ⟨k, ah, left, Al, cl, hkg, rfl, rfl, hahl, hlc, hlm, HF, HL, HBO, HBF, HB⟩ := hrel
    clear HBO0 HBF0 HB0
    cases gk with
    | zero =>
      have hk : ¬ ((k : Int) < (l0.length : Int)) := by omega
      have hres := HF.out
      rw [List.drop_eq_nil_of_le (by omega)] at hres
      have HRES := Aside0.mk hres
      clear hres HF
      cases left with
      | nil =>
        go_wp2
        (try rw [Exit.noGoto_ret])
        go_ret2
        refine ⟨?_, HB.out⟩
        rw [HRES.out]; rfl
      | cons p left =>
        have hq : (((p :: left).length : Int) == 0) = false := by rw [beq_eq_false_iff_ne, List.length_cons]; omega
        go_wp2
        (try rw [Exit.noGoto_ret])
        go_ret2
        refine ⟨?_, HB.out⟩
        rw [HRES.out]; rfl
    | succ go =>
      have hlt : k < l0.length := by omega
      obtain ⟨ad, rfl, hx0, hx1, hx2, hx3⟩ := at_T36 (Kd.C_below HR0.out HB.out) (k : Int) (by omega) (by omega)
      rw [Int.toNat_natCast] at hx0 hx1 hx2 hx3
      have hlm0 := HOK.out.1.2.1
      have hwx := HOK.out.1.1 _ (rd36_mem l0 k hlt)
      have hfr := HF.out
      rw [drop_rd l0 k hlt] at hfr
      generalize rd_T36 l0 (k : Int) = x at *
      obtain ⟨f0, f1, ⟨mh, ms⟩⟩ := x
      have HWX := Aside0.mk hwx
      obtain ⟨hw1, hw2, hw3, hw4⟩ := hwx
      simp only at hx0 hx1 hx2 hx3 hw1 hw2 hw3 hw4
      obtain ⟨mh, rfl⟩ : ∃ m : Nat, mh = m := ⟨mh.toNat, by omega⟩
      obtain ⟨ms, rfl⟩ : ∃ m : Nat, ms = m := ⟨ms.toNat, by omega⟩
      have HAL := Aside0.mk (Allows_val mh ms free (by omega) (by omega) (by omega) 2 (by omega))
      clear hw1 hw2 hw3 hw4
      have hbs := HB.out.size
      have HBA := Aside0.mk (HB.out.alloc hbs (.cells #[.int .i64 f0, .int .i64 f1, .int .u32 mh, .int .u32 ms] 36))
      have HBOA := Aside0.mk (HBO.out.alloc (.cells #[.int .i64 f0, .int .i64 f1, .int .u32 mh, .int .u32 ms] 36))
      have HBFA := Aside0.mk (HBF.out.alloc (.cells #[.int .i64 f0, .int .i64 f1, .int .u32 mh, .int .u32 ms] 36))
      have HTA := Aside0.mk (HTW.out.step HBA.out)
      have HBQ := Aside0.mk (fun n => below_at (m := n) rfl HBA.out)
      have HBOQ := Aside0.mk (fun n => show Bools ((wr.alloc (.cells #[.int .i64 f0, .int .i64 f1, .int .u32 mh, .int .u32 ms] 36)).drewN n) nb 115 ah from blk_at rfl HBOA.out)
      have HBFQ := Aside0.mk (fun n => show Boxed ((wr.alloc (.cells #[.int .i64 f0, .int .i64 f1, .int .u32 mh, .int .u32 ms] 36)).drewN n) w.heap.size 24 (.int .u32 free) from blk_at rfl HBFA.out)
      have HTQ := Aside0.mk (fun n => HTW.out.step (HBQ.out n))
      -- one that is not the next of the placements
      have hskip : (left.length = 0 ∨ ∃ p rest, left = p :: rest ∧ p.f0 ≠ f0) → Aside0 (fairFrom free (List.replicate 8 false) l0 l2 = if lacksN free ah ⟨f0, f1, ⟨(mh : Int), (ms : Int)⟩⟩ then false else fairFrom free ah (l0.drop (k + 1)) left) := by
        rintro (h | ⟨p, rest, rfl, h⟩)
        · obtain rfl := List.eq_nil_of_length_eq_zero h
          exact ⟨hfr⟩
        · refine ⟨hfr.trans ?_⟩
          rw [fairFrom, if_neg h]
      have hlk := fun W2 (h1 : Boxed W2 w.heap.size 24 (.int .u32 free)) (h2 : Bools W2 nb 115 ah) (h3 : TabW W2) => lacks_calls w.heap.size nb ⟨f0, f1, ⟨(mh : Int), (ms : Int)⟩⟩ HWX.out free hf ah hahl W2 h1 h2 h3
      have HLK := Aside0.mk hlk
      have HFR := Aside0.mk hfr
      clear hlk hfr HF HBO HBF
      cases left with
      | nil =>
        have HSK := hskip (.inl rfl)
        clear hskip HFR
        cases hq : lacksN free ah ⟨f0, f1, ⟨(mh : Int), (ms : Int)⟩⟩ with
        | true =>
          rw [hq] at HSK HLK
          clear hq
          go_wp2
          go_quiet (fail)
          go_wp2_with (go_at_call 82; refine (HLK.out _ (HBFQ.out nq) (HBOQ.out nq) (HTQ.out nq)).mono ?_; rintro e w5 ⟨rfl, hb5⟩; have HB5 := Aside0.mk ((HBQ.out nq).trans (hb5.mono (HBQ.out nq).size)); clear hb5)
          (try rw [Exit.noGoto_ret])
          go_ret2
          refine ⟨?_, HB5.out⟩
          rw [HSK.out]; rfl
        | false =>
          rw [hq] at HSK HLK
          clear hq
          go_wp2
          go_quiet (fail)
          go_wp2_with (go_at_call 82; refine (HLK.out _ (HBFQ.out nq) (HBOQ.out nq) (HTQ.out nq)).mono ?_; rintro e w5 ⟨rfl, hb5⟩; have HB5 := Aside0.mk ((HBQ.out nq).trans (hb5.mono (HBQ.out nq).size)); have HBO5 := Aside0.mk ((HBOQ.out nq).below hb5); have HBF5 := Aside0.mk (show Boxed w5 w.heap.size 24 (.int .u32 free) from (hb5.block _ (HBFQ.out nq).lt).trans (HBFQ.out nq)); clear hb5)
          go_roundg go
          case measure => omega
          case rel => exact ⟨k + 1, ah, [], Al, cl, by omega, rfl, rfl, hahl, hlc, by simp, ⟨HSK.out⟩, HL, HBO5, HBF5, HB5⟩
      | cons p rest =>
        obtain ⟨p0, p1⟩ := p
        have hlen : (List.length (⟨p0, p1⟩ :: rest)) = rest.length + 1 := rfl
        obtain ⟨ap, e, hp0, hp1⟩ := at_T31 (Kd.C_below HL.out HB.out) 0 (by omega) (by rw [hlen]; omega)
        subst e
        have er : rd_T31 (⟨p0, p1⟩ :: rest) 0 = ⟨p0, p1⟩ := rfl
        rw [er] at hp0 hp1
        have ea : ap.add 0 = ap := by unfold Addr.add; simp
        simp only [Int.toNat_zero, Nat.zero_mul, ea] at hp0 hp1
        have hp0a := (World.cell?_alloc_lt wr (.cells #[.int .i64 f0, .int .i64 f1, .int .u32 mh, .int .u32 ms] 36) _ (World.block_lt_of_cell? wr _ hp0)).trans hp0
        have hp1a := (World.cell?_alloc_lt wr (.cells #[.int .i64 f0, .int .i64 f1, .int .u32 mh, .int .u32 ms] 36) _ (World.block_lt_of_cell? wr _ hp1)).trans hp1
        have hq0 : (((rest.length + 1 : Nat) : Int) == 0) = false := by rw [beq_eq_false_iff_ne]; omega
        rw [hlen] at *
        by_cases hv : p0 = f0
        case neg =>
          have HSK := hskip (.inr ⟨_, _, rfl, hv⟩)
          have hvb : (p0 != f0) = true := by simpa using hv
          clear hskip HFR
          cases hq : lacksN free ah ⟨f0, f1, ⟨(mh : Int), (ms : Int)⟩⟩ with
          | true =>
            rw [hq] at HSK HLK
            clear hq
            go_wp2
            go_quiet (fail)
            go_wp2_with (go_at_call 82; refine (HLK.out _ (HBFQ.out nq) (HBOQ.out nq) (HTQ.out nq)).mono ?_; rintro e w5 ⟨rfl, hb5⟩; have HB5 := Aside0.mk ((HBQ.out nq).trans (hb5.mono (HBQ.out nq).size)); clear hb5)
            (try rw [Exit.noGoto_ret])
            go_ret2
            refine ⟨?_, HB5.out⟩
            rw [HSK.out]; rfl
          | false =>
            rw [hq] at HSK HLK
            clear hq
            go_wp2
            go_quiet (fail)
            go_wp2_with (go_at_call 82; refine (HLK.out _ (HBFQ.out nq) (HBOQ.out nq) (HTQ.out nq)).mono ?_; rintro e w5 ⟨rfl, hb5⟩; have HB5 := Aside0.mk ((HBQ.out nq).trans (hb5.mono (HBQ.out nq).size)); have HBO5 := Aside0.mk ((HBOQ.out nq).below hb5); have HBF5 := Aside0.mk (show Boxed w5 w.heap.size 24 (.int .u32 free) from (hb5.block _ (HBFQ.out nq).lt).trans (HBFQ.out nq)); clear hb5)
            go_roundg go
            case measure => omega
            case rel => exact ⟨k + 1, ah, ⟨p0, p1⟩ :: rest, some ap, cl, by omega, rfl, rfl, hahl, hlc, hlm, ⟨HSK.out⟩, HL, HBO5, HBF5, HB5⟩
        case pos =>
          subst hv
          clear hskip
          have hpp : fairFrom free ah (⟨p0, f1, ⟨(mh : Int), (ms : Int)⟩⟩ :: l0.drop (k + 1)) (⟨p0, p1⟩ :: rest) = if hasN (allowsN mh ms free) p1 && !ah.getD p1.toNat false then fairFrom free (ah.set p1.toNat true) (l0.drop (k + 1)) rest else false := by
            rw [fairFrom, if_pos rfl]; rfl
          have hfin := HFR.out.trans hpp
          have hcf2 := HBFA.out.cell
          have hha := Has_val (allowsN mh ms free) (by have := allowsN_lt mh ms free; omega) p1
          have HFIN := Aside0.mk hfin
          have hvb : (p0 != p0) = false := by simp
          clear hpp hfin HFR HLK
          cases hb : hasN (allowsN mh ms free) p1 with
          | false =>
            rw [hb] at hha HFIN
            have HHA := Aside0.mk hha
            clear hb hha
            go_wp2
            go_quiet (fail)
            go_wp2_with (first
              | (go_at_call 22; refine (mask_Allows.calls 2 mh ms free _ _ HAL.out).mono ?_; rintro e w5 ⟨rfl, hb5⟩; have HB5 := Aside0.mk ((HBQ.out nq).trans (hb5.mono (HBQ.out nq).size)); clear hb5)
              | (go_at_call 21; refine (cpuset_Has.calls (allowsN mh ms free) p1 false _ HHA.out).mono ?_; rintro e w6 ⟨rfl, ⟨nd, rfl⟩⟩))
            (try rw [Exit.noGoto_ret])
            go_ret2
            refine ⟨?_, below_at rfl HB5.out⟩
            rw [HFIN.out]; rfl
          | true =>
            have hb' := hb
            unfold hasN at hb'
            simp only [Bool.and_eq_true, decide_eq_true_eq] at hb'
            obtain ⟨⟨hp10, hp18⟩, _⟩ := hb'
            obtain ⟨dd, rfl⟩ : ∃ m : Nat, p1 = m := ⟨p1.toNat, by omega⟩
            rw [hb] at hha HFIN
            have HHA := Aside0.mk hha
            have hd8 : dd < 8 := by omega
            rw [Int.toNat_natCast] at HFIN
            clear hb hha
            cases hq : ah.getD dd false with
            | true =>
              rw [hq] at HFIN
              have hcq := fun n => (HBOQ.out n).cell dd (by omega)
              rw [hq] at hcq
              have HCQ := Aside0.mk hq
              clear hq hcq
              go_wp2
              go_quiet (fail)
              go_wp2_with (first
                | (go_at_call 22; refine (mask_Allows.calls 2 mh ms free _ _ HAL.out).mono ?_; rintro e w5 ⟨rfl, hb5⟩; have HB5 := Aside0.mk ((HBQ.out nq).trans (hb5.mono (HBQ.out nq).size)); have hcell := ((HBOQ.out nq).below hb5).cell dd (by omega); rw [HCQ.out] at hcell; clear hb5)
                | (go_at_call 21; refine (cpuset_Has.calls (allowsN mh ms free) dd true _ HHA.out).mono ?_; rintro e w6 ⟨rfl, ⟨nd, rfl⟩⟩))
              (try rw [Exit.noGoto_ret])
              go_ret2
              refine ⟨?_, below_at rfl HB5.out⟩
              rw [HFIN.out]; rfl
            | false =>
              rw [hq] at HFIN
              have HCQ := Aside0.mk hq
              clear hq
              obtain ⟨i1, hi1, _, hsz1, _⟩ := info_parts info31
              have hcut := cut_from (P := Tryd.prog) 26 31 .i64 Tryd.underlying26 hi1 2 hsz1 (some ap) (rest.length + 1) cl 1 (by omega) (by omega)
              rw [show ((1 : Int)).toNat = 1 from rfl, Nat.add_sub_cancel] at hcut
              have hCd := Kd.C_drop (m := 1) (c := cl) HL.out (by rw [List.length_cons]; omega) (by rw [List.length_cons]; omega)
              obtain ⟨A3, hA3⟩ : ∃ A3, A3 = (if cl = 1 then some ap else (some ap : Option Addr).map (·.add (1 * 2))) := ⟨_, rfl⟩
              rw [← hA3] at hcut
              replace hCd : Kd.C k31 w A3 rest.length rest := by rw [hA3]; exact hCd
              have HCD := Aside0.mk hCd
              clear hCd hA3 hi1 hsz1
              go_wp2
              go_quiet (fail)
              go_wp2_with (first
                | (go_at_call 22; refine (mask_Allows.calls 2 mh ms free _ _ HAL.out).mono ?_; rintro e w5 ⟨rfl, hb5⟩; have HB5 := Aside0.mk ((HBQ.out nq).trans (hb5.mono (HBQ.out nq).size)); have hcell := ((HBOQ.out nq).below hb5).cell dd (by omega); rw [HCQ.out] at hcell; have hfrz := ((HBOQ.out nq).below hb5).frozen dd; have HBO5 := Aside0.mk ((HBOQ.out nq).below hb5); have HBF5 := Aside0.mk (show Boxed w5 w.heap.size 24 (.int .u32 free) from (hb5.block _ (HBFQ.out nq).lt).trans (HBFQ.out nq)); clear hb5)
                | (go_at_call 21; refine (cpuset_Has.calls (allowsN mh ms free) dd true _ HHA.out).mono ?_; rintro e w6 ⟨rfl, ⟨nd, rfl⟩⟩))
              generalize hw6 : w5.drewN nd = w6
              have HB6 := Aside0.mk (below_at hw6 HB5.out)
              have HBO6 := Aside0.mk (show Bools w6 nb 115 ah from blk_at hw6 HBO5.out)
              have HBF6 := Aside0.mk (show Boxed w6 w.heap.size 24 (.int .u32 free) from blk_at hw6 HBF5.out)
              have hcell6 := HBO6.out.cell dd (by omega)
              rw [HCQ.out] at hcell6
              have hfrz6 := HBO6.out.frozen dd
              clear hw6 hcell hfrz HBO5 HBF5 HB5
              go_region
              all_goals go_wp2
              all_goals go_roundg go
              all_goals first
                | (case measure => omega)
                | (case rel =>
                    have g1 : rest.length ≤ cl - 1 := by rw [List.length_cons] at hlc; omega
                    have g2 : rest.length ≤ 1000000 := by rw [List.length_cons] at hlm; omega
                    have g3 : w.heap.size ≠ nb := by have := HS1.out.2; omega
                    have g4 : Below w.heap.size w (w6.setCell ⟨nb, dd, none⟩ (.bool true)) := HB6.out.setCell (p := ⟨nb, dd, none⟩) HS1.out.1 _
                    exact ⟨k + 1, ah.set dd true, rest, A3, cl - 1, by omega, rfl, rfl, by simpa using hahl, g1, g2, ⟨HFIN.out⟩, HCD, ⟨show Bools (w6.setCell ⟨nb, dd, none⟩ (.bool true)) nb 115 _ from HBO6.out.set dd true⟩, ⟨show Boxed (w6.setCell ⟨nb, dd, none⟩ (.bool true)) w.heap.size _ _ from blk_far HBF6.out g3 _⟩, ⟨below_drew g4⟩⟩)
theorem fair_lt {l : List S36} {a : Int} (h : askedOf l a = 0) : a < 256 := by
  unfold askedOf at h
  split at h
  · next hc => exact absurd h hc
  · split at h
    · assumption
    · cases h
theorem place_Fair.calls (A0 : Option Addr) (c0 : Nat) (l0 : List (S36)) (a1 : Int) (A2 : Option Addr) (c2 : Nat) (l2 : List (S31)) (r1 : Bool) (r2 : Int) (w : World) (hr0 : Kd.C k36 w A0 l0.length l0) (hc0 : l0.length ≤ c0) (hr2 : Kd.C k31 w A2 l2.length l2) (hc2 : l2.length ≤ c2) (hT : TabW w) (h : place_Fair.f l0 a1 l2 = some (r1, r2)) :
    Calls Tryd.prog 44 #[.slice A0 l0.length c0, .int .u32 a1, .slice A2 l2.length c2] w fun e w' => e = .returned (.tuple #[.bool r1, .int .i64 r2]) ∧ Below w.heap.size w w' := by
  unfold place_Fair.f at h
  by_cases hok : okFair l0 a1 l2
  case neg => rw [if_neg hok] at h; cases h
  rw [if_pos hok] at h
  replace h := Option.some.inj h
  by_cases h0 : askedOf l0 a1 = 0
  · rw [if_pos h0] at h
    injection h with e1 e2
    subst e1 e2
    have hf := fair_lt h0
    obtain ⟨free, rfl⟩ : ∃ n : Nat, a1 = n := ⟨a1.toNat, by have := hok.1.2.2.1; omega⟩
    exact fair_yes A0 c0 l0 free A2 c2 l2 w hr0 hc0 hr2 hc2 hok h0 (by omega) hT
  · rw [if_neg h0] at h
    injection h with e1 e2
    subst e1 e2
    exact fair_no A0 c0 l0 a1 A2 c2 l2 w hr0 hc0 hok.1 h0
#print axioms place_Fair.calls
end Go.Proofs.YtdmieaidheelbaaDoor.Q
