/- Texts of the proof of PickPicks, joined. -/
import Derived.WalkMore
import Derived.BigQuiet
import Derived.Deep.QuietTactic
import Derived.Maps.Own
import Derived.Test.YtdmieaidheelbaaDoorPkPickPicksd
/- RefError -/
section
/- mainsheetref19.Error by its contract: it answers as pick.Check does. -/
namespace Go.Proofs.YtdmieaidheelbaaDoor.Q
open Go Go.RowKit Go.Proofs.YtdmieaidheelbaaDoorW.PrintWords Go.Proofs.YtdmieaidheelbaaDoorW.PrintLast Go.Proofs.YtdmieaidheelbaaDoorW.PrintMore
set_option linter.unusedVariables false
set_option linter.unusedSimpArgs false

def mainsheetref19_Error.f (l0 : List Ent) (l1 : List S36) : Option Int := if okPick l0 l1 then some (pickCheck l0 l1) else none
def MetAll (met : List Bool) (all : List Int) : Prop := met.length = 17 ∧ (∀ c ∈ all, 1 ≤ c ∧ c ≤ 16) ∧ ∀ c, 0 ≤ c → met.getD c.toNat false = decide (c ∈ all)
theorem MetAll.nil : MetAll met0 [] := ⟨by simp [met0], by simp, fun c _ => by have := at17_met0 c; unfold at17 at this; rw [this]; simp⟩
theorem MetAll.snoc {met : List Bool} {all : List Int} (h : MetAll met all) (v : Int) (h1 : 1 ≤ v) (h2 : v ≤ 16) : MetAll (met.set v.toNat true) (all ++ [v]) := by
  obtain ⟨a, b, c⟩ := h
  refine ⟨by simpa using a, fun x hx => ?_, fun x hx => ?_⟩
  · rcases List.mem_append.1 hx with hx | hx
    · exact b x hx
    · obtain rfl := List.mem_singleton.1 hx; exact ⟨h1, h2⟩
  · have := at17_set met a v h1 h2 x hx
    unfold at17 at this
    rw [this, c x hx]
    simp
theorem slice_own {W : World} {base n : Nat} {v : Value} {xs : List Int} (hn : xs.length = n) (h : W.ownsRow base 3 1 v n (xs.map (Value.int .i64))) : ∃ A c, v = .slice A n c ∧ n ≤ c ∧ Kd.C (Kd.int .i64) W A xs.length xs := by
  subst hn
  obtain ⟨A, c, e, h1, h2⟩ := Kd.R_reads (Kd.R_of_own h (fun _ _ => trivial))
  exact ⟨A, c, e, h1, h2⟩

theorem row_ge {w : World} {base : Nat} {e : TypeId} {size : Nat} {v : Value} {n : Nat} {xs : List Value} (h : w.ownsRow base e size v n xs) : ∀ k, v.ownBlock = some k → base ≤ k := by
  intro k hk
  rcases h.2 with ⟨rfl, _⟩ | ⟨g, cap, cur, rfl, hg, _⟩
  · cases hk
  · simp only [Value.ownBlock, Option.some.injEq] at hk; omega
theorem has_call (k : Nat) (A : Option Addr) (c : Nat) (xs : List Int) (n : Nat) (v : Int) (r : Bool) (w : World) (hn : xs.length = n) (hC : Kd.C (Kd.int .i64) w A n xs) (hc : n ≤ c) (h : mainsheetref19_has.f k xs v = some r) :
    Calls Tryd.prog 83 #[.slice A n c, .int .i64 v] w fun e w' => e = .returned (.bool r) ∧ ∃ m, w' = w.drewN m := by
  subst hn
  exact (mainsheetref19_has.calls k A c xs v r w hC hc h).mono fun _ _ h => ⟨h.1, h.2.out⟩
set_option maxRecDepth 100000 in
set_option maxHeartbeats 20000000 in
theorem mainsheetref19_Error.calls (A0 : Option Addr) (c0 : Nat) (l0 : List Ent) (A1 : Option Addr) (c1 : Nat) (l1 : List (S36)) (r : Int) (w : World) (hr0 : Kd.C k90 w A0 l0.length l0) (hc0 : l0.length ≤ c0) (hr1 : Kd.C k36 w A1 l1.length l1) (hc1 : l1.length ≤ c1) (h : mainsheetref19_Error.f l0 l1 = some r) :
    Calls Tryd.prog 49 #[.slice A0 l0.length c0, .slice A1 l1.length c1] w fun e w' => e = .returned (.int .i64 r) ∧ Below w.heap.size w w' := by
  unfold mainsheetref19_Error.f at h
  by_cases hok : okPick l0 l1
  case neg => rw [if_neg hok] at h; cases h
  rw [if_pos hok] at h
  have hR := Aside0.mk (Option.some.inj h)
  clear h
  obtain ⟨hwf, hl1m, hl0m⟩ := hok
  obtain ⟨K13, hK13⟩ := Right13_val l1 hl1m hwf
  have H13 := Aside0.mk (hK13 K13 (Nat.le_refl _))
  have hu36 := Tryd.underlying36
  have hu90 := Tryd.underlying90
  have HR0 := Aside0.mk hr0
  have HR1 := Aside0.mk hr1
  have HC0 := Aside0.mk hc0
  have HC1 := Aside0.mk hc1
  obtain ⟨i0, hi, hz0, hz1, hz2⟩ := info_parts infoInt
  clear hr0 hwf hc0 hr1 hc1 hK13
  go_enter Tryd.func49, Tryd.ntmps49
  go_wp2
  go_loopw [5, 6] (fun s5 s6 wr => ∃ (k n : Nat) (met : List Bool) (all : List Int), k ≤ l0.length ∧ s6 = .int .i64 k ∧ n ≤ 8 * k ∧ Aside0 (all.length = n) ∧ Aside0 (pickEnd l1 (checkEnts met n (l0.drop k)) = r) ∧ Aside0 (MetAll met all) ∧ Aside0 (wr.ownsRow w.heap.size 3 1 s5 n (all.map (Value.int .i64))) ∧ Aside0 (Below w.heap.size w wr))
    (fun _ s6 _ => l0.length - (intOf s6).toNat)
  case atStart => exact ⟨0, 0, met0, [], Nat.zero_le _, rfl, Nat.zero_le _, ⟨rfl⟩, hR, ⟨MetAll.nil⟩, ⟨World.ownsRow_nil _ _ _ _⟩, ⟨Below.refl _ w⟩⟩
  case round =>
    obtain ⟨k, n, met, all, hk, rfl, hn, HN, HA, HMA, HROW, HB⟩ := hrel
    clear hR
    generalize u5 = ov at *
    by_cases hlt : k < l0.length
    case neg =>
      obtain rfl : k = l0.length := by omega
      have ha := HA.out
      rw [List.drop_length, checkEnts] at ha
      have HAA : Aside0 ((if checkWs met none l1 then (if l1.length = n then placeChk l1 else 290) else 290) = r) := ⟨ha⟩
      obtain ⟨Ao, co, rfl, hco, hCo⟩ := slice_own HN.out HROW.out
      have HCO := Aside0.mk hco
      have HCA := Aside0.mk hCo
      clear ha HA hlt HR0 hu90 hCo hco HROW
      by_cases hln : l1.length = n
      case neg =>
        obtain rfl : r = 290 := by
          rw [← HAA.out]
          by_cases hc : checkWs met none l1 = true
          · rw [if_pos hc, if_neg hln]
          · rw [if_neg hc]
        have hne : ((l1.length : Int) != (n : Int)) = true := by rw [bne_iff_ne]; omega
        clear hln HAA
        go_wp2
        go_ret
        exact ⟨rfl, HB.out⟩
      case pos =>
        have HLN := Aside0.mk hln
        have hne : ((l1.length : Int) != (n : Int)) = false := by rw [hln]; simp
        have HBR := Aside0.mk (Below.refl wr.heap.size wr)
        clear hln
        go_wp2
        go_loopw [9] (fun s9 wi => ∃ (j : Nat), j ≤ l1.length ∧ s9 = .int .i64 j ∧ Aside0 (checkWs met (prevW l1 j) (l1.drop j) = checkWs met none l1) ∧ Aside0 (Below wr.heap.size wr wi))
          (fun s9 _ => l1.length - (intOf s9).toNat)
        case atStart => exact ⟨0, Nat.zero_le _, rfl, ⟨rfl⟩, HBR⟩
        case round =>
          obtain ⟨j, hj, rfl, HWS, HB1⟩ := hrel
          clear HBR
          by_cases hjl : j < l1.length
          case neg =>
            have hws := HWS.out
            rw [List.drop_eq_nil_of_le (by omega), checkWs] at hws
            obtain rfl : j = l1.length := by omega
            have haa := HAA.out
            rw [← hws, if_pos rfl, if_pos HLN.out] at haa
            clear hjl HWS HAA hws
            rcases check_cases l1 met0 (List.replicate 8 false) with hp | hp
            · have hv : mainsheetref13_Right.f K13 l1 = some true := H13.out.trans (by rw [show placeOk l1 = 0 from hp]; rfl)
              have HV := Aside0.mk hv
              obtain rfl : r = 0 := by rw [← haa]; exact hp
              clear haa hp hv
              go_wp2_with (go_at_call 38; refine (mainsheetref13_Right.calls K13 A1 c1 l1 true _ (Kd.C_below HR1.out (below_step HB.out HB1.out)) HC1.out HV.out).mono ?_; rintro e w5 ⟨rfl, hb5⟩; have HB5 := Aside0.mk (below_step (below_step HB.out HB1.out) hb5); clear hb5)
              go_ret
              exact ⟨rfl, HB5.out⟩
            · have hv : mainsheetref13_Right.f K13 l1 = some false := H13.out.trans (by rw [show placeOk l1 = 230 from hp]; rfl)
              have HV := Aside0.mk hv
              obtain rfl : r = 230 := by rw [← haa]; exact hp
              clear haa hp hv
              go_wp2_with (go_at_call 38; refine (mainsheetref13_Right.calls K13 A1 c1 l1 false _ (Kd.C_below HR1.out (below_step HB.out HB1.out)) HC1.out HV.out).mono ?_; rintro e w5 ⟨rfl, hb5⟩; have HB5 := Aside0.mk (below_step (below_step HB.out HB1.out) hb5); clear hb5)
              go_ret
              exact ⟨rfl, HB5.out⟩
          case pos =>
            obtain ⟨ad, rfl, hx0, hx1, hx2, hx3⟩ := at_T36 (Kd.C_below HR1.out (below_step HB.out HB1.out)) (j : Int) (by omega) (by omega)
            rw [Int.toNat_natCast] at hx0 hx1 hx2 hx3
            have hws := ws_step met l1 j hjl
            rw [HWS.out] at hws
            have hbad : badW met (prevW l1 j) (rd_T36 l1 (j : Int)).f0 = true → r = 290 := fun hb => by
              rw [← HAA.out, hws, if_pos hb]; rfl
            have HBAD := Aside0.mk hbad
            have HSTEP := Aside0.mk hws
            have hprev : ∀ m : Nat, j = m + 1 → wr.cell? (ad.add (m * 4)) = some (.int .i64 (rd_T36 l1 m).f0) := fun m e => by
              obtain ⟨ad2, e2, hv1, _⟩ := at_T36 (Kd.C_below HR1.out (below_step HB.out HB1.out)) (m : Int) (by omega) (by omega)
              injection e2 with e2
              subst e2
              rw [Int.toNat_natCast] at hv1
              exact hv1
            have hpv : ∀ m : Nat, j = m + 1 → prevW l1 j = some (rd_T36 l1 m).f0 := fun m e => by unfold prevW; rw [if_neg (by omega), e]; rfl
            have hp0 : j = 0 → prevW l1 j = none := fun e => by unfold prevW; rw [if_pos e]
            have HPREV := Aside0.mk hprev
            have HPV := Aside0.mk hpv
            have HP0 := Aside0.mk hp0
            clear hws hbad hprev hpv hp0
            generalize rd_T36 l1 (j : Int) = x at *
            obtain ⟨v, f1, ⟨mh, ms⟩⟩ := x
            simp only at hx0 hx1 hx2 hx3
            have hln' : all.length ≤ 1000000 := by have := HN.out; have := HLN.out; omega
            have hhas := has19_val all v (by omega) (all.length + 1) (by omega)
            have hCA : Kd.C (Kd.int .i64) wr Ao n all := by have := Kd.C_below HCA.out HB1.out; rw [HN.out] at this; exact this
            have HCAR := Aside0.mk hCA
            have hlen := HN.out
            clear hCA hln'
            cases hq : decide (v ∈ all) with
            | false =>
              rw [hq] at hhas
              have HHS := Aside0.mk hhas
              obtain rfl : r = 290 := HBAD.out (by
                unfold badW
                by_cases h1 : v < 1
                · simp [h1]
                · rw [HMA.out.2.2 v (by omega), hq]; simp)
              clear hhas hq
              have hb1 := HB1.out
              have HBB := Aside0.mk (below_step HB.out HB1.out)
              clear hb1
              go_wp2
              go_quiet ((go_at_call 83; exact Calls.quiet_of (has_call (all.length + 1) Ao co all n v false _ hlen (Kd.C_drewN HCAR.out _) HCO.out HHS.out)))
              go_wp2
              go_ret
              exact ⟨rfl, pw_below_drewN HBB.out nq⟩
            | true =>
              rw [hq] at hhas
              have HHS := Aside0.mk hhas
              have hrg := HMA.out.2.1 v (of_decide_eq_true hq)
              have hmet := HMA.out.2.2 v (by omega)
              rw [hq] at hmet
              have hfin : low (prevW l1 j) v = false → Aside0 (checkWs met (prevW l1 (j + 1)) (l1.drop (j + 1)) = checkWs met none l1) := fun hl => ⟨by
                rw [HSTEP.out, if_neg (by
                  unfold badW
                  have a1 : ¬ (v < 1) := by omega
                  have a2 : ¬ (16 < v) := by omega
                  simp only [hmet, a1, a2, hl, decide_false, Bool.or_false, Bool.not_true]; decide)]⟩
              have HFIN := Aside0.mk hfin
              have hbad4 : low (prevW l1 j) v = true → r = 290 := fun hl => HBAD.out (by unfold badW; simp only [hl, Bool.or_true])
              have HBAD4 := Aside0.mk hbad4
              have HBB := Aside0.mk (below_step HB.out HB1.out)
              clear hhas hq hmet hfin hbad4 hrg
              cases j with
              | zero =>
                have HF := HFIN.out (by rw [HP0.out rfl]; rfl)
                have ea : ad.add (0 * 4) = ad := by unfold Addr.add; simp
                rw [ea] at hx0 hx1 hx2 hx3
                clear ea
                go_wp2
                go_quiet ((go_at_call 83; exact Calls.quiet_of (has_call (all.length + 1) Ao co all n v true _ hlen (Kd.C_drewN HCAR.out _) HCO.out HHS.out)))
                go_wp2
                go_roundw
                case measure => simp only [intOf]; omega
                case rel => exact ⟨1, by omega, rfl, HF, ⟨pw_below_drewN HB1.out nq⟩⟩
              | succ m =>
                have hpc := HPREV.out m rfl
                have hpe := HPV.out m rfl
                have HPE := Aside0.mk hpe
                clear hpe
                generalize (rd_T36 l1 (m : Int)).f0 = u at *
                have hj1 : decide ((0 : Int) < (m : Int) + 1) = true := decide_eq_true (by omega)
                have hj2 : IntKind.i64.wrap ((m : Int) + 1 - 1) = (m : Int) := by rw [IntWalk.i64_in _ (by omega)]; omega
                by_cases d5 : v ≤ u
                · obtain rfl := HBAD4.out (by rw [HPE.out]; unfold low; simp only [d5, decide_true])
                  go_wp2
                  go_quiet ((go_at_call 83; exact Calls.quiet_of (has_call (all.length + 1) Ao co all n v true _ hlen (Kd.C_drewN HCAR.out _) HCO.out HHS.out)))
                  go_wp2
                  go_ret
                  exact ⟨rfl, pw_below_drewN HBB.out nq⟩
                · have HF := HFIN.out (by rw [HPE.out]; unfold low; simp only [d5, decide_false])
                  have hd5 : decide (v ≤ u) = false := decide_eq_false d5
                  clear d5
                  go_wp2
                  go_quiet ((go_at_call 83; exact Calls.quiet_of (has_call (all.length + 1) Ao co all n v true _ hlen (Kd.C_drewN HCAR.out _) HCO.out HHS.out)))
                  go_wp2
                  go_roundw
                  case measure => simp only [intOf]; omega
                  case rel => exact ⟨m + 1 + 1, by omega, by go_num, HF, ⟨pw_below_drewN HB1.out nq⟩⟩
    case pos =>
      obtain ⟨ad, Am, cm, rfl, hx0, hx1, hx2, hx3, hx4, hx5, hcm, hCm⟩ := at_T90 HR0.out (k : Int) (by omega) (by omega)
      rw [Int.toNat_natCast] at hx0
      replace hx0 := pw_cell_below HB.out hx0
      have hst := ents_step met n l0 k hlt
      clear hx1 hx2 hx3 hx4 hx5
      generalize rd_T90 l0 (k : Int) = x at *
      obtain ⟨ms, t123, t4, t5⟩ := x
      simp only at hx0 hcm hCm hst
      by_cases c1 : ms.length < 1
      · obtain rfl : r = 290 := by rw [← HA.out, hst, if_pos (.inl c1)]; rfl
        clear hst HA
        go_wp2
        go_ret
        exact ⟨rfl, HB.out⟩
      by_cases c2 : 8 < ms.length
      · obtain rfl : r = 290 := by rw [← HA.out, hst, if_pos (.inr c2)]; rfl
        clear hst HA
        go_wp2
        go_ret
        exact ⟨rfl, HB.out⟩
      rw [if_neg (by omega)] at hst
      have HST := Aside0.mk hst
      have HCM := Aside0.mk hCm
      have HCC := Aside0.mk hcm
      have HROW0 := HROW
      have HB0 := HB
      have HN0 := HN
      have HMA0 := HMA
      clear hst hCm HROW HB HN HMA
      go_wp2
      clear hx0
      go_loopw [5, 8] (fun s5 s8 wi => ∃ (j : Nat) (met1 : List Bool) (all1 : List Int), j ≤ ms.length ∧ s8 = .int .i64 j ∧ Aside0 (all1.length = n + j) ∧ Aside0 (checkMems met1 (prevAt ms j) (ms.drop j) = checkMems met none ms) ∧ Aside0 (MetAll met1 all1) ∧ Aside0 (wi.ownsRow w.heap.size 3 1 s5 (n + j) (all1.map (Value.int .i64))) ∧ Aside0 (Below w.heap.size w wi))
        (fun _ s8 _ => ms.length - (intOf s8).toNat)
      case atStart => exact ⟨0, met, all, Nat.zero_le _, rfl, HN0, ⟨rfl⟩, HMA0, HROW0, HB0⟩
      case round =>
        obtain ⟨j, met1, all1, hj, rfl, HN1, HMS, HM1, HROW1, HB1⟩ := hrel
        clear HROW0 HB0 HN0 HMA0
        generalize u5 = ow at *
        by_cases hjl : j < ms.length
        case neg =>
          obtain rfl : j = ms.length := by omega
          have hms := HMS.out
          rw [List.drop_length, checkMems] at hms
          have hst2 := HST.out
          rw [← hms] at hst2
          simp only at hst2
          have hnew : pickEnd l1 (checkEnts met1 (n + ms.length) (l0.drop (k + 1))) = r := by rw [← HA.out, hst2]
          have HNEW := Aside0.mk hnew
          clear hms hst2 hnew HA HST HMS
          go_wp2
          go_roundw
          case measure => simp only [intOf]; omega
          case rel => exact ⟨k + 1, n + ms.length, met1, all1, by omega, rfl, by omega, HN1, HNEW, HM1, HROW1, HB1⟩
        case pos =>
          obtain ⟨ai, rfl, hv0⟩ := Kd.at_int (Kd.C_below HCM.out HB1.out) (j : Int) (by omega) (by omega)
          rw [Int.toNat_natCast] at hv0
          have hms := mems_step met1 ms j hjl
          rw [HMS.out] at hms
          have hbad : badMem met1 (prevAt ms j) (rd ms j) = true → r = 290 := fun hb => by
            rw [← HA.out, HST.out, hms, if_pos hb]; rfl
          have HBAD := Aside0.mk hbad
          have HSTEP := Aside0.mk hms
          have hprev : ∀ m : Nat, j = m + 1 → wr.cell? (ai.add m) = some (.int .i64 (rd ms m)) := fun m e => by
            obtain ⟨ai2, e2, hv1⟩ := Kd.at_int (Kd.C_below HCM.out HB1.out) (m : Int) (by omega) (by omega)
            injection e2 with e2
            subst e2
            rw [Int.toNat_natCast] at hv1
            exact hv1
          have hpv : ∀ m : Nat, j = m + 1 → prevAt ms j = some (rd ms m) := fun m e => by unfold prevAt; rw [if_neg (by omega), e]; rfl
          have hp0 : j = 0 → prevAt ms j = none := fun e => by unfold prevAt; rw [if_pos e]
          have HPREV := Aside0.mk hprev
          have HPV := Aside0.mk hpv
          have HP0 := Aside0.mk hp0
          obtain ⟨Ao, co, rfl, hco, hCo⟩ := slice_own HN1.out HROW1.out
          have HCO := Aside0.mk hco
          have hlen := HN1.out
          have hCA : Kd.C (Kd.int .i64) wr Ao (n + j) all1 := by rw [hlen] at hCo; exact hCo
          have HCAR := Aside0.mk hCA
          clear hms hbad hprev hpv hp0 hco hCo hCA
          generalize rd ms (j : Int) = v at *
          have hall : all1.length ≤ 9000000 := by omega
          by_cases d1 : v < 1
          · obtain rfl := HBAD.out (by unfold badMem; simp only [d1, decide_true, Bool.true_or])
            go_wp2
            go_quiet (fail)
            go_wp2
            go_ret
            exact ⟨rfl, pw_below_drewN HB1.out nq⟩
          have hd1 : decide (v < 1) = false := decide_eq_false d1
          by_cases d2 : 16 < v
          · obtain rfl := HBAD.out (by unfold badMem; simp only [d2, decide_true, Bool.true_or, Bool.or_true])
            have hd2 : decide (16 < v) = true := decide_eq_true d2
            go_wp2
            go_quiet (fail)
            go_wp2
            go_ret
            exact ⟨rfl, pw_below_drewN HB1.out nq⟩
          have hd2 : decide (16 < v) = false := decide_eq_false d2
          have hhas := has19_val all1 v hall (all1.length + 1) (by omega)
          have hmet := HM1.out.2.2 v (by omega)
          have hfin : v ∉ all1 → low (prevAt ms j) v = false → Aside0 (checkMems (met1.set v.toNat true) (prevAt ms (j + 1)) (ms.drop (j + 1)) = checkMems met none ms) := fun hv hl => ⟨by
            rw [HSTEP.out, if_neg (by
              unfold badMem
              simp only [hmet, hd1, hd2, hl, decide_eq_false hv]; decide)]⟩
          have HFIN := Aside0.mk hfin
          have hbad4 : low (prevAt ms j) v = true → r = 290 := fun hl => HBAD.out (by unfold badMem; simp only [hl, Bool.or_true])
          have HBAD4 := Aside0.mk hbad4
          have hbad5 : v ∈ all1 → r = 290 := fun hv => HBAD.out (by unfold badMem; simp only [hmet, decide_eq_true hv, Bool.or_true, Bool.true_or])
          have HBAD5 := Aside0.mk hbad5
          have HSN := Aside0.mk (HM1.out.snoc v (by omega) (by omega))
          have hmp : (all1 ++ [v]).map (Value.int .i64) = all1.map (Value.int .i64) ++ [.int .i64 v] := by simp
          have HMP := Aside0.mk hmp
          have HAL := Aside0.mk hall
          clear hfin hbad4 hbad5 hmet hmp hall d1 d2
          cases j with
          | zero =>
            have ea : ai.add 0 = ai := by unfold Addr.add; simp
            rw [ea] at hv0
            clear ea
            by_cases hq : v ∈ all1
            · obtain rfl := HBAD5.out hq
              rw [decide_eq_true hq] at hhas
              have HHS := Aside0.mk hhas
              clear hhas
              go_wp2
              go_quiet ((go_at_call 83; exact Calls.quiet_of (has_call (all1.length + 1) Ao co all1 (n + 0) v true _ hlen (Kd.C_drewN HCAR.out _) HCO.out HHS.out)))
              go_wp2
              go_ret
              exact ⟨rfl, pw_below_drewN HB1.out nq⟩
            · have HF := HFIN.out hq (by rw [HP0.out rfl]; rfl)
              rw [decide_eq_false hq] at hhas
              have HHS := Aside0.mk hhas
              clear hhas
              go_wp2
              go_quiet ((go_at_call 83; exact Calls.quiet_of (has_call (all1.length + 1) Ao co all1 (n + 0) v false _ hlen (Kd.C_drewN HCAR.out _) HCO.out HHS.out)))
              generalize hwq : wr.drewN nq = wq
              have HRQ := Aside0.mk (show wq.ownsRow w.heap.size 3 1 (.slice Ao (n + 0) co) (n + 0) (all1.map (Value.int .i64)) from hwq ▸ pw_own_drewN HROW1.out nq)
              have HBQ := Aside0.mk (below_at hwq HB1.out)
              have hcv : wq.cell? ai = some (.int .i64 v) := by rw [← hwq]; exact hv0
              clear hwq
              go_wp2_with (at_builtin; refine wpList_append_own _ rfl _ _ 42 rfl w.heap.size 3 i0 (.int .i64 0) 1 8 Tryd.underlying42 hi hz0 hz1 hz2 rfl (by decide) _ _ _ rfl (HRQ.out.alloc _) ⟨wq.heap.size, 0, none⟩ 1 1 [.int .i64 v] rfl rfl (cell_one_new wq (.int .i64 v) 3) (by simp [Value.oneCell']) (by unfold maxLen; omega) (by omega) (by have := HBQ.out.size; simp; omega) ?_; intro v' w6 hown' hgrow' _; have HOWN := Aside0.mk hown'; have HGROW := Aside0.mk hgrow'; clear hown' hgrow')
              go_roundw
              case measure => simp only [intOf]; omega
              case rel => exact ⟨1, met1.set v.toNat true, all1 ++ [v], by omega, by go_num, ⟨by rw [List.length_append, HN1.out]; rfl⟩, HF, HSN, ⟨by rw [HMP.out]; exact HOWN.out⟩, ⟨(HBQ.out.alloc (by have := HBQ.out.size; omega) _).grown HGROW.out (by have := HBQ.out.size; simp; omega) (row_ge HRQ.out)⟩⟩
          | succ m =>
            have hpc := HPREV.out m rfl
            have hpe := HPV.out m rfl
            have ea : ai.add (m + 1) = ⟨ai.block, ai.off + (m + 1), none⟩ := by unfold Addr.add; simp
            rw [ea] at hv0
            clear ea
            have HPE := Aside0.mk hpe
            clear hpe
            generalize rd ms (m : Int) = u at *
            have hj1 : decide ((0 : Int) < (m : Int) + 1) = true := decide_eq_true (by omega)
            have hj2 : IntKind.i64.wrap ((m : Int) + 1 - 1) = (m : Int) := by rw [IntWalk.i64_in _ (by omega)]; omega
            by_cases d5 : v ≤ u
            · obtain rfl := HBAD4.out (by rw [HPE.out]; unfold low; simp only [d5, decide_true])
              have hd5 : decide (v ≤ u) = true := decide_eq_true d5
              go_wp2
              go_quiet (fail)
              go_wp2
              go_ret
              exact ⟨rfl, pw_below_drewN HB1.out nq⟩
            · have hd5 : decide (v ≤ u) = false := decide_eq_false d5
              by_cases hq : v ∈ all1
              · obtain rfl := HBAD5.out hq
                rw [decide_eq_true hq] at hhas
                have HHS := Aside0.mk hhas
                clear hhas d5
                go_wp2
                go_quiet ((go_at_call 83; exact Calls.quiet_of (has_call (all1.length + 1) Ao co all1 (n + (m + 1)) v true _ hlen (Kd.C_drewN HCAR.out _) HCO.out HHS.out)))
                go_wp2
                go_ret
                exact ⟨rfl, pw_below_drewN HB1.out nq⟩
              · have HF := HFIN.out hq (by rw [HPE.out]; unfold low; simp only [d5, decide_false])
                rw [decide_eq_false hq] at hhas
                have HHS := Aside0.mk hhas
                clear hhas d5
                go_wp2
                go_quiet ((go_at_call 83; exact Calls.quiet_of (has_call (all1.length + 1) Ao co all1 (n + (m + 1)) v false _ hlen (Kd.C_drewN HCAR.out _) HCO.out HHS.out)))
                generalize hwq : wr.drewN nq = wq
                have HRQ := Aside0.mk (show wq.ownsRow w.heap.size 3 1 (.slice Ao (n + (m + 1)) co) (n + (m + 1)) (all1.map (Value.int .i64)) from hwq ▸ pw_own_drewN HROW1.out nq)
                have HBQ := Aside0.mk (below_at hwq HB1.out)
                have hcv : wq.cell? ⟨ai.block, ai.off + (m + 1), none⟩ = some (.int .i64 v) := by rw [← hwq]; exact hv0
                clear hwq
                go_wp2_with (at_builtin; refine wpList_append_own _ rfl _ _ 42 rfl w.heap.size 3 i0 (.int .i64 0) 1 8 Tryd.underlying42 hi hz0 hz1 hz2 rfl (by decide) _ _ _ rfl (HRQ.out.alloc _) ⟨wq.heap.size, 0, none⟩ 1 1 [.int .i64 v] rfl rfl (cell_one_new wq (.int .i64 v) 3) (by simp [Value.oneCell']) (by unfold maxLen; omega) (by omega) (by have := HBQ.out.size; simp; omega) ?_; intro v' w6 hown' hgrow' _; have HOWN := Aside0.mk hown'; have HGROW := Aside0.mk hgrow'; clear hown' hgrow')
                go_roundw
                case measure => simp only [intOf]; omega
                case rel => exact ⟨m + 1 + 1, met1.set v.toNat true, all1 ++ [v], by omega, by go_num, ⟨by rw [List.length_append, HN1.out]; rfl⟩, HF, HSN, ⟨by rw [HMP.out]; exact HOWN.out⟩, ⟨(HBQ.out.alloc (by have := HBQ.out.size; omega) _).grown HGROW.out (by have := HBQ.out.size; simp; omega) (row_ge HRQ.out)⟩⟩
end Go.Proofs.YtdmieaidheelbaaDoor.Q
end
/- QFlaw19Askwhy -/
section
namespace Go.Proofs.YtdmieaidheelbaaDoor.Q
open Go.RowKit Go.Proofs.YtdmieaidheelbaaDoorW.PrintWords Go.Proofs.YtdmieaidheelbaaDoorW.PrintLast Go.Proofs.YtdmieaidheelbaaDoorW.PrintMore
attribute [local go_sem] max2_int min2_int max_two min_two max_three min_three max_four min_four
set_option linter.unusedVariables false
set_option linter.unusedSimpArgs false

def mainsheetlaw19_Ask_why.f (l0_0 : List (S90)) (l0_1 : List (S36)) (a0_2 : Int) : Option (Int) := (mainsheetref19_Error.f l0_0 l0_1).bind fun t421 => (if t421 = 0 then ((mainsheetref04_Right.f a0_2).bind fun t422 => (if t422 = true then (some 0) else (some 140))) else (some t421))
set_option maxHeartbeats 8000000 in
set_option maxRecDepth 100000 in
theorem mainsheetlaw19_Ask_why.calls (A0_0 : Option Addr) (c0_0 : Nat) (l0_0 : List (S90)) (A0_1 : Option Addr) (c0_1 : Nat) (l0_1 : List (S36)) (a0_2 : Int) (r : Int) (w : World) (hr0_0 : Kd.C k90 w A0_0 l0_0.length l0_0) (hc0_0 : l0_0.length ≤ c0_0) (hr0_1 : Kd.C k36 w A0_1 l0_1.length l0_1) (hc0_1 : l0_1.length ≤ c0_1) (h : mainsheetlaw19_Ask_why.f l0_0 l0_1 a0_2 = some r) :
  Calls Tryd.prog 33 #[.agg #[.slice A0_0 l0_0.length c0_0, .slice A0_1 l0_1.length c0_1, .int .u32 a0_2]] w fun e w' => e = .returned (.int .i64 r) ∧ Below w.heap.size w w' := by
 have hu41 := Tryd.underlying41
 have HR0_0 := Aside0.mk hr0_0
 have HC0_0 := Aside0.mk hc0_0
 clear hr0_0 hc0_0
 have HR0_1 := Aside0.mk hr0_1
 have HC0_1 := Aside0.mk hc0_1
 clear hr0_1 hc0_1
 have HB := Aside0.mk (Below.refl w.heap.size w)
 have H : ((mainsheetref19_Error.f l0_0 l0_1).bind fun t421 => (if t421 = 0 then ((mainsheetref04_Right.f a0_2).bind fun t422 => (if t422 = true then (some 0) else (some 140))) else (some t421))) = some r := h
 clear h
 replace H := Option.bind_eq_some_iff.mp H
 obtain ⟨t421, A20, H⟩ := H
 replace H : (if t421 = 0 then ((mainsheetref04_Right.f a0_2).bind fun t422 => (if t422 = true then (some 0) else (some 140))) else (some t421)) = some r := H
 have A2 := Aside0.mk A20
 clear A20
 by_cases c3 : t421 = 0
 ·rw [if_pos c3] at H
  have c3b0 : (t421 == 0) = true := beq_iff_eq.mpr c3
  have c3b1 : (t421 != 0) = false := bne_eq_false_iff_eq.mpr c3
  clear c3
  replace H := Option.bind_eq_some_iff.mp H
  obtain ⟨t422, A40, H⟩ := H
  replace H : (if t422 = true then (some 0) else (some 140)) = some r := H
  have A4 := Aside0.mk A40
  clear A40
  by_cases c5 : t422 = true
  ·subst c5
   have H1 : (some 0) = some r := by rw [if_pos rfl] at H; exact H
   clear H
   have H := H1
   clear H1
   obtain rfl := Option.some.inj H
   go_enter Tryd.func33, Tryd.ntmps33
   go_wp2_with (first | ((with_reducible refine gate_dst (N := 1) rfl ?_); refine box_event ?hg (N := 1) ?hd (cs := #[.slice A0_0 l0_0.length c0_0, .slice A0_1 l0_1.length c0_1, .int .u32 a0_2]) (t := 41) ?hr ?_; (case hd => rfl); (case hg => rfl); (case hr => first | (go_simp; done) | (go_simp; rfl)); intro gb420 hg w6 hbox hb; have n0_ := Aside0.mk (below_step (by repeat (first | (with_reducible first | exact HB.out | apply below_alloc | apply pw_below_drewN | apply below_drew1) | exact HB.out)) hb); have n1_ := Aside0.mk (hbox); have n2_ := Aside0.mk ((by rw [hg]; exact (below_size (by repeat (first | (with_reducible first | exact HB.out | apply below_alloc | apply pw_below_drewN | apply below_drew1) | exact HB.out))) : w.heap.size ≤ gb420)); have n3_ := Aside0.mk ((by rw [hg]; exact (below_size (by repeat (first | (with_reducible first | exact HB.out | apply below_alloc | apply pw_below_drewN | apply below_drew1) | exact HB.out))) : w.heap.size ≤ gb420)); clear HB; have HB := n0_; have BK420 := n1_; have GW420 := n2_; have GE420 := n3_; clear n0_ n1_ n2_ n3_; clear hb hbox hg; have hcz7_0 : w6.cell? ⟨gb420, 0, none⟩ = some (.slice A0_0 l0_0.length c0_0) := (blk_cell BK420.out 0).trans rfl; have hcz7_1 : w6.cell? ⟨gb420, 1, none⟩ = some (.slice A0_1 l0_1.length c0_1) := (blk_cell BK420.out 1).trans rfl; have hcz7_2 : w6.cell? ⟨gb420, 2, none⟩ = some (.int .u32 a0_2) := (blk_cell BK420.out 2).trans rfl; have hfz7_0 := blk_frozen BK420.out 0; have hfz7_1 := blk_frozen BK420.out 1; have hfz7_2 := blk_frozen BK420.out 2) | ((with_reducible refine gate_callee (f := 49) rfl ?_); refine goesL_ (some 8) rfl rfl Tryd.func49 (by kernel_rfl) rfl #[.slice A0_0 l0_0.length c0_0, .slice A0_1 l0_1.length c0_1] rfl (by (try simp only [List.map_toArray, List.map_cons, List.map_nil]); first | done | rfl | (simp only [List.length_drop, List.length_take]; rfl)) ?_; (with_reducible refine (mainsheetref19_Error.calls _ _ l0_0 _ _ l0_1 t421 _ ?side1 ?side2 ?side3 ?side4 A2.out).mono ?_); (case side1 => repeat (first | exact (Kd.C_below HR0_0.out HB.out) | (with_reducible refine Kd.C_alloc ?_ _) | (with_reducible refine Kd.C_drewN ?_ _) | (with_reducible refine Kd.C_drew ?_))); (case side2 => exact HC0_0.out); (case side3 => repeat (first | exact (Kd.C_below HR0_1.out HB.out) | (with_reducible refine Kd.C_alloc ?_ _) | (with_reducible refine Kd.C_drewN ?_ _) | (with_reducible refine Kd.C_drew ?_))); (case side4 => exact HC0_1.out); rintro e w8 ⟨rfl, hb⟩; refine ⟨_, rfl, ?_⟩; have n0_ := Aside0.mk (blk_below (g := gb420) (o := .cells #[.slice A0_0 l0_0.length c0_0, .slice A0_1 l0_1.length c0_1, .int .u32 a0_2] 41 (0, 0)) (by (with_reducible repeat (first | refine blk_drewN ?_ _ | refine blk_drew ?_ | refine blk_alloc ?_ _)); exact BK420.out) hb); have n1_ := Aside0.mk (below_step (by repeat (first | (with_reducible first | exact HB.out | apply below_alloc | apply pw_below_drewN | apply below_drew1 | refine below_set ?_ GE420.out) | exact HB.out)) hb); clear BK420; clear HB; have BK420 := n0_; have HB := n1_; clear n0_ n1_; (try clear hb); (try clear hb2); (try clear hk); (try clear hi); have hcz9_0 : w8.cell? ⟨gb420, 0, none⟩ = some (.slice A0_0 l0_0.length c0_0) := (blk_cell BK420.out 0).trans rfl; have hcz9_1 : w8.cell? ⟨gb420, 1, none⟩ = some (.slice A0_1 l0_1.length c0_1) := (blk_cell BK420.out 1).trans rfl; have hcz9_2 : w8.cell? ⟨gb420, 2, none⟩ = some (.int .u32 a0_2) := (blk_cell BK420.out 2).trans rfl; have hfz9_0 := blk_frozen BK420.out 0; have hfz9_1 := blk_frozen BK420.out 1; have hfz9_2 := blk_frozen BK420.out 2) | ((with_reducible refine gate_callee (f := 53) rfl ?_); refine goesL_ (some 14) rfl rfl Tryd.func53 (by kernel_rfl) rfl #[.int .u32 a0_2] rfl (by (try simp only [List.map_toArray, List.map_cons, List.map_nil]); first | done | rfl | (simp only [List.length_drop, List.length_take]; rfl)) ?_; (with_reducible refine (mainsheetref04_Right.calls a0_2 true _ A4.out).mono ?_); rintro e w' ⟨rfl, ⟨nd, rfl⟩⟩; refine ⟨_, rfl, ?_⟩))
   go_ret
   exact ⟨by first | rfl | (simp [errW_none, errW_some] <;> rfl) | (simp [*, errW_none, errW_some] <;> rfl), by repeat (first | (with_reducible first | exact HB.out | apply below_alloc | apply pw_below_drewN | apply below_drew1 | refine below_set ?_ GE420.out) | exact HB.out)⟩
  ·replace c5 := Bool.eq_false_iff.mpr c5
   subst c5
   have H1 : (some 140) = some r := by rw [if_neg (show ¬ (false = true) by decide)] at H; exact H
   clear H
   have H := H1
   clear H1
   obtain rfl := Option.some.inj H
   go_enter Tryd.func33, Tryd.ntmps33
   go_wp2_with (first | ((with_reducible refine gate_dst (N := 1) rfl ?_); refine box_event ?hg (N := 1) ?hd (cs := #[.slice A0_0 l0_0.length c0_0, .slice A0_1 l0_1.length c0_1, .int .u32 a0_2]) (t := 41) ?hr ?_; (case hd => rfl); (case hg => rfl); (case hr => first | (go_simp; done) | (go_simp; rfl)); intro gb420 hg w10 hbox hb; have n0_ := Aside0.mk (below_step (by repeat (first | (with_reducible first | exact HB.out | apply below_alloc | apply pw_below_drewN | apply below_drew1) | exact HB.out)) hb); have n1_ := Aside0.mk (hbox); have n2_ := Aside0.mk ((by rw [hg]; exact (below_size (by repeat (first | (with_reducible first | exact HB.out | apply below_alloc | apply pw_below_drewN | apply below_drew1) | exact HB.out))) : w.heap.size ≤ gb420)); have n3_ := Aside0.mk ((by rw [hg]; exact (below_size (by repeat (first | (with_reducible first | exact HB.out | apply below_alloc | apply pw_below_drewN | apply below_drew1) | exact HB.out))) : w.heap.size ≤ gb420)); clear HB; have HB := n0_; have BK420 := n1_; have GW420 := n2_; have GE420 := n3_; clear n0_ n1_ n2_ n3_; clear hb hbox hg; have hcz11_0 : w10.cell? ⟨gb420, 0, none⟩ = some (.slice A0_0 l0_0.length c0_0) := (blk_cell BK420.out 0).trans rfl; have hcz11_1 : w10.cell? ⟨gb420, 1, none⟩ = some (.slice A0_1 l0_1.length c0_1) := (blk_cell BK420.out 1).trans rfl; have hcz11_2 : w10.cell? ⟨gb420, 2, none⟩ = some (.int .u32 a0_2) := (blk_cell BK420.out 2).trans rfl; have hfz11_0 := blk_frozen BK420.out 0; have hfz11_1 := blk_frozen BK420.out 1; have hfz11_2 := blk_frozen BK420.out 2) | ((with_reducible refine gate_callee (f := 49) rfl ?_); refine goesL_ (some 8) rfl rfl Tryd.func49 (by kernel_rfl) rfl #[.slice A0_0 l0_0.length c0_0, .slice A0_1 l0_1.length c0_1] rfl (by (try simp only [List.map_toArray, List.map_cons, List.map_nil]); first | done | rfl | (simp only [List.length_drop, List.length_take]; rfl)) ?_; (with_reducible refine (mainsheetref19_Error.calls _ _ l0_0 _ _ l0_1 t421 _ ?side1 ?side2 ?side3 ?side4 A2.out).mono ?_); (case side1 => repeat (first | exact (Kd.C_below HR0_0.out HB.out) | (with_reducible refine Kd.C_alloc ?_ _) | (with_reducible refine Kd.C_drewN ?_ _) | (with_reducible refine Kd.C_drew ?_))); (case side2 => exact HC0_0.out); (case side3 => repeat (first | exact (Kd.C_below HR0_1.out HB.out) | (with_reducible refine Kd.C_alloc ?_ _) | (with_reducible refine Kd.C_drewN ?_ _) | (with_reducible refine Kd.C_drew ?_))); (case side4 => exact HC0_1.out); rintro e w12 ⟨rfl, hb⟩; refine ⟨_, rfl, ?_⟩; have n0_ := Aside0.mk (blk_below (g := gb420) (o := .cells #[.slice A0_0 l0_0.length c0_0, .slice A0_1 l0_1.length c0_1, .int .u32 a0_2] 41 (0, 0)) (by (with_reducible repeat (first | refine blk_drewN ?_ _ | refine blk_drew ?_ | refine blk_alloc ?_ _)); exact BK420.out) hb); have n1_ := Aside0.mk (below_step (by repeat (first | (with_reducible first | exact HB.out | apply below_alloc | apply pw_below_drewN | apply below_drew1 | refine below_set ?_ GE420.out) | exact HB.out)) hb); clear BK420; clear HB; have BK420 := n0_; have HB := n1_; clear n0_ n1_; (try clear hb); (try clear hb2); (try clear hk); (try clear hi); have hcz13_0 : w12.cell? ⟨gb420, 0, none⟩ = some (.slice A0_0 l0_0.length c0_0) := (blk_cell BK420.out 0).trans rfl; have hcz13_1 : w12.cell? ⟨gb420, 1, none⟩ = some (.slice A0_1 l0_1.length c0_1) := (blk_cell BK420.out 1).trans rfl; have hcz13_2 : w12.cell? ⟨gb420, 2, none⟩ = some (.int .u32 a0_2) := (blk_cell BK420.out 2).trans rfl; have hfz13_0 := blk_frozen BK420.out 0; have hfz13_1 := blk_frozen BK420.out 1; have hfz13_2 := blk_frozen BK420.out 2) | ((with_reducible refine gate_callee (f := 53) rfl ?_); refine goesL_ (some 14) rfl rfl Tryd.func53 (by kernel_rfl) rfl #[.int .u32 a0_2] rfl (by (try simp only [List.map_toArray, List.map_cons, List.map_nil]); first | done | rfl | (simp only [List.length_drop, List.length_take]; rfl)) ?_; (with_reducible refine (mainsheetref04_Right.calls a0_2 false _ A4.out).mono ?_); rintro e w' ⟨rfl, ⟨nd, rfl⟩⟩; refine ⟨_, rfl, ?_⟩))
   go_ret
   exact ⟨by first | rfl | (simp [errW_none, errW_some] <;> rfl) | (simp [*, errW_none, errW_some] <;> rfl), by repeat (first | (with_reducible first | exact HB.out | apply below_alloc | apply pw_below_drewN | apply below_drew1 | refine below_set ?_ GE420.out) | exact HB.out)⟩
 ·rw [if_neg c3] at H
  have c3b0 : (t421 == 0) = false := beq_eq_false_iff_ne.mpr c3
  have c3b1 : (t421 != 0) = true := bne_iff_ne.mpr c3
  obtain rfl := Option.some.inj H
  go_enter Tryd.func33, Tryd.ntmps33
  go_wp2_with (first | ((with_reducible refine gate_dst (N := 1) rfl ?_); refine box_event ?hg (N := 1) ?hd (cs := #[.slice A0_0 l0_0.length c0_0, .slice A0_1 l0_1.length c0_1, .int .u32 a0_2]) (t := 41) ?hr ?_; (case hd => rfl); (case hg => rfl); (case hr => first | (go_simp; done) | (go_simp; rfl)); intro gb420 hg w14 hbox hb; have n0_ := Aside0.mk (below_step (by repeat (first | (with_reducible first | exact HB.out | apply below_alloc | apply pw_below_drewN | apply below_drew1) | exact HB.out)) hb); have n1_ := Aside0.mk (hbox); have n2_ := Aside0.mk ((by rw [hg]; exact (below_size (by repeat (first | (with_reducible first | exact HB.out | apply below_alloc | apply pw_below_drewN | apply below_drew1) | exact HB.out))) : w.heap.size ≤ gb420)); have n3_ := Aside0.mk ((by rw [hg]; exact (below_size (by repeat (first | (with_reducible first | exact HB.out | apply below_alloc | apply pw_below_drewN | apply below_drew1) | exact HB.out))) : w.heap.size ≤ gb420)); clear HB; have HB := n0_; have BK420 := n1_; have GW420 := n2_; have GE420 := n3_; clear n0_ n1_ n2_ n3_; clear hb hbox hg; have hcz15_0 : w14.cell? ⟨gb420, 0, none⟩ = some (.slice A0_0 l0_0.length c0_0) := (blk_cell BK420.out 0).trans rfl; have hcz15_1 : w14.cell? ⟨gb420, 1, none⟩ = some (.slice A0_1 l0_1.length c0_1) := (blk_cell BK420.out 1).trans rfl; have hcz15_2 : w14.cell? ⟨gb420, 2, none⟩ = some (.int .u32 a0_2) := (blk_cell BK420.out 2).trans rfl; have hfz15_0 := blk_frozen BK420.out 0; have hfz15_1 := blk_frozen BK420.out 1; have hfz15_2 := blk_frozen BK420.out 2) | ((with_reducible refine gate_callee (f := 49) rfl ?_); refine goesL_ (some 8) rfl rfl Tryd.func49 (by kernel_rfl) rfl #[.slice A0_0 l0_0.length c0_0, .slice A0_1 l0_1.length c0_1] rfl (by (try simp only [List.map_toArray, List.map_cons, List.map_nil]); first | done | rfl | (simp only [List.length_drop, List.length_take]; rfl)) ?_; (with_reducible refine (mainsheetref19_Error.calls _ _ l0_0 _ _ l0_1 t421 _ ?side1 ?side2 ?side3 ?side4 A2.out).mono ?_); (case side1 => repeat (first | exact (Kd.C_below HR0_0.out HB.out) | (with_reducible refine Kd.C_alloc ?_ _) | (with_reducible refine Kd.C_drewN ?_ _) | (with_reducible refine Kd.C_drew ?_))); (case side2 => exact HC0_0.out); (case side3 => repeat (first | exact (Kd.C_below HR0_1.out HB.out) | (with_reducible refine Kd.C_alloc ?_ _) | (with_reducible refine Kd.C_drewN ?_ _) | (with_reducible refine Kd.C_drew ?_))); (case side4 => exact HC0_1.out); rintro e w16 ⟨rfl, hb⟩; refine ⟨_, rfl, ?_⟩; have n0_ := Aside0.mk (blk_below (g := gb420) (o := .cells #[.slice A0_0 l0_0.length c0_0, .slice A0_1 l0_1.length c0_1, .int .u32 a0_2] 41 (0, 0)) (by (with_reducible repeat (first | refine blk_drewN ?_ _ | refine blk_drew ?_ | refine blk_alloc ?_ _)); exact BK420.out) hb); have n1_ := Aside0.mk (below_step (by repeat (first | (with_reducible first | exact HB.out | apply below_alloc | apply pw_below_drewN | apply below_drew1 | refine below_set ?_ GE420.out) | exact HB.out)) hb); clear BK420; clear HB; have BK420 := n0_; have HB := n1_; clear n0_ n1_; (try clear hb); (try clear hb2); (try clear hk); (try clear hi)))
  go_ret
  exact ⟨by first | rfl | (simp [errW_none, errW_some] <;> rfl) | (simp [*, errW_none, errW_some] <;> rfl), by repeat (first | (with_reducible first | exact HB.out | apply below_alloc | apply pw_below_drewN | apply below_drew1 | refine below_set ?_ GE420.out) | exact HB.out)⟩

end Go.Proofs.YtdmieaidheelbaaDoor.Q
end
/- QFlaw19Askcopied -/
section
namespace Go.Proofs.YtdmieaidheelbaaDoor.Q
open Go.RowKit Go.Proofs.YtdmieaidheelbaaDoorW.PrintWords Go.Proofs.YtdmieaidheelbaaDoorW.PrintLast Go.Proofs.YtdmieaidheelbaaDoorW.PrintMore
attribute [local go_sem] max2_int min2_int max_two min_two max_three min_three max_four min_four
set_option linter.unusedVariables false
set_option linter.unusedSimpArgs false

def mainsheetlaw19_Ask_copied.l0 : Nat → List (S90) → Int → Int → List (S90) → List (S36) → Int → Option ((List (S90)) × (List (S36)) × Int)
 | 0, _, _, _, _, _, _ => none
 | k + 1, x14, x15, x16, x519000, x519001, x519002 => if x16 < x15 then (if 0 ≤ x16 then (if x16 < (x14.length : Int) then ((some (([] : List Int) : List Int)).bind fun y521 => (if y521.length + ((rd_T90 x14 x16).f0).length < 17592186044416 then (if x519000.length < 2199023255552 then (mainsheetlaw19_Ask_copied.l0 k x14 x15 (wrap64 (x16 + 1)) (x519000 ++ [(⟨(y521 ++ ((rd_T90 x14 x16).f0)), (⟨(⟨(rd_T90 x14 x16).f1.f0.f0, (rd_T90 x14 x16).f1.f0.f1⟩ : S86), (rd_T90 x14 x16).f1.f1⟩ : S88), (rd_T90 x14 x16).f2, (rd_T90 x14 x16).f3⟩ : S90)]) x519001 x519002) else (none)) else (none))) else (none)) else (none)) else (some (x519000, x519001, x519002))
def mainsheetlaw19_Ask_copied.f (k : Nat) (l0_0 : List (S90)) (l0_1 : List (S36)) (a0_2 : Int) : Option ((List (S90)) × (List (S36)) × Int) := (some (([] : List (S36)) : List (S36))).bind fun y512 => (if y512.length + l0_1.length < 5864062014805 then (mainsheetlaw19_Ask_copied.l0 k l0_0 (l0_0.length : Int) 0 ([] : List (S90)) (y512 ++ l0_1) a0_2) else (none))
def mainsheetlaw19_Ask_copied.T1 : Bool × List (List Nat × List Nat) := (true, [([], []), ([], []), ([1], [1]), ([0, 2], [0, 2]), ([], []), ([4], [4]), ([3, 5], [3, 5]), ([], []), ([7, 6, 3, 0, 1, 2, 3, 4, 5, 6, 7], [6, 7])])
def mainsheetlaw19_Ask_copied.B1 : List Nat := [0, 0, 2, 7, 0, 16, 63, 0, 255]
theorem mainsheetlaw19_Ask_copied.tab1 : rtab .any (opsOf Tryd.f47 1) = mainsheetlaw19_Ask_copied.T1 := by kernel_rfl
theorem mainsheetlaw19_Ask_copied.bits1 : waitsOk mainsheetlaw19_Ask_copied.T1.2 mainsheetlaw19_Ask_copied.B1 = true := by kernel_rfl
set_option maxHeartbeats 8000000 in
set_option maxRecDepth 100000 in
theorem mainsheetlaw19_Ask_copied.calls (k : Nat) (A0_0 : Option Addr) (c0_0 : Nat) (l0_0 : List (S90)) (A0_1 : Option Addr) (c0_1 : Nat) (l0_1 : List (S36)) (a0_2 : Int) (r1 : List (S90)) (r2 : List (S36)) (r3 : Int) (w : World) (hr0_0 : Kd.C k90 w A0_0 l0_0.length l0_0) (hc0_0 : l0_0.length ≤ c0_0) (hr0_1 : Kd.C k36 w A0_1 l0_1.length l0_1) (hc0_1 : l0_1.length ≤ c0_1) (h : mainsheetlaw19_Ask_copied.f k l0_0 l0_1 a0_2 = some (r1, r2, r3)) :
  Calls Tryd.prog 47 #[.agg #[.slice A0_0 l0_0.length c0_0, .slice A0_1 l0_1.length c0_1, .int .u32 a0_2]] w fun e w' => ∃ v0_ v1_ : Value, e = .returned (.agg #[v0_, v1_, .int .u32 r3]) ∧ Kd.S k90 90 w' w.heap.size (fun _ => True) v0_ r1 ∧ Kd.R k36 36 w' w.heap.size (fun _ => True) v1_ r2 ∧ Below w.heap.size w w' := by
 have hu41 := Tryd.underlying41
 have hu90 := Tryd.underlying90
 have HR0_0 := Aside0.mk hr0_0
 have HC0_0 := Aside0.mk hc0_0
 clear hr0_0 hc0_0
 have HR0_1 := Aside0.mk hr0_1
 have HC0_1 := Aside0.mk hc0_1
 clear hr0_1 hc0_1
 have HB := Aside0.mk (Below.refl w.heap.size w)
 have H : ((some (([] : List (S36)) : List (S36))).bind fun y512 => (if y512.length + l0_1.length < 5864062014805 then (mainsheetlaw19_Ask_copied.l0 k l0_0 (l0_0.length : Int) 0 ([] : List (S90)) (y512 ++ l0_1) a0_2) else (none))) = some (r1, r2, r3) := h
 clear h
 obtain ⟨y512, hy512⟩ : ∃ y_ : List (S36), y_ = (([] : List (S36))) := ⟨_, rfl⟩
 replace H : (if y512.length + l0_1.length < 5864062014805 then (mainsheetlaw19_Ask_copied.l0 k l0_0 (l0_0.length : Int) 0 ([] : List (S90)) (y512 ++ l0_1) a0_2) else (none)) = some (r1, r2, r3) := by first | (rw [hy512]; with_reducible exact H) | (have H2_ := (Option.bind_some _ _).symm.trans H; rw [hy512]; with_reducible exact H2_) | (have H2_ := (Option.bind_some _ _).symm.trans H; with_reducible exact H2_) | with_reducible exact H | (rw [hy512]; exact H) | exact H
 have Ny512 := Aside0.mk hy512
 clear hy512
 by_cases c2 : y512.length + l0_1.length < 5864062014805
 ·rw [if_pos c2] at H
  have LMc2 := Aside0.mk c2
  clear c2
  obtain ⟨y515, hy515⟩ : ∃ y_ : List (S36), y_ = (y512 ++ l0_1) := ⟨_, rfl⟩
  replace H : (mainsheetlaw19_Ask_copied.l0 k l0_0 (l0_0.length : Int) 0 ([] : List (S90)) y515 a0_2) = some (r1, r2, r3) := by first | (rw [hy515]; with_reducible exact H) | (have H2_ := (Option.bind_some _ _).symm.trans H; rw [hy515]; with_reducible exact H2_) | (have H2_ := (Option.bind_some _ _).symm.trans H; with_reducible exact H2_) | with_reducible exact H | (rw [hy515]; exact H) | exact H
  have Ny515 := Aside0.mk hy515
  clear hy515
  have H' := Aside0.mk H
  clear H
  go_enter Tryd.func47, Tryd.ntmps47
  try go_wp2_with (first | ((with_reducible refine gate_dst (N := 1) rfl ?_); refine box_event ?hg (N := 1) ?hd (cs := #[.slice A0_0 l0_0.length c0_0, .slice A0_1 l0_1.length c0_1, .int .u32 a0_2]) (t := 41) ?hr ?_; (case hd => rfl); (case hg => rfl); (case hr => first | (go_simp; done) | (go_simp; rfl)); intro gb510 hg w3 hbox hb; have n0_ := Aside0.mk (below_step (by repeat (first | (with_reducible first | exact HB.out | apply below_alloc | apply pw_below_drewN | apply below_drew1) | exact HB.out)) hb); have n1_ := Aside0.mk (hbox); have n2_ := Aside0.mk ((by rw [hg]; exact (below_size (by repeat (first | (with_reducible first | exact HB.out | apply below_alloc | apply pw_below_drewN | apply below_drew1) | exact HB.out))) : w.heap.size ≤ gb510)); have n3_ := Aside0.mk ((by rw [hg]; exact (below_size (by repeat (first | (with_reducible first | exact HB.out | apply below_alloc | apply pw_below_drewN | apply below_drew1) | exact HB.out))) : w.heap.size ≤ gb510)); clear HB; have HB := n0_; have BK510 := n1_; have GW510 := n2_; have GE510 := n3_; clear n0_ n1_ n2_ n3_; clear hb hbox hg) | ((with_reducible refine gate_dst (N := 2) rfl ?_); refine box_event ?hg (N := 2) ?hd (cs := #[.slice none 0 0, .slice none 0 0, .int .u32 0]) (t := 41) ?hr ?_; (case hd => rfl); (case hg => rfl); (case hr => first | (go_simp; done) | (go_simp; rfl)); intro gb511 hg w4 hbox hb; have n0_ := Aside0.mk (blk_below (g := gb510) (o := .cells #[.slice A0_0 l0_0.length c0_0, .slice A0_1 l0_1.length c0_1, .int .u32 a0_2] 41 (0, 0)) (by (with_reducible repeat (first | refine blk_drewN ?_ _ | refine blk_drew ?_ | refine blk_alloc ?_ _)); exact BK510.out) hb); have n1_ := Aside0.mk (below_step (by repeat (first | (with_reducible first | exact HB.out | apply below_alloc | apply pw_below_drewN | apply below_drew1 | refine below_set ?_ GE510.out) | exact HB.out)) hb); have n2_ := Aside0.mk (hbox); have n3_ := Aside0.mk ((by rw [hg]; exact (below_size (by repeat (first | (with_reducible first | exact HB.out | apply below_alloc | apply pw_below_drewN | apply below_drew1 | refine below_set ?_ GE510.out) | exact HB.out))) : w.heap.size ≤ gb511)); have n4_ := Aside0.mk ((by rw [hg]; exact (below_size (by repeat (first | (with_reducible first | exact HB.out | apply below_alloc | apply pw_below_drewN | apply below_drew1 | refine below_set ?_ GE510.out) | exact HB.out))) : w.heap.size ≤ gb511)); have n5_ := Aside0.mk ((by rw [hg]; exact Nat.ne_of_lt (blk_lt (g := gb510) (o := .cells #[.slice A0_0 l0_0.length c0_0, .slice A0_1 l0_1.length c0_1, .int .u32 a0_2] 41 (0, 0)) (by (with_reducible repeat (first | refine blk_drewN ?_ _ | refine blk_drew ?_ | refine blk_alloc ?_ _)); exact BK510.out)) : gb510 ≠ gb511)); have n6_ := Aside0.mk ((by rw [hg]; exact Nat.ne_of_gt (blk_lt (g := gb510) (o := .cells #[.slice A0_0 l0_0.length c0_0, .slice A0_1 l0_1.length c0_1, .int .u32 a0_2] 41 (0, 0)) (by (with_reducible repeat (first | refine blk_drewN ?_ _ | refine blk_drew ?_ | refine blk_alloc ?_ _)); exact BK510.out)) : gb511 ≠ gb510)); clear BK510; clear HB; have BK510 := n0_; have HB := n1_; have BK511 := n2_; have GW511 := n3_; have GE511 := n4_; have NB510_511 := n5_; have NB511_510 := n6_; clear n0_ n1_ n2_ n3_ n4_ n5_ n6_; clear hb hbox hg))
  have n0_ := Aside0.mk (blk_drew BK510.out)
  have n1_ := Aside0.mk (blk_drew BK511.out)
  have n2_ := Aside0.mk (below_drew1 HB.out)
  clear BK510
  clear BK511
  clear HB
  have BK510 := n0_
  have BK511 := n1_
  have HB := n2_
  clear n0_ n1_ n2_
  refine start_ (n := 9) (S := fun w' => w'.cell? ⟨gb510, 0, none⟩ = some (.slice A0_0 l0_0.length c0_0) ∧ w'.cell? ⟨gb510, 1, none⟩ = some (.slice A0_1 l0_1.length c0_1) ∧ w'.cell? ⟨gb510, 2, none⟩ = some (.int .u32 a0_2)) (ds := []) #[false, false, false, false, false, false, false, false, false] (by kernel_rfl) rfl rfl ⟨(blk_cell BK510.out 0).trans rfl, (blk_cell BK510.out 1).trans rfl, (blk_cell BK510.out 2).trans rfl⟩ (fun hHeld => ?_); refine with_tabW mainsheetlaw19_Ask_copied.tab1 mainsheetlaw19_Ask_copied.bits1 (fun HT_ HW_ => ?_)
  generalize w4.drew = w5 at BK510 BK511 HB hHeld ⊢
  refine pure_ (i := 1) (N := some 7) (v := ?_) (a' := ?_) #[false, true, false, false, false, false, false, false, false] rfl rfl (any_of HT_.out (by kernel_rfl)) (fun _ _ _ h => h) (Or.inl ⟨by rfl, ?_⟩) ?_ ?_
  rotate_left
  ·intro w'
   go_simp
   with_reducible rfl
  rotate_left
  ·simp only [Act.put, List.setIfInBounds_toArray, List.set_cons_zero, List.set_cons_succ, i64_w, i32_w]
   rfl
  refine pure_ (i := 4) (N := some 10) (v := ?_) (a' := ?_) #[false, true, false, false, true, false, false, false, false] rfl rfl (any_of HT_.out (by kernel_rfl)) (fun _ _ _ h => h) (Or.inl ⟨by rfl, ?_⟩) ?_ ?_
  rotate_left
  ·intro w'
   go_simp
   with_reducible rfl
  rotate_left
  ·simp only [Act.put, List.setIfInBounds_toArray, List.set_cons_zero, List.set_cons_succ, i64_w, i32_w]
   rfl
  refine take_ (i := 2) (N := some 8) (v := ?_) (a' := ?_) #[false, true, true, false, true, false, false, false, false] rfl rfl (take_ofW HT_.out HW_.out (by kernel_rfl)) (fun _ _ _ h => h) (Or.inl ⟨by rfl, ?_⟩) hHeld ?_ ?_
  rotate_left
  ·rintro w' ⟨s0, s1, s2⟩
   go_simp
   with_reducible rfl
  rotate_left
  ·simp only [Act.put, List.setIfInBounds_toArray, List.set_cons_zero, List.set_cons_succ, i64_w, i32_w]
   rfl
  refine take_ (i := 5) (N := some 11) (v := ?_) (a' := ?_) #[false, true, true, false, true, true, false, false, false] rfl rfl (take_ofW HT_.out HW_.out (by kernel_rfl)) (fun _ _ _ h => h) (Or.inl ⟨by rfl, ?_⟩) hHeld ?_ ?_
  rotate_left
  ·rintro w' ⟨s0, s1, s2⟩
   go_simp
   with_reducible rfl
  rotate_left
  ·simp only [Act.put, List.setIfInBounds_toArray, List.set_cons_zero, List.set_cons_succ, i64_w, i32_w]
   rfl
  refine join_ (σ := Value × Value × Nat) 1 #[true, true, true, true, true, true, true, true, false] (fun s_ => [(6, s_.1), (9, s_.2.1), (3, .pointer (some ⟨s_.2.2, 0, none⟩)), (12, .agg #[.slice none 0 0, s_.2.1, .int .u32 a0_2])]) (fun s_ w' => (w'.cell? ⟨gb510, 0, none⟩ = some (.slice A0_0 l0_0.length c0_0) ∧ w'.cell? ⟨gb510, 1, none⟩ = some (.slice A0_1 l0_1.length c0_1) ∧ w'.cell? ⟨gb510, 2, none⟩ = some (.int .u32 a0_2)) ∧ (Kd.R k36 36 w' w.heap.size (fun _ => True) s_.2.1 y515) ∧ (w'.heap[gb510]? = some (.cells #[.slice A0_0 l0_0.length c0_0, .slice A0_1 l0_1.length c0_1, .int .u32 a0_2] 41 (0, 0))) ∧ (w'.heap[gb511]? = some (.cells #[.slice none 0 0, .slice none 0 0, .int .u32 0] 41 (0, 0))) ∧ (w'.heap[s_.2.2]? = some (.cells #[.slice none 0 0, .slice none 0 0, .int .u32 0] 41 (0, 0))) ∧ (w.heap.size ≤ s_.2.2) ∧ (w.heap.size ≤ s_.2.2) ∧ (gb510 ≠ s_.2.2) ∧ (s_.2.2 ≠ gb510) ∧ (gb511 ≠ s_.2.2) ∧ (s_.2.2 ≠ gb511) ∧ (Below w.heap.size w w')) ?_ ?_
  rotate_left
  ·intro hCont
   refine two_ (i := 0) (j := 7) (Ni := some 6) (Nj := some 3) #[true, true, true, false, true, true, false, false, false] #[false, true, true, false, true, true, false, true, false] rfl rfl rfl rfl (two_of HT_.out (by kernel_rfl)) (by decide) (by decide) (fun K hK => ?_) (fun K hK => ?_)
   ·skip
    refine Kd.R_lit_step k36 _ 36 ?hg (N := 6) ?hd (xs := ([] : List (S36))) (inner := []) (ok := fun _ => True) (okp := fun _ => True) ?hr ?hp (fun _ hk => hk) trivial (Below.refl _ _) (Nat.le_refl _) (by simp) ?_; (case hd => rfl); (case hg => rfl); (case hr => first | (go_simp; done) | (go_simp; rfl)); (case hp => exact (Reps.none _ _))
    intro v513 w6 ho7 hb hg_ hnew_
    clear hg_ hnew_
    (first | rw [← Ny512.out] at ho7 | (simp only [Int.reduceToNat] at ho7; rw [← Ny512.out] at ho7))
    have n0_ := Aside0.mk (Kd.R_lower ho7 (below_size (by repeat (first | (with_reducible first | exact HB.out | apply below_alloc | apply pw_below_drewN | apply below_drew1 | refine below_set ?_ GE510.out | refine below_set ?_ GE511.out) | exact HB.out))))
    have n1_ := Aside0.mk (blk_below (g := gb510) (o := .cells #[.slice A0_0 l0_0.length c0_0, .slice A0_1 l0_1.length c0_1, .int .u32 a0_2] 41 (0, 0)) (by (with_reducible repeat (first | refine blk_drewN ?_ _ | refine blk_drew ?_ | refine blk_alloc ?_ _)); exact BK510.out) hb)
    have n2_ := Aside0.mk (blk_below (g := gb511) (o := .cells #[.slice none 0 0, .slice none 0 0, .int .u32 0] 41 (0, 0)) (by (with_reducible repeat (first | refine blk_drewN ?_ _ | refine blk_drew ?_ | refine blk_alloc ?_ _)); exact BK511.out) hb)
    have n3_ := Aside0.mk (below_step (by repeat (first | (with_reducible first | exact HB.out | apply below_alloc | apply pw_below_drewN | apply below_drew1 | refine below_set ?_ GE510.out | refine below_set ?_ GE511.out) | exact HB.out)) hb)
    clear BK510
    clear BK511
    clear HB
    have HO514 := n0_
    have BK510 := n1_
    have BK511 := n2_
    have HB := n3_
    clear n0_ n1_ n2_ n3_
    clear hb ho7
    refine hK.out _ _ ⟨(blk_cell BK510.out 0).trans rfl, (blk_cell BK510.out 1).trans rfl, (blk_cell BK510.out 2).trans rfl⟩ (fun hHeld => ?_)
    clear hK K
    refine norm_ (a' := ?_) ?_ ?_
    rotate_left
    ·show Act.put _ (some 6) _ = _
     simp only [Act.put, List.setIfInBounds_toArray, List.set_cons_zero, List.set_cons_succ, i64_w, i32_w]
     rfl
    refine two_ (i := 3) (j := 7) (Ni := some 9) (Nj := some 3) #[true, true, true, true, true, true, false, false, false] #[true, true, true, false, true, true, false, true, false] rfl rfl rfl rfl (two_of HT_.out (by kernel_rfl)) (by decide) (by decide) (fun K hK => ?_) (fun K hK => ?_)
    ·skip
     refine Kd.R_append_rows_step k36 (w0 := w) w.heap.size (by rfl) (.tmp 6) (.tmp 8) 22 36 (.agg #[(.int .i64 0), (.int .i64 0), (.int .u32 0), (.int .u32 0)]) 24 rfl Tryd.underlying22 info36 rfl (by decide) (by omega) v513 y512 l0_1 _ _ _ (fun _ => True) (fun _ => False) rfl rfl ?aO ?aR (fun _ _ h => h) (fun _ h => h.elim) ?aF ?aB ?aS ?aL ?_
     (case aR => repeat (first | exact (Kd.C_below HR0_1.out HB.out) | (with_reducible refine Kd.C_alloc ?_ _) | (with_reducible refine Kd.C_drewN ?_ _) | (with_reducible refine Kd.C_drew ?_)))
     (case aB => exact (by repeat (first | (with_reducible first | exact HB.out | apply below_alloc | apply pw_below_drewN | apply below_drew1 | refine below_set ?_ GE510.out | refine below_set ?_ GE511.out) | exact HB.out)))
     (case aF => exact (fun _ _ => trivial))
     (case aO => exact (by (with_reducible repeat (first | apply Kd.R_alloc | apply Kd.R_drewN | apply Kd.R_drew)); exact HO514.out))
     (case aS => exact (below_size (by repeat (first | (with_reducible first | exact HB.out | apply below_alloc | apply pw_below_drewN | apply below_drew1 | refine below_set ?_ GE510.out | refine below_set ?_ GE511.out) | exact HB.out))))
     (case aL => have := LMc2.out; omega)
     intro v516 w8 ho hb hg hat
     rw [← Ny515.out] at ho
     have n0_ := Aside0.mk (blk_grown (g := gb510) (o := .cells #[.slice A0_0 l0_0.length c0_0, .slice A0_1 l0_1.length c0_1, .int .u32 a0_2] 41 (0, 0)) (by (with_reducible repeat (first | refine blk_drewN ?_ _ | refine blk_drew ?_ | refine blk_alloc ?_ _)); exact BK510.out) hg (Kd.R_ne HO514.out BK510.out (by decide)))
     have n1_ := Aside0.mk (blk_grown (g := gb511) (o := .cells #[.slice none 0 0, .slice none 0 0, .int .u32 0] 41 (0, 0)) (by (with_reducible repeat (first | refine blk_drewN ?_ _ | refine blk_drew ?_ | refine blk_alloc ?_ _)); exact BK511.out) hg (Kd.R_ne HO514.out BK511.out (by decide)))
     have n2_ := Aside0.mk (hb)
     have n3_ := Aside0.mk (ho)
     clear BK510
     clear BK511
     clear HB
     clear HO514
     have BK510 := n0_
     have BK511 := n1_
     have HB := n2_
     have HO517 := n3_
     clear n0_ n1_ n2_ n3_
     clear ho hb hg hat
     obtain ⟨Ao9, co9, eo9⟩ := Kd.R_slice HO517.out
     (first | subst eo9 | (injection eo9 with f1_ f2_ f3_; have f4_ := f1_.symm; have f5_ := f3_.symm; clear f1_ f2_ f3_; subst f4_; subst f5_))
     refine hK.out _ _ ⟨(blk_cell BK510.out 0).trans rfl, (blk_cell BK510.out 1).trans rfl, (blk_cell BK510.out 2).trans rfl⟩ (fun hHeld => ?_)
     clear hK K
     refine norm_ (a' := ?_) ?_ ?_
     rotate_left
     ·show Act.put _ (some 9) _ = _
      simp only [Act.put, List.setIfInBounds_toArray, List.set_cons_zero, List.set_cons_succ, i64_w, i32_w]
      rfl
     refine pure_ (i := 6) (N := some 12) (v := ?_) (a' := ?_) #[true, true, true, true, true, true, true, false, false] rfl rfl (any_of HT_.out (by kernel_rfl)) (fun _ _ _ h => h) (Or.inl ⟨by rfl, ?_⟩) ?_ ?_
     rotate_left
     ·intro w'
      go_simp
      with_reducible rfl
     rotate_left
     ·simp only [Act.put, List.setIfInBounds_toArray, List.set_cons_zero, List.set_cons_succ, i64_w, i32_w]
      rfl
     refine one_ (i := 7) (N := some 3) #[true, true, true, true, true, true, true, true, false] rfl rfl (one_of HT_.out (by kernel_rfl)) (by decide) (fun K hK => ?_)
     refine box_step ?hg (N := 3) ?hd (cs := #[.slice none 0 0, .slice none 0 0, .int .u32 0]) (t := 41) ?hr ?_; (case hd => rfl); (case hg => rfl); (case hr => first | (go_simp; done) | (go_simp; rfl))
     intro gb518 hg w10 hbox hb
     have n0_ := Aside0.mk (Kd.R_below (by (with_reducible repeat (first | apply Kd.R_alloc | apply Kd.R_drewN | apply Kd.R_drew)); exact HO517.out) hb)
     have n1_ := Aside0.mk (blk_below (g := gb510) (o := .cells #[.slice A0_0 l0_0.length c0_0, .slice A0_1 l0_1.length c0_1, .int .u32 a0_2] 41 (0, 0)) (by (with_reducible repeat (first | refine blk_drewN ?_ _ | refine blk_drew ?_ | refine blk_alloc ?_ _)); exact BK510.out) hb)
     have n2_ := Aside0.mk (blk_below (g := gb511) (o := .cells #[.slice none 0 0, .slice none 0 0, .int .u32 0] 41 (0, 0)) (by (with_reducible repeat (first | refine blk_drewN ?_ _ | refine blk_drew ?_ | refine blk_alloc ?_ _)); exact BK511.out) hb)
     have n3_ := Aside0.mk (below_step (by repeat (first | (with_reducible first | exact HB.out | apply below_alloc | apply pw_below_drewN | apply below_drew1 | refine below_set ?_ GE510.out | refine below_set ?_ GE511.out) | exact HB.out)) hb)
     have n4_ := Aside0.mk (hbox)
     have n5_ := Aside0.mk ((by rw [hg]; exact (below_size (by repeat (first | (with_reducible first | exact HB.out | apply below_alloc | apply pw_below_drewN | apply below_drew1 | refine below_set ?_ GE510.out | refine below_set ?_ GE511.out) | exact HB.out))) : w.heap.size ≤ gb518))
     have n6_ := Aside0.mk ((by rw [hg]; exact (below_size (by repeat (first | (with_reducible first | exact HB.out | apply below_alloc | apply pw_below_drewN | apply below_drew1 | refine below_set ?_ GE510.out | refine below_set ?_ GE511.out) | exact HB.out))) : w.heap.size ≤ gb518))
     have n7_ := Aside0.mk ((by rw [hg]; exact Nat.ne_of_lt (blk_lt (g := gb510) (o := .cells #[.slice A0_0 l0_0.length c0_0, .slice A0_1 l0_1.length c0_1, .int .u32 a0_2] 41 (0, 0)) (by (with_reducible repeat (first | refine blk_drewN ?_ _ | refine blk_drew ?_ | refine blk_alloc ?_ _)); exact BK510.out)) : gb510 ≠ gb518))
     have n8_ := Aside0.mk ((by rw [hg]; exact Nat.ne_of_gt (blk_lt (g := gb510) (o := .cells #[.slice A0_0 l0_0.length c0_0, .slice A0_1 l0_1.length c0_1, .int .u32 a0_2] 41 (0, 0)) (by (with_reducible repeat (first | refine blk_drewN ?_ _ | refine blk_drew ?_ | refine blk_alloc ?_ _)); exact BK510.out)) : gb518 ≠ gb510))
     have n9_ := Aside0.mk ((by rw [hg]; exact Nat.ne_of_lt (blk_lt (g := gb511) (o := .cells #[.slice none 0 0, .slice none 0 0, .int .u32 0] 41 (0, 0)) (by (with_reducible repeat (first | refine blk_drewN ?_ _ | refine blk_drew ?_ | refine blk_alloc ?_ _)); exact BK511.out)) : gb511 ≠ gb518))
     have n10_ := Aside0.mk ((by rw [hg]; exact Nat.ne_of_gt (blk_lt (g := gb511) (o := .cells #[.slice none 0 0, .slice none 0 0, .int .u32 0] 41 (0, 0)) (by (with_reducible repeat (first | refine blk_drewN ?_ _ | refine blk_drew ?_ | refine blk_alloc ?_ _)); exact BK511.out)) : gb518 ≠ gb511))
     clear HO517
     clear BK510
     clear BK511
     clear HB
     have HO517 := n0_
     have BK510 := n1_
     have BK511 := n2_
     have HB := n3_
     have BK518 := n4_
     have GW518 := n5_
     have GE518 := n6_
     have NB510_518 := n7_
     have NB518_510 := n8_
     have NB511_518 := n9_
     have NB518_511 := n10_
     clear n0_ n1_ n2_ n3_ n4_ n5_ n6_ n7_ n8_ n9_ n10_
     clear hb hbox hg
     refine hK.out _ _ ⟨(blk_cell BK510.out 0).trans rfl, (blk_cell BK510.out 1).trans rfl, (blk_cell BK510.out 2).trans rfl⟩ (fun hHeld => ?_)
     clear hK K
     refine norm_ (a' := ?_) ?_ ?_
     rotate_left
     ·show Act.put _ (some 3) _ = _
      simp only [Act.put, List.setIfInBounds_toArray, List.set_cons_zero, List.set_cons_succ, i64_w, i32_w]
      rfl
     exact norm_ (by simp only [putAll, Act.put, List.setIfInBounds_toArray, List.set_cons_zero, List.set_cons_succ]) (hCont (v513, .slice Ao9 y515.length co9, gb518) _ ⟨hHeld, (by (with_reducible repeat (first | apply Kd.R_alloc | apply Kd.R_drewN | apply Kd.R_drew)); exact HO517.out), (by (with_reducible repeat (first | refine blk_drewN ?_ _ | refine blk_drew ?_ | refine blk_alloc ?_ _)); exact BK510.out), (by (with_reducible repeat (first | refine blk_drewN ?_ _ | refine blk_drew ?_ | refine blk_alloc ?_ _)); exact BK511.out), (by (with_reducible repeat (first | refine blk_drewN ?_ _ | refine blk_drew ?_ | refine blk_alloc ?_ _)); exact BK518.out), GW518.out, GE518.out, NB510_518.out, NB518_510.out, NB511_518.out, NB518_511.out, (by repeat (first | (with_reducible first | exact HB.out | apply below_alloc | apply pw_below_drewN | apply below_drew1 | refine below_set ?_ GE510.out | refine below_set ?_ GE511.out | refine below_set ?_ GE518.out) | exact HB.out))⟩)
    ·skip
     refine box_step ?hg (N := 3) ?hd (cs := #[.slice none 0 0, .slice none 0 0, .int .u32 0]) (t := 41) ?hr ?_; (case hd => rfl); (case hg => rfl); (case hr => first | (go_simp; done) | (go_simp; rfl))
     intro gb518 hg w8 hbox hb
     have n0_ := Aside0.mk (Kd.R_below (by (with_reducible repeat (first | apply Kd.R_alloc | apply Kd.R_drewN | apply Kd.R_drew)); exact HO514.out) hb)
     have n1_ := Aside0.mk (blk_below (g := gb510) (o := .cells #[.slice A0_0 l0_0.length c0_0, .slice A0_1 l0_1.length c0_1, .int .u32 a0_2] 41 (0, 0)) (by (with_reducible repeat (first | refine blk_drewN ?_ _ | refine blk_drew ?_ | refine blk_alloc ?_ _)); exact BK510.out) hb)
     have n2_ := Aside0.mk (blk_below (g := gb511) (o := .cells #[.slice none 0 0, .slice none 0 0, .int .u32 0] 41 (0, 0)) (by (with_reducible repeat (first | refine blk_drewN ?_ _ | refine blk_drew ?_ | refine blk_alloc ?_ _)); exact BK511.out) hb)
     have n3_ := Aside0.mk (below_step (by repeat (first | (with_reducible first | exact HB.out | apply below_alloc | apply pw_below_drewN | apply below_drew1 | refine below_set ?_ GE510.out | refine below_set ?_ GE511.out) | exact HB.out)) hb)
     have n4_ := Aside0.mk (hbox)
     have n5_ := Aside0.mk ((by rw [hg]; exact (below_size (by repeat (first | (with_reducible first | exact HB.out | apply below_alloc | apply pw_below_drewN | apply below_drew1 | refine below_set ?_ GE510.out | refine below_set ?_ GE511.out) | exact HB.out))) : w.heap.size ≤ gb518))
     have n6_ := Aside0.mk ((by rw [hg]; exact (below_size (by repeat (first | (with_reducible first | exact HB.out | apply below_alloc | apply pw_below_drewN | apply below_drew1 | refine below_set ?_ GE510.out | refine below_set ?_ GE511.out) | exact HB.out))) : w.heap.size ≤ gb518))
     have n7_ := Aside0.mk ((by rw [hg]; exact Nat.ne_of_lt (blk_lt (g := gb510) (o := .cells #[.slice A0_0 l0_0.length c0_0, .slice A0_1 l0_1.length c0_1, .int .u32 a0_2] 41 (0, 0)) (by (with_reducible repeat (first | refine blk_drewN ?_ _ | refine blk_drew ?_ | refine blk_alloc ?_ _)); exact BK510.out)) : gb510 ≠ gb518))
     have n8_ := Aside0.mk ((by rw [hg]; exact Nat.ne_of_gt (blk_lt (g := gb510) (o := .cells #[.slice A0_0 l0_0.length c0_0, .slice A0_1 l0_1.length c0_1, .int .u32 a0_2] 41 (0, 0)) (by (with_reducible repeat (first | refine blk_drewN ?_ _ | refine blk_drew ?_ | refine blk_alloc ?_ _)); exact BK510.out)) : gb518 ≠ gb510))
     have n9_ := Aside0.mk ((by rw [hg]; exact Nat.ne_of_lt (blk_lt (g := gb511) (o := .cells #[.slice none 0 0, .slice none 0 0, .int .u32 0] 41 (0, 0)) (by (with_reducible repeat (first | refine blk_drewN ?_ _ | refine blk_drew ?_ | refine blk_alloc ?_ _)); exact BK511.out)) : gb511 ≠ gb518))
     have n10_ := Aside0.mk ((by rw [hg]; exact Nat.ne_of_gt (blk_lt (g := gb511) (o := .cells #[.slice none 0 0, .slice none 0 0, .int .u32 0] 41 (0, 0)) (by (with_reducible repeat (first | refine blk_drewN ?_ _ | refine blk_drew ?_ | refine blk_alloc ?_ _)); exact BK511.out)) : gb518 ≠ gb511))
     clear HO514
     clear BK510
     clear BK511
     clear HB
     have HO514 := n0_
     have BK510 := n1_
     have BK511 := n2_
     have HB := n3_
     have BK518 := n4_
     have GW518 := n5_
     have GE518 := n6_
     have NB510_518 := n7_
     have NB518_510 := n8_
     have NB511_518 := n9_
     have NB518_511 := n10_
     clear n0_ n1_ n2_ n3_ n4_ n5_ n6_ n7_ n8_ n9_ n10_
     clear hb hbox hg
     refine hK.out _ _ ⟨(blk_cell BK510.out 0).trans rfl, (blk_cell BK510.out 1).trans rfl, (blk_cell BK510.out 2).trans rfl⟩ (fun hHeld => ?_)
     clear hK K
     refine norm_ (a' := ?_) ?_ ?_
     rotate_left
     ·show Act.put _ (some 3) _ = _
      simp only [Act.put, List.setIfInBounds_toArray, List.set_cons_zero, List.set_cons_succ, i64_w, i32_w]
      rfl
     refine one_ (i := 3) (N := some 9) #[true, true, true, true, true, true, false, true, false] rfl rfl (one_of HT_.out (by kernel_rfl)) (by decide) (fun K hK => ?_)
     refine Kd.R_append_rows_step k36 (w0 := w) w.heap.size (by rfl) (.tmp 6) (.tmp 8) 22 36 (.agg #[(.int .i64 0), (.int .i64 0), (.int .u32 0), (.int .u32 0)]) 24 rfl Tryd.underlying22 info36 rfl (by decide) (by omega) v513 y512 l0_1 _ _ _ (fun _ => True) (fun _ => False) rfl rfl ?aO ?aR (fun _ _ h => h) (fun _ h => h.elim) ?aF ?aB ?aS ?aL ?_
     (case aR => repeat (first | exact (Kd.C_below HR0_1.out HB.out) | (with_reducible refine Kd.C_alloc ?_ _) | (with_reducible refine Kd.C_drewN ?_ _) | (with_reducible refine Kd.C_drew ?_)))
     (case aB => exact (by repeat (first | (with_reducible first | exact HB.out | apply below_alloc | apply pw_below_drewN | apply below_drew1 | refine below_set ?_ GE510.out | refine below_set ?_ GE511.out | refine below_set ?_ GE518.out) | exact HB.out)))
     (case aF => exact (fun _ _ => trivial))
     (case aO => exact (by (with_reducible repeat (first | apply Kd.R_alloc | apply Kd.R_drewN | apply Kd.R_drew)); exact HO514.out))
     (case aS => exact (below_size (by repeat (first | (with_reducible first | exact HB.out | apply below_alloc | apply pw_below_drewN | apply below_drew1 | refine below_set ?_ GE510.out | refine below_set ?_ GE511.out | refine below_set ?_ GE518.out) | exact HB.out))))
     (case aL => have := LMc2.out; omega)
     intro v516 w9 ho hb hg hat
     rw [← Ny515.out] at ho
     have n0_ := Aside0.mk (blk_grown (g := gb510) (o := .cells #[.slice A0_0 l0_0.length c0_0, .slice A0_1 l0_1.length c0_1, .int .u32 a0_2] 41 (0, 0)) (by (with_reducible repeat (first | refine blk_drewN ?_ _ | refine blk_drew ?_ | refine blk_alloc ?_ _)); exact BK510.out) hg (Kd.R_ne HO514.out BK510.out (by decide)))
     have n1_ := Aside0.mk (blk_grown (g := gb511) (o := .cells #[.slice none 0 0, .slice none 0 0, .int .u32 0] 41 (0, 0)) (by (with_reducible repeat (first | refine blk_drewN ?_ _ | refine blk_drew ?_ | refine blk_alloc ?_ _)); exact BK511.out) hg (Kd.R_ne HO514.out BK511.out (by decide)))
     have n2_ := Aside0.mk (blk_grown (g := gb518) (o := .cells #[.slice none 0 0, .slice none 0 0, .int .u32 0] 41 (0, 0)) (by (with_reducible repeat (first | refine blk_drewN ?_ _ | refine blk_drew ?_ | refine blk_alloc ?_ _)); exact BK518.out) hg (Kd.R_ne HO514.out BK518.out (by decide)))
     have n3_ := Aside0.mk (hb)
     have n4_ := Aside0.mk (ho)
     clear BK510
     clear BK511
     clear BK518
     clear HB
     clear HO514
     have BK510 := n0_
     have BK511 := n1_
     have BK518 := n2_
     have HB := n3_
     have HO517 := n4_
     clear n0_ n1_ n2_ n3_ n4_
     clear ho hb hg hat
     obtain ⟨Ao10, co10, eo10⟩ := Kd.R_slice HO517.out
     (first | subst eo10 | (injection eo10 with f1_ f2_ f3_; have f4_ := f1_.symm; have f5_ := f3_.symm; clear f1_ f2_ f3_; subst f4_; subst f5_))
     refine hK.out _ _ ⟨(blk_cell BK510.out 0).trans rfl, (blk_cell BK510.out 1).trans rfl, (blk_cell BK510.out 2).trans rfl⟩ (fun hHeld => ?_)
     clear hK K
     refine norm_ (a' := ?_) ?_ ?_
     rotate_left
     ·show Act.put _ (some 9) _ = _
      simp only [Act.put, List.setIfInBounds_toArray, List.set_cons_zero, List.set_cons_succ, i64_w, i32_w]
      rfl
     refine pure_ (i := 6) (N := some 12) (v := ?_) (a' := ?_) #[true, true, true, true, true, true, true, true, false] rfl rfl (any_of HT_.out (by kernel_rfl)) (fun _ _ _ h => h) (Or.inl ⟨by rfl, ?_⟩) ?_ ?_
     rotate_left
     ·intro w'
      go_simp
      with_reducible rfl
     rotate_left
     ·simp only [Act.put, List.setIfInBounds_toArray, List.set_cons_zero, List.set_cons_succ, i64_w, i32_w]
      rfl
     exact norm_ (by simp only [putAll, Act.put, List.setIfInBounds_toArray, List.set_cons_zero, List.set_cons_succ]) (hCont (v513, .slice Ao10 y515.length co10, gb518) _ ⟨hHeld, (by (with_reducible repeat (first | apply Kd.R_alloc | apply Kd.R_drewN | apply Kd.R_drew)); exact HO517.out), (by (with_reducible repeat (first | refine blk_drewN ?_ _ | refine blk_drew ?_ | refine blk_alloc ?_ _)); exact BK510.out), (by (with_reducible repeat (first | refine blk_drewN ?_ _ | refine blk_drew ?_ | refine blk_alloc ?_ _)); exact BK511.out), (by (with_reducible repeat (first | refine blk_drewN ?_ _ | refine blk_drew ?_ | refine blk_alloc ?_ _)); exact BK518.out), GW518.out, GE518.out, NB510_518.out, NB518_510.out, NB511_518.out, NB518_511.out, (by repeat (first | (with_reducible first | exact HB.out | apply below_alloc | apply pw_below_drewN | apply below_drew1 | refine below_set ?_ GE510.out | refine below_set ?_ GE511.out | refine below_set ?_ GE518.out) | exact HB.out))⟩)
   ·skip
    refine box_step ?hg (N := 3) ?hd (cs := #[.slice none 0 0, .slice none 0 0, .int .u32 0]) (t := 41) ?hr ?_; (case hd => rfl); (case hg => rfl); (case hr => first | (go_simp; done) | (go_simp; rfl))
    intro gb518 hg w6 hbox hb
    have n0_ := Aside0.mk (blk_below (g := gb510) (o := .cells #[.slice A0_0 l0_0.length c0_0, .slice A0_1 l0_1.length c0_1, .int .u32 a0_2] 41 (0, 0)) (by (with_reducible repeat (first | refine blk_drewN ?_ _ | refine blk_drew ?_ | refine blk_alloc ?_ _)); exact BK510.out) hb)
    have n1_ := Aside0.mk (blk_below (g := gb511) (o := .cells #[.slice none 0 0, .slice none 0 0, .int .u32 0] 41 (0, 0)) (by (with_reducible repeat (first | refine blk_drewN ?_ _ | refine blk_drew ?_ | refine blk_alloc ?_ _)); exact BK511.out) hb)
    have n2_ := Aside0.mk (below_step (by repeat (first | (with_reducible first | exact HB.out | apply below_alloc | apply pw_below_drewN | apply below_drew1 | refine below_set ?_ GE510.out | refine below_set ?_ GE511.out) | exact HB.out)) hb)
    have n3_ := Aside0.mk (hbox)
    have n4_ := Aside0.mk ((by rw [hg]; exact (below_size (by repeat (first | (with_reducible first | exact HB.out | apply below_alloc | apply pw_below_drewN | apply below_drew1 | refine below_set ?_ GE510.out | refine below_set ?_ GE511.out) | exact HB.out))) : w.heap.size ≤ gb518))
    have n5_ := Aside0.mk ((by rw [hg]; exact (below_size (by repeat (first | (with_reducible first | exact HB.out | apply below_alloc | apply pw_below_drewN | apply below_drew1 | refine below_set ?_ GE510.out | refine below_set ?_ GE511.out) | exact HB.out))) : w.heap.size ≤ gb518))
    have n6_ := Aside0.mk ((by rw [hg]; exact Nat.ne_of_lt (blk_lt (g := gb510) (o := .cells #[.slice A0_0 l0_0.length c0_0, .slice A0_1 l0_1.length c0_1, .int .u32 a0_2] 41 (0, 0)) (by (with_reducible repeat (first | refine blk_drewN ?_ _ | refine blk_drew ?_ | refine blk_alloc ?_ _)); exact BK510.out)) : gb510 ≠ gb518))
    have n7_ := Aside0.mk ((by rw [hg]; exact Nat.ne_of_gt (blk_lt (g := gb510) (o := .cells #[.slice A0_0 l0_0.length c0_0, .slice A0_1 l0_1.length c0_1, .int .u32 a0_2] 41 (0, 0)) (by (with_reducible repeat (first | refine blk_drewN ?_ _ | refine blk_drew ?_ | refine blk_alloc ?_ _)); exact BK510.out)) : gb518 ≠ gb510))
    have n8_ := Aside0.mk ((by rw [hg]; exact Nat.ne_of_lt (blk_lt (g := gb511) (o := .cells #[.slice none 0 0, .slice none 0 0, .int .u32 0] 41 (0, 0)) (by (with_reducible repeat (first | refine blk_drewN ?_ _ | refine blk_drew ?_ | refine blk_alloc ?_ _)); exact BK511.out)) : gb511 ≠ gb518))
    have n9_ := Aside0.mk ((by rw [hg]; exact Nat.ne_of_gt (blk_lt (g := gb511) (o := .cells #[.slice none 0 0, .slice none 0 0, .int .u32 0] 41 (0, 0)) (by (with_reducible repeat (first | refine blk_drewN ?_ _ | refine blk_drew ?_ | refine blk_alloc ?_ _)); exact BK511.out)) : gb518 ≠ gb511))
    clear BK510
    clear BK511
    clear HB
    have BK510 := n0_
    have BK511 := n1_
    have HB := n2_
    have BK518 := n3_
    have GW518 := n4_
    have GE518 := n5_
    have NB510_518 := n6_
    have NB518_510 := n7_
    have NB511_518 := n8_
    have NB518_511 := n9_
    clear n0_ n1_ n2_ n3_ n4_ n5_ n6_ n7_ n8_ n9_
    clear hb hbox hg
    refine hK.out _ _ ⟨(blk_cell BK510.out 0).trans rfl, (blk_cell BK510.out 1).trans rfl, (blk_cell BK510.out 2).trans rfl⟩ (fun hHeld => ?_)
    clear hK K
    refine norm_ (a' := ?_) ?_ ?_
    rotate_left
    ·show Act.put _ (some 3) _ = _
     simp only [Act.put, List.setIfInBounds_toArray, List.set_cons_zero, List.set_cons_succ, i64_w, i32_w]
     rfl
    refine one_ (i := 0) (N := some 6) #[true, true, true, false, true, true, false, true, false] rfl rfl (one_of HT_.out (by kernel_rfl)) (by decide) (fun K hK => ?_)
    refine Kd.R_lit_step k36 _ 36 ?hg (N := 6) ?hd (xs := ([] : List (S36))) (inner := []) (ok := fun _ => True) (okp := fun _ => True) ?hr ?hp (fun _ hk => hk) trivial (Below.refl _ _) (Nat.le_refl _) (by simp) ?_; (case hd => rfl); (case hg => rfl); (case hr => first | (go_simp; done) | (go_simp; rfl)); (case hp => exact (Reps.none _ _))
    intro v513 w7 ho8 hb hg_ hnew_
    clear hg_ hnew_
    (first | rw [← Ny512.out] at ho8 | (simp only [Int.reduceToNat] at ho8; rw [← Ny512.out] at ho8))
    have n0_ := Aside0.mk (Kd.R_lower ho8 (below_size (by repeat (first | (with_reducible first | exact HB.out | apply below_alloc | apply pw_below_drewN | apply below_drew1 | refine below_set ?_ GE510.out | refine below_set ?_ GE511.out | refine below_set ?_ GE518.out) | exact HB.out))))
    have n1_ := Aside0.mk (blk_below (g := gb510) (o := .cells #[.slice A0_0 l0_0.length c0_0, .slice A0_1 l0_1.length c0_1, .int .u32 a0_2] 41 (0, 0)) (by (with_reducible repeat (first | refine blk_drewN ?_ _ | refine blk_drew ?_ | refine blk_alloc ?_ _)); exact BK510.out) hb)
    have n2_ := Aside0.mk (blk_below (g := gb511) (o := .cells #[.slice none 0 0, .slice none 0 0, .int .u32 0] 41 (0, 0)) (by (with_reducible repeat (first | refine blk_drewN ?_ _ | refine blk_drew ?_ | refine blk_alloc ?_ _)); exact BK511.out) hb)
    have n3_ := Aside0.mk (blk_below (g := gb518) (o := .cells #[.slice none 0 0, .slice none 0 0, .int .u32 0] 41 (0, 0)) (by (with_reducible repeat (first | refine blk_drewN ?_ _ | refine blk_drew ?_ | refine blk_alloc ?_ _)); exact BK518.out) hb)
    have n4_ := Aside0.mk (below_step (by repeat (first | (with_reducible first | exact HB.out | apply below_alloc | apply pw_below_drewN | apply below_drew1 | refine below_set ?_ GE510.out | refine below_set ?_ GE511.out | refine below_set ?_ GE518.out) | exact HB.out)) hb)
    clear BK510
    clear BK511
    clear BK518
    clear HB
    have HO514 := n0_
    have BK510 := n1_
    have BK511 := n2_
    have BK518 := n3_
    have HB := n4_
    clear n0_ n1_ n2_ n3_ n4_
    clear hb ho8
    refine hK.out _ _ ⟨(blk_cell BK510.out 0).trans rfl, (blk_cell BK510.out 1).trans rfl, (blk_cell BK510.out 2).trans rfl⟩ (fun hHeld => ?_)
    clear hK K
    refine norm_ (a' := ?_) ?_ ?_
    rotate_left
    ·show Act.put _ (some 6) _ = _
     simp only [Act.put, List.setIfInBounds_toArray, List.set_cons_zero, List.set_cons_succ, i64_w, i32_w]
     rfl
    refine one_ (i := 3) (N := some 9) #[true, true, true, true, true, true, false, true, false] rfl rfl (one_of HT_.out (by kernel_rfl)) (by decide) (fun K hK => ?_)
    refine Kd.R_append_rows_step k36 (w0 := w) w.heap.size (by rfl) (.tmp 6) (.tmp 8) 22 36 (.agg #[(.int .i64 0), (.int .i64 0), (.int .u32 0), (.int .u32 0)]) 24 rfl Tryd.underlying22 info36 rfl (by decide) (by omega) v513 y512 l0_1 _ _ _ (fun _ => True) (fun _ => False) rfl rfl ?aO ?aR (fun _ _ h => h) (fun _ h => h.elim) ?aF ?aB ?aS ?aL ?_
    (case aR => repeat (first | exact (Kd.C_below HR0_1.out HB.out) | (with_reducible refine Kd.C_alloc ?_ _) | (with_reducible refine Kd.C_drewN ?_ _) | (with_reducible refine Kd.C_drew ?_)))
    (case aB => exact (by repeat (first | (with_reducible first | exact HB.out | apply below_alloc | apply pw_below_drewN | apply below_drew1 | refine below_set ?_ GE510.out | refine below_set ?_ GE511.out | refine below_set ?_ GE518.out) | exact HB.out)))
    (case aF => exact (fun _ _ => trivial))
    (case aO => exact (by (with_reducible repeat (first | apply Kd.R_alloc | apply Kd.R_drewN | apply Kd.R_drew)); exact HO514.out))
    (case aS => exact (below_size (by repeat (first | (with_reducible first | exact HB.out | apply below_alloc | apply pw_below_drewN | apply below_drew1 | refine below_set ?_ GE510.out | refine below_set ?_ GE511.out | refine below_set ?_ GE518.out) | exact HB.out))))
    (case aL => have := LMc2.out; omega)
    intro v516 w9 ho hb hg hat
    rw [← Ny515.out] at ho
    have n0_ := Aside0.mk (blk_grown (g := gb510) (o := .cells #[.slice A0_0 l0_0.length c0_0, .slice A0_1 l0_1.length c0_1, .int .u32 a0_2] 41 (0, 0)) (by (with_reducible repeat (first | refine blk_drewN ?_ _ | refine blk_drew ?_ | refine blk_alloc ?_ _)); exact BK510.out) hg (Kd.R_ne HO514.out BK510.out (by decide)))
    have n1_ := Aside0.mk (blk_grown (g := gb511) (o := .cells #[.slice none 0 0, .slice none 0 0, .int .u32 0] 41 (0, 0)) (by (with_reducible repeat (first | refine blk_drewN ?_ _ | refine blk_drew ?_ | refine blk_alloc ?_ _)); exact BK511.out) hg (Kd.R_ne HO514.out BK511.out (by decide)))
    have n2_ := Aside0.mk (blk_grown (g := gb518) (o := .cells #[.slice none 0 0, .slice none 0 0, .int .u32 0] 41 (0, 0)) (by (with_reducible repeat (first | refine blk_drewN ?_ _ | refine blk_drew ?_ | refine blk_alloc ?_ _)); exact BK518.out) hg (Kd.R_ne HO514.out BK518.out (by decide)))
    have n3_ := Aside0.mk (hb)
    have n4_ := Aside0.mk (ho)
    clear BK510
    clear BK511
    clear BK518
    clear HB
    clear HO514
    have BK510 := n0_
    have BK511 := n1_
    have BK518 := n2_
    have HB := n3_
    have HO517 := n4_
    clear n0_ n1_ n2_ n3_ n4_
    clear ho hb hg hat
    obtain ⟨Ao10, co10, eo10⟩ := Kd.R_slice HO517.out
    (first | subst eo10 | (injection eo10 with f1_ f2_ f3_; have f4_ := f1_.symm; have f5_ := f3_.symm; clear f1_ f2_ f3_; subst f4_; subst f5_))
    refine hK.out _ _ ⟨(blk_cell BK510.out 0).trans rfl, (blk_cell BK510.out 1).trans rfl, (blk_cell BK510.out 2).trans rfl⟩ (fun hHeld => ?_)
    clear hK K
    refine norm_ (a' := ?_) ?_ ?_
    rotate_left
    ·show Act.put _ (some 9) _ = _
     simp only [Act.put, List.setIfInBounds_toArray, List.set_cons_zero, List.set_cons_succ, i64_w, i32_w]
     rfl
    refine pure_ (i := 6) (N := some 12) (v := ?_) (a' := ?_) #[true, true, true, true, true, true, true, true, false] rfl rfl (any_of HT_.out (by kernel_rfl)) (fun _ _ _ h => h) (Or.inl ⟨by rfl, ?_⟩) ?_ ?_
    rotate_left
    ·intro w'
     go_simp
     with_reducible rfl
    rotate_left
    ·simp only [Act.put, List.setIfInBounds_toArray, List.set_cons_zero, List.set_cons_succ, i64_w, i32_w]
     rfl
    exact norm_ (by simp only [putAll, Act.put, List.setIfInBounds_toArray, List.set_cons_zero, List.set_cons_succ]) (hCont (v513, .slice Ao10 y515.length co10, gb518) _ ⟨hHeld, (by (with_reducible repeat (first | apply Kd.R_alloc | apply Kd.R_drewN | apply Kd.R_drew)); exact HO517.out), (by (with_reducible repeat (first | refine blk_drewN ?_ _ | refine blk_drew ?_ | refine blk_alloc ?_ _)); exact BK510.out), (by (with_reducible repeat (first | refine blk_drewN ?_ _ | refine blk_drew ?_ | refine blk_alloc ?_ _)); exact BK511.out), (by (with_reducible repeat (first | refine blk_drewN ?_ _ | refine blk_drew ?_ | refine blk_alloc ?_ _)); exact BK518.out), GW518.out, GE518.out, NB510_518.out, NB518_510.out, NB511_518.out, NB518_511.out, (by repeat (first | (with_reducible first | exact HB.out | apply below_alloc | apply pw_below_drewN | apply below_drew1 | refine below_set ?_ GE510.out | refine below_set ?_ GE511.out | refine below_set ?_ GE518.out) | exact HB.out))⟩)
  rintro ⟨v513, v516, gb518⟩ w11 ⟨hS_, h0_, h1_, h2_, h3_, h4_, h5_, h6_, h7_, h8_, h9_, h10_⟩
  have n0_ : Aside0 (Kd.R k36 36 w11 w.heap.size (fun _ => True) v516 y515) := ⟨h0_⟩
  have n1_ : Aside0 (w11.heap[gb510]? = some (.cells #[.slice A0_0 l0_0.length c0_0, .slice A0_1 l0_1.length c0_1, .int .u32 a0_2] 41 (0, 0))) := ⟨h1_⟩
  have n2_ : Aside0 (w11.heap[gb511]? = some (.cells #[.slice none 0 0, .slice none 0 0, .int .u32 0] 41 (0, 0))) := ⟨h2_⟩
  have n3_ : Aside0 (w11.heap[gb518]? = some (.cells #[.slice none 0 0, .slice none 0 0, .int .u32 0] 41 (0, 0))) := ⟨h3_⟩
  have n4_ : Aside0 (w.heap.size ≤ gb518) := ⟨h4_⟩
  have n5_ : Aside0 (w.heap.size ≤ gb518) := ⟨h5_⟩
  have n6_ : Aside0 (gb510 ≠ gb518) := ⟨h6_⟩
  have n7_ : Aside0 (gb518 ≠ gb510) := ⟨h7_⟩
  have n8_ : Aside0 (gb511 ≠ gb518) := ⟨h8_⟩
  have n9_ : Aside0 (gb518 ≠ gb511) := ⟨h9_⟩
  have n10_ : Aside0 (Below w.heap.size w w11) := ⟨h10_⟩
  clear BK510
  clear BK511
  clear HB
  clear h0_ h1_ h2_ h3_ h4_ h5_ h6_ h7_ h8_ h9_ h10_
  have HO517 := n0_
  have BK510 := n1_
  have BK511 := n2_
  have BK518 := n3_
  have GW518 := n4_
  have GE518 := n5_
  have NB510_518 := n6_
  have NB518_510 := n7_
  have NB511_518 := n8_
  have NB518_511 := n9_
  have HB := n10_
  clear n0_ n1_ n2_ n3_ n4_ n5_ n6_ n7_ n8_ n9_ n10_
  have hHeld : w11.cell? ⟨gb510, 0, none⟩ = some (.slice A0_0 l0_0.length c0_0) ∧ w11.cell? ⟨gb510, 1, none⟩ = some (.slice A0_1 l0_1.length c0_1) ∧ w11.cell? ⟨gb510, 2, none⟩ = some (.int .u32 a0_2) := hS_
  obtain ⟨Ao12, co12, eo12⟩ := Kd.R_slice HO517.out
  (first | subst eo12 | (injection eo12 with f1_ f2_ f3_; have f4_ := f1_.symm; have f5_ := f3_.symm; clear f1_ f2_ f3_; subst f4_; subst f5_))
  refine norm_ (a' := ?_) ?_ ?_
  rotate_left
  ·simp only [putAll, Act.put, List.setIfInBounds_toArray, List.set_cons_zero, List.set_cons_succ]
   rfl
  refine one_ (i := 8) (N := none) #[true, true, true, true, true, true, true, true, true] rfl rfl (one_of HT_.out (by kernel_rfl)) (by decide) (fun K hK => ?_)
  have hs13 : w11.cell? ⟨gb518, 0, none⟩ = some (.slice none 0 0) := (blk_cell BK518.out 0).trans rfl
  have hfs13 := blk_frozen BK518.out 0
  have hns13_0 := NB510_518.out
  have hns13_1 := NB511_518.out
  have hms13_0 := NB518_510.out
  have hms13_1 := NB518_511.out
  have hs14 : w11.cell? ⟨gb518, 1, none⟩ = some (.slice none 0 0) := (blk_cell BK518.out 1).trans rfl
  have hfs14 := blk_frozen BK518.out 1
  have hns14_0 := NB510_518.out
  have hns14_1 := NB511_518.out
  have hms14_0 := NB518_510.out
  have hms14_1 := NB518_511.out
  have hs15 : w11.cell? ⟨gb518, 2, none⟩ = some (.int .u32 0) := (blk_cell BK518.out 2).trans rfl
  have hfs15 := blk_frozen BK518.out 2
  have hns15_0 := NB510_518.out
  have hns15_1 := NB511_518.out
  have hms15_0 := NB518_510.out
  have hms15_1 := NB518_511.out
  refine skip_ (w1 := ?_) (by rfl) rfl ?_ ?_
  rotate_left
  ·go_simp
   rfl
  refine hK.out _ _ ⟨((cell_far (p := ⟨gb518, _, none⟩) NB510_518.out _).trans (((cell_far (p := ⟨gb518, _, none⟩) NB510_518.out _).trans (((cell_far (p := ⟨gb518, _, none⟩) NB510_518.out _).trans (hHeld.1)))))), ((cell_far (p := ⟨gb518, _, none⟩) NB510_518.out _).trans (((cell_far (p := ⟨gb518, _, none⟩) NB510_518.out _).trans (((cell_far (p := ⟨gb518, _, none⟩) NB510_518.out _).trans (hHeld.2.1)))))), ((cell_far (p := ⟨gb518, _, none⟩) NB510_518.out _).trans (((cell_far (p := ⟨gb518, _, none⟩) NB510_518.out _).trans (((cell_far (p := ⟨gb518, _, none⟩) NB510_518.out _).trans (hHeld.2.2))))))⟩ (fun hHeld => ?_)
  clear hK K
  refine done_ (done_of HT_.out (by kernel_rfl)) ?_
  have hnb16 := NB510_511.out
  have hnc16 := NB511_510.out
  have hnb17 := NB510_518.out
  have hnc17 := NB518_510.out
  have hcz18_0 : w11.cell? ⟨gb510, 0, none⟩ = some (.slice A0_0 l0_0.length c0_0) := (blk_cell BK510.out 0).trans rfl
  have hcz18_1 : w11.cell? ⟨gb510, 1, none⟩ = some (.slice A0_1 l0_1.length c0_1) := (blk_cell BK510.out 1).trans rfl
  have hcz18_2 : w11.cell? ⟨gb510, 2, none⟩ = some (.int .u32 a0_2) := (blk_cell BK510.out 2).trans rfl
  have hfz18_0 := blk_frozen BK510.out 0
  have hfz18_1 := blk_frozen BK510.out 1
  have hfz18_2 := blk_frozen BK510.out 2
  try go_wp2
  go_loopg [16] k (fun kq v16 w' => ∃ (x16_1 : Int) (x519000_1 : List (S90)) (u519000 : Value), v16 = .int .i64 x16_1 ∧ Aside0 (mainsheetlaw19_Ask_copied.l0 kq l0_0 (l0_0.length : Int) x16_1 x519000_1 y515 a0_2 = some (r1, r2, r3)) ∧ Aside0 (kq ≤ k) ∧ Aside0 (Kd.S k90 90 w' w.heap.size (fun _ => True) u519000 x519000_1) ∧ Aside0 (Kd.R k36 36 w' w.heap.size (fun _ => True) (.slice Ao12 y515.length co12) y515) ∧ Aside0 (w'.heap[gb510]? = some (.cells #[(.slice A0_0 l0_0.length c0_0), (.slice A0_1 l0_1.length c0_1), .int .u32 a0_2] 41 (0, 0))) ∧ Aside0 (w'.heap[gb511]? = some (.cells #[(.slice none 0 0), (.slice none 0 0), .int .u32 0] 41 (0, 0))) ∧ Aside0 (w'.heap[gb518]? = some (.cells #[u519000, (.slice Ao12 y515.length co12), .int .u32 a0_2] 41 (0, 0))) ∧ Aside0 (Below w.heap.size w w'))
  case atStart => exact ⟨(0), (([] : List (S90))), (.slice none 0 0), (by first | rfl | (simp; done) | (simp [*]; done)), H', ⟨Nat.le_refl _⟩, ⟨by first | exact Kd.S_nil _ _ _ _ _ | exact Kd.N_nil _ _ _ _ _ | exact Kd.V_nil _ _ _ _ _ | exact Kd.Q_nil _ _ _ _ _ | exact Kd.R_nil _ _ _ _ _⟩, ⟨by (with_reducible repeat (first | apply Kd.R_alloc | apply Kd.R_drewN | apply Kd.R_drew)); exact Kd.R_mono (Kd.R_far (p := ⟨gb518, 2, none⟩) (Kd.R_far (p := ⟨gb518, 1, none⟩) (Kd.R_far (p := ⟨gb518, 0, none⟩) (Kd.R_types HO517.out BK518.out (by decide)) (fun _ hk => hk.2) (.slice none 0 0)) (fun _ hk => hk.2) (.slice Ao12 y515.length co12)) (fun _ hk => hk.2) (.int .u32 a0_2)) (fun _ hk => trivial)⟩, ⟨by (with_reducible repeat (first | refine blk_drewN ?_ _ | refine blk_drew ?_ | refine blk_alloc ?_ _)); refine blk_far ?_ NB510_518.out _; (with_reducible repeat (first | refine blk_drewN ?_ _ | refine blk_drew ?_ | refine blk_alloc ?_ _)); refine blk_far ?_ NB510_518.out _; (with_reducible repeat (first | refine blk_drewN ?_ _ | refine blk_drew ?_ | refine blk_alloc ?_ _)); refine blk_far ?_ NB510_518.out _; (with_reducible repeat (first | refine blk_drewN ?_ _ | refine blk_drew ?_ | refine blk_alloc ?_ _)); exact BK510.out⟩, ⟨by (with_reducible repeat (first | refine blk_drewN ?_ _ | refine blk_drew ?_ | refine blk_alloc ?_ _)); refine blk_far ?_ NB511_518.out _; (with_reducible repeat (first | refine blk_drewN ?_ _ | refine blk_drew ?_ | refine blk_alloc ?_ _)); refine blk_far ?_ NB511_518.out _; (with_reducible repeat (first | refine blk_drewN ?_ _ | refine blk_drew ?_ | refine blk_alloc ?_ _)); refine blk_far ?_ NB511_518.out _; (with_reducible repeat (first | refine blk_drewN ?_ _ | refine blk_drew ?_ | refine blk_alloc ?_ _)); exact BK511.out⟩, ⟨by (with_reducible repeat (first | refine blk_drewN ?_ _ | refine blk_drew ?_ | refine blk_alloc ?_ _)); refine blk_put (cs := #[.slice none 0 0, .slice Ao12 y515.length co12, .int .u32 0]) ?_ 2 _ rfl; (with_reducible repeat (first | refine blk_drewN ?_ _ | refine blk_drew ?_ | refine blk_alloc ?_ _)); refine blk_put (cs := #[.slice none 0 0, .slice none 0 0, .int .u32 0]) ?_ 1 _ rfl; (with_reducible repeat (first | refine blk_drewN ?_ _ | refine blk_drew ?_ | refine blk_alloc ?_ _)); refine blk_put (cs := #[.slice none 0 0, .slice none 0 0, .int .u32 0]) ?_ 0 _ rfl; (with_reducible repeat (first | refine blk_drewN ?_ _ | refine blk_drew ?_ | refine blk_alloc ?_ _)); exact BK518.out⟩, ⟨by repeat (first | (with_reducible first | exact HB.out | apply below_alloc | apply pw_below_drewN | apply below_drew1 | refine below_set ?_ GE510.out | refine below_set ?_ GE511.out | refine below_set ?_ GE518.out) | exact HB.out)⟩⟩
  case round =>
   clear H'
   try clear c1
   try clear c2
   try clear p2
   try clear c4
   try clear c16
   try clear c17
   try clear hcz18_0
   try clear hcz18_1
   try clear hcz18_2
   try clear hfz18_0
   try clear hfz18_1
   try clear hfz18_2
   obtain ⟨x16_1, x519000_1, u519000, rfl, HA, HK1, HO_519000, HO_519001, BK510, BK511, BK518, HB⟩ := hrel
   cases gk with
   | zero => exact absurd HA.out (by simp [mainsheetlaw19_Ask_copied.l0])
   | succ k1 =>
    have H := HA.out
    clear HA
    simp only [mainsheetlaw19_Ask_copied.l0] at H
    by_cases c19 : x16_1 < (l0_0.length : Int)
    ·rw [if_pos c19] at H
     have c19b0 : decide (x16_1 < (l0_0.length : Int)) = true := decide_eq_true c19
     clear c19
     by_cases c20 : 0 ≤ x16_1
     ·rw [if_pos c20] at H
      have c20b0 : decide (0 ≤ x16_1) = true := decide_eq_true c20
      clear c20
      by_cases c21 : x16_1 < (l0_0.length : Int)
      ·rw [if_pos c21] at H
       have c21b0 : decide (x16_1 < (l0_0.length : Int)) = true := decide_eq_true c21
       clear c21
       obtain ⟨y521, hy521⟩ : ∃ y_ : List Int, y_ = (([] : List Int)) := ⟨_, rfl⟩
       replace H : (if y521.length + ((rd_T90 l0_0 x16_1).f0).length < 17592186044416 then (if x519000_1.length < 2199023255552 then (mainsheetlaw19_Ask_copied.l0 k1 l0_0 (l0_0.length : Int) (wrap64 (x16_1 + 1)) (x519000_1 ++ [(⟨(y521 ++ ((rd_T90 l0_0 x16_1).f0)), (⟨(⟨(rd_T90 l0_0 x16_1).f1.f0.f0, (rd_T90 l0_0 x16_1).f1.f0.f1⟩ : S86), (rd_T90 l0_0 x16_1).f1.f1⟩ : S88), (rd_T90 l0_0 x16_1).f2, (rd_T90 l0_0 x16_1).f3⟩ : S90)]) y515 a0_2) else (none)) else (none)) = some (r1, r2, r3) := by first | (rw [hy521]; with_reducible exact H) | (have H2_ := (Option.bind_some _ _).symm.trans H; rw [hy521]; with_reducible exact H2_) | (have H2_ := (Option.bind_some _ _).symm.trans H; with_reducible exact H2_) | with_reducible exact H | (rw [hy521]; exact H) | exact H
       have Ny521 := Aside0.mk hy521
       clear hy521
       by_cases c22 : y521.length + ((rd_T90 l0_0 x16_1).f0).length < 17592186044416
       ·rw [if_pos c22] at H
        have LMc22 := Aside0.mk c22
        clear c22
        obtain ⟨y524, hy524⟩ : ∃ y_ : List Int, y_ = (y521 ++ ((rd_T90 l0_0 x16_1).f0)) := ⟨_, rfl⟩
        replace H : (if x519000_1.length < 2199023255552 then (mainsheetlaw19_Ask_copied.l0 k1 l0_0 (l0_0.length : Int) (wrap64 (x16_1 + 1)) (x519000_1 ++ [(⟨y524, (⟨(⟨(rd_T90 l0_0 x16_1).f1.f0.f0, (rd_T90 l0_0 x16_1).f1.f0.f1⟩ : S86), (rd_T90 l0_0 x16_1).f1.f1⟩ : S88), (rd_T90 l0_0 x16_1).f2, (rd_T90 l0_0 x16_1).f3⟩ : S90)]) y515 a0_2) else (none)) = some (r1, r2, r3) := by first | (rw [hy524]; with_reducible exact H) | (have H2_ := (Option.bind_some _ _).symm.trans H; rw [hy524]; with_reducible exact H2_) | (have H2_ := (Option.bind_some _ _).symm.trans H; with_reducible exact H2_) | with_reducible exact H | (rw [hy524]; exact H) | exact H
        have Ny524 := Aside0.mk hy524
        clear hy524
        by_cases c23 : x519000_1.length < 2199023255552
        ·rw [if_pos c23] at H
         have LMc23 := Aside0.mk c23
         clear c23
         obtain ⟨y527, hy527⟩ : ∃ y_ : List (S90), y_ = (x519000_1 ++ [(⟨y524, (⟨(⟨(rd_T90 l0_0 x16_1).f1.f0.f0, (rd_T90 l0_0 x16_1).f1.f0.f1⟩ : S86), (rd_T90 l0_0 x16_1).f1.f1⟩ : S88), (rd_T90 l0_0 x16_1).f2, (rd_T90 l0_0 x16_1).f3⟩ : S90)]) := ⟨_, rfl⟩
         replace H : (mainsheetlaw19_Ask_copied.l0 k1 l0_0 (l0_0.length : Int) (wrap64 (x16_1 + 1)) y527 y515 a0_2) = some (r1, r2, r3) := by first | (rw [hy527]; with_reducible exact H) | (have H2_ := (Option.bind_some _ _).symm.trans H; rw [hy527]; with_reducible exact H2_) | (have H2_ := (Option.bind_some _ _).symm.trans H; with_reducible exact H2_) | with_reducible exact H | (rw [hy527]; exact H) | exact H
         have Ny527 := Aside0.mk hy527
         clear hy527
         have H' := Aside0.mk H
         clear H
         have p519 : 0 ≤ (x16_1 : Int) := of_decide_eq_true (by first | (with_reducible assumption) | assumption)
         have q519 : x16_1 < (l0_0.length : Int) := of_decide_eq_true (by first | (with_reducible assumption) | assumption)
         obtain ⟨ad519, A519_0, c519_0, e519, hx519_0, hx519_1, hx519_2, hx519_3, hx519_4, hx519_5, hl519_0, hi519_0⟩ := at_T90 HR0_0.out x16_1 p519 q519
         cases e519
         replace hx519_0 := (HB.out.cell (World.block_lt_of_cell? w _ hx519_0)).trans hx519_0
         replace hx519_1 := (HB.out.cell (World.block_lt_of_cell? w _ hx519_1)).trans hx519_1
         replace hx519_2 := (HB.out.cell (World.block_lt_of_cell? w _ hx519_2)).trans hx519_2
         replace hx519_3 := (HB.out.cell (World.block_lt_of_cell? w _ hx519_3)).trans hx519_3
         replace hx519_4 := (HB.out.cell (World.block_lt_of_cell? w _ hx519_4)).trans hx519_4
         replace hx519_5 := (HB.out.cell (World.block_lt_of_cell? w _ hx519_5)).trans hx519_5
         have HR519_0 := Aside0.mk hi519_0
         have HC519_0 := Aside0.mk hl519_0
         clear hi519_0 hl519_0
         replace p519 := eq_true p519
         replace q519 := eq_true q519
         go_wp2_with (first | ((with_reducible refine gate_dst (N := 5) rfl ?_); refine box_event ?hg (N := 5) ?hd (cs := #[.slice none 0 0, .int .u64 0, .int .u64 0, .int .u64 0, .int .u64 0, .bool false]) (t := 90) ?hr ?_; (case hd => rfl); (case hg => rfl); (case hr => first | (go_simp; done) | (go_simp; rfl)); intro gb520 hg w24 hbox hb; have n0_ := Aside0.mk (Kd.S_below (Kd.S_elderB (by (with_reducible repeat (first | apply Kd.S_alloc | apply Kd.S_drewN | apply Kd.S_drew)); exact HO_519000.out) gb520 (Nat.le_of_eq hg.symm)) hb); have n1_ := Aside0.mk (Kd.R_below (by (with_reducible repeat (first | apply Kd.R_alloc | apply Kd.R_drewN | apply Kd.R_drew)); exact HO_519001.out) hb); have n2_ := Aside0.mk (blk_below (g := gb510) (o := .cells #[.slice (some ad519) l0_0.length c0_0, .slice A0_1 l0_1.length c0_1, .int .u32 a0_2] 41 (0, 0)) (by (with_reducible repeat (first | refine blk_drewN ?_ _ | refine blk_drew ?_ | refine blk_alloc ?_ _)); exact BK510.out) hb); have n3_ := Aside0.mk (blk_below (g := gb511) (o := .cells #[.slice none 0 0, .slice none 0 0, .int .u32 0] 41 (0, 0)) (by (with_reducible repeat (first | refine blk_drewN ?_ _ | refine blk_drew ?_ | refine blk_alloc ?_ _)); exact BK511.out) hb); have n4_ := Aside0.mk (blk_below (g := gb518) (o := .cells #[u519000, .slice Ao12 y515.length co12, .int .u32 a0_2] 41 (0, 0)) (by (with_reducible repeat (first | refine blk_drewN ?_ _ | refine blk_drew ?_ | refine blk_alloc ?_ _)); exact BK518.out) hb); have n5_ := Aside0.mk (below_step (by repeat (first | (with_reducible first | exact HB.out | apply below_alloc | apply pw_below_drewN | apply below_drew1 | refine below_set ?_ GE510.out | refine below_set ?_ GE511.out | refine below_set ?_ GE518.out) | exact HB.out)) hb); have n6_ := Aside0.mk (hbox); have n7_ := Aside0.mk ((by rw [hg]; exact (below_size (by repeat (first | (with_reducible first | exact HB.out | apply below_alloc | apply pw_below_drewN | apply below_drew1 | refine below_set ?_ GE510.out | refine below_set ?_ GE511.out | refine below_set ?_ GE518.out) | exact HB.out))) : w.heap.size ≤ gb520)); have n8_ := Aside0.mk ((by rw [hg]; exact (below_size (by repeat (first | (with_reducible first | exact HB.out | apply below_alloc | apply pw_below_drewN | apply below_drew1 | refine below_set ?_ GE510.out | refine below_set ?_ GE511.out | refine below_set ?_ GE518.out) | exact HB.out))) : w.heap.size ≤ gb520)); have n9_ := Aside0.mk ((by rw [hg]; exact Nat.ne_of_lt (blk_lt (g := gb510) (o := .cells #[.slice (some ad519) l0_0.length c0_0, .slice A0_1 l0_1.length c0_1, .int .u32 a0_2] 41 (0, 0)) (by (with_reducible repeat (first | refine blk_drewN ?_ _ | refine blk_drew ?_ | refine blk_alloc ?_ _)); exact BK510.out)) : gb510 ≠ gb520)); have n10_ := Aside0.mk ((by rw [hg]; exact Nat.ne_of_gt (blk_lt (g := gb510) (o := .cells #[.slice (some ad519) l0_0.length c0_0, .slice A0_1 l0_1.length c0_1, .int .u32 a0_2] 41 (0, 0)) (by (with_reducible repeat (first | refine blk_drewN ?_ _ | refine blk_drew ?_ | refine blk_alloc ?_ _)); exact BK510.out)) : gb520 ≠ gb510)); have n11_ := Aside0.mk ((by rw [hg]; exact Nat.ne_of_lt (blk_lt (g := gb511) (o := .cells #[.slice none 0 0, .slice none 0 0, .int .u32 0] 41 (0, 0)) (by (with_reducible repeat (first | refine blk_drewN ?_ _ | refine blk_drew ?_ | refine blk_alloc ?_ _)); exact BK511.out)) : gb511 ≠ gb520)); have n12_ := Aside0.mk ((by rw [hg]; exact Nat.ne_of_gt (blk_lt (g := gb511) (o := .cells #[.slice none 0 0, .slice none 0 0, .int .u32 0] 41 (0, 0)) (by (with_reducible repeat (first | refine blk_drewN ?_ _ | refine blk_drew ?_ | refine blk_alloc ?_ _)); exact BK511.out)) : gb520 ≠ gb511)); have n13_ := Aside0.mk ((by rw [hg]; exact Nat.ne_of_lt (blk_lt (g := gb518) (o := .cells #[u519000, .slice Ao12 y515.length co12, .int .u32 a0_2] 41 (0, 0)) (by (with_reducible repeat (first | refine blk_drewN ?_ _ | refine blk_drew ?_ | refine blk_alloc ?_ _)); exact BK518.out)) : gb518 ≠ gb520)); have n14_ := Aside0.mk ((by rw [hg]; exact Nat.ne_of_gt (blk_lt (g := gb518) (o := .cells #[u519000, .slice Ao12 y515.length co12, .int .u32 a0_2] 41 (0, 0)) (by (with_reducible repeat (first | refine blk_drewN ?_ _ | refine blk_drew ?_ | refine blk_alloc ?_ _)); exact BK518.out)) : gb520 ≠ gb518)); clear HO_519000; clear HO_519001; clear BK510; clear BK511; clear BK518; clear HB; have HO_519000 := n0_; have HO_519001 := n1_; have BK510 := n2_; have BK511 := n3_; have BK518 := n4_; have HB := n5_; have BK520 := n6_; have GW520 := n7_; have GE520 := n8_; have NB510_520 := n9_; have NB520_510 := n10_; have NB511_520 := n11_; have NB520_511 := n12_; have NB518_520 := n13_; have NB520_518 := n14_; clear n0_ n1_ n2_ n3_ n4_ n5_ n6_ n7_ n8_ n9_ n10_ n11_ n12_ n13_ n14_; clear hb hbox hg; have hnb25 := NB520_510.out; have hnc25 := NB510_520.out; have hnb26 := NB520_511.out; have hnc26 := NB511_520.out; have hnb27 := NB520_518.out; have hnc27 := NB518_520.out; have hcz28_0 : w24.cell? ⟨gb520, 0, none⟩ = some (.slice none 0 0) := (blk_cell BK520.out 0).trans rfl; have hcz28_1 : w24.cell? ⟨gb520, 1, none⟩ = some (.int .u64 0) := (blk_cell BK520.out 1).trans rfl; have hcz28_2 : w24.cell? ⟨gb520, 2, none⟩ = some (.int .u64 0) := (blk_cell BK520.out 2).trans rfl; have hcz28_3 : w24.cell? ⟨gb520, 3, none⟩ = some (.int .u64 0) := (blk_cell BK520.out 3).trans rfl; have hcz28_4 : w24.cell? ⟨gb520, 4, none⟩ = some (.int .u64 0) := (blk_cell BK520.out 4).trans rfl; have hcz28_5 : w24.cell? ⟨gb520, 5, none⟩ = some (.bool false) := (blk_cell BK520.out 5).trans rfl; have hfz28_0 := blk_frozen BK520.out 0; have hfz28_1 := blk_frozen BK520.out 1; have hfz28_2 := blk_frozen BK520.out 2; have hfz28_3 := blk_frozen BK520.out 3; have hfz28_4 := blk_frozen BK520.out 4; have hfz28_5 := blk_frozen BK520.out 5) | ((with_reducible refine gate_dst (N := 20) rfl ?_); refine Kd.R_lit (Kd.int .i64) _ 3 ?hg (N := 20) ?hd (xs := ([] : List Int)) (inner := []) (ok := fun _ => True) (okp := fun _ => True) ?hr ?hp (fun _ hk => hk) trivial (Below.refl _ _) (Nat.le_refl _) (by simp) ?_; (case hd => rfl); (case hg => rfl); (case hr => first | (go_simp; done) | (go_simp; rfl)); (case hp => exact (Reps.none _ _)); intro v522 w29 ho30 hb hg_ hnew_; clear hg_ hnew_; (first | rw [← Ny521.out] at ho30 | (simp only [Int.reduceToNat] at ho30; rw [← Ny521.out] at ho30)); have n0_ := Aside0.mk (Kd.S_elder' (by (with_reducible repeat (first | apply Kd.S_alloc | apply Kd.S_drewN | apply Kd.S_drew)); exact (Kd.S_mono (Kd.S_far (p := ⟨gb520, 5, none⟩) (Kd.S_far (p := ⟨gb520, 4, none⟩) (Kd.S_far (p := ⟨gb520, 3, none⟩) (Kd.S_far (p := ⟨gb520, 2, none⟩) (Kd.S_far (p := ⟨gb520, 1, none⟩) (Kd.S_far (p := ⟨gb520, 0, none⟩) (Kd.S_mono HO_519000.out (fun k_ hk => (⟨hk, hk.2⟩ : _ ∧ k_ ≠ gb520))) (fun _ hk => hk.2) (.slice A519_0 ((rd_T90 l0_0 x16_1).f0).length c519_0)) (fun _ hk => hk.2) (.int .u64 ((rd_T90 l0_0 x16_1).f1.f0.f0))) (fun _ hk => hk.2) (.int .u64 ((rd_T90 l0_0 x16_1).f1.f0.f1))) (fun _ hk => hk.2) (.int .u64 ((rd_T90 l0_0 x16_1).f1.f1))) (fun _ hk => hk.2) (.int .u64 ((rd_T90 l0_0 x16_1).f2))) (fun _ hk => hk.2) (.bool ((rd_T90 l0_0 x16_1).f3))) (fun _ h_ => h_.1))) (Kd.R_base ho30) hb); have n1_ := Aside0.mk (Kd.R_below (by (with_reducible repeat (first | apply Kd.R_alloc | apply Kd.R_drewN | apply Kd.R_drew)); exact (Kd.R_mono (Kd.R_far (p := ⟨gb520, 5, none⟩) (Kd.R_far (p := ⟨gb520, 4, none⟩) (Kd.R_far (p := ⟨gb520, 3, none⟩) (Kd.R_far (p := ⟨gb520, 2, none⟩) (Kd.R_far (p := ⟨gb520, 1, none⟩) (Kd.R_far (p := ⟨gb520, 0, none⟩) (Kd.R_types HO_519001.out BK520.out (by decide)) (fun _ hk => hk.2) (.slice A519_0 ((rd_T90 l0_0 x16_1).f0).length c519_0)) (fun _ hk => hk.2) (.int .u64 ((rd_T90 l0_0 x16_1).f1.f0.f0))) (fun _ hk => hk.2) (.int .u64 ((rd_T90 l0_0 x16_1).f1.f0.f1))) (fun _ hk => hk.2) (.int .u64 ((rd_T90 l0_0 x16_1).f1.f1))) (fun _ hk => hk.2) (.int .u64 ((rd_T90 l0_0 x16_1).f2))) (fun _ hk => hk.2) (.bool ((rd_T90 l0_0 x16_1).f3))) (fun _ h_ => h_.1))) hb); have n2_ := Aside0.mk (Kd.R_lower ho30 (below_size (by repeat (first | (with_reducible first | exact HB.out | apply below_alloc | apply pw_below_drewN | apply below_drew1 | refine below_set ?_ GE510.out | refine below_set ?_ GE511.out | refine below_set ?_ GE518.out | refine below_set ?_ GE520.out) | exact HB.out)))); have n3_ := Aside0.mk (blk_below (g := gb510) (o := .cells #[.slice (some ad519) l0_0.length c0_0, .slice A0_1 l0_1.length c0_1, .int .u32 a0_2] 41 (0, 0)) (by (with_reducible repeat (first | refine blk_drewN ?_ _ | refine blk_drew ?_ | refine blk_alloc ?_ _)); refine blk_far ?_ NB510_520.out _; (with_reducible repeat (first | refine blk_drewN ?_ _ | refine blk_drew ?_ | refine blk_alloc ?_ _)); refine blk_far ?_ NB510_520.out _; (with_reducible repeat (first | refine blk_drewN ?_ _ | refine blk_drew ?_ | refine blk_alloc ?_ _)); refine blk_far ?_ NB510_520.out _; (with_reducible repeat (first | refine blk_drewN ?_ _ | refine blk_drew ?_ | refine blk_alloc ?_ _)); refine blk_far ?_ NB510_520.out _; (with_reducible repeat (first | refine blk_drewN ?_ _ | refine blk_drew ?_ | refine blk_alloc ?_ _)); refine blk_far ?_ NB510_520.out _; (with_reducible repeat (first | refine blk_drewN ?_ _ | refine blk_drew ?_ | refine blk_alloc ?_ _)); refine blk_far ?_ NB510_520.out _; (with_reducible repeat (first | refine blk_drewN ?_ _ | refine blk_drew ?_ | refine blk_alloc ?_ _)); exact BK510.out) hb); have n4_ := Aside0.mk (blk_below (g := gb511) (o := .cells #[.slice none 0 0, .slice none 0 0, .int .u32 0] 41 (0, 0)) (by (with_reducible repeat (first | refine blk_drewN ?_ _ | refine blk_drew ?_ | refine blk_alloc ?_ _)); refine blk_far ?_ NB511_520.out _; (with_reducible repeat (first | refine blk_drewN ?_ _ | refine blk_drew ?_ | refine blk_alloc ?_ _)); refine blk_far ?_ NB511_520.out _; (with_reducible repeat (first | refine blk_drewN ?_ _ | refine blk_drew ?_ | refine blk_alloc ?_ _)); refine blk_far ?_ NB511_520.out _; (with_reducible repeat (first | refine blk_drewN ?_ _ | refine blk_drew ?_ | refine blk_alloc ?_ _)); refine blk_far ?_ NB511_520.out _; (with_reducible repeat (first | refine blk_drewN ?_ _ | refine blk_drew ?_ | refine blk_alloc ?_ _)); refine blk_far ?_ NB511_520.out _; (with_reducible repeat (first | refine blk_drewN ?_ _ | refine blk_drew ?_ | refine blk_alloc ?_ _)); refine blk_far ?_ NB511_520.out _; (with_reducible repeat (first | refine blk_drewN ?_ _ | refine blk_drew ?_ | refine blk_alloc ?_ _)); exact BK511.out) hb); have n5_ := Aside0.mk (blk_below (g := gb518) (o := .cells #[u519000, .slice Ao12 y515.length co12, .int .u32 a0_2] 41 (0, 0)) (by (with_reducible repeat (first | refine blk_drewN ?_ _ | refine blk_drew ?_ | refine blk_alloc ?_ _)); refine blk_far ?_ NB518_520.out _; (with_reducible repeat (first | refine blk_drewN ?_ _ | refine blk_drew ?_ | refine blk_alloc ?_ _)); refine blk_far ?_ NB518_520.out _; (with_reducible repeat (first | refine blk_drewN ?_ _ | refine blk_drew ?_ | refine blk_alloc ?_ _)); refine blk_far ?_ NB518_520.out _; (with_reducible repeat (first | refine blk_drewN ?_ _ | refine blk_drew ?_ | refine blk_alloc ?_ _)); refine blk_far ?_ NB518_520.out _; (with_reducible repeat (first | refine blk_drewN ?_ _ | refine blk_drew ?_ | refine blk_alloc ?_ _)); refine blk_far ?_ NB518_520.out _; (with_reducible repeat (first | refine blk_drewN ?_ _ | refine blk_drew ?_ | refine blk_alloc ?_ _)); refine blk_far ?_ NB518_520.out _; (with_reducible repeat (first | refine blk_drewN ?_ _ | refine blk_drew ?_ | refine blk_alloc ?_ _)); exact BK518.out) hb); have n6_ := Aside0.mk (blk_below (g := gb520) (o := .cells #[.slice A519_0 ((rd_T90 l0_0 x16_1).f0).length c519_0, .int .u64 ((rd_T90 l0_0 x16_1).f1.f0.f0), .int .u64 ((rd_T90 l0_0 x16_1).f1.f0.f1), .int .u64 ((rd_T90 l0_0 x16_1).f1.f1), .int .u64 ((rd_T90 l0_0 x16_1).f2), .bool ((rd_T90 l0_0 x16_1).f3)] 90 (0, 0)) (by (with_reducible repeat (first | refine blk_drewN ?_ _ | refine blk_drew ?_ | refine blk_alloc ?_ _)); refine blk_put (cs := #[.slice A519_0 ((rd_T90 l0_0 x16_1).f0).length c519_0, .int .u64 ((rd_T90 l0_0 x16_1).f1.f0.f0), .int .u64 ((rd_T90 l0_0 x16_1).f1.f0.f1), .int .u64 ((rd_T90 l0_0 x16_1).f1.f1), .int .u64 ((rd_T90 l0_0 x16_1).f2), .bool false]) ?_ 5 _ rfl; (with_reducible repeat (first | refine blk_drewN ?_ _ | refine blk_drew ?_ | refine blk_alloc ?_ _)); refine blk_put (cs := #[.slice A519_0 ((rd_T90 l0_0 x16_1).f0).length c519_0, .int .u64 ((rd_T90 l0_0 x16_1).f1.f0.f0), .int .u64 ((rd_T90 l0_0 x16_1).f1.f0.f1), .int .u64 ((rd_T90 l0_0 x16_1).f1.f1), .int .u64 0, .bool false]) ?_ 4 _ rfl; (with_reducible repeat (first | refine blk_drewN ?_ _ | refine blk_drew ?_ | refine blk_alloc ?_ _)); refine blk_put (cs := #[.slice A519_0 ((rd_T90 l0_0 x16_1).f0).length c519_0, .int .u64 ((rd_T90 l0_0 x16_1).f1.f0.f0), .int .u64 ((rd_T90 l0_0 x16_1).f1.f0.f1), .int .u64 0, .int .u64 0, .bool false]) ?_ 3 _ rfl; (with_reducible repeat (first | refine blk_drewN ?_ _ | refine blk_drew ?_ | refine blk_alloc ?_ _)); refine blk_put (cs := #[.slice A519_0 ((rd_T90 l0_0 x16_1).f0).length c519_0, .int .u64 ((rd_T90 l0_0 x16_1).f1.f0.f0), .int .u64 0, .int .u64 0, .int .u64 0, .bool false]) ?_ 2 _ rfl; (with_reducible repeat (first | refine blk_drewN ?_ _ | refine blk_drew ?_ | refine blk_alloc ?_ _)); refine blk_put (cs := #[.slice A519_0 ((rd_T90 l0_0 x16_1).f0).length c519_0, .int .u64 0, .int .u64 0, .int .u64 0, .int .u64 0, .bool false]) ?_ 1 _ rfl; (with_reducible repeat (first | refine blk_drewN ?_ _ | refine blk_drew ?_ | refine blk_alloc ?_ _)); refine blk_put (cs := #[.slice none 0 0, .int .u64 0, .int .u64 0, .int .u64 0, .int .u64 0, .bool false]) ?_ 0 _ rfl; (with_reducible repeat (first | refine blk_drewN ?_ _ | refine blk_drew ?_ | refine blk_alloc ?_ _)); exact BK520.out) hb); have n7_ := Aside0.mk (below_step (by repeat (first | (with_reducible first | exact HB.out | apply below_alloc | apply pw_below_drewN | apply below_drew1 | refine below_set ?_ GE510.out | refine below_set ?_ GE511.out | refine below_set ?_ GE518.out | refine below_set ?_ GE520.out) | exact HB.out)) hb); clear HO_519000; clear HO_519001; clear BK510; clear BK511; clear BK518; clear BK520; clear HB; have HO_519000 := n0_; have HO_519001 := n1_; have HO523 := n2_; have BK510 := n3_; have BK511 := n4_; have BK518 := n5_; have BK520 := n6_; have HB := n7_; clear n0_ n1_ n2_ n3_ n4_ n5_ n6_ n7_; clear hb ho30; have hcz31_0 : w29.cell? ⟨gb520, 0, none⟩ = some (.slice A519_0 ((rd_T90 l0_0 x16_1).f0).length c519_0) := (blk_cell BK520.out 0).trans rfl; have hcz31_1 : w29.cell? ⟨gb520, 1, none⟩ = some (.int .u64 ((rd_T90 l0_0 x16_1).f1.f0.f0)) := (blk_cell BK520.out 1).trans rfl; have hcz31_2 : w29.cell? ⟨gb520, 2, none⟩ = some (.int .u64 ((rd_T90 l0_0 x16_1).f1.f0.f1)) := (blk_cell BK520.out 2).trans rfl; have hcz31_3 : w29.cell? ⟨gb520, 3, none⟩ = some (.int .u64 ((rd_T90 l0_0 x16_1).f1.f1)) := (blk_cell BK520.out 3).trans rfl; have hcz31_4 : w29.cell? ⟨gb520, 4, none⟩ = some (.int .u64 ((rd_T90 l0_0 x16_1).f2)) := (blk_cell BK520.out 4).trans rfl; have hcz31_5 : w29.cell? ⟨gb520, 5, none⟩ = some (.bool ((rd_T90 l0_0 x16_1).f3)) := (blk_cell BK520.out 5).trans rfl; have hfz31_0 := blk_frozen BK520.out 0; have hfz31_1 := blk_frozen BK520.out 1; have hfz31_2 := blk_frozen BK520.out 2; have hfz31_3 := blk_frozen BK520.out 3; have hfz31_4 := blk_frozen BK520.out 4; have hfz31_5 := blk_frozen BK520.out 5) | ((with_reducible refine gate_builtin (b := .append) (xs := #[.tmp 20, .tmp 22]) rfl ?_); at_builtin; refine Kd.R_append_rows (Kd.int .i64) (w0 := w) w.heap.size rfl (.tmp 20) (.tmp 22) 42 3 (.int .i64 0) 8 rfl Tryd.underlying42 info3 rfl (by decide) (by omega) v522 y521 ((rd_T90 l0_0 x16_1).f0) _ _ _ (fun _ => True) (fun _ => False) rfl rfl ?aO ?aR (fun _ _ h => h) (fun _ h => h.elim) ?aF ?aB ?aS ?aL ?_; (case aR => repeat (first | exact (Kd.C_below HR519_0.out HB.out) | (with_reducible refine Kd.C_alloc ?_ _) | (with_reducible refine Kd.C_drewN ?_ _) | (with_reducible refine Kd.C_drew ?_))); (case aB => exact (by repeat (first | (with_reducible first | exact HB.out | apply below_alloc | apply pw_below_drewN | apply below_drew1 | refine below_set ?_ GE510.out | refine below_set ?_ GE511.out | refine below_set ?_ GE518.out | refine below_set ?_ GE520.out) | exact HB.out))); (case aF => exact (fun _ _ => trivial)); (case aO => exact (by (with_reducible repeat (first | apply Kd.R_alloc | apply Kd.R_drewN | apply Kd.R_drew)); exact HO523.out)); (case aS => exact (below_size (by repeat (first | (with_reducible first | exact HB.out | apply below_alloc | apply pw_below_drewN | apply below_drew1 | refine below_set ?_ GE510.out | refine below_set ?_ GE511.out | refine below_set ?_ GE518.out | refine below_set ?_ GE520.out) | exact HB.out)))); (case aL => have := LMc22.out; omega); intro v525 w32 ho hb hg hat; rw [← Ny524.out] at ho; have n0_ := Aside0.mk (Kd.S_after (ok := (fun k_ => k_ ≠ gb520)) (by (with_reducible repeat (first | apply Kd.S_alloc | apply Kd.S_drewN | apply Kd.S_drew)); exact Kd.S_mono HO_519000.out (fun _ hk => ⟨hk.1.2, hk.2⟩)) hg hat); have n1_ := Aside0.mk (Kd.R_over' (by (with_reducible repeat (first | apply Kd.R_alloc | apply Kd.R_drewN | apply Kd.R_drew)); exact HO_519001.out) (Kd.R_typed (by (with_reducible repeat (first | apply Kd.R_alloc | apply Kd.R_drewN | apply Kd.R_drew)); exact HO523.out)) (by decide) hg); have n2_ := Aside0.mk (blk_grown (g := gb510) (o := .cells #[.slice (some ad519) l0_0.length c0_0, .slice A0_1 l0_1.length c0_1, .int .u32 a0_2] 41 (0, 0)) (by (with_reducible repeat (first | refine blk_drewN ?_ _ | refine blk_drew ?_ | refine blk_alloc ?_ _)); exact BK510.out) hg (Kd.R_ne HO523.out BK510.out (by decide))); have n3_ := Aside0.mk (blk_grown (g := gb511) (o := .cells #[.slice none 0 0, .slice none 0 0, .int .u32 0] 41 (0, 0)) (by (with_reducible repeat (first | refine blk_drewN ?_ _ | refine blk_drew ?_ | refine blk_alloc ?_ _)); exact BK511.out) hg (Kd.R_ne HO523.out BK511.out (by decide))); have n4_ := Aside0.mk (blk_grown (g := gb518) (o := .cells #[u519000, .slice Ao12 y515.length co12, .int .u32 a0_2] 41 (0, 0)) (by (with_reducible repeat (first | refine blk_drewN ?_ _ | refine blk_drew ?_ | refine blk_alloc ?_ _)); exact BK518.out) hg (Kd.R_ne HO523.out BK518.out (by decide))); have n5_ := Aside0.mk (blk_grown (g := gb520) (o := .cells #[.slice A519_0 ((rd_T90 l0_0 x16_1).f0).length c519_0, .int .u64 ((rd_T90 l0_0 x16_1).f1.f0.f0), .int .u64 ((rd_T90 l0_0 x16_1).f1.f0.f1), .int .u64 ((rd_T90 l0_0 x16_1).f1.f1), .int .u64 ((rd_T90 l0_0 x16_1).f2), .bool ((rd_T90 l0_0 x16_1).f3)] 90 (0, 0)) (by (with_reducible repeat (first | refine blk_drewN ?_ _ | refine blk_drew ?_ | refine blk_alloc ?_ _)); exact BK520.out) hg (Kd.R_ne HO523.out BK520.out (by decide))); have n6_ := Aside0.mk (hb); have n7_ := Aside0.mk (ho); clear HO_519000; clear HO_519001; clear BK510; clear BK511; clear BK518; clear BK520; clear HB; clear HO523; have HO_519000 := n0_; have HO_519001 := n1_; have BK510 := n2_; have BK511 := n3_; have BK518 := n4_; have BK520 := n5_; have HB := n6_; have HO526 := n7_; clear n0_ n1_ n2_ n3_ n4_ n5_ n6_ n7_; clear ho hb hg hat; obtain ⟨Ao33, co33, eo33⟩ := Kd.R_slice HO526.out; subst eo33; have hcz34_0 : w32.cell? ⟨gb520, 0, none⟩ = some (.slice A519_0 ((rd_T90 l0_0 x16_1).f0).length c519_0) := (blk_cell BK520.out 0).trans rfl; have hcz34_1 : w32.cell? ⟨gb520, 1, none⟩ = some (.int .u64 ((rd_T90 l0_0 x16_1).f1.f0.f0)) := (blk_cell BK520.out 1).trans rfl; have hcz34_2 : w32.cell? ⟨gb520, 2, none⟩ = some (.int .u64 ((rd_T90 l0_0 x16_1).f1.f0.f1)) := (blk_cell BK520.out 2).trans rfl; have hcz34_3 : w32.cell? ⟨gb520, 3, none⟩ = some (.int .u64 ((rd_T90 l0_0 x16_1).f1.f1)) := (blk_cell BK520.out 3).trans rfl; have hcz34_4 : w32.cell? ⟨gb520, 4, none⟩ = some (.int .u64 ((rd_T90 l0_0 x16_1).f2)) := (blk_cell BK520.out 4).trans rfl; have hcz34_5 : w32.cell? ⟨gb520, 5, none⟩ = some (.bool ((rd_T90 l0_0 x16_1).f3)) := (blk_cell BK520.out 5).trans rfl; have hfz34_0 := blk_frozen BK520.out 0; have hfz34_1 := blk_frozen BK520.out 1; have hfz34_2 := blk_frozen BK520.out 2; have hfz34_3 := blk_frozen BK520.out 3; have hfz34_4 := blk_frozen BK520.out 4; have hfz34_5 := blk_frozen BK520.out 5) | ((with_reducible refine gate_store (t := 42) (p := 24) rfl ?_); refine store_event (t := 42) (p := 24) (v := ?vo_w35) (w1 := (w32.setCell ⟨gb520, 0, none⟩ (.slice Ao33 y524.length co33))) ?hg ?ho ?hn ?hr ?_; (case ho => rfl); (case hg => rfl); (case hn => rfl); (case hr => first | (go_simp; done) | (go_simp; rfl)); intro w35 hw; have n0_ : Aside0 (Kd.S k90 90 w35 w.heap.size (fun k_ => some k_ ≠ (.slice Ao33 y524.length co33 : Value).ownBlock ∧ k_ ≠ gb520) u519000 x519000_1) := ⟨(by rw [hw]; exact (by (with_reducible repeat (first | apply Kd.S_alloc | apply Kd.S_drewN | apply Kd.S_drew)); exact Kd.S_mono (Kd.S_far (p := ⟨gb520, 0, none⟩) (Kd.S_mono HO_519000.out (fun k_ hk => (⟨hk, hk.1⟩ : _ ∧ k_ ≠ gb520))) (fun _ hk => hk.2) (.slice Ao33 y524.length co33)) (fun _ hk => ⟨hk.1.2, hk.1.1⟩)))⟩; have n1_ : Aside0 (Kd.R k36 36 w35 w.heap.size (fun _ => True) (.slice Ao12 y515.length co12) y515) := ⟨(by rw [hw]; exact (by (with_reducible repeat (first | apply Kd.R_alloc | apply Kd.R_drewN | apply Kd.R_drew)); exact Kd.R_mono (Kd.R_far (p := ⟨gb520, 0, none⟩) (Kd.R_types HO_519001.out BK520.out (by decide)) (fun _ hk => hk.2) (.slice Ao33 y524.length co33)) (fun _ hk => trivial)))⟩; have n2_ : Aside0 (Kd.R (Kd.int .i64) 3 w35 w.heap.size (fun _ => True) (.slice Ao33 y524.length co33) y524) := ⟨(by rw [hw]; exact (by (with_reducible repeat (first | apply Kd.R_alloc | apply Kd.R_drewN | apply Kd.R_drew)); exact Kd.R_mono (Kd.R_far (p := ⟨gb520, 0, none⟩) (Kd.R_types HO526.out BK520.out (by decide)) (fun _ hk => hk.2) (.slice Ao33 y524.length co33)) (fun _ hk => trivial)))⟩; have n3_ : Aside0 (w35.heap[gb510]? = some (.cells #[.slice (some ad519) l0_0.length c0_0, .slice A0_1 l0_1.length c0_1, .int .u32 a0_2] 41 (0, 0))) := ⟨(by rw [hw]; exact (by (with_reducible repeat (first | refine blk_drewN ?_ _ | refine blk_drew ?_ | refine blk_alloc ?_ _)); refine blk_far ?_ NB510_520.out _; (with_reducible repeat (first | refine blk_drewN ?_ _ | refine blk_drew ?_ | refine blk_alloc ?_ _)); exact BK510.out))⟩; have n4_ : Aside0 (w35.heap[gb511]? = some (.cells #[.slice none 0 0, .slice none 0 0, .int .u32 0] 41 (0, 0))) := ⟨(by rw [hw]; exact (by (with_reducible repeat (first | refine blk_drewN ?_ _ | refine blk_drew ?_ | refine blk_alloc ?_ _)); refine blk_far ?_ NB511_520.out _; (with_reducible repeat (first | refine blk_drewN ?_ _ | refine blk_drew ?_ | refine blk_alloc ?_ _)); exact BK511.out))⟩; have n5_ : Aside0 (w35.heap[gb518]? = some (.cells #[u519000, .slice Ao12 y515.length co12, .int .u32 a0_2] 41 (0, 0))) := ⟨(by rw [hw]; exact (by (with_reducible repeat (first | refine blk_drewN ?_ _ | refine blk_drew ?_ | refine blk_alloc ?_ _)); refine blk_far ?_ NB518_520.out _; (with_reducible repeat (first | refine blk_drewN ?_ _ | refine blk_drew ?_ | refine blk_alloc ?_ _)); exact BK518.out))⟩; have n6_ : Aside0 (w35.heap[gb520]? = some (.cells #[.slice Ao33 y524.length co33, .int .u64 ((rd_T90 l0_0 x16_1).f1.f0.f0), .int .u64 ((rd_T90 l0_0 x16_1).f1.f0.f1), .int .u64 ((rd_T90 l0_0 x16_1).f1.f1), .int .u64 ((rd_T90 l0_0 x16_1).f2), .bool ((rd_T90 l0_0 x16_1).f3)] 90 (0, 0))) := ⟨(by rw [hw]; exact (by (with_reducible repeat (first | refine blk_drewN ?_ _ | refine blk_drew ?_ | refine blk_alloc ?_ _)); refine blk_put (cs := #[.slice A519_0 ((rd_T90 l0_0 x16_1).f0).length c519_0, .int .u64 ((rd_T90 l0_0 x16_1).f1.f0.f0), .int .u64 ((rd_T90 l0_0 x16_1).f1.f0.f1), .int .u64 ((rd_T90 l0_0 x16_1).f1.f1), .int .u64 ((rd_T90 l0_0 x16_1).f2), .bool ((rd_T90 l0_0 x16_1).f3)]) ?_ 0 _ rfl; (with_reducible repeat (first | refine blk_drewN ?_ _ | refine blk_drew ?_ | refine blk_alloc ?_ _)); exact BK520.out))⟩; have n7_ : Aside0 (Below w.heap.size w w35) := ⟨(by rw [hw]; exact (by repeat (first | (with_reducible first | exact HB.out | apply below_alloc | apply pw_below_drewN | apply below_drew1 | refine below_set ?_ GE510.out | refine below_set ?_ GE511.out | refine below_set ?_ GE518.out | refine below_set ?_ GE520.out) | exact HB.out)))⟩; clear hw; clear HO_519000; clear HO_519001; clear HO526; clear BK510; clear BK511; clear BK518; clear BK520; clear HB; have HO_519000 := n0_; have HO_519001 := n1_; have HO526 := n2_; have BK510 := n3_; have BK511 := n4_; have BK518 := n5_; have BK520 := n6_; have HB := n7_; clear n0_ n1_ n2_ n3_ n4_ n5_ n6_ n7_; have hnb36 := NB518_510.out; have hnc36 := NB510_518.out; have hnb37 := NB518_511.out; have hnc37 := NB511_518.out; have hcz38_0 : w35.cell? ⟨gb518, 0, none⟩ = some (u519000) := (blk_cell BK518.out 0).trans rfl; have hcz38_1 : w35.cell? ⟨gb518, 1, none⟩ = some (.slice Ao12 y515.length co12) := (blk_cell BK518.out 1).trans rfl; have hcz38_2 : w35.cell? ⟨gb518, 2, none⟩ = some (.int .u32 a0_2) := (blk_cell BK518.out 2).trans rfl; have hfz38_0 := blk_frozen BK518.out 0; have hfz38_1 := blk_frozen BK518.out 1; have hfz38_2 := blk_frozen BK518.out 2; have hcz39_0 : w35.cell? ⟨gb520, 0, none⟩ = some (.slice Ao33 y524.length co33) := (blk_cell BK520.out 0).trans rfl; have hcz39_1 : w35.cell? ⟨gb520, 1, none⟩ = some (.int .u64 ((rd_T90 l0_0 x16_1).f1.f0.f0)) := (blk_cell BK520.out 1).trans rfl; have hcz39_2 : w35.cell? ⟨gb520, 2, none⟩ = some (.int .u64 ((rd_T90 l0_0 x16_1).f1.f0.f1)) := (blk_cell BK520.out 2).trans rfl; have hcz39_3 : w35.cell? ⟨gb520, 3, none⟩ = some (.int .u64 ((rd_T90 l0_0 x16_1).f1.f1)) := (blk_cell BK520.out 3).trans rfl; have hcz39_4 : w35.cell? ⟨gb520, 4, none⟩ = some (.int .u64 ((rd_T90 l0_0 x16_1).f2)) := (blk_cell BK520.out 4).trans rfl; have hcz39_5 : w35.cell? ⟨gb520, 5, none⟩ = some (.bool ((rd_T90 l0_0 x16_1).f3)) := (blk_cell BK520.out 5).trans rfl; have hfz39_0 := blk_frozen BK520.out 0; have hfz39_1 := blk_frozen BK520.out 1; have hfz39_2 := blk_frozen BK520.out 2; have hfz39_3 := blk_frozen BK520.out 3; have hfz39_4 := blk_frozen BK520.out 4; have hfz39_5 := blk_frozen BK520.out 5) | ((with_reducible refine gate_builtin (b := .append) (xs := #[.tmp 26, .tmp 28]) rfl ?_); at_builtin; refine Kd.S_append k90 (w0 := w) w.heap.size rfl (.tmp 26) (.tmp 28) 39 90 (.agg #[(.slice none 0 0), (.int .u64 0), (.int .u64 0), (.int .u64 0), (.int .u64 0), (.bool false)]) 64 rfl Tryd.underlying39 info90 rfl (by decide) (by omega) u519000 x519000_1 (⟨y524, (⟨(⟨(rd_T90 l0_0 x16_1).f1.f0.f0, (rd_T90 l0_0 x16_1).f1.f0.f1⟩ : S86), (rd_T90 l0_0 x16_1).f1.f1⟩ : S88), (rd_T90 l0_0 x16_1).f2, (rd_T90 l0_0 x16_1).f3⟩ : S90) [.slice Ao33 y524.length co33, .int .u64 ((rd_T90 l0_0 x16_1).f1.f0.f0), .int .u64 ((rd_T90 l0_0 x16_1).f1.f0.f1), .int .u64 ((rd_T90 l0_0 x16_1).f1.f1), .int .u64 ((rd_T90 l0_0 x16_1).f2), .bool ((rd_T90 l0_0 x16_1).f3)] (fun k_ => k_ ≠ gb520) (fun k_ => some k_ = (.slice Ao33 y524.length co33 : Value).ownBlock) rfl rfl ?aP (fun k_ hk_ => ((Kd.R_mono (ok' := fun k_ => ((fun k_ => k_ ≠ gb520)) k_ ∧ some k_ ≠ (u519000 : Value).ownBlock) (Kd.R_types (Kd.R_apart' (HO526.out) (Kd.S_typed HO_519000.out) (by decide)) BK520.out (by decide)) (fun k_ hk => ⟨hk.2, hk.1.2⟩))).1 k_ hk_.symm) ?aF ?aO ?aB ?aS ?aL ?_; (case aP => exact k90_mkM _ _ _ (⟨y524, (⟨(⟨(rd_T90 l0_0 x16_1).f1.f0.f0, (rd_T90 l0_0 x16_1).f1.f0.f1⟩ : S86), (rd_T90 l0_0 x16_1).f1.f1⟩ : S88), (rd_T90 l0_0 x16_1).f2, (rd_T90 l0_0 x16_1).f3⟩ : S90) (Kd.R_mono (Kd.R_tight rfl (Kd.R_mono (ok' := fun k_ => ((fun k_ => k_ ≠ gb520)) k_ ∧ some k_ ≠ (u519000 : Value).ownBlock) (Kd.R_types (Kd.R_apart' (HO526.out) (Kd.S_typed HO_519000.out) (by decide)) BK520.out (by decide)) (fun k_ hk => ⟨hk.2, hk.1.2⟩))) (fun _ h_ => h_))); (case aB => exact (by repeat (first | (with_reducible first | exact HB.out | apply below_alloc | apply pw_below_drewN | apply below_drew1 | refine below_set ?_ GE510.out | refine below_set ?_ GE511.out | refine below_set ?_ GE518.out | refine below_set ?_ GE520.out) | exact HB.out))); (case aF => exact (fun k_ hk => Kd.freshB (g := gb520) (o := .cells #[.slice Ao33 y524.length co33, .int .u64 ((rd_T90 l0_0 x16_1).f1.f0.f0), .int .u64 ((rd_T90 l0_0 x16_1).f1.f0.f1), .int .u64 ((rd_T90 l0_0 x16_1).f1.f1), .int .u64 ((rd_T90 l0_0 x16_1).f2), .bool ((rd_T90 l0_0 x16_1).f3)] 90 (0, 0)) (by (with_reducible repeat (first | refine blk_drewN ?_ _ | refine blk_drew ?_ | refine blk_alloc ?_ _)); exact BK520.out) k_ hk)); (case aO => exact (by (with_reducible repeat (first | apply Kd.S_alloc | apply Kd.S_drewN | apply Kd.S_drew)); exact Kd.S_mono HO_519000.out (fun k_ hk => ⟨hk.2, fun e_ => hk.1 e_⟩))); (case aS => exact (below_size (by repeat (first | (with_reducible first | exact HB.out | apply below_alloc | apply pw_below_drewN | apply below_drew1 | refine below_set ?_ GE510.out | refine below_set ?_ GE511.out | refine below_set ?_ GE518.out | refine below_set ?_ GE520.out) | exact HB.out)))); (case aL => have := LMc23.out; omega); intro v528 w40 ho hb hg hat; rw [← Ny527.out] at ho; have n0_ := Aside0.mk (Kd.R_over' (by (with_reducible repeat (first | apply Kd.R_alloc | apply Kd.R_drewN | apply Kd.R_drew)); exact HO_519001.out) (Kd.S_typed (by (with_reducible repeat (first | apply Kd.S_alloc | apply Kd.S_drewN | apply Kd.S_drew)); exact HO_519000.out)) (by decide) hg); have n1_ := Aside0.mk (blk_grown (g := gb510) (o := .cells #[.slice (some ad519) l0_0.length c0_0, .slice A0_1 l0_1.length c0_1, .int .u32 a0_2] 41 (0, 0)) (by (with_reducible repeat (first | refine blk_drewN ?_ _ | refine blk_drew ?_ | refine blk_alloc ?_ _)); exact BK510.out) hg (Kd.S_ne HO_519000.out BK510.out (by decide))); have n2_ := Aside0.mk (blk_grown (g := gb511) (o := .cells #[.slice none 0 0, .slice none 0 0, .int .u32 0] 41 (0, 0)) (by (with_reducible repeat (first | refine blk_drewN ?_ _ | refine blk_drew ?_ | refine blk_alloc ?_ _)); exact BK511.out) hg (Kd.S_ne HO_519000.out BK511.out (by decide))); have n3_ := Aside0.mk (blk_grown (g := gb518) (o := .cells #[u519000, .slice Ao12 y515.length co12, .int .u32 a0_2] 41 (0, 0)) (by (with_reducible repeat (first | refine blk_drewN ?_ _ | refine blk_drew ?_ | refine blk_alloc ?_ _)); exact BK518.out) hg (Kd.S_ne HO_519000.out BK518.out (by decide))); have n4_ := Aside0.mk (blk_grown (g := gb520) (o := .cells #[.slice Ao33 y524.length co33, .int .u64 ((rd_T90 l0_0 x16_1).f1.f0.f0), .int .u64 ((rd_T90 l0_0 x16_1).f1.f0.f1), .int .u64 ((rd_T90 l0_0 x16_1).f1.f1), .int .u64 ((rd_T90 l0_0 x16_1).f2), .bool ((rd_T90 l0_0 x16_1).f3)] 90 (0, 0)) (by (with_reducible repeat (first | refine blk_drewN ?_ _ | refine blk_drew ?_ | refine blk_alloc ?_ _)); exact BK520.out) hg (Kd.S_away HO_519000.out (fun _ hk => hk.2))); have n5_ := Aside0.mk (hb); have n6_ := Aside0.mk (ho); clear HO_519001; clear BK510; clear BK511; clear BK518; clear BK520; clear HB; clear HO_519000; clear HO526; have HO_519001 := n0_; have BK510 := n1_; have BK511 := n2_; have BK518 := n3_; have BK520 := n4_; have HB := n5_; have HO529 := n6_; clear n0_ n1_ n2_ n3_ n4_ n5_ n6_; clear ho hb hg hat; obtain ⟨Ao41, co41, eo41⟩ := Kd.S_slice HO529.out; subst eo41; have hcz42_0 : w40.cell? ⟨gb518, 0, none⟩ = some (u519000) := (blk_cell BK518.out 0).trans rfl; have hcz42_1 : w40.cell? ⟨gb518, 1, none⟩ = some (.slice Ao12 y515.length co12) := (blk_cell BK518.out 1).trans rfl; have hcz42_2 : w40.cell? ⟨gb518, 2, none⟩ = some (.int .u32 a0_2) := (blk_cell BK518.out 2).trans rfl; have hfz42_0 := blk_frozen BK518.out 0; have hfz42_1 := blk_frozen BK518.out 1; have hfz42_2 := blk_frozen BK518.out 2))
         go_roundg k1
         case measure => have := HK1.out; omega
         case rel => exact ⟨(wrap64 (x16_1 + 1)), (y527), (.slice Ao41 y527.length co41), (by first | rfl | (simp; done) | (simp [*]; done)), H', ⟨by have := HK1.out; omega⟩, ⟨by (with_reducible repeat (first | apply Kd.S_alloc | apply Kd.S_drewN | apply Kd.S_drew)); exact Kd.S_mono (Kd.S_far (p := ⟨gb518, 0, none⟩) (Kd.S_types HO529.out BK518.out (by decide)) (fun _ hk => hk.2) (.slice Ao41 y527.length co41)) (fun _ hk => trivial)⟩, ⟨by (with_reducible repeat (first | apply Kd.R_alloc | apply Kd.R_drewN | apply Kd.R_drew)); exact Kd.R_mono (Kd.R_far (p := ⟨gb518, 0, none⟩) (Kd.R_types HO_519001.out BK518.out (by decide)) (fun _ hk => hk.2) (.slice Ao41 y527.length co41)) (fun _ hk => trivial)⟩, ⟨by (with_reducible repeat (first | refine blk_drewN ?_ _ | refine blk_drew ?_ | refine blk_alloc ?_ _)); refine blk_far ?_ NB510_518.out _; (with_reducible repeat (first | refine blk_drewN ?_ _ | refine blk_drew ?_ | refine blk_alloc ?_ _)); exact BK510.out⟩, ⟨by (with_reducible repeat (first | refine blk_drewN ?_ _ | refine blk_drew ?_ | refine blk_alloc ?_ _)); refine blk_far ?_ NB511_518.out _; (with_reducible repeat (first | refine blk_drewN ?_ _ | refine blk_drew ?_ | refine blk_alloc ?_ _)); exact BK511.out⟩, ⟨by (with_reducible repeat (first | refine blk_drewN ?_ _ | refine blk_drew ?_ | refine blk_alloc ?_ _)); refine blk_put (cs := #[u519000, .slice Ao12 y515.length co12, .int .u32 a0_2]) ?_ 0 _ rfl; (with_reducible repeat (first | refine blk_drewN ?_ _ | refine blk_drew ?_ | refine blk_alloc ?_ _)); exact BK518.out⟩, ⟨by repeat (first | (with_reducible first | exact HB.out | apply below_alloc | apply pw_below_drewN | apply below_drew1 | refine below_set ?_ GE510.out | refine below_set ?_ GE511.out | refine below_set ?_ GE518.out | refine below_set ?_ GE520.out) | exact HB.out)⟩⟩
        ·rw [if_neg c23] at H
         exact absurd H (by simp)
       ·rw [if_neg c22] at H
        exact absurd H (by simp)
      ·rw [if_neg c21] at H
       exact absurd H (by simp)
     ·rw [if_neg c20] at H
      exact absurd H (by simp)
    ·rw [if_neg c19] at H
     have c19b0 : decide (x16_1 < (l0_0.length : Int)) = false := decide_eq_false c19
     clear c19
     simp only [Option.some.injEq, Prod.mk.injEq] at H
     obtain ⟨rfl, rfl, rfl⟩ := H
     have hnb43 := NB518_510.out
     have hnc43 := NB510_518.out
     have hnb44 := NB518_511.out
     have hnc44 := NB511_518.out
     have hcz45_0 : wr.cell? ⟨gb518, 0, none⟩ = some (u519000) := (blk_cell BK518.out 0).trans rfl
     have hcz45_1 : wr.cell? ⟨gb518, 1, none⟩ = some (.slice Ao12 y515.length co12) := (blk_cell BK518.out 1).trans rfl
     have hcz45_2 : wr.cell? ⟨gb518, 2, none⟩ = some (.int .u32 a0_2) := (blk_cell BK518.out 2).trans rfl
     have hfz45_0 := blk_frozen BK518.out 0
     have hfz45_1 := blk_frozen BK518.out 1
     have hfz45_2 := blk_frozen BK518.out 2
     obtain ⟨Ao46, co46, eo46⟩ := Kd.S_slice HO_519000.out
     subst eo46
     have hnb47 := NB511_510.out
     have hnc47 := NB510_511.out
     have hcz48_0 : wr.cell? ⟨gb511, 0, none⟩ = some (.slice none 0 0) := (blk_cell BK511.out 0).trans rfl
     have hcz48_1 : wr.cell? ⟨gb511, 1, none⟩ = some (.slice none 0 0) := (blk_cell BK511.out 1).trans rfl
     have hcz48_2 : wr.cell? ⟨gb511, 2, none⟩ = some (.int .u32 0) := (blk_cell BK511.out 2).trans rfl
     have hfz48_0 := blk_frozen BK511.out 0
     have hfz48_1 := blk_frozen BK511.out 1
     have hfz48_2 := blk_frozen BK511.out 2
     go_wp2
     refine bodyPost_ret (results_cell_row rfl _ _ gb511 41 #[.slice Ao46 x519000_1.length co46, .slice Ao12 y515.length co12, .int .u32 a0_2] (0, 0) _ rfl (by (with_reducible repeat (first | refine blk_drewN ?_ _ | refine blk_drew ?_ | refine blk_alloc ?_ _)); refine blk_put (cs := #[.slice Ao46 x519000_1.length co46, .slice Ao12 y515.length co12, .int .u32 0]) ?_ 2 _ rfl; (with_reducible repeat (first | refine blk_drewN ?_ _ | refine blk_drew ?_ | refine blk_alloc ?_ _)); refine blk_put (cs := #[.slice Ao46 x519000_1.length co46, .slice none 0 0, .int .u32 0]) ?_ 1 _ rfl; (with_reducible repeat (first | refine blk_drewN ?_ _ | refine blk_drew ?_ | refine blk_alloc ?_ _)); refine blk_put (cs := #[.slice none 0 0, .slice none 0 0, .int .u32 0]) ?_ 0 _ rfl; (with_reducible repeat (first | refine blk_drewN ?_ _ | refine blk_drew ?_ | refine blk_alloc ?_ _)); exact BK511.out) Tryd.underlying41 rfl (by kernel_rfl)) rfl ?_
     exact ⟨_, _, by first | rfl | (simp [errW_none, errW_some] <;> rfl) | (simp [*, errW_none, errW_some] <;> rfl), by (with_reducible repeat (first | apply Kd.S_alloc | apply Kd.S_drewN | apply Kd.S_drew)); exact Kd.S_mono (Kd.S_far (p := ⟨gb511, 2, none⟩) (Kd.S_far (p := ⟨gb511, 1, none⟩) (Kd.S_far (p := ⟨gb511, 0, none⟩) (Kd.S_types HO_519000.out BK511.out (by decide)) (fun _ hk => hk.2) (.slice Ao46 x519000_1.length co46)) (fun _ hk => hk.2) (.slice Ao12 y515.length co12)) (fun _ hk => hk.2) (.int .u32 a0_2)) (fun _ hk => trivial), by (with_reducible repeat (first | apply Kd.R_alloc | apply Kd.R_drewN | apply Kd.R_drew)); exact Kd.R_mono (Kd.R_far (p := ⟨gb511, 2, none⟩) (Kd.R_far (p := ⟨gb511, 1, none⟩) (Kd.R_far (p := ⟨gb511, 0, none⟩) (Kd.R_types HO_519001.out BK511.out (by decide)) (fun _ hk => hk.2) (.slice Ao46 x519000_1.length co46)) (fun _ hk => hk.2) (.slice Ao12 y515.length co12)) (fun _ hk => hk.2) (.int .u32 a0_2)) (fun _ hk => trivial), by repeat (first | (with_reducible first | exact HB.out | apply below_alloc | apply pw_below_drewN | apply below_drew1 | refine below_set ?_ GE510.out | refine below_set ?_ GE511.out | refine below_set ?_ GE518.out) | exact HB.out)⟩
 ·rw [if_neg c2] at H
  exact absurd H (by simp)

end Go.Proofs.YtdmieaidheelbaaDoor.Q
end
/- QFref19Wish -/
section
namespace Go.Proofs.YtdmieaidheelbaaDoor.Q
open Go.RowKit Go.Proofs.YtdmieaidheelbaaDoorW.PrintWords Go.Proofs.YtdmieaidheelbaaDoorW.PrintLast Go.Proofs.YtdmieaidheelbaaDoorW.PrintMore
attribute [local go_sem] max2_int min2_int max_two min_two max_three min_three max_four min_four
set_option linter.unusedVariables false
set_option linter.unusedSimpArgs false

def mainsheetref19_Wish.l0 : Nat → List (S36) → Int → Int → Option (Int × Int × Int × Int)
 | 0, _, _, _ => none
 | k + 1, x0, x1, x5 => if x5 < (x0.length : Int) then (if 0 ≤ x5 then (if ((rd_T36 x0 x5).f0) = x1 then (some ((rd_T36 x0 x5).f0, (rd_T36 x0 x5).f1, (rd_T36 x0 x5).f2.f0, (rd_T36 x0 x5).f2.f1)) else (mainsheetref19_Wish.l0 k x0 x1 (wrap64 (x5 + 1)))) else (none)) else (some (0, 0, 0, 0))
def mainsheetref19_Wish.f (k : Nat) (l0 : List (S36)) (a1 : Int) : Option (Int × Int × Int × Int) := mainsheetref19_Wish.l0 k l0 a1 0
set_option maxHeartbeats 8000000 in
set_option maxRecDepth 100000 in
theorem mainsheetref19_Wish.calls (k : Nat) (A0 : Option Addr) (c0 : Nat) (l0 : List (S36)) (a1 : Int) (r1 : Int) (r2 : Int) (r3 : Int) (r4 : Int) (w : World) (hr0 : Kd.C k36 w A0 l0.length l0) (hc0 : l0.length ≤ c0) (h : mainsheetref19_Wish.f k l0 a1 = some (r1, r2, r3, r4)) :
  Calls Tryd.prog 78 #[.slice A0 l0.length c0, .int .i64 a1] w fun e w' => e = .returned (.agg #[.int .i64 r1, .int .i64 r2, .int .u32 r3, .int .u32 r4]) ∧ Below w.heap.size w w' := by
 have hu36 := Tryd.underlying36
 have HR0 := Aside0.mk hr0
 have HC0 := Aside0.mk hc0
 clear hr0 hc0
 have HB := Aside0.mk (Below.refl w.heap.size w)
 have H : (mainsheetref19_Wish.l0 k l0 a1 0) = some (r1, r2, r3, r4) := h
 clear h
 have H' := Aside0.mk H
 clear H
 go_enter Tryd.func78, Tryd.ntmps78
 go_wp2_with (first | ((with_reducible refine gate_dst (N := 4) rfl ?_); refine box_event ?hg (N := 4) ?hd (cs := #[.int .i64 0, .int .i64 0, .int .u32 0, .int .u32 0]) (t := 36) ?hr ?_; (case hd => rfl); (case hg => rfl); (case hr => first | (go_simp; done) | (go_simp; rfl)); intro gb423 hg w3 hbox hb; have n0_ := Aside0.mk (below_step (by repeat (first | (with_reducible first | exact HB.out | apply below_alloc | apply pw_below_drewN | apply below_drew1) | exact HB.out)) hb); have n1_ := Aside0.mk (hbox); have n2_ := Aside0.mk ((by rw [hg]; exact (below_size (by repeat (first | (with_reducible first | exact HB.out | apply below_alloc | apply pw_below_drewN | apply below_drew1) | exact HB.out))) : w.heap.size ≤ gb423)); have n3_ := Aside0.mk ((by rw [hg]; exact (below_size (by repeat (first | (with_reducible first | exact HB.out | apply below_alloc | apply pw_below_drewN | apply below_drew1) | exact HB.out))) : w.heap.size ≤ gb423)); clear HB; have HB := n0_; have BK423 := n1_; have GW423 := n2_; have GE423 := n3_; clear n0_ n1_ n2_ n3_; clear hb hbox hg))
 go_loopg [5] k (fun kq v5 w' => ∃ (x5_1 : Int) (x424000_1 : Int) (x424001_1 : Int) (x424002_1 : Int) (x424003_1 : Int), v5 = .int .i64 x5_1 ∧ Aside0 (mainsheetref19_Wish.l0 kq l0 a1 x5_1 = some (r1, r2, r3, r4)) ∧ Aside0 (kq ≤ k) ∧ Aside0 (w'.heap[gb423]? = some (.cells #[.int .i64 x424000_1, .int .i64 x424001_1, .int .u32 x424002_1, .int .u32 x424003_1] 36 (0, 0))) ∧ Aside0 (Below w.heap.size w w'))
 case atStart => exact ⟨(0), (0), (0), (0), (0), (by first | rfl | (simp; done) | (simp [*]; done)), H', ⟨Nat.le_refl _⟩, ⟨by (with_reducible repeat (first | refine blk_drewN ?_ _ | refine blk_drew ?_ | refine blk_alloc ?_ _)); exact BK423.out⟩, ⟨by repeat (first | (with_reducible first | exact HB.out | apply below_alloc | apply pw_below_drewN | apply below_drew1 | refine below_set ?_ GE423.out) | exact HB.out)⟩⟩
 case round =>
  clear H'
  try clear p2
  obtain ⟨x5_1, x424000_1, x424001_1, x424002_1, x424003_1, rfl, HA, HK1, BK423, HB⟩ := hrel
  cases gk with
  | zero => exact absurd HA.out (by simp [mainsheetref19_Wish.l0])
  | succ k1 =>
   have H := HA.out
   clear HA
   simp only [mainsheetref19_Wish.l0] at H
   by_cases c4 : x5_1 < (l0.length : Int)
   ·rw [if_pos c4] at H
    have c4b0 : decide (x5_1 < (l0.length : Int)) = true := decide_eq_true c4
    clear c4
    by_cases c5 : 0 ≤ x5_1
    ·rw [if_pos c5] at H
     have c5b0 : decide (0 ≤ x5_1) = true := decide_eq_true c5
     clear c5
     by_cases c6 : ((rd_T36 l0 x5_1).f0) = a1
     ·rw [if_pos c6] at H
      have c6b0 : (((rd_T36 l0 x5_1).f0) == a1) = true := beq_iff_eq.mpr c6
      have c6b1 : (((rd_T36 l0 x5_1).f0) != a1) = false := bne_eq_false_iff_eq.mpr c6
      clear c6
      simp only [Option.some.injEq, Prod.mk.injEq] at H
      obtain ⟨rfl, rfl, rfl, rfl⟩ := H
      have p424 : 0 ≤ (x5_1 : Int) := of_decide_eq_true (by first | (with_reducible assumption) | assumption)
      have q424 : x5_1 < (l0.length : Int) := of_decide_eq_true (by first | (with_reducible assumption) | assumption)
      obtain ⟨ad424, e424, hx424_0, hx424_1, hx424_2, hx424_3⟩ := at_T36 HR0.out x5_1 p424 q424
      cases e424
      replace hx424_0 := (HB.out.cell (World.block_lt_of_cell? w _ hx424_0)).trans hx424_0
      replace hx424_1 := (HB.out.cell (World.block_lt_of_cell? w _ hx424_1)).trans hx424_1
      replace hx424_2 := (HB.out.cell (World.block_lt_of_cell? w _ hx424_2)).trans hx424_2
      replace hx424_3 := (HB.out.cell (World.block_lt_of_cell? w _ hx424_3)).trans hx424_3
      replace p424 := eq_true p424
      replace q424 := eq_true q424
      have p425 : 0 ≤ (x5_1 : Int) := of_decide_eq_true (by first | (with_reducible assumption) | assumption)
      have q425 : x5_1 < (l0.length : Int) := of_decide_eq_true (by first | (with_reducible assumption) | assumption)
      obtain ⟨ad425, e425, hx425_0, hx425_1, hx425_2, hx425_3⟩ := at_T36 HR0.out x5_1 p425 q425
      obtain rfl : ad424 = ad425 := (by injection e425)
      replace hx425_0 := (HB.out.cell (World.block_lt_of_cell? w _ hx425_0)).trans hx425_0
      replace hx425_1 := (HB.out.cell (World.block_lt_of_cell? w _ hx425_1)).trans hx425_1
      replace hx425_2 := (HB.out.cell (World.block_lt_of_cell? w _ hx425_2)).trans hx425_2
      replace hx425_3 := (HB.out.cell (World.block_lt_of_cell? w _ hx425_3)).trans hx425_3
      replace p425 := eq_true p425
      replace q425 := eq_true q425
      have hcz7_0 : wr.cell? ⟨gb423, 0, none⟩ = some (.int .i64 x424000_1) := (blk_cell BK423.out 0).trans rfl
      have hcz7_1 : wr.cell? ⟨gb423, 1, none⟩ = some (.int .i64 x424001_1) := (blk_cell BK423.out 1).trans rfl
      have hcz7_2 : wr.cell? ⟨gb423, 2, none⟩ = some (.int .u32 x424002_1) := (blk_cell BK423.out 2).trans rfl
      have hcz7_3 : wr.cell? ⟨gb423, 3, none⟩ = some (.int .u32 x424003_1) := (blk_cell BK423.out 3).trans rfl
      have hfz7_0 := blk_frozen BK423.out 0
      have hfz7_1 := blk_frozen BK423.out 1
      have hfz7_2 := blk_frozen BK423.out 2
      have hfz7_3 := blk_frozen BK423.out 3
      go_wp2
      refine bodyPost_ret (results_cell_row rfl _ _ gb423 36 #[.int .i64 ((rd_T36 l0 x5_1).f0), .int .i64 ((rd_T36 l0 x5_1).f1), .int .u32 ((rd_T36 l0 x5_1).f2.f0), .int .u32 ((rd_T36 l0 x5_1).f2.f1)] (0, 0) _ rfl (by (with_reducible repeat (first | refine blk_drewN ?_ _ | refine blk_drew ?_ | refine blk_alloc ?_ _)); refine blk_put (cs := #[.int .i64 ((rd_T36 l0 x5_1).f0), .int .i64 ((rd_T36 l0 x5_1).f1), .int .u32 ((rd_T36 l0 x5_1).f2.f0), .int .u32 x424003_1]) ?_ 3 _ rfl; (with_reducible repeat (first | refine blk_drewN ?_ _ | refine blk_drew ?_ | refine blk_alloc ?_ _)); refine blk_put (cs := #[.int .i64 ((rd_T36 l0 x5_1).f0), .int .i64 ((rd_T36 l0 x5_1).f1), .int .u32 x424002_1, .int .u32 x424003_1]) ?_ 2 _ rfl; (with_reducible repeat (first | refine blk_drewN ?_ _ | refine blk_drew ?_ | refine blk_alloc ?_ _)); refine blk_put (cs := #[.int .i64 ((rd_T36 l0 x5_1).f0), .int .i64 x424001_1, .int .u32 x424002_1, .int .u32 x424003_1]) ?_ 1 _ rfl; (with_reducible repeat (first | refine blk_drewN ?_ _ | refine blk_drew ?_ | refine blk_alloc ?_ _)); refine blk_put (cs := #[.int .i64 x424000_1, .int .i64 x424001_1, .int .u32 x424002_1, .int .u32 x424003_1]) ?_ 0 _ rfl; (with_reducible repeat (first | refine blk_drewN ?_ _ | refine blk_drew ?_ | refine blk_alloc ?_ _)); exact BK423.out) Tryd.underlying36 rfl (by kernel_rfl)) rfl ?_
      exact ⟨by first | rfl | (simp [errW_none, errW_some] <;> rfl) | (simp [*, errW_none, errW_some] <;> rfl), by repeat (first | (with_reducible first | exact HB.out | apply below_alloc | apply pw_below_drewN | apply below_drew1 | refine below_set ?_ GE423.out) | exact HB.out)⟩
     ·rw [if_neg c6] at H
      have c6b0 : (((rd_T36 l0 x5_1).f0) == a1) = false := beq_eq_false_iff_ne.mpr c6
      have c6b1 : (((rd_T36 l0 x5_1).f0) != a1) = true := bne_iff_ne.mpr c6
      have H' := Aside0.mk H
      clear H
      have p424 : 0 ≤ (x5_1 : Int) := of_decide_eq_true (by first | (with_reducible assumption) | assumption)
      have q424 : x5_1 < (l0.length : Int) := of_decide_eq_true (by first | (with_reducible assumption) | assumption)
      obtain ⟨ad424, e424, hx424_0, hx424_1, hx424_2, hx424_3⟩ := at_T36 HR0.out x5_1 p424 q424
      cases e424
      replace hx424_0 := (HB.out.cell (World.block_lt_of_cell? w _ hx424_0)).trans hx424_0
      replace hx424_1 := (HB.out.cell (World.block_lt_of_cell? w _ hx424_1)).trans hx424_1
      replace hx424_2 := (HB.out.cell (World.block_lt_of_cell? w _ hx424_2)).trans hx424_2
      replace hx424_3 := (HB.out.cell (World.block_lt_of_cell? w _ hx424_3)).trans hx424_3
      replace p424 := eq_true p424
      replace q424 := eq_true q424
      go_wp2
      go_roundg k1
      case measure => have := HK1.out; omega
      case rel => exact ⟨(wrap64 (x5_1 + 1)), (x424000_1), (x424001_1), (x424002_1), (x424003_1), (by first | rfl | (simp; done) | (simp [*]; done)), H', ⟨by have := HK1.out; omega⟩, ⟨by (with_reducible repeat (first | refine blk_drewN ?_ _ | refine blk_drew ?_ | refine blk_alloc ?_ _)); exact BK423.out⟩, ⟨by repeat (first | (with_reducible first | exact HB.out | apply below_alloc | apply pw_below_drewN | apply below_drew1 | refine below_set ?_ GE423.out) | exact HB.out)⟩⟩
    ·rw [if_neg c5] at H
     exact absurd H (by simp)
   ·rw [if_neg c4] at H
    have c4b0 : decide (x5_1 < (l0.length : Int)) = false := decide_eq_false c4
    clear c4
    simp only [Option.some.injEq, Prod.mk.injEq] at H
    obtain ⟨rfl, rfl, rfl, rfl⟩ := H
    have hcz8_0 : wr.cell? ⟨gb423, 0, none⟩ = some (.int .i64 x424000_1) := (blk_cell BK423.out 0).trans rfl
    have hcz8_1 : wr.cell? ⟨gb423, 1, none⟩ = some (.int .i64 x424001_1) := (blk_cell BK423.out 1).trans rfl
    have hcz8_2 : wr.cell? ⟨gb423, 2, none⟩ = some (.int .u32 x424002_1) := (blk_cell BK423.out 2).trans rfl
    have hcz8_3 : wr.cell? ⟨gb423, 3, none⟩ = some (.int .u32 x424003_1) := (blk_cell BK423.out 3).trans rfl
    have hfz8_0 := blk_frozen BK423.out 0
    have hfz8_1 := blk_frozen BK423.out 1
    have hfz8_2 := blk_frozen BK423.out 2
    have hfz8_3 := blk_frozen BK423.out 3
    go_wp2
    refine bodyPost_ret (results_cell_row rfl _ _ gb423 36 #[.int .i64 0, .int .i64 0, .int .u32 0, .int .u32 0] (0, 0) _ rfl (by (with_reducible repeat (first | refine blk_drewN ?_ _ | refine blk_drew ?_ | refine blk_alloc ?_ _)); refine blk_put (cs := #[.int .i64 0, .int .i64 0, .int .u32 0, .int .u32 x424003_1]) ?_ 3 _ rfl; (with_reducible repeat (first | refine blk_drewN ?_ _ | refine blk_drew ?_ | refine blk_alloc ?_ _)); refine blk_put (cs := #[.int .i64 0, .int .i64 0, .int .u32 x424002_1, .int .u32 x424003_1]) ?_ 2 _ rfl; (with_reducible repeat (first | refine blk_drewN ?_ _ | refine blk_drew ?_ | refine blk_alloc ?_ _)); refine blk_put (cs := #[.int .i64 0, .int .i64 x424001_1, .int .u32 x424002_1, .int .u32 x424003_1]) ?_ 1 _ rfl; (with_reducible repeat (first | refine blk_drewN ?_ _ | refine blk_drew ?_ | refine blk_alloc ?_ _)); refine blk_put (cs := #[.int .i64 x424000_1, .int .i64 x424001_1, .int .u32 x424002_1, .int .u32 x424003_1]) ?_ 0 _ rfl; (with_reducible repeat (first | refine blk_drewN ?_ _ | refine blk_drew ?_ | refine blk_alloc ?_ _)); exact BK423.out) Tryd.underlying36 rfl (by kernel_rfl)) rfl ?_
    exact ⟨by first | rfl | (simp [errW_none, errW_some] <;> rfl) | (simp [*, errW_none, errW_some] <;> rfl), by repeat (first | (with_reducible first | exact HB.out | apply below_alloc | apply pw_below_drewN | apply below_drew1 | refine below_set ?_ GE423.out) | exact HB.out)⟩

end Go.Proofs.YtdmieaidheelbaaDoor.Q
end
/- QFref14has -/
section
namespace Go.Proofs.YtdmieaidheelbaaDoor.Q
open Go.RowKit Go.Proofs.YtdmieaidheelbaaDoorW.PrintWords Go.Proofs.YtdmieaidheelbaaDoorW.PrintLast Go.Proofs.YtdmieaidheelbaaDoorW.PrintMore
attribute [local go_sem] max2_int min2_int max_two min_two max_three min_three max_four min_four
set_option linter.unusedVariables false
set_option linter.unusedSimpArgs false

def mainsheetref14_has.l0 : Nat → Int → List Int → Int → Int → Option (Bool)
 | 0, _, _, _, _ => none
 | k + 1, x1, x7, x8, x9 => if x9 < x8 then (if 0 ≤ x9 then (if x9 < (x7.length : Int) then (if (rd x7 x9) = x1 then (some true) else (mainsheetref14_has.l0 k x1 x7 x8 (wrap64 (x9 + 1)))) else (none)) else (none)) else (some false)
def mainsheetref14_has.f (k : Nat) (l0 : List Int) (a1 : Int) : Option (Bool) := mainsheetref14_has.l0 k a1 l0 (l0.length : Int) 0
set_option maxHeartbeats 8000000 in
set_option maxRecDepth 100000 in
theorem mainsheetref14_has.calls (k : Nat) (A0 : Option Addr) (c0 : Nat) (l0 : List Int) (a1 : Int) (r : Bool) (w : World) (hr0 : Kd.C (Kd.int .i64) w A0 l0.length l0) (hc0 : l0.length ≤ c0) (h : mainsheetref14_has.f k l0 a1 = some r) :
  Calls Tryd.prog 122 #[.slice A0 l0.length c0, .int .i64 a1] w fun e w' => e = .returned (.bool r) ∧ Drawn0 w w' := by
 have HR0 := Aside0.mk hr0
 have HC0 := Aside0.mk hc0
 clear hr0 hc0
 have H : (mainsheetref14_has.l0 k a1 l0 (l0.length : Int) 0) = some r := h
 clear h
 have H' := Aside0.mk H
 clear H
 go_enter Tryd.func122, Tryd.ntmps122
 go_wp2
 go_loopg [9] k (fun kq v9 w' => ∃ (x9_1 : Int), v9 = .int .i64 x9_1 ∧ Aside0 (mainsheetref14_has.l0 kq a1 l0 (l0.length : Int) x9_1 = some r) ∧ Aside0 (kq ≤ k) ∧ Drawn0 w w')
 case atStart => exact ⟨(0), (by first | rfl | (simp; done) | (simp [*]; done)), H', ⟨Nat.le_refl _⟩, by repeat (first | exact Drawn0.refl _ | apply Drawn0.step)⟩
 case round =>
  clear H'
  try clear c1
  try clear p2
  obtain ⟨x9_1, rfl, HA, HK1, ⟨m1, rfl⟩⟩ := hrel
  cases gk with
  | zero => exact absurd HA.out (by simp [mainsheetref14_has.l0])
  | succ k1 =>
   have H := HA.out
   clear HA
   simp only [mainsheetref14_has.l0] at H
   by_cases c3 : x9_1 < (l0.length : Int)
   ·rw [if_pos c3] at H
    have c3b0 : decide (x9_1 < (l0.length : Int)) = true := decide_eq_true c3
    clear c3
    by_cases c4 : 0 ≤ x9_1
    ·rw [if_pos c4] at H
     have c4b0 : decide (0 ≤ x9_1) = true := decide_eq_true c4
     clear c4
     by_cases c5 : x9_1 < (l0.length : Int)
     ·rw [if_pos c5] at H
      have c5b0 : decide (x9_1 < (l0.length : Int)) = true := decide_eq_true c5
      clear c5
      by_cases c6 : (rd l0 x9_1) = a1
      ·rw [if_pos c6] at H
       have c6b0 : ((rd l0 x9_1) == a1) = true := beq_iff_eq.mpr c6
       have c6b1 : ((rd l0 x9_1) != a1) = false := bne_eq_false_iff_eq.mpr c6
       clear c6
       obtain rfl := Option.some.inj H
       have p547 : 0 ≤ (x9_1 : Int) := of_decide_eq_true (by first | (with_reducible assumption) | assumption)
       have q547 : x9_1 < (l0.length : Int) := of_decide_eq_true (by first | (with_reducible assumption) | assumption)
       obtain ⟨ad547, e547, hx547_0⟩ := Kd.at_int HR0.out x9_1 p547 q547
       cases e547
       replace p547 := eq_true p547
       replace q547 := eq_true q547
       go_wp2
       go_ret
       exact ⟨by first | rfl | (simp; done) | (simp [*]; done), by repeat (first | exact Drawn0.refl _ | apply Drawn0.step)⟩
      ·rw [if_neg c6] at H
       have c6b0 : ((rd l0 x9_1) == a1) = false := beq_eq_false_iff_ne.mpr c6
       have c6b1 : ((rd l0 x9_1) != a1) = true := bne_iff_ne.mpr c6
       have H' := Aside0.mk H
       clear H
       have p547 : 0 ≤ (x9_1 : Int) := of_decide_eq_true (by first | (with_reducible assumption) | assumption)
       have q547 : x9_1 < (l0.length : Int) := of_decide_eq_true (by first | (with_reducible assumption) | assumption)
       obtain ⟨ad547, e547, hx547_0⟩ := Kd.at_int HR0.out x9_1 p547 q547
       cases e547
       replace p547 := eq_true p547
       replace q547 := eq_true q547
       go_wp2
       go_roundg k1
       case measure => have := HK1.out; omega
       case rel => exact ⟨(wrap64 (x9_1 + 1)), (by first | rfl | (simp; done) | (simp [*]; done)), H', ⟨by have := HK1.out; omega⟩, by repeat (first | exact Drawn0.refl _ | apply Drawn0.step)⟩
     ·rw [if_neg c5] at H
      exact absurd H (by simp)
    ·rw [if_neg c4] at H
     exact absurd H (by simp)
   ·rw [if_neg c3] at H
    have c3b0 : decide (x9_1 < (l0.length : Int)) = false := decide_eq_false c3
    clear c3
    obtain rfl := Option.some.inj H
    go_wp2
    go_ret
    exact ⟨by first | rfl | (simp; done) | (simp [*]; done), by repeat (first | exact Drawn0.refl _ | apply Drawn0.step)⟩

end Go.Proofs.YtdmieaidheelbaaDoor.Q
end
/- QFref14Match -/
section
namespace Go.Proofs.YtdmieaidheelbaaDoor.Q
open Go.RowKit Go.Proofs.YtdmieaidheelbaaDoorW.PrintWords Go.Proofs.YtdmieaidheelbaaDoorW.PrintLast Go.Proofs.YtdmieaidheelbaaDoorW.PrintMore
attribute [local go_sem] max2_int min2_int max_two min_two max_three min_three max_four min_four
set_option linter.unusedVariables false
set_option linter.unusedSimpArgs false

mutual
def mainsheetref14_Match.l0 : Nat → List (List Int) → List Int → List Int → Int → Int → Option (List Int × Bool)
 | 0, _, _, _, _, _ => none
 | k + 1, x0, x1, x20, x21, x22 => if x22 < x21 then (if 0 ≤ x22 then (if x22 < (x20.length : Int) then ((mainsheetref14_has.f k x1 (rd x20 x22)).bind fun t550 => (if t550 = true then (mainsheetref14_Match.l0 k x0 x1 x20 x21 (wrap64 (x22 + 1))) else ((some (([] : List Int) : List Int)).bind fun y551 => (if y551.length + x1.length < 17592186044416 then ((some (y551 ++ x1 : List Int)).bind fun y554 => (if y554.length < 17592186044416 then ((mainsheetref14_Match.f k x0 (y554 ++ [rd x20 x22])).bind fun bt560 => (if bt560.2 = true then (some (bt560.1, true)) else (mainsheetref14_Match.l0 k x0 x1 x20 x21 (wrap64 (x22 + 1))))) else (none))) else (none))))) else (none)) else (none)) else (some (([] : List Int), false))
def mainsheetref14_Match.f : Nat → List (List Int) → List Int → Option (List Int × Bool)
 | 0, _, _ => none
 | k + 1, l0, l1 => if (l0.length : Int) = (l1.length : Int) then (some (l1, true)) else (if 0 ≤ (l1.length : Int) then (if (l1.length : Int) < (l0.length : Int) then (mainsheetref14_Match.l0 k l0 l1 (rd_L7 l0 (l1.length : Int)) ((rd_L7 l0 (l1.length : Int)).length : Int) 0) else (none)) else (none))
end
set_option maxHeartbeats 8000000 in
set_option maxRecDepth 100000 in
theorem mainsheetref14_Match.rec14 (k : Nat) : ∀ (A0 : Option Addr) (c0 : Nat) (l0 : List (List Int)) (P1_ : Nat → Prop) (u9000_ : Value) (l1 : List Int) (r1 : List Int) (r2 : Bool) (w0 w : World) (hB : Below w0.heap.size w0 w) (hr0 : Kd.C (Kd.slice 3 (Kd.int .i64)) w0 A0 l0.length l0) (hc0 : l0.length ≤ c0) (ho1 : Kd.R (Kd.int .i64) 3 w w0.heap.size P1_ u9000_ l1) (h : mainsheetref14_Match.f k l0 l1 = some (r1, r2)),
  Calls Tryd.prog 102 #[.slice A0 l0.length c0, u9000_] w fun e w' => ∃ v0_ : Value, e = .returned (.tuple #[v0_, .bool r2]) ∧ Kd.R (Kd.int .i64) 3 w' w0.heap.size (fun k_ => (P1_ k_ ∨ w.heap.size ≤ k_)) v0_ r1 ∧ Below w0.heap.size w0 w' ∧ Kept w w' (fun k_ => P1_ k_) := by
 induction k using Nat.strongRecOn with
 | _ k ih =>
 intro A0 c0 l0 P1_ u9000_ l1 r1 r2 w0 w hB hr0 hc0 ho1 h
 cases k with
 | zero => exact absurd h (by simp [mainsheetref14_Match.f])
 | succ k =>
 simp only [mainsheetref14_Match.f] at h
 have HR0 := Aside0.mk hr0
 have HC0 := Aside0.mk hc0
 clear hr0 hc0
 have HO1 := Aside0.mk (show Kd.R (Kd.int .i64) 3 w w0.heap.size (fun k_ => (P1_ k_ ∨ w.heap.size ≤ k_)) u9000_ l1 from Kd.R_mono ho1 (fun k_ hk => (.inl hk)))
 have HK := Aside0.mk (Kept.refl w (fun k_ => P1_ k_))
 have HW0 := Aside0.mk hB.size
 have HB := Aside0.mk hB
 clear hB
 have H : (if (l0.length : Int) = (l1.length : Int) then (some (l1, true)) else (if 0 ≤ (l1.length : Int) then (if (l1.length : Int) < (l0.length : Int) then (mainsheetref14_Match.l0 k l0 l1 (rd_L7 l0 (l1.length : Int)) ((rd_L7 l0 (l1.length : Int)).length : Int) 0) else (none)) else (none))) = some (r1, r2) := h
 clear h
 by_cases c3 : (l0.length : Int) = (l1.length : Int)
 ·rw [if_pos c3] at H
  have c3b0 : ((l0.length : Int) == (l1.length : Int)) = true := beq_iff_eq.mpr c3
  have c3b1 : ((l0.length : Int) != (l1.length : Int)) = false := bne_eq_false_iff_eq.mpr c3
  have c3b2 : (l0.length == l1.length) = true := by first | simpa using c3 | (simp at c3 ⊢; omega)
  clear c3
  simp only [Option.some.injEq, Prod.mk.injEq] at H
  obtain ⟨rfl, rfl⟩ := H
  obtain ⟨Ao4, co4, eo4⟩ := Kd.R_slice HO1.out
  subst eo4
  go_enter Tryd.func102, Tryd.ntmps102
  go_wp2
  go_ret2
  exact ⟨_, by first | rfl | (simp [errW_none, errW_some] <;> rfl) | (simp [*, errW_none, errW_some] <;> rfl), by (with_reducible repeat (first | apply Kd.R_alloc | apply Kd.R_drewN | apply Kd.R_drew)); exact HO1.out, by repeat (first | (with_reducible first | exact HB.out | apply below_alloc | apply pw_below_drewN | apply below_drew1) | exact HB.out), by repeat (first | (with_reducible first | exact HK.out | apply Kept.alloc | apply Kept.drewN | apply Kept.drew) | exact HK.out)⟩
 ·rw [if_neg c3] at H
  have c3b0 : ((l0.length : Int) == (l1.length : Int)) = false := beq_eq_false_iff_ne.mpr c3
  have c3b1 : ((l0.length : Int) != (l1.length : Int)) = true := bne_iff_ne.mpr c3
  have c3b2 : (l0.length == l1.length) = false := by first | simpa using c3 | (simp at c3 ⊢; omega)
  by_cases c5 : 0 ≤ (l1.length : Int)
  ·rw [if_pos c5] at H
   have c5b0 : decide (0 ≤ (l1.length : Int)) = true := decide_eq_true c5
   have c5b1 : decide (0 ≤ l1.length) = true := decide_eq_true (by omega)
   clear c5
   by_cases c6 : (l1.length : Int) < (l0.length : Int)
   ·rw [if_pos c6] at H
    have c6b0 : decide ((l1.length : Int) < (l0.length : Int)) = true := decide_eq_true c6
    have c6b1 : decide (l1.length < l0.length) = true := decide_eq_true (Int.ofNat_lt.mp c6)
    clear c6
    have H' := Aside0.mk H
    clear H
    obtain ⟨Ao7, co7, eo7⟩ := Kd.R_slice HO1.out
    subst eo7
    have p548 : 0 ≤ ((l1.length : Int) : Int) := of_decide_eq_true (by first | (with_reducible assumption) | assumption)
    have q548 : (l1.length : Int) < (l0.length : Int) := of_decide_eq_true (by first | (with_reducible assumption) | assumption)
    obtain ⟨ad548, A548_0, c548_0, e548, hx548_0, hl548_0, hi548_0⟩ := at_L7 HR0.out (l1.length : Int) p548 q548
    cases e548
    have HR548_0 := Aside0.mk hi548_0
    have HC548_0 := Aside0.mk hl548_0
    clear hi548_0 hl548_0
    (try simp only [Go.IntWalk.toNatUp] at hx548_0)
    replace hx548_0 := (HB.out.cell (World.block_lt_of_cell? w0 _ hx548_0)).trans hx548_0
    replace p548 := eq_true p548
    replace q548 := eq_true q548
    go_enter Tryd.func102, Tryd.ntmps102
    go_wp2
    go_loopg [22] k (fun kq v22 w' => ∃ (x22_1 : Int), v22 = .int .i64 x22_1 ∧ Aside0 (mainsheetref14_Match.l0 kq l0 l1 (rd_L7 l0 (l1.length : Int)) ((rd_L7 l0 (l1.length : Int)).length : Int) x22_1 = some (r1, r2)) ∧ Aside0 (kq ≤ k) ∧ Aside0 (Kd.R (Kd.int .i64) 3 w' w0.heap.size (fun k_ => (P1_ k_ ∨ w.heap.size ≤ k_)) (.slice Ao7 l1.length co7) l1) ∧ Aside0 (Kept w w' (fun k_ => P1_ k_)) ∧ Aside0 (Below w0.heap.size w0 w'))
    case atStart => exact ⟨(0), (by first | rfl | (simp; done) | (simp [*]; done)), H', ⟨Nat.le_refl _⟩, ⟨by (with_reducible repeat (first | apply Kd.R_alloc | apply Kd.R_drewN | apply Kd.R_drew)); exact HO1.out⟩, ⟨by repeat (first | (with_reducible first | exact HK.out | apply Kept.alloc | apply Kept.drewN | apply Kept.drew) | exact HK.out)⟩, ⟨by repeat (first | (with_reducible first | exact HB.out | apply below_alloc | apply pw_below_drewN | apply below_drew1) | exact HB.out)⟩⟩
    case round =>
     clear H'
     try clear c1
     try clear p2
     try clear c3
     try clear c3b0
     try clear c3b1
     try clear c3b2
     try clear c5
     try clear c5b0
     try clear c5b1
     try clear p5
     try clear q5
     try clear hx5
     try clear c6
     try clear c6b0
     try clear c6b1
     try clear hx548_0
     try clear p548
     try clear q548
     obtain ⟨x22_1, rfl, HA, HK1, HO_1, HK, HB⟩ := hrel
     cases gk with
     | zero => exact absurd HA.out (by simp [mainsheetref14_Match.l0])
     | succ k1 =>
      have H := HA.out
      clear HA
      simp only [mainsheetref14_Match.l0] at H
      by_cases c8 : x22_1 < ((rd_L7 l0 (l1.length : Int)).length : Int)
      ·rw [if_pos c8] at H
       have c8b0 : decide (x22_1 < ((rd_L7 l0 (l1.length : Int)).length : Int)) = true := decide_eq_true c8
       clear c8
       by_cases c9 : 0 ≤ x22_1
       ·rw [if_pos c9] at H
        have c9b0 : decide (0 ≤ x22_1) = true := decide_eq_true c9
        clear c9
        by_cases c10 : x22_1 < ((rd_L7 l0 (l1.length : Int)).length : Int)
        ·rw [if_pos c10] at H
         have c10b0 : decide (x22_1 < ((rd_L7 l0 (l1.length : Int)).length : Int)) = true := decide_eq_true c10
         clear c10
         replace H := Option.bind_eq_some_iff.mp H
         obtain ⟨t550, A110, H⟩ := H
         replace H : (if t550 = true then (mainsheetref14_Match.l0 k1 l0 l1 (rd_L7 l0 (l1.length : Int)) ((rd_L7 l0 (l1.length : Int)).length : Int) (wrap64 (x22_1 + 1))) else ((some (([] : List Int) : List Int)).bind fun y551 => (if y551.length + l1.length < 17592186044416 then ((some (y551 ++ l1 : List Int)).bind fun y554 => (if y554.length < 17592186044416 then ((mainsheetref14_Match.f k1 l0 (y554 ++ [rd (rd_L7 l0 (l1.length : Int)) x22_1])).bind fun bt560 => (if bt560.2 = true then (some (bt560.1, true)) else (mainsheetref14_Match.l0 k1 l0 l1 (rd_L7 l0 (l1.length : Int)) ((rd_L7 l0 (l1.length : Int)).length : Int) (wrap64 (x22_1 + 1))))) else (none))) else (none)))) = some (r1, r2) := H
         have A11 := Aside0.mk A110
         clear A110
         by_cases c12 : t550 = true
         ·subst c12
          have H1 : (mainsheetref14_Match.l0 k1 l0 l1 (rd_L7 l0 (l1.length : Int)) ((rd_L7 l0 (l1.length : Int)).length : Int) (wrap64 (x22_1 + 1))) = some (r1, r2) := by rw [if_pos rfl] at H; exact H
          clear H
          have H := H1
          clear H1
          have H' := Aside0.mk H
          clear H
          have p549 : 0 ≤ (x22_1 : Int) := of_decide_eq_true (by first | (with_reducible assumption) | assumption)
          have q549 : x22_1 < ((rd_L7 l0 (l1.length : Int)).length : Int) := of_decide_eq_true (by first | (with_reducible assumption) | assumption)
          obtain ⟨ad549, e549, hx549_0⟩ := Kd.at_int HR548_0.out x22_1 p549 q549
          cases e549
          replace hx549_0 := (HB.out.cell (World.block_lt_of_cell? w0 _ hx549_0)).trans hx549_0
          replace p549 := eq_true p549
          replace q549 := eq_true q549
          go_wp2_with (first | ((with_reducible refine gate_callee (f := 122) rfl ?_); refine goesL_ (some 28) rfl rfl Tryd.func122 (by kernel_rfl) rfl #[.slice Ao7 l1.length co7, .int .i64 (rd (rd_L7 l0 (l1.length : Int)) x22_1)] rfl (by (try simp only [List.map_toArray, List.map_cons, List.map_nil]); first | done | rfl | (simp only [List.length_drop, List.length_take]; rfl)) ?_; (with_reducible refine (mainsheetref14_has.calls k1 _ _ l1 (rd (rd_L7 l0 (l1.length : Int)) x22_1) true _ ?side1 ?side2 A11.out).mono ?_); (case side1 => repeat (first | exact (Kd.R_reads' HO_1.out).2.2 | (with_reducible refine Kd.C_alloc ?_ _) | (with_reducible refine Kd.C_drewN ?_ _) | (with_reducible refine Kd.C_drew ?_))); (case side2 => exact (Kd.R_reads' HO_1.out).2.1); rintro e w' ⟨rfl, ⟨nd, rfl⟩⟩; refine ⟨_, rfl, ?_⟩))
          go_roundg k1
          case measure => have := HK1.out; omega
          case rel => exact ⟨(wrap64 (x22_1 + 1)), (by first | rfl | (simp; done) | (simp [*]; done)), H', ⟨by have := HK1.out; omega⟩, ⟨by (with_reducible repeat (first | apply Kd.R_alloc | apply Kd.R_drewN | apply Kd.R_drew)); exact HO_1.out⟩, ⟨by repeat (first | (with_reducible first | exact HK.out | apply Kept.alloc | apply Kept.drewN | apply Kept.drew) | exact HK.out)⟩, ⟨by repeat (first | (with_reducible first | exact HB.out | apply below_alloc | apply pw_below_drewN | apply below_drew1) | exact HB.out)⟩⟩
         ·replace c12 := Bool.eq_false_iff.mpr c12
          subst c12
          have H1 : ((some (([] : List Int) : List Int)).bind fun y551 => (if y551.length + l1.length < 17592186044416 then ((some (y551 ++ l1 : List Int)).bind fun y554 => (if y554.length < 17592186044416 then ((mainsheetref14_Match.f k1 l0 (y554 ++ [rd (rd_L7 l0 (l1.length : Int)) x22_1])).bind fun bt560 => (if bt560.2 = true then (some (bt560.1, true)) else (mainsheetref14_Match.l0 k1 l0 l1 (rd_L7 l0 (l1.length : Int)) ((rd_L7 l0 (l1.length : Int)).length : Int) (wrap64 (x22_1 + 1))))) else (none))) else (none))) = some (r1, r2) := by rw [if_neg (show ¬ (false = true) by decide)] at H; exact H
          clear H
          have H := H1
          clear H1
          obtain ⟨y551, hy551⟩ : ∃ y_ : List Int, y_ = (([] : List Int)) := ⟨_, rfl⟩
          replace H : (if y551.length + l1.length < 17592186044416 then ((some (y551 ++ l1 : List Int)).bind fun y554 => (if y554.length < 17592186044416 then ((mainsheetref14_Match.f k1 l0 (y554 ++ [rd (rd_L7 l0 (l1.length : Int)) x22_1])).bind fun bt560 => (if bt560.2 = true then (some (bt560.1, true)) else (mainsheetref14_Match.l0 k1 l0 l1 (rd_L7 l0 (l1.length : Int)) ((rd_L7 l0 (l1.length : Int)).length : Int) (wrap64 (x22_1 + 1))))) else (none))) else (none)) = some (r1, r2) := by first | (rw [hy551]; with_reducible exact H) | (have H2_ := (Option.bind_some _ _).symm.trans H; rw [hy551]; with_reducible exact H2_) | (have H2_ := (Option.bind_some _ _).symm.trans H; with_reducible exact H2_) | with_reducible exact H | (rw [hy551]; exact H) | exact H
          have Ny551 := Aside0.mk hy551
          clear hy551
          by_cases c13 : y551.length + l1.length < 17592186044416
          ·rw [if_pos c13] at H
           have LMc13 := Aside0.mk c13
           clear c13
           obtain ⟨y554, hy554⟩ : ∃ y_ : List Int, y_ = (y551 ++ l1) := ⟨_, rfl⟩
           replace H : (if y554.length < 17592186044416 then ((mainsheetref14_Match.f k1 l0 (y554 ++ [rd (rd_L7 l0 (l1.length : Int)) x22_1])).bind fun bt560 => (if bt560.2 = true then (some (bt560.1, true)) else (mainsheetref14_Match.l0 k1 l0 l1 (rd_L7 l0 (l1.length : Int)) ((rd_L7 l0 (l1.length : Int)).length : Int) (wrap64 (x22_1 + 1))))) else (none)) = some (r1, r2) := by first | (rw [hy554]; with_reducible exact H) | (have H2_ := (Option.bind_some _ _).symm.trans H; rw [hy554]; with_reducible exact H2_) | (have H2_ := (Option.bind_some _ _).symm.trans H; with_reducible exact H2_) | with_reducible exact H | (rw [hy554]; exact H) | exact H
           have Ny554 := Aside0.mk hy554
           clear hy554
           by_cases c14 : y554.length < 17592186044416
           ·rw [if_pos c14] at H
            have LMc14 := Aside0.mk c14
            clear c14
            obtain ⟨y557, hy557⟩ : ∃ y_ : List Int, y_ = (y554 ++ [rd (rd_L7 l0 (l1.length : Int)) x22_1]) := ⟨_, rfl⟩
            replace H : ((mainsheetref14_Match.f k1 l0 y557).bind fun bt560 => (if bt560.2 = true then (some (bt560.1, true)) else (mainsheetref14_Match.l0 k1 l0 l1 (rd_L7 l0 (l1.length : Int)) ((rd_L7 l0 (l1.length : Int)).length : Int) (wrap64 (x22_1 + 1))))) = some (r1, r2) := by first | (rw [hy557]; with_reducible exact H) | (have H2_ := (Option.bind_some _ _).symm.trans H; rw [hy557]; with_reducible exact H2_) | (have H2_ := (Option.bind_some _ _).symm.trans H; with_reducible exact H2_) | with_reducible exact H | (rw [hy557]; exact H) | exact H
            have Ny557 := Aside0.mk hy557
            clear hy557
            replace H := Option.bind_eq_some_iff.mp H
            obtain ⟨⟨t560, t563⟩, A150, H⟩ := H
            replace H : (if t563 = true then (some (t560, true)) else (mainsheetref14_Match.l0 k1 l0 l1 (rd_L7 l0 (l1.length : Int)) ((rd_L7 l0 (l1.length : Int)).length : Int) (wrap64 (x22_1 + 1)))) = some (r1, r2) := H
            have A15 := Aside0.mk A150
            clear A150
            by_cases c16 : t563 = true
            ·subst c16
             have H1 : (some (t560, true)) = some (r1, r2) := by rw [if_pos rfl] at H; exact H
             clear H
             have H := H1
             clear H1
             simp only [Option.some.injEq, Prod.mk.injEq] at H
             obtain ⟨rfl, rfl⟩ := H
             have p549 : 0 ≤ (x22_1 : Int) := of_decide_eq_true (by first | (with_reducible assumption) | assumption)
             have q549 : x22_1 < ((rd_L7 l0 (l1.length : Int)).length : Int) := of_decide_eq_true (by first | (with_reducible assumption) | assumption)
             obtain ⟨ad549, e549, hx549_0⟩ := Kd.at_int HR548_0.out x22_1 p549 q549
             cases e549
             replace hx549_0 := (HB.out.cell (World.block_lt_of_cell? w0 _ hx549_0)).trans hx549_0
             replace p549 := eq_true p549
             replace q549 := eq_true q549
             go_wp2_with (first | ((with_reducible refine gate_callee (f := 122) rfl ?_); refine goesL_ (some 28) rfl rfl Tryd.func122 (by kernel_rfl) rfl #[.slice Ao7 l1.length co7, .int .i64 (rd (rd_L7 l0 (l1.length : Int)) x22_1)] rfl (by (try simp only [List.map_toArray, List.map_cons, List.map_nil]); first | done | rfl | (simp only [List.length_drop, List.length_take]; rfl)) ?_; (with_reducible refine (mainsheetref14_has.calls k1 _ _ l1 (rd (rd_L7 l0 (l1.length : Int)) x22_1) false _ ?side1 ?side2 A11.out).mono ?_); (case side1 => repeat (first | exact (Kd.R_reads' HO_1.out).2.2 | (with_reducible refine Kd.C_alloc ?_ _) | (with_reducible refine Kd.C_drewN ?_ _) | (with_reducible refine Kd.C_drew ?_))); (case side2 => exact (Kd.R_reads' HO_1.out).2.1); rintro e w' ⟨rfl, ⟨nd, rfl⟩⟩; refine ⟨_, rfl, ?_⟩) | ((with_reducible refine gate_dst (N := 31) rfl ?_); refine Kd.R_lit (Kd.int .i64) _ 3 ?hg (N := 31) ?hd (xs := ([] : List Int)) (inner := []) (ok := fun _ => True) (okp := fun _ => True) ?hr ?hp (fun _ hk => hk) trivial (Below.refl _ _) (Nat.le_refl _) (by simp) ?_; (case hd => rfl); (case hg => rfl); (case hr => first | (go_simp; done) | (go_simp; rfl)); (case hp => exact (Reps.none _ _)); intro v552 w17 ho18 hb hg_ hnew_; clear hg_ hnew_; (first | rw [← Ny551.out] at ho18 | (simp only [Int.reduceToNat] at ho18; rw [← Ny551.out] at ho18)); have n0_ := Aside0.mk (Kd.R_elder' (by (with_reducible repeat (first | apply Kd.R_alloc | apply Kd.R_drewN | apply Kd.R_drew)); exact HO_1.out) (Kd.R_base ho18) hb); have n1_ := Aside0.mk (Kd.R_lower (Kd.R_new' (Kd.R_newM (M := fun k_ => (P1_ k_ ∨ w.heap.size ≤ k_)) ho18 (by first | exact HK.out.1 | exact (show Kept w _ (fun k_ => P1_ k_) from by repeat (first | (with_reducible first | exact HK.out | apply Kept.alloc | apply Kept.drewN | apply Kept.drew) | exact HK.out)).1) (fun k_ h_ => .inr h_)) (Kd.R_lt (by (with_reducible repeat (first | apply Kd.R_alloc | apply Kd.R_drewN | apply Kd.R_drew)); exact HO_1.out))) (below_size (by repeat (first | (with_reducible first | exact HB.out | apply below_alloc | apply pw_below_drewN | apply below_drew1) | exact HB.out)))); have n2_ := Aside0.mk (Kept.below (S := (fun k_ => P1_ k_)) (by repeat (first | (with_reducible first | exact HK.out | apply Kept.alloc | apply Kept.drewN | apply Kept.drew) | exact HK.out)) hb); have n3_ := Aside0.mk (below_step (by repeat (first | (with_reducible first | exact HB.out | apply below_alloc | apply pw_below_drewN | apply below_drew1) | exact HB.out)) hb); clear HO_1; clear HK; clear HB; have HO_1 := n0_; have HO553 := n1_; have HK := n2_; have HB := n3_; clear n0_ n1_ n2_ n3_; clear hb ho18) | ((with_reducible refine gate_builtin (b := .append) (xs := #[.tmp 31, .tmp 32]) rfl ?_); at_builtin; refine Kd.R_append_rows (Kd.int .i64) (w0 := w0) w0.heap.size rfl (.tmp 31) (.tmp 32) 42 3 (.int .i64 0) 8 rfl Tryd.underlying42 info3 rfl (by decide) (by omega) v552 y551 l1 _ _ _ (fun k_ => (P1_ k_ ∨ w.heap.size ≤ k_) ∧ some k_ ≠ (.slice Ao7 l1.length co7 : Value).ownBlock) (fun _ => False) rfl rfl ?aO ?aR (fun _ _ h => h) (fun _ h => h.elim) ?aF ?aB ?aS ?aL ?_; (case aR => repeat (first | exact (Kd.R_reads' HO_1.out).2.2 | (with_reducible refine Kd.C_alloc ?_ _) | (with_reducible refine Kd.C_drewN ?_ _) | (with_reducible refine Kd.C_drew ?_))); (case aB => exact (by repeat (first | (with_reducible first | exact HB.out | apply below_alloc | apply pw_below_drewN | apply below_drew1) | exact HB.out))); (case aF => exact (fun k_ hk => ⟨(.inr (Nat.le_trans (by first | exact HK.out.1 | exact (show Kept w _ (fun k_ => P1_ k_) from by repeat (first | (with_reducible first | exact HK.out | apply Kept.alloc | apply Kept.drewN | apply Kept.drew) | exact HK.out)).1) hk)), Kd.fresh' (Kd.R_lt (by (with_reducible repeat (first | apply Kd.R_alloc | apply Kd.R_drewN | apply Kd.R_drew)); exact HO_1.out)) k_ hk⟩)); (case aO => exact (by (with_reducible repeat (first | apply Kd.R_alloc | apply Kd.R_drewN | apply Kd.R_drew)); exact Kd.R_mono HO553.out (fun _ hk => ⟨hk.1.1, hk.2⟩))); (case aS => exact (below_size (by repeat (first | (with_reducible first | exact HB.out | apply below_alloc | apply pw_below_drewN | apply below_drew1) | exact HB.out)))); (case aL => have := LMc13.out; omega); intro v555 w19 ho hb hg hat; rw [← Ny554.out] at ho; have n0_ := Aside0.mk (Kd.R_after (ok := (fun k_ => (P1_ k_ ∨ w.heap.size ≤ k_))) (by (with_reducible repeat (first | apply Kd.R_alloc | apply Kd.R_drewN | apply Kd.R_drew)); exact HO_1.out) hg hat); have n1_ := Aside0.mk (hb); have n2_ := Aside0.mk (Kept.of_grown (S := (fun k_ => P1_ k_)) hg (by repeat (first | (with_reducible first | exact HK.out | apply Kept.alloc | apply Kept.drewN | apply Kept.drew) | exact HK.out)) (fun k_ e_ => (HO553.out.1 k_ e_).1.1)); have n3_ := Aside0.mk (ho); clear HO_1; clear HB; clear HK; clear HO553; have HO_1 := n0_; have HB := n1_; have HK := n2_; have HO556 := n3_; clear n0_ n1_ n2_ n3_; clear ho hb hg hat) | ((with_reducible refine gate_builtin (b := .append) (xs := #[.tmp 33, .tmp 35]) rfl ?_); at_builtin; refine Kd.R_append (Kd.int .i64) (w0 := w0) w0.heap.size rfl (.tmp 33) (.tmp 35) 42 3 (.int .i64 0) 8 rfl Tryd.underlying42 info3 rfl (by decide) (by omega) v555 y554 (rd (rd_L7 l0 (l1.length : Int)) x22_1) [.int .i64 (rd (rd_L7 l0 (l1.length : Int)) x22_1)] (fun k_ => (P1_ k_ ∨ w.heap.size ≤ k_) ∧ some k_ ≠ (.slice Ao7 l1.length co7 : Value).ownBlock) (fun _ => False) rfl rfl ?aP (fun _ hk => hk.elim) ?aF ?aO ?aB ?aS ?aL ?_; (case aP => exact rfl); (case aB => exact (by repeat (first | (with_reducible first | exact HB.out | apply below_alloc | apply pw_below_drewN | apply below_drew1) | exact HB.out))); (case aF => exact (fun k_ hk => ⟨(.inr (Nat.le_trans (by first | exact HK.out.1 | exact (show Kept w _ (fun k_ => P1_ k_) from by repeat (first | (with_reducible first | exact HK.out | apply Kept.alloc | apply Kept.drewN | apply Kept.drew) | exact HK.out)).1) hk)), Kd.fresh' (Kd.R_lt (by (with_reducible repeat (first | apply Kd.R_alloc | apply Kd.R_drewN | apply Kd.R_drew)); exact HO_1.out)) k_ hk⟩)); (case aO => exact (by (with_reducible repeat (first | apply Kd.R_alloc | apply Kd.R_drewN | apply Kd.R_drew)); exact HO556.out)); (case aS => exact (below_size (by repeat (first | (with_reducible first | exact HB.out | apply below_alloc | apply pw_below_drewN | apply below_drew1) | exact HB.out)))); (case aL => have := LMc14.out; omega); intro v558 w20 ho hb hg hat; rw [← Ny557.out] at ho; have n0_ := Aside0.mk (Kd.R_after (ok := (fun k_ => (P1_ k_ ∨ w.heap.size ≤ k_))) (by (with_reducible repeat (first | apply Kd.R_alloc | apply Kd.R_drewN | apply Kd.R_drew)); exact HO_1.out) hg hat); have n1_ := Aside0.mk (hb); have n2_ := Aside0.mk (Kept.of_grown (S := (fun k_ => P1_ k_)) hg (by repeat (first | (with_reducible first | exact HK.out | apply Kept.alloc | apply Kept.drewN | apply Kept.drew) | exact HK.out)) (fun k_ e_ => (HO556.out.1 k_ e_).1)); have n3_ := Aside0.mk (ho); clear HO_1; clear HB; clear HK; clear HO556; have HO_1 := n0_; have HB := n1_; have HK := n2_; have HO559 := n3_; clear n0_ n1_ n2_ n3_; clear ho hb hg hat; obtain ⟨Ao21, co21, eo21⟩ := Kd.R_slice HO559.out; subst eo21) | ((with_reducible refine gate_callee (f := 102) rfl ?_); refine goesL_ (some 37) rfl rfl Tryd.func102 (by kernel_rfl) rfl #[.slice (some ad548) l0.length c0, .slice Ao21 y557.length co21] rfl (by (try simp only [List.map_toArray, List.map_cons, List.map_nil]); first | done | rfl | (simp only [List.length_drop, List.length_take]; rfl)) ?_; (with_reducible refine (ih k1 (by have := HK1.out; omega) _ _ l0 (fun k_ => some k_ = (.slice Ao21 y557.length co21 : Value).ownBlock) (.slice Ao21 y557.length co21) y557 t560 true w0 _ ?side1 ?side2 ?side3 ?side4 A15.out).mono ?_); (case side1 => repeat (first | (with_reducible first | exact HB.out | apply below_alloc | apply pw_below_drewN | apply below_drew1) | exact HB.out)); (case side2 => exact HR0.out); (case side3 => exact HC0.out); (case side4 => exact Kd.R_tight rfl HO559.out); rintro e w22 ⟨v561, rfl, ho0, hb, hkp⟩; refine ⟨_, rfl, ?_⟩; have n0_ := Aside0.mk (Kd.R_mono (ok' := fun k_ => (P1_ k_ ∨ w.heap.size ≤ k_) ∧ some k_ ≠ (v561 : Value).ownBlock) (Kd.R_keptB (HO_1.out) hkp (fun k_ hk_ hs_ => (hk_.2) hs_)) (fun k_ hk_ => ⟨hk_.1.1, fun e_ => Or.elim (ho0.1 k_ e_.symm) (fun hs_ => hk_.2.1 hs_) (fun hn_ => Nat.not_le.2 hk_.2.2 hn_)⟩)); have n1_ := Aside0.mk (Kd.R_mono (ok' := fun k_ => (P1_ k_ ∨ w.heap.size ≤ k_) ∧ some k_ ≠ (.slice Ao7 l1.length co7 : Value).ownBlock) ho0 (fun k_ hk_ => ⟨Or.elim hk_ (fun hs_ => (HO559.out.1 k_ (hs_).symm).1) (fun hn_ => (.inr (Nat.le_trans (by first | exact HK.out.1 | exact (show Kept w _ (fun k_ => P1_ k_) from by repeat (first | (with_reducible first | exact HK.out | apply Kept.alloc | apply Kept.drewN | apply Kept.drew) | exact HK.out)).1) hn_))), Or.elim hk_ (fun hs_ => fun e_ => (((HO_1.out).1 k_ e_.symm).2) hs_) (fun hn_ => (Kd.fresh' (Kd.R_lt (by (with_reducible repeat (first | apply Kd.R_alloc | apply Kd.R_drewN | apply Kd.R_drew)); exact HO_1.out)) k_ hn_))⟩)); have n2_ := Aside0.mk (Kept.then_ (S := (fun k_ => P1_ k_)) (by repeat (first | (with_reducible first | exact HK.out | apply Kept.alloc | apply Kept.drewN | apply Kept.drew) | exact HK.out)) hkp (fun k_ hs_ => (fun e_ => (HO559.out.1 k_ e_.symm).1) hs_)); have n3_ := Aside0.mk (hb); clear HO_1; clear HK; clear HB; clear HO559; have HO_1 := n0_; have HO562 := n1_; have HK := n2_; have HB := n3_; clear n0_ n1_ n2_ n3_; (try clear hb); (try clear hkp); (try clear ho0)))
             go_ret2
             exact ⟨_, by first | rfl | (simp [errW_none, errW_some] <;> rfl) | (simp [*, errW_none, errW_some] <;> rfl), by (with_reducible repeat (first | apply Kd.R_alloc | apply Kd.R_drewN | apply Kd.R_drew)); exact Kd.R_mono HO562.out (fun _ hk => hk.1), by repeat (first | (with_reducible first | exact HB.out | apply below_alloc | apply pw_below_drewN | apply below_drew1) | exact HB.out), by repeat (first | (with_reducible first | exact HK.out | apply Kept.alloc | apply Kept.drewN | apply Kept.drew) | exact HK.out)⟩
            ·replace c16 := Bool.eq_false_iff.mpr c16
             subst c16
             have H1 : (mainsheetref14_Match.l0 k1 l0 l1 (rd_L7 l0 (l1.length : Int)) ((rd_L7 l0 (l1.length : Int)).length : Int) (wrap64 (x22_1 + 1))) = some (r1, r2) := by rw [if_neg (show ¬ (false = true) by decide)] at H; exact H
             clear H
             have H := H1
             clear H1
             have H' := Aside0.mk H
             clear H
             have p549 : 0 ≤ (x22_1 : Int) := of_decide_eq_true (by first | (with_reducible assumption) | assumption)
             have q549 : x22_1 < ((rd_L7 l0 (l1.length : Int)).length : Int) := of_decide_eq_true (by first | (with_reducible assumption) | assumption)
             obtain ⟨ad549, e549, hx549_0⟩ := Kd.at_int HR548_0.out x22_1 p549 q549
             cases e549
             replace hx549_0 := (HB.out.cell (World.block_lt_of_cell? w0 _ hx549_0)).trans hx549_0
             replace p549 := eq_true p549
             replace q549 := eq_true q549
             go_wp2_with (first | ((with_reducible refine gate_callee (f := 122) rfl ?_); refine goesL_ (some 28) rfl rfl Tryd.func122 (by kernel_rfl) rfl #[.slice Ao7 l1.length co7, .int .i64 (rd (rd_L7 l0 (l1.length : Int)) x22_1)] rfl (by (try simp only [List.map_toArray, List.map_cons, List.map_nil]); first | done | rfl | (simp only [List.length_drop, List.length_take]; rfl)) ?_; (with_reducible refine (mainsheetref14_has.calls k1 _ _ l1 (rd (rd_L7 l0 (l1.length : Int)) x22_1) false _ ?side1 ?side2 A11.out).mono ?_); (case side1 => repeat (first | exact (Kd.R_reads' HO_1.out).2.2 | (with_reducible refine Kd.C_alloc ?_ _) | (with_reducible refine Kd.C_drewN ?_ _) | (with_reducible refine Kd.C_drew ?_))); (case side2 => exact (Kd.R_reads' HO_1.out).2.1); rintro e w' ⟨rfl, ⟨nd, rfl⟩⟩; refine ⟨_, rfl, ?_⟩) | ((with_reducible refine gate_dst (N := 31) rfl ?_); refine Kd.R_lit (Kd.int .i64) _ 3 ?hg (N := 31) ?hd (xs := ([] : List Int)) (inner := []) (ok := fun _ => True) (okp := fun _ => True) ?hr ?hp (fun _ hk => hk) trivial (Below.refl _ _) (Nat.le_refl _) (by simp) ?_; (case hd => rfl); (case hg => rfl); (case hr => first | (go_simp; done) | (go_simp; rfl)); (case hp => exact (Reps.none _ _)); intro v552 w23 ho24 hb hg_ hnew_; clear hg_ hnew_; (first | rw [← Ny551.out] at ho24 | (simp only [Int.reduceToNat] at ho24; rw [← Ny551.out] at ho24)); have n0_ := Aside0.mk (Kd.R_elder' (by (with_reducible repeat (first | apply Kd.R_alloc | apply Kd.R_drewN | apply Kd.R_drew)); exact HO_1.out) (Kd.R_base ho24) hb); have n1_ := Aside0.mk (Kd.R_lower (Kd.R_new' (Kd.R_newM (M := fun k_ => (P1_ k_ ∨ w.heap.size ≤ k_)) ho24 (by first | exact HK.out.1 | exact (show Kept w _ (fun k_ => P1_ k_) from by repeat (first | (with_reducible first | exact HK.out | apply Kept.alloc | apply Kept.drewN | apply Kept.drew) | exact HK.out)).1) (fun k_ h_ => .inr h_)) (Kd.R_lt (by (with_reducible repeat (first | apply Kd.R_alloc | apply Kd.R_drewN | apply Kd.R_drew)); exact HO_1.out))) (below_size (by repeat (first | (with_reducible first | exact HB.out | apply below_alloc | apply pw_below_drewN | apply below_drew1) | exact HB.out)))); have n2_ := Aside0.mk (Kept.below (S := (fun k_ => P1_ k_)) (by repeat (first | (with_reducible first | exact HK.out | apply Kept.alloc | apply Kept.drewN | apply Kept.drew) | exact HK.out)) hb); have n3_ := Aside0.mk (below_step (by repeat (first | (with_reducible first | exact HB.out | apply below_alloc | apply pw_below_drewN | apply below_drew1) | exact HB.out)) hb); clear HO_1; clear HK; clear HB; have HO_1 := n0_; have HO553 := n1_; have HK := n2_; have HB := n3_; clear n0_ n1_ n2_ n3_; clear hb ho24) | ((with_reducible refine gate_builtin (b := .append) (xs := #[.tmp 31, .tmp 32]) rfl ?_); at_builtin; refine Kd.R_append_rows (Kd.int .i64) (w0 := w0) w0.heap.size rfl (.tmp 31) (.tmp 32) 42 3 (.int .i64 0) 8 rfl Tryd.underlying42 info3 rfl (by decide) (by omega) v552 y551 l1 _ _ _ (fun k_ => (P1_ k_ ∨ w.heap.size ≤ k_) ∧ some k_ ≠ (.slice Ao7 l1.length co7 : Value).ownBlock) (fun _ => False) rfl rfl ?aO ?aR (fun _ _ h => h) (fun _ h => h.elim) ?aF ?aB ?aS ?aL ?_; (case aR => repeat (first | exact (Kd.R_reads' HO_1.out).2.2 | (with_reducible refine Kd.C_alloc ?_ _) | (with_reducible refine Kd.C_drewN ?_ _) | (with_reducible refine Kd.C_drew ?_))); (case aB => exact (by repeat (first | (with_reducible first | exact HB.out | apply below_alloc | apply pw_below_drewN | apply below_drew1) | exact HB.out))); (case aF => exact (fun k_ hk => ⟨(.inr (Nat.le_trans (by first | exact HK.out.1 | exact (show Kept w _ (fun k_ => P1_ k_) from by repeat (first | (with_reducible first | exact HK.out | apply Kept.alloc | apply Kept.drewN | apply Kept.drew) | exact HK.out)).1) hk)), Kd.fresh' (Kd.R_lt (by (with_reducible repeat (first | apply Kd.R_alloc | apply Kd.R_drewN | apply Kd.R_drew)); exact HO_1.out)) k_ hk⟩)); (case aO => exact (by (with_reducible repeat (first | apply Kd.R_alloc | apply Kd.R_drewN | apply Kd.R_drew)); exact Kd.R_mono HO553.out (fun _ hk => ⟨hk.1.1, hk.2⟩))); (case aS => exact (below_size (by repeat (first | (with_reducible first | exact HB.out | apply below_alloc | apply pw_below_drewN | apply below_drew1) | exact HB.out)))); (case aL => have := LMc13.out; omega); intro v555 w25 ho hb hg hat; rw [← Ny554.out] at ho; have n0_ := Aside0.mk (Kd.R_after (ok := (fun k_ => (P1_ k_ ∨ w.heap.size ≤ k_))) (by (with_reducible repeat (first | apply Kd.R_alloc | apply Kd.R_drewN | apply Kd.R_drew)); exact HO_1.out) hg hat); have n1_ := Aside0.mk (hb); have n2_ := Aside0.mk (Kept.of_grown (S := (fun k_ => P1_ k_)) hg (by repeat (first | (with_reducible first | exact HK.out | apply Kept.alloc | apply Kept.drewN | apply Kept.drew) | exact HK.out)) (fun k_ e_ => (HO553.out.1 k_ e_).1.1)); have n3_ := Aside0.mk (ho); clear HO_1; clear HB; clear HK; clear HO553; have HO_1 := n0_; have HB := n1_; have HK := n2_; have HO556 := n3_; clear n0_ n1_ n2_ n3_; clear ho hb hg hat) | ((with_reducible refine gate_builtin (b := .append) (xs := #[.tmp 33, .tmp 35]) rfl ?_); at_builtin; refine Kd.R_append (Kd.int .i64) (w0 := w0) w0.heap.size rfl (.tmp 33) (.tmp 35) 42 3 (.int .i64 0) 8 rfl Tryd.underlying42 info3 rfl (by decide) (by omega) v555 y554 (rd (rd_L7 l0 (l1.length : Int)) x22_1) [.int .i64 (rd (rd_L7 l0 (l1.length : Int)) x22_1)] (fun k_ => (P1_ k_ ∨ w.heap.size ≤ k_) ∧ some k_ ≠ (.slice Ao7 l1.length co7 : Value).ownBlock) (fun _ => False) rfl rfl ?aP (fun _ hk => hk.elim) ?aF ?aO ?aB ?aS ?aL ?_; (case aP => exact rfl); (case aB => exact (by repeat (first | (with_reducible first | exact HB.out | apply below_alloc | apply pw_below_drewN | apply below_drew1) | exact HB.out))); (case aF => exact (fun k_ hk => ⟨(.inr (Nat.le_trans (by first | exact HK.out.1 | exact (show Kept w _ (fun k_ => P1_ k_) from by repeat (first | (with_reducible first | exact HK.out | apply Kept.alloc | apply Kept.drewN | apply Kept.drew) | exact HK.out)).1) hk)), Kd.fresh' (Kd.R_lt (by (with_reducible repeat (first | apply Kd.R_alloc | apply Kd.R_drewN | apply Kd.R_drew)); exact HO_1.out)) k_ hk⟩)); (case aO => exact (by (with_reducible repeat (first | apply Kd.R_alloc | apply Kd.R_drewN | apply Kd.R_drew)); exact HO556.out)); (case aS => exact (below_size (by repeat (first | (with_reducible first | exact HB.out | apply below_alloc | apply pw_below_drewN | apply below_drew1) | exact HB.out)))); (case aL => have := LMc14.out; omega); intro v558 w26 ho hb hg hat; rw [← Ny557.out] at ho; have n0_ := Aside0.mk (Kd.R_after (ok := (fun k_ => (P1_ k_ ∨ w.heap.size ≤ k_))) (by (with_reducible repeat (first | apply Kd.R_alloc | apply Kd.R_drewN | apply Kd.R_drew)); exact HO_1.out) hg hat); have n1_ := Aside0.mk (hb); have n2_ := Aside0.mk (Kept.of_grown (S := (fun k_ => P1_ k_)) hg (by repeat (first | (with_reducible first | exact HK.out | apply Kept.alloc | apply Kept.drewN | apply Kept.drew) | exact HK.out)) (fun k_ e_ => (HO556.out.1 k_ e_).1)); have n3_ := Aside0.mk (ho); clear HO_1; clear HB; clear HK; clear HO556; have HO_1 := n0_; have HB := n1_; have HK := n2_; have HO559 := n3_; clear n0_ n1_ n2_ n3_; clear ho hb hg hat; obtain ⟨Ao27, co27, eo27⟩ := Kd.R_slice HO559.out; subst eo27) | ((with_reducible refine gate_callee (f := 102) rfl ?_); refine goesL_ (some 37) rfl rfl Tryd.func102 (by kernel_rfl) rfl #[.slice (some ad548) l0.length c0, .slice Ao27 y557.length co27] rfl (by (try simp only [List.map_toArray, List.map_cons, List.map_nil]); first | done | rfl | (simp only [List.length_drop, List.length_take]; rfl)) ?_; (with_reducible refine (ih k1 (by have := HK1.out; omega) _ _ l0 (fun k_ => some k_ = (.slice Ao27 y557.length co27 : Value).ownBlock) (.slice Ao27 y557.length co27) y557 t560 false w0 _ ?side1 ?side2 ?side3 ?side4 A15.out).mono ?_); (case side1 => repeat (first | (with_reducible first | exact HB.out | apply below_alloc | apply pw_below_drewN | apply below_drew1) | exact HB.out)); (case side2 => exact HR0.out); (case side3 => exact HC0.out); (case side4 => exact Kd.R_tight rfl HO559.out); rintro e w28 ⟨v561, rfl, ho0, hb, hkp⟩; refine ⟨_, rfl, ?_⟩; have n0_ := Aside0.mk (Kd.R_mono (ok' := fun k_ => (P1_ k_ ∨ w.heap.size ≤ k_) ∧ some k_ ≠ (v561 : Value).ownBlock) (Kd.R_keptB (HO_1.out) hkp (fun k_ hk_ hs_ => (hk_.2) hs_)) (fun k_ hk_ => ⟨hk_.1.1, fun e_ => Or.elim (ho0.1 k_ e_.symm) (fun hs_ => hk_.2.1 hs_) (fun hn_ => Nat.not_le.2 hk_.2.2 hn_)⟩)); have n1_ := Aside0.mk (Kd.R_mono (ok' := fun k_ => (P1_ k_ ∨ w.heap.size ≤ k_) ∧ some k_ ≠ (.slice Ao7 l1.length co7 : Value).ownBlock) ho0 (fun k_ hk_ => ⟨Or.elim hk_ (fun hs_ => (HO559.out.1 k_ (hs_).symm).1) (fun hn_ => (.inr (Nat.le_trans (by first | exact HK.out.1 | exact (show Kept w _ (fun k_ => P1_ k_) from by repeat (first | (with_reducible first | exact HK.out | apply Kept.alloc | apply Kept.drewN | apply Kept.drew) | exact HK.out)).1) hn_))), Or.elim hk_ (fun hs_ => fun e_ => (((HO_1.out).1 k_ e_.symm).2) hs_) (fun hn_ => (Kd.fresh' (Kd.R_lt (by (with_reducible repeat (first | apply Kd.R_alloc | apply Kd.R_drewN | apply Kd.R_drew)); exact HO_1.out)) k_ hn_))⟩)); have n2_ := Aside0.mk (Kept.then_ (S := (fun k_ => P1_ k_)) (by repeat (first | (with_reducible first | exact HK.out | apply Kept.alloc | apply Kept.drewN | apply Kept.drew) | exact HK.out)) hkp (fun k_ hs_ => (fun e_ => (HO559.out.1 k_ e_.symm).1) hs_)); have n3_ := Aside0.mk (hb); clear HO_1; clear HK; clear HB; clear HO559; have HO_1 := n0_; have HO562 := n1_; have HK := n2_; have HB := n3_; clear n0_ n1_ n2_ n3_; (try clear hb); (try clear hkp); (try clear ho0)))
             go_roundg k1
             case measure => have := HK1.out; omega
             case rel => exact ⟨(wrap64 (x22_1 + 1)), (by first | rfl | (simp; done) | (simp [*]; done)), H', ⟨by have := HK1.out; omega⟩, ⟨by (with_reducible repeat (first | apply Kd.R_alloc | apply Kd.R_drewN | apply Kd.R_drew)); exact Kd.R_mono HO_1.out (fun _ hk => hk.1)⟩, ⟨by repeat (first | (with_reducible first | exact HK.out | apply Kept.alloc | apply Kept.drewN | apply Kept.drew) | exact HK.out)⟩, ⟨by repeat (first | (with_reducible first | exact HB.out | apply below_alloc | apply pw_below_drewN | apply below_drew1) | exact HB.out)⟩⟩
           ·rw [if_neg c14] at H
            exact absurd H (by simp)
          ·rw [if_neg c13] at H
           exact absurd H (by simp)
        ·rw [if_neg c10] at H
         exact absurd H (by simp)
       ·rw [if_neg c9] at H
        exact absurd H (by simp)
      ·rw [if_neg c8] at H
       have c8b0 : decide (x22_1 < ((rd_L7 l0 (l1.length : Int)).length : Int)) = false := decide_eq_false c8
       clear c8
       simp only [Option.some.injEq, Prod.mk.injEq] at H
       obtain ⟨rfl, rfl⟩ := H
       go_wp2
       go_ret2
       exact ⟨_, by first | rfl | (simp [errW_none, errW_some] <;> rfl) | (simp [*, errW_none, errW_some] <;> rfl), by first | exact Kd.R_nil _ _ _ _ _ | exact Kd.N_nil _ _ _ _ _ | exact Kd.V_nil _ _ _ _ _ | exact Kd.Q_nil _ _ _ _ _ | exact Kd.S_nil _ _ _ _ _, by repeat (first | (with_reducible first | exact HB.out | apply below_alloc | apply pw_below_drewN | apply below_drew1) | exact HB.out), by repeat (first | (with_reducible first | exact HK.out | apply Kept.alloc | apply Kept.drewN | apply Kept.drew) | exact HK.out)⟩
   ·rw [if_neg c6] at H
    exact absurd H (by simp)
  ·rw [if_neg c5] at H
   exact absurd H (by simp)

theorem mainsheetref14_Match.calls (k : Nat) (A0 : Option Addr) (c0 : Nat) (l0 : List (List Int)) (P1_ : Nat → Prop) (_u : Value) (_l : List Int) (r1 : List Int) (r2 : Bool) (w0 w : World) (hB : Below w0.heap.size w0 w) (hr0 : ∀ W_, Kept w W_ (fun k_ => P1_ k_) → Kd.C (Kd.slice 3 (Kd.int .i64)) W_ A0 l0.length l0) (hc0 : l0.length ≤ c0) (_ : Kd.R (Kd.int .i64) 3 w w0.heap.size P1_ _u _l) (h : mainsheetref14_Match.f k l0 [] = some (r1, r2)) :
  Calls Tryd.prog 102 #[.slice A0 l0.length c0, .slice none 0 0] w fun e w' => ∃ v0_ : Value, e = .returned (.tuple #[v0_, .bool r2]) ∧ Kd.R (Kd.int .i64) 3 w' w0.heap.size (fun k_ => (P1_ k_ ∨ w.heap.size ≤ k_)) v0_ r1 ∧ Below w0.heap.size w0 w' ∧ Kept w w' (fun k_ => P1_ k_) := by
 refine (mainsheetref14_Match.rec14 k A0 c0 l0 P1_ (.slice none 0 0) [] r1 r2 w w (Below.refl _ _) (hr0 w (Kept.refl _ _)) hc0 (Kd.R_nil _ _ _ _ _) h).mono ?_
 rintro e w' ⟨v, rfl, hR, hb, hk⟩
 exact ⟨v, rfl, Kd.R_lower hR hB.size, below_step hB hb, hk⟩

end Go.Proofs.YtdmieaidheelbaaDoor.Q
end
/- QFref19Takes -/
section
namespace Go.Proofs.YtdmieaidheelbaaDoor.Q
open Go.RowKit Go.Proofs.YtdmieaidheelbaaDoorW.PrintWords Go.Proofs.YtdmieaidheelbaaDoorW.PrintLast Go.Proofs.YtdmieaidheelbaaDoorW.PrintMore
attribute [local go_sem] max2_int min2_int max_two min_two max_three min_three max_four min_four
set_option linter.unusedVariables false
set_option linter.unusedSimpArgs false

def mainsheetref19_Takes.l0 : Nat → List (S36) → Int → List (List Int) → Int → List Int → Int → Int → Int → Int → Bool → Option (List Int × Bool)
 | 0, _, _, _, _, _, _, _, _, _, _ => none
 | k + 1, x1, x2, x9, x10, x565000, x565001, x565002, x565003, x565004, x565005 => if x10 < (x565000.length : Int) then (if 0 ≤ x10 then ((mainsheetref19_Wish.f k x1 (rd x565000 x10)).bind fun bt575 => ((mainsheetref19_Choices.f k bt575.1 bt575.2.1 bt575.2.2.1 bt575.2.2.2 x2).bind fun t579 => (if x9.length < 5864062014805 then (mainsheetref19_Takes.l0 k x1 x2 (x9 ++ [t579]) (wrap64 (x10 + 1)) x565000 x565001 x565002 x565003 x565004 x565005) else (none)))) else (none)) else ((mainsheetref14_Match.f k x9 ([] : List Int)).bind fun bt585 => (some (bt585.1, bt585.2)))
def mainsheetref19_Takes.f (k : Nat) (l0_0 : List Int) (a0_1 : Int) (a0_2 : Int) (a0_3 : Int) (a0_4 : Int) (a0_5 : Bool) (l1 : List (S36)) (a2 : Int) : Option (List Int × Bool) := if (l0_0.length : Int) = 1 then (if 0 < (l0_0.length : Int) then ((mainsheetref19_Wish.f k l1 (rd l0_0 0)).bind fun bt566 => ((mainsheetref13_Takes.f k bt566.1 bt566.2.1 bt566.2.2.1 bt566.2.2.2 a2).bind fun t570 => (some ((([t570] : List Int)), decide (t570 ≥ 0))))) else (none)) else (mainsheetref19_Takes.l0 k l1 a2 ([] : List (List Int)) 0 l0_0 a0_1 a0_2 a0_3 a0_4 a0_5)
set_option maxHeartbeats 8000000 in
set_option maxRecDepth 100000 in
theorem mainsheetref19_Takes.calls (k : Nat) (A0_0 : Option Addr) (c0_0 : Nat) (l0_0 : List Int) (a0_1 : Int) (a0_2 : Int) (a0_3 : Int) (a0_4 : Int) (a0_5 : Bool) (A1 : Option Addr) (c1 : Nat) (l1 : List (S36)) (a2 : Int) (r1 : List Int) (r2 : Bool) (w : World) (hr0_0 : Kd.C (Kd.int .i64) w A0_0 l0_0.length l0_0) (hc0_0 : l0_0.length ≤ c0_0) (hr1 : Kd.C k36 w A1 l1.length l1) (hc1 : l1.length ≤ c1) (h : mainsheetref19_Takes.f k l0_0 a0_1 a0_2 a0_3 a0_4 a0_5 l1 a2 = some (r1, r2)) :
  Calls Tryd.prog 84 #[.agg #[.slice A0_0 l0_0.length c0_0, .int .u64 a0_1, .int .u64 a0_2, .int .u64 a0_3, .int .u64 a0_4, .bool a0_5], .slice A1 l1.length c1, .int .u32 a2] w fun e w' => ∃ v0_ : Value, e = .returned (.tuple #[v0_, .bool r2]) ∧ Kd.R (Kd.int .i64) 3 w' w.heap.size (fun _ => True) v0_ r1 ∧ Below w.heap.size w w' := by
 have hu90 := Tryd.underlying90
 have HR0_0 := Aside0.mk hr0_0
 have HC0_0 := Aside0.mk hc0_0
 clear hr0_0 hc0_0
 have HR1 := Aside0.mk hr1
 have HC1 := Aside0.mk hc1
 clear hr1 hc1
 have HB := Aside0.mk (Below.refl w.heap.size w)
 have H : (if (l0_0.length : Int) = 1 then (if 0 < (l0_0.length : Int) then ((mainsheetref19_Wish.f k l1 (rd l0_0 0)).bind fun bt566 => ((mainsheetref13_Takes.f k bt566.1 bt566.2.1 bt566.2.2.1 bt566.2.2.2 a2).bind fun t570 => (some ((([t570] : List Int)), decide (t570 ≥ 0))))) else (none)) else (mainsheetref19_Takes.l0 k l1 a2 ([] : List (List Int)) 0 l0_0 a0_1 a0_2 a0_3 a0_4 a0_5)) = some (r1, r2) := h
 clear h
 by_cases c4 : (l0_0.length : Int) = 1
 ·rw [if_pos c4] at H
  have c4b0 : ((l0_0.length : Int) == 1) = true := beq_iff_eq.mpr c4
  have c4b1 : ((l0_0.length : Int) != 1) = false := bne_eq_false_iff_eq.mpr c4
  clear c4
  by_cases c5 : 0 < (l0_0.length : Int)
  ·rw [if_pos c5] at H
   have c5b0 : decide (0 < (l0_0.length : Int)) = true := decide_eq_true c5
   have c5b1 : decide (0 < l0_0.length) = true := decide_eq_true (by omega)
   clear c5
   replace H := Option.bind_eq_some_iff.mp H
   obtain ⟨⟨t566, t567, t568, t569⟩, A60, H⟩ := H
   replace H : ((mainsheetref13_Takes.f k t566 t567 t568 t569 a2).bind fun t570 => (some ((([t570] : List Int)), decide (t570 ≥ 0)))) = some (r1, r2) := H
   have A6 := Aside0.mk A60
   clear A60
   replace H := Option.bind_eq_some_iff.mp H
   obtain ⟨t570, A70, H⟩ := H
   replace H : (some ((([t570] : List Int)), decide (t570 ≥ 0))) = some (r1, r2) := H
   have A7 := Aside0.mk A70
   clear A70
   obtain ⟨y571, hy571⟩ : ∃ y_ : List Int, y_ = (([t570] : List Int)) := ⟨_, rfl⟩
   replace H : (some (y571, decide (t570 ≥ 0))) = some (r1, r2) := by first | (rw [hy571]; with_reducible exact H) | (have H2_ := (Option.bind_some _ _).symm.trans H; rw [hy571]; with_reducible exact H2_) | (have H2_ := (Option.bind_some _ _).symm.trans H; with_reducible exact H2_) | with_reducible exact H | (rw [hy571]; exact H) | exact H
   have Ny571 := Aside0.mk hy571
   clear hy571
   simp only [Option.some.injEq, Prod.mk.injEq] at H
   obtain ⟨rfl, rfl⟩ := H
   go_enter Tryd.func84, Tryd.ntmps84
   go_wp2_with (first | ((with_reducible refine gate_dst (N := 3) rfl ?_); refine box_event ?hg (N := 3) ?hd (cs := #[.slice A0_0 l0_0.length c0_0, .int .u64 a0_1, .int .u64 a0_2, .int .u64 a0_3, .int .u64 a0_4, .bool a0_5]) (t := 90) ?hr ?_; (case hd => rfl); (case hg => rfl); (case hr => first | (go_simp; done) | (go_simp; rfl)); intro gb564 hg w8 hbox hb; have n0_ := Aside0.mk (below_step (by repeat (first | (with_reducible first | exact HB.out | apply below_alloc | apply pw_below_drewN | apply below_drew1) | exact HB.out)) hb); have n1_ := Aside0.mk (hbox); have n2_ := Aside0.mk ((by rw [hg]; exact (below_size (by repeat (first | (with_reducible first | exact HB.out | apply below_alloc | apply pw_below_drewN | apply below_drew1) | exact HB.out))) : w.heap.size ≤ gb564)); have n3_ := Aside0.mk ((by rw [hg]; exact (below_size (by repeat (first | (with_reducible first | exact HB.out | apply below_alloc | apply pw_below_drewN | apply below_drew1) | exact HB.out))) : w.heap.size ≤ gb564)); clear HB; have HB := n0_; have BK564 := n1_; have GW564 := n2_; have GE564 := n3_; clear n0_ n1_ n2_ n3_; clear hb hbox hg; have hcz9_0 : w8.cell? ⟨gb564, 0, none⟩ = some (.slice A0_0 l0_0.length c0_0) := (blk_cell BK564.out 0).trans rfl; have hcz9_1 : w8.cell? ⟨gb564, 1, none⟩ = some (.int .u64 a0_1) := (blk_cell BK564.out 1).trans rfl; have hcz9_2 : w8.cell? ⟨gb564, 2, none⟩ = some (.int .u64 a0_2) := (blk_cell BK564.out 2).trans rfl; have hcz9_3 : w8.cell? ⟨gb564, 3, none⟩ = some (.int .u64 a0_3) := (blk_cell BK564.out 3).trans rfl; have hcz9_4 : w8.cell? ⟨gb564, 4, none⟩ = some (.int .u64 a0_4) := (blk_cell BK564.out 4).trans rfl; have hcz9_5 : w8.cell? ⟨gb564, 5, none⟩ = some (.bool a0_5) := (blk_cell BK564.out 5).trans rfl; have hfz9_0 := blk_frozen BK564.out 0; have hfz9_1 := blk_frozen BK564.out 1; have hfz9_2 := blk_frozen BK564.out 2; have hfz9_3 := blk_frozen BK564.out 3; have hfz9_4 := blk_frozen BK564.out 4; have hfz9_5 := blk_frozen BK564.out 5; have p565 : 0 ≤ (0 : Int) := (by omega); have q565 : 0 < (l0_0.length : Int) := of_decide_eq_true (by first | (with_reducible assumption) | assumption); obtain ⟨ad565, e565, hx565_0⟩ := Kd.at_int HR0_0.out 0 p565 q565; cases e565; have qi565 : (0 < l0_0.length) = True := eq_true (by omega); (try rw [show ((0 : Int)).toNat = 0 from rfl] at hx565_0); (try rw [Addr.add_zero'] at hx565_0); replace hx565_0 := (HB.out.cell (World.block_lt_of_cell? w _ hx565_0)).trans hx565_0; replace p565 := eq_true p565; replace q565 := eq_true q565) | ((with_reducible refine gate_callee (f := 78) rfl ?_); refine goesL_ (some 20) rfl rfl Tryd.func78 (by kernel_rfl) rfl #[.slice A1 l1.length c1, .int .i64 (rd l0_0 0)] rfl (by (try simp only [List.map_toArray, List.map_cons, List.map_nil]); first | done | rfl | (simp only [List.length_drop, List.length_take]; rfl)) ?_; (with_reducible refine (mainsheetref19_Wish.calls k _ _ l1 (rd l0_0 0) t566 t567 t568 t569 _ ?side1 ?side2 A6.out).mono ?_); (case side1 => repeat (first | exact (Kd.C_below HR1.out HB.out) | (with_reducible refine Kd.C_alloc ?_ _) | (with_reducible refine Kd.C_drewN ?_ _) | (with_reducible refine Kd.C_drew ?_))); (case side2 => exact HC1.out); rintro e w10 ⟨rfl, hb⟩; refine ⟨_, rfl, ?_⟩; have n0_ := Aside0.mk (blk_below (g := gb564) (o := .cells #[.slice (some ad565) l0_0.length c0_0, .int .u64 a0_1, .int .u64 a0_2, .int .u64 a0_3, .int .u64 a0_4, .bool a0_5] 90 (0, 0)) (by (with_reducible repeat (first | refine blk_drewN ?_ _ | refine blk_drew ?_ | refine blk_alloc ?_ _)); exact BK564.out) hb); have n1_ := Aside0.mk (below_step (by repeat (first | (with_reducible first | exact HB.out | apply below_alloc | apply pw_below_drewN | apply below_drew1 | refine below_set ?_ GE564.out) | exact HB.out)) hb); clear BK564; clear HB; have BK564 := n0_; have HB := n1_; clear n0_ n1_; (try clear hb); (try clear hb2); (try clear hk); (try clear hi)) | ((with_reducible refine gate_callee (f := 80) rfl ?_); refine goesL_ (some 22) rfl rfl Tryd.func80 (by kernel_rfl) rfl #[.agg #[.int .i64 t566, .int .i64 t567, .int .u32 t568, .int .u32 t569], .int .u32 a2] rfl (by (try simp only [List.map_toArray, List.map_cons, List.map_nil]); first | done | rfl | (simp only [List.length_drop, List.length_take]; rfl)) ?_; (with_reducible refine (mainsheetref13_Takes.calls k t566 t567 t568 t569 a2 t570 _ A7.out).mono ?_); rintro e w11 ⟨rfl, hb⟩; refine ⟨_, rfl, ?_⟩; have n0_ := Aside0.mk (blk_below (g := gb564) (o := .cells #[.slice (some ad565) l0_0.length c0_0, .int .u64 a0_1, .int .u64 a0_2, .int .u64 a0_3, .int .u64 a0_4, .bool a0_5] 90 (0, 0)) (by (with_reducible repeat (first | refine blk_drewN ?_ _ | refine blk_drew ?_ | refine blk_alloc ?_ _)); exact BK564.out) hb); have n1_ := Aside0.mk (below_step (by repeat (first | (with_reducible first | exact HB.out | apply below_alloc | apply pw_below_drewN | apply below_drew1 | refine below_set ?_ GE564.out) | exact HB.out)) hb); clear BK564; clear HB; have BK564 := n0_; have HB := n1_; clear n0_ n1_; (try clear hb); (try clear hb2); (try clear hk); (try clear hi)) | ((with_reducible refine gate_dst (N := 24) rfl ?_); refine Kd.R_lit (Kd.int .i64) _ 3 ?hg (N := 24) ?hd (xs := ([t570] : List Int)) (inner := [.int .i64 t570]) (ok := fun _ => True) (okp := fun _ => True) ?hr ?hp (fun _ hk => hk) trivial (Below.refl _ _) (Nat.le_refl _) (by simp) ?_; (case hd => rfl); (case hg => rfl); (case hr => first | (go_simp; done) | (go_simp; rfl)); (case hp => exact (Reps.one (show Kd.M (Kd.int .i64) _ _ _ t570 [.int .i64 t570] from rfl) (Reps.none _ _))); intro v572 w12 ho13 hb hg_ hnew_; clear hg_ hnew_; (first | rw [← Ny571.out] at ho13 | (simp only [Int.reduceToNat] at ho13; rw [← Ny571.out] at ho13)); have n0_ := Aside0.mk (Kd.R_lower ho13 (below_size (by repeat (first | (with_reducible first | exact HB.out | apply below_alloc | apply pw_below_drewN | apply below_drew1 | refine below_set ?_ GE564.out) | exact HB.out)))); have n1_ := Aside0.mk (blk_below (g := gb564) (o := .cells #[.slice (some ad565) l0_0.length c0_0, .int .u64 a0_1, .int .u64 a0_2, .int .u64 a0_3, .int .u64 a0_4, .bool a0_5] 90 (0, 0)) (by (with_reducible repeat (first | refine blk_drewN ?_ _ | refine blk_drew ?_ | refine blk_alloc ?_ _)); exact BK564.out) hb); have n2_ := Aside0.mk (below_step (by repeat (first | (with_reducible first | exact HB.out | apply below_alloc | apply pw_below_drewN | apply below_drew1 | refine below_set ?_ GE564.out) | exact HB.out)) hb); clear BK564; clear HB; have HO573 := n0_; have BK564 := n1_; have HB := n2_; clear n0_ n1_ n2_; clear hb ho13))
   go_ret2
   exact ⟨_, by first | rfl | (simp [errW_none, errW_some] <;> rfl) | (simp [*, errW_none, errW_some] <;> rfl), by (with_reducible repeat (first | apply Kd.R_alloc | apply Kd.R_drewN | apply Kd.R_drew)); exact HO573.out, by repeat (first | (with_reducible first | exact HB.out | apply below_alloc | apply pw_below_drewN | apply below_drew1 | refine below_set ?_ GE564.out) | exact HB.out)⟩
  ·rw [if_neg c5] at H
   exact absurd H (by simp)
 ·rw [if_neg c4] at H
  have c4b0 : ((l0_0.length : Int) == 1) = false := beq_eq_false_iff_ne.mpr c4
  have c4b1 : ((l0_0.length : Int) != 1) = true := bne_iff_ne.mpr c4
  have H' := Aside0.mk H
  clear H
  go_enter Tryd.func84, Tryd.ntmps84
  go_wp2_with (first | ((with_reducible refine gate_dst (N := 3) rfl ?_); refine box_event ?hg (N := 3) ?hd (cs := #[.slice A0_0 l0_0.length c0_0, .int .u64 a0_1, .int .u64 a0_2, .int .u64 a0_3, .int .u64 a0_4, .bool a0_5]) (t := 90) ?hr ?_; (case hd => rfl); (case hg => rfl); (case hr => first | (go_simp; done) | (go_simp; rfl)); intro gb564 hg w14 hbox hb; have n0_ := Aside0.mk (below_step (by repeat (first | (with_reducible first | exact HB.out | apply below_alloc | apply pw_below_drewN | apply below_drew1) | exact HB.out)) hb); have n1_ := Aside0.mk (hbox); have n2_ := Aside0.mk ((by rw [hg]; exact (below_size (by repeat (first | (with_reducible first | exact HB.out | apply below_alloc | apply pw_below_drewN | apply below_drew1) | exact HB.out))) : w.heap.size ≤ gb564)); have n3_ := Aside0.mk ((by rw [hg]; exact (below_size (by repeat (first | (with_reducible first | exact HB.out | apply below_alloc | apply pw_below_drewN | apply below_drew1) | exact HB.out))) : w.heap.size ≤ gb564)); clear HB; have HB := n0_; have BK564 := n1_; have GW564 := n2_; have GE564 := n3_; clear n0_ n1_ n2_ n3_; clear hb hbox hg; have hcz15_0 : w14.cell? ⟨gb564, 0, none⟩ = some (.slice A0_0 l0_0.length c0_0) := (blk_cell BK564.out 0).trans rfl; have hcz15_1 : w14.cell? ⟨gb564, 1, none⟩ = some (.int .u64 a0_1) := (blk_cell BK564.out 1).trans rfl; have hcz15_2 : w14.cell? ⟨gb564, 2, none⟩ = some (.int .u64 a0_2) := (blk_cell BK564.out 2).trans rfl; have hcz15_3 : w14.cell? ⟨gb564, 3, none⟩ = some (.int .u64 a0_3) := (blk_cell BK564.out 3).trans rfl; have hcz15_4 : w14.cell? ⟨gb564, 4, none⟩ = some (.int .u64 a0_4) := (blk_cell BK564.out 4).trans rfl; have hcz15_5 : w14.cell? ⟨gb564, 5, none⟩ = some (.bool a0_5) := (blk_cell BK564.out 5).trans rfl; have hfz15_0 := blk_frozen BK564.out 0; have hfz15_1 := blk_frozen BK564.out 1; have hfz15_2 := blk_frozen BK564.out 2; have hfz15_3 := blk_frozen BK564.out 3; have hfz15_4 := blk_frozen BK564.out 4; have hfz15_5 := blk_frozen BK564.out 5))
  go_loopg [9, 10] k (fun kq v9 v10 w' => ∃ (x9_1 : List (List Int)) (x10_1 : Int), v10 = .int .i64 x10_1 ∧ Aside0 (mainsheetref19_Takes.l0 kq l1 a2 x9_1 x10_1 l0_0 a0_1 a0_2 a0_3 a0_4 a0_5 = some (r1, r2)) ∧ Aside0 (kq ≤ k) ∧ Aside0 (Kd.S (Kd.slice 3 (Kd.int .i64)) 42 w' w.heap.size (fun _ => True) v9 x9_1) ∧ Aside0 (w'.heap[gb564]? = some (.cells #[(.slice A0_0 l0_0.length c0_0), .int .u64 a0_1, .int .u64 a0_2, .int .u64 a0_3, .int .u64 a0_4, .bool a0_5] 90 (0, 0))) ∧ Aside0 (Below w.heap.size w w'))
  case atStart => exact ⟨(([] : List (List Int))), (0), (by first | rfl | (simp; done) | (simp [*]; done)), H', ⟨Nat.le_refl _⟩, ⟨by first | exact Kd.S_nil _ _ _ _ _ | exact Kd.N_nil _ _ _ _ _ | exact Kd.V_nil _ _ _ _ _ | exact Kd.Q_nil _ _ _ _ _ | exact Kd.R_nil _ _ _ _ _⟩, ⟨by (with_reducible repeat (first | refine blk_drewN ?_ _ | refine blk_drew ?_ | refine blk_alloc ?_ _)); exact BK564.out⟩, ⟨by repeat (first | (with_reducible first | exact HB.out | apply below_alloc | apply pw_below_drewN | apply below_drew1 | refine below_set ?_ GE564.out) | exact HB.out)⟩⟩
  case round =>
   clear H'
   try clear c1
   try clear p2
   try clear c4
   try clear c4b0
   try clear c4b1
   try clear c5
   try clear c5b0
   try clear c5b1
   try clear p5
   try clear q5
   try clear hx5
   try clear qi5
   try clear c7
   try clear c8
   try clear hcz15_0
   try clear hcz15_1
   try clear hcz15_2
   try clear hcz15_3
   try clear hcz15_4
   try clear hcz15_5
   try clear hcz9_0
   try clear hcz9_1
   try clear hcz9_2
   try clear hcz9_3
   try clear hcz9_4
   try clear hcz9_5
   try clear hfz15_0
   try clear hfz15_1
   try clear hfz15_2
   try clear hfz15_3
   try clear hfz15_4
   try clear hfz15_5
   try clear hfz9_0
   try clear hfz9_1
   try clear hfz9_2
   try clear hfz9_3
   try clear hfz9_4
   try clear hfz9_5
   try clear hx565_0
   try clear p565
   try clear q565
   obtain ⟨x9_1, x10_1, rfl, HA, HK1, HO_9, BK564, HB⟩ := hrel
   cases gk with
   | zero => exact absurd HA.out (by simp [mainsheetref19_Takes.l0])
   | succ k1 =>
    have H := HA.out
    clear HA
    simp only [mainsheetref19_Takes.l0] at H
    by_cases c16 : x10_1 < (l0_0.length : Int)
    ·rw [if_pos c16] at H
     have c16b0 : decide (x10_1 < (l0_0.length : Int)) = true := decide_eq_true c16
     clear c16
     by_cases c17 : 0 ≤ x10_1
     ·rw [if_pos c17] at H
      have c17b0 : decide (0 ≤ x10_1) = true := decide_eq_true c17
      clear c17
      replace H := Option.bind_eq_some_iff.mp H
      obtain ⟨⟨t575, t576, t577, t578⟩, A180, H⟩ := H
      replace H : ((mainsheetref19_Choices.f k1 t575 t576 t577 t578 a2).bind fun t579 => (if x9_1.length < 5864062014805 then (mainsheetref19_Takes.l0 k1 l1 a2 (x9_1 ++ [t579]) (wrap64 (x10_1 + 1)) l0_0 a0_1 a0_2 a0_3 a0_4 a0_5) else (none))) = some (r1, r2) := H
      have A18 := Aside0.mk A180
      clear A180
      replace H := Option.bind_eq_some_iff.mp H
      obtain ⟨t579, A190, H⟩ := H
      replace H : (if x9_1.length < 5864062014805 then (mainsheetref19_Takes.l0 k1 l1 a2 (x9_1 ++ [t579]) (wrap64 (x10_1 + 1)) l0_0 a0_1 a0_2 a0_3 a0_4 a0_5) else (none)) = some (r1, r2) := H
      have A19 := Aside0.mk A190
      clear A190
      by_cases c20 : x9_1.length < 5864062014805
      ·rw [if_pos c20] at H
       have LMc20 := Aside0.mk c20
       clear c20
       obtain ⟨y582, hy582⟩ : ∃ y_ : List (List Int), y_ = (x9_1 ++ [t579]) := ⟨_, rfl⟩
       replace H : (mainsheetref19_Takes.l0 k1 l1 a2 y582 (wrap64 (x10_1 + 1)) l0_0 a0_1 a0_2 a0_3 a0_4 a0_5) = some (r1, r2) := by first | (rw [hy582]; with_reducible exact H) | (have H2_ := (Option.bind_some _ _).symm.trans H; rw [hy582]; with_reducible exact H2_) | (have H2_ := (Option.bind_some _ _).symm.trans H; with_reducible exact H2_) | with_reducible exact H | (rw [hy582]; exact H) | exact H
       have Ny582 := Aside0.mk hy582
       clear hy582
       have H' := Aside0.mk H
       clear H
       have hcz21_0 : wr.cell? ⟨gb564, 0, none⟩ = some (.slice A0_0 l0_0.length c0_0) := (blk_cell BK564.out 0).trans rfl
       have hcz21_1 : wr.cell? ⟨gb564, 1, none⟩ = some (.int .u64 a0_1) := (blk_cell BK564.out 1).trans rfl
       have hcz21_2 : wr.cell? ⟨gb564, 2, none⟩ = some (.int .u64 a0_2) := (blk_cell BK564.out 2).trans rfl
       have hcz21_3 : wr.cell? ⟨gb564, 3, none⟩ = some (.int .u64 a0_3) := (blk_cell BK564.out 3).trans rfl
       have hcz21_4 : wr.cell? ⟨gb564, 4, none⟩ = some (.int .u64 a0_4) := (blk_cell BK564.out 4).trans rfl
       have hcz21_5 : wr.cell? ⟨gb564, 5, none⟩ = some (.bool a0_5) := (blk_cell BK564.out 5).trans rfl
       have hfz21_0 := blk_frozen BK564.out 0
       have hfz21_1 := blk_frozen BK564.out 1
       have hfz21_2 := blk_frozen BK564.out 2
       have hfz21_3 := blk_frozen BK564.out 3
       have hfz21_4 := blk_frozen BK564.out 4
       have hfz21_5 := blk_frozen BK564.out 5
       have p574 : 0 ≤ (x10_1 : Int) := of_decide_eq_true (by first | (with_reducible assumption) | assumption)
       have q574 : x10_1 < (l0_0.length : Int) := of_decide_eq_true (by first | (with_reducible assumption) | assumption)
       obtain ⟨ad574, e574, hx574_0⟩ := Kd.at_int HR0_0.out x10_1 p574 q574
       cases e574
       replace hx574_0 := (HB.out.cell (World.block_lt_of_cell? w _ hx574_0)).trans hx574_0
       replace p574 := eq_true p574
       replace q574 := eq_true q574
       go_wp2_with (first | ((with_reducible refine gate_callee (f := 78) rfl ?_); refine goesL_ (some 41) rfl rfl Tryd.func78 (by kernel_rfl) rfl #[.slice A1 l1.length c1, .int .i64 (rd l0_0 x10_1)] rfl (by (try simp only [List.map_toArray, List.map_cons, List.map_nil]); first | done | rfl | (simp only [List.length_drop, List.length_take]; rfl)) ?_; (with_reducible refine (mainsheetref19_Wish.calls k1 _ _ l1 (rd l0_0 x10_1) t575 t576 t577 t578 _ ?side1 ?side2 A18.out).mono ?_); (case side1 => repeat (first | exact (Kd.C_below HR1.out HB.out) | (with_reducible refine Kd.C_alloc ?_ _) | (with_reducible refine Kd.C_drewN ?_ _) | (with_reducible refine Kd.C_drew ?_))); (case side2 => exact HC1.out); rintro e w22 ⟨rfl, hb⟩; refine ⟨_, rfl, ?_⟩; have n0_ := Aside0.mk (Kd.S_below (by (with_reducible repeat (first | apply Kd.S_alloc | apply Kd.S_drewN | apply Kd.S_drew)); exact HO_9.out) hb); have n1_ := Aside0.mk (blk_below (g := gb564) (o := .cells #[.slice (some ad574) l0_0.length c0_0, .int .u64 a0_1, .int .u64 a0_2, .int .u64 a0_3, .int .u64 a0_4, .bool a0_5] 90 (0, 0)) (by (with_reducible repeat (first | refine blk_drewN ?_ _ | refine blk_drew ?_ | refine blk_alloc ?_ _)); exact BK564.out) hb); have n2_ := Aside0.mk (below_step (by repeat (first | (with_reducible first | exact HB.out | apply below_alloc | apply pw_below_drewN | apply below_drew1 | refine below_set ?_ GE564.out) | exact HB.out)) hb); clear HO_9; clear BK564; clear HB; have HO_9 := n0_; have BK564 := n1_; have HB := n2_; clear n0_ n1_ n2_; (try clear hb); (try clear hb2); (try clear hk); (try clear hi)) | ((with_reducible refine gate_callee (f := 54) rfl ?_); refine goesL_ (some 43) rfl rfl Tryd.func54 (by kernel_rfl) rfl #[.agg #[.int .i64 t575, .int .i64 t576, .int .u32 t577, .int .u32 t578], .int .u32 a2] rfl (by (try simp only [List.map_toArray, List.map_cons, List.map_nil]); first | done | rfl | (simp only [List.length_drop, List.length_take]; rfl)) ?_; (with_reducible refine (mainsheetref19_Choices.calls k1 t575 t576 t577 t578 a2 t579 _ A19.out).mono ?_); rintro e w23 ⟨v580, rfl, ho0, hb⟩; refine ⟨_, rfl, ?_⟩; have n0_ := Aside0.mk (Kd.S_elder' (by (with_reducible repeat (first | apply Kd.S_alloc | apply Kd.S_drewN | apply Kd.S_drew)); exact HO_9.out) (Kd.R_base ho0) hb); have n1_ := Aside0.mk (Kd.R_lower ho0 (below_size (by repeat (first | (with_reducible first | exact HB.out | apply below_alloc | apply pw_below_drewN | apply below_drew1 | refine below_set ?_ GE564.out) | exact HB.out)))); have n2_ := Aside0.mk (blk_below (g := gb564) (o := .cells #[.slice (some ad574) l0_0.length c0_0, .int .u64 a0_1, .int .u64 a0_2, .int .u64 a0_3, .int .u64 a0_4, .bool a0_5] 90 (0, 0)) (by (with_reducible repeat (first | refine blk_drewN ?_ _ | refine blk_drew ?_ | refine blk_alloc ?_ _)); exact BK564.out) hb); have n3_ := Aside0.mk (below_step (by repeat (first | (with_reducible first | exact HB.out | apply below_alloc | apply pw_below_drewN | apply below_drew1 | refine below_set ?_ GE564.out) | exact HB.out)) hb); clear HO_9; clear BK564; clear HB; have HO_9 := n0_; have HO581 := n1_; have BK564 := n2_; have HB := n3_; clear n0_ n1_ n2_ n3_; (try clear hb); (try clear hb2); (try clear hk); (try clear hi); (try clear ho0); obtain ⟨Ao25, co25, eo25⟩ := Kd.R_slice HO581.out; subst eo25) | ((with_reducible refine gate_builtin (b := .append) (xs := #[.tmp 34, .tmp 44]) rfl ?_); at_builtin; refine Kd.S_append (Kd.slice 3 (Kd.int .i64)) (w0 := w) w.heap.size rfl (.tmp 34) (.tmp 44) 141 42 (.slice none 0 0) 24 rfl Tryd.underlying141 info42 rfl (by decide) (by omega) u9 x9_1 t579 [.slice Ao25 t579.length co25] (fun _ => True) (fun k_ => some k_ = (.slice Ao25 t579.length co25 : Value).ownBlock) rfl rfl ?aP (fun k_ hk_ => ((Kd.R_mono (ok' := fun k_ => ((fun _ => True)) k_ ∧ some k_ ≠ (u9 : Value).ownBlock) (Kd.R_apart' (HO581.out) (Kd.S_typed HO_9.out) (by decide)) (fun k_ hk => ⟨trivial, hk.2⟩))).1 k_ hk_.symm) ?aF ?aO ?aB ?aS ?aL ?_; (case aP => exact Kd.M_row (Kd.R_mono (Kd.R_tight rfl (Kd.R_mono (ok' := fun k_ => ((fun _ => True)) k_ ∧ some k_ ≠ (u9 : Value).ownBlock) (Kd.R_apart' (HO581.out) (Kd.S_typed HO_9.out) (by decide)) (fun k_ hk => ⟨trivial, hk.2⟩))) (fun _ h_ => h_))); (case aB => exact (by repeat (first | (with_reducible first | exact HB.out | apply below_alloc | apply pw_below_drewN | apply below_drew1 | refine below_set ?_ GE564.out) | exact HB.out))); (case aF => exact (fun _ _ => trivial)); (case aO => exact (by (with_reducible repeat (first | apply Kd.S_alloc | apply Kd.S_drewN | apply Kd.S_drew)); exact Kd.S_mono HO_9.out (fun k_ hk => ⟨trivial, fun e_ => hk.2 e_⟩))); (case aS => exact (below_size (by repeat (first | (with_reducible first | exact HB.out | apply below_alloc | apply pw_below_drewN | apply below_drew1 | refine below_set ?_ GE564.out) | exact HB.out)))); (case aL => have := LMc20.out; omega); intro v583 w24 ho hb hg hat; rw [← Ny582.out] at ho; have n0_ := Aside0.mk (blk_grown (g := gb564) (o := .cells #[.slice (some ad574) l0_0.length c0_0, .int .u64 a0_1, .int .u64 a0_2, .int .u64 a0_3, .int .u64 a0_4, .bool a0_5] 90 (0, 0)) (by (with_reducible repeat (first | refine blk_drewN ?_ _ | refine blk_drew ?_ | refine blk_alloc ?_ _)); exact BK564.out) hg (Kd.S_ne HO_9.out BK564.out (by decide))); have n1_ := Aside0.mk (hb); have n2_ := Aside0.mk (ho); clear BK564; clear HB; clear HO_9; clear HO581; have BK564 := n0_; have HB := n1_; have HO584 := n2_; clear n0_ n1_ n2_; clear ho hb hg hat))
       go_roundg k1
       case measure => have := HK1.out; omega
       case rel => exact ⟨(y582), (wrap64 (x10_1 + 1)), (by first | rfl | (simp; done) | (simp [*]; done)), H', ⟨by have := HK1.out; omega⟩, ⟨by (with_reducible repeat (first | apply Kd.S_alloc | apply Kd.S_drewN | apply Kd.S_drew)); exact HO584.out⟩, ⟨by (with_reducible repeat (first | refine blk_drewN ?_ _ | refine blk_drew ?_ | refine blk_alloc ?_ _)); exact BK564.out⟩, ⟨by repeat (first | (with_reducible first | exact HB.out | apply below_alloc | apply pw_below_drewN | apply below_drew1 | refine below_set ?_ GE564.out) | exact HB.out)⟩⟩
      ·rw [if_neg c20] at H
       exact absurd H (by simp)
     ·rw [if_neg c17] at H
      exact absurd H (by simp)
    ·rw [if_neg c16] at H
     have c16b0 : decide (x10_1 < (l0_0.length : Int)) = false := decide_eq_false c16
     clear c16
     replace H := Option.bind_eq_some_iff.mp H
     obtain ⟨⟨t585, t588⟩, A260, H⟩ := H
     replace H : (some (t585, t588)) = some (r1, r2) := H
     have A26 := Aside0.mk A260
     clear A260
     simp only [Option.some.injEq, Prod.mk.injEq] at H
     obtain ⟨rfl, rfl⟩ := H
     have hcz27_0 : wr.cell? ⟨gb564, 0, none⟩ = some (.slice A0_0 l0_0.length c0_0) := (blk_cell BK564.out 0).trans rfl
     have hcz27_1 : wr.cell? ⟨gb564, 1, none⟩ = some (.int .u64 a0_1) := (blk_cell BK564.out 1).trans rfl
     have hcz27_2 : wr.cell? ⟨gb564, 2, none⟩ = some (.int .u64 a0_2) := (blk_cell BK564.out 2).trans rfl
     have hcz27_3 : wr.cell? ⟨gb564, 3, none⟩ = some (.int .u64 a0_3) := (blk_cell BK564.out 3).trans rfl
     have hcz27_4 : wr.cell? ⟨gb564, 4, none⟩ = some (.int .u64 a0_4) := (blk_cell BK564.out 4).trans rfl
     have hcz27_5 : wr.cell? ⟨gb564, 5, none⟩ = some (.bool a0_5) := (blk_cell BK564.out 5).trans rfl
     have hfz27_0 := blk_frozen BK564.out 0
     have hfz27_1 := blk_frozen BK564.out 1
     have hfz27_2 := blk_frozen BK564.out 2
     have hfz27_3 := blk_frozen BK564.out 3
     have hfz27_4 := blk_frozen BK564.out 4
     have hfz27_5 := blk_frozen BK564.out 5
     obtain ⟨Ao28, co28, eo28⟩ := Kd.S_slice HO_9.out
     subst eo28
     go_wp2_with (first | ((with_reducible refine gate_callee (f := 102) rfl ?_); refine goesL_ (some 47) rfl rfl Tryd.func102 (by kernel_rfl) rfl #[.slice Ao28 x9_1.length co28, .slice none 0 0] rfl (by (try simp only [List.map_toArray, List.map_cons, List.map_nil]); first | done | rfl | (simp only [List.length_drop, List.length_take]; rfl)) ?_; (refine (mainsheetref14_Match.calls k1 _ _ x9_1 (fun k_ => some k_ = (.slice none 0 0 : Value).ownBlock) (.slice none 0 0) ([] : List Int) t585 t588 w _ ?side1 ?side2 ?side3 ?side4 A26.out).mono ?_); (case side1 => repeat (first | (with_reducible first | exact HB.out | apply below_alloc | apply pw_below_drewN | apply below_drew1 | refine below_set ?_ GE564.out) | exact HB.out)); (case side2 => exact Kd.C_kept_own ((Kd.S_R HO_9.out)) (fun k_ hk_ hs_ => (fun e_ => by simp [Value.ownBlock] at e_) hs_)); (case side3 => exact (Kd.S_reads' HO_9.out).2.1); (case side4 => exact Kd.R_nil _ _ _ _ _); rintro e w29 ⟨v586, rfl, ho0, hb, hkp⟩; refine ⟨_, rfl, ?_⟩; have n0_ := Aside0.mk (Kd.S_mono (ok' := fun k_ => some k_ ≠ (v586 : Value).ownBlock) (Kd.S_keptB (HO_9.out) hkp (fun k_ hk_ hs_ => (fun e_ => by simp [Value.ownBlock] at e_) hs_)) (fun k_ hk_ => fun e_ => Or.elim (ho0.1 k_ e_.symm) (fun hs_ => hk_.2.1 hs_) (fun hn_ => Nat.not_le.2 hk_.2.2 hn_))); have n1_ := Aside0.mk (blk_kept (by (with_reducible repeat (first | refine blk_drewN ?_ _ | refine blk_drew ?_ | refine blk_alloc ?_ _)); exact BK564.out) hkp (fun hs_ => (fun e_ => by simp [Value.ownBlock] at e_) hs_)); have n2_ := Aside0.mk (Kd.R_mono (ok' := fun k_ => True) ho0 (fun k_ hk_ => trivial)); have n3_ := Aside0.mk (hb); clear HO_9; clear BK564; clear HB; have HO_9 := n0_; have BK564 := n1_; have HO587 := n2_; have HB := n3_; clear n0_ n1_ n2_ n3_; (try clear hb); (try clear hkp); (try clear ho0)))
     go_ret2
     exact ⟨_, by first | rfl | (simp [errW_none, errW_some] <;> rfl) | (simp [*, errW_none, errW_some] <;> rfl), by (with_reducible repeat (first | apply Kd.R_alloc | apply Kd.R_drewN | apply Kd.R_drew)); exact HO587.out, by repeat (first | (with_reducible first | exact HB.out | apply below_alloc | apply pw_below_drewN | apply below_drew1 | refine below_set ?_ GE564.out) | exact HB.out)⟩

end Go.Proofs.YtdmieaidheelbaaDoor.Q
end
/- QFref19Less -/
section
namespace Go.Proofs.YtdmieaidheelbaaDoor.Q
open Go.RowKit Go.Proofs.YtdmieaidheelbaaDoorW.PrintWords Go.Proofs.YtdmieaidheelbaaDoorW.PrintLast Go.Proofs.YtdmieaidheelbaaDoorW.PrintMore
attribute [local go_sem] max2_int min2_int max_two min_two max_three min_three max_four min_four
set_option linter.unusedVariables false
set_option linter.unusedSimpArgs false

def mainsheetref19_Less.l0 : Nat → Int → List Int → List Int → Int → Option (Int)
 | 0, _, _, _, _ => none
 | k + 1, x0, x1, x5, x6 => if x6 < 8 then ((mainsheetref04_Has.f x0 x6).bind fun t594 => (if t594 = true then ((mainsheetref19_has.f k x1 x6).bind fun t595 => (if t595 = true then (mainsheetref19_Less.l0 k x0 x1 x5 (wrap64 (x6 + 1))) else (if x5.length < 17592186044416 then (mainsheetref19_Less.l0 k x0 x1 (x5 ++ [x6]) (wrap64 (x6 + 1))) else (none)))) else (mainsheetref19_Less.l0 k x0 x1 x5 (wrap64 (x6 + 1))))) else ((mainsheetref04_Of.f k x5).bind fun bt592 => (some bt592.1))
def mainsheetref19_Less.f (k : Nat) (a0 : Int) (l1 : List Int) : Option (Int) := mainsheetref19_Less.l0 k a0 l1 ([] : List Int) 0
set_option maxHeartbeats 8000000 in
set_option maxRecDepth 100000 in
theorem mainsheetref19_Less.calls (k : Nat) (a0 : Int) (A1 : Option Addr) (c1 : Nat) (l1 : List Int) (r : Int) (w : World) (hr1 : Kd.C (Kd.int .i64) w A1 l1.length l1) (hc1 : l1.length ≤ c1) (h : mainsheetref19_Less.f k a0 l1 = some r) :
  Calls Tryd.prog 85 #[.int .u32 a0, .slice A1 l1.length c1] w fun e w' => e = .returned (.int .u32 r) ∧ Below w.heap.size w w' := by
 have HR1 := Aside0.mk hr1
 have HC1 := Aside0.mk hc1
 clear hr1 hc1
 have HB := Aside0.mk (Below.refl w.heap.size w)
 have H : (mainsheetref19_Less.l0 k a0 l1 ([] : List Int) 0) = some r := h
 clear h
 have H' := Aside0.mk H
 clear H
 go_enter Tryd.func85, Tryd.ntmps85
 go_wp2
 go_loopg [5, 6] k (fun kq v5 v6 w' => ∃ (x5_1 : List Int) (x6_1 : Int), v6 = .int .i64 x6_1 ∧ Aside0 (mainsheetref19_Less.l0 kq a0 l1 x5_1 x6_1 = some r) ∧ Aside0 (kq ≤ k) ∧ Aside0 (Kd.R (Kd.int .i64) 3 w' w.heap.size (fun _ => True) v5 x5_1) ∧ Aside0 (Below w.heap.size w w'))
 case atStart => exact ⟨(([] : List Int)), (0), (by first | rfl | (simp; done) | (simp [*]; done)), H', ⟨Nat.le_refl _⟩, ⟨by first | exact Kd.R_nil _ _ _ _ _ | exact Kd.N_nil _ _ _ _ _ | exact Kd.V_nil _ _ _ _ _ | exact Kd.Q_nil _ _ _ _ _ | exact Kd.S_nil _ _ _ _ _⟩, ⟨by repeat (first | (with_reducible first | exact HB.out | apply below_alloc | apply pw_below_drewN | apply below_drew1) | exact HB.out)⟩⟩
 case round =>
  clear H'
  try clear c1
  try clear p2
  obtain ⟨x5_1, x6_1, rfl, HA, HK1, HO_5, HB⟩ := hrel
  cases gk with
  | zero => exact absurd HA.out (by simp [mainsheetref19_Less.l0])
  | succ k1 =>
   have H := HA.out
   clear HA
   simp only [mainsheetref19_Less.l0] at H
   by_cases c3 : x6_1 < 8
   ·rw [if_pos c3] at H
    have c3b0 : decide (x6_1 < 8) = true := decide_eq_true c3
    clear c3
    replace H := Option.bind_eq_some_iff.mp H
    obtain ⟨t594, A40, H⟩ := H
    replace H : (if t594 = true then ((mainsheetref19_has.f k1 l1 x6_1).bind fun t595 => (if t595 = true then (mainsheetref19_Less.l0 k1 a0 l1 x5_1 (wrap64 (x6_1 + 1))) else (if x5_1.length < 17592186044416 then (mainsheetref19_Less.l0 k1 a0 l1 (x5_1 ++ [x6_1]) (wrap64 (x6_1 + 1))) else (none)))) else (mainsheetref19_Less.l0 k1 a0 l1 x5_1 (wrap64 (x6_1 + 1)))) = some r := H
    have A4 := Aside0.mk A40
    clear A40
    by_cases c5 : t594 = true
    ·subst c5
     have H1 : ((mainsheetref19_has.f k1 l1 x6_1).bind fun t595 => (if t595 = true then (mainsheetref19_Less.l0 k1 a0 l1 x5_1 (wrap64 (x6_1 + 1))) else (if x5_1.length < 17592186044416 then (mainsheetref19_Less.l0 k1 a0 l1 (x5_1 ++ [x6_1]) (wrap64 (x6_1 + 1))) else (none)))) = some r := by rw [if_pos rfl] at H; exact H
     clear H
     have H := H1
     clear H1
     replace H := Option.bind_eq_some_iff.mp H
     obtain ⟨t595, A60, H⟩ := H
     replace H : (if t595 = true then (mainsheetref19_Less.l0 k1 a0 l1 x5_1 (wrap64 (x6_1 + 1))) else (if x5_1.length < 17592186044416 then (mainsheetref19_Less.l0 k1 a0 l1 (x5_1 ++ [x6_1]) (wrap64 (x6_1 + 1))) else (none))) = some r := H
     have A6 := Aside0.mk A60
     clear A60
     by_cases c7 : t595 = true
     ·subst c7
      have H1 : (mainsheetref19_Less.l0 k1 a0 l1 x5_1 (wrap64 (x6_1 + 1))) = some r := by rw [if_pos rfl] at H; exact H
      clear H
      have H := H1
      clear H1
      have H' := Aside0.mk H
      clear H
      go_wp2_with (first | ((with_reducible refine gate_callee (f := 76) rfl ?_); refine goesL_ (some 15) rfl rfl Tryd.func76 (by kernel_rfl) rfl #[.int .u32 a0, .int .i64 x6_1] rfl (by (try simp only [List.map_toArray, List.map_cons, List.map_nil]); first | done | rfl | (simp only [List.length_drop, List.length_take]; rfl)) ?_; (with_reducible refine (mainsheetref04_Has.calls a0 x6_1 true _ A4.out).mono ?_); rintro e w' ⟨rfl, ⟨nd, rfl⟩⟩; refine ⟨_, rfl, ?_⟩) | (go_at_call 83; (with_reducible refine (mainsheetref19_has.calls k1 _ _ l1 x6_1 true _ ?side1 ?side2 A6.out).mono ?_); (case side1 => repeat (first | exact (Kd.C_below HR1.out (by repeat (first | (with_reducible first | exact HB.out | apply below_alloc | apply pw_below_drewN | apply below_drew1) | exact HB.out))) | (with_reducible refine Kd.C_alloc ?_ _) | (with_reducible refine Kd.C_drewN ?_ _) | (with_reducible refine Kd.C_drew ?_))); (case side2 => exact HC1.out); rintro e w' ⟨rfl, ⟨nd, rfl⟩⟩))
      go_roundg k1
      case measure => have := HK1.out; omega
      case rel => exact ⟨(x5_1), (wrap64 (x6_1 + 1)), (by first | rfl | (simp; done) | (simp [*]; done)), H', ⟨by have := HK1.out; omega⟩, ⟨by (with_reducible repeat (first | apply Kd.R_alloc | apply Kd.R_drewN | apply Kd.R_drew)); exact HO_5.out⟩, ⟨by repeat (first | (with_reducible first | exact HB.out | apply below_alloc | apply pw_below_drewN | apply below_drew1) | exact HB.out)⟩⟩
     ·replace c7 := Bool.eq_false_iff.mpr c7
      subst c7
      have H1 : (if x5_1.length < 17592186044416 then (mainsheetref19_Less.l0 k1 a0 l1 (x5_1 ++ [x6_1]) (wrap64 (x6_1 + 1))) else (none)) = some r := by rw [if_neg (show ¬ (false = true) by decide)] at H; exact H
      clear H
      have H := H1
      clear H1
      by_cases c8 : x5_1.length < 17592186044416
      ·rw [if_pos c8] at H
       have LMc8 := Aside0.mk c8
       clear c8
       obtain ⟨y596, hy596⟩ : ∃ y_ : List Int, y_ = (x5_1 ++ [x6_1]) := ⟨_, rfl⟩
       replace H : (mainsheetref19_Less.l0 k1 a0 l1 y596 (wrap64 (x6_1 + 1))) = some r := by first | (rw [hy596]; with_reducible exact H) | (have H2_ := (Option.bind_some _ _).symm.trans H; rw [hy596]; with_reducible exact H2_) | (have H2_ := (Option.bind_some _ _).symm.trans H; with_reducible exact H2_) | with_reducible exact H | (rw [hy596]; exact H) | exact H
       have Ny596 := Aside0.mk hy596
       clear hy596
       have H' := Aside0.mk H
       clear H
       go_wp2_with (first | ((with_reducible refine gate_callee (f := 76) rfl ?_); refine goesL_ (some 15) rfl rfl Tryd.func76 (by kernel_rfl) rfl #[.int .u32 a0, .int .i64 x6_1] rfl (by (try simp only [List.map_toArray, List.map_cons, List.map_nil]); first | done | rfl | (simp only [List.length_drop, List.length_take]; rfl)) ?_; (with_reducible refine (mainsheetref04_Has.calls a0 x6_1 true _ A4.out).mono ?_); rintro e w' ⟨rfl, ⟨nd, rfl⟩⟩; refine ⟨_, rfl, ?_⟩) | (go_at_call 83; (with_reducible refine (mainsheetref19_has.calls k1 _ _ l1 x6_1 false _ ?side1 ?side2 A6.out).mono ?_); (case side1 => repeat (first | exact (Kd.C_below HR1.out (by repeat (first | (with_reducible first | exact HB.out | apply below_alloc | apply pw_below_drewN | apply below_drew1) | exact HB.out))) | (with_reducible refine Kd.C_alloc ?_ _) | (with_reducible refine Kd.C_drewN ?_ _) | (with_reducible refine Kd.C_drew ?_))); (case side2 => exact HC1.out); rintro e w' ⟨rfl, ⟨nd, rfl⟩⟩) | ((with_reducible refine gate_builtin (b := .append) (xs := #[.tmp 22, .tmp 24]) rfl ?_); at_builtin; refine Kd.R_append (Kd.int .i64) (w0 := w) w.heap.size rfl (.tmp 22) (.tmp 24) 42 3 (.int .i64 0) 8 rfl Tryd.underlying42 info3 rfl (by decide) (by omega) u5 x5_1 x6_1 [.int .i64 x6_1] (fun _ => True) (fun _ => False) rfl rfl ?aP (fun _ hk => hk.elim) ?aF ?aO ?aB ?aS ?aL ?_; (case aP => exact rfl); (case aB => exact (by repeat (first | (with_reducible first | exact HB.out | apply below_alloc | apply pw_below_drewN | apply below_drew1) | exact HB.out))); (case aF => exact (fun _ _ => trivial)); (case aO => exact (by (with_reducible repeat (first | apply Kd.R_alloc | apply Kd.R_drewN | apply Kd.R_drew)); exact HO_5.out)); (case aS => exact (below_size (by repeat (first | (with_reducible first | exact HB.out | apply below_alloc | apply pw_below_drewN | apply below_drew1) | exact HB.out)))); (case aL => have := LMc8.out; omega); intro v597 w9 ho hb hg hat; rw [← Ny596.out] at ho; have n0_ := Aside0.mk (hb); have n1_ := Aside0.mk (ho); clear HB; clear HO_5; have HB := n0_; have HO598 := n1_; clear n0_ n1_; clear ho hb hg hat))
       go_roundg k1
       case measure => have := HK1.out; omega
       case rel => exact ⟨(y596), (wrap64 (x6_1 + 1)), (by first | rfl | (simp; done) | (simp [*]; done)), H', ⟨by have := HK1.out; omega⟩, ⟨by (with_reducible repeat (first | apply Kd.R_alloc | apply Kd.R_drewN | apply Kd.R_drew)); exact HO598.out⟩, ⟨by repeat (first | (with_reducible first | exact HB.out | apply below_alloc | apply pw_below_drewN | apply below_drew1) | exact HB.out)⟩⟩
      ·rw [if_neg c8] at H
       exact absurd H (by simp)
    ·replace c5 := Bool.eq_false_iff.mpr c5
     subst c5
     have H1 : (mainsheetref19_Less.l0 k1 a0 l1 x5_1 (wrap64 (x6_1 + 1))) = some r := by rw [if_neg (show ¬ (false = true) by decide)] at H; exact H
     clear H
     have H := H1
     clear H1
     have H' := Aside0.mk H
     clear H
     go_wp2_with (first | ((with_reducible refine gate_callee (f := 76) rfl ?_); refine goesL_ (some 15) rfl rfl Tryd.func76 (by kernel_rfl) rfl #[.int .u32 a0, .int .i64 x6_1] rfl (by (try simp only [List.map_toArray, List.map_cons, List.map_nil]); first | done | rfl | (simp only [List.length_drop, List.length_take]; rfl)) ?_; (with_reducible refine (mainsheetref04_Has.calls a0 x6_1 false _ A4.out).mono ?_); rintro e w' ⟨rfl, ⟨nd, rfl⟩⟩; refine ⟨_, rfl, ?_⟩))
     go_roundg k1
     case measure => have := HK1.out; omega
     case rel => exact ⟨(x5_1), (wrap64 (x6_1 + 1)), (by first | rfl | (simp; done) | (simp [*]; done)), H', ⟨by have := HK1.out; omega⟩, ⟨by (with_reducible repeat (first | apply Kd.R_alloc | apply Kd.R_drewN | apply Kd.R_drew)); exact HO_5.out⟩, ⟨by repeat (first | (with_reducible first | exact HB.out | apply below_alloc | apply pw_below_drewN | apply below_drew1) | exact HB.out)⟩⟩
   ·rw [if_neg c3] at H
    have c3b0 : decide (x6_1 < 8) = false := decide_eq_false c3
    clear c3
    replace H := Option.bind_eq_some_iff.mp H
    obtain ⟨⟨t592, t593⟩, A100, H⟩ := H
    replace H : (some t592) = some r := H
    have A10 := Aside0.mk A100
    clear A100
    obtain rfl := Option.some.inj H
    obtain ⟨Ao11, co11, eo11⟩ := Kd.R_slice HO_5.out
    subst eo11
    go_wp2_with (first | ((with_reducible refine gate_callee (f := 103) rfl ?_); refine goesL_ (some 28) rfl rfl Tryd.func103 (by kernel_rfl) rfl #[.slice Ao11 x5_1.length co11] rfl (by (try simp only [List.map_toArray, List.map_cons, List.map_nil]); first | done | rfl | (simp only [List.length_drop, List.length_take]; rfl)) ?_; (with_reducible refine (mainsheetref04_Of.calls k1 _ _ x5_1 t592 t593 _ ?side1 ?side2 A10.out).mono ?_); (case side1 => repeat (first | exact (Kd.R_reads' HO_5.out).2.2 | (with_reducible refine Kd.C_alloc ?_ _) | (with_reducible refine Kd.C_drewN ?_ _) | (with_reducible refine Kd.C_drew ?_))); (case side2 => exact (Kd.R_reads' HO_5.out).2.1); rintro e w' ⟨rfl, ⟨nd, rfl⟩⟩; refine ⟨_, rfl, ?_⟩))
    go_ret
    exact ⟨by first | rfl | (simp [errW_none, errW_some] <;> rfl) | (simp [*, errW_none, errW_some] <;> rfl), by repeat (first | (with_reducible first | exact HB.out | apply below_alloc | apply pw_below_drewN | apply below_drew1) | exact HB.out)⟩

end Go.Proofs.YtdmieaidheelbaaDoor.Q
end
