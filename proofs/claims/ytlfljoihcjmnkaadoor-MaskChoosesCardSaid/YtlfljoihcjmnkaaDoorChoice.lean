/- mask.Choice: the first choice, by its contract. -/
import Derived.Test.YtlfljoihcjmnkaaDoorMostC
import Derived.WalkMore
import Derived.Deep.LoopGhost
namespace Go.Proofs.YtlfljoihcjmnkaaDoor.Q
open Go Go.RowKit Go.Shelf Go.Proofs.YtlfljoihcjmnkaaDoor.Rng Go.Proofs.YtlfljoihcjmnkaaDoorW.PrintWords Go.Proofs.YtlfljoihcjmnkaaDoorW.PrintLast Go.Proofs.YtlfljoihcjmnkaaDoorW.PrintMore
set_option linter.unusedVariables false
set_option linter.unusedSimpArgs false

def askedM (l : List S31) (a : Int) : Int := if l.all okM = false then 170 else if a < 256 then (if 16 < l.length then 3 else 0) else 140
def chooseN : List S31 → Nat → List Int
  | [], _ => []
  | m :: l, s => match (listOf (allowsN m.f0.toNat m.f1.toNat s : Nat)).find? fun c => decide (mostN l (minus s (2 ^ c.toNat)) = l.length) with
    | some c => c :: chooseN l (minus s (2 ^ c.toNat))
    | none => []
def okChoice (l0 : List S31) (a1 : Int) : Prop := (∀ x ∈ l0, Wf34 x) ∧ l0.length ≤ 1000000 ∧ 0 ≤ a1 ∧ a1 < 4294967296
instance (l : List S31) (a : Int) : Decidable (okChoice l a) := inferInstanceAs (Decidable (_ ∧ _ ∧ _ ∧ _))
def mask_Choice.f (l0 : List S31) (a1 : Int) : Option (List Int × Int) :=
  if okChoice l0 a1 then some (if askedM l0 a1 ≠ 0 then ([], askedM l0 a1) else if mostN l0 a1.toNat < l0.length then ([], 4) else (chooseN l0 a1.toNat, 0)) else none

theorem asked_valM (l : List S31) (a : Int) (h : okChoice l a) (k : Nat) (hk : l.length + 2 ≤ k) : mask_asked.f k l a = some (askedM l a) := by
  obtain ⟨h1, h2, h3, h4⟩ := h
  obtain ⟨k, rfl⟩ : ∃ m, k = m := ⟨k, rfl⟩
  have e1 : mask_right.f k l = some (l.all okM) := by
    unfold mask_right.f
    exact right_loop l (by omega) h1 l.length k 0 (by omega) (by omega) (by omega)
  have e2 := Check_val a.toNat (by omega)
  rw [show ((a.toNat : Nat) : Int) = a by omega] at e2
  unfold mask_asked.f askedM
  rw [e1, Option.bind_some]
  cases l.all okM with
  | false => simp
  | true =>
    rw [if_pos rfl, e2, Option.bind_some, if_neg (by simp : ¬ (true = false))]
    by_cases h5 : a < 256
    · simp only [show a.toNat < 256 by omega, if_true, if_pos h5]
      by_cases h6 : 16 < l.length
      · rw [if_pos h6, if_pos (by omega)]
      · rw [if_neg h6, if_neg (by omega)]
    · simp only [show ¬ a.toNat < 256 by omega, if_false, if_neg h5]
      rfl
theorem askedM_ok {l : List S31} {a : Int} (h : askedM l a = 0) : l.all okM = true ∧ a < 256 ∧ l.length ≤ 16 := by
  unfold askedM at h
  by_cases h1 : l.all okM = false
  · rw [if_pos h1] at h; omega
  · rw [if_neg h1] at h
    by_cases h2 : a < 256
    · rw [if_pos h2] at h
      by_cases h3 : 16 < l.length
      · rw [if_pos h3] at h; omega
      · exact ⟨by simpa using h1, h2, by omega⟩
    · rw [if_neg h2] at h; omega

theorem most_f {l : List S31} {s : Nat} (hwf : ∀ x ∈ l, Wf34 x) (hl : l.length ≤ 16) (hs : s < 256) : mask_most.f l s = some ((mostN l s : Nat) : Int) := by
  unfold mask_most.f; rw [if_pos ⟨hwf, hl, by omega, by omega⟩, Int.toNat_natCast]
theorem infoInt2 : (Tryd.prog.info? 31).map (fun i => (i.zero, i.size, i.bytes)) = some (some (.agg #[.int .u32 0, .int .u32 0]), 2, 8) := by kernel_rfl
theorem choose_cons (m : S31) (l : List S31) (s : Nat) : chooseN (m :: l) s = match (listOf (allowsN m.f0.toNat m.f1.toNat s : Nat)).find? fun c => decide (mostN l (minus s (2 ^ c.toNat)) = l.length) with
    | some c => c :: chooseN l (minus s (2 ^ c.toNat))
    | none => [] := rfl
theorem row_base {w : World} {base : Nat} {e : TypeId} {size : Nat} {v : Value} {n : Nat} {xs : List Value} (h : w.ownsRow base e size v n xs) : ∀ k, v.ownBlock = some k → base ≤ k := by
  intro k hk
  rcases h.2 with ⟨rfl, _⟩ | ⟨g, cap, cur, rfl, hg, _⟩
  · cases hk
  · simp only [Value.ownBlock, Option.some.injEq] at hk; omega

set_option maxRecDepth 100000 in
set_option maxHeartbeats 4000000 in
theorem choice_no (A0 : Option Addr) (c0 : Nat) (l0 : List (S31)) (a1 : Int) (w : World) (hr0 : Kd.C k31 w A0 l0.length l0) (hc0 : l0.length ≤ c0) (hok : okChoice l0 a1) (hn : askedM l0 a1 ≠ 0) :
    Calls Tryd.prog 9 #[.slice A0 l0.length c0, .int .u32 a1] w fun e w' => e = .returned (.tuple #[.slice none 0 0, .int .i64 (askedM l0 a1)]) ∧ Below w.heap.size w w' := by
  have hv := asked_valM l0 a1 hok (l0.length + 2) (Nat.le_refl _)
  have hne : (askedM l0 a1 != 0) = true := by simpa using hn
  have HV := Aside0.mk hv
  have HR := Aside0.mk hr0
  have HC := Aside0.mk hc0
  clear hv hok hr0 hc0 hn
  go_enter Tryd.func9, Tryd.ntmps9
  go_wp2
  go_step3
  go_wp2_with (go_at_call 28; refine (mask_asked.calls _ A0 c0 l0 a1 _ w HR.out HC.out HV.out).mono ?_; rintro e w' ⟨rfl, hb⟩; have HB := Aside0.mk hb; clear hb)
  rw [Exit.noGoto_ret]
  go_ret2
  exact ⟨rfl, HB.out⟩

set_option maxRecDepth 100000 in
set_option maxHeartbeats 4000000 in
theorem choice_yes (A0 : Option Addr) (c0 : Nat) (l0 : List (S31)) (s : Nat) (w : World) (hr0 : Kd.C k31 w A0 l0.length l0) (hc0 : l0.length ≤ c0) (hok : okChoice l0 s) (hn : askedM l0 s = 0) (hT : TabW w) :
    Calls Tryd.prog 9 #[.slice A0 l0.length c0, .int .u32 s] w fun e w' => ∃ v, e = .returned (.tuple #[v, .int .i64 (if mostN l0 s < l0.length then 4 else 0)]) ∧
      Kd.R (Kd.int .i64) 3 w' w.heap.size (fun _ => True) v (if mostN l0 s < l0.length then [] else chooseN l0 s) ∧ Below w.heap.size w w' := by
  obtain ⟨hall, hs, hl⟩ := askedM_ok hn
  have hs' : s < 256 := by omega
  have hv := asked_valM l0 s hok (l0.length + 2) (Nat.le_refl _)
  rw [hn] at hv
  have hwf := hok.1
  have hm : mask_most.f l0 s = some ((mostN l0 s : Nat) : Int) := most_f hwf hl hs'
  have HV := Aside0.mk hv
  have HM := Aside0.mk hm
  have HR := Aside0.mk hr0
  have HC := Aside0.mk hc0
  have HTW := Aside0.mk hT
  have HWF := Aside0.mk hwf
  have hml := mostN_le l0 s
  clear hv hok hr0 hc0 hn hm hT hwf hs hall
  by_cases hfew : mostN l0 s < l0.length
  · have h1 : decide ((mostN l0 s : Int) < (l0.length : Int)) = true := decide_eq_true (by omega)
    rw [if_pos hfew, if_pos hfew]
    go_enter Tryd.func9, Tryd.ntmps9
    go_wp2
    go_step3
    go_wp2_with (first
      | (go_at_call 28; refine (mask_asked.calls _ A0 c0 l0 s _ w HR.out HC.out HV.out).mono ?_; rintro e w1 ⟨rfl, hb⟩; have HB1 := Aside0.mk hb; clear hb)
      | (go_at_call 29; refine (mask_most.calls A0 c0 l0 s _ _ (Kd.C_below HR.out HB1.out) HC.out (HTW.out.step HB1.out) HM.out).mono ?_; rintro e w2 ⟨rfl, hb⟩; have HB2 := Aside0.mk hb; clear hb))
    rw [Exit.noGoto_ret]
    go_ret2
    exact ⟨_, rfl, Kd.R_nil _ _ _ _ _, HB1.out.trans (HB2.out.mono HB1.out.size)⟩
  · have h1 : decide ((mostN l0 s : Int) < (l0.length : Int)) = false := decide_eq_false (by omega)
    rw [if_neg hfew, if_neg hfew]
    go_enter Tryd.func9, Tryd.ntmps9
    go_wp2
    go_step3
    go_wp2_with (first
      | (go_at_call 28; refine (mask_asked.calls _ A0 c0 l0 s _ w HR.out HC.out HV.out).mono ?_; rintro e w1 ⟨rfl, hb⟩; have HB1 := Aside0.mk hb; clear hb)
      | (go_at_call 29; refine (mask_most.calls A0 c0 l0 s _ _ (Kd.C_below HR.out HB1.out) HC.out (HTW.out.step HB1.out) HM.out).mono ?_; rintro e w2 ⟨rfl, hb⟩; have HB2 := Aside0.mk hb; clear hb))
    go_step3
    go_wp2
    obtain ⟨i0, hi, hz0, hz1, hz2⟩ := info_parts infoInt
    have HB := Aside0.mk (HB1.out.trans (HB2.out.mono HB1.out.size))
    have HMA := Aside0.mk (MasksAt.of HR.out)
    have hu31 := Tryd.underlying31
    clear HB1 HB2 HV HM h1 hml hfew
    go_loopg [1, 7, 27] l0.length (fun g s1 s7 s27 wx => ∃ (k fr : Nat) (pre : List Int), k + g = l0.length ∧ s27 = .int .i64 k ∧ s1 = .int .u32 fr ∧ fr < 256 ∧ Aside0 (chooseN l0 s = pre ++ chooseN (l0.drop k) fr) ∧ pre.length ≤ k ∧
      Aside0 (wx.ownsRow w.heap.size 3 1 s7 pre.length (pre.map (Value.int .i64))) ∧ Aside0 (Below w.heap.size w wx))
    case atStart => exact ⟨0, s, [], by omega, rfl, rfl, hs', ⟨rfl⟩, Nat.le_refl _, ⟨World.ownsRow_nil _ _ _ _⟩, HB⟩
    case round =>
      obtain ⟨k, fr, pre, hkg, rfl, rfl, hfr, HPRE, hpl, HROW, HBX⟩ := hrel
      clear HB
      cases gk with
      | zero =>
        have hk : ¬ ((k : Int) < (l0.length : Int)) := by omega
        have hres := HPRE.out
        rw [List.drop_eq_nil_of_le (by omega)] at hres
        simp only [chooseN, List.append_nil] at hres
        have HRES := Aside0.mk hres
        clear hres HPRE
        go_wp2
        (try rw [Exit.noGoto_ret])
        go_ret2
        refine ⟨_, rfl, ?_, HBX.out⟩
        rw [HRES.out]
        exact Kd.R_of_own HROW.out (fun _ _ => trivial)
      | succ go =>
        generalize u7 = sv at *
        have hlt : k < l0.length := by omega
        obtain ⟨ad, rfl, had, hx0, hx1⟩ := HMA.out k hlt
        have hwx := HWF.out _ (rdM_mem l0 k hlt)
        have hdrop : l0.drop k = rd_T31 l0 k :: l0.drop (k + 1) := by
          rw [List.drop_eq_getElem_cons hlt]; simp [rd_T31, hlt]
        generalize rd_T31 l0 (k : Int) = x at *
        obtain ⟨mh, ms⟩ := x
        obtain ⟨hw1, hw2, hw3, hw4⟩ := hwx
        simp only at hx0 hx1 hw1 hw2 hw3 hw4
        obtain ⟨mh, rfl⟩ : ∃ m : Nat, mh = m := ⟨mh.toNat, by omega⟩
        obtain ⟨ms, rfl⟩ : ∃ m : Nat, ms = m := ⟨ms.toNat, by omega⟩
        have hal := Allows_val mh ms fr (by omega) (by omega) (by omega) 2 (by omega)
        have hli := List_val (allowsN mh ms fr) (by have := allowsN_lt mh ms fr; omega)
        have hpre := HPRE.out
        rw [hdrop, choose_cons] at hpre
        simp only [Int.toNat_natCast] at hpre
        obtain ⟨y, hy⟩ : ∃ y, l0.drop (k + 1) = y := ⟨_, rfl⟩
        have hyl : y.length = l0.length - (k + 1) := by rw [← hy, List.length_drop]
        have hyw : ∀ x ∈ y, Wf34 x := fun x hx => HWF.out x (List.mem_of_mem_drop (by rw [hy]; exact hx))
        rw [hy] at hpre
        have HY := Aside0.mk hy
        have HYL := Aside0.mk hyl
        have HYW := Aside0.mk hyw
        clear hyw
        have hy0 := (World.cell?_of_block (w := w) (w' := wr) (HBX.out.block _ (by rw [add_block]; exact had))).trans hx0
        have hy1 := (World.cell?_of_block (w := w) (w' := wr) (a := ⟨(ad.add (k * 2)).block, (ad.add (k * 2)).off + 1, none⟩) (HBX.out.block _ (by rw [add_block]; exact had))).trans hx1
        have HAL := Aside0.mk hal
        have HLI := Aside0.mk hli
        have HPR := Aside0.mk hpre
        have HBA := Aside0.mk ((Below.refl wr.heap.size wr).alloc (Nat.le_refl _) (.cells #[.int .u32 mh, .int .u32 ms] 31))
        clear hal hli hpre hdrop HPRE hx0 hx1 hw1 hw2 hw3 hw4 hy hyl
        go_wp2_with (first
          | (go_at_call 10; refine (mask_Allows.calls 2 mh ms fr _ _ HAL.out).mono ?_; rintro e wa ⟨rfl, hba⟩; have HBB := Aside0.mk (HBA.out.trans (hba.mono HBA.out.size)); clear hba)
          | (go_at_call 30; refine (cpuset_List.calls _ _ _ ((HTW.out.step HBX.out).step HBB.out) HLI.out).mono ?_; rintro e wb ⟨v, rfl, hR, hbb⟩; obtain ⟨A2, k2, rfl, hI⟩ := IntsAt.of hR; have HBC := Aside0.mk (HBB.out.trans (hbb.mono HBB.out.size)); have HI := Aside0.mk hI; clear hR hI hbb))
        have HROW2 := Aside0.mk (pw_own_below HROW.out HBC.out)
        have HBX2 := Aside0.mk (HBX.out.trans (HBC.out.mono HBX.out.size))
        have hlen := listOf_len (allowsN mh ms fr)
        have hmem := fun c => list_mem (allowsN mh ms fr) c
        generalize listOf (allowsN mh ms fr : Nat) = cs at *
        have HMEM := Aside0.mk hmem
        obtain ⟨nb, hnb⟩ : ∃ nb, nb = wa.heap.size := ⟨_, rfl⟩
        rw [← hnb] at HI
        clear hmem HROW HBX HBA HBB HBC HAL HLI hy0 hy1 hnb had
        go_loopg [1, 7, 37] cs.length (fun g s1 s7 s37 wy => ∃ j : Nat, j + g = cs.length ∧ s37 = .int .i64 j ∧ s1 = .int .u32 fr ∧ s7 = sv ∧ Aside0 (∀ c ∈ cs.take j, decide (mostN y (minus fr (2 ^ c.toNat)) = y.length) = false) ∧ Aside0 (IntsAt wy nb A2 cs) ∧
          Aside0 (wy.ownsRow w.heap.size 3 1 sv pre.length (pre.map (Value.int .i64))) ∧ Aside0 (Below w.heap.size w wy))
        case atStart => exact ⟨0, by omega, rfl, rfl, rfl, ⟨by simp⟩, HI, HROW2, HBX2⟩
        case round =>
          obtain ⟨j, hjg, rfl, rfl, rfl, HNO, HI3, HROW3, HBX3⟩ := hrel
          clear HI HROW2 HBX2
          cases gk with
          | zero =>
            have hj : ¬ ((j : Int) < (cs.length : Int)) := by omega
            have hres := HPR.out
            have hno := HNO.out
            rw [List.take_of_length_le (by omega)] at hno
            rw [find_none_of _ _ hno] at hres
            simp only [List.append_nil] at hres
            have HRES := Aside0.mk hres
            clear hres hno HPR HNO HMEM HI3
            go_wp2
            (try rw [Exit.noGoto_ret])
            go_ret2
            refine ⟨_, rfl, ?_, HBX3.out⟩
            rw [HRES.out]
            exact Kd.R_of_own HROW3.out (fun _ _ => trivial)
          | succ gj =>
            have hjl : j < cs.length := by omega
            obtain ⟨ad2, rfl, hb2, hx⟩ := HI3.out j hjl
            have e : cs[j] = rd cs (j : Int) := by simp [rd, hjl]
            have hxm := HMEM.out (rd cs j) (by rw [← e]; exact List.getElem_mem hjl)
            have hstep := List.take_succ_eq_append_getElem hjl
            have hdr := List.drop_eq_getElem_cons hjl
            rw [e] at hstep hdr
            have HST := Aside0.mk hstep
            have HDR := Aside0.mk hdr
            clear hstep hdr e
            generalize rd cs (j : Int) = c at *
            obtain ⟨hc0, hc8, _⟩ := hxm
            obtain ⟨dd, rfl⟩ : ∃ m : Nat, c = m := ⟨c.toNat, by omega⟩
            have hd8 : dd < 8 := by omega
            have hpw : (2 : Int) ^ dd % 4294967296 = ((2 ^ dd : Nat) : Int) := by
              have h2 := pow_lt256 dd hd8
              rw [show (2 : Int) ^ dd = ((2 ^ dd : Nat) : Int) by simp]
              generalize 2 ^ dd = q at h2 ⊢
              omega
            have e1 : bits BinOp.andNot IntKind.u32 (fr : Int) ((2 : Int) ^ dd % 4294967296) = ((minus fr (2 ^ dd) : Nat) : Int) := by
              rw [hpw]; exact andNot_byte fr (2 ^ dd) hfr (pow_lt256 dd hd8)
            have hsm := minus_lt fr (2 ^ dd) hfr
            obtain ⟨i1, hi1, _, hsz1, _⟩ := info_parts infoInt2
            have hcut := cut_from (P := Tryd.prog) 22 31 .i64 Tryd.underlying22 hi1 2 hsz1 (some ad) l0.length c0 ((k : Int) + 1) (by omega) (by omega)
            rw [show ((k : Int) + 1).toNat = k + 1 by omega] at hcut
            have hCd := Kd.C_drop (m := k + 1) (c := c0) (Kd.C_below HR.out HBX3.out) (by omega) HC.out
            rw [HY.out] at hCd
            obtain ⟨A3, hA3⟩ : ∃ A3, A3 = (if c0 = k + 1 then some ad else (some ad : Option Addr).map (·.add ((k + 1) * 2))) := ⟨_, rfl⟩
            rw [← hA3] at hcut
            replace hCd : Kd.C k31 wr A3 y.length y := by rw [hA3]; exact hCd
            have hdl := HYL.out
            rw [← hdl] at hcut
            have hmf := most_f (l := y) HYW.out (by omega) hsm
            have hc3 : y.length ≤ c0 - (k + 1) := by rw [hdl]; exact Nat.sub_le_sub_right HC.out _
            have HCD := Aside0.mk hCd
            have HMF := Aside0.mk hmf
            have HC3 := Aside0.mk hc3
            have HDL := Aside0.mk hdl
            clear hCd hmf hc3 hA3 hi1 hsz1 hpw hdl
            have HNBW := Aside0.mk (HTW.out.step HBX3.out)
            by_cases hq : mostN y (minus fr (2 ^ dd)) = y.length
            · have q1 : (((mostN y (minus fr (2 ^ dd)) : Nat) : Int) == (l0.length : Int) - (k : Int) - 1) = true := by have hdl := HDL.out; rw [beq_iff_eq, hq]; omega
              have hres := HPR.out
              have hcs : cs = cs.take j ++ (dd : Int) :: cs.drop (j + 1) := by rw [← HDR.out, List.take_append_drop]
              rw [hcs, find_some_of _ _ _ _ HNO.out (by simpa using hq)] at hres
              simp only [Int.toNat_natCast] at hres
              have HRES := Aside0.mk hres
              have HQ := Aside0.mk hq
              clear hres hcs hq HPR HNO HMEM HI3 HST HDR
              go_wp2_with (first
                | (go_at_call 29; refine (mask_most.calls A3 (c0 - (k + 1)) y _ _ _ HCD.out HC3.out HNBW.out HMF.out).mono ?_; rintro e w5 ⟨rfl, hb5⟩; have HB5 := Aside0.mk hb5; have hrow5 := pw_own_below HROW3.out hb5; clear hb5)
                | (at_builtin; refine wpList_append_own _ rfl _ _ 26 rfl w.heap.size 3 i0 (.int .i64 0) 1 8 Tryd.underlying26 hi hz0 hz1 hz2 rfl (by decide) _ _ _ rfl (hrow5.alloc _) ⟨w5.heap.size, 0, none⟩ 1 1 [.int .i64 dd] rfl rfl (cell_one_new _ _ _) (by simp [Value.oneCell']) (by unfold maxLen; omega) (by omega) (by have := HBX3.out.size; have := HB5.out.size; simp; omega) ?_; intro v' w6 hown' hgrow' _; have HOWN := Aside0.mk hown'; have HGROW := Aside0.mk hgrow'; clear hown' hgrow'))
              go_roundg go
              case measure => omega
              case rel =>
                have hb6 : Below w.heap.size w w6 := ((HBX3.out.trans (HB5.out.mono HBX3.out.size)).alloc (by have := HBX3.out.size; have := HB5.out.size; omega) _).grown HGROW.out (by have := HBX3.out.size; have := HB5.out.size; simp; omega) (row_base HROW3.out)
                exact ⟨k + 1, minus fr (2 ^ dd), pre ++ [(dd : Int)], by omega, rfl, rfl, hsm, ⟨by rw [HRES.out, HY.out]; simp⟩, by simp; omega, ⟨by have := HOWN.out; simpa using this⟩, ⟨hb6⟩⟩
            · have q1 : (((mostN y (minus fr (2 ^ dd)) : Nat) : Int) == (l0.length : Int) - (k : Int) - 1) = false := by rw [beq_eq_false_iff_ne]; intro h; have hdl := HDL.out; exact hq (by omega)
              have HNQ := Aside0.mk hq
              clear hq HPR HMEM HDR
              go_wp2_with (go_at_call 29; refine (mask_most.calls A3 (c0 - (k + 1)) y _ _ _ HCD.out HC3.out HNBW.out HMF.out).mono ?_; rintro e w5 ⟨rfl, hb5⟩; have HB5 := Aside0.mk hb5; clear hb5)
              go_roundg gj
              case measure => omega
              case rel =>
                have HJ : Aside0 (∀ (c : Int), c ∈ cs.take (j + 1) → decide (mostN y (minus fr (2 ^ c.toNat)) = y.length) = false) := by
                  refine ⟨?_⟩
                  rw [HST.out]
                  intro c hc
                  rcases List.mem_append.1 hc with hc | hc
                  · exact HNO.out c hc
                  · obtain rfl : c = (dd : Int) := by simpa using hc
                    simpa using HNQ.out
                exact ⟨j + 1, by omega, rfl, rfl, rfl, HJ, ⟨HI3.out.step HB5.out⟩, ⟨pw_own_below HROW3.out HB5.out⟩, ⟨HBX3.out.trans (HB5.out.mono HBX3.out.size)⟩⟩

theorem mask_Choice.calls (A0 : Option Addr) (c0 : Nat) (l0 : List (S31)) (a1 : Int) (r1 : List Int) (r2 : Int) (w : World) (hr0 : Kd.C k31 w A0 l0.length l0) (hc0 : l0.length ≤ c0) (hT : TabW w) (h : mask_Choice.f l0 a1 = some (r1, r2)) :
    Calls Tryd.prog 9 #[.slice A0 l0.length c0, .int .u32 a1] w fun e w' => ∃ v0_ : Value, e = .returned (.tuple #[v0_, .int .i64 r2]) ∧ Kd.R (Kd.int .i64) 3 w' w.heap.size (fun _ => True) v0_ r1 ∧ Below w.heap.size w w' := by
  unfold mask_Choice.f at h
  by_cases hok : okChoice l0 a1
  case neg => rw [if_neg hok] at h; cases h
  rw [if_pos hok] at h
  replace h := Option.some.inj h
  by_cases h0 : askedM l0 a1 = 0
  · rw [if_neg (by simpa using h0)] at h
    have hf := (askedM_ok h0).2.1
    obtain ⟨free, rfl⟩ : ∃ n : Nat, a1 = n := ⟨a1.toNat, by have := hok.2.2.1; omega⟩
    rw [Int.toNat_natCast] at h
    have := choice_yes A0 c0 l0 free w hr0 hc0 hok h0 hT
    by_cases hq : mostN l0 free < l0.length
    · rw [if_pos hq] at h this
      rw [if_pos hq] at this
      injection h with e1 e2
      subst e1 e2
      exact this
    · rw [if_neg hq] at h this
      rw [if_neg hq] at this
      injection h with e1 e2
      subst e1 e2
      exact this
  · rw [if_pos h0] at h
    injection h with e1 e2
    subst e1 e2
    exact (choice_no A0 c0 l0 a1 w hr0 hc0 hok h0).mono fun e w' h => ⟨_, h.1, Kd.R_nil _ _ _ _ _, h.2⟩
#print axioms mask_Choice.calls
end Go.Proofs.YtlfljoihcjmnkaaDoor.Q
