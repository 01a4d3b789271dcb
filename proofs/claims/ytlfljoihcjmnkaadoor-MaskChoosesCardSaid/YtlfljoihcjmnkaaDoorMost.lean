/- mask.most: the most masks of a row that have a choice: the recursive closure with its map of what was found, by its contract. -/
import Derived.Test.YtlfljoihcjmnkaaDoorMostK
namespace Go.Proofs.YtlfljoihcjmnkaaDoor.Q
open Go Go.RowKit Go.Shelf Go.Proofs.YtlfljoihcjmnkaaDoor.Rng Go.Proofs.YtlfljoihcjmnkaaDoorW.PrintWords Go.Proofs.YtlfljoihcjmnkaaDoorW.PrintLast Go.Proofs.YtlfljoihcjmnkaaDoorW.PrintMore
open Go.Maps (Keyed IsMap)
set_option linter.unusedVariables false
set_option linter.unusedSimpArgs false

def MostW (W : World) (n₀ Bl Bm Bc b : Nat) (A : Option Addr) (cap : Nat) (l : List S31) : Prop :=
  Boxed W Bl 22 (.slice A l.length cap) ∧ Boxed W Bm 59 (.map (some b)) ∧
  Boxed W Bc 60 (.func (.func 39) #[] #[.pointer (some ⟨Bl, 0, none⟩), .pointer (some ⟨Bm, 0, none⟩), .pointer (some ⟨Bc, 0, none⟩)]) ∧
  MasksAt W n₀ A l ∧ TabW W

theorem MostW.grown {W W' : World} {n₀ Bl Bm Bc b : Nat} {A : Option Addr} {cap : Nat} {l : List S31} (h : MostW W n₀ Bl Bm Bc b A cap l) (hg : W.grownBy W' (some b)) (hne : b ≠ Bl ∧ b ≠ Bm ∧ b ≠ Bc ∧ n₀ ≤ b ∧ 0 < n₀) (hn : n₀ ≤ Bl) : MostW W' n₀ Bl Bm Bc b A cap l := by
  obtain ⟨h1, h2, h3, h4, h5⟩ := h
  obtain ⟨e1, e2, e3, e4, e5⟩ := hne
  have hlt := h1.lt
  exact ⟨h1.kept hg (fun e => by injection e; omega), h2.kept hg (fun e => by injection e; omega), h3.kept hg (fun e => by injection e; omega),
    h4.same (fun k hk => hg.block k (by omega) (fun e => by injection e; omega)), h5.same (hg.block 0 (by omega) (fun e => by injection e; omega))⟩
theorem MostW.step {W W' : World} {n₀ Bl Bm Bc b : Nat} {A : Option Addr} {cap : Nat} {l : List S31} (h : MostW W n₀ Bl Bm Bc b A cap l) (hb : Below W.heap.size W W') (hn : n₀ ≤ Bl) : MostW W' n₀ Bl Bm Bc b A cap l := by
  obtain ⟨h1, h2, h3, h4, h5⟩ := h
  have hlt := h1.lt
  exact ⟨(hb.block _ h1.lt).trans h1, (hb.block _ h2.lt).trans h2, (hb.block _ h3.lt).trans h3, h4.same (fun k hk => hb.block k (by omega)), h5.step hb⟩
theorem rdM_mem (l : List S31) (i : Nat) (hi : i < l.length) : rd_T31 l (i : Int) ∈ l := by
  have : rd_T31 l (i : Int) = l[i] := by simp [rd_T31, hi]
  rw [this]; exact List.getElem_mem hi
def IntsAt (W : World) (base : Nat) (A : Option Addr) (xs : List Int) : Prop := ∀ k, k < xs.length → ∃ ad, A = some ad ∧ base ≤ ad.block ∧ W.cell? (ad.add k) = some (.int .i64 (rd xs k))
theorem IntsAt.of {W : World} {base : Nat} {v : Value} {xs : List Int} (h : Kd.R (Kd.int .i64) 3 W base (fun _ => True) v xs) : ∃ A c, v = .slice A xs.length c ∧ IntsAt W base A xs := by
  obtain ⟨A, c, rfl, hc, hC⟩ := Kd.R_reads h
  refine ⟨A, c, rfl, fun k hk => ?_⟩
  obtain ⟨ad, e, hx⟩ := Kd.at_int hC (k : Int) (by omega) (by omega)
  rw [Int.toNat_natCast] at hx
  exact ⟨ad, e, Kd.R_base h _ (by rw [e]; rfl), hx⟩
theorem IntsAt.grown {W W' : World} {base b : Nat} {A : Option Addr} {xs : List Int} (h : IntsAt W base A xs) (hg : W.grownBy W' (some b)) (hb : b < base) : IntsAt W' base A xs := fun k hk => by
  obtain ⟨ad, e, hb2, hx⟩ := h k hk
  exact ⟨ad, e, hb2, hg.cell hx (fun e => by rw [add_block] at e; injection e; omega)⟩
theorem IntsAt.step {W W' : World} {base : Nat} {A : Option Addr} {xs : List Int} (h : IntsAt W base A xs) (hb : Below W.heap.size W W') : IntsAt W' base A xs := fun k hk => by
  obtain ⟨ad, e, hb2, hx⟩ := h k hk
  exact ⟨ad, e, hb2, (World.cell?_of_block (w := W) (hb.block _ (World.block_lt_of_cell? W _ hx))).trans hx⟩

set_option maxRecDepth 100000 in
set_option maxHeartbeats 4000000 in
theorem most1_calls (n₀ Bl Bm Bc b : Nat) (A : Option Addr) (cap : Nat) (l : List S31) (hl : l.length ≤ 16) (hwf : ∀ x ∈ l, Wf34 x) (hne : b ≠ Bl ∧ b ≠ Bm ∧ b ≠ Bc ∧ n₀ ≤ b ∧ 0 < n₀) (hnl : n₀ ≤ Bl) : ∀ (d i s n : Nat) (D : DataW Unit) (W : World),
    i + d = l.length → s < 256 → MostW W n₀ Bl Bm Bc b A cap l → W.ownsMap Tryd.prog 62 (plainElem Tryd.prog 3) b n D → Memo l D → n + timesT d ≤ 1000000000000000 →
    Calls Tryd.prog 39 #[.int .i64 i, .int .u32 s, .pointer (some ⟨Bl, 0, none⟩), .pointer (some ⟨Bm, 0, none⟩), .pointer (some ⟨Bc, 0, none⟩)] W fun e W' =>
      e = .returned (.int .i64 (mostN (l.drop i) s : Nat)) ∧ W.grownBy W' (some b) ∧ ∃ n' D', W'.ownsMap Tryd.prog 62 (plainElem Tryd.prog 3) b n' D' ∧ Memo l D' ∧ n' ≤ n + timesT d := by
  intro d
  induction d with
  | zero =>
    rintro i s n D W hi hs ⟨h1, h2, h3, h4, h5⟩ hM hMemo hn
    obtain rfl : i = l.length := by omega
    have c1 := h1.cell
    go_enter Tryd.func39, Tryd.ntmps39
    go_wp2
    go_ret
    refine ⟨?_, ⟨rfl, rfl, rfl, Nat.le_refl _, fun _ _ _ => rfl⟩, n, D, hM, hMemo, Nat.le_add_right _ _⟩
    rw [List.drop_length]; rfl
  | succ d ih =>
    rintro i s n D W hi hs ⟨h1, h2, h3, h4, h5⟩ hM hMemo hn
    have hlt : i < l.length := by omega
    have c1 := h1.cell
    have c2 := h2.cell
    have c3 := h3.cell
    have hdrop : l.drop i = rd_T31 l i :: l.drop (i + 1) := by
      rw [List.drop_eq_getElem_cons hlt]; simp [rd_T31, hlt]
    by_cases hs0 : s = 0
    · subst hs0
      go_enter Tryd.func39, Tryd.ntmps39
      go_wp2
      go_ret
      refine ⟨?_, ⟨rfl, rfl, rfl, Nat.le_refl _, fun _ _ _ => rfl⟩, n, D, hM, hMemo, Nat.le_add_right _ _⟩
      rw [hdrop]; unfold mostN; rfl
    have q1 : ((i : Int) == (l.length : Int)) = false := beq_eq_false_iff_ne.2 (by omega)
    have q2 : ((s : Int) == 0) = false := beq_eq_false_iff_ne.2 (by omega)
    have hkey := key_of i s (by omega) hs
    obtain ⟨v, ps, hrun, hv⟩ := hM.look_ok lawF Tryd.underlying59 (show (zeroValue 3).run Tryd.prog W = .ok (.int .i64 0) W by kernel_rfl) (plainElem_int Tryd.underlying3 (wf_i64 0 (by omega))) hkey
    obtain ⟨c, rfl, hc, hwc⟩ := plainElem_int_inv Tryd.underlying3 hv
    cases hh : Maps.has D (keyL i s) with
    | true =>
      rw [hh] at hrun
      have hm := hMemo i s (by omega) hs hh
      have hcv : c = (mostN (l.drop i) s : Nat) := by
        have := congrArg Prod.fst hc
        rw [hm] at this
        injection this with this
        injection this with this this2
        exact this2.symm
      have HM := Aside0.mk hM
      have HMM := Aside0.mk hMemo
      have HD := Aside0.mk hdrop
      have HC := Aside0.mk hcv
      clear hM hMemo hm hc hv hkey hdrop hcv
      go_enter Tryd.func39, Tryd.ntmps39
      go_wp2
      go_ret
      refine ⟨?_, ⟨rfl, rfl, rfl, Nat.le_refl _, fun _ _ _ => rfl⟩, n, D, HM.out, HMM.out, Nat.le_add_right _ _⟩
      rw [HC.out]; rfl
    | false =>
      rw [hh] at hrun
      have hw0 : MostW W n₀ Bl Bm Bc b A cap l := ⟨h1, h2, h3, h4, h5⟩
      obtain ⟨ad, rfl, had, hx0, hx1⟩ := h4 i hlt
      have hwx := hwf _ (rdM_mem l i hlt)
      generalize rd_T31 l (i : Int) = x at *
      obtain ⟨mh, ms⟩ := x
      obtain ⟨hw1, hw2, hw3, hw4⟩ := hwx
      simp only at hx0 hx1 hw1 hw2 hw3 hw4
      obtain ⟨mh, rfl⟩ : ∃ m : Nat, mh = m := ⟨mh.toNat, by omega⟩
      obtain ⟨ms, rfl⟩ : ∃ m : Nat, ms = m := ⟨ms.toNat, by omega⟩
      have hal := Allows_val mh ms s (by omega) (by omega) (by omega) 2 (by omega)
      have hli := List_val (allowsN mh ms s) (by have := allowsN_lt mh ms s; omega)
      have HM := Aside0.mk hM
      have HMM := Aside0.mk hMemo
      have HD := Aside0.mk hdrop
      have HAL := Aside0.mk hal
      have HLI := Aside0.mk hli
      have HIH := Aside0.mk ih
      have HW0 := Aside0.mk hw0
      have HWF := Aside0.mk hwf
      have HK := Aside0.mk hkey
      have HN := Aside0.mk hn
      have HX0 := Aside0.mk hx0
      have HX1 := Aside0.mk hx1
      have hu31 := Tryd.underlying31
      clear hM hMemo hc hv hkey hdrop hal hli ih hwf h1 h2 h3 h4 h5 hw0 hw1 hw2 hw3 hw4 hx0 hx1 hn
      go_enter Tryd.func39, Tryd.ntmps39
      go_wp2_with (first
        | (go_at_call 39; refine (HIH.out (i + 1) s n D W (by omega) hs HW0.out HM.out HMM.out (by have := HN.out; simp only [timesT] at this; omega)).mono ?_; rintro e W1 ⟨rfl, hg1, hm1⟩;
           have HW1 := Aside0.mk (HW0.out.grown hg1 hne hnl); have HM1 := Aside0.mk hm1; have HG1 := Aside0.mk hg1; have hx0 := hg1.cell HX0.out (fun e => by rw [add_block] at e; injection e; omega); have hx1 := hg1.cell HX1.out (fun e => by simp only [add_block] at e; injection e; omega); clear hg1 hm1;
           have cl := HW1.out.1.cell)
        | (go_at_call 10; refine (mask_Allows.calls 2 mh ms s _ _ HAL.out).mono ?_; rintro e W2 ⟨rfl, hb2⟩; have HW2 := Aside0.mk (HW1.out.step hb2 hnl); have HB2 := Aside0.mk hb2; clear hb2)
        | (go_at_call 30; refine (cpuset_List.calls _ _ _ HW2.out.2.2.2.2 HLI.out).mono ?_; rintro e W3 ⟨v, rfl, hR, hb3⟩; obtain ⟨A2, k2, rfl, hI⟩ := IntsAt.of hR; have HW3 := Aside0.mk (HW2.out.step hb3 hnl); have HI := Aside0.mk hI; have HB3 := Aside0.mk hb3; clear hR hI hb3))
      have hlen := listOf_len (allowsN mh ms s)
      have hmem := fun c => list_mem (allowsN mh ms s) c
      have hbW : W2.heap.size ≤ W3.heap.size := HB3.out.size
      have hG3 : W.grownBy W3 (some b) := gb_trans (gb_trans HG1.out (gb_of_below HB2.out none) (fun j e => by cases e)) (gb_of_below HB3.out none) (fun j e => by cases e)
      have HG3 := Aside0.mk hG3
      have HX3 : Aside0 (∃ n' D', W3.ownsMap Tryd.prog 62 (plainElem Tryd.prog 3) b n' D' ∧ Memo l D' ∧ n' ≤ n + timesT d) := by
        obtain ⟨n', D', h1, h2, h3⟩ := HM1.out
        exact ⟨n', D', (h1.kept (gb_of_below HB2.out none) (by simp)).kept (gb_of_below HB3.out none) (by simp), h2, h3⟩
      have HFOLD := Aside0.mk (show mostN (l.drop i) s = (listOf (allowsN mh ms s : Nat)).foldl (fun n c => max n (1 + mostN (l.drop (i + 1)) (minus s (2 ^ c.toNat)))) (mostN (l.drop (i + 1)) s) by rw [HD.out, mostN, if_neg hs0]; rfl)
      have HB0 := Aside0.mk (show b < W2.heap.size by have := (HM.out).lt; have := HG1.out.size; have := HB2.out.size; omega)
      clear HM1 HG1 HB2 HB3 HW1 HW2 hG3 hx0 hx1 cl c1 c2 c3 HX0 HX1 HAL HLI hrun had
      generalize listOf (allowsN mh ms s : Nat) = xs at *
      have HMEM := Aside0.mk hmem
      clear hmem
      go_loopw [8, 43] (fun nn ii wr => ∃ k, k ≤ xs.length ∧ ii = .int .i64 (k : Nat) ∧ nn = .int .i64 ((xs.take k).foldl (fun n c => max n (1 + mostN (l.drop (i + 1)) (minus s (2 ^ c.toNat)))) (mostN (l.drop (i + 1)) s) : Nat) ∧
          Aside0 (MostW wr n₀ Bl Bm Bc b (some ad) cap l) ∧ Aside0 (IntsAt wr W2.heap.size A2 xs) ∧ Aside0 (W.grownBy wr (some b)) ∧
          Aside0 (∃ n' D', wr.ownsMap Tryd.prog 62 (plainElem Tryd.prog 3) b n' D' ∧ Memo l D' ∧ n' ≤ n + timesT d + k * timesT d))
        (fun _ ii _ => xs.length - (intOf ii).toNat)
      case atStart => exact ⟨0, Nat.zero_le _, rfl, rfl, HW3, HI, HG3, ⟨by simpa using HX3.out⟩⟩
      case round =>
        obtain ⟨k, hk, rfl, rfl, HWr, HIr, HGr, HXr⟩ := hrel
        clear HW3 HI HG3 HX3
        by_cases hkl : k < xs.length
        case neg =>
          obtain rfl : k = xs.length := by omega
          rw [List.take_length] at *
          have hf := HFOLD.out
          generalize xs.foldl (fun n c => max n (1 + mostN (l.drop (i + 1)) (minus s (2 ^ c.toNat)))) (mostN (l.drop (i + 1)) s) = r at *
          obtain ⟨n', D', hM', hMM', hn'⟩ := HXr.out
          have cm := HWr.out.2.1.cell
          have HMM' := Aside0.mk hMM'
          have hn2 := HN.out
          simp only [timesT] at hn2
          have hn3 : n' ≤ n + timesT d + 8 * timesT d := Nat.le_trans hn' (Nat.add_le_add_left (Nat.mul_le_mul_right _ hlen) _)
          have HN3 := Aside0.mk hn3
          have hmax : n' < maxLen := by unfold maxLen; omega
          have HF := Aside0.mk hf
          clear hMM' hn' hn2 hn3 HWr HIr HXr HIH HM HMM HD HFOLD HW0 HWF HN HMEM hf hlen hh
          have hr : r ≤ 1000 := by have := mostN_le (l.drop i) s; rw [List.length_drop, HF.out] at this; omega
          go_wp2_with (at_mapUpdate; refine wpList_mapUpdate_own _ rfl _ _ _ 59 rfl 62 3 lawF Tryd.underlying59 _ b n' D' rfl hM' hmax _ _ (keyL i s) rfl rfl HK.out (.lit (.int .i64 (r : Nat))) [] (plainElem_int Tryd.underlying3 (wf_i64 r hr)) ?_; intro W5 hM5 hg5)
          go_ret
          refine ⟨?_, gb_trans HGr.out hg5 (fun j e => by cases e; exact .inl rfl), n' + 1, _, hM5, ?_, ?_⟩
          · rw [HF.out]; rfl
          · rw [← HF.out]; exact HMM'.out.put hM'.isMap (by omega) i s (by omega) hs
          · have := HN3.out; simp only [timesT]; omega
        case pos =>
        obtain ⟨ad2, rfl, hb2, hx⟩ := HIr.out k hkl
        have hxm := HMEM.out (rd xs k) (by have : rd xs (k : Int) = xs[k] := by simp [rd, hkl]
                                           rw [this]; exact List.getElem_mem hkl)
        have hk8 : k < 8 := by omega
        have hstep := List.take_succ_eq_append_getElem hkl
        rw [show xs[k] = rd xs (k : Int) by simp [rd, hkl]] at hstep
        have HST := Aside0.mk hstep
        clear hstep
        generalize rd xs (k : Int) = c at *
        obtain ⟨hc0, hc8, _⟩ := hxm
        obtain ⟨dd, rfl⟩ : ∃ m : Nat, c = m := ⟨c.toNat, by omega⟩
        have hd8 : dd < 8 := by omega
        have e0 : IntKind.i64.wrap ((i : Int) + 1) = ((i + 1 : Nat) : Int) := by rw [IntWalk.i64_in _ (by omega)]; omega
        have e1 : bits BinOp.andNot IntKind.u32 (s : Int) (IntKind.u32.wrap ((2 : Int) ^ dd)) = ((minus s (2 ^ dd) : Nat) : Int) := by
          have h2 := pow_lt256 dd hd8
          rw [show (2 : Int) ^ dd = ((2 ^ dd : Nat) : Int) by simp]
          generalize 2 ^ dd = q at h2 ⊢
          rw [IntWalk.u32_in _ (by omega)]
          exact andNot_byte s q hs h2
        have hsm := minus_lt s (2 ^ dd) hs
        obtain ⟨n', D', hM', hMM', hn'⟩ := HXr.out
        have HM' := Aside0.mk hM'
        have HMM' := Aside0.mk hMM'
        have HN' := Aside0.mk hn'
        have hbud : n' + timesT d ≤ 1000000000000000 := by
          have hn2 := HN.out
          simp only [timesT] at hn2
          have hn3 : n' ≤ n + timesT d + 8 * timesT d := Nat.le_trans hn' (Nat.add_le_add_left (Nat.mul_le_mul_right _ (by omega)) _)
          have : (k + 2) * timesT d ≤ 9 * timesT d := Nat.mul_le_mul_right _ (by omega)
          have e : (k + 2) * timesT d = k * timesT d + timesT d + timesT d := by rw [Nat.add_mul]; omega
          omega
        have HBUD := Aside0.mk hbud
        have cc := HWr.out.2.2.1.cell
        clear hM' hMM' hn' HXr hbud hlen HFOLD hh HWF HK HMEM hwc
        generalize hgen : (xs.take k).foldl (fun n c => max n (1 + mostN (l.drop (i + 1)) (minus s (2 ^ c.toNat)))) (mostN (l.drop (i + 1)) s) = r at *
        have HGEN := Aside0.mk hgen
        clear hgen
        go_wp2
        go_region_with (go_at_call 39; refine (HIH.out (i + 1) (minus s (2 ^ dd)) n' D' wr.drew (by omega) hsm HWr.out HM'.out HMM'.out HBUD.out).mono ?_; rintro e W4 ⟨rfl, hg4, hm4⟩; have HG4 := Aside0.mk hg4; have HM4 := Aside0.mk hm4; clear hg4 hm4)
        have hq := mostN_le (l.drop (i + 1)) (minus s (2 ^ dd))
        rw [List.length_drop] at hq
        generalize hqq : mostN (l.drop (i + 1)) (minus s (2 ^ dd)) = q at *
        have HQQ := Aside0.mk hqq
        clear hqq
        go_wp2
        go_roundw
        case measure =>
          clear hq e0 e1 hsm hb2 hne hi hs hnl
          simp only [intOf]
          omega
        case rel =>
          have hG4 : wr.grownBy W4 (some b) := ⟨HG4.out.os, HG4.out.tape, HG4.out.output, HG4.out.size, HG4.out.block⟩
          refine ⟨k + 1, by omega, rfl, ?_, ⟨HWr.out.grown (W' := W4) hG4 hne hnl⟩, ⟨HIr.out.grown hG4 HB0.out⟩, ⟨gb_trans HGr.out hG4 (fun j e => by cases e; exact .inl rfl)⟩, ⟨?_⟩⟩
          · rw [HST.out, List.foldl_append, HGEN.out]
            simp only [List.foldl_cons, List.foldl_nil, Int.toNat_natCast]
            rw [HQQ.out]
            congr 1
            split <;> omega
          · obtain ⟨n2, D2, g1, g2, g3⟩ := HM4.out
            exact ⟨n2, D2, g1, g2, by have := HN'.out; rw [Nat.add_mul, Nat.one_mul]; omega⟩
#print axioms most1_calls
end Go.Proofs.YtlfljoihcjmnkaaDoor.Q
