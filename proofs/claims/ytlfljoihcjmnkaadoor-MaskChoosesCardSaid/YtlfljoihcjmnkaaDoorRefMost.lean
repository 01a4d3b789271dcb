/- mainsheetref07.Most by its contract: arrays of 256 numbers. -/
import Derived.Test.YtlfljoihcjmnkaaDoorRefs
import Derived.Test.YtlfljoihcjmnkaaDoorMostK
import Derived.Test.YtlfljoihcjmnkaaDoorHall
import Derived.Laws.Tables
import Derived.Laws.Rows
namespace Go.Proofs.YtlfljoihcjmnkaaDoor.Q
open Go Go.RowKit Go.Shelf Go.Proofs.YtlfljoihcjmnkaaDoor.Rng Go.Proofs.YtlfljoihcjmnkaaDoorW.PrintWords Go.Proofs.YtlfljoihcjmnkaaDoorW.PrintLast Go.Proofs.YtlfljoihcjmnkaaDoorW.PrintMore
set_option linter.unusedVariables false
set_option linter.unusedSimpArgs false
def zeros256 : Array Value := (List.replicate 256 (Value.int .i64 0)).toArray
theorem zero58 (w : World) : (zeroValue 58).run Tryd.prog w = .ok (.agg zeros256) w := by kernel_rfl
attribute [local go_sem] zero58
/-- a block of numbers -/
def Nums (w : World) (g : Nat) (xs : List Int) : Prop := w.heap[g]? = some (.cells (xs.map (Value.int .i64)).toArray 58 (0, 0))
theorem Nums.cell {w : World} {g : Nat} {xs : List Int} (h : Nums w g xs) (i : Nat) (hi : i < xs.length) : w.cell? ⟨g, i, none⟩ = some (.int .i64 (xs.getD i 0)) := by
  rw [blk_cell h i]; simp [hi]
theorem Nums.frozen {w : World} {g : Nat} {xs : List Int} (h : Nums w g xs) (i : Nat) : w.frozen? ⟨g, i, none⟩ = false := blk_frozen h i
theorem Nums.set {w : World} {g : Nat} {xs : List Int} (h : Nums w g xs) (i : Nat) (b : Int) : Nums (w.setCell ⟨g, i, none⟩ (.int .i64 b)) g (xs.set i b) := by
  have := blk_set h i (.int .i64 b)
  unfold Nums
  rw [this]
  congr 2
  simp [List.map_set]
theorem Nums.far {w : World} {g : Nat} {xs : List Int} (h : Nums w g xs) {p : Addr} (hp : g ≠ p.block) (u : Value) : Nums (w.setCell p u) g xs := blk_far h hp u
theorem Nums.below {w w' : World} {g : Nat} {xs : List Int} (h : Nums w g xs) (hb : Below w.heap.size w w') : Nums w' g xs := (hb.block g (blk_lt h)).trans h
theorem Nums.alloc {w : World} {g : Nat} {xs : List Int} (h : Nums w g xs) (o : Obj) : Nums (w.alloc o) g xs := (Below.heap_alloc w o g (blk_lt h)).trans h

def okRM (l0 : List S31) (a1 : Int) : Prop := (∀ x ∈ l0, Wf34 x) ∧ l0.all okM = true ∧ l0.length ≤ 1000 ∧ 0 ≤ a1 ∧ a1 < 256
instance (l : List S31) (a : Int) : Decidable (okRM l a) := inferInstanceAs (Decidable (_ ∧ _ ∧ _ ∧ _ ∧ _))
def mainsheetref07_Most.f (l0 : List S31) (a1 : Int) : Option Int := if okRM l0 a1 then some ((mostN l0 a1.toNat : Nat) : Int) else none
def table (l : List S31) : List Int := (List.range 256).map fun s => ((mostN l s : Nat) : Int)
/-- what the document's inner loop has by pCPU c -/
def part (h : Nat) (l : List S31) (s : Nat) : Nat → Nat
  | 0 => mostN l s
  | c + 1 => if (h &&& s).testBit c then max (part h l s c) (1 + mostN l (minus s (2 ^ c))) else part h l s c

theorem part_le (h : Nat) (l : List S31) (s c : Nat) : part h l s c ≤ l.length + 1 := by
  induction c with
  | zero => have := mostN_le l s; unfold part; omega
  | succ c ih =>
    unfold part
    split
    · have := mostN_le l (minus s (2 ^ c)); omega
    · exact ih
theorem part_fold (h : Nat) (l : List S31) (s c : Nat) : ∀ c, part h l s c = ((((List.range c).filter fun d => (h &&& s).testBit d).map fun d : Nat => (d : Int)).foldl (fun n d => max n (1 + mostN l (minus s (2 ^ d.toNat)))) (mostN l s)) := by
  intro c
  induction c with
  | zero => rfl
  | succ c ih =>
    rw [List.range_succ, List.filter_append, List.map_append, List.foldl_append, ← ih, part, List.filter_cons]
    by_cases hb : (h &&& s).testBit c = true
    · rw [if_pos hb, if_pos hb]; simp
    · rw [if_neg hb, if_neg hb]; simp
theorem part_8 (m : S31) (l : List S31) (s : Nat) (hs : s < 256) : part (hN m) l s 8 = mostN (m :: l) s := by
  rw [part_fold _ _ _ 0, show mostN (m :: l) s = _ from rfl, mostN]
  by_cases h0 : s = 0
  · subst h0
    rw [if_pos rfl]
    have hz : ((List.range 8).filter fun d => (hN m &&& 0).testBit d) = [] := by rw [List.filter_eq_nil_iff]; intro d _; simp
    rw [hz]
    cases l with
    | nil => rfl
    | cons x l => simp only [List.map_nil, List.foldl_nil, mostN, if_true]
  · rw [if_neg h0, allows_hN m s hs]
    rfl
theorem table_len (l : List S31) : (table l).length = 256 := by simp [table]
theorem table_get (l : List S31) (s : Nat) (hs : s < 256) : (table l).getD s 0 = ((mostN l s : Nat) : Int) := by
  simp [table, List.getD_eq_getElem?_getD, hs]
theorem table_of (l : List S31) (hs : List Int) (h1 : hs.length = 256) (h2 : ∀ j, j < 256 → hs.getD j 0 = ((mostN l j : Nat) : Int)) : hs = table l := by
  apply List.ext_getElem (by rw [h1, table_len])
  intro j h3 h4
  have := h2 j (by omega)
  rw [List.getD_eq_getElem?_getD, List.getElem?_eq_getElem h3] at this
  simp only [Option.getD_some] at this
  rw [this]
  simp [table]
theorem set_get (hs : List Int) (i j : Nat) (v : Int) (hi : i < hs.length) : (hs.set i v).getD j 0 = if i = j then v else hs.getD j 0 := by
  rw [List.getD_eq_getElem?_getD, List.getElem?_set]
  by_cases h : i = j
  · subst h; rw [if_pos rfl, if_pos rfl, if_pos hi]; rfl
  · rw [if_neg h, if_neg h, List.getD_eq_getElem?_getD]
theorem info58 : (Tryd.prog.info? 58).map (·.size) = some 256 := by kernel_rfl
theorem table_nil : table ([] : List S31) = List.replicate 256 0 := by decide +kernel
theorem sub_minus : ∀ c : Fin 8, ∀ s : Fin 256, s.val.testBit c.val = true → 2 ^ c.val ≤ s.val ∧ s.val - 2 ^ c.val = minus s.val (2 ^ c.val) := by decide +kernel
theorem bit_all : ∀ c : Fin 8, mainsheetref07_bit.f 20 (c.val : Int) = some ((2 ^ c.val : Nat) : Int) := by decide +kernel

set_option maxRecDepth 100000 in
set_option maxHeartbeats 4000000 in
theorem mainsheetref07_Most.calls (A0 : Option Addr) (c0 : Nat) (l0 : List (S31)) (a1 : Int) (r : Int) (w : World) (hr0 : Kd.C k31 w A0 l0.length l0) (hc0 : l0.length ≤ c0) (h : mainsheetref07_Most.f l0 a1 = some r) :
    Calls Tryd.prog 26 #[.slice A0 l0.length c0, .int .u32 a1] w fun e w' => e = .returned (.int .i64 r) ∧ Below w.heap.size w w' := by
  unfold mainsheetref07_Most.f at h
  by_cases hok : okRM l0 a1
  case neg => rw [if_neg hok] at h; cases h
  rw [if_pos hok] at h
  obtain rfl := Option.some.inj h
  clear h
  obtain ⟨s, rfl⟩ : ∃ n : Nat, a1 = n := ⟨a1.toNat, by have := hok.2.2.2.1; omega⟩
  have hs : s < 256 := by have := hok.2.2.2.2; omega
  have hln := hok.2.2.1
  have HOK := Aside0.mk hok
  have HR := Aside0.mk hr0
  have hu31 := Tryd.underlying31
  clear hok hr0
  go_enter Tryd.func26, Tryd.ntmps26
  go_wp2
  have hba := heap_alloc_new w (.cells zeros256 58)
  have HN0 := Aside0.mk (show Nums (w.alloc (.cells zeros256 58)) w.heap.size (table []) from by unfold Nums; rw [hba, table_nil]; rfl)
  have HB0 := Aside0.mk ((Below.refl w.heap.size w).alloc (Nat.le_refl _) (.cells zeros256 58))
  have HS0 := Aside0.mk (show w.heap.size < (w.alloc (.cells zeros256 58)).heap.size from by simp)
  clear hba
  go_loopw [6] (fun v wx => ∃ g : Nat, g ≤ l0.length ∧ v = .int .i64 ((g : Int) - 1) ∧ Aside0 (Nums wx w.heap.size (table (l0.drop g))) ∧ Aside0 (Below w.heap.size w wx) ∧ Aside0 (w.heap.size < wx.heap.size))
    (fun v _ => (intOf v + 1).toNat)
  case atStart => exact ⟨l0.length, Nat.le_refl _, by simp, by rw [List.drop_length]; exact HN0, HB0, HS0⟩
  case round =>
    obtain ⟨g, hg, rfl, HN, HB, HS⟩ := hrel
    clear HN0 HB0 HS0
    cases g with
    | zero =>
      rw [List.drop_zero] at HN
      have hcell := HN.out.cell s (by rw [table_len]; exact hs)
      rw [table_get _ _ hs] at hcell
      go_wp2
      go_ret
      exact ⟨by simp, HB.out⟩
    | succ g =>
      have e : ((g + 1 : Nat) : Int) - 1 = (g : Int) := by omega
      rw [e]
      have hgl : g < l0.length := by omega
      obtain ⟨ad, e1, hx0, hx1⟩ := at_T31 HR.out (g : Int) (by omega) (by omega)
      subst e1
      rw [Int.toNat_natCast] at hx0 hx1
      have hmm := rdM_mem l0 g hgl
      have hwx := HOK.out.1 _ hmm
      have hokx : okM (rd_T31 l0 (g : Int)) = true := by have := HOK.out.2.1; rw [List.all_eq_true] at this; exact this _ hmm
      have hdrop : l0.drop g = rd_T31 l0 g :: l0.drop (g + 1) := by
        rw [List.drop_eq_getElem_cons hgl]; simp [rd_T31, hgl]
      generalize rd_T31 l0 (g : Int) = x at *
      obtain ⟨mh, ms⟩ := x
      obtain ⟨hw1, hw2, hw3, hw4⟩ := hwx
      simp only at hx0 hx1 hw1 hw2 hw3 hw4
      obtain ⟨mh, rfl⟩ : ∃ m : Nat, mh = m := ⟨mh.toNat, by omega⟩
      obtain ⟨ms, rfl⟩ : ∃ m : Nat, ms = m := ⟨ms.toNat, by omega⟩
      have hhn : hN ⟨(mh : Int), (ms : Int)⟩ = mh := by unfold hN; unfold okM at hokx; rw [hokx]; rfl
      have HDROP := Aside0.mk hdrop
      have HAL := Aside0.mk (fun (t : Nat) (ht : t < 256) => MAllows_val mh ms t (by omega) (by omega))
      have HHN := Aside0.mk hhn
      have HX := Aside0.mk (fun (W : World) (hb : Below w.heap.size w W) => And.intro ((World.cell?_of_block (w := w) (hb.block _ (World.block_lt_of_cell? w _ hx0))).trans hx0) ((World.cell?_of_block (w := w) (hb.block _ (World.block_lt_of_cell? w _ hx1))).trans hx1))
      clear hmm hokx hdrop hw1 hw2 hw3 hw4 hhn
      generalize hy : l0.drop (g + 1) = y at *
      have hyl : y.length ≤ 1000 := by rw [← hy, List.length_drop]; omega
      clear hy
      have hba := heap_alloc_new wr (.cells zeros256 58)
      have HH0 := Aside0.mk (show Nums (wr.alloc (.cells zeros256 58)) wr.heap.size (List.replicate 256 0) from by unfold Nums; rw [hba]; rfl)
      have HN1 := Aside0.mk (HN.out.alloc (.cells zeros256 58))
      have HB1 := Aside0.mk (HB.out.alloc (Nat.le_of_lt HS.out) (.cells zeros256 58))
      have HS1 := Aside0.mk (show wr.heap.size < (wr.alloc (.cells zeros256 58)).heap.size from by simp)
      have hsz := HS.out
      go_wp2
      clear hba hx0 hx1 HN HB HS
      generalize wr.heap.size = nb at HH0 HS1 hsz ⊢
      go_loopw [8] (fun v wy => ∃ (t : Nat) (hs : List Int), t ≤ 256 ∧ v = .int .i64 t ∧ hs.length = 256 ∧ Aside0 (∀ j, j < t → hs.getD j 0 = ((mostN (l0.drop g) j : Nat) : Int)) ∧ Aside0 (Nums wy w.heap.size (table y)) ∧ Aside0 (Nums wy nb hs) ∧ Aside0 (Below w.heap.size w wy) ∧ Aside0 (nb < wy.heap.size))
        (fun v _ => 256 - (intOf v).toNat)
      case atStart => exact ⟨0, List.replicate 256 0, by omega, rfl, List.length_replicate, ⟨fun j hj => by omega⟩, HN1, HH0, HB1, HS1⟩
      case round =>
        obtain ⟨t, hs, ht, rfl, hsl, HP, HN, HH, HB, HS⟩ := hrel
        clear HN1 HH0 HB1 HS1
        have hne : w.heap.size ≠ nb := by omega
        by_cases hlt : t < 256
        case neg =>
          obtain rfl : t = 256 := by omega
          have htb := table_of (l0.drop g) hs hsl HP.out
          subst htb
          have hsize : (Tryd.prog.info? 58).map (·.size) = some (((table (l0.drop g)).map (Value.int .i64)).toArray).size := by rw [info58]; simp [table_len]
          have hall : (((table (l0.drop g)).map (Value.int .i64)).toArray).all (·.oneCell') = true := by simp [Value.oneCell']
          have hold : (((table y).map (Value.int .i64)).toArray).size = (((table (l0.drop g)).map (Value.int .i64)).toArray).size := by simp [table_len]
          have HSZ := Aside0.mk (And.intro hsize (And.intro hall hold))
          clear hsize hall hold
          go_wp2_with (first
            | (refine wpList_load_row rfl 58 _ rfl nb rfl 58 _ (0, 0) _ HH.out Tryd.underlying58 rfl HSZ.out.1 ?_)
            | (refine wpList_store_row rfl 58 _ _ rfl w.heap.size _ rfl rfl 58 _ HN.out HSZ.out.1 HSZ.out.2.2 HSZ.out.2.1 ?_))
          go_roundw
          case measure => simp only [intOf]; omega
          case rel =>
            have hb : Below w.heap.size w (wr.setRow w.heap.size (((table (l0.drop g)).map (Value.int .i64)).toArray)) :=
              ⟨HB.out.os, HB.out.tape, HB.out.output, by rw [setRow_size]; exact HB.out.size, fun k hk => (setRow_other _ _ _ _ (by omega)).trans (HB.out.block k hk)⟩
            have hs2 := HS.out
            exact ⟨g, by omega, by simp, ⟨setRow_heap _ _ _ _ _ _ HN.out⟩, ⟨hb⟩, ⟨by rw [setRow_size]; omega⟩⟩
        case pos =>
          have hNt := HN.out.cell t (by rw [table_len]; omega)
          rw [table_get _ _ (by omega)] at hNt
          have hHt := HH.out.cell t (by omega)
          have hHf := HH.out.frozen t
          have hdt : decide ((t : Int) < 256) = true := decide_eq_true (by omega)
          have HP0 := Aside0.mk (show (∀ j, j < t → (hs.set t ((mostN y t : Nat) : Int)).getD j 0 = ((mostN (l0.drop g) j : Nat) : Int)) ∧ (hs.set t ((mostN y t : Nat) : Int)).getD t 0 = ((part mh y t 0 : Nat) : Int) from
            ⟨fun j hj => by rw [set_get _ _ _ _ (by omega), if_neg (by omega)]; exact HP.out j hj, by rw [set_get _ _ _ _ (by omega), if_pos rfl]; rfl⟩)
          have HH0 := Aside0.mk (HH.out.set t ((mostN y t : Nat) : Int))
          have HN0 := Aside0.mk (HN.out.far (p := ⟨nb, t, none⟩) hne (.int .i64 ((mostN y t : Nat) : Int)))
          have HB0 := Aside0.mk (HB.out.setCell (p := ⟨nb, t, none⟩) (Nat.le_of_lt hsz) (.int .i64 ((mostN y t : Nat) : Int)))
          have HS0 := Aside0.mk (show nb < (wr.setCell ⟨nb, t, none⟩ (.int .i64 ((mostN y t : Nat) : Int))).heap.size from by simpa [World.setCell] using HS.out)
          have hsl0 : (hs.set t ((mostN y t : Nat) : Int)).length = 256 := by simpa using hsl
          go_wp2
          clear hNt hHt hHf HH HN HB HS HP
          go_loopw [9] (fun v wz => ∃ (c : Nat) (ns : List Int), c ≤ 8 ∧ v = .int .i64 c ∧ ns.length = 256 ∧ Aside0 ((∀ j, j < t → ns.getD j 0 = ((mostN (l0.drop g) j : Nat) : Int)) ∧ ns.getD t 0 = ((part mh y t c : Nat) : Int)) ∧ Aside0 (Nums wz w.heap.size (table y)) ∧ Aside0 (Nums wz nb ns) ∧ Aside0 (Below w.heap.size w wz) ∧ Aside0 (nb < wz.heap.size))
            (fun v _ => 8 - (intOf v).toNat)
          case atStart => exact ⟨0, _, by omega, rfl, hsl0, HP0, HN0, HH0, HB0, HS0⟩
          case round =>
            obtain ⟨c, ns, hc, rfl, hnl, HP, HN, HH, HB, HS⟩ := hrel
            clear HP0 HN0 HH0 HB0 HS0 hsl0
            by_cases hc8 : c < 8
            case neg =>
              obtain rfl : c = 8 := by omega
              go_wp2
              go_roundw
              case measure => simp only [intOf]; omega
              case rel =>
                refine ⟨t + 1, ns, by omega, by simp, hnl, ⟨fun j hj => ?_⟩, HN, HH, HB, HS⟩
                rcases Nat.lt_or_ge j t with h | h
                · exact HP.out.1 j h
                · obtain rfl : j = t := by omega
                  rw [HP.out.2, HDROP.out, ← part_8 _ _ _ (by omega), HHN.out]
            case pos =>
              obtain ⟨hx0, hx1⟩ := HX.out wr HB.out
              have hal := HAL.out t hlt
              have hlt2 := and_lt256' mh t hlt
              have hha := RHas_val (mh &&& t) (by omega) (c : Int)
              have hhv : hasN (mh &&& t) (c : Int) = (mh &&& t).testBit c := by
                unfold hasN
                have : (c : Int) < 8 := by omega
                simp [this]
              rw [hhv] at hha
              have HAL2 := Aside0.mk hal
              have hpart : part mh y t (c + 1) = if (mh &&& t).testBit c then max (part mh y t c) (1 + mostN y (minus t (2 ^ c))) else part mh y t c := rfl
              have hcnv : IntKind.u32.wrap (t : Int) = (t : Int) := IntWalk.u32_in _ (by omega)
              cases hb : (mh &&& t).testBit c with
              | false =>
                rw [hb] at hha hpart
                have HHA := Aside0.mk hha
                have HPT := Aside0.mk hpart
                clear hha hpart hal hb hhv
                go_wp2_with (first
                  | (go_at_call 18; refine (mainsheetref07_Allows.calls mh ms t _ _ HAL2.out).mono ?_; rintro e w5 ⟨rfl, hb5⟩; have HB5 := Aside0.mk hb5; clear hb5)
                  | (go_at_call 20; refine (mainsheetref04_Has.calls (mh &&& t : Nat) c false _ HHA.out).mono ?_; rintro e w6 ⟨rfl, ⟨nd, rfl⟩⟩))
                go_roundw
                case measure => simp only [intOf]; omega
                case rel =>
                  refine ⟨c + 1, ns, by omega, by simp, hnl, ⟨HP.out.1, ?_⟩, ⟨blk_at rfl (HN.out.below HB5.out)⟩, ⟨blk_at rfl (HH.out.below HB5.out)⟩, ⟨below_at rfl (HB.out.trans (HB5.out.mono HB.out.size))⟩, ⟨?_⟩⟩
                  · rw [HP.out.2, HPT.out]; rfl
                  · have h1 := HB5.out.size; have h2 := HS.out
                    have h3 : (w5.drewN nd).heap.size = w5.heap.size := by simp
                    omega
              | true =>
                rw [hb, if_pos rfl] at hpart
                rw [hb] at hha
                have htb : t.testBit c = true := by rw [Nat.testBit_and, Bool.and_eq_true] at hb; exact hb.2
                obtain ⟨hs1, hs2⟩ := sub_minus ⟨c, hc8⟩ ⟨t, hlt⟩ htb
                simp only at hs1 hs2
                have hbt := bit_all ⟨c, hc8⟩
                simp only at hbt
                have hqlt := minus_lt t (2 ^ c) hlt
                have hmq := mostN_le y (minus t (2 ^ c))
                have hpq := part_le mh y t c
                generalize hpc : 2 ^ c = pc at *
                generalize hqq : minus t pc = q at *
                have hsub : (t : Int) - (pc : Int) = (q : Int) := by omega
                have hHt := HP.out.2
                have hpv := HP.out.1
                generalize hmv : mostN y q = mv at *
                generalize hpv2 : part mh y t c = pv at *
                have HMV := Aside0.mk hmv
                have HHA := Aside0.mk hha
                have HPT := Aside0.mk hpart
                have HBT := Aside0.mk hbt
                have HTV := Aside0.mk hHt
                have HPV := Aside0.mk hpv
                have hm1 : mv ≤ 1000 := by omega
                have hp1 : pv ≤ 1001 := by omega
                clear hha hpart hbt hb hhv htb hs1 hs2 hpc hqq hmv hpv2 hHt hpv hmq hpq HP
                by_cases hgt : pv < 1 + mv
                · have hgt' : (pv : Int) < 1 + (mv : Int) := by omega
                  have hmax : max pv (1 + mv) = 1 + mv := by omega
                  rw [hmax] at HPT
                  clear hmax hgt
                  go_wp2_with (first
                    | (go_at_call 18; refine (mainsheetref07_Allows.calls mh ms t _ _ HAL2.out).mono ?_; rintro e w5 ⟨rfl, hb5⟩; have HB5 := Aside0.mk hb5; have hNq := (HN.out.below hb5).cell q (by rw [table_len]; omega); rw [table_get _ _ hqlt, HMV.out] at hNq; have hHt := (HH.out.below hb5).cell t (by omega); rw [HTV.out] at hHt; have hHf := (HH.out.below hb5).frozen t; clear hb5)
                    | (go_at_call 20; refine (mainsheetref04_Has.calls (mh &&& t : Nat) c true _ HHA.out).mono ?_; rintro e w6 ⟨rfl, ⟨nd, rfl⟩⟩)
                    | (go_at_call 38; refine (mainsheetref07_bit.calls 20 c pc _ HBT.out).mono ?_; rintro e w7 ⟨rfl, ⟨nd2, rfl⟩⟩))
                  go_roundw
                  case measure => simp only [intOf]; omega
                  case rel =>
                    generalize hw8 : w5.drewN (nd + nd2) = w8
                    have hn8 : Nums w8 w.heap.size (table y) := blk_at hw8 (HN.out.below HB5.out)
                    have hh8 : Nums w8 nb ns := blk_at hw8 (HH.out.below HB5.out)
                    have hb8 : Below w.heap.size w w8 := below_at hw8 (HB.out.trans (HB5.out.mono HB.out.size))
                    have hs8 : nb < w8.heap.size := blk_lt hh8
                    refine ⟨c + 1, ns.set t (1 + (mv : Int)), by omega, by simp, by simpa using hnl, ⟨fun j hj => ?_, ?_⟩, ⟨hn8.far (p := ⟨nb, t, none⟩) hne _⟩, ⟨hh8.set t _⟩, ⟨hb8.setCell (p := ⟨nb, t, none⟩) (Nat.le_of_lt hsz) _⟩, ⟨by simpa [World.setCell] using hs8⟩⟩
                    · rw [set_get _ _ _ _ (by omega), if_neg (by omega)]; exact HPV.out j hj
                    · rw [set_get _ _ _ _ (by omega), if_pos rfl, HPT.out]; omega
                · have hgt' : ¬ ((pv : Int) < 1 + (mv : Int)) := by omega
                  have hmax : max pv (1 + mv) = pv := by omega
                  rw [hmax] at HPT
                  clear hmax hgt
                  go_wp2_with (first
                    | (go_at_call 18; refine (mainsheetref07_Allows.calls mh ms t _ _ HAL2.out).mono ?_; rintro e w5 ⟨rfl, hb5⟩; have HB5 := Aside0.mk hb5; have hNq := (HN.out.below hb5).cell q (by rw [table_len]; omega); rw [table_get _ _ hqlt, HMV.out] at hNq; have hHt := (HH.out.below hb5).cell t (by omega); rw [HTV.out] at hHt; have hHf := (HH.out.below hb5).frozen t; clear hb5)
                    | (go_at_call 20; refine (mainsheetref04_Has.calls (mh &&& t : Nat) c true _ HHA.out).mono ?_; rintro e w6 ⟨rfl, ⟨nd, rfl⟩⟩)
                    | (go_at_call 38; refine (mainsheetref07_bit.calls 20 c pc _ HBT.out).mono ?_; rintro e w7 ⟨rfl, ⟨nd2, rfl⟩⟩))
                  go_roundw
                  case measure => simp only [intOf]; omega
                  case rel =>
                    generalize hw8 : w5.drewN (nd + nd2) = w8
                    have hn8 : Nums w8 w.heap.size (table y) := blk_at hw8 (HN.out.below HB5.out)
                    have hh8 : Nums w8 nb ns := blk_at hw8 (HH.out.below HB5.out)
                    have hb8 : Below w.heap.size w w8 := below_at hw8 (HB.out.trans (HB5.out.mono HB.out.size))
                    exact ⟨c + 1, ns, by omega, by simp, hnl, ⟨HPV.out, by rw [HTV.out, HPT.out]⟩, ⟨hn8⟩, ⟨hh8⟩, ⟨hb8⟩, ⟨blk_lt hh8⟩⟩
#print axioms mainsheetref07_Most.calls
end Go.Proofs.YtlfljoihcjmnkaaDoor.Q
