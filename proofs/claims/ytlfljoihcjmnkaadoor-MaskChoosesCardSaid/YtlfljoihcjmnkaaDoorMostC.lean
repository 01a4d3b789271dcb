/- mask.most by its contract. -/
import Derived.Test.YtlfljoihcjmnkaaDoorMost
namespace Go.Proofs.YtlfljoihcjmnkaaDoor.Q
open Go Go.RowKit Go.Shelf Go.Proofs.YtlfljoihcjmnkaaDoor.Rng Go.Proofs.YtlfljoihcjmnkaaDoorW.PrintWords Go.Proofs.YtlfljoihcjmnkaaDoorW.PrintLast Go.Proofs.YtlfljoihcjmnkaaDoorW.PrintMore
open Go.Maps (Keyed IsMap)
set_option linter.unusedVariables false
set_option linter.unusedSimpArgs false

theorem run_store_func {P : Program} {w : World} {a : Addr} {m : Mode} (f : Fn) (x y : Array Value) : (store a (.func f x y) m).run P w = stored P w a (.func f x y) m := run_store P w a _ m rfl
attribute [local go_sem] run_store_func
def okMost (l0 : List S31) (a1 : Int) : Prop := (∀ x ∈ l0, Wf34 x) ∧ l0.length ≤ 16 ∧ 0 ≤ a1 ∧ a1 < 256
instance (l : List S31) (a : Int) : Decidable (okMost l a) := inferInstanceAs (Decidable (_ ∧ _ ∧ _ ∧ _))
def mask_most.f (l0 : List S31) (a1 : Int) : Option Int := if okMost l0 a1 then some (mostN l0 a1.toNat : Nat) else none

set_option maxRecDepth 100000 in
set_option maxHeartbeats 4000000 in
theorem mask_most.calls (A0 : Option Addr) (c0 : Nat) (l0 : List (S31)) (a1 : Int) (r : Int) (w : World) (hr0 : Kd.C k31 w A0 l0.length l0) (hc0 : l0.length ≤ c0) (hT : TabW w) (h : mask_most.f l0 a1 = some r) :
    Calls Tryd.prog 29 #[.slice A0 l0.length c0, .int .u32 a1] w fun e w' => e = .returned (.int .i64 r) ∧ Below w.heap.size w w' := by
  unfold mask_most.f at h
  by_cases hok : okMost l0 a1
  case neg => rw [if_neg hok] at h; cases h
  rw [if_pos hok] at h
  obtain rfl := Option.some.inj h
  obtain ⟨hwf, hl, h0, h1⟩ := hok
  obtain ⟨s, rfl⟩ : ∃ s : Nat, a1 = s := ⟨a1.toNat, by omega⟩
  clear h
  have hmm := @run_makeMap Tryd.prog
  have HR := Aside0.mk hr0
  have HTW := Aside0.mk hT
  have HWF := Aside0.mk hwf
  clear hr0 hT hwf
  obtain ⟨fv, hfv⟩ : ∃ fv : Value, fv = .func (.func 39) #[] #[.pointer (some ⟨w.heap.size, 0, none⟩), .pointer (some ⟨w.heap.size + 1 + 1, 0, none⟩), .pointer (some ⟨w.heap.size + 1 + 1 + 1, 0, none⟩)] := ⟨_, rfl⟩
  obtain ⟨w1, hw1⟩ : ∃ w1, w.alloc (.cells #[.slice A0 l0.length c0] 22) = w1 := ⟨_, rfl⟩
  have b0 := Boxed.new w 22 (.slice A0 l0.length c0)
  have s1 : w1.heap.size = w.heap.size + 1 := by rw [← hw1]; simp
  rw [hw1] at b0
  have hB1 : Below w.heap.size w w1 := by rw [← hw1]; exact (Below.refl _ w).alloc (Nat.le_refl _) _
  have m1 := World.ownsMap_made (H := Unit) w1 Tryd.prog 62 (plainElem Tryd.prog 3)
  obtain ⟨w2, hw2⟩ : ∃ w2, w1.alloc (.map #[] 0) = w2 := ⟨_, rfl⟩
  rw [hw2] at m1
  have s2 : w2.heap.size = w.heap.size + 2 := by rw [← hw2]; simp [s1]
  have b0' : Boxed w2 w.heap.size 22 (.slice A0 l0.length c0) := by rw [← hw2]; exact b0.alloc _
  have hB2 : Below w.heap.size w w2 := by rw [← hw2]; exact hB1.alloc (by omega) _
  obtain ⟨w3, hw3⟩ : ∃ w3, w2.alloc (.cells #[.map (some (w.heap.size + 1))] 59) = w3 := ⟨_, rfl⟩
  have b1 := Boxed.new w2 59 (.map (some (w.heap.size + 1)))
  rw [hw3] at b1
  have s3 : w3.heap.size = w.heap.size + 3 := by rw [← hw3]; simp [s2]
  have b0'' : Boxed w3 w.heap.size 22 (.slice A0 l0.length c0) := by rw [← hw3]; exact b0'.alloc _
  have m2 := by rw [s1] at m1; exact m1.alloc (.cells #[.map (some (w.heap.size + 1))] 59)
  rw [hw3] at m2
  have hB3 : Below w.heap.size w w3 := by rw [← hw3]; exact hB2.alloc (by omega) _
  obtain ⟨w4, hw4⟩ : ∃ w4, w3.alloc (.cells #[fv] 60) = w4 := ⟨_, rfl⟩
  have b2 := Boxed.new w3 60 fv
  rw [hw4, s3] at b2
  rw [s2] at b1
  have s4 : w4.heap.size = w.heap.size + 4 := by rw [← hw4]; simp [s3]
  have b1' : Boxed w4 (w.heap.size + 2) 59 (.map (some (w.heap.size + 1))) := by rw [← hw4]; exact b1.alloc _
  have b0''' : Boxed w4 w.heap.size 22 (.slice A0 l0.length c0) := by rw [← hw4]; exact b0''.alloc _
  have m3 := m2.alloc (.cells #[fv] 60)
  rw [hw4] at m3
  have hB4 : Below w.heap.size w w4 := by rw [← hw4]; exact hB3.alloc (by omega) _
  have hchain : (((w.alloc (.cells #[.slice A0 l0.length c0] 22)).alloc (.map #[] 0)).alloc (.cells #[.map (some (w.heap.size + 1))] 59)).alloc (.cells #[fv] 60) = w4 := by rw [hw1, hw2, hw3, hw4]
  have HCH := Aside0.mk hchain
  have B0 := Aside0.mk b0'''
  have B1 := Aside0.mk b1'
  have B2 := Aside0.mk b2
  have M3 := Aside0.mk m3
  have HB4 := Aside0.mk hB4
  clear b0 b0' b0'' b0''' b1 b1' b2 m1 m2 m3 hB1 hB2 hB3 hB4 hchain hw1 hw2 hw3 hw4 s1 s2 s3 s4
  have mw : MostW w4 w.heap.size w.heap.size (w.heap.size + 1 + 1) (w.heap.size + 1 + 1 + 1) (w.heap.size + 1) A0 c0 l0 :=
    ⟨B0.out, B1.out, by rw [← hfv]; exact B2.out, (MasksAt.of HR.out).same (W' := w4) (fun k hk => HB4.out.block k hk), HTW.out.step HB4.out⟩
  have mm : w4.ownsMap Tryd.prog 62 (plainElem Tryd.prog 3) (w.heap.size + 1) 0 (.map []) := M3.out
  have mt : 0 + timesT l0.length ≤ 1000000000000000 := by have := timesT_le ⟨l0.length, by omega⟩; simpa using this
  have HCALL := Aside0.mk (most1_calls w.heap.size w.heap.size (w.heap.size + 1 + 1) (w.heap.size + 1 + 1 + 1) (w.heap.size + 1) A0 c0 l0 hl HWF.out ⟨by omega, by omega, by omega, by omega, HTW.out.pos⟩ (Nat.le_refl _) l0.length 0 s 0 (.map []) _ (by omega) (by omega) mw mm (Memo.empty l0) mt)
  have HBB := HB4
  rw [hfv] at HCH
  clear mw mm mt hfv
  have H1 := Aside0.mk h1
  clear h1
  go_enter Tryd.func29, Tryd.ntmps29
  go_wp2_with (go_at_call 39; rw [HCH.out]; refine HCALL.out.mono ?_; rintro e W' ⟨rfl, hg, _⟩)
  go_ret
  refine ⟨by simp, ?_⟩
  have hb := HBB.out
  exact ⟨hg.os.trans hb.os, hg.tape.trans hb.tape, hg.output.trans hb.output, Nat.le_trans hb.size hg.size, fun k hk => (hg.block k (Nat.lt_of_lt_of_le hk hb.size) (fun e => by injection e; omega)).trans (hb.block k hk)⟩
#print axioms mask_most.calls
end Go.Proofs.YtlfljoihcjmnkaaDoor.Q
