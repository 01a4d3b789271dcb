/- math/bits.OnesCount32, of a byte, by hand. -/
import Derived.Test.YtlfljoihcjmnkaaDoorMasks
import Derived.Lib.Tables
namespace Go.Proofs.YtlfljoihcjmnkaaDoor.Q
open Go Go.RowKit Go.Proofs.YtlfljoihcjmnkaaDoorW.PrintWords Go.Proofs.YtlfljoihcjmnkaaDoorW.PrintLast Go.Proofs.YtlfljoihcjmnkaaDoorW.PrintMore
set_option linter.unusedVariables false
set_option linter.unusedSimpArgs false

/-- how many of the eight pCPUs are in a set -/
def ones (s : Nat) : Nat := (List.range 8).countP (fun c => s.testBit c)
def bits_OnesCount32.f (a0 : Int) : Option (Int) := if 0 ≤ a0 ∧ a0 < 256 then some (ones a0.toNat : Int) else none
theorem pop8_ones : ∀ n : Fin 256, Lib.pop8 (n.val : Int) = (ones n.val : Int) := by decide +kernel
theorem ones_le : ∀ n : Fin 256, ones n.val ≤ 8 := by decide +kernel

set_option maxHeartbeats 8000000 in
set_option maxRecDepth 100000 in
theorem bits_OnesCount32.calls (a0 : Int) (r : Int) (w : World) (h : bits_OnesCount32.f a0 = some r) :
    Calls Tryd.prog 33 #[.int .u32 a0] w fun e w' => e = .returned (.int .i64 r) ∧ Drawn0 w w' := by
  unfold bits_OnesCount32.f at h
  split at h
  case isFalse => cases h
  case isTrue hb =>
  obtain rfl := Option.some.inj h
  clear h
  obtain ⟨k, rfl⟩ : ∃ k : Nat, a0 = (k : Int) := ⟨a0.toNat, by omega⟩
  have hk : k < 256 := by omega
  have e0 : Go.bits .and .u32 0 255 = 0 := by decide +kernel
  have e1 : ((k : Int) / 16777216) = 0 := by omega
  have e2 : Go.bits .and .u32 ((k : Int) / 65536) 255 = 0 := by rw [show ((k : Int) / 65536) = 0 by omega]; exact e0
  have e3 : Go.bits .and .u32 ((k : Int) / 256) 255 = 0 := by rw [show ((k : Int) / 256) = 0 by omega]; exact e0
  have e4 : Go.bits .and .u32 (k : Int) 255 = (k : Int) := by
    have h1 : Go.bits .and .u32 (k : Int) 255 = ((k &&& 255 : Nat) : Int) := and_nat k 255 (by omega) (by omega)
    rw [h1, show k &&& 255 = k by rw [Nat.and_two_pow_sub_one_eq_mod k 8]; omega]
  have b1 : 0 ≤ ((k : Int) / 16777216) := by omega
  have c1 : ((k : Int) / 16777216) ≤ 255 := by omega
  have b2 : 0 ≤ Go.bits .and .u32 ((k : Int) / 65536) 255 := by omega
  have c2 : Go.bits .and .u32 ((k : Int) / 65536) 255 ≤ 255 := by omega
  have b3 : 0 ≤ Go.bits .and .u32 ((k : Int) / 256) 255 := by omega
  have c3 : Go.bits .and .u32 ((k : Int) / 256) 255 ≤ 255 := by omega
  have b4 : 0 ≤ Go.bits .and .u32 (k : Int) 255 := by omega
  have c4 : Go.bits .and .u32 (k : Int) 255 ≤ 255 := by omega
  have b5 : 0 ≤ (k : Int) := by omega
  have c5 : (k : Int) ≤ 255 := by omega
  have z0 : Lib.pop8 0 = 0 := by decide +kernel
  have zk : Lib.pop8 (k : Int) = (ones k : Int) := pop8_ones ⟨k, hk⟩
  have zl : ones k ≤ 8 := ones_le ⟨k, hk⟩
  have key : ((Lib.pop8 ((k : Int) / 16777216) + Lib.pop8 (Go.bits .and .u32 ((k : Int) / 65536) 255)) % 256 + Lib.pop8 (Go.bits .and .u32 ((k : Int) / 256) 255)) % 256 = 0 := by rw [e1, e2, e3, z0]; rfl
  have key2 : Lib.pop8 (Go.bits .and .u32 (k : Int) 255) = (ones k : Int) := by rw [e4, zk]
  go_enter Tryd.func33, Tryd.ntmps33
  go_wp2
  generalize hB : (ByteArray.mk (List.toArray _)) = B
  have hB' : B = Lib.pop8tab := by rw [← hB]; kernel_rfl
  clear hB
  subst hB'
  go_region
  go_wp2
  go_ret
  refine ⟨?_, by repeat (first | exact Drawn0.refl _ | apply Drawn0.step)⟩
  simp [e1, e2, e3, e4, z0, zk]
end Go.Proofs.YtlfljoihcjmnkaaDoor.Q
