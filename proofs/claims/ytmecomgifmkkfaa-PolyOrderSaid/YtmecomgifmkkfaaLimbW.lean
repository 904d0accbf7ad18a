/- The call that each statement of the first layer ends with answers true; and 'Mod' by 0. -/
import Derived.Test.YtmecomgifmkkfaaProg
import Derived.Test.YtmecomgifmkkfaaNum
import Derived.Test.YtmecomgifmkkfaaShelf
import Derived.Test.YtmecomgifmkkfaaLimbA
import Derived.Test.YtmecomgifmkkfaaEqs
import Derived.WalkSpells
import Derived.WalkLawsBesides
import Derived.Handy
import Derived.Lib.Hide
import Derived.RegionTactic
import Derived.ChangeAlike
import Derived.BigRegion
import Derived.BigQuiet
import Derived.Test.YtmecomgifmkkfaaLimbG
import Derived.Test.YtmecomgifmkkfaaLimbN
import Derived.Deep.Cut
namespace Go.Proofs.Ytmecomgifmkkfaa
set_option linter.unusedVariables false
set_option linter.unusedSimpArgs false
open Go.RowKit

set_option maxHeartbeats 400000 in
theorem mod_zero (hi lo : Nat) (w : World) :
    Calls Try.prog 25 #[numV hi, numV lo, numV 0] w fun e w' => e = .returned (.tuple #[numV 0, .int .i64 1]) ∧ Below w.heap.size w w' := by
  have hE := fun w => eq_digits 0 0 0 0 0 0 0 0 w
  have hg := eqGuard_num
  rw [numV_eq hi, numV_eq lo, show numV 0 = .agg #[.int .u64 0, .int .u64 0, .int .u64 0, .int .u64 0] from rfl]
  go_enter Try.func25, Try.ntmps25
  go_wp2
  refine bodyPost_ret (v := .tuple #[.agg #[.int .u64 0, .int .u64 0, .int .u64 0, .int .u64 0], .int .i64 1]) (by simp [results, Try.results25, go_sem]) rfl ⟨rfl, ?_⟩
  repeat first | exact Below.refl _ _ | refine Below.drew ?_ | (refine Below.setCell ?_ (by (try simp) <;> omega) _) | (refine Below.alloc ?_ (by (try simp) <;> omega) _)

set_option maxHeartbeats 400000 in
theorem wakes1_calls (w : World) :
    Calls Try.prog 26 #[] w fun e w' => e = .returned (.bool true) ∧ Below w.heap.size w w' := by
  have hE := eq_digits
  have hg := eqGuard_num
  have C1 := Lib.hid (fun w => mul_calls 57896044618658097711785492504343953926634992332820282019728792003956564819968 2 (by decide) (by decide) w)
  rw [show numV 57896044618658097711785492504343953926634992332820282019728792003956564819968 = .agg #[.int .u64 0, .int .u64 0, .int .u64 0, .int .u64 9223372036854775808] from by kernel_rfl, show numV 2 = .agg #[.int .u64 2, .int .u64 0, .int .u64 0, .int .u64 0] from by kernel_rfl, show numV (57896044618658097711785492504343953926634992332820282019728792003956564819968 * 2 % W256) = .agg #[.int .u64 0, .int .u64 0, .int .u64 0, .int .u64 0] from by kernel_rfl, show numV (57896044618658097711785492504343953926634992332820282019728792003956564819968 * 2 / W256) = .agg #[.int .u64 1, .int .u64 0, .int .u64 0, .int .u64 0] from by kernel_rfl] at C1
  have C2 := Lib.hid (fun w => mod_calls 1 0 3 (by decide) (by decide) (by decide) (by decide) w)
  rw [show numV 1 = .agg #[.int .u64 1, .int .u64 0, .int .u64 0, .int .u64 0] from by kernel_rfl, show numV 0 = .agg #[.int .u64 0, .int .u64 0, .int .u64 0, .int .u64 0] from by kernel_rfl, show numV 3 = .agg #[.int .u64 3, .int .u64 0, .int .u64 0, .int .u64 0] from by kernel_rfl, show numV ((1 * W256 + 0) % 3) = .agg #[.int .u64 1, .int .u64 0, .int .u64 0, .int .u64 0] from by kernel_rfl] at C2
  go_enter Try.func26, Try.ntmps26
  go_wp2_with fail
  refine (C1.out _).mono ?_
  rintro e w1 ⟨rfl, hB1⟩
  go_wp2_with fail
  refine (C2.out _).mono ?_
  rintro e w2 ⟨rfl, hB2⟩
  obtain ⟨hc2, hf2⟩ := bcell hB2
  have hs2 := hB2.size
  have z1 : w1.heap.size < w2.heap.size := by simp at hs2; omega
  have z2 : w1.heap.size + 1 < w2.heap.size := by simp at hs2; omega
  go_wp2
  go_ret
  refine ⟨rfl, ?_⟩
  have hs1 := hB1.size
  simp at hs1 hs2
  refine Below.alloc (Below.trans (Below.alloc (Below.alloc hB1 (by omega) _) (by simp; omega) _) (hB2.mono (by simp; omega))) (by omega) _

end Go.Proofs.Ytmecomgifmkkfaa
