/- Comparisons and bits of numbers of 256 bits, by the program and by the page: what each call answers. -/
/- Small facts for the statements' walks. -/
import Derived.Test.YtmecomgifmkkfaaProg
import Derived.Test.YtmecomgifmkkfaaNum
import Derived.Test.YtmecomgifmkkfaaShelf
import Derived.Test.YtmecomgifmkkfaaLimbA
import Derived.Test.YtmecomgifmkkfaaEqs
import Derived.WalkSpells
import Derived.WalkLawsBesides
import Derived.Handy
import Derived.Lib.Hide
import Derived.RegionTactic
import Derived.ChangeAlike
import Derived.BigRegion
import Derived.BigQuiet
namespace Go.Proofs.Ytmecomgifmkkfaa
set_option linter.unusedVariables false
set_option linter.unusedSimpArgs false
open Go.RowKit

/-- -1, 0 or 1: how two numbers stand to one another. -/
def cmpI (a b : Nat) : Int := if a < b then -1 else if b < a then 1 else 0

set_option maxHeartbeats 1000000 in
theorem cmp_digits (a0 a1 a2 a3 b0 b1 b2 b3 : Nat) (w : World) :
    Calls Try.prog 28 #[.agg #[.int .u64 (a0 : Int), .int .u64 (a1 : Int), .int .u64 (a2 : Int), .int .u64 (a3 : Int)], .agg #[.int .u64 (b0 : Int), .int .u64 (b1 : Int), .int .u64 (b2 : Int), .int .u64 (b3 : Int)]] w
      fun e w' => e = .returned (.int .i64 (if a3 < b3 then -1 else if b3 < a3 then 1 else if a2 < b2 then -1 else if b2 < a2 then 1 else if a1 < b1 then -1 else if b1 < a1 then 1 else if a0 < b0 then -1 else if b0 < a0 then 1 else 0)) ∧ Below w.heap.size w w' := by
  go_enter Try.func28, Try.ntmps28
  go_wp2
  refine wp_loop_rounds 5 ?_
  rw [rounds_succ]
  go_wp2
  go_region
  all_goals go_wp2
  · go_ret
    refine ⟨ret_int (by (repeat first | rw [if_pos (by assumption)] | rw [if_neg (by assumption)]); all_goals rfl), ?_⟩
    repeat first | exact Below.refl _ _ | refine Below.drew ?_ | (refine Below.setCell ?_ (by (try simp) <;> omega) _) | (refine Below.alloc ?_ (by (try simp) <;> omega) _)
  go_region
  all_goals go_wp2
  · go_ret
    refine ⟨ret_int (by (repeat first | rw [if_pos (by assumption)] | rw [if_neg (by assumption)]); all_goals rfl), ?_⟩
    repeat first | exact Below.refl _ _ | refine Below.drew ?_ | (refine Below.setCell ?_ (by (try simp) <;> omega) _) | (refine Below.alloc ?_ (by (try simp) <;> omega) _)
  rw [rounds_succ]
  go_wp2
  go_region
  all_goals go_wp2
  · go_ret
    refine ⟨ret_int (by (repeat first | rw [if_pos (by assumption)] | rw [if_neg (by assumption)]); all_goals rfl), ?_⟩
    repeat first | exact Below.refl _ _ | refine Below.drew ?_ | (refine Below.setCell ?_ (by (try simp) <;> omega) _) | (refine Below.alloc ?_ (by (try simp) <;> omega) _)
  go_region
  all_goals go_wp2
  · go_ret
    refine ⟨ret_int (by (repeat first | rw [if_pos (by assumption)] | rw [if_neg (by assumption)]); all_goals rfl), ?_⟩
    repeat first | exact Below.refl _ _ | refine Below.drew ?_ | (refine Below.setCell ?_ (by (try simp) <;> omega) _) | (refine Below.alloc ?_ (by (try simp) <;> omega) _)
  rw [rounds_succ]
  go_wp2
  go_region
  all_goals go_wp2
  · go_ret
    refine ⟨ret_int (by (repeat first | rw [if_pos (by assumption)] | rw [if_neg (by assumption)]); all_goals rfl), ?_⟩
    repeat first | exact Below.refl _ _ | refine Below.drew ?_ | (refine Below.setCell ?_ (by (try simp) <;> omega) _) | (refine Below.alloc ?_ (by (try simp) <;> omega) _)
  go_region
  all_goals go_wp2
  · go_ret
    refine ⟨ret_int (by (repeat first | rw [if_pos (by assumption)] | rw [if_neg (by assumption)]); all_goals rfl), ?_⟩
    repeat first | exact Below.refl _ _ | refine Below.drew ?_ | (refine Below.setCell ?_ (by (try simp) <;> omega) _) | (refine Below.alloc ?_ (by (try simp) <;> omega) _)
  rw [rounds_succ]
  go_wp2
  go_region
  all_goals go_wp2
  · go_ret
    refine ⟨ret_int (by (repeat first | rw [if_pos (by assumption)] | rw [if_neg (by assumption)]); all_goals rfl), ?_⟩
    repeat first | exact Below.refl _ _ | refine Below.drew ?_ | (refine Below.setCell ?_ (by (try simp) <;> omega) _) | (refine Below.alloc ?_ (by (try simp) <;> omega) _)
  go_region
  all_goals go_wp2
  · go_ret
    refine ⟨ret_int (by (repeat first | rw [if_pos (by assumption)] | rw [if_neg (by assumption)]); all_goals rfl), ?_⟩
    repeat first | exact Below.refl _ _ | refine Below.drew ?_ | (refine Below.setCell ?_ (by (try simp) <;> omega) _) | (refine Below.alloc ?_ (by (try simp) <;> omega) _)
  rw [rounds_succ]
  go_wp2
  go_ret
  refine ⟨ret_int (by (repeat first | rw [if_pos (by assumption)] | rw [if_neg (by assumption)]); all_goals rfl), ?_⟩
  repeat first | exact Below.refl _ _ | refine Below.drew ?_ | (refine Below.setCell ?_ (by (try simp) <;> omega) _) | (refine Below.alloc ?_ (by (try simp) <;> omega) _)

theorem cmp_calls (a b : Nat) (ha : a < W256) (hb : b < W256) (w : World) :
    Calls Try.prog 28 #[numV a, numV b] w fun e w' => e = .returned (.int .i64 (cmpI a b)) ∧ Below w.heap.size w w' := by
  refine (cmp_digits (dg a 0) (dg a 1) (dg a 2) (dg a 3) (dg b 0) (dg b 1) (dg b 2) (dg b 3) w).mono fun e w' ⟨he, hB⟩ => ⟨?_, hB⟩
  rw [he]
  have a0 := dg_lt a 0; have a1 := dg_lt a 1; have a2 := dg_lt a 2; have a3 := dg_lt a 3
  have b0 := dg_lt b 0; have b1 := dg_lt b 1; have b2 := dg_lt b 2; have b3 := dg_lt b 3
  have va := val_dg a ha
  have vb := val_dg b hb
  congr 2
  clear he hB ha hb
  unfold cmpI
  repeat' split
  all_goals omega

set_option maxHeartbeats 1000000 in
theorem rcmp_calls (a b : Nat) (ha : a < W256) (hb : b < W256) (w : World) :
    Calls Try.prog 35 #[numV a, numV b] w fun e w' => e = .returned (.int .i64 (cmpI a b)) ∧ Below w.heap.size w w' := by
  have hN := numV_eq
  have hE := fun w => eq_num ha hb w
  have hg := eqGuard_num
  have c1 := Lib.hid (rsub_calls a b ha hb)
  clear ha hb
  go_enter Try.func35, Try.ntmps35
  go_wp2_with fail
  · go_ret
    refine ⟨ret_int (by unfold cmpI; (repeat first | rw [if_neg (by omega)]); all_goals rfl), ?_⟩
    repeat first | exact Below.refl _ _ | refine Below.drew ?_ | (refine Below.setCell ?_ (by (try simp) <;> omega) _) | (refine Below.alloc ?_ (by (try simp) <;> omega) _)
  · refine (c1.out _).mono ?_
    rintro e w1 ⟨rfl, hB⟩
    by_cases hlt : a < b
    · rw [if_pos hlt]
      go_wp2
      go_ret
      refine ⟨ret_int (by unfold cmpI; (repeat first | rw [if_pos (by omega)] | rw [if_neg (by omega)]); all_goals rfl), ?_⟩
      refine Below.trans (b := w1) (Below.trans ?_ (hB.mono (by (try simp) <;> omega))) ?_
      · repeat first | exact Below.refl _ _ | refine Below.drew ?_ | (refine Below.setCell ?_ (by (try simp) <;> omega) _) | (refine Below.alloc ?_ (by (try simp) <;> omega) _)
      · have hs := hB.size
        simp at hs
        repeat first | exact Below.refl _ _ | refine Below.drew ?_ | (refine Below.setCell ?_ (by (try simp) <;> omega) _) | (refine Below.alloc ?_ (by (try simp) <;> omega) _)
    · rw [if_neg hlt]
      go_wp2
      go_ret
      refine ⟨ret_int (by unfold cmpI; (repeat first | rw [if_pos (by omega)] | rw [if_neg (by omega)]); all_goals rfl), ?_⟩
      refine Below.trans (b := w1) (Below.trans ?_ (hB.mono (by (try simp) <;> omega))) ?_
      · repeat first | exact Below.refl _ _ | refine Below.drew ?_ | (refine Below.setCell ?_ (by (try simp) <;> omega) _) | (refine Below.alloc ?_ (by (try simp) <;> omega) _)
      · have hs := hB.size
        simp at hs
        repeat first | exact Below.refl _ _ | refine Below.drew ?_ | (refine Below.setCell ?_ (by (try simp) <;> omega) _) | (refine Below.alloc ?_ (by (try simp) <;> omega) _)

end Go.Proofs.Ytmecomgifmkkfaa

namespace Go.Proofs.Ytmecomgifmkkfaa
set_option linter.unusedVariables false
set_option linter.unusedSimpArgs false

theorem cmpI_lt {a b : Nat} (h : a < b) : cmpI a b = -1 := by unfold cmpI; rw [if_pos h]
theorem cmpI_gt {a b : Nat} (h : b < a) : cmpI a b = 1 := by unfold cmpI; rw [if_neg (by omega), if_pos h]
theorem cmpI_eq (a : Nat) : cmpI a a = 0 := by unfold cmpI; rw [if_neg (by omega), if_neg (by omega)]
theorem cmpI_same {a b : Nat} (h : a = b) : cmpI a b = 0 := by rw [h]; exact cmpI_eq b
theorem eq_same {a : Nat} (w : World) : (Op.equalIn 10000 24 (.agg #[.int .u64 (dg a 0 : Nat), .int .u64 (dg a 1 : Nat), .int .u64 (dg a 2 : Nat), .int .u64 (dg a 3 : Nat)]) (.agg #[.int .u64 (dg a 0 : Nat), .int .u64 (dg a 1 : Nat), .int .u64 (dg a 2 : Nat), .int .u64 (dg a 3 : Nat)])).run Try.prog w = .ok true w := by
  rw [eq_digits]; simp
theorem mul_hi {a b : Nat} (ha : a < W256) (hb : b < W256) : a * b / W256 < W256 := by
  refine Nat.div_lt_of_lt_mul ?_
  exact Nat.mul_lt_mul'' ha hb
end Go.Proofs.Ytmecomgifmkkfaa
