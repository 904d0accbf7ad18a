/- FieldRing: sums and products hang on no order; products go by parts; a difference, added again, is what was; for every input, no condition. -/
import Derived.Test.YtmecomgifmkkfaaSymC
import Derived.Test.YtmecomgifmkkfaaFieldD
import Derived.Test.YtmecomgifmkkfaaRefB
import Derived.Test.YtmecomgifmkkfaaLimbM
import Derived.Test.YtmecomgifmkkfaaLimbG
import Derived.Test.YtmecomgifmkkfaaLimbB
import Derived.Test.YtmecomgifmkkfaaSymB
import Derived.Test.YtmecomgifmkkfaaRows
import Derived.Test.YtmecomgifmkkfaaOpen
import Derived.Test.YtmecomgifmkkfaaAux
import Derived.Test.YtmecomgifmkkfaaFieldL
import Derived.ProofKit
import Derived.OpenShut
namespace Go.Proofs.Ytmecomgifmkkfaa
set_option linter.unusedVariables false
set_option linter.unusedSimpArgs false
open Go.ChangeShapes Go.WideShapes Go.ChangeAt Go.RowKit

theorem mm1 {x y m : Nat} : (x % m + y) % m = (x + y) % m := Nat.mod_add_mod ..
theorem mm2 {x y m : Nat} : (x + y % m) % m = (x + y) % m := Nat.add_mod_mod ..
theorem mm3 {x y m : Nat} : (x % m * y) % m = (x * y) % m := Nat.mod_mul_mod ..
theorem mm4 {x y m : Nat} : (x * (y % m)) % m = (x * y) % m := Nat.mul_mod_mod ..
theorem subM_add {m a b : Nat} (h : 0 < m) : (subM m a b + b) % m = a % m := by
  unfold subM
  have h1 := Nat.mod_lt b h
  rw [mm1, ← mm2 (y := b), show a + (m - b % m) + b % m = a + m by omega, Nat.add_mod_right]

set_option maxRecDepth 20000 in
set_option maxHeartbeats 2000000 in
theorem fieldRing_walk (which : Int) (a : Nat) (b : Nat) (c : Nat) (w_which : -9223372036854775808 ≤ which ∧ which ≤ 9223372036854775807) (w_a : a < W256) (w_b : b < W256) (w_c : c < W256) (w : World) :
    Calls Try.prog 12 #[.int .i64 which, numV a, numV b, numV c] w fun e w' => e = .returned (.bool true) ∧ Below w.heap.size w w' := by
  by_cases h : okW (oneI which)
  · rcases h with h0 | h0
    · have h : okW (oneI which) := .inl h0
      refine fn_calls (l0 := [(.int .i64 which), (numV a), (numV b), (numV c), undef, undef, undef, undef, undef, undef, undef, undef, undef, undef, undef, undef, undef, undef, undef, undef, undef, undef, undef, undef, undef, undef, undef, undef, undef, undef, undef, undef, undef, undef, undef, undef, undef, undef, undef, undef, undef, undef, undef, undef, undef, undef, undef, undef, undef, undef, undef, undef, undef, undef, undef, undef, undef, undef, undef, undef, undef, undef, undef, undef, undef, undef, undef, undef, undef, undef, undef, undef, undef, undef, undef, undef, undef, undef, undef, undef, undef, undef, undef, undef, undef, undef, undef, undef, undef, undef, undef, undef, undef, undef, undef, undef, undef, undef, undef, undef, undef, undef, undef, undef, undef, undef, undef, undef, undef, undef, undef, undef, undef, undef, undef, undef, undef, undef, undef]) Try.func12 rfl rfl [] (St.start w) ?_
      refine sp_seq rfl ?_
      refine sp_region (π := [0, 1, 2, 3]) [] rfl rfl ?_
      refine wk_boxN a rfl rfl rfl fun β1 => ?_
      dsimp only [putL, setL, List.set_cons_zero, List.set_cons_succ, List.nil_append, List.cons_append]
      refine wk_boxN b rfl rfl rfl fun β2 => ?_
      dsimp only [putL, setL, List.set_cons_zero, List.set_cons_succ, List.nil_append, List.cons_append]
      refine wk_boxN c rfl rfl rfl fun β3 => ?_
      dsimp only [putL, setL, List.set_cons_zero, List.set_cons_succ, List.nil_append, List.cons_append]
      refine wk_assign (.bool false) rfl rfl rfl rfl ?_
      dsimp only [putL, setL, List.set_cons_zero, List.set_cons_succ, List.nil_append, List.cons_append]
      refine wk_nil ?_
      refine sp_seq rfl ?_
      refine sp_region (π := [0, 1, 2]) [] rfl rfl ?_
      refine wk_move (.int .i64 which) rfl rfl rfl rfl ?_
      dsimp only [putL, setL, List.set_cons_zero, List.set_cons_succ, List.nil_append, List.cons_append]
      refine wk_call [(.int .i64 which)] (.int .i64 (oneI which)) rfl rfl rfl (enters_of Try.func42 (by kernel_rfl) (by kernel_rfl)) rfl (one_calls which) ?_
      dsimp only [putL, setL, List.set_cons_zero, List.set_cons_succ, List.nil_append, List.cons_append]
      refine wk_assign (.int .i64 (oneI which)) rfl rfl rfl rfl ?_
      dsimp only [putL, setL, List.set_cons_zero, List.set_cons_succ, List.nil_append, List.cons_append]
      refine wk_nil ?_
      refine sp_seq rfl ?_
      refine sp_seq rfl ?_
      refine sp_region (π := [0, 1, 2, 3, 4, 5]) [] rfl rfl ?_
      refine wk_move (.int .i64 (oneI which)) rfl rfl rfl rfl ?_
      dsimp only [putL, setL, List.set_cons_zero, List.set_cons_succ, List.nil_append, List.cons_append]
      refine wk_iop (.bool false) rfl rfl rfl rfl rfl rfl (iop_neq_f h0) ?_
      dsimp only [putL, setL, List.set_cons_zero, List.set_cons_succ, List.nil_append, List.cons_append]
      refine wk_move (.bool false) rfl rfl rfl rfl ?_
      dsimp only [putL, setL, List.set_cons_zero, List.set_cons_succ, List.nil_append, List.cons_append]
      refine wk_skip rfl rfl (fun h => by cases h) ?_
      dsimp only [putL, setL, List.set_cons_zero, List.set_cons_succ, List.nil_append, List.cons_append]
      refine wk_skip rfl rfl (fun h => by cases h) ?_
      dsimp only [putL, setL, List.set_cons_zero, List.set_cons_succ, List.nil_append, List.cons_append]
      refine wk_pick false (.bool false) rfl rfl rfl rfl rfl ?_
      dsimp only [putL, setL, List.set_cons_zero, List.set_cons_succ, List.nil_append, List.cons_append]
      refine wk_nil ?_
      refine sp_false rfl rfl ?_
      refine sp_skip rfl ?_
      refine sp_seq rfl ?_
      refine sp_draw [0, 1, 2, 4, 5, 6, 3, 7, 8, 9, 10, 11] [] mixed rfl (by kernel_rfl) (by kernel_rfl) ?_
      refine wk_move (.int .i64 (oneI which)) rfl rfl rfl rfl ?_
      dsimp only [putL, setL, List.set_cons_zero, List.set_cons_succ, List.nil_append, List.cons_append]
      refine wk_ldN 0 rfl rfl rfl rfl rfl ?_
      dsimp only [putL, setL, List.set_cons_zero, List.set_cons_succ, List.nil_append, List.cons_append]
      refine wk_ldN 1 rfl rfl rfl rfl rfl ?_
      dsimp only [putL, setL, List.set_cons_zero, List.set_cons_succ, List.nil_append, List.cons_append]
      refine wk_move (.int .i64 (oneI which)) rfl rfl rfl rfl ?_
      dsimp only [putL, setL, List.set_cons_zero, List.set_cons_succ, List.nil_append, List.cons_append]
      refine wk_ldN 0 rfl rfl rfl rfl rfl ?_
      dsimp only [putL, setL, List.set_cons_zero, List.set_cons_succ, List.nil_append, List.cons_append]
      refine wk_ldN 1 rfl rfl rfl rfl rfl ?_
      dsimp only [putL, setL, List.set_cons_zero, List.set_cons_succ, List.nil_append, List.cons_append]
      refine wk_call [(.int .i64 (oneI which)), (numV a), (numV b)] (numV ((a + b) % modW (oneI which))) rfl rfl rfl (enters_of Try.func47 (by kernel_rfl) (by kernel_rfl)) rfl (fadd_ok (oneI which) a b h w_a w_b) ?_
      dsimp only [putL, setL, List.set_cons_zero, List.set_cons_succ, List.nil_append, List.cons_append]
      refine wk_call [(.int .i64 (oneI which)), (numV a), (numV b)] (numV (a * b % modW (oneI which))) rfl rfl rfl (enters_of Try.func51 (by kernel_rfl) (by kernel_rfl)) rfl (fmul_ok (oneI which) a b h w_a w_b) ?_
      dsimp only [putL, setL, List.set_cons_zero, List.set_cons_succ, List.nil_append, List.cons_append]
      refine wk_newN rfl rfl fun β4 => ?_
      dsimp only [putL, setL, List.set_cons_zero, List.set_cons_succ, List.nil_append, List.cons_append]
      refine wk_newN rfl rfl fun β5 => ?_
      dsimp only [putL, setL, List.set_cons_zero, List.set_cons_succ, List.nil_append, List.cons_append]
      refine wk_stN 3 ((a + b) % modW (oneI which)) rfl rfl rfl rfl rfl rfl ?_
      dsimp only [putL, setL, List.set_cons_zero, List.set_cons_succ, List.nil_append, List.cons_append]
      refine wk_stN 4 (a * b % modW (oneI which)) rfl rfl rfl rfl rfl rfl ?_
      dsimp only [putL, setL, List.set_cons_zero, List.set_cons_succ, List.nil_append, List.cons_append]
      refine wk_nil ?_
      refine sp_seq rfl ?_
      refine sp_seq rfl ?_
      refine sp_draw [0, 1, 2, 3, 4, 5, 6, 7, 8, 9, 10, 11, 12, 13, 14, 15, 16, 17, 19, 20, 21, 22, 23, 18, 24, 25, 26, 27, 28, 29, 30, 31, 33, 34, 35, 36, 37, 32, 38, 39, 40, 41] [] mixed rfl (by kernel_rfl) (by kernel_rfl) ?_
      refine wk_ldN 3 rfl rfl rfl rfl rfl ?_
      dsimp only [putL, setL, List.set_cons_zero, List.set_cons_succ, List.nil_append, List.cons_append]
      refine wk_move (.int .i64 (oneI which)) rfl rfl rfl rfl ?_
      dsimp only [putL, setL, List.set_cons_zero, List.set_cons_succ, List.nil_append, List.cons_append]
      refine wk_ldN 1 rfl rfl rfl rfl rfl ?_
      dsimp only [putL, setL, List.set_cons_zero, List.set_cons_succ, List.nil_append, List.cons_append]
      refine wk_ldN 0 rfl rfl rfl rfl rfl ?_
      dsimp only [putL, setL, List.set_cons_zero, List.set_cons_succ, List.nil_append, List.cons_append]
      refine wk_call [(.int .i64 (oneI which)), (numV b), (numV a)] (numV ((b + a) % modW (oneI which))) rfl rfl rfl (enters_of Try.func47 (by kernel_rfl) (by kernel_rfl)) rfl (fadd_ok (oneI which) b a h w_b w_a) ?_
      dsimp only [putL, setL, List.set_cons_zero, List.set_cons_succ, List.nil_append, List.cons_append]
      refine wk_neN false rfl rfl rfl rfl rfl (Nat.lt_trans (Nat.mod_lt _ (modW_pos h)) (modW_lt (oneI which))) (Nat.lt_trans (Nat.mod_lt _ (modW_pos h)) (modW_lt (oneI which))) (decide_eq_true (by (try simp only [mm1, mm2, mm3, mm4, Nat.mod_mod]); try (congr 1; grind))) ?_
      dsimp only [putL, setL, List.set_cons_zero, List.set_cons_succ, List.nil_append, List.cons_append]
      refine wk_move (.bool false) rfl rfl rfl rfl ?_
      dsimp only [putL, setL, List.set_cons_zero, List.set_cons_succ, List.nil_append, List.cons_append]
      refine wk_ldN 4 rfl rfl rfl rfl rfl ?_
      dsimp only [putL, setL, List.set_cons_zero, List.set_cons_succ, List.nil_append, List.cons_append]
      refine wk_move (.int .i64 (oneI which)) rfl rfl rfl rfl ?_
      dsimp only [putL, setL, List.set_cons_zero, List.set_cons_succ, List.nil_append, List.cons_append]
      refine wk_ldN 1 rfl rfl rfl rfl rfl ?_
      dsimp only [putL, setL, List.set_cons_zero, List.set_cons_succ, List.nil_append, List.cons_append]
      refine wk_ldN 0 rfl rfl rfl rfl rfl ?_
      dsimp only [putL, setL, List.set_cons_zero, List.set_cons_succ, List.nil_append, List.cons_append]
      refine wk_call [(.int .i64 (oneI which)), (numV b), (numV a)] (numV (b * a % modW (oneI which))) rfl rfl rfl (enters_of Try.func51 (by kernel_rfl) (by kernel_rfl)) rfl (fmul_ok (oneI which) b a h w_b w_a) ?_
      dsimp only [putL, setL, List.set_cons_zero, List.set_cons_succ, List.nil_append, List.cons_append]
      refine wk_neN false rfl rfl rfl rfl rfl (Nat.lt_trans (Nat.mod_lt _ (modW_pos h)) (modW_lt (oneI which))) (Nat.lt_trans (Nat.mod_lt _ (modW_pos h)) (modW_lt (oneI which))) (decide_eq_true (by (try simp only [mm1, mm2, mm3, mm4, Nat.mod_mod]); try (congr 1; grind))) ?_
      dsimp only [putL, setL, List.set_cons_zero, List.set_cons_succ, List.nil_append, List.cons_append]
      refine wk_pick false (.bool false) rfl rfl rfl rfl rfl ?_
      dsimp only [putL, setL, List.set_cons_zero, List.set_cons_succ, List.nil_append, List.cons_append]
      refine wk_move (.bool false) rfl rfl rfl rfl ?_
      dsimp only [putL, setL, List.set_cons_zero, List.set_cons_succ, List.nil_append, List.cons_append]
      refine wk_move (.int .i64 (oneI which)) rfl rfl rfl rfl ?_
      dsimp only [putL, setL, List.set_cons_zero, List.set_cons_succ, List.nil_append, List.cons_append]
      refine wk_ldN 3 rfl rfl rfl rfl rfl ?_
      dsimp only [putL, setL, List.set_cons_zero, List.set_cons_succ, List.nil_append, List.cons_append]
      refine wk_ldN 2 rfl rfl rfl rfl rfl ?_
      dsimp only [putL, setL, List.set_cons_zero, List.set_cons_succ, List.nil_append, List.cons_append]
      refine wk_move (.int .i64 (oneI which)) rfl rfl rfl rfl ?_
      dsimp only [putL, setL, List.set_cons_zero, List.set_cons_succ, List.nil_append, List.cons_append]
      refine wk_ldN 0 rfl rfl rfl rfl rfl ?_
      dsimp only [putL, setL, List.set_cons_zero, List.set_cons_succ, List.nil_append, List.cons_append]
      refine wk_move (.int .i64 (oneI which)) rfl rfl rfl rfl ?_
      dsimp only [putL, setL, List.set_cons_zero, List.set_cons_succ, List.nil_append, List.cons_append]
      refine wk_ldN 1 rfl rfl rfl rfl rfl ?_
      dsimp only [putL, setL, List.set_cons_zero, List.set_cons_succ, List.nil_append, List.cons_append]
      refine wk_ldN 2 rfl rfl rfl rfl rfl ?_
      dsimp only [putL, setL, List.set_cons_zero, List.set_cons_succ, List.nil_append, List.cons_append]
      refine wk_call [(.int .i64 (oneI which)), (numV ((a + b) % modW (oneI which))), (numV c)] (numV ((((a + b) % modW (oneI which)) + c) % modW (oneI which))) rfl rfl rfl (enters_of Try.func47 (by kernel_rfl) (by kernel_rfl)) rfl (fadd_ok (oneI which) ((a + b) % modW (oneI which)) c h (Nat.lt_trans (Nat.mod_lt _ (modW_pos h)) (modW_lt (oneI which))) w_c) ?_
      dsimp only [putL, setL, List.set_cons_zero, List.set_cons_succ, List.nil_append, List.cons_append]
      refine wk_call [(.int .i64 (oneI which)), (numV b), (numV c)] (numV ((b + c) % modW (oneI which))) rfl rfl rfl (enters_of Try.func47 (by kernel_rfl) (by kernel_rfl)) rfl (fadd_ok (oneI which) b c h w_b w_c) ?_
      dsimp only [putL, setL, List.set_cons_zero, List.set_cons_succ, List.nil_append, List.cons_append]
      refine wk_call [(.int .i64 (oneI which)), (numV a), (numV ((b + c) % modW (oneI which)))] (numV ((a + ((b + c) % modW (oneI which))) % modW (oneI which))) rfl rfl rfl (enters_of Try.func47 (by kernel_rfl) (by kernel_rfl)) rfl (fadd_ok (oneI which) a ((b + c) % modW (oneI which)) h w_a (Nat.lt_trans (Nat.mod_lt _ (modW_pos h)) (modW_lt (oneI which)))) ?_
      dsimp only [putL, setL, List.set_cons_zero, List.set_cons_succ, List.nil_append, List.cons_append]
      refine wk_neN false rfl rfl rfl rfl rfl (Nat.lt_trans (Nat.mod_lt _ (modW_pos h)) (modW_lt (oneI which))) (Nat.lt_trans (Nat.mod_lt _ (modW_pos h)) (modW_lt (oneI which))) (decide_eq_true (by (try simp only [mm1, mm2, mm3, mm4, Nat.mod_mod]); try (congr 1; grind))) ?_
      dsimp only [putL, setL, List.set_cons_zero, List.set_cons_succ, List.nil_append, List.cons_append]
      refine wk_pick false (.bool false) rfl rfl rfl rfl rfl ?_
      dsimp only [putL, setL, List.set_cons_zero, List.set_cons_succ, List.nil_append, List.cons_append]
      refine wk_move (.bool false) rfl rfl rfl rfl ?_
      dsimp only [putL, setL, List.set_cons_zero, List.set_cons_succ, List.nil_append, List.cons_append]
      refine wk_move (.int .i64 (oneI which)) rfl rfl rfl rfl ?_
      dsimp only [putL, setL, List.set_cons_zero, List.set_cons_succ, List.nil_append, List.cons_append]
      refine wk_ldN 4 rfl rfl rfl rfl rfl ?_
      dsimp only [putL, setL, List.set_cons_zero, List.set_cons_succ, List.nil_append, List.cons_append]
      refine wk_ldN 2 rfl rfl rfl rfl rfl ?_
      dsimp only [putL, setL, List.set_cons_zero, List.set_cons_succ, List.nil_append, List.cons_append]
      refine wk_move (.int .i64 (oneI which)) rfl rfl rfl rfl ?_
      dsimp only [putL, setL, List.set_cons_zero, List.set_cons_succ, List.nil_append, List.cons_append]
      refine wk_ldN 0 rfl rfl rfl rfl rfl ?_
      dsimp only [putL, setL, List.set_cons_zero, List.set_cons_succ, List.nil_append, List.cons_append]
      refine wk_move (.int .i64 (oneI which)) rfl rfl rfl rfl ?_
      dsimp only [putL, setL, List.set_cons_zero, List.set_cons_succ, List.nil_append, List.cons_append]
      refine wk_ldN 1 rfl rfl rfl rfl rfl ?_
      dsimp only [putL, setL, List.set_cons_zero, List.set_cons_succ, List.nil_append, List.cons_append]
      refine wk_ldN 2 rfl rfl rfl rfl rfl ?_
      dsimp only [putL, setL, List.set_cons_zero, List.set_cons_succ, List.nil_append, List.cons_append]
      refine wk_call [(.int .i64 (oneI which)), (numV (a * b % modW (oneI which))), (numV c)] (numV ((a * b % modW (oneI which)) * c % modW (oneI which))) rfl rfl rfl (enters_of Try.func51 (by kernel_rfl) (by kernel_rfl)) rfl (fmul_ok (oneI which) (a * b % modW (oneI which)) c h (Nat.lt_trans (Nat.mod_lt _ (modW_pos h)) (modW_lt (oneI which))) w_c) ?_
      dsimp only [putL, setL, List.set_cons_zero, List.set_cons_succ, List.nil_append, List.cons_append]
      refine wk_call [(.int .i64 (oneI which)), (numV b), (numV c)] (numV (b * c % modW (oneI which))) rfl rfl rfl (enters_of Try.func51 (by kernel_rfl) (by kernel_rfl)) rfl (fmul_ok (oneI which) b c h w_b w_c) ?_
      dsimp only [putL, setL, List.set_cons_zero, List.set_cons_succ, List.nil_append, List.cons_append]
      refine wk_call [(.int .i64 (oneI which)), (numV a), (numV (b * c % modW (oneI which)))] (numV (a * (b * c % modW (oneI which)) % modW (oneI which))) rfl rfl rfl (enters_of Try.func51 (by kernel_rfl) (by kernel_rfl)) rfl (fmul_ok (oneI which) a (b * c % modW (oneI which)) h w_a (Nat.lt_trans (Nat.mod_lt _ (modW_pos h)) (modW_lt (oneI which)))) ?_
      dsimp only [putL, setL, List.set_cons_zero, List.set_cons_succ, List.nil_append, List.cons_append]
      refine wk_neN false rfl rfl rfl rfl rfl (Nat.lt_trans (Nat.mod_lt _ (modW_pos h)) (modW_lt (oneI which))) (Nat.lt_trans (Nat.mod_lt _ (modW_pos h)) (modW_lt (oneI which))) (decide_eq_true (by (try simp only [mm1, mm2, mm3, mm4, Nat.mod_mod]); try (congr 1; grind))) ?_
      dsimp only [putL, setL, List.set_cons_zero, List.set_cons_succ, List.nil_append, List.cons_append]
      refine wk_pick false (.bool false) rfl rfl rfl rfl rfl ?_
      dsimp only [putL, setL, List.set_cons_zero, List.set_cons_succ, List.nil_append, List.cons_append]
      refine wk_nil ?_
      refine sp_false rfl rfl ?_
      refine sp_skip rfl ?_
      refine sp_seq rfl ?_
      refine sp_draw [0, 1, 2, 4, 5, 6, 7, 9, 10, 11, 3, 8, 12, 13, 14, 15, 16, 17, 18, 19, 21, 23, 24, 20, 22, 25, 26, 27, 28, 29, 30, 31, 33, 34, 32, 35, 36, 37, 38, 39, 40, 41] [] mixed rfl (by kernel_rfl) (by kernel_rfl) ?_
      refine wk_move (.int .i64 (oneI which)) rfl rfl rfl rfl ?_
      dsimp only [putL, setL, List.set_cons_zero, List.set_cons_succ, List.nil_append, List.cons_append]
      refine wk_ldN 3 rfl rfl rfl rfl rfl ?_
      dsimp only [putL, setL, List.set_cons_zero, List.set_cons_succ, List.nil_append, List.cons_append]
      refine wk_ldN 2 rfl rfl rfl rfl rfl ?_
      dsimp only [putL, setL, List.set_cons_zero, List.set_cons_succ, List.nil_append, List.cons_append]
      refine wk_move (.int .i64 (oneI which)) rfl rfl rfl rfl ?_
      dsimp only [putL, setL, List.set_cons_zero, List.set_cons_succ, List.nil_append, List.cons_append]
      refine wk_move (.int .i64 (oneI which)) rfl rfl rfl rfl ?_
      dsimp only [putL, setL, List.set_cons_zero, List.set_cons_succ, List.nil_append, List.cons_append]
      refine wk_ldN 0 rfl rfl rfl rfl rfl ?_
      dsimp only [putL, setL, List.set_cons_zero, List.set_cons_succ, List.nil_append, List.cons_append]
      refine wk_ldN 2 rfl rfl rfl rfl rfl ?_
      dsimp only [putL, setL, List.set_cons_zero, List.set_cons_succ, List.nil_append, List.cons_append]
      refine wk_move (.int .i64 (oneI which)) rfl rfl rfl rfl ?_
      dsimp only [putL, setL, List.set_cons_zero, List.set_cons_succ, List.nil_append, List.cons_append]
      refine wk_ldN 1 rfl rfl rfl rfl rfl ?_
      dsimp only [putL, setL, List.set_cons_zero, List.set_cons_succ, List.nil_append, List.cons_append]
      refine wk_ldN 2 rfl rfl rfl rfl rfl ?_
      dsimp only [putL, setL, List.set_cons_zero, List.set_cons_succ, List.nil_append, List.cons_append]
      refine wk_call [(.int .i64 (oneI which)), (numV ((a + b) % modW (oneI which))), (numV c)] (numV (((a + b) % modW (oneI which)) * c % modW (oneI which))) rfl rfl rfl (enters_of Try.func51 (by kernel_rfl) (by kernel_rfl)) rfl (fmul_ok (oneI which) ((a + b) % modW (oneI which)) c h (Nat.lt_trans (Nat.mod_lt _ (modW_pos h)) (modW_lt (oneI which))) w_c) ?_
      dsimp only [putL, setL, List.set_cons_zero, List.set_cons_succ, List.nil_append, List.cons_append]
      refine wk_call [(.int .i64 (oneI which)), (numV a), (numV c)] (numV (a * c % modW (oneI which))) rfl rfl rfl (enters_of Try.func51 (by kernel_rfl) (by kernel_rfl)) rfl (fmul_ok (oneI which) a c h w_a w_c) ?_
      dsimp only [putL, setL, List.set_cons_zero, List.set_cons_succ, List.nil_append, List.cons_append]
      refine wk_call [(.int .i64 (oneI which)), (numV b), (numV c)] (numV (b * c % modW (oneI which))) rfl rfl rfl (enters_of Try.func51 (by kernel_rfl) (by kernel_rfl)) rfl (fmul_ok (oneI which) b c h w_b w_c) ?_
      dsimp only [putL, setL, List.set_cons_zero, List.set_cons_succ, List.nil_append, List.cons_append]
      refine wk_call [(.int .i64 (oneI which)), (numV (a * c % modW (oneI which))), (numV (b * c % modW (oneI which)))] (numV (((a * c % modW (oneI which)) + (b * c % modW (oneI which))) % modW (oneI which))) rfl rfl rfl (enters_of Try.func47 (by kernel_rfl) (by kernel_rfl)) rfl (fadd_ok (oneI which) (a * c % modW (oneI which)) (b * c % modW (oneI which)) h (Nat.lt_trans (Nat.mod_lt _ (modW_pos h)) (modW_lt (oneI which))) (Nat.lt_trans (Nat.mod_lt _ (modW_pos h)) (modW_lt (oneI which)))) ?_
      dsimp only [putL, setL, List.set_cons_zero, List.set_cons_succ, List.nil_append, List.cons_append]
      refine wk_eqN true rfl rfl rfl rfl rfl (Nat.lt_trans (Nat.mod_lt _ (modW_pos h)) (modW_lt (oneI which))) (Nat.lt_trans (Nat.mod_lt _ (modW_pos h)) (modW_lt (oneI which))) (decide_eq_true (by (try simp only [mm1, mm2, mm3, mm4, Nat.mod_mod]); try (congr 1; grind))) ?_
      dsimp only [putL, setL, List.set_cons_zero, List.set_cons_succ, List.nil_append, List.cons_append]
      refine wk_move (.bool true) rfl rfl rfl rfl ?_
      dsimp only [putL, setL, List.set_cons_zero, List.set_cons_succ, List.nil_append, List.cons_append]
      refine wk_move (.int .i64 (oneI which)) rfl rfl rfl rfl ?_
      dsimp only [putL, setL, List.set_cons_zero, List.set_cons_succ, List.nil_append, List.cons_append]
      refine wk_move (.int .i64 (oneI which)) rfl rfl rfl rfl ?_
      dsimp only [putL, setL, List.set_cons_zero, List.set_cons_succ, List.nil_append, List.cons_append]
      refine wk_ldN 0 rfl rfl rfl rfl rfl ?_
      dsimp only [putL, setL, List.set_cons_zero, List.set_cons_succ, List.nil_append, List.cons_append]
      refine wk_ldN 1 rfl rfl rfl rfl rfl ?_
      dsimp only [putL, setL, List.set_cons_zero, List.set_cons_succ, List.nil_append, List.cons_append]
      refine wk_ldN 1 rfl rfl rfl rfl rfl ?_
      dsimp only [putL, setL, List.set_cons_zero, List.set_cons_succ, List.nil_append, List.cons_append]
      refine wk_move (.int .i64 (oneI which)) rfl rfl rfl rfl ?_
      dsimp only [putL, setL, List.set_cons_zero, List.set_cons_succ, List.nil_append, List.cons_append]
      refine wk_ldN 0 rfl rfl rfl rfl rfl ?_
      dsimp only [putL, setL, List.set_cons_zero, List.set_cons_succ, List.nil_append, List.cons_append]
      refine wk_call [(.int .i64 (oneI which)), (numV a), (numV b)] (numV (subM (modW (oneI which)) a b)) rfl rfl rfl (enters_of Try.func49 (by kernel_rfl) (by kernel_rfl)) rfl (fsub_ok (oneI which) a b h w_a w_b) ?_
      dsimp only [putL, setL, List.set_cons_zero, List.set_cons_succ, List.nil_append, List.cons_append]
      refine wk_call [(.int .i64 (oneI which)), (numV (subM (modW (oneI which)) a b)), (numV b)] (numV (((subM (modW (oneI which)) a b) + b) % modW (oneI which))) rfl rfl rfl (enters_of Try.func47 (by kernel_rfl) (by kernel_rfl)) rfl (fadd_ok (oneI which) (subM (modW (oneI which)) a b) b h (Nat.lt_trans (Nat.mod_lt _ (modW_pos h)) (modW_lt (oneI which))) w_b) ?_
      dsimp only [putL, setL, List.set_cons_zero, List.set_cons_succ, List.nil_append, List.cons_append]
      refine wk_call [(.int .i64 (oneI which)), (numV a)] (numV (a % modW (oneI which))) rfl rfl rfl (enters_of Try.func45 (by kernel_rfl) (by kernel_rfl)) rfl (red_ok (oneI which) a h w_a) ?_
      dsimp only [putL, setL, List.set_cons_zero, List.set_cons_succ, List.nil_append, List.cons_append]
      refine wk_eqN true rfl rfl rfl rfl rfl (Nat.lt_trans (Nat.mod_lt _ (modW_pos h)) (modW_lt (oneI which))) (Nat.lt_trans (Nat.mod_lt _ (modW_pos h)) (modW_lt (oneI which))) (decide_eq_true (subM_add (modW_pos h))) ?_
      dsimp only [putL, setL, List.set_cons_zero, List.set_cons_succ, List.nil_append, List.cons_append]
      refine wk_pick true (.bool true) rfl rfl rfl rfl rfl ?_
      dsimp only [putL, setL, List.set_cons_zero, List.set_cons_succ, List.nil_append, List.cons_append]
      refine wk_move (.bool true) rfl rfl rfl rfl ?_
      dsimp only [putL, setL, List.set_cons_zero, List.set_cons_succ, List.nil_append, List.cons_append]
      refine wk_move (.int .i64 (oneI which)) rfl rfl rfl rfl ?_
      dsimp only [putL, setL, List.set_cons_zero, List.set_cons_succ, List.nil_append, List.cons_append]
      refine wk_ldN 0 rfl rfl rfl rfl rfl ?_
      dsimp only [putL, setL, List.set_cons_zero, List.set_cons_succ, List.nil_append, List.cons_append]
      refine wk_val (numV 1) rfl rfl rfl (fun w => by kernel_rfl) ?_
      dsimp only [putL, setL, List.set_cons_zero, List.set_cons_succ, List.nil_append, List.cons_append]
      refine wk_move (.int .i64 (oneI which)) rfl rfl rfl rfl ?_
      dsimp only [putL, setL, List.set_cons_zero, List.set_cons_succ, List.nil_append, List.cons_append]
      refine wk_ldN 0 rfl rfl rfl rfl rfl ?_
      dsimp only [putL, setL, List.set_cons_zero, List.set_cons_succ, List.nil_append, List.cons_append]
      refine wk_call [(.int .i64 (oneI which)), (numV a), (numV 1)] (numV (a * 1 % modW (oneI which))) rfl rfl rfl (enters_of Try.func51 (by kernel_rfl) (by kernel_rfl)) rfl (fmul_ok (oneI which) a 1 h w_a (by decide)) ?_
      dsimp only [putL, setL, List.set_cons_zero, List.set_cons_succ, List.nil_append, List.cons_append]
      refine wk_call [(.int .i64 (oneI which)), (numV a)] (numV (a % modW (oneI which))) rfl rfl rfl (enters_of Try.func45 (by kernel_rfl) (by kernel_rfl)) rfl (red_ok (oneI which) a h w_a) ?_
      dsimp only [putL, setL, List.set_cons_zero, List.set_cons_succ, List.nil_append, List.cons_append]
      refine wk_eqN true rfl rfl rfl rfl rfl (Nat.lt_trans (Nat.mod_lt _ (modW_pos h)) (modW_lt (oneI which))) (Nat.lt_trans (Nat.mod_lt _ (modW_pos h)) (modW_lt (oneI which))) (decide_eq_true (by (try simp only [mm1, mm2, mm3, mm4, Nat.mod_mod]); try (congr 1; grind))) ?_
      dsimp only [putL, setL, List.set_cons_zero, List.set_cons_succ, List.nil_append, List.cons_append]
      refine wk_pick true (.bool true) rfl rfl rfl rfl rfl ?_
      dsimp only [putL, setL, List.set_cons_zero, List.set_cons_succ, List.nil_append, List.cons_append]
      refine wk_move (.bool true) rfl rfl rfl rfl ?_
      dsimp only [putL, setL, List.set_cons_zero, List.set_cons_succ, List.nil_append, List.cons_append]
      refine wk_call [] (.bool true) rfl rfl rfl (enters_of Try.func53 (by kernel_rfl) (by kernel_rfl)) rfl wakes2_calls ?_
      dsimp only [putL, setL, List.set_cons_zero, List.set_cons_succ, List.nil_append, List.cons_append]
      refine wk_pick true (.bool true) rfl rfl rfl rfl rfl ?_
      dsimp only [putL, setL, List.set_cons_zero, List.set_cons_succ, List.nil_append, List.cons_append]
      refine wk_assign (.bool true) rfl rfl rfl rfl ?_
      dsimp only [putL, setL, List.set_cons_zero, List.set_cons_succ, List.nil_append, List.cons_append]
      refine wk_nil ?_
      refine sp_ret rfl ?_
      exact ret_tmps (v := (.bool true)) (fun w' => by kernel_rfl) fun w' hw => ⟨rfl, hw.below⟩
    · have h : okW (oneI which) := .inr h0
      refine fn_calls (l0 := [(.int .i64 which), (numV a), (numV b), (numV c), undef, undef, undef, undef, undef, undef, undef, undef, undef, undef, undef, undef, undef, undef, undef, undef, undef, undef, undef, undef, undef, undef, undef, undef, undef, undef, undef, undef, undef, undef, undef, undef, undef, undef, undef, undef, undef, undef, undef, undef, undef, undef, undef, undef, undef, undef, undef, undef, undef, undef, undef, undef, undef, undef, undef, undef, undef, undef, undef, undef, undef, undef, undef, undef, undef, undef, undef, undef, undef, undef, undef, undef, undef, undef, undef, undef, undef, undef, undef, undef, undef, undef, undef, undef, undef, undef, undef, undef, undef, undef, undef, undef, undef, undef, undef, undef, undef, undef, undef, undef, undef, undef, undef, undef, undef, undef, undef, undef, undef, undef, undef, undef, undef, undef, undef]) Try.func12 rfl rfl [] (St.start w) ?_
      refine sp_seq rfl ?_
      refine sp_region (π := [0, 1, 2, 3]) [] rfl rfl ?_
      refine wk_boxN a rfl rfl rfl fun β1 => ?_
      dsimp only [putL, setL, List.set_cons_zero, List.set_cons_succ, List.nil_append, List.cons_append]
      refine wk_boxN b rfl rfl rfl fun β2 => ?_
      dsimp only [putL, setL, List.set_cons_zero, List.set_cons_succ, List.nil_append, List.cons_append]
      refine wk_boxN c rfl rfl rfl fun β3 => ?_
      dsimp only [putL, setL, List.set_cons_zero, List.set_cons_succ, List.nil_append, List.cons_append]
      refine wk_assign (.bool false) rfl rfl rfl rfl ?_
      dsimp only [putL, setL, List.set_cons_zero, List.set_cons_succ, List.nil_append, List.cons_append]
      refine wk_nil ?_
      refine sp_seq rfl ?_
      refine sp_region (π := [0, 1, 2]) [] rfl rfl ?_
      refine wk_move (.int .i64 which) rfl rfl rfl rfl ?_
      dsimp only [putL, setL, List.set_cons_zero, List.set_cons_succ, List.nil_append, List.cons_append]
      refine wk_call [(.int .i64 which)] (.int .i64 (oneI which)) rfl rfl rfl (enters_of Try.func42 (by kernel_rfl) (by kernel_rfl)) rfl (one_calls which) ?_
      dsimp only [putL, setL, List.set_cons_zero, List.set_cons_succ, List.nil_append, List.cons_append]
      refine wk_assign (.int .i64 (oneI which)) rfl rfl rfl rfl ?_
      dsimp only [putL, setL, List.set_cons_zero, List.set_cons_succ, List.nil_append, List.cons_append]
      refine wk_nil ?_
      refine sp_seq rfl ?_
      refine sp_seq rfl ?_
      refine sp_region (π := [0, 1, 2, 3, 4, 5]) [] rfl rfl ?_
      refine wk_move (.int .i64 (oneI which)) rfl rfl rfl rfl ?_
      dsimp only [putL, setL, List.set_cons_zero, List.set_cons_succ, List.nil_append, List.cons_append]
      refine wk_iop (.bool true) rfl rfl rfl rfl rfl rfl (iop_neq_t (by omega)) ?_
      dsimp only [putL, setL, List.set_cons_zero, List.set_cons_succ, List.nil_append, List.cons_append]
      refine wk_move (.bool true) rfl rfl rfl rfl ?_
      dsimp only [putL, setL, List.set_cons_zero, List.set_cons_succ, List.nil_append, List.cons_append]
      refine wk_move (.int .i64 (oneI which)) rfl rfl rfl rfl ?_
      dsimp only [putL, setL, List.set_cons_zero, List.set_cons_succ, List.nil_append, List.cons_append]
      refine wk_iop (.bool false) rfl rfl rfl rfl rfl rfl (iop_neq_f h0) ?_
      dsimp only [putL, setL, List.set_cons_zero, List.set_cons_succ, List.nil_append, List.cons_append]
      refine wk_pick true (.bool false) rfl rfl rfl rfl rfl ?_
      dsimp only [putL, setL, List.set_cons_zero, List.set_cons_succ, List.nil_append, List.cons_append]
      refine wk_nil ?_
      refine sp_false rfl rfl ?_
      refine sp_skip rfl ?_
      refine sp_seq rfl ?_
      refine sp_draw [0, 1, 2, 4, 5, 6, 3, 7, 8, 9, 10, 11] [] mixed rfl (by kernel_rfl) (by kernel_rfl) ?_
      refine wk_move (.int .i64 (oneI which)) rfl rfl rfl rfl ?_
      dsimp only [putL, setL, List.set_cons_zero, List.set_cons_succ, List.nil_append, List.cons_append]
      refine wk_ldN 0 rfl rfl rfl rfl rfl ?_
      dsimp only [putL, setL, List.set_cons_zero, List.set_cons_succ, List.nil_append, List.cons_append]
      refine wk_ldN 1 rfl rfl rfl rfl rfl ?_
      dsimp only [putL, setL, List.set_cons_zero, List.set_cons_succ, List.nil_append, List.cons_append]
      refine wk_move (.int .i64 (oneI which)) rfl rfl rfl rfl ?_
      dsimp only [putL, setL, List.set_cons_zero, List.set_cons_succ, List.nil_append, List.cons_append]
      refine wk_ldN 0 rfl rfl rfl rfl rfl ?_
      dsimp only [putL, setL, List.set_cons_zero, List.set_cons_succ, List.nil_append, List.cons_append]
      refine wk_ldN 1 rfl rfl rfl rfl rfl ?_
      dsimp only [putL, setL, List.set_cons_zero, List.set_cons_succ, List.nil_append, List.cons_append]
      refine wk_call [(.int .i64 (oneI which)), (numV a), (numV b)] (numV ((a + b) % modW (oneI which))) rfl rfl rfl (enters_of Try.func47 (by kernel_rfl) (by kernel_rfl)) rfl (fadd_ok (oneI which) a b h w_a w_b) ?_
      dsimp only [putL, setL, List.set_cons_zero, List.set_cons_succ, List.nil_append, List.cons_append]
      refine wk_call [(.int .i64 (oneI which)), (numV a), (numV b)] (numV (a * b % modW (oneI which))) rfl rfl rfl (enters_of Try.func51 (by kernel_rfl) (by kernel_rfl)) rfl (fmul_ok (oneI which) a b h w_a w_b) ?_
      dsimp only [putL, setL, List.set_cons_zero, List.set_cons_succ, List.nil_append, List.cons_append]
      refine wk_newN rfl rfl fun β4 => ?_
      dsimp only [putL, setL, List.set_cons_zero, List.set_cons_succ, List.nil_append, List.cons_append]
      refine wk_newN rfl rfl fun β5 => ?_
      dsimp only [putL, setL, List.set_cons_zero, List.set_cons_succ, List.nil_append, List.cons_append]
      refine wk_stN 3 ((a + b) % modW (oneI which)) rfl rfl rfl rfl rfl rfl ?_
      dsimp only [putL, setL, List.set_cons_zero, List.set_cons_succ, List.nil_append, List.cons_append]
      refine wk_stN 4 (a * b % modW (oneI which)) rfl rfl rfl rfl rfl rfl ?_
      dsimp only [putL, setL, List.set_cons_zero, List.set_cons_succ, List.nil_append, List.cons_append]
      refine wk_nil ?_
      refine sp_seq rfl ?_
      refine sp_seq rfl ?_
      refine sp_draw [0, 1, 2, 3, 4, 5, 6, 7, 8, 9, 10, 11, 12, 13, 14, 15, 16, 17, 19, 20, 21, 22, 23, 18, 24, 25, 26, 27, 28, 29, 30, 31, 33, 34, 35, 36, 37, 32, 38, 39, 40, 41] [] mixed rfl (by kernel_rfl) (by kernel_rfl) ?_
      refine wk_ldN 3 rfl rfl rfl rfl rfl ?_
      dsimp only [putL, setL, List.set_cons_zero, List.set_cons_succ, List.nil_append, List.cons_append]
      refine wk_move (.int .i64 (oneI which)) rfl rfl rfl rfl ?_
      dsimp only [putL, setL, List.set_cons_zero, List.set_cons_succ, List.nil_append, List.cons_append]
      refine wk_ldN 1 rfl rfl rfl rfl rfl ?_
      dsimp only [putL, setL, List.set_cons_zero, List.set_cons_succ, List.nil_append, List.cons_append]
      refine wk_ldN 0 rfl rfl rfl rfl rfl ?_
      dsimp only [putL, setL, List.set_cons_zero, List.set_cons_succ, List.nil_append, List.cons_append]
      refine wk_call [(.int .i64 (oneI which)), (numV b), (numV a)] (numV ((b + a) % modW (oneI which))) rfl rfl rfl (enters_of Try.func47 (by kernel_rfl) (by kernel_rfl)) rfl (fadd_ok (oneI which) b a h w_b w_a) ?_
      dsimp only [putL, setL, List.set_cons_zero, List.set_cons_succ, List.nil_append, List.cons_append]
      refine wk_neN false rfl rfl rfl rfl rfl (Nat.lt_trans (Nat.mod_lt _ (modW_pos h)) (modW_lt (oneI which))) (Nat.lt_trans (Nat.mod_lt _ (modW_pos h)) (modW_lt (oneI which))) (decide_eq_true (by (try simp only [mm1, mm2, mm3, mm4, Nat.mod_mod]); try (congr 1; grind))) ?_
      dsimp only [putL, setL, List.set_cons_zero, List.set_cons_succ, List.nil_append, List.cons_append]
      refine wk_move (.bool false) rfl rfl rfl rfl ?_
      dsimp only [putL, setL, List.set_cons_zero, List.set_cons_succ, List.nil_append, List.cons_append]
      refine wk_ldN 4 rfl rfl rfl rfl rfl ?_
      dsimp only [putL, setL, List.set_cons_zero, List.set_cons_succ, List.nil_append, List.cons_append]
      refine wk_move (.int .i64 (oneI which)) rfl rfl rfl rfl ?_
      dsimp only [putL, setL, List.set_cons_zero, List.set_cons_succ, List.nil_append, List.cons_append]
      refine wk_ldN 1 rfl rfl rfl rfl rfl ?_
      dsimp only [putL, setL, List.set_cons_zero, List.set_cons_succ, List.nil_append, List.cons_append]
      refine wk_ldN 0 rfl rfl rfl rfl rfl ?_
      dsimp only [putL, setL, List.set_cons_zero, List.set_cons_succ, List.nil_append, List.cons_append]
      refine wk_call [(.int .i64 (oneI which)), (numV b), (numV a)] (numV (b * a % modW (oneI which))) rfl rfl rfl (enters_of Try.func51 (by kernel_rfl) (by kernel_rfl)) rfl (fmul_ok (oneI which) b a h w_b w_a) ?_
      dsimp only [putL, setL, List.set_cons_zero, List.set_cons_succ, List.nil_append, List.cons_append]
      refine wk_neN false rfl rfl rfl rfl rfl (Nat.lt_trans (Nat.mod_lt _ (modW_pos h)) (modW_lt (oneI which))) (Nat.lt_trans (Nat.mod_lt _ (modW_pos h)) (modW_lt (oneI which))) (decide_eq_true (by (try simp only [mm1, mm2, mm3, mm4, Nat.mod_mod]); try (congr 1; grind))) ?_
      dsimp only [putL, setL, List.set_cons_zero, List.set_cons_succ, List.nil_append, List.cons_append]
      refine wk_pick false (.bool false) rfl rfl rfl rfl rfl ?_
      dsimp only [putL, setL, List.set_cons_zero, List.set_cons_succ, List.nil_append, List.cons_append]
      refine wk_move (.bool false) rfl rfl rfl rfl ?_
      dsimp only [putL, setL, List.set_cons_zero, List.set_cons_succ, List.nil_append, List.cons_append]
      refine wk_move (.int .i64 (oneI which)) rfl rfl rfl rfl ?_
      dsimp only [putL, setL, List.set_cons_zero, List.set_cons_succ, List.nil_append, List.cons_append]
      refine wk_ldN 3 rfl rfl rfl rfl rfl ?_
      dsimp only [putL, setL, List.set_cons_zero, List.set_cons_succ, List.nil_append, List.cons_append]
      refine wk_ldN 2 rfl rfl rfl rfl rfl ?_
      dsimp only [putL, setL, List.set_cons_zero, List.set_cons_succ, List.nil_append, List.cons_append]
      refine wk_move (.int .i64 (oneI which)) rfl rfl rfl rfl ?_
      dsimp only [putL, setL, List.set_cons_zero, List.set_cons_succ, List.nil_append, List.cons_append]
      refine wk_ldN 0 rfl rfl rfl rfl rfl ?_
      dsimp only [putL, setL, List.set_cons_zero, List.set_cons_succ, List.nil_append, List.cons_append]
      refine wk_move (.int .i64 (oneI which)) rfl rfl rfl rfl ?_
      dsimp only [putL, setL, List.set_cons_zero, List.set_cons_succ, List.nil_append, List.cons_append]
      refine wk_ldN 1 rfl rfl rfl rfl rfl ?_
      dsimp only [putL, setL, List.set_cons_zero, List.set_cons_succ, List.nil_append, List.cons_append]
      refine wk_ldN 2 rfl rfl rfl rfl rfl ?_
      dsimp only [putL, setL, List.set_cons_zero, List.set_cons_succ, List.nil_append, List.cons_append]
      refine wk_call [(.int .i64 (oneI which)), (numV ((a + b) % modW (oneI which))), (numV c)] (numV ((((a + b) % modW (oneI which)) + c) % modW (oneI which))) rfl rfl rfl (enters_of Try.func47 (by kernel_rfl) (by kernel_rfl)) rfl (fadd_ok (oneI which) ((a + b) % modW (oneI which)) c h (Nat.lt_trans (Nat.mod_lt _ (modW_pos h)) (modW_lt (oneI which))) w_c) ?_
      dsimp only [putL, setL, List.set_cons_zero, List.set_cons_succ, List.nil_append, List.cons_append]
      refine wk_call [(.int .i64 (oneI which)), (numV b), (numV c)] (numV ((b + c) % modW (oneI which))) rfl rfl rfl (enters_of Try.func47 (by kernel_rfl) (by kernel_rfl)) rfl (fadd_ok (oneI which) b c h w_b w_c) ?_
      dsimp only [putL, setL, List.set_cons_zero, List.set_cons_succ, List.nil_append, List.cons_append]
      refine wk_call [(.int .i64 (oneI which)), (numV a), (numV ((b + c) % modW (oneI which)))] (numV ((a + ((b + c) % modW (oneI which))) % modW (oneI which))) rfl rfl rfl (enters_of Try.func47 (by kernel_rfl) (by kernel_rfl)) rfl (fadd_ok (oneI which) a ((b + c) % modW (oneI which)) h w_a (Nat.lt_trans (Nat.mod_lt _ (modW_pos h)) (modW_lt (oneI which)))) ?_
      dsimp only [putL, setL, List.set_cons_zero, List.set_cons_succ, List.nil_append, List.cons_append]
      refine wk_neN false rfl rfl rfl rfl rfl (Nat.lt_trans (Nat.mod_lt _ (modW_pos h)) (modW_lt (oneI which))) (Nat.lt_trans (Nat.mod_lt _ (modW_pos h)) (modW_lt (oneI which))) (decide_eq_true (by (try simp only [mm1, mm2, mm3, mm4, Nat.mod_mod]); try (congr 1; grind))) ?_
      dsimp only [putL, setL, List.set_cons_zero, List.set_cons_succ, List.nil_append, List.cons_append]
      refine wk_pick false (.bool false) rfl rfl rfl rfl rfl ?_
      dsimp only [putL, setL, List.set_cons_zero, List.set_cons_succ, List.nil_append, List.cons_append]
      refine wk_move (.bool false) rfl rfl rfl rfl ?_
      dsimp only [putL, setL, List.set_cons_zero, List.set_cons_succ, List.nil_append, List.cons_append]
      refine wk_move (.int .i64 (oneI which)) rfl rfl rfl rfl ?_
      dsimp only [putL, setL, List.set_cons_zero, List.set_cons_succ, List.nil_append, List.cons_append]
      refine wk_ldN 4 rfl rfl rfl rfl rfl ?_
      dsimp only [putL, setL, List.set_cons_zero, List.set_cons_succ, List.nil_append, List.cons_append]
      refine wk_ldN 2 rfl rfl rfl rfl rfl ?_
      dsimp only [putL, setL, List.set_cons_zero, List.set_cons_succ, List.nil_append, List.cons_append]
      refine wk_move (.int .i64 (oneI which)) rfl rfl rfl rfl ?_
      dsimp only [putL, setL, List.set_cons_zero, List.set_cons_succ, List.nil_append, List.cons_append]
      refine wk_ldN 0 rfl rfl rfl rfl rfl ?_
      dsimp only [putL, setL, List.set_cons_zero, List.set_cons_succ, List.nil_append, List.cons_append]
      refine wk_move (.int .i64 (oneI which)) rfl rfl rfl rfl ?_
      dsimp only [putL, setL, List.set_cons_zero, List.set_cons_succ, List.nil_append, List.cons_append]
      refine wk_ldN 1 rfl rfl rfl rfl rfl ?_
      dsimp only [putL, setL, List.set_cons_zero, List.set_cons_succ, List.nil_append, List.cons_append]
      refine wk_ldN 2 rfl rfl rfl rfl rfl ?_
      dsimp only [putL, setL, List.set_cons_zero, List.set_cons_succ, List.nil_append, List.cons_append]
      refine wk_call [(.int .i64 (oneI which)), (numV (a * b % modW (oneI which))), (numV c)] (numV ((a * b % modW (oneI which)) * c % modW (oneI which))) rfl rfl rfl (enters_of Try.func51 (by kernel_rfl) (by kernel_rfl)) rfl (fmul_ok (oneI which) (a * b % modW (oneI which)) c h (Nat.lt_trans (Nat.mod_lt _ (modW_pos h)) (modW_lt (oneI which))) w_c) ?_
      dsimp only [putL, setL, List.set_cons_zero, List.set_cons_succ, List.nil_append, List.cons_append]
      refine wk_call [(.int .i64 (oneI which)), (numV b), (numV c)] (numV (b * c % modW (oneI which))) rfl rfl rfl (enters_of Try.func51 (by kernel_rfl) (by kernel_rfl)) rfl (fmul_ok (oneI which) b c h w_b w_c) ?_
      dsimp only [putL, setL, List.set_cons_zero, List.set_cons_succ, List.nil_append, List.cons_append]
      refine wk_call [(.int .i64 (oneI which)), (numV a), (numV (b * c % modW (oneI which)))] (numV (a * (b * c % modW (oneI which)) % modW (oneI which))) rfl rfl rfl (enters_of Try.func51 (by kernel_rfl) (by kernel_rfl)) rfl (fmul_ok (oneI which) a (b * c % modW (oneI which)) h w_a (Nat.lt_trans (Nat.mod_lt _ (modW_pos h)) (modW_lt (oneI which)))) ?_
      dsimp only [putL, setL, List.set_cons_zero, List.set_cons_succ, List.nil_append, List.cons_append]
      refine wk_neN false rfl rfl rfl rfl rfl (Nat.lt_trans (Nat.mod_lt _ (modW_pos h)) (modW_lt (oneI which))) (Nat.lt_trans (Nat.mod_lt _ (modW_pos h)) (modW_lt (oneI which))) (decide_eq_true (by (try simp only [mm1, mm2, mm3, mm4, Nat.mod_mod]); try (congr 1; grind))) ?_
      dsimp only [putL, setL, List.set_cons_zero, List.set_cons_succ, List.nil_append, List.cons_append]
      refine wk_pick false (.bool false) rfl rfl rfl rfl rfl ?_
      dsimp only [putL, setL, List.set_cons_zero, List.set_cons_succ, List.nil_append, List.cons_append]
      refine wk_nil ?_
      refine sp_false rfl rfl ?_
      refine sp_skip rfl ?_
      refine sp_seq rfl ?_
      refine sp_draw [0, 1, 2, 4, 5, 6, 7, 9, 10, 11, 3, 8, 12, 13, 14, 15, 16, 17, 18, 19, 21, 23, 24, 20, 22, 25, 26, 27, 28, 29, 30, 31, 33, 34, 32, 35, 36, 37, 38, 39, 40, 41] [] mixed rfl (by kernel_rfl) (by kernel_rfl) ?_
      refine wk_move (.int .i64 (oneI which)) rfl rfl rfl rfl ?_
      dsimp only [putL, setL, List.set_cons_zero, List.set_cons_succ, List.nil_append, List.cons_append]
      refine wk_ldN 3 rfl rfl rfl rfl rfl ?_
      dsimp only [putL, setL, List.set_cons_zero, List.set_cons_succ, List.nil_append, List.cons_append]
      refine wk_ldN 2 rfl rfl rfl rfl rfl ?_
      dsimp only [putL, setL, List.set_cons_zero, List.set_cons_succ, List.nil_append, List.cons_append]
      refine wk_move (.int .i64 (oneI which)) rfl rfl rfl rfl ?_
      dsimp only [putL, setL, List.set_cons_zero, List.set_cons_succ, List.nil_append, List.cons_append]
      refine wk_move (.int .i64 (oneI which)) rfl rfl rfl rfl ?_
      dsimp only [putL, setL, List.set_cons_zero, List.set_cons_succ, List.nil_append, List.cons_append]
      refine wk_ldN 0 rfl rfl rfl rfl rfl ?_
      dsimp only [putL, setL, List.set_cons_zero, List.set_cons_succ, List.nil_append, List.cons_append]
      refine wk_ldN 2 rfl rfl rfl rfl rfl ?_
      dsimp only [putL, setL, List.set_cons_zero, List.set_cons_succ, List.nil_append, List.cons_append]
      refine wk_move (.int .i64 (oneI which)) rfl rfl rfl rfl ?_
      dsimp only [putL, setL, List.set_cons_zero, List.set_cons_succ, List.nil_append, List.cons_append]
      refine wk_ldN 1 rfl rfl rfl rfl rfl ?_
      dsimp only [putL, setL, List.set_cons_zero, List.set_cons_succ, List.nil_append, List.cons_append]
      refine wk_ldN 2 rfl rfl rfl rfl rfl ?_
      dsimp only [putL, setL, List.set_cons_zero, List.set_cons_succ, List.nil_append, List.cons_append]
      refine wk_call [(.int .i64 (oneI which)), (numV ((a + b) % modW (oneI which))), (numV c)] (numV (((a + b) % modW (oneI which)) * c % modW (oneI which))) rfl rfl rfl (enters_of Try.func51 (by kernel_rfl) (by kernel_rfl)) rfl (fmul_ok (oneI which) ((a + b) % modW (oneI which)) c h (Nat.lt_trans (Nat.mod_lt _ (modW_pos h)) (modW_lt (oneI which))) w_c) ?_
      dsimp only [putL, setL, List.set_cons_zero, List.set_cons_succ, List.nil_append, List.cons_append]
      refine wk_call [(.int .i64 (oneI which)), (numV a), (numV c)] (numV (a * c % modW (oneI which))) rfl rfl rfl (enters_of Try.func51 (by kernel_rfl) (by kernel_rfl)) rfl (fmul_ok (oneI which) a c h w_a w_c) ?_
      dsimp only [putL, setL, List.set_cons_zero, List.set_cons_succ, List.nil_append, List.cons_append]
      refine wk_call [(.int .i64 (oneI which)), (numV b), (numV c)] (numV (b * c % modW (oneI which))) rfl rfl rfl (enters_of Try.func51 (by kernel_rfl) (by kernel_rfl)) rfl (fmul_ok (oneI which) b c h w_b w_c) ?_
      dsimp only [putL, setL, List.set_cons_zero, List.set_cons_succ, List.nil_append, List.cons_append]
      refine wk_call [(.int .i64 (oneI which)), (numV (a * c % modW (oneI which))), (numV (b * c % modW (oneI which)))] (numV (((a * c % modW (oneI which)) + (b * c % modW (oneI which))) % modW (oneI which))) rfl rfl rfl (enters_of Try.func47 (by kernel_rfl) (by kernel_rfl)) rfl (fadd_ok (oneI which) (a * c % modW (oneI which)) (b * c % modW (oneI which)) h (Nat.lt_trans (Nat.mod_lt _ (modW_pos h)) (modW_lt (oneI which))) (Nat.lt_trans (Nat.mod_lt _ (modW_pos h)) (modW_lt (oneI which)))) ?_
      dsimp only [putL, setL, List.set_cons_zero, List.set_cons_succ, List.nil_append, List.cons_append]
      refine wk_eqN true rfl rfl rfl rfl rfl (Nat.lt_trans (Nat.mod_lt _ (modW_pos h)) (modW_lt (oneI which))) (Nat.lt_trans (Nat.mod_lt _ (modW_pos h)) (modW_lt (oneI which))) (decide_eq_true (by (try simp only [mm1, mm2, mm3, mm4, Nat.mod_mod]); try (congr 1; grind))) ?_
      dsimp only [putL, setL, List.set_cons_zero, List.set_cons_succ, List.nil_append, List.cons_append]
      refine wk_move (.bool true) rfl rfl rfl rfl ?_
      dsimp only [putL, setL, List.set_cons_zero, List.set_cons_succ, List.nil_append, List.cons_append]
      refine wk_move (.int .i64 (oneI which)) rfl rfl rfl rfl ?_
      dsimp only [putL, setL, List.set_cons_zero, List.set_cons_succ, List.nil_append, List.cons_append]
      refine wk_move (.int .i64 (oneI which)) rfl rfl rfl rfl ?_
      dsimp only [putL, setL, List.set_cons_zero, List.set_cons_succ, List.nil_append, List.cons_append]
      refine wk_ldN 0 rfl rfl rfl rfl rfl ?_
      dsimp only [putL, setL, List.set_cons_zero, List.set_cons_succ, List.nil_append, List.cons_append]
      refine wk_ldN 1 rfl rfl rfl rfl rfl ?_
      dsimp only [putL, setL, List.set_cons_zero, List.set_cons_succ, List.nil_append, List.cons_append]
      refine wk_ldN 1 rfl rfl rfl rfl rfl ?_
      dsimp only [putL, setL, List.set_cons_zero, List.set_cons_succ, List.nil_append, List.cons_append]
      refine wk_move (.int .i64 (oneI which)) rfl rfl rfl rfl ?_
      dsimp only [putL, setL, List.set_cons_zero, List.set_cons_succ, List.nil_append, List.cons_append]
      refine wk_ldN 0 rfl rfl rfl rfl rfl ?_
      dsimp only [putL, setL, List.set_cons_zero, List.set_cons_succ, List.nil_append, List.cons_append]
      refine wk_call [(.int .i64 (oneI which)), (numV a), (numV b)] (numV (subM (modW (oneI which)) a b)) rfl rfl rfl (enters_of Try.func49 (by kernel_rfl) (by kernel_rfl)) rfl (fsub_ok (oneI which) a b h w_a w_b) ?_
      dsimp only [putL, setL, List.set_cons_zero, List.set_cons_succ, List.nil_append, List.cons_append]
      refine wk_call [(.int .i64 (oneI which)), (numV (subM (modW (oneI which)) a b)), (numV b)] (numV (((subM (modW (oneI which)) a b) + b) % modW (oneI which))) rfl rfl rfl (enters_of Try.func47 (by kernel_rfl) (by kernel_rfl)) rfl (fadd_ok (oneI which) (subM (modW (oneI which)) a b) b h (Nat.lt_trans (Nat.mod_lt _ (modW_pos h)) (modW_lt (oneI which))) w_b) ?_
      dsimp only [putL, setL, List.set_cons_zero, List.set_cons_succ, List.nil_append, List.cons_append]
      refine wk_call [(.int .i64 (oneI which)), (numV a)] (numV (a % modW (oneI which))) rfl rfl rfl (enters_of Try.func45 (by kernel_rfl) (by kernel_rfl)) rfl (red_ok (oneI which) a h w_a) ?_
      dsimp only [putL, setL, List.set_cons_zero, List.set_cons_succ, List.nil_append, List.cons_append]
      refine wk_eqN true rfl rfl rfl rfl rfl (Nat.lt_trans (Nat.mod_lt _ (modW_pos h)) (modW_lt (oneI which))) (Nat.lt_trans (Nat.mod_lt _ (modW_pos h)) (modW_lt (oneI which))) (decide_eq_true (subM_add (modW_pos h))) ?_
      dsimp only [putL, setL, List.set_cons_zero, List.set_cons_succ, List.nil_append, List.cons_append]
      refine wk_pick true (.bool true) rfl rfl rfl rfl rfl ?_
      dsimp only [putL, setL, List.set_cons_zero, List.set_cons_succ, List.nil_append, List.cons_append]
      refine wk_move (.bool true) rfl rfl rfl rfl ?_
      dsimp only [putL, setL, List.set_cons_zero, List.set_cons_succ, List.nil_append, List.cons_append]
      refine wk_move (.int .i64 (oneI which)) rfl rfl rfl rfl ?_
      dsimp only [putL, setL, List.set_cons_zero, List.set_cons_succ, List.nil_append, List.cons_append]
      refine wk_ldN 0 rfl rfl rfl rfl rfl ?_
      dsimp only [putL, setL, List.set_cons_zero, List.set_cons_succ, List.nil_append, List.cons_append]
      refine wk_val (numV 1) rfl rfl rfl (fun w => by kernel_rfl) ?_
      dsimp only [putL, setL, List.set_cons_zero, List.set_cons_succ, List.nil_append, List.cons_append]
      refine wk_move (.int .i64 (oneI which)) rfl rfl rfl rfl ?_
      dsimp only [putL, setL, List.set_cons_zero, List.set_cons_succ, List.nil_append, List.cons_append]
      refine wk_ldN 0 rfl rfl rfl rfl rfl ?_
      dsimp only [putL, setL, List.set_cons_zero, List.set_cons_succ, List.nil_append, List.cons_append]
      refine wk_call [(.int .i64 (oneI which)), (numV a), (numV 1)] (numV (a * 1 % modW (oneI which))) rfl rfl rfl (enters_of Try.func51 (by kernel_rfl) (by kernel_rfl)) rfl (fmul_ok (oneI which) a 1 h w_a (by decide)) ?_
      dsimp only [putL, setL, List.set_cons_zero, List.set_cons_succ, List.nil_append, List.cons_append]
      refine wk_call [(.int .i64 (oneI which)), (numV a)] (numV (a % modW (oneI which))) rfl rfl rfl (enters_of Try.func45 (by kernel_rfl) (by kernel_rfl)) rfl (red_ok (oneI which) a h w_a) ?_
      dsimp only [putL, setL, List.set_cons_zero, List.set_cons_succ, List.nil_append, List.cons_append]
      refine wk_eqN true rfl rfl rfl rfl rfl (Nat.lt_trans (Nat.mod_lt _ (modW_pos h)) (modW_lt (oneI which))) (Nat.lt_trans (Nat.mod_lt _ (modW_pos h)) (modW_lt (oneI which))) (decide_eq_true (by (try simp only [mm1, mm2, mm3, mm4, Nat.mod_mod]); try (congr 1; grind))) ?_
      dsimp only [putL, setL, List.set_cons_zero, List.set_cons_succ, List.nil_append, List.cons_append]
      refine wk_pick true (.bool true) rfl rfl rfl rfl rfl ?_
      dsimp only [putL, setL, List.set_cons_zero, List.set_cons_succ, List.nil_append, List.cons_append]
      refine wk_move (.bool true) rfl rfl rfl rfl ?_
      dsimp only [putL, setL, List.set_cons_zero, List.set_cons_succ, List.nil_append, List.cons_append]
      refine wk_call [] (.bool true) rfl rfl rfl (enters_of Try.func53 (by kernel_rfl) (by kernel_rfl)) rfl wakes2_calls ?_
      dsimp only [putL, setL, List.set_cons_zero, List.set_cons_succ, List.nil_append, List.cons_append]
      refine wk_pick true (.bool true) rfl rfl rfl rfl rfl ?_
      dsimp only [putL, setL, List.set_cons_zero, List.set_cons_succ, List.nil_append, List.cons_append]
      refine wk_assign (.bool true) rfl rfl rfl rfl ?_
      dsimp only [putL, setL, List.set_cons_zero, List.set_cons_succ, List.nil_append, List.cons_append]
      refine wk_nil ?_
      refine sp_ret rfl ?_
      exact ret_tmps (v := (.bool true)) (fun w' => by kernel_rfl) fun w' hw => ⟨rfl, hw.below⟩
  · skip
    refine fn_calls (l0 := [(.int .i64 which), (numV a), (numV b), (numV c), undef, undef, undef, undef, undef, undef, undef, undef, undef, undef, undef, undef, undef, undef, undef, undef, undef, undef, undef, undef, undef, undef, undef, undef, undef, undef, undef, undef, undef, undef, undef, undef, undef, undef, undef, undef, undef, undef, undef, undef, undef, undef, undef, undef, undef, undef, undef, undef, undef, undef, undef, undef, undef, undef, undef, undef, undef, undef, undef, undef, undef, undef, undef, undef, undef, undef, undef, undef, undef, undef, undef, undef, undef, undef, undef, undef, undef, undef, undef, undef, undef, undef, undef, undef, undef, undef, undef, undef, undef, undef, undef, undef, undef, undef, undef, undef, undef, undef, undef, undef, undef, undef, undef, undef, undef, undef, undef, undef, undef, undef, undef, undef, undef, undef, undef]) Try.func12 rfl rfl [] (St.start w) ?_
    refine sp_seq rfl ?_
    refine sp_region (π := [0, 1, 2, 3]) [] rfl rfl ?_
    refine wk_boxN a rfl rfl rfl fun β1 => ?_
    dsimp only [putL, setL, List.set_cons_zero, List.set_cons_succ, List.nil_append, List.cons_append]
    refine wk_boxN b rfl rfl rfl fun β2 => ?_
    dsimp only [putL, setL, List.set_cons_zero, List.set_cons_succ, List.nil_append, List.cons_append]
    refine wk_boxN c rfl rfl rfl fun β3 => ?_
    dsimp only [putL, setL, List.set_cons_zero, List.set_cons_succ, List.nil_append, List.cons_append]
    refine wk_assign (.bool false) rfl rfl rfl rfl ?_
    dsimp only [putL, setL, List.set_cons_zero, List.set_cons_succ, List.nil_append, List.cons_append]
    refine wk_nil ?_
    refine sp_seq rfl ?_
    refine sp_region (π := [0, 1, 2]) [] rfl rfl ?_
    refine wk_move (.int .i64 which) rfl rfl rfl rfl ?_
    dsimp only [putL, setL, List.set_cons_zero, List.set_cons_succ, List.nil_append, List.cons_append]
    refine wk_call [(.int .i64 which)] (.int .i64 (oneI which)) rfl rfl rfl (enters_of Try.func42 (by kernel_rfl) (by kernel_rfl)) rfl (one_calls which) ?_
    dsimp only [putL, setL, List.set_cons_zero, List.set_cons_succ, List.nil_append, List.cons_append]
    refine wk_assign (.int .i64 (oneI which)) rfl rfl rfl rfl ?_
    dsimp only [putL, setL, List.set_cons_zero, List.set_cons_succ, List.nil_append, List.cons_append]
    refine wk_nil ?_
    refine sp_seq rfl ?_
    refine sp_seq rfl ?_
    refine sp_region (π := [0, 1, 2, 3, 4, 5]) [] rfl rfl ?_
    refine wk_move (.int .i64 (oneI which)) rfl rfl rfl rfl ?_
    dsimp only [putL, setL, List.set_cons_zero, List.set_cons_succ, List.nil_append, List.cons_append]
    refine wk_iop (.bool true) rfl rfl rfl rfl rfl rfl (iop_neq_t (fun e => h (.inl e))) ?_
    dsimp only [putL, setL, List.set_cons_zero, List.set_cons_succ, List.nil_append, List.cons_append]
    refine wk_move (.bool true) rfl rfl rfl rfl ?_
    dsimp only [putL, setL, List.set_cons_zero, List.set_cons_succ, List.nil_append, List.cons_append]
    refine wk_move (.int .i64 (oneI which)) rfl rfl rfl rfl ?_
    dsimp only [putL, setL, List.set_cons_zero, List.set_cons_succ, List.nil_append, List.cons_append]
    refine wk_iop (.bool true) rfl rfl rfl rfl rfl rfl (iop_neq_t (fun e => h (.inr e))) ?_
    dsimp only [putL, setL, List.set_cons_zero, List.set_cons_succ, List.nil_append, List.cons_append]
    refine wk_pick true (.bool true) rfl rfl rfl rfl rfl ?_
    dsimp only [putL, setL, List.set_cons_zero, List.set_cons_succ, List.nil_append, List.cons_append]
    refine wk_nil ?_
    refine sp_true rfl rfl ?_
    refine sp_seq rfl ?_
    refine sp_region (π := [0, 1, 2, 3, 4, 5, 6, 7, 8, 9]) [] rfl rfl ?_
    refine wk_move (.int .i64 (oneI which)) rfl rfl rfl rfl ?_
    dsimp only [putL, setL, List.set_cons_zero, List.set_cons_succ, List.nil_append, List.cons_append]
    refine wk_ldN 0 rfl rfl rfl rfl rfl ?_
    dsimp only [putL, setL, List.set_cons_zero, List.set_cons_succ, List.nil_append, List.cons_append]
    refine wk_ldN 1 rfl rfl rfl rfl rfl ?_
    dsimp only [putL, setL, List.set_cons_zero, List.set_cons_succ, List.nil_append, List.cons_append]
    refine wk_call [(.int .i64 (oneI which)), (numV a), (numV b)] (numV 0) rfl rfl rfl (enters_of Try.func47 (by kernel_rfl) (by kernel_rfl)) rfl (fadd_no (oneI which) a b h) ?_
    dsimp only [putL, setL, List.set_cons_zero, List.set_cons_succ, List.nil_append, List.cons_append]
    refine wk_val (numV 0) rfl rfl rfl (fun w => by kernel_rfl) ?_
    dsimp only [putL, setL, List.set_cons_zero, List.set_cons_succ, List.nil_append, List.cons_append]
    refine wk_eqN true rfl rfl rfl rfl rfl W256_pos (by decide) (decide_eq_true rfl) ?_
    dsimp only [putL, setL, List.set_cons_zero, List.set_cons_succ, List.nil_append, List.cons_append]
    refine wk_move (.bool true) rfl rfl rfl rfl ?_
    dsimp only [putL, setL, List.set_cons_zero, List.set_cons_succ, List.nil_append, List.cons_append]
    refine wk_call [] (.bool true) rfl rfl rfl (enters_of Try.func53 (by kernel_rfl) (by kernel_rfl)) rfl wakes2_calls ?_
    dsimp only [putL, setL, List.set_cons_zero, List.set_cons_succ, List.nil_append, List.cons_append]
    refine wk_pick true (.bool true) rfl rfl rfl rfl rfl ?_
    dsimp only [putL, setL, List.set_cons_zero, List.set_cons_succ, List.nil_append, List.cons_append]
    refine wk_assign (.bool true) rfl rfl rfl rfl ?_
    dsimp only [putL, setL, List.set_cons_zero, List.set_cons_succ, List.nil_append, List.cons_append]
    refine wk_nil ?_
    refine sp_ret rfl ?_
    exact ret_tmps (v := (.bool true)) (fun w' => by kernel_rfl) fun w' hw => ⟨rfl, hw.below⟩

set_option maxRecDepth 100000 in
theorem fieldRing_lifted (os : Os) (started : os.Started) (H : Type) (enc : TypeId × Value → H) :
    ReturnsInHanded {} Try.checked os 12 .any (Rows.fieldRingSpec.pre6 enc Try.prog Try.f12 Rows.fieldRingRow.domain false) (Rows.fieldRingSpec.post enc Try.prog Try.f12 false true false false) := by
  refine returnsInHanded_of_change (C := Try.checked) own started (by kernel_rfl) Try.func12
    (ChangeSpec.witness6 (enc := enc) (C := Try.checked) false ⟨#[], #[.int .i64 0, .agg #[.int .u64 0, .int .u64 0, .int .u64 0, .int .u64 0], .agg #[.int .u64 0, .int .u64 0, .int .u64 0, .int .u64 0], .agg #[.int .u64 0, .int .u64 0, .int .u64 0, .int .u64 0]], []⟩ 8 (by kernel_rfl) (by kernel_rfl) (by kernel_rfl) (by kernel_rfl)) ?_
  intro W base args ds gs before hval0 hW hcnd _
  have hval : ∀ (j : Nat) t v, Try.f12.params[j]? = some t → args[j]? = some v → Value.okWide Try.prog W .any base t v := hval0
  have hW' := hW
  obtain ⟨p, q, hA0, hV, rfl, hfz, hnd⟩ := hW
  have hA : DataW.TrodAll enc Try.prog W 0 (fun _ => true) true Try.f12.params.toList args.toList ds p := hA0
  rw [Try.params12] at hA hval
  obtain ⟨v0, vs0, d0, ds0, p0, q0, hargs, rfl, rfl, h0, r0⟩ := trodAll_cons hA
  obtain ⟨v1, vs1, d1, ds1, p1, q1, rfl, rfl, rfl, h1, r1⟩ := trodAll_cons r0
  obtain ⟨v2, vs2, d2, ds2, p2, q2, rfl, rfl, rfl, h2, r2⟩ := trodAll_cons r1
  obtain ⟨v3, vs3, d3, ds3, p3, q3, rfl, rfl, rfl, h3, r3⟩ := trodAll_cons r2
  obtain ⟨rfl, rfl, rfl⟩ := trodAll_nil r3
  obtain rfl : args = #[v0, v1, v2, v3] := by cases args; simp_all
  obtain ⟨rfl, rfl⟩ := trodVars_none hV
  have k0 := h0
  have lt0 : ∀ x ∈ p0, x.block < W.heap.size := by obtain ⟨m, hm⟩ := k0; exact DataW.trod_lt m _ _ _ hm
  have k1 := h1
  have lt1 : ∀ x ∈ p1, x.block < W.heap.size := by obtain ⟨m, hm⟩ := k1; exact DataW.trod_lt m _ _ _ hm
  have k2 := h2
  have lt2 : ∀ x ∈ p2, x.block < W.heap.size := by obtain ⟨m, hm⟩ := k2; exact DataW.trod_lt m _ _ _ hm
  have k3 := h3
  have lt3 : ∀ x ∈ p3, x.block < W.heap.size := by obtain ⟨m, hm⟩ := k3; exact DataW.trod_lt m _ _ _ hm
  obtain ⟨which, rfl, rfl, rfl, w_which0⟩ := open_int Try.underlying3 (hval 0 3 v0 rfl rfl) h0; have w_which := wf_i64 w_which0
  obtain ⟨a, w_a, rfl⟩ := open_num (hval 1 24 v1 rfl rfl) h1
  obtain ⟨b, w_b, rfl⟩ := open_num (hval 2 24 v2 rfl rfl) h2
  obtain ⟨c, w_c, rfl⟩ := open_num (hval 3 24 v3 rfl rfl) h3
  clear hA0 hval0
  refine (fieldRing_walk which a b c w_which w_a w_b w_c W).mono fun e W' ⟨he, bel⟩ => ?_
  subst he
  exact ⟨_, rfl, _, _, _, [], _, [], hW', trodAll_mk1 (shut_bool Try.underlying4 _), (trodAll_cons_mk (Below.trod laidOut (by kernel_rfl) (of_decide_eq_true (by kernel_rfl)) k0 bel lt0) (trodAll_cons_mk (Below.trod laidOut (by kernel_rfl) (of_decide_eq_true (by kernel_rfl)) k1 bel lt1) (trodAll_cons_mk (Below.trod laidOut (by kernel_rfl) (of_decide_eq_true (by kernel_rfl)) k2 bel lt2) (trodAll_cons_mk (Below.trod laidOut (by kernel_rfl) (of_decide_eq_true (by kernel_rfl)) k3 bel lt3) trodAll_mk0)))), rfl, bel.frame _, fun h => by cases h⟩

theorem fieldRing_holds : Rows.FieldRingSaid :=
  OpenClaim.holds_of_wide 12 Try.f12 rfl rfl rfl rfl rfl rfl rfl ⟨rfl, rfl, rfl, rfl, rfl⟩ rfl rfl rfl rfl rfl (by kernel_rfl) Try.func12 (by kernel_rfl)
    (of_decide_eq_true (by kernel_rfl)) (by unfold Func.isWrapper; first | (rw [if_pos (by decide +kernel)]; kernel_rfl) | (rw [if_neg (by decide +kernel)]; exact ⟨rfl, rfl⟩))
    (fun os started H enc _ => fieldRing_lifted os started H enc)

end Go.Proofs.Ytmecomgifmkkfaa
