/- Sums, differences, products, what is left, modulo either prime, by the program: what each call answers. -/
import Derived.Test.YtmecomgifmkkfaaFieldA
import Derived.Test.YtmecomgifmkkfaaSymN
namespace Go.Proofs.Ytmecomgifmkkfaa
set_option linter.unusedVariables false
set_option linter.unusedSimpArgs false
open Go.RowKit

theorem red_eq {a c m : Nat} (hm : W256 - c = m) : (0 * W256 + a) % (W256 - c) = a % m := by rw [hm, Nat.zero_mul, Nat.zero_add]
theorem wide_eq {x s c m v : Nat} (hm : W256 - c = m) (hs : s = v % W256) (hx : x = v / W256) : (x * W256 + s) % (W256 - c) = v % m := by
  have e1 : x * W256 + s = v := by rw [hs, hx, Nat.mul_comm, Nat.div_add_mod]
  rw [hm, e1]
/-- A difference, as the program works it out. -/
def subM (m a b : Nat) : Nat := (a + (m - b % m)) % m
theorem subM_lt {m a b : Nat} (h : 0 < m) : subM m a b < m := Nat.mod_lt _ h

set_option maxRecDepth 20000 in
set_option maxHeartbeats 400000 in
theorem red_no (which : Int) (a : Nat) (h : ¬ okW which) (w : World) : Calls Try.prog 45 #[.int .i64 which, numV a] w fun r w' => r = .returned (numV 0) ∧ Below w.heap.size w w' := by
  refine fn_calls (l0 := [(.int .i64 which), (numV a), undef, undef, undef, undef, undef, undef, undef, undef, undef, undef, undef, undef, undef, undef, undef, undef, undef]) Try.func45 rfl rfl [] (St.start w) ?_
  refine sp_seq rfl ?_
  refine sp_region (π := [0, 1]) [] rfl rfl ?_
  refine wk_boxN a rfl rfl rfl fun β1 => ?_
  dsimp only [putL, setL, List.set_cons_zero, List.set_cons_succ, List.nil_append, List.cons_append]
  refine wk_newN rfl rfl fun β2 => ?_
  dsimp only [putL, setL, List.set_cons_zero, List.set_cons_succ, List.nil_append, List.cons_append]
  refine wk_nil ?_
  refine sp_seq rfl ?_
  refine sp_region (π := [0, 1, 2, 3, 4, 5, 6, 7]) [] rfl rfl ?_
  refine wk_move (.int .i64 which) rfl rfl rfl rfl ?_
  dsimp only [putL, setL, List.set_cons_zero, List.set_cons_succ, List.nil_append, List.cons_append]
  refine wk_call [(.int .i64 which)] (.tuple #[(numV 0), (.bool false)]) rfl rfl rfl (enters_of Try.func74 (by kernel_rfl) (by kernel_rfl)) rfl (less_no which h) ?_
  dsimp only [putL, setL, List.set_cons_zero, List.set_cons_succ, List.nil_append, List.cons_append]
  refine wk_move (.tuple #[(numV 0), (.bool false)]) rfl rfl rfl rfl ?_
  dsimp only [putL, setL, List.set_cons_zero, List.set_cons_succ, List.nil_append, List.cons_append]
  refine wk_ext (numV 0) rfl rfl rfl rfl rfl ?_
  dsimp only [putL, setL, List.set_cons_zero, List.set_cons_succ, List.nil_append, List.cons_append]
  refine wk_ext (.bool false) rfl rfl rfl rfl rfl ?_
  dsimp only [putL, setL, List.set_cons_zero, List.set_cons_succ, List.nil_append, List.cons_append]
  refine wk_newN rfl rfl fun β3 => ?_
  dsimp only [putL, setL, List.set_cons_zero, List.set_cons_succ, List.nil_append, List.cons_append]
  refine wk_stN 2 0 rfl rfl rfl rfl rfl rfl ?_
  dsimp only [putL, setL, List.set_cons_zero, List.set_cons_succ, List.nil_append, List.cons_append]
  refine wk_assign (.bool false) rfl rfl rfl rfl ?_
  dsimp only [putL, setL, List.set_cons_zero, List.set_cons_succ, List.nil_append, List.cons_append]
  refine wk_nil ?_
  refine sp_seq rfl ?_
  refine sp_seq rfl ?_
  refine sp_region (π := [0, 1]) [] rfl rfl ?_
  refine wk_move (.bool false) rfl rfl rfl rfl ?_
  dsimp only [putL, setL, List.set_cons_zero, List.set_cons_succ, List.nil_append, List.cons_append]
  refine wk_not false rfl rfl rfl rfl ?_
  dsimp only [putL, setL, List.set_cons_zero, List.set_cons_succ, List.nil_append, List.cons_append]
  refine wk_nil ?_
  refine sp_true rfl rfl ?_
  refine sp_seq rfl ?_
  refine sp_region (π := [0, 1]) [] rfl rfl ?_
  refine wk_val (numV 0) rfl rfl rfl (fun w => by kernel_rfl) ?_
  dsimp only [putL, setL, List.set_cons_zero, List.set_cons_succ, List.nil_append, List.cons_append]
  refine wk_stN 1 0 rfl rfl rfl rfl rfl rfl ?_
  dsimp only [putL, setL, List.set_cons_zero, List.set_cons_succ, List.nil_append, List.cons_append]
  refine wk_nil ?_
  refine sp_ret rfl ?_
  exact ret_numC 1 rfl rfl rfl fun w' hw => ⟨rfl, hw.below⟩

set_option maxRecDepth 20000 in
set_option maxHeartbeats 400000 in
theorem fadd_no (which : Int) (a b : Nat) (h : ¬ okW which) (w : World) : Calls Try.prog 47 #[.int .i64 which, numV a, numV b] w fun r w' => r = .returned (numV 0) ∧ Below w.heap.size w w' := by
  refine fn_calls (l0 := [(.int .i64 which), (numV a), (numV b), undef, undef, undef, undef, undef, undef, undef, undef, undef, undef, undef, undef, undef, undef, undef, undef, undef, undef, undef, undef, undef, undef, undef, undef, undef, undef, undef]) Try.func47 rfl rfl [] (St.start w) ?_
  refine sp_seq rfl ?_
  refine sp_region (π := [0, 1, 2]) [] rfl rfl ?_
  refine wk_boxN a rfl rfl rfl fun β1 => ?_
  dsimp only [putL, setL, List.set_cons_zero, List.set_cons_succ, List.nil_append, List.cons_append]
  refine wk_boxN b rfl rfl rfl fun β2 => ?_
  dsimp only [putL, setL, List.set_cons_zero, List.set_cons_succ, List.nil_append, List.cons_append]
  refine wk_newN rfl rfl fun β3 => ?_
  dsimp only [putL, setL, List.set_cons_zero, List.set_cons_succ, List.nil_append, List.cons_append]
  refine wk_nil ?_
  refine sp_seq rfl ?_
  refine sp_region (π := [0, 1, 2, 3, 4, 5, 6, 7]) [] rfl rfl ?_
  refine wk_move (.int .i64 which) rfl rfl rfl rfl ?_
  dsimp only [putL, setL, List.set_cons_zero, List.set_cons_succ, List.nil_append, List.cons_append]
  refine wk_call [(.int .i64 which)] (.tuple #[(numV 0), (.bool false)]) rfl rfl rfl (enters_of Try.func74 (by kernel_rfl) (by kernel_rfl)) rfl (less_no which h) ?_
  dsimp only [putL, setL, List.set_cons_zero, List.set_cons_succ, List.nil_append, List.cons_append]
  refine wk_move (.tuple #[(numV 0), (.bool false)]) rfl rfl rfl rfl ?_
  dsimp only [putL, setL, List.set_cons_zero, List.set_cons_succ, List.nil_append, List.cons_append]
  refine wk_ext (numV 0) rfl rfl rfl rfl rfl ?_
  dsimp only [putL, setL, List.set_cons_zero, List.set_cons_succ, List.nil_append, List.cons_append]
  refine wk_ext (.bool false) rfl rfl rfl rfl rfl ?_
  dsimp only [putL, setL, List.set_cons_zero, List.set_cons_succ, List.nil_append, List.cons_append]
  refine wk_newN rfl rfl fun β4 => ?_
  dsimp only [putL, setL, List.set_cons_zero, List.set_cons_succ, List.nil_append, List.cons_append]
  refine wk_stN 3 0 rfl rfl rfl rfl rfl rfl ?_
  dsimp only [putL, setL, List.set_cons_zero, List.set_cons_succ, List.nil_append, List.cons_append]
  refine wk_assign (.bool false) rfl rfl rfl rfl ?_
  dsimp only [putL, setL, List.set_cons_zero, List.set_cons_succ, List.nil_append, List.cons_append]
  refine wk_nil ?_
  refine sp_seq rfl ?_
  refine sp_seq rfl ?_
  refine sp_region (π := [0, 1]) [] rfl rfl ?_
  refine wk_move (.bool false) rfl rfl rfl rfl ?_
  dsimp only [putL, setL, List.set_cons_zero, List.set_cons_succ, List.nil_append, List.cons_append]
  refine wk_not false rfl rfl rfl rfl ?_
  dsimp only [putL, setL, List.set_cons_zero, List.set_cons_succ, List.nil_append, List.cons_append]
  refine wk_nil ?_
  refine sp_true rfl rfl ?_
  refine sp_seq rfl ?_
  refine sp_region (π := [0, 1]) [] rfl rfl ?_
  refine wk_val (numV 0) rfl rfl rfl (fun w => by kernel_rfl) ?_
  dsimp only [putL, setL, List.set_cons_zero, List.set_cons_succ, List.nil_append, List.cons_append]
  refine wk_stN 2 0 rfl rfl rfl rfl rfl rfl ?_
  dsimp only [putL, setL, List.set_cons_zero, List.set_cons_succ, List.nil_append, List.cons_append]
  refine wk_nil ?_
  refine sp_ret rfl ?_
  exact ret_numC 2 rfl rfl rfl fun w' hw => ⟨rfl, hw.below⟩

set_option maxRecDepth 20000 in
set_option maxHeartbeats 400000 in
theorem fmul_no (which : Int) (a b : Nat) (h : ¬ okW which) (w : World) : Calls Try.prog 51 #[.int .i64 which, numV a, numV b] w fun r w' => r = .returned (numV 0) ∧ Below w.heap.size w w' := by
  refine fn_calls (l0 := [(.int .i64 which), (numV a), (numV b), undef, undef, undef, undef, undef, undef, undef, undef, undef, undef, undef, undef, undef, undef, undef, undef, undef, undef, undef, undef, undef, undef, undef, undef, undef, undef]) Try.func51 rfl rfl [] (St.start w) ?_
  refine sp_seq rfl ?_
  refine sp_region (π := [0, 1, 2]) [] rfl rfl ?_
  refine wk_boxN a rfl rfl rfl fun β1 => ?_
  dsimp only [putL, setL, List.set_cons_zero, List.set_cons_succ, List.nil_append, List.cons_append]
  refine wk_boxN b rfl rfl rfl fun β2 => ?_
  dsimp only [putL, setL, List.set_cons_zero, List.set_cons_succ, List.nil_append, List.cons_append]
  refine wk_newN rfl rfl fun β3 => ?_
  dsimp only [putL, setL, List.set_cons_zero, List.set_cons_succ, List.nil_append, List.cons_append]
  refine wk_nil ?_
  refine sp_seq rfl ?_
  refine sp_region (π := [0, 1, 2, 3, 4, 5, 6, 7]) [] rfl rfl ?_
  refine wk_move (.int .i64 which) rfl rfl rfl rfl ?_
  dsimp only [putL, setL, List.set_cons_zero, List.set_cons_succ, List.nil_append, List.cons_append]
  refine wk_call [(.int .i64 which)] (.tuple #[(numV 0), (.bool false)]) rfl rfl rfl (enters_of Try.func74 (by kernel_rfl) (by kernel_rfl)) rfl (less_no which h) ?_
  dsimp only [putL, setL, List.set_cons_zero, List.set_cons_succ, List.nil_append, List.cons_append]
  refine wk_move (.tuple #[(numV 0), (.bool false)]) rfl rfl rfl rfl ?_
  dsimp only [putL, setL, List.set_cons_zero, List.set_cons_succ, List.nil_append, List.cons_append]
  refine wk_ext (numV 0) rfl rfl rfl rfl rfl ?_
  dsimp only [putL, setL, List.set_cons_zero, List.set_cons_succ, List.nil_append, List.cons_append]
  refine wk_ext (.bool false) rfl rfl rfl rfl rfl ?_
  dsimp only [putL, setL, List.set_cons_zero, List.set_cons_succ, List.nil_append, List.cons_append]
  refine wk_newN rfl rfl fun β4 => ?_
  dsimp only [putL, setL, List.set_cons_zero, List.set_cons_succ, List.nil_append, List.cons_append]
  refine wk_stN 3 0 rfl rfl rfl rfl rfl rfl ?_
  dsimp only [putL, setL, List.set_cons_zero, List.set_cons_succ, List.nil_append, List.cons_append]
  refine wk_assign (.bool false) rfl rfl rfl rfl ?_
  dsimp only [putL, setL, List.set_cons_zero, List.set_cons_succ, List.nil_append, List.cons_append]
  refine wk_nil ?_
  refine sp_seq rfl ?_
  refine sp_seq rfl ?_
  refine sp_region (π := [0, 1]) [] rfl rfl ?_
  refine wk_move (.bool false) rfl rfl rfl rfl ?_
  dsimp only [putL, setL, List.set_cons_zero, List.set_cons_succ, List.nil_append, List.cons_append]
  refine wk_not false rfl rfl rfl rfl ?_
  dsimp only [putL, setL, List.set_cons_zero, List.set_cons_succ, List.nil_append, List.cons_append]
  refine wk_nil ?_
  refine sp_true rfl rfl ?_
  refine sp_seq rfl ?_
  refine sp_region (π := [0, 1]) [] rfl rfl ?_
  refine wk_val (numV 0) rfl rfl rfl (fun w => by kernel_rfl) ?_
  dsimp only [putL, setL, List.set_cons_zero, List.set_cons_succ, List.nil_append, List.cons_append]
  refine wk_stN 2 0 rfl rfl rfl rfl rfl rfl ?_
  dsimp only [putL, setL, List.set_cons_zero, List.set_cons_succ, List.nil_append, List.cons_append]
  refine wk_nil ?_
  refine sp_ret rfl ?_
  exact ret_numC 2 rfl rfl rfl fun w' hw => ⟨rfl, hw.below⟩

set_option maxRecDepth 20000 in
set_option maxHeartbeats 400000 in
theorem fsub_no (which : Int) (a b : Nat) (h : ¬ okW which) (w : World) : Calls Try.prog 49 #[.int .i64 which, numV a, numV b] w fun r w' => r = .returned (numV 0) ∧ Below w.heap.size w w' := by
  refine fn_calls (l0 := [(.int .i64 which), (numV a), (numV b), undef, undef, undef, undef, undef, undef, undef, undef, undef, undef, undef, undef, undef, undef, undef, undef, undef, undef, undef, undef, undef, undef, undef, undef, undef, undef, undef, undef, undef]) Try.func49 rfl rfl [] (St.start w) ?_
  refine sp_seq rfl ?_
  refine sp_region (π := [0, 1, 2]) [] rfl rfl ?_
  refine wk_boxN a rfl rfl rfl fun β1 => ?_
  dsimp only [putL, setL, List.set_cons_zero, List.set_cons_succ, List.nil_append, List.cons_append]
  refine wk_boxN b rfl rfl rfl fun β2 => ?_
  dsimp only [putL, setL, List.set_cons_zero, List.set_cons_succ, List.nil_append, List.cons_append]
  refine wk_newN rfl rfl fun β3 => ?_
  dsimp only [putL, setL, List.set_cons_zero, List.set_cons_succ, List.nil_append, List.cons_append]
  refine wk_nil ?_
  refine sp_seq rfl ?_
  refine sp_region (π := [0, 1, 2, 3, 4, 5, 6, 7]) [] rfl rfl ?_
  refine wk_move (.int .i64 which) rfl rfl rfl rfl ?_
  dsimp only [putL, setL, List.set_cons_zero, List.set_cons_succ, List.nil_append, List.cons_append]
  refine wk_call [(.int .i64 which)] (.tuple #[(numV 0), (.bool false)]) rfl rfl rfl (enters_of Try.func74 (by kernel_rfl) (by kernel_rfl)) rfl (less_no which h) ?_
  dsimp only [putL, setL, List.set_cons_zero, List.set_cons_succ, List.nil_append, List.cons_append]
  refine wk_move (.tuple #[(numV 0), (.bool false)]) rfl rfl rfl rfl ?_
  dsimp only [putL, setL, List.set_cons_zero, List.set_cons_succ, List.nil_append, List.cons_append]
  refine wk_ext (numV 0) rfl rfl rfl rfl rfl ?_
  dsimp only [putL, setL, List.set_cons_zero, List.set_cons_succ, List.nil_append, List.cons_append]
  refine wk_ext (.bool false) rfl rfl rfl rfl rfl ?_
  dsimp only [putL, setL, List.set_cons_zero, List.set_cons_succ, List.nil_append, List.cons_append]
  refine wk_newN rfl rfl fun β4 => ?_
  dsimp only [putL, setL, List.set_cons_zero, List.set_cons_succ, List.nil_append, List.cons_append]
  refine wk_stN 3 0 rfl rfl rfl rfl rfl rfl ?_
  dsimp only [putL, setL, List.set_cons_zero, List.set_cons_succ, List.nil_append, List.cons_append]
  refine wk_assign (.bool false) rfl rfl rfl rfl ?_
  dsimp only [putL, setL, List.set_cons_zero, List.set_cons_succ, List.nil_append, List.cons_append]
  refine wk_nil ?_
  refine sp_seq rfl ?_
  refine sp_seq rfl ?_
  refine sp_region (π := [0, 1]) [] rfl rfl ?_
  refine wk_move (.bool false) rfl rfl rfl rfl ?_
  dsimp only [putL, setL, List.set_cons_zero, List.set_cons_succ, List.nil_append, List.cons_append]
  refine wk_not false rfl rfl rfl rfl ?_
  dsimp only [putL, setL, List.set_cons_zero, List.set_cons_succ, List.nil_append, List.cons_append]
  refine wk_nil ?_
  refine sp_true rfl rfl ?_
  refine sp_seq rfl ?_
  refine sp_region (π := [0, 1]) [] rfl rfl ?_
  refine wk_val (numV 0) rfl rfl rfl (fun w => by kernel_rfl) ?_
  dsimp only [putL, setL, List.set_cons_zero, List.set_cons_succ, List.nil_append, List.cons_append]
  refine wk_stN 2 0 rfl rfl rfl rfl rfl rfl ?_
  dsimp only [putL, setL, List.set_cons_zero, List.set_cons_succ, List.nil_append, List.cons_append]
  refine wk_nil ?_
  refine sp_ret rfl ?_
  exact ret_numC 2 rfl rfl rfl fun w' hw => ⟨rfl, hw.below⟩

set_option maxRecDepth 20000 in
set_option maxHeartbeats 400000 in
theorem red_ok (which : Int) (a : Nat) (h : okW which) (ha : a < W256) (w : World) : Calls Try.prog 45 #[.int .i64 which, numV a] w fun r w' => r = .returned (numV (a % modW which)) ∧ Below w.heap.size w w' := by
  refine fn_calls (l0 := [(.int .i64 which), (numV a), undef, undef, undef, undef, undef, undef, undef, undef, undef, undef, undef, undef, undef, undef, undef, undef, undef]) Try.func45 rfl rfl [] (St.start w) ?_
  refine sp_seq rfl ?_
  refine sp_region (π := [0, 1]) [] rfl rfl ?_
  refine wk_boxN a rfl rfl rfl fun β1 => ?_
  dsimp only [putL, setL, List.set_cons_zero, List.set_cons_succ, List.nil_append, List.cons_append]
  refine wk_newN rfl rfl fun β2 => ?_
  dsimp only [putL, setL, List.set_cons_zero, List.set_cons_succ, List.nil_append, List.cons_append]
  refine wk_nil ?_
  refine sp_seq rfl ?_
  refine sp_region (π := [0, 1, 2, 3, 4, 5, 6, 7]) [] rfl rfl ?_
  refine wk_move (.int .i64 which) rfl rfl rfl rfl ?_
  dsimp only [putL, setL, List.set_cons_zero, List.set_cons_succ, List.nil_append, List.cons_append]
  refine wk_call [(.int .i64 which)] (.tuple #[(numV (lessW which)), (.bool true)]) rfl rfl rfl (enters_of Try.func74 (by kernel_rfl) (by kernel_rfl)) rfl (less_ok which h) ?_
  dsimp only [putL, setL, List.set_cons_zero, List.set_cons_succ, List.nil_append, List.cons_append]
  refine wk_move (.tuple #[(numV (lessW which)), (.bool true)]) rfl rfl rfl rfl ?_
  dsimp only [putL, setL, List.set_cons_zero, List.set_cons_succ, List.nil_append, List.cons_append]
  refine wk_ext (numV (lessW which)) rfl rfl rfl rfl rfl ?_
  dsimp only [putL, setL, List.set_cons_zero, List.set_cons_succ, List.nil_append, List.cons_append]
  refine wk_ext (.bool true) rfl rfl rfl rfl rfl ?_
  dsimp only [putL, setL, List.set_cons_zero, List.set_cons_succ, List.nil_append, List.cons_append]
  refine wk_newN rfl rfl fun β3 => ?_
  dsimp only [putL, setL, List.set_cons_zero, List.set_cons_succ, List.nil_append, List.cons_append]
  refine wk_stN 2 (lessW which) rfl rfl rfl rfl rfl rfl ?_
  dsimp only [putL, setL, List.set_cons_zero, List.set_cons_succ, List.nil_append, List.cons_append]
  refine wk_assign (.bool true) rfl rfl rfl rfl ?_
  dsimp only [putL, setL, List.set_cons_zero, List.set_cons_succ, List.nil_append, List.cons_append]
  refine wk_nil ?_
  refine sp_seq rfl ?_
  refine sp_seq rfl ?_
  refine sp_region (π := [0, 1]) [] rfl rfl ?_
  refine wk_move (.bool true) rfl rfl rfl rfl ?_
  dsimp only [putL, setL, List.set_cons_zero, List.set_cons_succ, List.nil_append, List.cons_append]
  refine wk_not true rfl rfl rfl rfl ?_
  dsimp only [putL, setL, List.set_cons_zero, List.set_cons_succ, List.nil_append, List.cons_append]
  refine wk_nil ?_
  refine sp_false rfl rfl ?_
  refine sp_skip rfl ?_
  refine sp_seq rfl ?_
  refine sp_region (π := [0, 1, 2, 3, 4]) [] rfl rfl ?_
  refine wk_ldN 0 rfl rfl rfl rfl rfl ?_
  dsimp only [putL, setL, List.set_cons_zero, List.set_cons_succ, List.nil_append, List.cons_append]
  refine wk_val (numV 0) rfl rfl rfl (fun w => by kernel_rfl) ?_
  dsimp only [putL, setL, List.set_cons_zero, List.set_cons_succ, List.nil_append, List.cons_append]
  refine wk_ldN 2 rfl rfl rfl rfl rfl ?_
  dsimp only [putL, setL, List.set_cons_zero, List.set_cons_succ, List.nil_append, List.cons_append]
  refine wk_call [(numV a), (numV 0), (numV (lessW which))] (numV (a % modW which)) rfl rfl rfl (enters_of Try.func76 (by kernel_rfl) (by kernel_rfl)) rfl (conv (congrArg numV (red_eq (lessW_ok h).1)) (fold_calls a 0 (lessW which) ha (by decide) (lessW_ok h).2.2.1 (lessW_ok h).2.1)) ?_
  dsimp only [putL, setL, List.set_cons_zero, List.set_cons_succ, List.nil_append, List.cons_append]
  refine wk_stN 1 (a % modW which) rfl rfl rfl rfl rfl rfl ?_
  dsimp only [putL, setL, List.set_cons_zero, List.set_cons_succ, List.nil_append, List.cons_append]
  refine wk_nil ?_
  refine sp_ret rfl ?_
  exact ret_numC 1 rfl rfl rfl fun w' hw => ⟨rfl, hw.below⟩

set_option maxRecDepth 20000 in
set_option maxHeartbeats 400000 in
theorem fadd_ok (which : Int) (a b : Nat) (h : okW which) (ha : a < W256) (hb : b < W256) (w : World) : Calls Try.prog 47 #[.int .i64 which, numV a, numV b] w fun r w' => r = .returned (numV ((a + b) % modW which)) ∧ Below w.heap.size w w' := by
  obtain ⟨x, hx⟩ : ∃ x, x = (a + b) / W256 := ⟨_, rfl⟩
  have hx1 : x < 18446744073709551616 := by unfold W256 at *; omega
  refine fn_calls (l0 := [(.int .i64 which), (numV a), (numV b), undef, undef, undef, undef, undef, undef, undef, undef, undef, undef, undef, undef, undef, undef, undef, undef, undef, undef, undef, undef, undef, undef, undef, undef, undef, undef, undef]) Try.func47 rfl rfl [] (St.start w) ?_
  refine sp_seq rfl ?_
  refine sp_region (π := [0, 1, 2]) [] rfl rfl ?_
  refine wk_boxN a rfl rfl rfl fun β1 => ?_
  dsimp only [putL, setL, List.set_cons_zero, List.set_cons_succ, List.nil_append, List.cons_append]
  refine wk_boxN b rfl rfl rfl fun β2 => ?_
  dsimp only [putL, setL, List.set_cons_zero, List.set_cons_succ, List.nil_append, List.cons_append]
  refine wk_newN rfl rfl fun β3 => ?_
  dsimp only [putL, setL, List.set_cons_zero, List.set_cons_succ, List.nil_append, List.cons_append]
  refine wk_nil ?_
  refine sp_seq rfl ?_
  refine sp_region (π := [0, 1, 2, 3, 4, 5, 6, 7]) [] rfl rfl ?_
  refine wk_move (.int .i64 which) rfl rfl rfl rfl ?_
  dsimp only [putL, setL, List.set_cons_zero, List.set_cons_succ, List.nil_append, List.cons_append]
  refine wk_call [(.int .i64 which)] (.tuple #[(numV (lessW which)), (.bool true)]) rfl rfl rfl (enters_of Try.func74 (by kernel_rfl) (by kernel_rfl)) rfl (less_ok which h) ?_
  dsimp only [putL, setL, List.set_cons_zero, List.set_cons_succ, List.nil_append, List.cons_append]
  refine wk_move (.tuple #[(numV (lessW which)), (.bool true)]) rfl rfl rfl rfl ?_
  dsimp only [putL, setL, List.set_cons_zero, List.set_cons_succ, List.nil_append, List.cons_append]
  refine wk_ext (numV (lessW which)) rfl rfl rfl rfl rfl ?_
  dsimp only [putL, setL, List.set_cons_zero, List.set_cons_succ, List.nil_append, List.cons_append]
  refine wk_ext (.bool true) rfl rfl rfl rfl rfl ?_
  dsimp only [putL, setL, List.set_cons_zero, List.set_cons_succ, List.nil_append, List.cons_append]
  refine wk_newN rfl rfl fun β4 => ?_
  dsimp only [putL, setL, List.set_cons_zero, List.set_cons_succ, List.nil_append, List.cons_append]
  refine wk_stN 3 (lessW which) rfl rfl rfl rfl rfl rfl ?_
  dsimp only [putL, setL, List.set_cons_zero, List.set_cons_succ, List.nil_append, List.cons_append]
  refine wk_assign (.bool true) rfl rfl rfl rfl ?_
  dsimp only [putL, setL, List.set_cons_zero, List.set_cons_succ, List.nil_append, List.cons_append]
  refine wk_nil ?_
  refine sp_seq rfl ?_
  refine sp_seq rfl ?_
  refine sp_region (π := [0, 1]) [] rfl rfl ?_
  refine wk_move (.bool true) rfl rfl rfl rfl ?_
  dsimp only [putL, setL, List.set_cons_zero, List.set_cons_succ, List.nil_append, List.cons_append]
  refine wk_not true rfl rfl rfl rfl ?_
  dsimp only [putL, setL, List.set_cons_zero, List.set_cons_succ, List.nil_append, List.cons_append]
  refine wk_nil ?_
  refine sp_false rfl rfl ?_
  refine sp_skip rfl ?_
  refine sp_seq rfl ?_
  refine sp_region (π := [0, 1, 2, 3, 4, 5, 6, 7, 8]) [] rfl rfl ?_
  refine wk_ldN 0 rfl rfl rfl rfl rfl ?_
  dsimp only [putL, setL, List.set_cons_zero, List.set_cons_succ, List.nil_append, List.cons_append]
  refine wk_ldN 1 rfl rfl rfl rfl rfl ?_
  dsimp only [putL, setL, List.set_cons_zero, List.set_cons_succ, List.nil_append, List.cons_append]
  refine wk_call [(numV a), (numV b)] (.tuple #[(numV ((a + b) % W256)), (.int .u64 (x : Int))]) rfl rfl rfl (enters_of Try.func29 (by kernel_rfl) (by kernel_rfl)) rfl (conv (by rw [← hx]) (add_calls a b ha hb)) ?_
  dsimp only [putL, setL, List.set_cons_zero, List.set_cons_succ, List.nil_append, List.cons_append]
  refine wk_move (.tuple #[(numV ((a + b) % W256)), (.int .u64 (x : Int))]) rfl rfl rfl rfl ?_
  dsimp only [putL, setL, List.set_cons_zero, List.set_cons_succ, List.nil_append, List.cons_append]
  refine wk_ext (numV ((a + b) % W256)) rfl rfl rfl rfl rfl ?_
  dsimp only [putL, setL, List.set_cons_zero, List.set_cons_succ, List.nil_append, List.cons_append]
  refine wk_ext (.int .u64 (x : Int)) rfl rfl rfl rfl rfl ?_
  dsimp only [putL, setL, List.set_cons_zero, List.set_cons_succ, List.nil_append, List.cons_append]
  refine wk_newN rfl rfl fun β5 => ?_
  dsimp only [putL, setL, List.set_cons_zero, List.set_cons_succ, List.nil_append, List.cons_append]
  refine wk_stN 4 ((a + b) % W256) rfl rfl rfl rfl rfl rfl ?_
  dsimp only [putL, setL, List.set_cons_zero, List.set_cons_succ, List.nil_append, List.cons_append]
  refine wk_assign (.int .u64 (x : Int)) rfl rfl rfl rfl ?_
  dsimp only [putL, setL, List.set_cons_zero, List.set_cons_succ, List.nil_append, List.cons_append]
  refine wk_nil ?_
  refine sp_seq rfl ?_
  refine sp_region (π := [0, 1, 2, 3, 4, 5]) [] rfl rfl ?_
  refine wk_ldN 4 rfl rfl rfl rfl rfl ?_
  dsimp only [putL, setL, List.set_cons_zero, List.set_cons_succ, List.nil_append, List.cons_append]
  refine wk_move (.int .u64 (x : Int)) rfl rfl rfl rfl ?_
  dsimp only [putL, setL, List.set_cons_zero, List.set_cons_succ, List.nil_append, List.cons_append]
  refine wk_val (numV x) rfl rfl rfl (fun w => by rw [← one_digit hx1]; kernel_rfl) ?_
  dsimp only [putL, setL, List.set_cons_zero, List.set_cons_succ, List.nil_append, List.cons_append]
  refine wk_ldN 3 rfl rfl rfl rfl rfl ?_
  dsimp only [putL, setL, List.set_cons_zero, List.set_cons_succ, List.nil_append, List.cons_append]
  refine wk_call [(numV ((a + b) % W256)), (numV x), (numV (lessW which))] (numV ((a + b) % modW which)) rfl rfl rfl (enters_of Try.func76 (by kernel_rfl) (by kernel_rfl)) rfl (conv (congrArg numV (wide_eq (lessW_ok h).1 rfl hx)) (fold_calls ((a + b) % W256) x (lessW which) (Nat.mod_lt _ W256_pos) (Nat.lt_trans hx1 (by decide)) (lessW_ok h).2.2.1 (lessW_ok h).2.1)) ?_
  dsimp only [putL, setL, List.set_cons_zero, List.set_cons_succ, List.nil_append, List.cons_append]
  refine wk_stN 2 ((a + b) % modW which) rfl rfl rfl rfl rfl rfl ?_
  dsimp only [putL, setL, List.set_cons_zero, List.set_cons_succ, List.nil_append, List.cons_append]
  refine wk_nil ?_
  refine sp_ret rfl ?_
  exact ret_numC 2 rfl rfl rfl fun w' hw => ⟨rfl, hw.below⟩

set_option maxRecDepth 20000 in
set_option maxHeartbeats 400000 in
theorem fmul_ok (which : Int) (a b : Nat) (h : okW which) (ha : a < W256) (hb : b < W256) (w : World) : Calls Try.prog 51 #[.int .i64 which, numV a, numV b] w fun r w' => r = .returned (numV (a * b % modW which)) ∧ Below w.heap.size w w' := by
  refine fn_calls (l0 := [(.int .i64 which), (numV a), (numV b), undef, undef, undef, undef, undef, undef, undef, undef, undef, undef, undef, undef, undef, undef, undef, undef, undef, undef, undef, undef, undef, undef, undef, undef, undef, undef]) Try.func51 rfl rfl [] (St.start w) ?_
  refine sp_seq rfl ?_
  refine sp_region (π := [0, 1, 2]) [] rfl rfl ?_
  refine wk_boxN a rfl rfl rfl fun β1 => ?_
  dsimp only [putL, setL, List.set_cons_zero, List.set_cons_succ, List.nil_append, List.cons_append]
  refine wk_boxN b rfl rfl rfl fun β2 => ?_
  dsimp only [putL, setL, List.set_cons_zero, List.set_cons_succ, List.nil_append, List.cons_append]
  refine wk_newN rfl rfl fun β3 => ?_
  dsimp only [putL, setL, List.set_cons_zero, List.set_cons_succ, List.nil_append, List.cons_append]
  refine wk_nil ?_
  refine sp_seq rfl ?_
  refine sp_region (π := [0, 1, 2, 3, 4, 5, 6, 7]) [] rfl rfl ?_
  refine wk_move (.int .i64 which) rfl rfl rfl rfl ?_
  dsimp only [putL, setL, List.set_cons_zero, List.set_cons_succ, List.nil_append, List.cons_append]
  refine wk_call [(.int .i64 which)] (.tuple #[(numV (lessW which)), (.bool true)]) rfl rfl rfl (enters_of Try.func74 (by kernel_rfl) (by kernel_rfl)) rfl (less_ok which h) ?_
  dsimp only [putL, setL, List.set_cons_zero, List.set_cons_succ, List.nil_append, List.cons_append]
  refine wk_move (.tuple #[(numV (lessW which)), (.bool true)]) rfl rfl rfl rfl ?_
  dsimp only [putL, setL, List.set_cons_zero, List.set_cons_succ, List.nil_append, List.cons_append]
  refine wk_ext (numV (lessW which)) rfl rfl rfl rfl rfl ?_
  dsimp only [putL, setL, List.set_cons_zero, List.set_cons_succ, List.nil_append, List.cons_append]
  refine wk_ext (.bool true) rfl rfl rfl rfl rfl ?_
  dsimp only [putL, setL, List.set_cons_zero, List.set_cons_succ, List.nil_append, List.cons_append]
  refine wk_newN rfl rfl fun β4 => ?_
  dsimp only [putL, setL, List.set_cons_zero, List.set_cons_succ, List.nil_append, List.cons_append]
  refine wk_stN 3 (lessW which) rfl rfl rfl rfl rfl rfl ?_
  dsimp only [putL, setL, List.set_cons_zero, List.set_cons_succ, List.nil_append, List.cons_append]
  refine wk_assign (.bool true) rfl rfl rfl rfl ?_
  dsimp only [putL, setL, List.set_cons_zero, List.set_cons_succ, List.nil_append, List.cons_append]
  refine wk_nil ?_
  refine sp_seq rfl ?_
  refine sp_seq rfl ?_
  refine sp_region (π := [0, 1]) [] rfl rfl ?_
  refine wk_move (.bool true) rfl rfl rfl rfl ?_
  dsimp only [putL, setL, List.set_cons_zero, List.set_cons_succ, List.nil_append, List.cons_append]
  refine wk_not true rfl rfl rfl rfl ?_
  dsimp only [putL, setL, List.set_cons_zero, List.set_cons_succ, List.nil_append, List.cons_append]
  refine wk_nil ?_
  refine sp_false rfl rfl ?_
  refine sp_skip rfl ?_
  refine sp_seq rfl ?_
  refine sp_region (π := [0, 1, 2, 3, 4, 5, 6, 7, 8, 9]) [] rfl rfl ?_
  refine wk_ldN 0 rfl rfl rfl rfl rfl ?_
  dsimp only [putL, setL, List.set_cons_zero, List.set_cons_succ, List.nil_append, List.cons_append]
  refine wk_ldN 1 rfl rfl rfl rfl rfl ?_
  dsimp only [putL, setL, List.set_cons_zero, List.set_cons_succ, List.nil_append, List.cons_append]
  refine wk_call [(numV a), (numV b)] (.tuple #[(numV (a * b % W256)), (numV (a * b / W256))]) rfl rfl rfl (enters_of Try.func31 (by kernel_rfl) (by kernel_rfl)) rfl (mul_calls a b ha hb) ?_
  dsimp only [putL, setL, List.set_cons_zero, List.set_cons_succ, List.nil_append, List.cons_append]
  refine wk_move (.tuple #[(numV (a * b % W256)), (numV (a * b / W256))]) rfl rfl rfl rfl ?_
  dsimp only [putL, setL, List.set_cons_zero, List.set_cons_succ, List.nil_append, List.cons_append]
  refine wk_ext (numV (a * b % W256)) rfl rfl rfl rfl rfl ?_
  dsimp only [putL, setL, List.set_cons_zero, List.set_cons_succ, List.nil_append, List.cons_append]
  refine wk_ext (numV (a * b / W256)) rfl rfl rfl rfl rfl ?_
  dsimp only [putL, setL, List.set_cons_zero, List.set_cons_succ, List.nil_append, List.cons_append]
  refine wk_newN rfl rfl fun β5 => ?_
  dsimp only [putL, setL, List.set_cons_zero, List.set_cons_succ, List.nil_append, List.cons_append]
  refine wk_newN rfl rfl fun β6 => ?_
  dsimp only [putL, setL, List.set_cons_zero, List.set_cons_succ, List.nil_append, List.cons_append]
  refine wk_stN 4 (a * b % W256) rfl rfl rfl rfl rfl rfl ?_
  dsimp only [putL, setL, List.set_cons_zero, List.set_cons_succ, List.nil_append, List.cons_append]
  refine wk_stN 5 (a * b / W256) rfl rfl rfl rfl rfl rfl ?_
  dsimp only [putL, setL, List.set_cons_zero, List.set_cons_succ, List.nil_append, List.cons_append]
  refine wk_nil ?_
  refine sp_seq rfl ?_
  refine sp_region (π := [0, 1, 2, 3, 4]) [] rfl rfl ?_
  refine wk_ldN 4 rfl rfl rfl rfl rfl ?_
  dsimp only [putL, setL, List.set_cons_zero, List.set_cons_succ, List.nil_append, List.cons_append]
  refine wk_ldN 5 rfl rfl rfl rfl rfl ?_
  dsimp only [putL, setL, List.set_cons_zero, List.set_cons_succ, List.nil_append, List.cons_append]
  refine wk_ldN 3 rfl rfl rfl rfl rfl ?_
  dsimp only [putL, setL, List.set_cons_zero, List.set_cons_succ, List.nil_append, List.cons_append]
  refine wk_call [(numV (a * b % W256)), (numV (a * b / W256)), (numV (lessW which))] (numV (a * b % modW which)) rfl rfl rfl (enters_of Try.func76 (by kernel_rfl) (by kernel_rfl)) rfl (conv (congrArg numV (wide_eq (lessW_ok h).1 rfl rfl)) (fold_calls (a * b % W256) (a * b / W256) (lessW which) (Nat.mod_lt _ W256_pos) (mul_hi ha hb) (lessW_ok h).2.2.1 (lessW_ok h).2.1)) ?_
  dsimp only [putL, setL, List.set_cons_zero, List.set_cons_succ, List.nil_append, List.cons_append]
  refine wk_stN 2 (a * b % modW which) rfl rfl rfl rfl rfl rfl ?_
  dsimp only [putL, setL, List.set_cons_zero, List.set_cons_succ, List.nil_append, List.cons_append]
  refine wk_nil ?_
  refine sp_ret rfl ?_
  exact ret_numC 2 rfl rfl rfl fun w' hw => ⟨rfl, hw.below⟩

set_option maxRecDepth 20000 in
set_option maxHeartbeats 400000 in
theorem fsub_ok (which : Int) (a b : Nat) (h : okW which) (ha : a < W256) (hb : b < W256) (w : World) : Calls Try.prog 49 #[.int .i64 which, numV a, numV b] w fun r w' => r = .returned (numV (subM (modW which) a b)) ∧ Below w.heap.size w w' := by
  have hm := modW_lt which
  have h1 := Nat.mod_lt b (modW_pos h)
  have er : (modW which + W256 - b % modW which) % W256 = modW which - b % modW which := by
    rw [show modW which + W256 - b % modW which = (modW which - b % modW which) + W256 by omega, Nat.add_mod_right, Nat.mod_eq_of_lt (by omega)]
  have hr : modW which - b % modW which < W256 := by omega
  refine fn_calls (l0 := [(.int .i64 which), (numV a), (numV b), undef, undef, undef, undef, undef, undef, undef, undef, undef, undef, undef, undef, undef, undef, undef, undef, undef, undef, undef, undef, undef, undef, undef, undef, undef, undef, undef, undef, undef]) Try.func49 rfl rfl [] (St.start w) ?_
  refine sp_seq rfl ?_
  refine sp_region (π := [0, 1, 2]) [] rfl rfl ?_
  refine wk_boxN a rfl rfl rfl fun β1 => ?_
  dsimp only [putL, setL, List.set_cons_zero, List.set_cons_succ, List.nil_append, List.cons_append]
  refine wk_boxN b rfl rfl rfl fun β2 => ?_
  dsimp only [putL, setL, List.set_cons_zero, List.set_cons_succ, List.nil_append, List.cons_append]
  refine wk_newN rfl rfl fun β3 => ?_
  dsimp only [putL, setL, List.set_cons_zero, List.set_cons_succ, List.nil_append, List.cons_append]
  refine wk_nil ?_
  refine sp_seq rfl ?_
  refine sp_region (π := [0, 1, 2, 3, 4, 5, 6, 7]) [] rfl rfl ?_
  refine wk_move (.int .i64 which) rfl rfl rfl rfl ?_
  dsimp only [putL, setL, List.set_cons_zero, List.set_cons_succ, List.nil_append, List.cons_append]
  refine wk_call [(.int .i64 which)] (.tuple #[(numV (lessW which)), (.bool true)]) rfl rfl rfl (enters_of Try.func74 (by kernel_rfl) (by kernel_rfl)) rfl (less_ok which h) ?_
  dsimp only [putL, setL, List.set_cons_zero, List.set_cons_succ, List.nil_append, List.cons_append]
  refine wk_move (.tuple #[(numV (lessW which)), (.bool true)]) rfl rfl rfl rfl ?_
  dsimp only [putL, setL, List.set_cons_zero, List.set_cons_succ, List.nil_append, List.cons_append]
  refine wk_ext (numV (lessW which)) rfl rfl rfl rfl rfl ?_
  dsimp only [putL, setL, List.set_cons_zero, List.set_cons_succ, List.nil_append, List.cons_append]
  refine wk_ext (.bool true) rfl rfl rfl rfl rfl ?_
  dsimp only [putL, setL, List.set_cons_zero, List.set_cons_succ, List.nil_append, List.cons_append]
  refine wk_newN rfl rfl fun β4 => ?_
  dsimp only [putL, setL, List.set_cons_zero, List.set_cons_succ, List.nil_append, List.cons_append]
  refine wk_stN 3 (lessW which) rfl rfl rfl rfl rfl rfl ?_
  dsimp only [putL, setL, List.set_cons_zero, List.set_cons_succ, List.nil_append, List.cons_append]
  refine wk_assign (.bool true) rfl rfl rfl rfl ?_
  dsimp only [putL, setL, List.set_cons_zero, List.set_cons_succ, List.nil_append, List.cons_append]
  refine wk_nil ?_
  refine sp_seq rfl ?_
  refine sp_seq rfl ?_
  refine sp_region (π := [0, 1]) [] rfl rfl ?_
  refine wk_move (.bool true) rfl rfl rfl rfl ?_
  dsimp only [putL, setL, List.set_cons_zero, List.set_cons_succ, List.nil_append, List.cons_append]
  refine wk_not true rfl rfl rfl rfl ?_
  dsimp only [putL, setL, List.set_cons_zero, List.set_cons_succ, List.nil_append, List.cons_append]
  refine wk_nil ?_
  refine sp_false rfl rfl ?_
  refine sp_skip rfl ?_
  refine sp_seq rfl ?_
  refine sp_draw [0, 2, 3, 1, 4, 5, 6, 7, 8, 9, 10, 11] [] mixed rfl (by kernel_rfl) (by kernel_rfl) ?_
  refine wk_move (.int .i64 which) rfl rfl rfl rfl ?_
  dsimp only [putL, setL, List.set_cons_zero, List.set_cons_succ, List.nil_append, List.cons_append]
  refine wk_move (.int .i64 which) rfl rfl rfl rfl ?_
  dsimp only [putL, setL, List.set_cons_zero, List.set_cons_succ, List.nil_append, List.cons_append]
  refine wk_ldN 1 rfl rfl rfl rfl rfl ?_
  dsimp only [putL, setL, List.set_cons_zero, List.set_cons_succ, List.nil_append, List.cons_append]
  refine wk_call [(.int .i64 which)] (numV (modW which)) rfl rfl rfl (enters_of Try.func43 (by kernel_rfl) (by kernel_rfl)) rfl (prime_ok which h) ?_
  dsimp only [putL, setL, List.set_cons_zero, List.set_cons_succ, List.nil_append, List.cons_append]
  refine wk_call [(.int .i64 which), (numV b)] (numV (b % modW which)) rfl rfl rfl (enters_of Try.func45 (by kernel_rfl) (by kernel_rfl)) rfl (red_ok which b h hb) ?_
  dsimp only [putL, setL, List.set_cons_zero, List.set_cons_succ, List.nil_append, List.cons_append]
  refine wk_call [(numV (modW which)), (numV (b % modW which))] (.tuple #[(numV (modW which - b % modW which)), (.int .u64 ((if modW which < b % modW which then 1 else 0 : Nat) : Int))]) rfl rfl rfl (enters_of Try.func30 (by kernel_rfl) (by kernel_rfl)) rfl (conv (by rw [er]) (sub_calls (modW which) (b % modW which) hm (Nat.lt_trans (Nat.mod_lt _ (modW_pos h)) (modW_lt which)))) ?_
  dsimp only [putL, setL, List.set_cons_zero, List.set_cons_succ, List.nil_append, List.cons_append]
  refine wk_move (.tuple #[(numV (modW which - b % modW which)), (.int .u64 ((if modW which < b % modW which then 1 else 0 : Nat) : Int))]) rfl rfl rfl rfl ?_
  dsimp only [putL, setL, List.set_cons_zero, List.set_cons_succ, List.nil_append, List.cons_append]
  refine wk_ext (numV (modW which - b % modW which)) rfl rfl rfl rfl rfl ?_
  dsimp only [putL, setL, List.set_cons_zero, List.set_cons_succ, List.nil_append, List.cons_append]
  refine wk_ext (.int .u64 ((if modW which < b % modW which then 1 else 0 : Nat) : Int)) rfl rfl rfl rfl rfl ?_
  dsimp only [putL, setL, List.set_cons_zero, List.set_cons_succ, List.nil_append, List.cons_append]
  refine wk_newN rfl rfl fun β5 => ?_
  dsimp only [putL, setL, List.set_cons_zero, List.set_cons_succ, List.nil_append, List.cons_append]
  refine wk_stN 4 (modW which - b % modW which) rfl rfl rfl rfl rfl rfl ?_
  dsimp only [putL, setL, List.set_cons_zero, List.set_cons_succ, List.nil_append, List.cons_append]
  refine wk_assign (.int .u64 ((if modW which < b % modW which then 1 else 0 : Nat) : Int)) rfl rfl rfl rfl ?_
  dsimp only [putL, setL, List.set_cons_zero, List.set_cons_succ, List.nil_append, List.cons_append]
  refine wk_nil ?_
  refine sp_seq rfl ?_
  refine sp_region (π := [0, 1, 2, 3, 4]) [] rfl rfl ?_
  refine wk_move (.int .i64 which) rfl rfl rfl rfl ?_
  dsimp only [putL, setL, List.set_cons_zero, List.set_cons_succ, List.nil_append, List.cons_append]
  refine wk_ldN 0 rfl rfl rfl rfl rfl ?_
  dsimp only [putL, setL, List.set_cons_zero, List.set_cons_succ, List.nil_append, List.cons_append]
  refine wk_ldN 4 rfl rfl rfl rfl rfl ?_
  dsimp only [putL, setL, List.set_cons_zero, List.set_cons_succ, List.nil_append, List.cons_append]
  refine wk_call [(.int .i64 which), (numV a), (numV (modW which - b % modW which))] (numV (subM (modW which) a b)) rfl rfl rfl (enters_of Try.func47 (by kernel_rfl) (by kernel_rfl)) rfl (fadd_ok which a (modW which - b % modW which) h ha hr) ?_
  dsimp only [putL, setL, List.set_cons_zero, List.set_cons_succ, List.nil_append, List.cons_append]
  refine wk_stN 2 (subM (modW which) a b) rfl rfl rfl rfl rfl rfl ?_
  dsimp only [putL, setL, List.set_cons_zero, List.set_cons_succ, List.nil_append, List.cons_append]
  refine wk_nil ?_
  refine sp_ret rfl ?_
  exact ret_numC 2 rfl rfl rfl fun w' hw => ⟨rfl, hw.below⟩

end Go.Proofs.Ytmecomgifmkkfaa
