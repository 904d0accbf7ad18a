/- Sums, differences, products, quotients modulo n, in poly and in the page's poly. -/
import Derived.Test.YtmecomgifmkkfaaFieldL
import Derived.Test.YtmecomgifmkkfaaRefB
namespace Go.Proofs.Ytmecomgifmkkfaa
set_option linter.unusedVariables false
set_option linter.unusedSimpArgs false
open Go.RowKit

set_option maxRecDepth 20000 in
set_option maxHeartbeats 400000 in
theorem padd_calls (a b : Nat) (ha : a < W256) (hb : b < W256) (w : World) : Calls Try.prog 79 #[numV a, numV b] w fun r w' => r = .returned (numV ((a + b) % modW 1)) ∧ Below w.heap.size w w' := by
  refine fn_calls (l0 := [(numV a), (numV b), undef, undef, undef, undef, undef, undef]) Try.func79 rfl rfl [] (St.start w) ?_
  refine sp_seq rfl ?_
  refine sp_region (π := [0, 1, 2]) [] rfl rfl ?_
  refine wk_boxN a rfl rfl rfl fun β1 => ?_
  dsimp only [putL, setL, List.set_cons_zero, List.set_cons_succ, List.nil_append, List.cons_append]
  refine wk_boxN b rfl rfl rfl fun β2 => ?_
  dsimp only [putL, setL, List.set_cons_zero, List.set_cons_succ, List.nil_append, List.cons_append]
  refine wk_newN rfl rfl fun β3 => ?_
  dsimp only [putL, setL, List.set_cons_zero, List.set_cons_succ, List.nil_append, List.cons_append]
  refine wk_nil ?_
  refine sp_seq rfl ?_
  refine sp_region (π := [0, 1, 2, 3]) [] rfl rfl ?_
  refine wk_ldN 0 rfl rfl rfl rfl rfl ?_
  dsimp only [putL, setL, List.set_cons_zero, List.set_cons_succ, List.nil_append, List.cons_append]
  refine wk_ldN 1 rfl rfl rfl rfl rfl ?_
  dsimp only [putL, setL, List.set_cons_zero, List.set_cons_succ, List.nil_append, List.cons_append]
  refine wk_call [(.int .i64 1), (numV a), (numV b)] (numV ((a + b) % modW 1)) rfl rfl rfl (enters_of Try.func47 (by kernel_rfl) (by kernel_rfl)) rfl (fadd_ok 1 a b ok1 ha hb) ?_
  dsimp only [putL, setL, List.set_cons_zero, List.set_cons_succ, List.nil_append, List.cons_append]
  refine wk_stN 2 ((a + b) % modW 1) rfl rfl rfl rfl rfl rfl ?_
  dsimp only [putL, setL, List.set_cons_zero, List.set_cons_succ, List.nil_append, List.cons_append]
  refine wk_nil ?_
  refine sp_ret rfl ?_
  exact ret_numC 2 rfl rfl rfl fun w' hw => ⟨rfl, hw.below⟩

set_option maxRecDepth 20000 in
set_option maxHeartbeats 400000 in
theorem psub_calls (a b : Nat) (ha : a < W256) (hb : b < W256) (w : World) : Calls Try.prog 82 #[numV a, numV b] w fun r w' => r = .returned (numV (subM (modW 1) a b)) ∧ Below w.heap.size w w' := by
  refine fn_calls (l0 := [(numV a), (numV b), undef, undef, undef, undef, undef, undef]) Try.func82 rfl rfl [] (St.start w) ?_
  refine sp_seq rfl ?_
  refine sp_region (π := [0, 1, 2]) [] rfl rfl ?_
  refine wk_boxN a rfl rfl rfl fun β1 => ?_
  dsimp only [putL, setL, List.set_cons_zero, List.set_cons_succ, List.nil_append, List.cons_append]
  refine wk_boxN b rfl rfl rfl fun β2 => ?_
  dsimp only [putL, setL, List.set_cons_zero, List.set_cons_succ, List.nil_append, List.cons_append]
  refine wk_newN rfl rfl fun β3 => ?_
  dsimp only [putL, setL, List.set_cons_zero, List.set_cons_succ, List.nil_append, List.cons_append]
  refine wk_nil ?_
  refine sp_seq rfl ?_
  refine sp_region (π := [0, 1, 2, 3]) [] rfl rfl ?_
  refine wk_ldN 0 rfl rfl rfl rfl rfl ?_
  dsimp only [putL, setL, List.set_cons_zero, List.set_cons_succ, List.nil_append, List.cons_append]
  refine wk_ldN 1 rfl rfl rfl rfl rfl ?_
  dsimp only [putL, setL, List.set_cons_zero, List.set_cons_succ, List.nil_append, List.cons_append]
  refine wk_call [(.int .i64 1), (numV a), (numV b)] (numV (subM (modW 1) a b)) rfl rfl rfl (enters_of Try.func49 (by kernel_rfl) (by kernel_rfl)) rfl (fsub_ok 1 a b ok1 ha hb) ?_
  dsimp only [putL, setL, List.set_cons_zero, List.set_cons_succ, List.nil_append, List.cons_append]
  refine wk_stN 2 (subM (modW 1) a b) rfl rfl rfl rfl rfl rfl ?_
  dsimp only [putL, setL, List.set_cons_zero, List.set_cons_succ, List.nil_append, List.cons_append]
  refine wk_nil ?_
  refine sp_ret rfl ?_
  exact ret_numC 2 rfl rfl rfl fun w' hw => ⟨rfl, hw.below⟩

set_option maxRecDepth 20000 in
set_option maxHeartbeats 400000 in
theorem pmul_calls (a b : Nat) (ha : a < W256) (hb : b < W256) (w : World) : Calls Try.prog 80 #[numV a, numV b] w fun r w' => r = .returned (numV (a * b % modW 1)) ∧ Below w.heap.size w w' := by
  refine fn_calls (l0 := [(numV a), (numV b), undef, undef, undef, undef, undef, undef]) Try.func80 rfl rfl [] (St.start w) ?_
  refine sp_seq rfl ?_
  refine sp_region (π := [0, 1, 2]) [] rfl rfl ?_
  refine wk_boxN a rfl rfl rfl fun β1 => ?_
  dsimp only [putL, setL, List.set_cons_zero, List.set_cons_succ, List.nil_append, List.cons_append]
  refine wk_boxN b rfl rfl rfl fun β2 => ?_
  dsimp only [putL, setL, List.set_cons_zero, List.set_cons_succ, List.nil_append, List.cons_append]
  refine wk_newN rfl rfl fun β3 => ?_
  dsimp only [putL, setL, List.set_cons_zero, List.set_cons_succ, List.nil_append, List.cons_append]
  refine wk_nil ?_
  refine sp_seq rfl ?_
  refine sp_region (π := [0, 1, 2, 3]) [] rfl rfl ?_
  refine wk_ldN 0 rfl rfl rfl rfl rfl ?_
  dsimp only [putL, setL, List.set_cons_zero, List.set_cons_succ, List.nil_append, List.cons_append]
  refine wk_ldN 1 rfl rfl rfl rfl rfl ?_
  dsimp only [putL, setL, List.set_cons_zero, List.set_cons_succ, List.nil_append, List.cons_append]
  refine wk_call [(.int .i64 1), (numV a), (numV b)] (numV (a * b % modW 1)) rfl rfl rfl (enters_of Try.func51 (by kernel_rfl) (by kernel_rfl)) rfl (fmul_ok 1 a b ok1 ha hb) ?_
  dsimp only [putL, setL, List.set_cons_zero, List.set_cons_succ, List.nil_append, List.cons_append]
  refine wk_stN 2 (a * b % modW 1) rfl rfl rfl rfl rfl rfl ?_
  dsimp only [putL, setL, List.set_cons_zero, List.set_cons_succ, List.nil_append, List.cons_append]
  refine wk_nil ?_
  refine sp_ret rfl ?_
  exact ret_numC 2 rfl rfl rfl fun w' hw => ⟨rfl, hw.below⟩

set_option maxRecDepth 20000 in
set_option maxHeartbeats 400000 in
theorem qadd_calls (a b : Nat) (ha : a < W256) (hb : b < W256) (w : World) : Calls Try.prog 85 #[numV a, numV b] w fun r w' => r = .returned (numV ((a + b) % modW 1)) ∧ Below w.heap.size w w' := by
  refine fn_calls (l0 := [(numV a), (numV b), undef, undef, undef, undef, undef, undef]) Try.func85 rfl rfl [] (St.start w) ?_
  refine sp_seq rfl ?_
  refine sp_region (π := [0, 1, 2]) [] rfl rfl ?_
  refine wk_boxN a rfl rfl rfl fun β1 => ?_
  dsimp only [putL, setL, List.set_cons_zero, List.set_cons_succ, List.nil_append, List.cons_append]
  refine wk_boxN b rfl rfl rfl fun β2 => ?_
  dsimp only [putL, setL, List.set_cons_zero, List.set_cons_succ, List.nil_append, List.cons_append]
  refine wk_newN rfl rfl fun β3 => ?_
  dsimp only [putL, setL, List.set_cons_zero, List.set_cons_succ, List.nil_append, List.cons_append]
  refine wk_nil ?_
  refine sp_seq rfl ?_
  refine sp_region (π := [0, 1, 2, 3]) [] rfl rfl ?_
  refine wk_ldN 0 rfl rfl rfl rfl rfl ?_
  dsimp only [putL, setL, List.set_cons_zero, List.set_cons_succ, List.nil_append, List.cons_append]
  refine wk_ldN 1 rfl rfl rfl rfl rfl ?_
  dsimp only [putL, setL, List.set_cons_zero, List.set_cons_succ, List.nil_append, List.cons_append]
  refine wk_call [(.int .i64 1), (numV a), (numV b)] (numV ((a + b) % modW 1)) rfl rfl rfl (enters_of Try.func48 (by kernel_rfl) (by kernel_rfl)) rfl (rfadd_ok 1 a b ok1 ha hb) ?_
  dsimp only [putL, setL, List.set_cons_zero, List.set_cons_succ, List.nil_append, List.cons_append]
  refine wk_stN 2 ((a + b) % modW 1) rfl rfl rfl rfl rfl rfl ?_
  dsimp only [putL, setL, List.set_cons_zero, List.set_cons_succ, List.nil_append, List.cons_append]
  refine wk_nil ?_
  refine sp_ret rfl ?_
  exact ret_numC 2 rfl rfl rfl fun w' hw => ⟨rfl, hw.below⟩

set_option maxRecDepth 20000 in
set_option maxHeartbeats 400000 in
theorem qsub_calls (a b : Nat) (ha : a < W256) (hb : b < W256) (w : World) : Calls Try.prog 87 #[numV a, numV b] w fun r w' => r = .returned (numV (subM (modW 1) a b)) ∧ Below w.heap.size w w' := by
  refine fn_calls (l0 := [(numV a), (numV b), undef, undef, undef, undef, undef, undef]) Try.func87 rfl rfl [] (St.start w) ?_
  refine sp_seq rfl ?_
  refine sp_region (π := [0, 1, 2]) [] rfl rfl ?_
  refine wk_boxN a rfl rfl rfl fun β1 => ?_
  dsimp only [putL, setL, List.set_cons_zero, List.set_cons_succ, List.nil_append, List.cons_append]
  refine wk_boxN b rfl rfl rfl fun β2 => ?_
  dsimp only [putL, setL, List.set_cons_zero, List.set_cons_succ, List.nil_append, List.cons_append]
  refine wk_newN rfl rfl fun β3 => ?_
  dsimp only [putL, setL, List.set_cons_zero, List.set_cons_succ, List.nil_append, List.cons_append]
  refine wk_nil ?_
  refine sp_seq rfl ?_
  refine sp_region (π := [0, 1, 2, 3]) [] rfl rfl ?_
  refine wk_ldN 0 rfl rfl rfl rfl rfl ?_
  dsimp only [putL, setL, List.set_cons_zero, List.set_cons_succ, List.nil_append, List.cons_append]
  refine wk_ldN 1 rfl rfl rfl rfl rfl ?_
  dsimp only [putL, setL, List.set_cons_zero, List.set_cons_succ, List.nil_append, List.cons_append]
  refine wk_call [(.int .i64 1), (numV a), (numV b)] (numV (subM (modW 1) a b)) rfl rfl rfl (enters_of Try.func50 (by kernel_rfl) (by kernel_rfl)) rfl (rfsub_ok 1 a b ok1 ha hb) ?_
  dsimp only [putL, setL, List.set_cons_zero, List.set_cons_succ, List.nil_append, List.cons_append]
  refine wk_stN 2 (subM (modW 1) a b) rfl rfl rfl rfl rfl rfl ?_
  dsimp only [putL, setL, List.set_cons_zero, List.set_cons_succ, List.nil_append, List.cons_append]
  refine wk_nil ?_
  refine sp_ret rfl ?_
  exact ret_numC 2 rfl rfl rfl fun w' hw => ⟨rfl, hw.below⟩

set_option maxRecDepth 20000 in
set_option maxHeartbeats 400000 in
theorem qmul_calls (a b : Nat) (ha : a < W256) (hb : b < W256) (w : World) : Calls Try.prog 86 #[numV a, numV b] w fun r w' => r = .returned (numV (a * b % modW 1)) ∧ Below w.heap.size w w' := by
  refine fn_calls (l0 := [(numV a), (numV b), undef, undef, undef, undef, undef, undef]) Try.func86 rfl rfl [] (St.start w) ?_
  refine sp_seq rfl ?_
  refine sp_region (π := [0, 1, 2]) [] rfl rfl ?_
  refine wk_boxN a rfl rfl rfl fun β1 => ?_
  dsimp only [putL, setL, List.set_cons_zero, List.set_cons_succ, List.nil_append, List.cons_append]
  refine wk_boxN b rfl rfl rfl fun β2 => ?_
  dsimp only [putL, setL, List.set_cons_zero, List.set_cons_succ, List.nil_append, List.cons_append]
  refine wk_newN rfl rfl fun β3 => ?_
  dsimp only [putL, setL, List.set_cons_zero, List.set_cons_succ, List.nil_append, List.cons_append]
  refine wk_nil ?_
  refine sp_seq rfl ?_
  refine sp_region (π := [0, 1, 2, 3]) [] rfl rfl ?_
  refine wk_ldN 0 rfl rfl rfl rfl rfl ?_
  dsimp only [putL, setL, List.set_cons_zero, List.set_cons_succ, List.nil_append, List.cons_append]
  refine wk_ldN 1 rfl rfl rfl rfl rfl ?_
  dsimp only [putL, setL, List.set_cons_zero, List.set_cons_succ, List.nil_append, List.cons_append]
  refine wk_call [(.int .i64 1), (numV a), (numV b)] (numV (a * b % modW 1)) rfl rfl rfl (enters_of Try.func52 (by kernel_rfl) (by kernel_rfl)) rfl (rfmul_ok 1 a b ok1 ha hb) ?_
  dsimp only [putL, setL, List.set_cons_zero, List.set_cons_succ, List.nil_append, List.cons_append]
  refine wk_stN 2 (a * b % modW 1) rfl rfl rfl rfl rfl rfl ?_
  dsimp only [putL, setL, List.set_cons_zero, List.set_cons_succ, List.nil_append, List.cons_append]
  refine wk_nil ?_
  refine sp_ret rfl ?_
  exact ret_numC 2 rfl rfl rfl fun w' hw => ⟨rfl, hw.below⟩

set_option maxRecDepth 20000 in
set_option maxHeartbeats 400000 in
theorem pdiv_calls (a b : Nat) (ha : a < W256) (hb : b < W256) (w : World) : Calls Try.prog 83 #[numV a, numV b] w fun r w' => r = .returned (numV (a * (b ^ (modW 1 - 2) % modW 1) % modW 1)) ∧ Below w.heap.size w w' := by
  refine fn_calls (l0 := [(numV a), (numV b), undef, undef, undef, undef, undef, undef, undef]) Try.func83 rfl rfl [] (St.start w) ?_
  refine sp_seq rfl ?_
  refine sp_region (π := [0, 1, 2]) [] rfl rfl ?_
  refine wk_boxN a rfl rfl rfl fun β1 => ?_
  dsimp only [putL, setL, List.set_cons_zero, List.set_cons_succ, List.nil_append, List.cons_append]
  refine wk_boxN b rfl rfl rfl fun β2 => ?_
  dsimp only [putL, setL, List.set_cons_zero, List.set_cons_succ, List.nil_append, List.cons_append]
  refine wk_newN rfl rfl fun β3 => ?_
  dsimp only [putL, setL, List.set_cons_zero, List.set_cons_succ, List.nil_append, List.cons_append]
  refine wk_nil ?_
  refine sp_seq rfl ?_
  refine sp_draw [0, 1, 2, 3, 4] [] mixed rfl (by kernel_rfl) (by kernel_rfl) ?_
  refine wk_ldN 0 rfl rfl rfl rfl rfl ?_
  dsimp only [putL, setL, List.set_cons_zero, List.set_cons_succ, List.nil_append, List.cons_append]
  refine wk_ldN 1 rfl rfl rfl rfl rfl ?_
  dsimp only [putL, setL, List.set_cons_zero, List.set_cons_succ, List.nil_append, List.cons_append]
  refine wk_call [(.int .i64 1), (numV b)] (numV (b ^ (modW 1 - 2) % modW 1)) rfl rfl rfl (enters_of Try.func56 (by kernel_rfl) (by kernel_rfl)) rfl (finv_ok 1 b ok1 hb) ?_
  dsimp only [putL, setL, List.set_cons_zero, List.set_cons_succ, List.nil_append, List.cons_append]
  refine wk_call [(numV a), (numV (b ^ (modW 1 - 2) % modW 1))] (numV (a * (b ^ (modW 1 - 2) % modW 1) % modW 1)) rfl rfl rfl (enters_of Try.func80 (by kernel_rfl) (by kernel_rfl)) rfl (pmul_calls a (b ^ (modW 1 - 2) % modW 1) ha (Nat.lt_trans (Nat.mod_lt _ (modW_pos ok1)) (modW_lt 1))) ?_
  dsimp only [putL, setL, List.set_cons_zero, List.set_cons_succ, List.nil_append, List.cons_append]
  refine wk_stN 2 (a * (b ^ (modW 1 - 2) % modW 1) % modW 1) rfl rfl rfl rfl rfl rfl ?_
  dsimp only [putL, setL, List.set_cons_zero, List.set_cons_succ, List.nil_append, List.cons_append]
  refine wk_nil ?_
  refine sp_ret rfl ?_
  exact ret_numC 2 rfl rfl rfl fun w' hw => ⟨rfl, hw.below⟩

end Go.Proofs.Ytmecomgifmkkfaa
