/- FieldReads: of any bytes the number that they are, if it is below the prime; what is told is its own bytes; for every input, no condition. -/
import Derived.Test.YtmecomgifmkkfaaSymC
import Derived.Test.YtmecomgifmkkfaaFieldD
import Derived.Test.YtmecomgifmkkfaaRefB
import Derived.Test.YtmecomgifmkkfaaLimbM
import Derived.Test.YtmecomgifmkkfaaLimbG
import Derived.Test.YtmecomgifmkkfaaLimbB
import Derived.Test.YtmecomgifmkkfaaSymB
import Derived.Test.YtmecomgifmkkfaaRows
import Derived.Test.YtmecomgifmkkfaaOpen
import Derived.Test.YtmecomgifmkkfaaAux
import Derived.Test.YtmecomgifmkkfaaFieldL
import Derived.ProofKit
import Derived.OpenShut
namespace Go.Proofs.Ytmecomgifmkkfaa
set_option linter.unusedVariables false
set_option linter.unusedSimpArgs false
open Go.ChangeShapes Go.WideShapes Go.ChangeAt Go.RowKit

set_option maxRecDepth 20000 in
set_option maxHeartbeats 2000000 in
theorem fieldReads_walk (which : Int) (b : Nat) (w_which : -9223372036854775808 ≤ which ∧ which ≤ 9223372036854775807) (w_b : b < W256) (w : World) :
    Calls Try.prog 15 #[.int .i64 which, b32V b] w fun e w' => e = .returned (.bool true) ∧ Below w.heap.size w w' := by
  by_cases h : okW (oneI which)
  · rcases h with h0 | h0
    · have h : okW (oneI which) := .inl h0
      by_cases hc : 0 ≤ cmpI b (modW (oneI which))
      · skip
        refine fn_calls (l0 := [(.int .i64 which), (b32V b), undef, undef, undef, undef, undef, undef, undef, undef, undef, undef, undef, undef, undef, undef, undef, undef, undef, undef, undef, undef, undef, undef, undef, undef, undef, undef, undef, undef, undef, undef, undef, undef, undef, undef, undef, undef, undef, undef, undef, undef, undef, undef, undef, undef, undef, undef, undef, undef, undef, undef, undef, undef, undef, undef, undef, undef, undef]) Try.func15 rfl rfl [] (St.start w) ?_
        refine sp_seq rfl ?_
        refine sp_region (π := [0, 1]) [] rfl rfl ?_
        refine wk_boxB b rfl rfl rfl fun β1 => ?_
        dsimp only [putL, setL, List.set_cons_zero, List.set_cons_succ, List.nil_append, List.cons_append]
        refine wk_assign (.bool false) rfl rfl rfl rfl ?_
        dsimp only [putL, setL, List.set_cons_zero, List.set_cons_succ, List.nil_append, List.cons_append]
        refine wk_nil ?_
        refine sp_seq rfl ?_
        refine sp_region (π := [0, 1, 2]) [] rfl rfl ?_
        refine wk_move (.int .i64 which) rfl rfl rfl rfl ?_
        dsimp only [putL, setL, List.set_cons_zero, List.set_cons_succ, List.nil_append, List.cons_append]
        refine wk_call [(.int .i64 which)] (.int .i64 (oneI which)) rfl rfl rfl (enters_of Try.func42 (by kernel_rfl) (by kernel_rfl)) rfl (one_calls which) ?_
        dsimp only [putL, setL, List.set_cons_zero, List.set_cons_succ, List.nil_append, List.cons_append]
        refine wk_assign (.int .i64 (oneI which)) rfl rfl rfl rfl ?_
        dsimp only [putL, setL, List.set_cons_zero, List.set_cons_succ, List.nil_append, List.cons_append]
        refine wk_nil ?_
        refine sp_seq rfl ?_
        refine sp_region (π := [0, 1, 2, 3, 4, 5, 6, 7, 8]) [] rfl rfl ?_
        refine wk_move (.int .i64 (oneI which)) rfl rfl rfl rfl ?_
        dsimp only [putL, setL, List.set_cons_zero, List.set_cons_succ, List.nil_append, List.cons_append]
        refine wk_ldB 0 rfl rfl rfl rfl rfl ?_
        dsimp only [putL, setL, List.set_cons_zero, List.set_cons_succ, List.nil_append, List.cons_append]
        refine wk_call [(.int .i64 (oneI which)), (b32V b)] (.tuple #[(numV 0), (.int .i64 2)]) rfl rfl rfl (enters_of Try.func57 (by kernel_rfl) (by kernel_rfl)) rfl (read_out (oneI which) b h w_b hc) ?_
        dsimp only [putL, setL, List.set_cons_zero, List.set_cons_succ, List.nil_append, List.cons_append]
        refine wk_move (.tuple #[(numV 0), (.int .i64 2)]) rfl rfl rfl rfl ?_
        dsimp only [putL, setL, List.set_cons_zero, List.set_cons_succ, List.nil_append, List.cons_append]
        refine wk_ext (numV 0) rfl rfl rfl rfl rfl ?_
        dsimp only [putL, setL, List.set_cons_zero, List.set_cons_succ, List.nil_append, List.cons_append]
        refine wk_ext (.int .i64 2) rfl rfl rfl rfl rfl ?_
        dsimp only [putL, setL, List.set_cons_zero, List.set_cons_succ, List.nil_append, List.cons_append]
        refine wk_newN rfl rfl fun β2 => ?_
        dsimp only [putL, setL, List.set_cons_zero, List.set_cons_succ, List.nil_append, List.cons_append]
        refine wk_stN 1 0 rfl rfl rfl rfl rfl rfl ?_
        dsimp only [putL, setL, List.set_cons_zero, List.set_cons_succ, List.nil_append, List.cons_append]
        refine wk_assign (.int .i64 2) rfl rfl rfl rfl ?_
        dsimp only [putL, setL, List.set_cons_zero, List.set_cons_succ, List.nil_append, List.cons_append]
        refine wk_nil ?_
        refine sp_seq rfl ?_
        refine sp_seq rfl ?_
        refine sp_region (π := [0, 1, 2, 3, 4, 5]) [] rfl rfl ?_
        refine wk_move (.int .i64 (oneI which)) rfl rfl rfl rfl ?_
        dsimp only [putL, setL, List.set_cons_zero, List.set_cons_succ, List.nil_append, List.cons_append]
        refine wk_iop (.bool false) rfl rfl rfl rfl rfl rfl (iop_neq_f h0) ?_
        dsimp only [putL, setL, List.set_cons_zero, List.set_cons_succ, List.nil_append, List.cons_append]
        refine wk_move (.bool false) rfl rfl rfl rfl ?_
        dsimp only [putL, setL, List.set_cons_zero, List.set_cons_succ, List.nil_append, List.cons_append]
        refine wk_skip rfl rfl (fun h => by cases h) ?_
        dsimp only [putL, setL, List.set_cons_zero, List.set_cons_succ, List.nil_append, List.cons_append]
        refine wk_skip rfl rfl (fun h => by cases h) ?_
        dsimp only [putL, setL, List.set_cons_zero, List.set_cons_succ, List.nil_append, List.cons_append]
        refine wk_pick false (.bool false) rfl rfl rfl rfl rfl ?_
        dsimp only [putL, setL, List.set_cons_zero, List.set_cons_succ, List.nil_append, List.cons_append]
        refine wk_nil ?_
        refine sp_false rfl rfl ?_
        refine sp_skip rfl ?_
        refine sp_seq rfl ?_
        refine sp_region (π := [0, 1, 2, 3]) [] rfl rfl ?_
        refine wk_ldB 0 rfl rfl rfl rfl rfl ?_
        dsimp only [putL, setL, List.set_cons_zero, List.set_cons_succ, List.nil_append, List.cons_append]
        refine wk_call [(b32V b)] (numV b) rfl rfl rfl (enters_of Try.func58 (by kernel_rfl) (by kernel_rfl)) rfl (rof_calls b w_b) ?_
        dsimp only [putL, setL, List.set_cons_zero, List.set_cons_succ, List.nil_append, List.cons_append]
        refine wk_newN rfl rfl fun β3 => ?_
        dsimp only [putL, setL, List.set_cons_zero, List.set_cons_succ, List.nil_append, List.cons_append]
        refine wk_stN 2 b rfl rfl rfl rfl rfl rfl ?_
        dsimp only [putL, setL, List.set_cons_zero, List.set_cons_succ, List.nil_append, List.cons_append]
        refine wk_nil ?_
        refine sp_seq rfl ?_
        refine sp_seq rfl ?_
        refine sp_draw [0, 1, 2, 3, 4] [] mixed rfl (by kernel_rfl) (by kernel_rfl) ?_
        refine wk_ldN 2 rfl rfl rfl rfl rfl ?_
        dsimp only [putL, setL, List.set_cons_zero, List.set_cons_succ, List.nil_append, List.cons_append]
        refine wk_move (.int .i64 (oneI which)) rfl rfl rfl rfl ?_
        dsimp only [putL, setL, List.set_cons_zero, List.set_cons_succ, List.nil_append, List.cons_append]
        refine wk_call [(.int .i64 (oneI which))] (numV (modW (oneI which))) rfl rfl rfl (enters_of Try.func44 (by kernel_rfl) (by kernel_rfl)) rfl (rprime_ok (oneI which) h) ?_
        dsimp only [putL, setL, List.set_cons_zero, List.set_cons_succ, List.nil_append, List.cons_append]
        refine wk_call [(numV b), (numV (modW (oneI which)))] (.int .i64 (cmpI b (modW (oneI which)))) rfl rfl rfl (enters_of Try.func35 (by kernel_rfl) (by kernel_rfl)) rfl (rcmp_calls b (modW (oneI which)) w_b (modW_lt (oneI which))) ?_
        dsimp only [putL, setL, List.set_cons_zero, List.set_cons_succ, List.nil_append, List.cons_append]
        refine wk_iop (.bool true) rfl rfl rfl rfl rfl rfl (iop_geq_t hc) ?_
        dsimp only [putL, setL, List.set_cons_zero, List.set_cons_succ, List.nil_append, List.cons_append]
        refine wk_nil ?_
        refine sp_true rfl rfl ?_
        refine sp_seq rfl ?_
        refine sp_region (π := [0, 1, 2, 3, 4, 5, 6, 7, 8, 9, 10]) [] rfl rfl ?_
        refine wk_move (.int .i64 2) rfl rfl rfl rfl ?_
        dsimp only [putL, setL, List.set_cons_zero, List.set_cons_succ, List.nil_append, List.cons_append]
        refine wk_iop (.bool true) rfl rfl rfl rfl rfl rfl (iop_eql_t (by decide)) ?_
        dsimp only [putL, setL, List.set_cons_zero, List.set_cons_succ, List.nil_append, List.cons_append]
        refine wk_move (.bool true) rfl rfl rfl rfl ?_
        dsimp only [putL, setL, List.set_cons_zero, List.set_cons_succ, List.nil_append, List.cons_append]
        refine wk_ldN 1 rfl rfl rfl rfl rfl ?_
        dsimp only [putL, setL, List.set_cons_zero, List.set_cons_succ, List.nil_append, List.cons_append]
        refine wk_val (numV 0) rfl rfl rfl (fun w => by kernel_rfl) ?_
        dsimp only [putL, setL, List.set_cons_zero, List.set_cons_succ, List.nil_append, List.cons_append]
        refine wk_eqN true rfl rfl rfl rfl rfl W256_pos (by decide) (decide_eq_true rfl) ?_
        dsimp only [putL, setL, List.set_cons_zero, List.set_cons_succ, List.nil_append, List.cons_append]
        refine wk_pick true (.bool true) rfl rfl rfl rfl rfl ?_
        dsimp only [putL, setL, List.set_cons_zero, List.set_cons_succ, List.nil_append, List.cons_append]
        refine wk_move (.bool true) rfl rfl rfl rfl ?_
        dsimp only [putL, setL, List.set_cons_zero, List.set_cons_succ, List.nil_append, List.cons_append]
        refine wk_call [] (.bool true) rfl rfl rfl (enters_of Try.func53 (by kernel_rfl) (by kernel_rfl)) rfl wakes2_calls ?_
        dsimp only [putL, setL, List.set_cons_zero, List.set_cons_succ, List.nil_append, List.cons_append]
        refine wk_pick true (.bool true) rfl rfl rfl rfl rfl ?_
        dsimp only [putL, setL, List.set_cons_zero, List.set_cons_succ, List.nil_append, List.cons_append]
        refine wk_assign (.bool true) rfl rfl rfl rfl ?_
        dsimp only [putL, setL, List.set_cons_zero, List.set_cons_succ, List.nil_append, List.cons_append]
        refine wk_nil ?_
        refine sp_ret rfl ?_
        exact ret_tmps (v := (.bool true)) (fun w' => by kernel_rfl) fun w' hw => ⟨rfl, hw.below⟩
      · skip
        refine fn_calls (l0 := [(.int .i64 which), (b32V b), undef, undef, undef, undef, undef, undef, undef, undef, undef, undef, undef, undef, undef, undef, undef, undef, undef, undef, undef, undef, undef, undef, undef, undef, undef, undef, undef, undef, undef, undef, undef, undef, undef, undef, undef, undef, undef, undef, undef, undef, undef, undef, undef, undef, undef, undef, undef, undef, undef, undef, undef, undef, undef, undef, undef, undef, undef]) Try.func15 rfl rfl [] (St.start w) ?_
        refine sp_seq rfl ?_
        refine sp_region (π := [0, 1]) [] rfl rfl ?_
        refine wk_boxB b rfl rfl rfl fun β1 => ?_
        dsimp only [putL, setL, List.set_cons_zero, List.set_cons_succ, List.nil_append, List.cons_append]
        refine wk_assign (.bool false) rfl rfl rfl rfl ?_
        dsimp only [putL, setL, List.set_cons_zero, List.set_cons_succ, List.nil_append, List.cons_append]
        refine wk_nil ?_
        refine sp_seq rfl ?_
        refine sp_region (π := [0, 1, 2]) [] rfl rfl ?_
        refine wk_move (.int .i64 which) rfl rfl rfl rfl ?_
        dsimp only [putL, setL, List.set_cons_zero, List.set_cons_succ, List.nil_append, List.cons_append]
        refine wk_call [(.int .i64 which)] (.int .i64 (oneI which)) rfl rfl rfl (enters_of Try.func42 (by kernel_rfl) (by kernel_rfl)) rfl (one_calls which) ?_
        dsimp only [putL, setL, List.set_cons_zero, List.set_cons_succ, List.nil_append, List.cons_append]
        refine wk_assign (.int .i64 (oneI which)) rfl rfl rfl rfl ?_
        dsimp only [putL, setL, List.set_cons_zero, List.set_cons_succ, List.nil_append, List.cons_append]
        refine wk_nil ?_
        refine sp_seq rfl ?_
        refine sp_region (π := [0, 1, 2, 3, 4, 5, 6, 7, 8]) [] rfl rfl ?_
        refine wk_move (.int .i64 (oneI which)) rfl rfl rfl rfl ?_
        dsimp only [putL, setL, List.set_cons_zero, List.set_cons_succ, List.nil_append, List.cons_append]
        refine wk_ldB 0 rfl rfl rfl rfl rfl ?_
        dsimp only [putL, setL, List.set_cons_zero, List.set_cons_succ, List.nil_append, List.cons_append]
        refine wk_call [(.int .i64 (oneI which)), (b32V b)] (.tuple #[(numV b), (.int .i64 0)]) rfl rfl rfl (enters_of Try.func57 (by kernel_rfl) (by kernel_rfl)) rfl (read_in (oneI which) b h w_b (by omega)) ?_
        dsimp only [putL, setL, List.set_cons_zero, List.set_cons_succ, List.nil_append, List.cons_append]
        refine wk_move (.tuple #[(numV b), (.int .i64 0)]) rfl rfl rfl rfl ?_
        dsimp only [putL, setL, List.set_cons_zero, List.set_cons_succ, List.nil_append, List.cons_append]
        refine wk_ext (numV b) rfl rfl rfl rfl rfl ?_
        dsimp only [putL, setL, List.set_cons_zero, List.set_cons_succ, List.nil_append, List.cons_append]
        refine wk_ext (.int .i64 0) rfl rfl rfl rfl rfl ?_
        dsimp only [putL, setL, List.set_cons_zero, List.set_cons_succ, List.nil_append, List.cons_append]
        refine wk_newN rfl rfl fun β2 => ?_
        dsimp only [putL, setL, List.set_cons_zero, List.set_cons_succ, List.nil_append, List.cons_append]
        refine wk_stN 1 b rfl rfl rfl rfl rfl rfl ?_
        dsimp only [putL, setL, List.set_cons_zero, List.set_cons_succ, List.nil_append, List.cons_append]
        refine wk_assign (.int .i64 0) rfl rfl rfl rfl ?_
        dsimp only [putL, setL, List.set_cons_zero, List.set_cons_succ, List.nil_append, List.cons_append]
        refine wk_nil ?_
        refine sp_seq rfl ?_
        refine sp_seq rfl ?_
        refine sp_region (π := [0, 1, 2, 3, 4, 5]) [] rfl rfl ?_
        refine wk_move (.int .i64 (oneI which)) rfl rfl rfl rfl ?_
        dsimp only [putL, setL, List.set_cons_zero, List.set_cons_succ, List.nil_append, List.cons_append]
        refine wk_iop (.bool false) rfl rfl rfl rfl rfl rfl (iop_neq_f h0) ?_
        dsimp only [putL, setL, List.set_cons_zero, List.set_cons_succ, List.nil_append, List.cons_append]
        refine wk_move (.bool false) rfl rfl rfl rfl ?_
        dsimp only [putL, setL, List.set_cons_zero, List.set_cons_succ, List.nil_append, List.cons_append]
        refine wk_skip rfl rfl (fun h => by cases h) ?_
        dsimp only [putL, setL, List.set_cons_zero, List.set_cons_succ, List.nil_append, List.cons_append]
        refine wk_skip rfl rfl (fun h => by cases h) ?_
        dsimp only [putL, setL, List.set_cons_zero, List.set_cons_succ, List.nil_append, List.cons_append]
        refine wk_pick false (.bool false) rfl rfl rfl rfl rfl ?_
        dsimp only [putL, setL, List.set_cons_zero, List.set_cons_succ, List.nil_append, List.cons_append]
        refine wk_nil ?_
        refine sp_false rfl rfl ?_
        refine sp_skip rfl ?_
        refine sp_seq rfl ?_
        refine sp_region (π := [0, 1, 2, 3]) [] rfl rfl ?_
        refine wk_ldB 0 rfl rfl rfl rfl rfl ?_
        dsimp only [putL, setL, List.set_cons_zero, List.set_cons_succ, List.nil_append, List.cons_append]
        refine wk_call [(b32V b)] (numV b) rfl rfl rfl (enters_of Try.func58 (by kernel_rfl) (by kernel_rfl)) rfl (rof_calls b w_b) ?_
        dsimp only [putL, setL, List.set_cons_zero, List.set_cons_succ, List.nil_append, List.cons_append]
        refine wk_newN rfl rfl fun β3 => ?_
        dsimp only [putL, setL, List.set_cons_zero, List.set_cons_succ, List.nil_append, List.cons_append]
        refine wk_stN 2 b rfl rfl rfl rfl rfl rfl ?_
        dsimp only [putL, setL, List.set_cons_zero, List.set_cons_succ, List.nil_append, List.cons_append]
        refine wk_nil ?_
        refine sp_seq rfl ?_
        refine sp_seq rfl ?_
        refine sp_draw [0, 1, 2, 3, 4] [] mixed rfl (by kernel_rfl) (by kernel_rfl) ?_
        refine wk_ldN 2 rfl rfl rfl rfl rfl ?_
        dsimp only [putL, setL, List.set_cons_zero, List.set_cons_succ, List.nil_append, List.cons_append]
        refine wk_move (.int .i64 (oneI which)) rfl rfl rfl rfl ?_
        dsimp only [putL, setL, List.set_cons_zero, List.set_cons_succ, List.nil_append, List.cons_append]
        refine wk_call [(.int .i64 (oneI which))] (numV (modW (oneI which))) rfl rfl rfl (enters_of Try.func44 (by kernel_rfl) (by kernel_rfl)) rfl (rprime_ok (oneI which) h) ?_
        dsimp only [putL, setL, List.set_cons_zero, List.set_cons_succ, List.nil_append, List.cons_append]
        refine wk_call [(numV b), (numV (modW (oneI which)))] (.int .i64 (cmpI b (modW (oneI which)))) rfl rfl rfl (enters_of Try.func35 (by kernel_rfl) (by kernel_rfl)) rfl (rcmp_calls b (modW (oneI which)) w_b (modW_lt (oneI which))) ?_
        dsimp only [putL, setL, List.set_cons_zero, List.set_cons_succ, List.nil_append, List.cons_append]
        refine wk_iop (.bool false) rfl rfl rfl rfl rfl rfl (iop_geq_f hc) ?_
        dsimp only [putL, setL, List.set_cons_zero, List.set_cons_succ, List.nil_append, List.cons_append]
        refine wk_nil ?_
        refine sp_false rfl rfl ?_
        refine sp_skip rfl ?_
        refine sp_seq rfl ?_
        refine sp_region (π := [0, 1, 2, 3, 4, 5, 6, 7, 8, 9, 10]) [] rfl rfl ?_
        refine wk_move (.int .i64 0) rfl rfl rfl rfl ?_
        dsimp only [putL, setL, List.set_cons_zero, List.set_cons_succ, List.nil_append, List.cons_append]
        refine wk_iop (.bool true) rfl rfl rfl rfl rfl rfl (iop_eql_t (by decide)) ?_
        dsimp only [putL, setL, List.set_cons_zero, List.set_cons_succ, List.nil_append, List.cons_append]
        refine wk_move (.bool true) rfl rfl rfl rfl ?_
        dsimp only [putL, setL, List.set_cons_zero, List.set_cons_succ, List.nil_append, List.cons_append]
        refine wk_ldN 1 rfl rfl rfl rfl rfl ?_
        dsimp only [putL, setL, List.set_cons_zero, List.set_cons_succ, List.nil_append, List.cons_append]
        refine wk_ldN 2 rfl rfl rfl rfl rfl ?_
        dsimp only [putL, setL, List.set_cons_zero, List.set_cons_succ, List.nil_append, List.cons_append]
        refine wk_eqN true rfl rfl rfl rfl rfl w_b w_b (decide_eq_true rfl) ?_
        dsimp only [putL, setL, List.set_cons_zero, List.set_cons_succ, List.nil_append, List.cons_append]
        refine wk_pick true (.bool true) rfl rfl rfl rfl rfl ?_
        dsimp only [putL, setL, List.set_cons_zero, List.set_cons_succ, List.nil_append, List.cons_append]
        refine wk_move (.bool true) rfl rfl rfl rfl ?_
        dsimp only [putL, setL, List.set_cons_zero, List.set_cons_succ, List.nil_append, List.cons_append]
        refine wk_call [] (.bool true) rfl rfl rfl (enters_of Try.func53 (by kernel_rfl) (by kernel_rfl)) rfl wakes2_calls ?_
        dsimp only [putL, setL, List.set_cons_zero, List.set_cons_succ, List.nil_append, List.cons_append]
        refine wk_pick true (.bool true) rfl rfl rfl rfl rfl ?_
        dsimp only [putL, setL, List.set_cons_zero, List.set_cons_succ, List.nil_append, List.cons_append]
        refine wk_assign (.bool true) rfl rfl rfl rfl ?_
        dsimp only [putL, setL, List.set_cons_zero, List.set_cons_succ, List.nil_append, List.cons_append]
        refine wk_nil ?_
        refine sp_ret rfl ?_
        exact ret_tmps (v := (.bool true)) (fun w' => by kernel_rfl) fun w' hw => ⟨rfl, hw.below⟩
    · have h : okW (oneI which) := .inr h0
      by_cases hc : 0 ≤ cmpI b (modW (oneI which))
      · skip
        refine fn_calls (l0 := [(.int .i64 which), (b32V b), undef, undef, undef, undef, undef, undef, undef, undef, undef, undef, undef, undef, undef, undef, undef, undef, undef, undef, undef, undef, undef, undef, undef, undef, undef, undef, undef, undef, undef, undef, undef, undef, undef, undef, undef, undef, undef, undef, undef, undef, undef, undef, undef, undef, undef, undef, undef, undef, undef, undef, undef, undef, undef, undef, undef, undef, undef]) Try.func15 rfl rfl [] (St.start w) ?_
        refine sp_seq rfl ?_
        refine sp_region (π := [0, 1]) [] rfl rfl ?_
        refine wk_boxB b rfl rfl rfl fun β1 => ?_
        dsimp only [putL, setL, List.set_cons_zero, List.set_cons_succ, List.nil_append, List.cons_append]
        refine wk_assign (.bool false) rfl rfl rfl rfl ?_
        dsimp only [putL, setL, List.set_cons_zero, List.set_cons_succ, List.nil_append, List.cons_append]
        refine wk_nil ?_
        refine sp_seq rfl ?_
        refine sp_region (π := [0, 1, 2]) [] rfl rfl ?_
        refine wk_move (.int .i64 which) rfl rfl rfl rfl ?_
        dsimp only [putL, setL, List.set_cons_zero, List.set_cons_succ, List.nil_append, List.cons_append]
        refine wk_call [(.int .i64 which)] (.int .i64 (oneI which)) rfl rfl rfl (enters_of Try.func42 (by kernel_rfl) (by kernel_rfl)) rfl (one_calls which) ?_
        dsimp only [putL, setL, List.set_cons_zero, List.set_cons_succ, List.nil_append, List.cons_append]
        refine wk_assign (.int .i64 (oneI which)) rfl rfl rfl rfl ?_
        dsimp only [putL, setL, List.set_cons_zero, List.set_cons_succ, List.nil_append, List.cons_append]
        refine wk_nil ?_
        refine sp_seq rfl ?_
        refine sp_region (π := [0, 1, 2, 3, 4, 5, 6, 7, 8]) [] rfl rfl ?_
        refine wk_move (.int .i64 (oneI which)) rfl rfl rfl rfl ?_
        dsimp only [putL, setL, List.set_cons_zero, List.set_cons_succ, List.nil_append, List.cons_append]
        refine wk_ldB 0 rfl rfl rfl rfl rfl ?_
        dsimp only [putL, setL, List.set_cons_zero, List.set_cons_succ, List.nil_append, List.cons_append]
        refine wk_call [(.int .i64 (oneI which)), (b32V b)] (.tuple #[(numV 0), (.int .i64 2)]) rfl rfl rfl (enters_of Try.func57 (by kernel_rfl) (by kernel_rfl)) rfl (read_out (oneI which) b h w_b hc) ?_
        dsimp only [putL, setL, List.set_cons_zero, List.set_cons_succ, List.nil_append, List.cons_append]
        refine wk_move (.tuple #[(numV 0), (.int .i64 2)]) rfl rfl rfl rfl ?_
        dsimp only [putL, setL, List.set_cons_zero, List.set_cons_succ, List.nil_append, List.cons_append]
        refine wk_ext (numV 0) rfl rfl rfl rfl rfl ?_
        dsimp only [putL, setL, List.set_cons_zero, List.set_cons_succ, List.nil_append, List.cons_append]
        refine wk_ext (.int .i64 2) rfl rfl rfl rfl rfl ?_
        dsimp only [putL, setL, List.set_cons_zero, List.set_cons_succ, List.nil_append, List.cons_append]
        refine wk_newN rfl rfl fun β2 => ?_
        dsimp only [putL, setL, List.set_cons_zero, List.set_cons_succ, List.nil_append, List.cons_append]
        refine wk_stN 1 0 rfl rfl rfl rfl rfl rfl ?_
        dsimp only [putL, setL, List.set_cons_zero, List.set_cons_succ, List.nil_append, List.cons_append]
        refine wk_assign (.int .i64 2) rfl rfl rfl rfl ?_
        dsimp only [putL, setL, List.set_cons_zero, List.set_cons_succ, List.nil_append, List.cons_append]
        refine wk_nil ?_
        refine sp_seq rfl ?_
        refine sp_seq rfl ?_
        refine sp_region (π := [0, 1, 2, 3, 4, 5]) [] rfl rfl ?_
        refine wk_move (.int .i64 (oneI which)) rfl rfl rfl rfl ?_
        dsimp only [putL, setL, List.set_cons_zero, List.set_cons_succ, List.nil_append, List.cons_append]
        refine wk_iop (.bool true) rfl rfl rfl rfl rfl rfl (iop_neq_t (by omega)) ?_
        dsimp only [putL, setL, List.set_cons_zero, List.set_cons_succ, List.nil_append, List.cons_append]
        refine wk_move (.bool true) rfl rfl rfl rfl ?_
        dsimp only [putL, setL, List.set_cons_zero, List.set_cons_succ, List.nil_append, List.cons_append]
        refine wk_move (.int .i64 (oneI which)) rfl rfl rfl rfl ?_
        dsimp only [putL, setL, List.set_cons_zero, List.set_cons_succ, List.nil_append, List.cons_append]
        refine wk_iop (.bool false) rfl rfl rfl rfl rfl rfl (iop_neq_f h0) ?_
        dsimp only [putL, setL, List.set_cons_zero, List.set_cons_succ, List.nil_append, List.cons_append]
        refine wk_pick true (.bool false) rfl rfl rfl rfl rfl ?_
        dsimp only [putL, setL, List.set_cons_zero, List.set_cons_succ, List.nil_append, List.cons_append]
        refine wk_nil ?_
        refine sp_false rfl rfl ?_
        refine sp_skip rfl ?_
        refine sp_seq rfl ?_
        refine sp_region (π := [0, 1, 2, 3]) [] rfl rfl ?_
        refine wk_ldB 0 rfl rfl rfl rfl rfl ?_
        dsimp only [putL, setL, List.set_cons_zero, List.set_cons_succ, List.nil_append, List.cons_append]
        refine wk_call [(b32V b)] (numV b) rfl rfl rfl (enters_of Try.func58 (by kernel_rfl) (by kernel_rfl)) rfl (rof_calls b w_b) ?_
        dsimp only [putL, setL, List.set_cons_zero, List.set_cons_succ, List.nil_append, List.cons_append]
        refine wk_newN rfl rfl fun β3 => ?_
        dsimp only [putL, setL, List.set_cons_zero, List.set_cons_succ, List.nil_append, List.cons_append]
        refine wk_stN 2 b rfl rfl rfl rfl rfl rfl ?_
        dsimp only [putL, setL, List.set_cons_zero, List.set_cons_succ, List.nil_append, List.cons_append]
        refine wk_nil ?_
        refine sp_seq rfl ?_
        refine sp_seq rfl ?_
        refine sp_draw [0, 1, 2, 3, 4] [] mixed rfl (by kernel_rfl) (by kernel_rfl) ?_
        refine wk_ldN 2 rfl rfl rfl rfl rfl ?_
        dsimp only [putL, setL, List.set_cons_zero, List.set_cons_succ, List.nil_append, List.cons_append]
        refine wk_move (.int .i64 (oneI which)) rfl rfl rfl rfl ?_
        dsimp only [putL, setL, List.set_cons_zero, List.set_cons_succ, List.nil_append, List.cons_append]
        refine wk_call [(.int .i64 (oneI which))] (numV (modW (oneI which))) rfl rfl rfl (enters_of Try.func44 (by kernel_rfl) (by kernel_rfl)) rfl (rprime_ok (oneI which) h) ?_
        dsimp only [putL, setL, List.set_cons_zero, List.set_cons_succ, List.nil_append, List.cons_append]
        refine wk_call [(numV b), (numV (modW (oneI which)))] (.int .i64 (cmpI b (modW (oneI which)))) rfl rfl rfl (enters_of Try.func35 (by kernel_rfl) (by kernel_rfl)) rfl (rcmp_calls b (modW (oneI which)) w_b (modW_lt (oneI which))) ?_
        dsimp only [putL, setL, List.set_cons_zero, List.set_cons_succ, List.nil_append, List.cons_append]
        refine wk_iop (.bool true) rfl rfl rfl rfl rfl rfl (iop_geq_t hc) ?_
        dsimp only [putL, setL, List.set_cons_zero, List.set_cons_succ, List.nil_append, List.cons_append]
        refine wk_nil ?_
        refine sp_true rfl rfl ?_
        refine sp_seq rfl ?_
        refine sp_region (π := [0, 1, 2, 3, 4, 5, 6, 7, 8, 9, 10]) [] rfl rfl ?_
        refine wk_move (.int .i64 2) rfl rfl rfl rfl ?_
        dsimp only [putL, setL, List.set_cons_zero, List.set_cons_succ, List.nil_append, List.cons_append]
        refine wk_iop (.bool true) rfl rfl rfl rfl rfl rfl (iop_eql_t (by decide)) ?_
        dsimp only [putL, setL, List.set_cons_zero, List.set_cons_succ, List.nil_append, List.cons_append]
        refine wk_move (.bool true) rfl rfl rfl rfl ?_
        dsimp only [putL, setL, List.set_cons_zero, List.set_cons_succ, List.nil_append, List.cons_append]
        refine wk_ldN 1 rfl rfl rfl rfl rfl ?_
        dsimp only [putL, setL, List.set_cons_zero, List.set_cons_succ, List.nil_append, List.cons_append]
        refine wk_val (numV 0) rfl rfl rfl (fun w => by kernel_rfl) ?_
        dsimp only [putL, setL, List.set_cons_zero, List.set_cons_succ, List.nil_append, List.cons_append]
        refine wk_eqN true rfl rfl rfl rfl rfl W256_pos (by decide) (decide_eq_true rfl) ?_
        dsimp only [putL, setL, List.set_cons_zero, List.set_cons_succ, List.nil_append, List.cons_append]
        refine wk_pick true (.bool true) rfl rfl rfl rfl rfl ?_
        dsimp only [putL, setL, List.set_cons_zero, List.set_cons_succ, List.nil_append, List.cons_append]
        refine wk_move (.bool true) rfl rfl rfl rfl ?_
        dsimp only [putL, setL, List.set_cons_zero, List.set_cons_succ, List.nil_append, List.cons_append]
        refine wk_call [] (.bool true) rfl rfl rfl (enters_of Try.func53 (by kernel_rfl) (by kernel_rfl)) rfl wakes2_calls ?_
        dsimp only [putL, setL, List.set_cons_zero, List.set_cons_succ, List.nil_append, List.cons_append]
        refine wk_pick true (.bool true) rfl rfl rfl rfl rfl ?_
        dsimp only [putL, setL, List.set_cons_zero, List.set_cons_succ, List.nil_append, List.cons_append]
        refine wk_assign (.bool true) rfl rfl rfl rfl ?_
        dsimp only [putL, setL, List.set_cons_zero, List.set_cons_succ, List.nil_append, List.cons_append]
        refine wk_nil ?_
        refine sp_ret rfl ?_
        exact ret_tmps (v := (.bool true)) (fun w' => by kernel_rfl) fun w' hw => ⟨rfl, hw.below⟩
      · skip
        refine fn_calls (l0 := [(.int .i64 which), (b32V b), undef, undef, undef, undef, undef, undef, undef, undef, undef, undef, undef, undef, undef, undef, undef, undef, undef, undef, undef, undef, undef, undef, undef, undef, undef, undef, undef, undef, undef, undef, undef, undef, undef, undef, undef, undef, undef, undef, undef, undef, undef, undef, undef, undef, undef, undef, undef, undef, undef, undef, undef, undef, undef, undef, undef, undef, undef]) Try.func15 rfl rfl [] (St.start w) ?_
        refine sp_seq rfl ?_
        refine sp_region (π := [0, 1]) [] rfl rfl ?_
        refine wk_boxB b rfl rfl rfl fun β1 => ?_
        dsimp only [putL, setL, List.set_cons_zero, List.set_cons_succ, List.nil_append, List.cons_append]
        refine wk_assign (.bool false) rfl rfl rfl rfl ?_
        dsimp only [putL, setL, List.set_cons_zero, List.set_cons_succ, List.nil_append, List.cons_append]
        refine wk_nil ?_
        refine sp_seq rfl ?_
        refine sp_region (π := [0, 1, 2]) [] rfl rfl ?_
        refine wk_move (.int .i64 which) rfl rfl rfl rfl ?_
        dsimp only [putL, setL, List.set_cons_zero, List.set_cons_succ, List.nil_append, List.cons_append]
        refine wk_call [(.int .i64 which)] (.int .i64 (oneI which)) rfl rfl rfl (enters_of Try.func42 (by kernel_rfl) (by kernel_rfl)) rfl (one_calls which) ?_
        dsimp only [putL, setL, List.set_cons_zero, List.set_cons_succ, List.nil_append, List.cons_append]
        refine wk_assign (.int .i64 (oneI which)) rfl rfl rfl rfl ?_
        dsimp only [putL, setL, List.set_cons_zero, List.set_cons_succ, List.nil_append, List.cons_append]
        refine wk_nil ?_
        refine sp_seq rfl ?_
        refine sp_region (π := [0, 1, 2, 3, 4, 5, 6, 7, 8]) [] rfl rfl ?_
        refine wk_move (.int .i64 (oneI which)) rfl rfl rfl rfl ?_
        dsimp only [putL, setL, List.set_cons_zero, List.set_cons_succ, List.nil_append, List.cons_append]
        refine wk_ldB 0 rfl rfl rfl rfl rfl ?_
        dsimp only [putL, setL, List.set_cons_zero, List.set_cons_succ, List.nil_append, List.cons_append]
        refine wk_call [(.int .i64 (oneI which)), (b32V b)] (.tuple #[(numV b), (.int .i64 0)]) rfl rfl rfl (enters_of Try.func57 (by kernel_rfl) (by kernel_rfl)) rfl (read_in (oneI which) b h w_b (by omega)) ?_
        dsimp only [putL, setL, List.set_cons_zero, List.set_cons_succ, List.nil_append, List.cons_append]
        refine wk_move (.tuple #[(numV b), (.int .i64 0)]) rfl rfl rfl rfl ?_
        dsimp only [putL, setL, List.set_cons_zero, List.set_cons_succ, List.nil_append, List.cons_append]
        refine wk_ext (numV b) rfl rfl rfl rfl rfl ?_
        dsimp only [putL, setL, List.set_cons_zero, List.set_cons_succ, List.nil_append, List.cons_append]
        refine wk_ext (.int .i64 0) rfl rfl rfl rfl rfl ?_
        dsimp only [putL, setL, List.set_cons_zero, List.set_cons_succ, List.nil_append, List.cons_append]
        refine wk_newN rfl rfl fun β2 => ?_
        dsimp only [putL, setL, List.set_cons_zero, List.set_cons_succ, List.nil_append, List.cons_append]
        refine wk_stN 1 b rfl rfl rfl rfl rfl rfl ?_
        dsimp only [putL, setL, List.set_cons_zero, List.set_cons_succ, List.nil_append, List.cons_append]
        refine wk_assign (.int .i64 0) rfl rfl rfl rfl ?_
        dsimp only [putL, setL, List.set_cons_zero, List.set_cons_succ, List.nil_append, List.cons_append]
        refine wk_nil ?_
        refine sp_seq rfl ?_
        refine sp_seq rfl ?_
        refine sp_region (π := [0, 1, 2, 3, 4, 5]) [] rfl rfl ?_
        refine wk_move (.int .i64 (oneI which)) rfl rfl rfl rfl ?_
        dsimp only [putL, setL, List.set_cons_zero, List.set_cons_succ, List.nil_append, List.cons_append]
        refine wk_iop (.bool true) rfl rfl rfl rfl rfl rfl (iop_neq_t (by omega)) ?_
        dsimp only [putL, setL, List.set_cons_zero, List.set_cons_succ, List.nil_append, List.cons_append]
        refine wk_move (.bool true) rfl rfl rfl rfl ?_
        dsimp only [putL, setL, List.set_cons_zero, List.set_cons_succ, List.nil_append, List.cons_append]
        refine wk_move (.int .i64 (oneI which)) rfl rfl rfl rfl ?_
        dsimp only [putL, setL, List.set_cons_zero, List.set_cons_succ, List.nil_append, List.cons_append]
        refine wk_iop (.bool false) rfl rfl rfl rfl rfl rfl (iop_neq_f h0) ?_
        dsimp only [putL, setL, List.set_cons_zero, List.set_cons_succ, List.nil_append, List.cons_append]
        refine wk_pick true (.bool false) rfl rfl rfl rfl rfl ?_
        dsimp only [putL, setL, List.set_cons_zero, List.set_cons_succ, List.nil_append, List.cons_append]
        refine wk_nil ?_
        refine sp_false rfl rfl ?_
        refine sp_skip rfl ?_
        refine sp_seq rfl ?_
        refine sp_region (π := [0, 1, 2, 3]) [] rfl rfl ?_
        refine wk_ldB 0 rfl rfl rfl rfl rfl ?_
        dsimp only [putL, setL, List.set_cons_zero, List.set_cons_succ, List.nil_append, List.cons_append]
        refine wk_call [(b32V b)] (numV b) rfl rfl rfl (enters_of Try.func58 (by kernel_rfl) (by kernel_rfl)) rfl (rof_calls b w_b) ?_
        dsimp only [putL, setL, List.set_cons_zero, List.set_cons_succ, List.nil_append, List.cons_append]
        refine wk_newN rfl rfl fun β3 => ?_
        dsimp only [putL, setL, List.set_cons_zero, List.set_cons_succ, List.nil_append, List.cons_append]
        refine wk_stN 2 b rfl rfl rfl rfl rfl rfl ?_
        dsimp only [putL, setL, List.set_cons_zero, List.set_cons_succ, List.nil_append, List.cons_append]
        refine wk_nil ?_
        refine sp_seq rfl ?_
        refine sp_seq rfl ?_
        refine sp_draw [0, 1, 2, 3, 4] [] mixed rfl (by kernel_rfl) (by kernel_rfl) ?_
        refine wk_ldN 2 rfl rfl rfl rfl rfl ?_
        dsimp only [putL, setL, List.set_cons_zero, List.set_cons_succ, List.nil_append, List.cons_append]
        refine wk_move (.int .i64 (oneI which)) rfl rfl rfl rfl ?_
        dsimp only [putL, setL, List.set_cons_zero, List.set_cons_succ, List.nil_append, List.cons_append]
        refine wk_call [(.int .i64 (oneI which))] (numV (modW (oneI which))) rfl rfl rfl (enters_of Try.func44 (by kernel_rfl) (by kernel_rfl)) rfl (rprime_ok (oneI which) h) ?_
        dsimp only [putL, setL, List.set_cons_zero, List.set_cons_succ, List.nil_append, List.cons_append]
        refine wk_call [(numV b), (numV (modW (oneI which)))] (.int .i64 (cmpI b (modW (oneI which)))) rfl rfl rfl (enters_of Try.func35 (by kernel_rfl) (by kernel_rfl)) rfl (rcmp_calls b (modW (oneI which)) w_b (modW_lt (oneI which))) ?_
        dsimp only [putL, setL, List.set_cons_zero, List.set_cons_succ, List.nil_append, List.cons_append]
        refine wk_iop (.bool false) rfl rfl rfl rfl rfl rfl (iop_geq_f hc) ?_
        dsimp only [putL, setL, List.set_cons_zero, List.set_cons_succ, List.nil_append, List.cons_append]
        refine wk_nil ?_
        refine sp_false rfl rfl ?_
        refine sp_skip rfl ?_
        refine sp_seq rfl ?_
        refine sp_region (π := [0, 1, 2, 3, 4, 5, 6, 7, 8, 9, 10]) [] rfl rfl ?_
        refine wk_move (.int .i64 0) rfl rfl rfl rfl ?_
        dsimp only [putL, setL, List.set_cons_zero, List.set_cons_succ, List.nil_append, List.cons_append]
        refine wk_iop (.bool true) rfl rfl rfl rfl rfl rfl (iop_eql_t (by decide)) ?_
        dsimp only [putL, setL, List.set_cons_zero, List.set_cons_succ, List.nil_append, List.cons_append]
        refine wk_move (.bool true) rfl rfl rfl rfl ?_
        dsimp only [putL, setL, List.set_cons_zero, List.set_cons_succ, List.nil_append, List.cons_append]
        refine wk_ldN 1 rfl rfl rfl rfl rfl ?_
        dsimp only [putL, setL, List.set_cons_zero, List.set_cons_succ, List.nil_append, List.cons_append]
        refine wk_ldN 2 rfl rfl rfl rfl rfl ?_
        dsimp only [putL, setL, List.set_cons_zero, List.set_cons_succ, List.nil_append, List.cons_append]
        refine wk_eqN true rfl rfl rfl rfl rfl w_b w_b (decide_eq_true rfl) ?_
        dsimp only [putL, setL, List.set_cons_zero, List.set_cons_succ, List.nil_append, List.cons_append]
        refine wk_pick true (.bool true) rfl rfl rfl rfl rfl ?_
        dsimp only [putL, setL, List.set_cons_zero, List.set_cons_succ, List.nil_append, List.cons_append]
        refine wk_move (.bool true) rfl rfl rfl rfl ?_
        dsimp only [putL, setL, List.set_cons_zero, List.set_cons_succ, List.nil_append, List.cons_append]
        refine wk_call [] (.bool true) rfl rfl rfl (enters_of Try.func53 (by kernel_rfl) (by kernel_rfl)) rfl wakes2_calls ?_
        dsimp only [putL, setL, List.set_cons_zero, List.set_cons_succ, List.nil_append, List.cons_append]
        refine wk_pick true (.bool true) rfl rfl rfl rfl rfl ?_
        dsimp only [putL, setL, List.set_cons_zero, List.set_cons_succ, List.nil_append, List.cons_append]
        refine wk_assign (.bool true) rfl rfl rfl rfl ?_
        dsimp only [putL, setL, List.set_cons_zero, List.set_cons_succ, List.nil_append, List.cons_append]
        refine wk_nil ?_
        refine sp_ret rfl ?_
        exact ret_tmps (v := (.bool true)) (fun w' => by kernel_rfl) fun w' hw => ⟨rfl, hw.below⟩
  · skip
    refine fn_calls (l0 := [(.int .i64 which), (b32V b), undef, undef, undef, undef, undef, undef, undef, undef, undef, undef, undef, undef, undef, undef, undef, undef, undef, undef, undef, undef, undef, undef, undef, undef, undef, undef, undef, undef, undef, undef, undef, undef, undef, undef, undef, undef, undef, undef, undef, undef, undef, undef, undef, undef, undef, undef, undef, undef, undef, undef, undef, undef, undef, undef, undef, undef, undef]) Try.func15 rfl rfl [] (St.start w) ?_
    refine sp_seq rfl ?_
    refine sp_region (π := [0, 1]) [] rfl rfl ?_
    refine wk_boxB b rfl rfl rfl fun β1 => ?_
    dsimp only [putL, setL, List.set_cons_zero, List.set_cons_succ, List.nil_append, List.cons_append]
    refine wk_assign (.bool false) rfl rfl rfl rfl ?_
    dsimp only [putL, setL, List.set_cons_zero, List.set_cons_succ, List.nil_append, List.cons_append]
    refine wk_nil ?_
    refine sp_seq rfl ?_
    refine sp_region (π := [0, 1, 2]) [] rfl rfl ?_
    refine wk_move (.int .i64 which) rfl rfl rfl rfl ?_
    dsimp only [putL, setL, List.set_cons_zero, List.set_cons_succ, List.nil_append, List.cons_append]
    refine wk_call [(.int .i64 which)] (.int .i64 (oneI which)) rfl rfl rfl (enters_of Try.func42 (by kernel_rfl) (by kernel_rfl)) rfl (one_calls which) ?_
    dsimp only [putL, setL, List.set_cons_zero, List.set_cons_succ, List.nil_append, List.cons_append]
    refine wk_assign (.int .i64 (oneI which)) rfl rfl rfl rfl ?_
    dsimp only [putL, setL, List.set_cons_zero, List.set_cons_succ, List.nil_append, List.cons_append]
    refine wk_nil ?_
    refine sp_seq rfl ?_
    refine sp_region (π := [0, 1, 2, 3, 4, 5, 6, 7, 8]) [] rfl rfl ?_
    refine wk_move (.int .i64 (oneI which)) rfl rfl rfl rfl ?_
    dsimp only [putL, setL, List.set_cons_zero, List.set_cons_succ, List.nil_append, List.cons_append]
    refine wk_ldB 0 rfl rfl rfl rfl rfl ?_
    dsimp only [putL, setL, List.set_cons_zero, List.set_cons_succ, List.nil_append, List.cons_append]
    refine wk_call [(.int .i64 (oneI which)), (b32V b)] (.tuple #[(numV 0), (.int .i64 1)]) rfl rfl rfl (enters_of Try.func57 (by kernel_rfl) (by kernel_rfl)) rfl (read_no (oneI which) b h w_b) ?_
    dsimp only [putL, setL, List.set_cons_zero, List.set_cons_succ, List.nil_append, List.cons_append]
    refine wk_move (.tuple #[(numV 0), (.int .i64 1)]) rfl rfl rfl rfl ?_
    dsimp only [putL, setL, List.set_cons_zero, List.set_cons_succ, List.nil_append, List.cons_append]
    refine wk_ext (numV 0) rfl rfl rfl rfl rfl ?_
    dsimp only [putL, setL, List.set_cons_zero, List.set_cons_succ, List.nil_append, List.cons_append]
    refine wk_ext (.int .i64 1) rfl rfl rfl rfl rfl ?_
    dsimp only [putL, setL, List.set_cons_zero, List.set_cons_succ, List.nil_append, List.cons_append]
    refine wk_newN rfl rfl fun β2 => ?_
    dsimp only [putL, setL, List.set_cons_zero, List.set_cons_succ, List.nil_append, List.cons_append]
    refine wk_stN 1 0 rfl rfl rfl rfl rfl rfl ?_
    dsimp only [putL, setL, List.set_cons_zero, List.set_cons_succ, List.nil_append, List.cons_append]
    refine wk_assign (.int .i64 1) rfl rfl rfl rfl ?_
    dsimp only [putL, setL, List.set_cons_zero, List.set_cons_succ, List.nil_append, List.cons_append]
    refine wk_nil ?_
    refine sp_seq rfl ?_
    refine sp_seq rfl ?_
    refine sp_region (π := [0, 1, 2, 3, 4, 5]) [] rfl rfl ?_
    refine wk_move (.int .i64 (oneI which)) rfl rfl rfl rfl ?_
    dsimp only [putL, setL, List.set_cons_zero, List.set_cons_succ, List.nil_append, List.cons_append]
    refine wk_iop (.bool true) rfl rfl rfl rfl rfl rfl (iop_neq_t (fun e => h (.inl e))) ?_
    dsimp only [putL, setL, List.set_cons_zero, List.set_cons_succ, List.nil_append, List.cons_append]
    refine wk_move (.bool true) rfl rfl rfl rfl ?_
    dsimp only [putL, setL, List.set_cons_zero, List.set_cons_succ, List.nil_append, List.cons_append]
    refine wk_move (.int .i64 (oneI which)) rfl rfl rfl rfl ?_
    dsimp only [putL, setL, List.set_cons_zero, List.set_cons_succ, List.nil_append, List.cons_append]
    refine wk_iop (.bool true) rfl rfl rfl rfl rfl rfl (iop_neq_t (fun e => h (.inr e))) ?_
    dsimp only [putL, setL, List.set_cons_zero, List.set_cons_succ, List.nil_append, List.cons_append]
    refine wk_pick true (.bool true) rfl rfl rfl rfl rfl ?_
    dsimp only [putL, setL, List.set_cons_zero, List.set_cons_succ, List.nil_append, List.cons_append]
    refine wk_nil ?_
    refine sp_true rfl rfl ?_
    refine sp_seq rfl ?_
    refine sp_region (π := [0, 1, 2, 3, 4, 5, 6, 7, 8, 9, 10]) [] rfl rfl ?_
    refine wk_move (.int .i64 1) rfl rfl rfl rfl ?_
    dsimp only [putL, setL, List.set_cons_zero, List.set_cons_succ, List.nil_append, List.cons_append]
    refine wk_iop (.bool true) rfl rfl rfl rfl rfl rfl (iop_eql_t (by decide)) ?_
    dsimp only [putL, setL, List.set_cons_zero, List.set_cons_succ, List.nil_append, List.cons_append]
    refine wk_move (.bool true) rfl rfl rfl rfl ?_
    dsimp only [putL, setL, List.set_cons_zero, List.set_cons_succ, List.nil_append, List.cons_append]
    refine wk_ldN 1 rfl rfl rfl rfl rfl ?_
    dsimp only [putL, setL, List.set_cons_zero, List.set_cons_succ, List.nil_append, List.cons_append]
    refine wk_val (numV 0) rfl rfl rfl (fun w => by kernel_rfl) ?_
    dsimp only [putL, setL, List.set_cons_zero, List.set_cons_succ, List.nil_append, List.cons_append]
    refine wk_eqN true rfl rfl rfl rfl rfl W256_pos (by decide) (decide_eq_true rfl) ?_
    dsimp only [putL, setL, List.set_cons_zero, List.set_cons_succ, List.nil_append, List.cons_append]
    refine wk_pick true (.bool true) rfl rfl rfl rfl rfl ?_
    dsimp only [putL, setL, List.set_cons_zero, List.set_cons_succ, List.nil_append, List.cons_append]
    refine wk_move (.bool true) rfl rfl rfl rfl ?_
    dsimp only [putL, setL, List.set_cons_zero, List.set_cons_succ, List.nil_append, List.cons_append]
    refine wk_call [] (.bool true) rfl rfl rfl (enters_of Try.func53 (by kernel_rfl) (by kernel_rfl)) rfl wakes2_calls ?_
    dsimp only [putL, setL, List.set_cons_zero, List.set_cons_succ, List.nil_append, List.cons_append]
    refine wk_pick true (.bool true) rfl rfl rfl rfl rfl ?_
    dsimp only [putL, setL, List.set_cons_zero, List.set_cons_succ, List.nil_append, List.cons_append]
    refine wk_assign (.bool true) rfl rfl rfl rfl ?_
    dsimp only [putL, setL, List.set_cons_zero, List.set_cons_succ, List.nil_append, List.cons_append]
    refine wk_nil ?_
    refine sp_ret rfl ?_
    exact ret_tmps (v := (.bool true)) (fun w' => by kernel_rfl) fun w' hw => ⟨rfl, hw.below⟩

set_option maxRecDepth 100000 in
theorem fieldReads_lifted (os : Os) (started : os.Started) (H : Type) (enc : TypeId × Value → H) :
    ReturnsInHanded {} Try.checked os 15 .any (Rows.fieldReadsSpec.pre6 enc Try.prog Try.f15 Rows.fieldReadsRow.domain false) (Rows.fieldReadsSpec.post enc Try.prog Try.f15 false true false false) := by
  refine returnsInHanded_of_change (C := Try.checked) own started (by kernel_rfl) Try.func15
    (ChangeSpec.witness6 (enc := enc) (C := Try.checked) false ⟨#[], #[.int .i64 0, b32V 0], []⟩ 8 (by kernel_rfl) (by kernel_rfl) (by kernel_rfl) (by kernel_rfl)) ?_
  intro W base args ds gs before hval0 hW hcnd _
  have hval : ∀ (j : Nat) t v, Try.f15.params[j]? = some t → args[j]? = some v → Value.okWide Try.prog W .any base t v := hval0
  have hW' := hW
  obtain ⟨p, q, hA0, hV, rfl, hfz, hnd⟩ := hW
  have hA : DataW.TrodAll enc Try.prog W 0 (fun _ => true) true Try.f15.params.toList args.toList ds p := hA0
  rw [Try.params15] at hA hval
  obtain ⟨v0, vs0, d0, ds0, p0, q0, hargs, rfl, rfl, h0, r0⟩ := trodAll_cons hA
  obtain ⟨v1, vs1, d1, ds1, p1, q1, rfl, rfl, rfl, h1, r1⟩ := trodAll_cons r0
  obtain ⟨rfl, rfl, rfl⟩ := trodAll_nil r1
  obtain rfl : args = #[v0, v1] := by cases args; simp_all
  obtain ⟨rfl, rfl⟩ := trodVars_none hV
  have k0 := h0
  have lt0 : ∀ x ∈ p0, x.block < W.heap.size := by obtain ⟨m, hm⟩ := k0; exact DataW.trod_lt m _ _ _ hm
  have k1 := h1
  have lt1 : ∀ x ∈ p1, x.block < W.heap.size := by obtain ⟨m, hm⟩ := k1; exact DataW.trod_lt m _ _ _ hm
  obtain ⟨which, rfl, rfl, rfl, w_which0⟩ := open_int Try.underlying3 (hval 0 3 v0 rfl rfl) h0; have w_which := wf_i64 w_which0
  obtain ⟨b, w_b, rfl⟩ := open_b32 (hval 1 42 v1 rfl rfl) h1
  clear hA0 hval0
  refine (fieldReads_walk which b w_which w_b W).mono fun e W' ⟨he, bel⟩ => ?_
  subst he
  exact ⟨_, rfl, _, _, _, [], _, [], hW', trodAll_mk1 (shut_bool Try.underlying4 _), (trodAll_cons_mk (Below.trod laidOut (by kernel_rfl) (of_decide_eq_true (by kernel_rfl)) k0 bel lt0) (trodAll_cons_mk (Below.trod laidOut (by kernel_rfl) (of_decide_eq_true (by kernel_rfl)) k1 bel lt1) trodAll_mk0)), rfl, bel.frame _, fun h => by cases h⟩

theorem fieldReads_holds : Rows.FieldReadsSaid :=
  OpenClaim.holds_of_wide 15 Try.f15 rfl rfl rfl rfl rfl rfl rfl ⟨rfl, rfl, rfl, rfl, rfl⟩ rfl rfl rfl rfl rfl (by kernel_rfl) Try.func15 (by kernel_rfl)
    (of_decide_eq_true (by kernel_rfl)) (by unfold Func.isWrapper; first | (rw [if_pos (by decide +kernel)]; kernel_rfl) | (rw [if_neg (by decide +kernel)]; exact ⟨rfl, rfl⟩))
    (fun os started H enc _ => fieldReads_lifted os started H enc)

end Go.Proofs.Ytmecomgifmkkfaa
