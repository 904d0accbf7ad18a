/- FieldBytes: what is told is read back from its bytes; the prime's own bytes are out of range, those of one less are not; for every input, no condition. -/
import Derived.Test.YtmecomgifmkkfaaSymC
import Derived.Test.YtmecomgifmkkfaaFieldD
import Derived.Test.YtmecomgifmkkfaaRefB
import Derived.Test.YtmecomgifmkkfaaLimbM
import Derived.Test.YtmecomgifmkkfaaLimbG
import Derived.Test.YtmecomgifmkkfaaLimbB
import Derived.Test.YtmecomgifmkkfaaSymB
import Derived.Test.YtmecomgifmkkfaaRows
import Derived.Test.YtmecomgifmkkfaaOpen
import Derived.Test.YtmecomgifmkkfaaAux
import Derived.Test.YtmecomgifmkkfaaFieldL
import Derived.Test.YtmecomgifmkkfaaFieldM
import Derived.Test.YtmecomgifmkkfaaSymD
import Derived.Test.YtmecomgifmkkfaaSymS
import Derived.Test.YtmecomgifmkkfaaFieldN
import Derived.ProofKit
import Derived.OpenShut
namespace Go.Proofs.Ytmecomgifmkkfaa
set_option linter.unusedVariables false
set_option linter.unusedSimpArgs false
open Go.ChangeShapes Go.WideShapes Go.ChangeAt Go.RowKit

theorem cmp_neg {x m : Nat} (h : x < m) : cmpI x m < 0 := by rw [cmpI_lt h]; decide

set_option maxRecDepth 20000 in
set_option maxHeartbeats 2000000 in
theorem fieldBytes_walk (which : Int) (a : Nat) (b : Nat) (w_which : -9223372036854775808 ≤ which ∧ which ≤ 9223372036854775807) (w_a : a < W256) (w_b : b < W256) (w : World) :
    Calls Try.prog 18 #[.int .i64 which, numV a, numV b] w fun e w' => e = .returned (.bool true) ∧ Below w.heap.size w w' := by
  have h : okW (parI which) := parI_ok which
  rcases parI_ok which with h0 | h0
  · skip
    refine fn_calls (l0 := [(.int .i64 which), (numV a), (numV b), undef, undef, undef, undef, undef, undef, undef, undef, undef, undef, undef, undef, undef, undef, undef, undef, undef, undef, undef, undef, undef, undef, undef, undef, undef, undef, undef, undef, undef, undef, undef, undef, undef, undef, undef, undef, undef, undef, undef, undef, undef, undef, undef, undef, undef, undef, undef, undef, undef, undef, undef, undef, undef, undef, undef, undef, undef, undef, undef, undef, undef, undef, undef, undef, undef, undef, undef, undef, undef, undef, undef, undef, undef, undef, undef, undef, undef, undef, undef, undef, undef, undef, undef, undef, undef, undef, undef, undef, undef, undef, undef, undef, undef, undef, undef, undef, undef, undef, undef, undef, undef]) Try.func18 rfl rfl [] (St.start w) ?_
    refine sp_seq rfl ?_
    refine sp_region (π := [0, 1, 2]) [] rfl rfl ?_
    refine wk_boxN a rfl rfl rfl fun β1 => ?_
    dsimp only [putL, setL, List.set_cons_zero, List.set_cons_succ, List.nil_append, List.cons_append]
    refine wk_boxN b rfl rfl rfl fun β2 => ?_
    dsimp only [putL, setL, List.set_cons_zero, List.set_cons_succ, List.nil_append, List.cons_append]
    refine wk_assign (.bool false) rfl rfl rfl rfl ?_
    dsimp only [putL, setL, List.set_cons_zero, List.set_cons_succ, List.nil_append, List.cons_append]
    refine wk_nil ?_
    refine sp_seq rfl ?_
    refine sp_region (π := [0, 1, 2, 3, 4]) [] rfl rfl ?_
    refine wk_move (.int .i64 which) rfl rfl rfl rfl ?_
    dsimp only [putL, setL, List.set_cons_zero, List.set_cons_succ, List.nil_append, List.cons_append]
    refine wk_val (.int .u64 (IntKind.u64.wrap which)) rfl rfl rfl (fun w => by kernel_rfl) ?_
    dsimp only [putL, setL, List.set_cons_zero, List.set_cons_succ, List.nil_append, List.cons_append]
    refine wk_iop (.int .u64 ((IntKind.u64.wrap which).tmod 2)) rfl rfl rfl rfl rfl rfl rfl ?_
    dsimp only [putL, setL, List.set_cons_zero, List.set_cons_succ, List.nil_append, List.cons_append]
    refine wk_val (.int .i64 (parI which)) rfl rfl rfl (fun w => by kernel_rfl) ?_
    dsimp only [putL, setL, List.set_cons_zero, List.set_cons_succ, List.nil_append, List.cons_append]
    refine wk_assign (.int .i64 (parI which)) rfl rfl rfl rfl ?_
    dsimp only [putL, setL, List.set_cons_zero, List.set_cons_succ, List.nil_append, List.cons_append]
    refine wk_nil ?_
    refine sp_seq rfl ?_
    refine sp_draw [0, 1, 3, 4, 5, 7, 8, 9, 11, 12, 13, 2, 6, 10, 14, 15, 16] [] mixed rfl (by kernel_rfl) (by kernel_rfl) ?_
    refine wk_move (.int .i64 (parI which)) rfl rfl rfl rfl ?_
    dsimp only [putL, setL, List.set_cons_zero, List.set_cons_succ, List.nil_append, List.cons_append]
    refine wk_ldN 0 rfl rfl rfl rfl rfl ?_
    dsimp only [putL, setL, List.set_cons_zero, List.set_cons_succ, List.nil_append, List.cons_append]
    refine wk_move (.int .i64 (parI which)) rfl rfl rfl rfl ?_
    dsimp only [putL, setL, List.set_cons_zero, List.set_cons_succ, List.nil_append, List.cons_append]
    refine wk_ldN 0 rfl rfl rfl rfl rfl ?_
    dsimp only [putL, setL, List.set_cons_zero, List.set_cons_succ, List.nil_append, List.cons_append]
    refine wk_ldN 1 rfl rfl rfl rfl rfl ?_
    dsimp only [putL, setL, List.set_cons_zero, List.set_cons_succ, List.nil_append, List.cons_append]
    refine wk_move (.int .i64 (parI which)) rfl rfl rfl rfl ?_
    dsimp only [putL, setL, List.set_cons_zero, List.set_cons_succ, List.nil_append, List.cons_append]
    refine wk_ldN 0 rfl rfl rfl rfl rfl ?_
    dsimp only [putL, setL, List.set_cons_zero, List.set_cons_succ, List.nil_append, List.cons_append]
    refine wk_ldN 1 rfl rfl rfl rfl rfl ?_
    dsimp only [putL, setL, List.set_cons_zero, List.set_cons_succ, List.nil_append, List.cons_append]
    refine wk_move (.int .i64 (parI which)) rfl rfl rfl rfl ?_
    dsimp only [putL, setL, List.set_cons_zero, List.set_cons_succ, List.nil_append, List.cons_append]
    refine wk_ldN 0 rfl rfl rfl rfl rfl ?_
    dsimp only [putL, setL, List.set_cons_zero, List.set_cons_succ, List.nil_append, List.cons_append]
    refine wk_ldN 1 rfl rfl rfl rfl rfl ?_
    dsimp only [putL, setL, List.set_cons_zero, List.set_cons_succ, List.nil_append, List.cons_append]
    refine wk_call [(.int .i64 (parI which)), (numV a)] (numV (a % modW (parI which))) rfl rfl rfl (enters_of Try.func45 (by kernel_rfl) (by kernel_rfl)) rfl (red_ok (parI which) a h w_a) ?_
    dsimp only [putL, setL, List.set_cons_zero, List.set_cons_succ, List.nil_append, List.cons_append]
    refine wk_call [(.int .i64 (parI which)), (numV a), (numV b)] (numV ((a + b) % modW (parI which))) rfl rfl rfl (enters_of Try.func47 (by kernel_rfl) (by kernel_rfl)) rfl (fadd_ok (parI which) a b h w_a w_b) ?_
    dsimp only [putL, setL, List.set_cons_zero, List.set_cons_succ, List.nil_append, List.cons_append]
    refine wk_call [(.int .i64 (parI which)), (numV a), (numV b)] (numV (a * b % modW (parI which))) rfl rfl rfl (enters_of Try.func51 (by kernel_rfl) (by kernel_rfl)) rfl (fmul_ok (parI which) a b h w_a w_b) ?_
    dsimp only [putL, setL, List.set_cons_zero, List.set_cons_succ, List.nil_append, List.cons_append]
    refine wk_call [(.int .i64 (parI which)), (numV a), (numV b)] (numV (subM (modW (parI which)) a b)) rfl rfl rfl (enters_of Try.func49 (by kernel_rfl) (by kernel_rfl)) rfl (fsub_ok (parI which) a b h w_a w_b) ?_
    dsimp only [putL, setL, List.set_cons_zero, List.set_cons_succ, List.nil_append, List.cons_append]
    refine wk_make (z := rowO [(a % modW (parI which)), ((a + b) % modW (parI which)), (a * b % modW (parI which)), (subM (modW (parI which)) a b)]) (mk := fun β => .slice (some ⟨β, 0, none⟩) 4 4) rfl rfl (fun w => by kernel_rfl) fun β3 => ?_
    dsimp only [putL, setL, List.set_cons_zero, List.set_cons_succ, List.nil_append, List.cons_append]
    refine wk_assign (.slice (some ⟨β3, 0, none⟩) 4 4) rfl rfl rfl rfl ?_
    dsimp only [putL, setL, List.set_cons_zero, List.set_cons_succ, List.nil_append, List.cons_append]
    refine wk_nil ?_
    refine sp_seq rfl ?_
    refine sp_seq rfl ?_
    refine sp_region (π := [0]) [] rfl rfl ?_
    refine wk_assign (.int .i64 0) rfl rfl rfl rfl ?_
    dsimp only [putL, setL, List.set_cons_zero, List.set_cons_succ, List.nil_append, List.cons_append]
    refine wk_nil ?_
    refine sp_block rfl ?_
    refine sp_unroll 5 rfl ?_
    refine un_step ?_
    refine sp_seq rfl ?_
    refine sp_seq rfl ?_
    refine sp_region (π := [0, 1, 2, 3]) [] rfl rfl ?_
    refine wk_move (.int .i64 0) rfl rfl rfl rfl ?_
    dsimp only [putL, setL, List.set_cons_zero, List.set_cons_succ, List.nil_append, List.cons_append]
    refine wk_move (.slice (some ⟨β3, 0, none⟩) 4 4) rfl rfl rfl rfl ?_
    dsimp only [putL, setL, List.set_cons_zero, List.set_cons_succ, List.nil_append, List.cons_append]
    refine wk_len rfl rfl rfl rfl Try.underlying57 ?_
    dsimp only [putL, setL, List.set_cons_zero, List.set_cons_succ, List.nil_append, List.cons_append]
    refine wk_iop (.bool true) rfl rfl rfl rfl rfl rfl (iop_lss_t (by decide)) ?_
    dsimp only [putL, setL, List.set_cons_zero, List.set_cons_succ, List.nil_append, List.cons_append]
    refine wk_nil ?_
    refine sp_true rfl rfl ?_
    refine sp_skip rfl ?_
    refine sp_seq rfl ?_
    refine sp_block rfl ?_
    refine sp_seq rfl ?_
    refine sp_region (π := [0, 1, 2, 3, 4, 5, 6, 7, 8, 9, 10, 11, 12]) [] rfl rfl ?_
    refine wk_move (.int .i64 (parI which)) rfl rfl rfl rfl ?_
    dsimp only [putL, setL, List.set_cons_zero, List.set_cons_succ, List.nil_append, List.cons_append]
    refine wk_move (.slice (some ⟨β3, 0, none⟩) 4 4) rfl rfl rfl rfl ?_
    dsimp only [putL, setL, List.set_cons_zero, List.set_cons_succ, List.nil_append, List.cons_append]
    refine wk_move (.int .i64 0) rfl rfl rfl rfl ?_
    dsimp only [putL, setL, List.set_cons_zero, List.set_cons_succ, List.nil_append, List.cons_append]
    refine wk_idxS 0 4 rfl rfl rfl rfl rfl Try.underlying57 (by kernel_rfl) rfl (by decide) ?_
    dsimp only [putL, setL, List.set_cons_zero, List.set_cons_succ, List.nil_append, List.cons_append]
    refine wk_ldR 2 0 rfl rfl rfl rfl rfl rfl rfl ?_
    dsimp only [putL, setL, List.set_cons_zero, List.set_cons_succ, List.nil_append, List.cons_append]
    refine wk_call [(numV (a % modW (parI which)))] (b32V (a % modW (parI which))) rfl rfl rfl (enters_of Try.func40 (by kernel_rfl) (by kernel_rfl)) rfl (bytes_calls (a % modW (parI which)) (Nat.lt_trans (Nat.mod_lt _ (modW_pos h)) (modW_lt (parI which)))) ?_
    dsimp only [putL, setL, List.set_cons_zero, List.set_cons_succ, List.nil_append, List.cons_append]
    refine wk_call [(.int .i64 (parI which)), (b32V (a % modW (parI which)))] (.tuple #[(numV (a % modW (parI which))), (.int .i64 0)]) rfl rfl rfl (enters_of Try.func57 (by kernel_rfl) (by kernel_rfl)) rfl (read_in (parI which) (a % modW (parI which)) h (Nat.lt_trans (Nat.mod_lt _ (modW_pos h)) (modW_lt (parI which))) (cmp_neg (Nat.mod_lt _ (modW_pos h)))) ?_
    dsimp only [putL, setL, List.set_cons_zero, List.set_cons_succ, List.nil_append, List.cons_append]
    refine wk_move (.tuple #[(numV (a % modW (parI which))), (.int .i64 0)]) rfl rfl rfl rfl ?_
    dsimp only [putL, setL, List.set_cons_zero, List.set_cons_succ, List.nil_append, List.cons_append]
    refine wk_ext (numV (a % modW (parI which))) rfl rfl rfl rfl rfl ?_
    dsimp only [putL, setL, List.set_cons_zero, List.set_cons_succ, List.nil_append, List.cons_append]
    refine wk_ext (.int .i64 0) rfl rfl rfl rfl rfl ?_
    dsimp only [putL, setL, List.set_cons_zero, List.set_cons_succ, List.nil_append, List.cons_append]
    refine wk_newN rfl rfl fun β4 => ?_
    dsimp only [putL, setL, List.set_cons_zero, List.set_cons_succ, List.nil_append, List.cons_append]
    refine wk_stN 3 (a % modW (parI which)) rfl rfl rfl rfl rfl rfl ?_
    dsimp only [putL, setL, List.set_cons_zero, List.set_cons_succ, List.nil_append, List.cons_append]
    refine wk_assign (.int .i64 0) rfl rfl rfl rfl ?_
    dsimp only [putL, setL, List.set_cons_zero, List.set_cons_succ, List.nil_append, List.cons_append]
    refine wk_nil ?_
    refine sp_seq rfl ?_
    refine sp_draw [0, 1, 2, 3, 4, 5, 6, 7, 8, 9] [] mixed rfl (by kernel_rfl) (by kernel_rfl) ?_
    refine wk_move (.int .i64 0) rfl rfl rfl rfl ?_
    dsimp only [putL, setL, List.set_cons_zero, List.set_cons_succ, List.nil_append, List.cons_append]
    refine wk_iop (.bool false) rfl rfl rfl rfl rfl rfl (iop_neq_f (by decide)) ?_
    dsimp only [putL, setL, List.set_cons_zero, List.set_cons_succ, List.nil_append, List.cons_append]
    refine wk_move (.bool false) rfl rfl rfl rfl ?_
    dsimp only [putL, setL, List.set_cons_zero, List.set_cons_succ, List.nil_append, List.cons_append]
    refine wk_ldN 3 rfl rfl rfl rfl rfl ?_
    dsimp only [putL, setL, List.set_cons_zero, List.set_cons_succ, List.nil_append, List.cons_append]
    refine wk_move (.slice (some ⟨β3, 0, none⟩) 4 4) rfl rfl rfl rfl ?_
    dsimp only [putL, setL, List.set_cons_zero, List.set_cons_succ, List.nil_append, List.cons_append]
    refine wk_move (.int .i64 0) rfl rfl rfl rfl ?_
    dsimp only [putL, setL, List.set_cons_zero, List.set_cons_succ, List.nil_append, List.cons_append]
    refine wk_idxS 0 4 rfl rfl rfl rfl rfl Try.underlying57 (by kernel_rfl) rfl (by decide) ?_
    dsimp only [putL, setL, List.set_cons_zero, List.set_cons_succ, List.nil_append, List.cons_append]
    refine wk_ldR 2 0 rfl rfl rfl rfl rfl rfl rfl ?_
    dsimp only [putL, setL, List.set_cons_zero, List.set_cons_succ, List.nil_append, List.cons_append]
    refine wk_neN false rfl rfl rfl rfl rfl (Nat.lt_trans (Nat.mod_lt _ (modW_pos h)) (modW_lt (parI which))) (Nat.lt_trans (Nat.mod_lt _ (modW_pos h)) (modW_lt (parI which))) (decide_eq_true rfl) ?_
    dsimp only [putL, setL, List.set_cons_zero, List.set_cons_succ, List.nil_append, List.cons_append]
    refine wk_pick false (.bool false) rfl rfl rfl rfl rfl ?_
    dsimp only [putL, setL, List.set_cons_zero, List.set_cons_succ, List.nil_append, List.cons_append]
    refine wk_nil ?_
    refine sp_false rfl rfl ?_
    refine sp_skip rfl ?_
    refine sp_region (π := [0, 1, 2]) [] rfl rfl ?_
    refine wk_move (.int .i64 0) rfl rfl rfl rfl ?_
    dsimp only [putL, setL, List.set_cons_zero, List.set_cons_succ, List.nil_append, List.cons_append]
    refine wk_iop (.int .i64 1) rfl rfl rfl rfl rfl rfl (by kernel_rfl) ?_
    dsimp only [putL, setL, List.set_cons_zero, List.set_cons_succ, List.nil_append, List.cons_append]
    refine wk_assign (.int .i64 1) rfl rfl rfl rfl ?_
    dsimp only [putL, setL, List.set_cons_zero, List.set_cons_succ, List.nil_append, List.cons_append]
    refine wk_nil ?_
    refine un_step ?_
    refine sp_seq rfl ?_
    refine sp_seq rfl ?_
    refine sp_region (π := [0, 1, 2, 3]) [] rfl rfl ?_
    refine wk_move (.int .i64 1) rfl rfl rfl rfl ?_
    dsimp only [putL, setL, List.set_cons_zero, List.set_cons_succ, List.nil_append, List.cons_append]
    refine wk_move (.slice (some ⟨β3, 0, none⟩) 4 4) rfl rfl rfl rfl ?_
    dsimp only [putL, setL, List.set_cons_zero, List.set_cons_succ, List.nil_append, List.cons_append]
    refine wk_len rfl rfl rfl rfl Try.underlying57 ?_
    dsimp only [putL, setL, List.set_cons_zero, List.set_cons_succ, List.nil_append, List.cons_append]
    refine wk_iop (.bool true) rfl rfl rfl rfl rfl rfl (iop_lss_t (by decide)) ?_
    dsimp only [putL, setL, List.set_cons_zero, List.set_cons_succ, List.nil_append, List.cons_append]
    refine wk_nil ?_
    refine sp_true rfl rfl ?_
    refine sp_skip rfl ?_
    refine sp_seq rfl ?_
    refine sp_block rfl ?_
    refine sp_seq rfl ?_
    refine sp_region (π := [0, 1, 2, 3, 4, 5, 6, 7, 8, 9, 10, 11, 12]) [] rfl rfl ?_
    refine wk_move (.int .i64 (parI which)) rfl rfl rfl rfl ?_
    dsimp only [putL, setL, List.set_cons_zero, List.set_cons_succ, List.nil_append, List.cons_append]
    refine wk_move (.slice (some ⟨β3, 0, none⟩) 4 4) rfl rfl rfl rfl ?_
    dsimp only [putL, setL, List.set_cons_zero, List.set_cons_succ, List.nil_append, List.cons_append]
    refine wk_move (.int .i64 1) rfl rfl rfl rfl ?_
    dsimp only [putL, setL, List.set_cons_zero, List.set_cons_succ, List.nil_append, List.cons_append]
    refine wk_idxS 1 4 rfl rfl rfl rfl rfl Try.underlying57 (by kernel_rfl) rfl (by decide) ?_
    dsimp only [putL, setL, List.set_cons_zero, List.set_cons_succ, List.nil_append, List.cons_append]
    refine wk_ldR 2 1 rfl rfl rfl rfl rfl rfl rfl ?_
    dsimp only [putL, setL, List.set_cons_zero, List.set_cons_succ, List.nil_append, List.cons_append]
    refine wk_call [(numV ((a + b) % modW (parI which)))] (b32V ((a + b) % modW (parI which))) rfl rfl rfl (enters_of Try.func40 (by kernel_rfl) (by kernel_rfl)) rfl (bytes_calls ((a + b) % modW (parI which)) (Nat.lt_trans (Nat.mod_lt _ (modW_pos h)) (modW_lt (parI which)))) ?_
    dsimp only [putL, setL, List.set_cons_zero, List.set_cons_succ, List.nil_append, List.cons_append]
    refine wk_call [(.int .i64 (parI which)), (b32V ((a + b) % modW (parI which)))] (.tuple #[(numV ((a + b) % modW (parI which))), (.int .i64 0)]) rfl rfl rfl (enters_of Try.func57 (by kernel_rfl) (by kernel_rfl)) rfl (read_in (parI which) ((a + b) % modW (parI which)) h (Nat.lt_trans (Nat.mod_lt _ (modW_pos h)) (modW_lt (parI which))) (cmp_neg (Nat.mod_lt _ (modW_pos h)))) ?_
    dsimp only [putL, setL, List.set_cons_zero, List.set_cons_succ, List.nil_append, List.cons_append]
    refine wk_move (.tuple #[(numV ((a + b) % modW (parI which))), (.int .i64 0)]) rfl rfl rfl rfl ?_
    dsimp only [putL, setL, List.set_cons_zero, List.set_cons_succ, List.nil_append, List.cons_append]
    refine wk_ext (numV ((a + b) % modW (parI which))) rfl rfl rfl rfl rfl ?_
    dsimp only [putL, setL, List.set_cons_zero, List.set_cons_succ, List.nil_append, List.cons_append]
    refine wk_ext (.int .i64 0) rfl rfl rfl rfl rfl ?_
    dsimp only [putL, setL, List.set_cons_zero, List.set_cons_succ, List.nil_append, List.cons_append]
    refine wk_newN rfl rfl fun β5 => ?_
    dsimp only [putL, setL, List.set_cons_zero, List.set_cons_succ, List.nil_append, List.cons_append]
    refine wk_stN 4 ((a + b) % modW (parI which)) rfl rfl rfl rfl rfl rfl ?_
    dsimp only [putL, setL, List.set_cons_zero, List.set_cons_succ, List.nil_append, List.cons_append]
    refine wk_assign (.int .i64 0) rfl rfl rfl rfl ?_
    dsimp only [putL, setL, List.set_cons_zero, List.set_cons_succ, List.nil_append, List.cons_append]
    refine wk_nil ?_
    refine sp_seq rfl ?_
    refine sp_draw [0, 1, 2, 3, 4, 5, 6, 7, 8, 9] [] mixed rfl (by kernel_rfl) (by kernel_rfl) ?_
    refine wk_move (.int .i64 0) rfl rfl rfl rfl ?_
    dsimp only [putL, setL, List.set_cons_zero, List.set_cons_succ, List.nil_append, List.cons_append]
    refine wk_iop (.bool false) rfl rfl rfl rfl rfl rfl (iop_neq_f (by decide)) ?_
    dsimp only [putL, setL, List.set_cons_zero, List.set_cons_succ, List.nil_append, List.cons_append]
    refine wk_move (.bool false) rfl rfl rfl rfl ?_
    dsimp only [putL, setL, List.set_cons_zero, List.set_cons_succ, List.nil_append, List.cons_append]
    refine wk_ldN 4 rfl rfl rfl rfl rfl ?_
    dsimp only [putL, setL, List.set_cons_zero, List.set_cons_succ, List.nil_append, List.cons_append]
    refine wk_move (.slice (some ⟨β3, 0, none⟩) 4 4) rfl rfl rfl rfl ?_
    dsimp only [putL, setL, List.set_cons_zero, List.set_cons_succ, List.nil_append, List.cons_append]
    refine wk_move (.int .i64 1) rfl rfl rfl rfl ?_
    dsimp only [putL, setL, List.set_cons_zero, List.set_cons_succ, List.nil_append, List.cons_append]
    refine wk_idxS 1 4 rfl rfl rfl rfl rfl Try.underlying57 (by kernel_rfl) rfl (by decide) ?_
    dsimp only [putL, setL, List.set_cons_zero, List.set_cons_succ, List.nil_append, List.cons_append]
    refine wk_ldR 2 1 rfl rfl rfl rfl rfl rfl rfl ?_
    dsimp only [putL, setL, List.set_cons_zero, List.set_cons_succ, List.nil_append, List.cons_append]
    refine wk_neN false rfl rfl rfl rfl rfl (Nat.lt_trans (Nat.mod_lt _ (modW_pos h)) (modW_lt (parI which))) (Nat.lt_trans (Nat.mod_lt _ (modW_pos h)) (modW_lt (parI which))) (decide_eq_true rfl) ?_
    dsimp only [putL, setL, List.set_cons_zero, List.set_cons_succ, List.nil_append, List.cons_append]
    refine wk_pick false (.bool false) rfl rfl rfl rfl rfl ?_
    dsimp only [putL, setL, List.set_cons_zero, List.set_cons_succ, List.nil_append, List.cons_append]
    refine wk_nil ?_
    refine sp_false rfl rfl ?_
    refine sp_skip rfl ?_
    refine sp_region (π := [0, 1, 2]) [] rfl rfl ?_
    refine wk_move (.int .i64 1) rfl rfl rfl rfl ?_
    dsimp only [putL, setL, List.set_cons_zero, List.set_cons_succ, List.nil_append, List.cons_append]
    refine wk_iop (.int .i64 2) rfl rfl rfl rfl rfl rfl (by kernel_rfl) ?_
    dsimp only [putL, setL, List.set_cons_zero, List.set_cons_succ, List.nil_append, List.cons_append]
    refine wk_assign (.int .i64 2) rfl rfl rfl rfl ?_
    dsimp only [putL, setL, List.set_cons_zero, List.set_cons_succ, List.nil_append, List.cons_append]
    refine wk_nil ?_
    refine un_step ?_
    refine sp_seq rfl ?_
    refine sp_seq rfl ?_
    refine sp_region (π := [0, 1, 2, 3]) [] rfl rfl ?_
    refine wk_move (.int .i64 2) rfl rfl rfl rfl ?_
    dsimp only [putL, setL, List.set_cons_zero, List.set_cons_succ, List.nil_append, List.cons_append]
    refine wk_move (.slice (some ⟨β3, 0, none⟩) 4 4) rfl rfl rfl rfl ?_
    dsimp only [putL, setL, List.set_cons_zero, List.set_cons_succ, List.nil_append, List.cons_append]
    refine wk_len rfl rfl rfl rfl Try.underlying57 ?_
    dsimp only [putL, setL, List.set_cons_zero, List.set_cons_succ, List.nil_append, List.cons_append]
    refine wk_iop (.bool true) rfl rfl rfl rfl rfl rfl (iop_lss_t (by decide)) ?_
    dsimp only [putL, setL, List.set_cons_zero, List.set_cons_succ, List.nil_append, List.cons_append]
    refine wk_nil ?_
    refine sp_true rfl rfl ?_
    refine sp_skip rfl ?_
    refine sp_seq rfl ?_
    refine sp_block rfl ?_
    refine sp_seq rfl ?_
    refine sp_region (π := [0, 1, 2, 3, 4, 5, 6, 7, 8, 9, 10, 11, 12]) [] rfl rfl ?_
    refine wk_move (.int .i64 (parI which)) rfl rfl rfl rfl ?_
    dsimp only [putL, setL, List.set_cons_zero, List.set_cons_succ, List.nil_append, List.cons_append]
    refine wk_move (.slice (some ⟨β3, 0, none⟩) 4 4) rfl rfl rfl rfl ?_
    dsimp only [putL, setL, List.set_cons_zero, List.set_cons_succ, List.nil_append, List.cons_append]
    refine wk_move (.int .i64 2) rfl rfl rfl rfl ?_
    dsimp only [putL, setL, List.set_cons_zero, List.set_cons_succ, List.nil_append, List.cons_append]
    refine wk_idxS 2 4 rfl rfl rfl rfl rfl Try.underlying57 (by kernel_rfl) rfl (by decide) ?_
    dsimp only [putL, setL, List.set_cons_zero, List.set_cons_succ, List.nil_append, List.cons_append]
    refine wk_ldR 2 2 rfl rfl rfl rfl rfl rfl rfl ?_
    dsimp only [putL, setL, List.set_cons_zero, List.set_cons_succ, List.nil_append, List.cons_append]
    refine wk_call [(numV (a * b % modW (parI which)))] (b32V (a * b % modW (parI which))) rfl rfl rfl (enters_of Try.func40 (by kernel_rfl) (by kernel_rfl)) rfl (bytes_calls (a * b % modW (parI which)) (Nat.lt_trans (Nat.mod_lt _ (modW_pos h)) (modW_lt (parI which)))) ?_
    dsimp only [putL, setL, List.set_cons_zero, List.set_cons_succ, List.nil_append, List.cons_append]
    refine wk_call [(.int .i64 (parI which)), (b32V (a * b % modW (parI which)))] (.tuple #[(numV (a * b % modW (parI which))), (.int .i64 0)]) rfl rfl rfl (enters_of Try.func57 (by kernel_rfl) (by kernel_rfl)) rfl (read_in (parI which) (a * b % modW (parI which)) h (Nat.lt_trans (Nat.mod_lt _ (modW_pos h)) (modW_lt (parI which))) (cmp_neg (Nat.mod_lt _ (modW_pos h)))) ?_
    dsimp only [putL, setL, List.set_cons_zero, List.set_cons_succ, List.nil_append, List.cons_append]
    refine wk_move (.tuple #[(numV (a * b % modW (parI which))), (.int .i64 0)]) rfl rfl rfl rfl ?_
    dsimp only [putL, setL, List.set_cons_zero, List.set_cons_succ, List.nil_append, List.cons_append]
    refine wk_ext (numV (a * b % modW (parI which))) rfl rfl rfl rfl rfl ?_
    dsimp only [putL, setL, List.set_cons_zero, List.set_cons_succ, List.nil_append, List.cons_append]
    refine wk_ext (.int .i64 0) rfl rfl rfl rfl rfl ?_
    dsimp only [putL, setL, List.set_cons_zero, List.set_cons_succ, List.nil_append, List.cons_append]
    refine wk_newN rfl rfl fun β6 => ?_
    dsimp only [putL, setL, List.set_cons_zero, List.set_cons_succ, List.nil_append, List.cons_append]
    refine wk_stN 5 (a * b % modW (parI which)) rfl rfl rfl rfl rfl rfl ?_
    dsimp only [putL, setL, List.set_cons_zero, List.set_cons_succ, List.nil_append, List.cons_append]
    refine wk_assign (.int .i64 0) rfl rfl rfl rfl ?_
    dsimp only [putL, setL, List.set_cons_zero, List.set_cons_succ, List.nil_append, List.cons_append]
    refine wk_nil ?_
    refine sp_seq rfl ?_
    refine sp_draw [0, 1, 2, 3, 4, 5, 6, 7, 8, 9] [] mixed rfl (by kernel_rfl) (by kernel_rfl) ?_
    refine wk_move (.int .i64 0) rfl rfl rfl rfl ?_
    dsimp only [putL, setL, List.set_cons_zero, List.set_cons_succ, List.nil_append, List.cons_append]
    refine wk_iop (.bool false) rfl rfl rfl rfl rfl rfl (iop_neq_f (by decide)) ?_
    dsimp only [putL, setL, List.set_cons_zero, List.set_cons_succ, List.nil_append, List.cons_append]
    refine wk_move (.bool false) rfl rfl rfl rfl ?_
    dsimp only [putL, setL, List.set_cons_zero, List.set_cons_succ, List.nil_append, List.cons_append]
    refine wk_ldN 5 rfl rfl rfl rfl rfl ?_
    dsimp only [putL, setL, List.set_cons_zero, List.set_cons_succ, List.nil_append, List.cons_append]
    refine wk_move (.slice (some ⟨β3, 0, none⟩) 4 4) rfl rfl rfl rfl ?_
    dsimp only [putL, setL, List.set_cons_zero, List.set_cons_succ, List.nil_append, List.cons_append]
    refine wk_move (.int .i64 2) rfl rfl rfl rfl ?_
    dsimp only [putL, setL, List.set_cons_zero, List.set_cons_succ, List.nil_append, List.cons_append]
    refine wk_idxS 2 4 rfl rfl rfl rfl rfl Try.underlying57 (by kernel_rfl) rfl (by decide) ?_
    dsimp only [putL, setL, List.set_cons_zero, List.set_cons_succ, List.nil_append, List.cons_append]
    refine wk_ldR 2 2 rfl rfl rfl rfl rfl rfl rfl ?_
    dsimp only [putL, setL, List.set_cons_zero, List.set_cons_succ, List.nil_append, List.cons_append]
    refine wk_neN false rfl rfl rfl rfl rfl (Nat.lt_trans (Nat.mod_lt _ (modW_pos h)) (modW_lt (parI which))) (Nat.lt_trans (Nat.mod_lt _ (modW_pos h)) (modW_lt (parI which))) (decide_eq_true rfl) ?_
    dsimp only [putL, setL, List.set_cons_zero, List.set_cons_succ, List.nil_append, List.cons_append]
    refine wk_pick false (.bool false) rfl rfl rfl rfl rfl ?_
    dsimp only [putL, setL, List.set_cons_zero, List.set_cons_succ, List.nil_append, List.cons_append]
    refine wk_nil ?_
    refine sp_false rfl rfl ?_
    refine sp_skip rfl ?_
    refine sp_region (π := [0, 1, 2]) [] rfl rfl ?_
    refine wk_move (.int .i64 2) rfl rfl rfl rfl ?_
    dsimp only [putL, setL, List.set_cons_zero, List.set_cons_succ, List.nil_append, List.cons_append]
    refine wk_iop (.int .i64 3) rfl rfl rfl rfl rfl rfl (by kernel_rfl) ?_
    dsimp only [putL, setL, List.set_cons_zero, List.set_cons_succ, List.nil_append, List.cons_append]
    refine wk_assign (.int .i64 3) rfl rfl rfl rfl ?_
    dsimp only [putL, setL, List.set_cons_zero, List.set_cons_succ, List.nil_append, List.cons_append]
    refine wk_nil ?_
    refine un_step ?_
    refine sp_seq rfl ?_
    refine sp_seq rfl ?_
    refine sp_region (π := [0, 1, 2, 3]) [] rfl rfl ?_
    refine wk_move (.int .i64 3) rfl rfl rfl rfl ?_
    dsimp only [putL, setL, List.set_cons_zero, List.set_cons_succ, List.nil_append, List.cons_append]
    refine wk_move (.slice (some ⟨β3, 0, none⟩) 4 4) rfl rfl rfl rfl ?_
    dsimp only [putL, setL, List.set_cons_zero, List.set_cons_succ, List.nil_append, List.cons_append]
    refine wk_len rfl rfl rfl rfl Try.underlying57 ?_
    dsimp only [putL, setL, List.set_cons_zero, List.set_cons_succ, List.nil_append, List.cons_append]
    refine wk_iop (.bool true) rfl rfl rfl rfl rfl rfl (iop_lss_t (by decide)) ?_
    dsimp only [putL, setL, List.set_cons_zero, List.set_cons_succ, List.nil_append, List.cons_append]
    refine wk_nil ?_
    refine sp_true rfl rfl ?_
    refine sp_skip rfl ?_
    refine sp_seq rfl ?_
    refine sp_block rfl ?_
    refine sp_seq rfl ?_
    refine sp_region (π := [0, 1, 2, 3, 4, 5, 6, 7, 8, 9, 10, 11, 12]) [] rfl rfl ?_
    refine wk_move (.int .i64 (parI which)) rfl rfl rfl rfl ?_
    dsimp only [putL, setL, List.set_cons_zero, List.set_cons_succ, List.nil_append, List.cons_append]
    refine wk_move (.slice (some ⟨β3, 0, none⟩) 4 4) rfl rfl rfl rfl ?_
    dsimp only [putL, setL, List.set_cons_zero, List.set_cons_succ, List.nil_append, List.cons_append]
    refine wk_move (.int .i64 3) rfl rfl rfl rfl ?_
    dsimp only [putL, setL, List.set_cons_zero, List.set_cons_succ, List.nil_append, List.cons_append]
    refine wk_idxS 3 4 rfl rfl rfl rfl rfl Try.underlying57 (by kernel_rfl) rfl (by decide) ?_
    dsimp only [putL, setL, List.set_cons_zero, List.set_cons_succ, List.nil_append, List.cons_append]
    refine wk_ldR 2 3 rfl rfl rfl rfl rfl rfl rfl ?_
    dsimp only [putL, setL, List.set_cons_zero, List.set_cons_succ, List.nil_append, List.cons_append]
    refine wk_call [(numV (subM (modW (parI which)) a b))] (b32V (subM (modW (parI which)) a b)) rfl rfl rfl (enters_of Try.func40 (by kernel_rfl) (by kernel_rfl)) rfl (bytes_calls (subM (modW (parI which)) a b) (Nat.lt_trans (Nat.mod_lt _ (modW_pos h)) (modW_lt (parI which)))) ?_
    dsimp only [putL, setL, List.set_cons_zero, List.set_cons_succ, List.nil_append, List.cons_append]
    refine wk_call [(.int .i64 (parI which)), (b32V (subM (modW (parI which)) a b))] (.tuple #[(numV (subM (modW (parI which)) a b)), (.int .i64 0)]) rfl rfl rfl (enters_of Try.func57 (by kernel_rfl) (by kernel_rfl)) rfl (read_in (parI which) (subM (modW (parI which)) a b) h (Nat.lt_trans (Nat.mod_lt _ (modW_pos h)) (modW_lt (parI which))) (cmp_neg (subM_lt (modW_pos h)))) ?_
    dsimp only [putL, setL, List.set_cons_zero, List.set_cons_succ, List.nil_append, List.cons_append]
    refine wk_move (.tuple #[(numV (subM (modW (parI which)) a b)), (.int .i64 0)]) rfl rfl rfl rfl ?_
    dsimp only [putL, setL, List.set_cons_zero, List.set_cons_succ, List.nil_append, List.cons_append]
    refine wk_ext (numV (subM (modW (parI which)) a b)) rfl rfl rfl rfl rfl ?_
    dsimp only [putL, setL, List.set_cons_zero, List.set_cons_succ, List.nil_append, List.cons_append]
    refine wk_ext (.int .i64 0) rfl rfl rfl rfl rfl ?_
    dsimp only [putL, setL, List.set_cons_zero, List.set_cons_succ, List.nil_append, List.cons_append]
    refine wk_newN rfl rfl fun β7 => ?_
    dsimp only [putL, setL, List.set_cons_zero, List.set_cons_succ, List.nil_append, List.cons_append]
    refine wk_stN 6 (subM (modW (parI which)) a b) rfl rfl rfl rfl rfl rfl ?_
    dsimp only [putL, setL, List.set_cons_zero, List.set_cons_succ, List.nil_append, List.cons_append]
    refine wk_assign (.int .i64 0) rfl rfl rfl rfl ?_
    dsimp only [putL, setL, List.set_cons_zero, List.set_cons_succ, List.nil_append, List.cons_append]
    refine wk_nil ?_
    refine sp_seq rfl ?_
    refine sp_draw [0, 1, 2, 3, 4, 5, 6, 7, 8, 9] [] mixed rfl (by kernel_rfl) (by kernel_rfl) ?_
    refine wk_move (.int .i64 0) rfl rfl rfl rfl ?_
    dsimp only [putL, setL, List.set_cons_zero, List.set_cons_succ, List.nil_append, List.cons_append]
    refine wk_iop (.bool false) rfl rfl rfl rfl rfl rfl (iop_neq_f (by decide)) ?_
    dsimp only [putL, setL, List.set_cons_zero, List.set_cons_succ, List.nil_append, List.cons_append]
    refine wk_move (.bool false) rfl rfl rfl rfl ?_
    dsimp only [putL, setL, List.set_cons_zero, List.set_cons_succ, List.nil_append, List.cons_append]
    refine wk_ldN 6 rfl rfl rfl rfl rfl ?_
    dsimp only [putL, setL, List.set_cons_zero, List.set_cons_succ, List.nil_append, List.cons_append]
    refine wk_move (.slice (some ⟨β3, 0, none⟩) 4 4) rfl rfl rfl rfl ?_
    dsimp only [putL, setL, List.set_cons_zero, List.set_cons_succ, List.nil_append, List.cons_append]
    refine wk_move (.int .i64 3) rfl rfl rfl rfl ?_
    dsimp only [putL, setL, List.set_cons_zero, List.set_cons_succ, List.nil_append, List.cons_append]
    refine wk_idxS 3 4 rfl rfl rfl rfl rfl Try.underlying57 (by kernel_rfl) rfl (by decide) ?_
    dsimp only [putL, setL, List.set_cons_zero, List.set_cons_succ, List.nil_append, List.cons_append]
    refine wk_ldR 2 3 rfl rfl rfl rfl rfl rfl rfl ?_
    dsimp only [putL, setL, List.set_cons_zero, List.set_cons_succ, List.nil_append, List.cons_append]
    refine wk_neN false rfl rfl rfl rfl rfl (Nat.lt_trans (Nat.mod_lt _ (modW_pos h)) (modW_lt (parI which))) (Nat.lt_trans (Nat.mod_lt _ (modW_pos h)) (modW_lt (parI which))) (decide_eq_true rfl) ?_
    dsimp only [putL, setL, List.set_cons_zero, List.set_cons_succ, List.nil_append, List.cons_append]
    refine wk_pick false (.bool false) rfl rfl rfl rfl rfl ?_
    dsimp only [putL, setL, List.set_cons_zero, List.set_cons_succ, List.nil_append, List.cons_append]
    refine wk_nil ?_
    refine sp_false rfl rfl ?_
    refine sp_skip rfl ?_
    refine sp_region (π := [0, 1, 2]) [] rfl rfl ?_
    refine wk_move (.int .i64 3) rfl rfl rfl rfl ?_
    dsimp only [putL, setL, List.set_cons_zero, List.set_cons_succ, List.nil_append, List.cons_append]
    refine wk_iop (.int .i64 4) rfl rfl rfl rfl rfl rfl (by kernel_rfl) ?_
    dsimp only [putL, setL, List.set_cons_zero, List.set_cons_succ, List.nil_append, List.cons_append]
    refine wk_assign (.int .i64 4) rfl rfl rfl rfl ?_
    dsimp only [putL, setL, List.set_cons_zero, List.set_cons_succ, List.nil_append, List.cons_append]
    refine wk_nil ?_
    refine un_step ?_
    refine sp_seq rfl ?_
    refine sp_seq rfl ?_
    refine sp_region (π := [0, 1, 2, 3]) [] rfl rfl ?_
    refine wk_move (.int .i64 4) rfl rfl rfl rfl ?_
    dsimp only [putL, setL, List.set_cons_zero, List.set_cons_succ, List.nil_append, List.cons_append]
    refine wk_move (.slice (some ⟨β3, 0, none⟩) 4 4) rfl rfl rfl rfl ?_
    dsimp only [putL, setL, List.set_cons_zero, List.set_cons_succ, List.nil_append, List.cons_append]
    refine wk_len rfl rfl rfl rfl Try.underlying57 ?_
    dsimp only [putL, setL, List.set_cons_zero, List.set_cons_succ, List.nil_append, List.cons_append]
    refine wk_iop (.bool false) rfl rfl rfl rfl rfl rfl (iop_lss_f (by decide)) ?_
    dsimp only [putL, setL, List.set_cons_zero, List.set_cons_succ, List.nil_append, List.cons_append]
    refine wk_nil ?_
    refine sp_false rfl rfl ?_
    refine sp_exit rfl ?_
    refine sp_seq rfl ?_
    refine sp_region (π := [0, 1, 2, 3]) [] rfl rfl ?_
    refine wk_move (.int .i64 (parI which)) rfl rfl rfl rfl ?_
    dsimp only [putL, setL, List.set_cons_zero, List.set_cons_succ, List.nil_append, List.cons_append]
    refine wk_call [(.int .i64 (parI which))] (numV 115792089237316195423570985008687907853269984665640564039457584007908834671663) rfl rfl rfl (enters_of Try.func43 (by kernel_rfl) (by kernel_rfl)) rfl (conv (by rw [h0]; rfl) (prime_ok (parI which) h)) ?_
    dsimp only [putL, setL, List.set_cons_zero, List.set_cons_succ, List.nil_append, List.cons_append]
    refine wk_newN rfl rfl fun β8 => ?_
    dsimp only [putL, setL, List.set_cons_zero, List.set_cons_succ, List.nil_append, List.cons_append]
    refine wk_stN 7 115792089237316195423570985008687907853269984665640564039457584007908834671663 rfl rfl rfl rfl rfl rfl ?_
    dsimp only [putL, setL, List.set_cons_zero, List.set_cons_succ, List.nil_append, List.cons_append]
    refine wk_nil ?_
    refine sp_seq rfl ?_
    refine sp_region (π := [0, 1, 2, 3, 4, 5, 6, 7, 8, 9]) [] rfl rfl ?_
    refine wk_move (.int .i64 (parI which)) rfl rfl rfl rfl ?_
    dsimp only [putL, setL, List.set_cons_zero, List.set_cons_succ, List.nil_append, List.cons_append]
    refine wk_ldN 7 rfl rfl rfl rfl rfl ?_
    dsimp only [putL, setL, List.set_cons_zero, List.set_cons_succ, List.nil_append, List.cons_append]
    refine wk_call [(numV 115792089237316195423570985008687907853269984665640564039457584007908834671663)] (b32V 115792089237316195423570985008687907853269984665640564039457584007908834671663) rfl rfl rfl (enters_of Try.func40 (by kernel_rfl) (by kernel_rfl)) rfl (bytes_calls 115792089237316195423570985008687907853269984665640564039457584007908834671663 (by decide)) ?_
    dsimp only [putL, setL, List.set_cons_zero, List.set_cons_succ, List.nil_append, List.cons_append]
    refine wk_call [(.int .i64 (parI which)), (b32V 115792089237316195423570985008687907853269984665640564039457584007908834671663)] (.tuple #[(numV 0), (.int .i64 2)]) rfl rfl rfl (enters_of Try.func57 (by kernel_rfl) (by kernel_rfl)) rfl (read_out (parI which) 115792089237316195423570985008687907853269984665640564039457584007908834671663 h (by decide) (by rw [h0]; decide)) ?_
    dsimp only [putL, setL, List.set_cons_zero, List.set_cons_succ, List.nil_append, List.cons_append]
    refine wk_move (.tuple #[(numV 0), (.int .i64 2)]) rfl rfl rfl rfl ?_
    dsimp only [putL, setL, List.set_cons_zero, List.set_cons_succ, List.nil_append, List.cons_append]
    refine wk_ext (numV 0) rfl rfl rfl rfl rfl ?_
    dsimp only [putL, setL, List.set_cons_zero, List.set_cons_succ, List.nil_append, List.cons_append]
    refine wk_ext (.int .i64 2) rfl rfl rfl rfl rfl ?_
    dsimp only [putL, setL, List.set_cons_zero, List.set_cons_succ, List.nil_append, List.cons_append]
    refine wk_newN rfl rfl fun β9 => ?_
    dsimp only [putL, setL, List.set_cons_zero, List.set_cons_succ, List.nil_append, List.cons_append]
    refine wk_stN 8 0 rfl rfl rfl rfl rfl rfl ?_
    dsimp only [putL, setL, List.set_cons_zero, List.set_cons_succ, List.nil_append, List.cons_append]
    refine wk_assign (.int .i64 2) rfl rfl rfl rfl ?_
    dsimp only [putL, setL, List.set_cons_zero, List.set_cons_succ, List.nil_append, List.cons_append]
    refine wk_nil ?_
    refine sp_seq rfl ?_
    refine sp_region (π := [0, 1, 2, 3, 4]) [] rfl rfl ?_
    refine wk_idx 0 1 rfl rfl rfl rfl rfl nunder (by kernel_rfl) rfl (by decide) ?_
    dsimp only [putL, setL, List.set_cons_zero, List.set_cons_succ, List.nil_append, List.cons_append]
    refine wk_digit 7 0 18446744069414583343 (by decide) (by kernel_rfl) rfl rfl rfl rfl rfl ?_
    dsimp only [putL, setL, List.set_cons_zero, List.set_cons_succ, List.nil_append, List.cons_append]
    refine wk_iop (.int .u64 18446744069414583342) rfl rfl rfl rfl rfl rfl (by kernel_rfl) ?_
    dsimp only [putL, setL, List.set_cons_zero, List.set_cons_succ, List.nil_append, List.cons_append]
    refine wk_idx 0 1 rfl rfl rfl rfl rfl nunder (by kernel_rfl) rfl (by decide) ?_
    dsimp only [putL, setL, List.set_cons_zero, List.set_cons_succ, List.nil_append, List.cons_append]
    refine wk_stD 7 0 115792089237316195423570985008687907853269984665640564039457584007908834671662 rfl rfl rfl rfl rfl rfl (by kernel_rfl) (by decide) ?_
    dsimp only [putL, setL, List.set_cons_zero, List.set_cons_succ, List.nil_append, List.cons_append]
    refine wk_nil ?_
    refine sp_seq rfl ?_
    refine sp_region (π := [0, 1, 2, 3, 4, 5, 6, 7, 8, 9]) [] rfl rfl ?_
    refine wk_move (.int .i64 (parI which)) rfl rfl rfl rfl ?_
    dsimp only [putL, setL, List.set_cons_zero, List.set_cons_succ, List.nil_append, List.cons_append]
    refine wk_ldN 7 rfl rfl rfl rfl rfl ?_
    dsimp only [putL, setL, List.set_cons_zero, List.set_cons_succ, List.nil_append, List.cons_append]
    refine wk_call [(numV 115792089237316195423570985008687907853269984665640564039457584007908834671662)] (b32V 115792089237316195423570985008687907853269984665640564039457584007908834671662) rfl rfl rfl (enters_of Try.func40 (by kernel_rfl) (by kernel_rfl)) rfl (bytes_calls 115792089237316195423570985008687907853269984665640564039457584007908834671662 (by decide)) ?_
    dsimp only [putL, setL, List.set_cons_zero, List.set_cons_succ, List.nil_append, List.cons_append]
    refine wk_call [(.int .i64 (parI which)), (b32V 115792089237316195423570985008687907853269984665640564039457584007908834671662)] (.tuple #[(numV 115792089237316195423570985008687907853269984665640564039457584007908834671662), (.int .i64 0)]) rfl rfl rfl (enters_of Try.func57 (by kernel_rfl) (by kernel_rfl)) rfl (read_in (parI which) 115792089237316195423570985008687907853269984665640564039457584007908834671662 h (by decide) (by rw [h0]; decide)) ?_
    dsimp only [putL, setL, List.set_cons_zero, List.set_cons_succ, List.nil_append, List.cons_append]
    refine wk_move (.tuple #[(numV 115792089237316195423570985008687907853269984665640564039457584007908834671662), (.int .i64 0)]) rfl rfl rfl rfl ?_
    dsimp only [putL, setL, List.set_cons_zero, List.set_cons_succ, List.nil_append, List.cons_append]
    refine wk_ext (numV 115792089237316195423570985008687907853269984665640564039457584007908834671662) rfl rfl rfl rfl rfl ?_
    dsimp only [putL, setL, List.set_cons_zero, List.set_cons_succ, List.nil_append, List.cons_append]
    refine wk_ext (.int .i64 0) rfl rfl rfl rfl rfl ?_
    dsimp only [putL, setL, List.set_cons_zero, List.set_cons_succ, List.nil_append, List.cons_append]
    refine wk_newN rfl rfl fun β10 => ?_
    dsimp only [putL, setL, List.set_cons_zero, List.set_cons_succ, List.nil_append, List.cons_append]
    refine wk_stN 9 115792089237316195423570985008687907853269984665640564039457584007908834671662 rfl rfl rfl rfl rfl rfl ?_
    dsimp only [putL, setL, List.set_cons_zero, List.set_cons_succ, List.nil_append, List.cons_append]
    refine wk_assign (.int .i64 0) rfl rfl rfl rfl ?_
    dsimp only [putL, setL, List.set_cons_zero, List.set_cons_succ, List.nil_append, List.cons_append]
    refine wk_nil ?_
    refine sp_seq rfl ?_
    refine sp_region (π := [0, 1, 2, 3, 4, 5, 6, 7, 8, 9, 10, 11, 12, 13, 14, 15, 16, 17, 18, 19, 20, 21, 22]) [] rfl rfl ?_
    refine wk_move (.int .i64 2) rfl rfl rfl rfl ?_
    dsimp only [putL, setL, List.set_cons_zero, List.set_cons_succ, List.nil_append, List.cons_append]
    refine wk_iop (.bool true) rfl rfl rfl rfl rfl rfl (iop_eql_t (by decide)) ?_
    dsimp only [putL, setL, List.set_cons_zero, List.set_cons_succ, List.nil_append, List.cons_append]
    refine wk_move (.bool true) rfl rfl rfl rfl ?_
    dsimp only [putL, setL, List.set_cons_zero, List.set_cons_succ, List.nil_append, List.cons_append]
    refine wk_move (.int .i64 0) rfl rfl rfl rfl ?_
    dsimp only [putL, setL, List.set_cons_zero, List.set_cons_succ, List.nil_append, List.cons_append]
    refine wk_iop (.bool true) rfl rfl rfl rfl rfl rfl (iop_eql_t (by decide)) ?_
    dsimp only [putL, setL, List.set_cons_zero, List.set_cons_succ, List.nil_append, List.cons_append]
    refine wk_pick true (.bool true) rfl rfl rfl rfl rfl ?_
    dsimp only [putL, setL, List.set_cons_zero, List.set_cons_succ, List.nil_append, List.cons_append]
    refine wk_move (.bool true) rfl rfl rfl rfl ?_
    dsimp only [putL, setL, List.set_cons_zero, List.set_cons_succ, List.nil_append, List.cons_append]
    refine wk_ldN 9 rfl rfl rfl rfl rfl ?_
    dsimp only [putL, setL, List.set_cons_zero, List.set_cons_succ, List.nil_append, List.cons_append]
    refine wk_ldN 7 rfl rfl rfl rfl rfl ?_
    dsimp only [putL, setL, List.set_cons_zero, List.set_cons_succ, List.nil_append, List.cons_append]
    refine wk_eqN true rfl rfl rfl rfl rfl (by decide) (by decide) (decide_eq_true rfl) ?_
    dsimp only [putL, setL, List.set_cons_zero, List.set_cons_succ, List.nil_append, List.cons_append]
    refine wk_pick true (.bool true) rfl rfl rfl rfl rfl ?_
    dsimp only [putL, setL, List.set_cons_zero, List.set_cons_succ, List.nil_append, List.cons_append]
    refine wk_move (.bool true) rfl rfl rfl rfl ?_
    dsimp only [putL, setL, List.set_cons_zero, List.set_cons_succ, List.nil_append, List.cons_append]
    refine wk_move (.int .i64 (parI which)) rfl rfl rfl rfl ?_
    dsimp only [putL, setL, List.set_cons_zero, List.set_cons_succ, List.nil_append, List.cons_append]
    refine wk_ldN 9 rfl rfl rfl rfl rfl ?_
    dsimp only [putL, setL, List.set_cons_zero, List.set_cons_succ, List.nil_append, List.cons_append]
    refine wk_val (numV 1) rfl rfl rfl (fun w => by kernel_rfl) ?_
    dsimp only [putL, setL, List.set_cons_zero, List.set_cons_succ, List.nil_append, List.cons_append]
    refine wk_call [(.int .i64 (parI which)), (numV 115792089237316195423570985008687907853269984665640564039457584007908834671662), (numV 1)] (numV ((115792089237316195423570985008687907853269984665640564039457584007908834671662 + 1) % modW (parI which))) rfl rfl rfl (enters_of Try.func47 (by kernel_rfl) (by kernel_rfl)) rfl (fadd_ok (parI which) 115792089237316195423570985008687907853269984665640564039457584007908834671662 1 h (by decide) (by decide)) ?_
    dsimp only [putL, setL, List.set_cons_zero, List.set_cons_succ, List.nil_append, List.cons_append]
    refine wk_val (numV 0) rfl rfl rfl (fun w => by kernel_rfl) ?_
    dsimp only [putL, setL, List.set_cons_zero, List.set_cons_succ, List.nil_append, List.cons_append]
    refine wk_eqN true rfl rfl rfl rfl rfl (Nat.lt_trans (Nat.mod_lt _ (modW_pos h)) (modW_lt (parI which))) (by decide) (decide_eq_true (by rw [h0]; decide)) ?_
    dsimp only [putL, setL, List.set_cons_zero, List.set_cons_succ, List.nil_append, List.cons_append]
    refine wk_pick true (.bool true) rfl rfl rfl rfl rfl ?_
    dsimp only [putL, setL, List.set_cons_zero, List.set_cons_succ, List.nil_append, List.cons_append]
    refine wk_move (.bool true) rfl rfl rfl rfl ?_
    dsimp only [putL, setL, List.set_cons_zero, List.set_cons_succ, List.nil_append, List.cons_append]
    refine wk_call [] (.bool true) rfl rfl rfl (enters_of Try.func53 (by kernel_rfl) (by kernel_rfl)) rfl wakes2_calls ?_
    dsimp only [putL, setL, List.set_cons_zero, List.set_cons_succ, List.nil_append, List.cons_append]
    refine wk_pick true (.bool true) rfl rfl rfl rfl rfl ?_
    dsimp only [putL, setL, List.set_cons_zero, List.set_cons_succ, List.nil_append, List.cons_append]
    refine wk_assign (.bool true) rfl rfl rfl rfl ?_
    dsimp only [putL, setL, List.set_cons_zero, List.set_cons_succ, List.nil_append, List.cons_append]
    refine wk_nil ?_
    refine sp_ret rfl ?_
    exact ret_tmps (v := (.bool true)) (fun w' => by kernel_rfl) fun w' hw => ⟨rfl, hw.below⟩
  · skip
    refine fn_calls (l0 := [(.int .i64 which), (numV a), (numV b), undef, undef, undef, undef, undef, undef, undef, undef, undef, undef, undef, undef, undef, undef, undef, undef, undef, undef, undef, undef, undef, undef, undef, undef, undef, undef, undef, undef, undef, undef, undef, undef, undef, undef, undef, undef, undef, undef, undef, undef, undef, undef, undef, undef, undef, undef, undef, undef, undef, undef, undef, undef, undef, undef, undef, undef, undef, undef, undef, undef, undef, undef, undef, undef, undef, undef, undef, undef, undef, undef, undef, undef, undef, undef, undef, undef, undef, undef, undef, undef, undef, undef, undef, undef, undef, undef, undef, undef, undef, undef, undef, undef, undef, undef, undef, undef, undef, undef, undef, undef, undef]) Try.func18 rfl rfl [] (St.start w) ?_
    refine sp_seq rfl ?_
    refine sp_region (π := [0, 1, 2]) [] rfl rfl ?_
    refine wk_boxN a rfl rfl rfl fun β1 => ?_
    dsimp only [putL, setL, List.set_cons_zero, List.set_cons_succ, List.nil_append, List.cons_append]
    refine wk_boxN b rfl rfl rfl fun β2 => ?_
    dsimp only [putL, setL, List.set_cons_zero, List.set_cons_succ, List.nil_append, List.cons_append]
    refine wk_assign (.bool false) rfl rfl rfl rfl ?_
    dsimp only [putL, setL, List.set_cons_zero, List.set_cons_succ, List.nil_append, List.cons_append]
    refine wk_nil ?_
    refine sp_seq rfl ?_
    refine sp_region (π := [0, 1, 2, 3, 4]) [] rfl rfl ?_
    refine wk_move (.int .i64 which) rfl rfl rfl rfl ?_
    dsimp only [putL, setL, List.set_cons_zero, List.set_cons_succ, List.nil_append, List.cons_append]
    refine wk_val (.int .u64 (IntKind.u64.wrap which)) rfl rfl rfl (fun w => by kernel_rfl) ?_
    dsimp only [putL, setL, List.set_cons_zero, List.set_cons_succ, List.nil_append, List.cons_append]
    refine wk_iop (.int .u64 ((IntKind.u64.wrap which).tmod 2)) rfl rfl rfl rfl rfl rfl rfl ?_
    dsimp only [putL, setL, List.set_cons_zero, List.set_cons_succ, List.nil_append, List.cons_append]
    refine wk_val (.int .i64 (parI which)) rfl rfl rfl (fun w => by kernel_rfl) ?_
    dsimp only [putL, setL, List.set_cons_zero, List.set_cons_succ, List.nil_append, List.cons_append]
    refine wk_assign (.int .i64 (parI which)) rfl rfl rfl rfl ?_
    dsimp only [putL, setL, List.set_cons_zero, List.set_cons_succ, List.nil_append, List.cons_append]
    refine wk_nil ?_
    refine sp_seq rfl ?_
    refine sp_draw [0, 1, 3, 4, 5, 7, 8, 9, 11, 12, 13, 2, 6, 10, 14, 15, 16] [] mixed rfl (by kernel_rfl) (by kernel_rfl) ?_
    refine wk_move (.int .i64 (parI which)) rfl rfl rfl rfl ?_
    dsimp only [putL, setL, List.set_cons_zero, List.set_cons_succ, List.nil_append, List.cons_append]
    refine wk_ldN 0 rfl rfl rfl rfl rfl ?_
    dsimp only [putL, setL, List.set_cons_zero, List.set_cons_succ, List.nil_append, List.cons_append]
    refine wk_move (.int .i64 (parI which)) rfl rfl rfl rfl ?_
    dsimp only [putL, setL, List.set_cons_zero, List.set_cons_succ, List.nil_append, List.cons_append]
    refine wk_ldN 0 rfl rfl rfl rfl rfl ?_
    dsimp only [putL, setL, List.set_cons_zero, List.set_cons_succ, List.nil_append, List.cons_append]
    refine wk_ldN 1 rfl rfl rfl rfl rfl ?_
    dsimp only [putL, setL, List.set_cons_zero, List.set_cons_succ, List.nil_append, List.cons_append]
    refine wk_move (.int .i64 (parI which)) rfl rfl rfl rfl ?_
    dsimp only [putL, setL, List.set_cons_zero, List.set_cons_succ, List.nil_append, List.cons_append]
    refine wk_ldN 0 rfl rfl rfl rfl rfl ?_
    dsimp only [putL, setL, List.set_cons_zero, List.set_cons_succ, List.nil_append, List.cons_append]
    refine wk_ldN 1 rfl rfl rfl rfl rfl ?_
    dsimp only [putL, setL, List.set_cons_zero, List.set_cons_succ, List.nil_append, List.cons_append]
    refine wk_move (.int .i64 (parI which)) rfl rfl rfl rfl ?_
    dsimp only [putL, setL, List.set_cons_zero, List.set_cons_succ, List.nil_append, List.cons_append]
    refine wk_ldN 0 rfl rfl rfl rfl rfl ?_
    dsimp only [putL, setL, List.set_cons_zero, List.set_cons_succ, List.nil_append, List.cons_append]
    refine wk_ldN 1 rfl rfl rfl rfl rfl ?_
    dsimp only [putL, setL, List.set_cons_zero, List.set_cons_succ, List.nil_append, List.cons_append]
    refine wk_call [(.int .i64 (parI which)), (numV a)] (numV (a % modW (parI which))) rfl rfl rfl (enters_of Try.func45 (by kernel_rfl) (by kernel_rfl)) rfl (red_ok (parI which) a h w_a) ?_
    dsimp only [putL, setL, List.set_cons_zero, List.set_cons_succ, List.nil_append, List.cons_append]
    refine wk_call [(.int .i64 (parI which)), (numV a), (numV b)] (numV ((a + b) % modW (parI which))) rfl rfl rfl (enters_of Try.func47 (by kernel_rfl) (by kernel_rfl)) rfl (fadd_ok (parI which) a b h w_a w_b) ?_
    dsimp only [putL, setL, List.set_cons_zero, List.set_cons_succ, List.nil_append, List.cons_append]
    refine wk_call [(.int .i64 (parI which)), (numV a), (numV b)] (numV (a * b % modW (parI which))) rfl rfl rfl (enters_of Try.func51 (by kernel_rfl) (by kernel_rfl)) rfl (fmul_ok (parI which) a b h w_a w_b) ?_
    dsimp only [putL, setL, List.set_cons_zero, List.set_cons_succ, List.nil_append, List.cons_append]
    refine wk_call [(.int .i64 (parI which)), (numV a), (numV b)] (numV (subM (modW (parI which)) a b)) rfl rfl rfl (enters_of Try.func49 (by kernel_rfl) (by kernel_rfl)) rfl (fsub_ok (parI which) a b h w_a w_b) ?_
    dsimp only [putL, setL, List.set_cons_zero, List.set_cons_succ, List.nil_append, List.cons_append]
    refine wk_make (z := rowO [(a % modW (parI which)), ((a + b) % modW (parI which)), (a * b % modW (parI which)), (subM (modW (parI which)) a b)]) (mk := fun β => .slice (some ⟨β, 0, none⟩) 4 4) rfl rfl (fun w => by kernel_rfl) fun β3 => ?_
    dsimp only [putL, setL, List.set_cons_zero, List.set_cons_succ, List.nil_append, List.cons_append]
    refine wk_assign (.slice (some ⟨β3, 0, none⟩) 4 4) rfl rfl rfl rfl ?_
    dsimp only [putL, setL, List.set_cons_zero, List.set_cons_succ, List.nil_append, List.cons_append]
    refine wk_nil ?_
    refine sp_seq rfl ?_
    refine sp_seq rfl ?_
    refine sp_region (π := [0]) [] rfl rfl ?_
    refine wk_assign (.int .i64 0) rfl rfl rfl rfl ?_
    dsimp only [putL, setL, List.set_cons_zero, List.set_cons_succ, List.nil_append, List.cons_append]
    refine wk_nil ?_
    refine sp_block rfl ?_
    refine sp_unroll 5 rfl ?_
    refine un_step ?_
    refine sp_seq rfl ?_
    refine sp_seq rfl ?_
    refine sp_region (π := [0, 1, 2, 3]) [] rfl rfl ?_
    refine wk_move (.int .i64 0) rfl rfl rfl rfl ?_
    dsimp only [putL, setL, List.set_cons_zero, List.set_cons_succ, List.nil_append, List.cons_append]
    refine wk_move (.slice (some ⟨β3, 0, none⟩) 4 4) rfl rfl rfl rfl ?_
    dsimp only [putL, setL, List.set_cons_zero, List.set_cons_succ, List.nil_append, List.cons_append]
    refine wk_len rfl rfl rfl rfl Try.underlying57 ?_
    dsimp only [putL, setL, List.set_cons_zero, List.set_cons_succ, List.nil_append, List.cons_append]
    refine wk_iop (.bool true) rfl rfl rfl rfl rfl rfl (iop_lss_t (by decide)) ?_
    dsimp only [putL, setL, List.set_cons_zero, List.set_cons_succ, List.nil_append, List.cons_append]
    refine wk_nil ?_
    refine sp_true rfl rfl ?_
    refine sp_skip rfl ?_
    refine sp_seq rfl ?_
    refine sp_block rfl ?_
    refine sp_seq rfl ?_
    refine sp_region (π := [0, 1, 2, 3, 4, 5, 6, 7, 8, 9, 10, 11, 12]) [] rfl rfl ?_
    refine wk_move (.int .i64 (parI which)) rfl rfl rfl rfl ?_
    dsimp only [putL, setL, List.set_cons_zero, List.set_cons_succ, List.nil_append, List.cons_append]
    refine wk_move (.slice (some ⟨β3, 0, none⟩) 4 4) rfl rfl rfl rfl ?_
    dsimp only [putL, setL, List.set_cons_zero, List.set_cons_succ, List.nil_append, List.cons_append]
    refine wk_move (.int .i64 0) rfl rfl rfl rfl ?_
    dsimp only [putL, setL, List.set_cons_zero, List.set_cons_succ, List.nil_append, List.cons_append]
    refine wk_idxS 0 4 rfl rfl rfl rfl rfl Try.underlying57 (by kernel_rfl) rfl (by decide) ?_
    dsimp only [putL, setL, List.set_cons_zero, List.set_cons_succ, List.nil_append, List.cons_append]
    refine wk_ldR 2 0 rfl rfl rfl rfl rfl rfl rfl ?_
    dsimp only [putL, setL, List.set_cons_zero, List.set_cons_succ, List.nil_append, List.cons_append]
    refine wk_call [(numV (a % modW (parI which)))] (b32V (a % modW (parI which))) rfl rfl rfl (enters_of Try.func40 (by kernel_rfl) (by kernel_rfl)) rfl (bytes_calls (a % modW (parI which)) (Nat.lt_trans (Nat.mod_lt _ (modW_pos h)) (modW_lt (parI which)))) ?_
    dsimp only [putL, setL, List.set_cons_zero, List.set_cons_succ, List.nil_append, List.cons_append]
    refine wk_call [(.int .i64 (parI which)), (b32V (a % modW (parI which)))] (.tuple #[(numV (a % modW (parI which))), (.int .i64 0)]) rfl rfl rfl (enters_of Try.func57 (by kernel_rfl) (by kernel_rfl)) rfl (read_in (parI which) (a % modW (parI which)) h (Nat.lt_trans (Nat.mod_lt _ (modW_pos h)) (modW_lt (parI which))) (cmp_neg (Nat.mod_lt _ (modW_pos h)))) ?_
    dsimp only [putL, setL, List.set_cons_zero, List.set_cons_succ, List.nil_append, List.cons_append]
    refine wk_move (.tuple #[(numV (a % modW (parI which))), (.int .i64 0)]) rfl rfl rfl rfl ?_
    dsimp only [putL, setL, List.set_cons_zero, List.set_cons_succ, List.nil_append, List.cons_append]
    refine wk_ext (numV (a % modW (parI which))) rfl rfl rfl rfl rfl ?_
    dsimp only [putL, setL, List.set_cons_zero, List.set_cons_succ, List.nil_append, List.cons_append]
    refine wk_ext (.int .i64 0) rfl rfl rfl rfl rfl ?_
    dsimp only [putL, setL, List.set_cons_zero, List.set_cons_succ, List.nil_append, List.cons_append]
    refine wk_newN rfl rfl fun β4 => ?_
    dsimp only [putL, setL, List.set_cons_zero, List.set_cons_succ, List.nil_append, List.cons_append]
    refine wk_stN 3 (a % modW (parI which)) rfl rfl rfl rfl rfl rfl ?_
    dsimp only [putL, setL, List.set_cons_zero, List.set_cons_succ, List.nil_append, List.cons_append]
    refine wk_assign (.int .i64 0) rfl rfl rfl rfl ?_
    dsimp only [putL, setL, List.set_cons_zero, List.set_cons_succ, List.nil_append, List.cons_append]
    refine wk_nil ?_
    refine sp_seq rfl ?_
    refine sp_draw [0, 1, 2, 3, 4, 5, 6, 7, 8, 9] [] mixed rfl (by kernel_rfl) (by kernel_rfl) ?_
    refine wk_move (.int .i64 0) rfl rfl rfl rfl ?_
    dsimp only [putL, setL, List.set_cons_zero, List.set_cons_succ, List.nil_append, List.cons_append]
    refine wk_iop (.bool false) rfl rfl rfl rfl rfl rfl (iop_neq_f (by decide)) ?_
    dsimp only [putL, setL, List.set_cons_zero, List.set_cons_succ, List.nil_append, List.cons_append]
    refine wk_move (.bool false) rfl rfl rfl rfl ?_
    dsimp only [putL, setL, List.set_cons_zero, List.set_cons_succ, List.nil_append, List.cons_append]
    refine wk_ldN 3 rfl rfl rfl rfl rfl ?_
    dsimp only [putL, setL, List.set_cons_zero, List.set_cons_succ, List.nil_append, List.cons_append]
    refine wk_move (.slice (some ⟨β3, 0, none⟩) 4 4) rfl rfl rfl rfl ?_
    dsimp only [putL, setL, List.set_cons_zero, List.set_cons_succ, List.nil_append, List.cons_append]
    refine wk_move (.int .i64 0) rfl rfl rfl rfl ?_
    dsimp only [putL, setL, List.set_cons_zero, List.set_cons_succ, List.nil_append, List.cons_append]
    refine wk_idxS 0 4 rfl rfl rfl rfl rfl Try.underlying57 (by kernel_rfl) rfl (by decide) ?_
    dsimp only [putL, setL, List.set_cons_zero, List.set_cons_succ, List.nil_append, List.cons_append]
    refine wk_ldR 2 0 rfl rfl rfl rfl rfl rfl rfl ?_
    dsimp only [putL, setL, List.set_cons_zero, List.set_cons_succ, List.nil_append, List.cons_append]
    refine wk_neN false rfl rfl rfl rfl rfl (Nat.lt_trans (Nat.mod_lt _ (modW_pos h)) (modW_lt (parI which))) (Nat.lt_trans (Nat.mod_lt _ (modW_pos h)) (modW_lt (parI which))) (decide_eq_true rfl) ?_
    dsimp only [putL, setL, List.set_cons_zero, List.set_cons_succ, List.nil_append, List.cons_append]
    refine wk_pick false (.bool false) rfl rfl rfl rfl rfl ?_
    dsimp only [putL, setL, List.set_cons_zero, List.set_cons_succ, List.nil_append, List.cons_append]
    refine wk_nil ?_
    refine sp_false rfl rfl ?_
    refine sp_skip rfl ?_
    refine sp_region (π := [0, 1, 2]) [] rfl rfl ?_
    refine wk_move (.int .i64 0) rfl rfl rfl rfl ?_
    dsimp only [putL, setL, List.set_cons_zero, List.set_cons_succ, List.nil_append, List.cons_append]
    refine wk_iop (.int .i64 1) rfl rfl rfl rfl rfl rfl (by kernel_rfl) ?_
    dsimp only [putL, setL, List.set_cons_zero, List.set_cons_succ, List.nil_append, List.cons_append]
    refine wk_assign (.int .i64 1) rfl rfl rfl rfl ?_
    dsimp only [putL, setL, List.set_cons_zero, List.set_cons_succ, List.nil_append, List.cons_append]
    refine wk_nil ?_
    refine un_step ?_
    refine sp_seq rfl ?_
    refine sp_seq rfl ?_
    refine sp_region (π := [0, 1, 2, 3]) [] rfl rfl ?_
    refine wk_move (.int .i64 1) rfl rfl rfl rfl ?_
    dsimp only [putL, setL, List.set_cons_zero, List.set_cons_succ, List.nil_append, List.cons_append]
    refine wk_move (.slice (some ⟨β3, 0, none⟩) 4 4) rfl rfl rfl rfl ?_
    dsimp only [putL, setL, List.set_cons_zero, List.set_cons_succ, List.nil_append, List.cons_append]
    refine wk_len rfl rfl rfl rfl Try.underlying57 ?_
    dsimp only [putL, setL, List.set_cons_zero, List.set_cons_succ, List.nil_append, List.cons_append]
    refine wk_iop (.bool true) rfl rfl rfl rfl rfl rfl (iop_lss_t (by decide)) ?_
    dsimp only [putL, setL, List.set_cons_zero, List.set_cons_succ, List.nil_append, List.cons_append]
    refine wk_nil ?_
    refine sp_true rfl rfl ?_
    refine sp_skip rfl ?_
    refine sp_seq rfl ?_
    refine sp_block rfl ?_
    refine sp_seq rfl ?_
    refine sp_region (π := [0, 1, 2, 3, 4, 5, 6, 7, 8, 9, 10, 11, 12]) [] rfl rfl ?_
    refine wk_move (.int .i64 (parI which)) rfl rfl rfl rfl ?_
    dsimp only [putL, setL, List.set_cons_zero, List.set_cons_succ, List.nil_append, List.cons_append]
    refine wk_move (.slice (some ⟨β3, 0, none⟩) 4 4) rfl rfl rfl rfl ?_
    dsimp only [putL, setL, List.set_cons_zero, List.set_cons_succ, List.nil_append, List.cons_append]
    refine wk_move (.int .i64 1) rfl rfl rfl rfl ?_
    dsimp only [putL, setL, List.set_cons_zero, List.set_cons_succ, List.nil_append, List.cons_append]
    refine wk_idxS 1 4 rfl rfl rfl rfl rfl Try.underlying57 (by kernel_rfl) rfl (by decide) ?_
    dsimp only [putL, setL, List.set_cons_zero, List.set_cons_succ, List.nil_append, List.cons_append]
    refine wk_ldR 2 1 rfl rfl rfl rfl rfl rfl rfl ?_
    dsimp only [putL, setL, List.set_cons_zero, List.set_cons_succ, List.nil_append, List.cons_append]
    refine wk_call [(numV ((a + b) % modW (parI which)))] (b32V ((a + b) % modW (parI which))) rfl rfl rfl (enters_of Try.func40 (by kernel_rfl) (by kernel_rfl)) rfl (bytes_calls ((a + b) % modW (parI which)) (Nat.lt_trans (Nat.mod_lt _ (modW_pos h)) (modW_lt (parI which)))) ?_
    dsimp only [putL, setL, List.set_cons_zero, List.set_cons_succ, List.nil_append, List.cons_append]
    refine wk_call [(.int .i64 (parI which)), (b32V ((a + b) % modW (parI which)))] (.tuple #[(numV ((a + b) % modW (parI which))), (.int .i64 0)]) rfl rfl rfl (enters_of Try.func57 (by kernel_rfl) (by kernel_rfl)) rfl (read_in (parI which) ((a + b) % modW (parI which)) h (Nat.lt_trans (Nat.mod_lt _ (modW_pos h)) (modW_lt (parI which))) (cmp_neg (Nat.mod_lt _ (modW_pos h)))) ?_
    dsimp only [putL, setL, List.set_cons_zero, List.set_cons_succ, List.nil_append, List.cons_append]
    refine wk_move (.tuple #[(numV ((a + b) % modW (parI which))), (.int .i64 0)]) rfl rfl rfl rfl ?_
    dsimp only [putL, setL, List.set_cons_zero, List.set_cons_succ, List.nil_append, List.cons_append]
    refine wk_ext (numV ((a + b) % modW (parI which))) rfl rfl rfl rfl rfl ?_
    dsimp only [putL, setL, List.set_cons_zero, List.set_cons_succ, List.nil_append, List.cons_append]
    refine wk_ext (.int .i64 0) rfl rfl rfl rfl rfl ?_
    dsimp only [putL, setL, List.set_cons_zero, List.set_cons_succ, List.nil_append, List.cons_append]
    refine wk_newN rfl rfl fun β5 => ?_
    dsimp only [putL, setL, List.set_cons_zero, List.set_cons_succ, List.nil_append, List.cons_append]
    refine wk_stN 4 ((a + b) % modW (parI which)) rfl rfl rfl rfl rfl rfl ?_
    dsimp only [putL, setL, List.set_cons_zero, List.set_cons_succ, List.nil_append, List.cons_append]
    refine wk_assign (.int .i64 0) rfl rfl rfl rfl ?_
    dsimp only [putL, setL, List.set_cons_zero, List.set_cons_succ, List.nil_append, List.cons_append]
    refine wk_nil ?_
    refine sp_seq rfl ?_
    refine sp_draw [0, 1, 2, 3, 4, 5, 6, 7, 8, 9] [] mixed rfl (by kernel_rfl) (by kernel_rfl) ?_
    refine wk_move (.int .i64 0) rfl rfl rfl rfl ?_
    dsimp only [putL, setL, List.set_cons_zero, List.set_cons_succ, List.nil_append, List.cons_append]
    refine wk_iop (.bool false) rfl rfl rfl rfl rfl rfl (iop_neq_f (by decide)) ?_
    dsimp only [putL, setL, List.set_cons_zero, List.set_cons_succ, List.nil_append, List.cons_append]
    refine wk_move (.bool false) rfl rfl rfl rfl ?_
    dsimp only [putL, setL, List.set_cons_zero, List.set_cons_succ, List.nil_append, List.cons_append]
    refine wk_ldN 4 rfl rfl rfl rfl rfl ?_
    dsimp only [putL, setL, List.set_cons_zero, List.set_cons_succ, List.nil_append, List.cons_append]
    refine wk_move (.slice (some ⟨β3, 0, none⟩) 4 4) rfl rfl rfl rfl ?_
    dsimp only [putL, setL, List.set_cons_zero, List.set_cons_succ, List.nil_append, List.cons_append]
    refine wk_move (.int .i64 1) rfl rfl rfl rfl ?_
    dsimp only [putL, setL, List.set_cons_zero, List.set_cons_succ, List.nil_append, List.cons_append]
    refine wk_idxS 1 4 rfl rfl rfl rfl rfl Try.underlying57 (by kernel_rfl) rfl (by decide) ?_
    dsimp only [putL, setL, List.set_cons_zero, List.set_cons_succ, List.nil_append, List.cons_append]
    refine wk_ldR 2 1 rfl rfl rfl rfl rfl rfl rfl ?_
    dsimp only [putL, setL, List.set_cons_zero, List.set_cons_succ, List.nil_append, List.cons_append]
    refine wk_neN false rfl rfl rfl rfl rfl (Nat.lt_trans (Nat.mod_lt _ (modW_pos h)) (modW_lt (parI which))) (Nat.lt_trans (Nat.mod_lt _ (modW_pos h)) (modW_lt (parI which))) (decide_eq_true rfl) ?_
    dsimp only [putL, setL, List.set_cons_zero, List.set_cons_succ, List.nil_append, List.cons_append]
    refine wk_pick false (.bool false) rfl rfl rfl rfl rfl ?_
    dsimp only [putL, setL, List.set_cons_zero, List.set_cons_succ, List.nil_append, List.cons_append]
    refine wk_nil ?_
    refine sp_false rfl rfl ?_
    refine sp_skip rfl ?_
    refine sp_region (π := [0, 1, 2]) [] rfl rfl ?_
    refine wk_move (.int .i64 1) rfl rfl rfl rfl ?_
    dsimp only [putL, setL, List.set_cons_zero, List.set_cons_succ, List.nil_append, List.cons_append]
    refine wk_iop (.int .i64 2) rfl rfl rfl rfl rfl rfl (by kernel_rfl) ?_
    dsimp only [putL, setL, List.set_cons_zero, List.set_cons_succ, List.nil_append, List.cons_append]
    refine wk_assign (.int .i64 2) rfl rfl rfl rfl ?_
    dsimp only [putL, setL, List.set_cons_zero, List.set_cons_succ, List.nil_append, List.cons_append]
    refine wk_nil ?_
    refine un_step ?_
    refine sp_seq rfl ?_
    refine sp_seq rfl ?_
    refine sp_region (π := [0, 1, 2, 3]) [] rfl rfl ?_
    refine wk_move (.int .i64 2) rfl rfl rfl rfl ?_
    dsimp only [putL, setL, List.set_cons_zero, List.set_cons_succ, List.nil_append, List.cons_append]
    refine wk_move (.slice (some ⟨β3, 0, none⟩) 4 4) rfl rfl rfl rfl ?_
    dsimp only [putL, setL, List.set_cons_zero, List.set_cons_succ, List.nil_append, List.cons_append]
    refine wk_len rfl rfl rfl rfl Try.underlying57 ?_
    dsimp only [putL, setL, List.set_cons_zero, List.set_cons_succ, List.nil_append, List.cons_append]
    refine wk_iop (.bool true) rfl rfl rfl rfl rfl rfl (iop_lss_t (by decide)) ?_
    dsimp only [putL, setL, List.set_cons_zero, List.set_cons_succ, List.nil_append, List.cons_append]
    refine wk_nil ?_
    refine sp_true rfl rfl ?_
    refine sp_skip rfl ?_
    refine sp_seq rfl ?_
    refine sp_block rfl ?_
    refine sp_seq rfl ?_
    refine sp_region (π := [0, 1, 2, 3, 4, 5, 6, 7, 8, 9, 10, 11, 12]) [] rfl rfl ?_
    refine wk_move (.int .i64 (parI which)) rfl rfl rfl rfl ?_
    dsimp only [putL, setL, List.set_cons_zero, List.set_cons_succ, List.nil_append, List.cons_append]
    refine wk_move (.slice (some ⟨β3, 0, none⟩) 4 4) rfl rfl rfl rfl ?_
    dsimp only [putL, setL, List.set_cons_zero, List.set_cons_succ, List.nil_append, List.cons_append]
    refine wk_move (.int .i64 2) rfl rfl rfl rfl ?_
    dsimp only [putL, setL, List.set_cons_zero, List.set_cons_succ, List.nil_append, List.cons_append]
    refine wk_idxS 2 4 rfl rfl rfl rfl rfl Try.underlying57 (by kernel_rfl) rfl (by decide) ?_
    dsimp only [putL, setL, List.set_cons_zero, List.set_cons_succ, List.nil_append, List.cons_append]
    refine wk_ldR 2 2 rfl rfl rfl rfl rfl rfl rfl ?_
    dsimp only [putL, setL, List.set_cons_zero, List.set_cons_succ, List.nil_append, List.cons_append]
    refine wk_call [(numV (a * b % modW (parI which)))] (b32V (a * b % modW (parI which))) rfl rfl rfl (enters_of Try.func40 (by kernel_rfl) (by kernel_rfl)) rfl (bytes_calls (a * b % modW (parI which)) (Nat.lt_trans (Nat.mod_lt _ (modW_pos h)) (modW_lt (parI which)))) ?_
    dsimp only [putL, setL, List.set_cons_zero, List.set_cons_succ, List.nil_append, List.cons_append]
    refine wk_call [(.int .i64 (parI which)), (b32V (a * b % modW (parI which)))] (.tuple #[(numV (a * b % modW (parI which))), (.int .i64 0)]) rfl rfl rfl (enters_of Try.func57 (by kernel_rfl) (by kernel_rfl)) rfl (read_in (parI which) (a * b % modW (parI which)) h (Nat.lt_trans (Nat.mod_lt _ (modW_pos h)) (modW_lt (parI which))) (cmp_neg (Nat.mod_lt _ (modW_pos h)))) ?_
    dsimp only [putL, setL, List.set_cons_zero, List.set_cons_succ, List.nil_append, List.cons_append]
    refine wk_move (.tuple #[(numV (a * b % modW (parI which))), (.int .i64 0)]) rfl rfl rfl rfl ?_
    dsimp only [putL, setL, List.set_cons_zero, List.set_cons_succ, List.nil_append, List.cons_append]
    refine wk_ext (numV (a * b % modW (parI which))) rfl rfl rfl rfl rfl ?_
    dsimp only [putL, setL, List.set_cons_zero, List.set_cons_succ, List.nil_append, List.cons_append]
    refine wk_ext (.int .i64 0) rfl rfl rfl rfl rfl ?_
    dsimp only [putL, setL, List.set_cons_zero, List.set_cons_succ, List.nil_append, List.cons_append]
    refine wk_newN rfl rfl fun β6 => ?_
    dsimp only [putL, setL, List.set_cons_zero, List.set_cons_succ, List.nil_append, List.cons_append]
    refine wk_stN 5 (a * b % modW (parI which)) rfl rfl rfl rfl rfl rfl ?_
    dsimp only [putL, setL, List.set_cons_zero, List.set_cons_succ, List.nil_append, List.cons_append]
    refine wk_assign (.int .i64 0) rfl rfl rfl rfl ?_
    dsimp only [putL, setL, List.set_cons_zero, List.set_cons_succ, List.nil_append, List.cons_append]
    refine wk_nil ?_
    refine sp_seq rfl ?_
    refine sp_draw [0, 1, 2, 3, 4, 5, 6, 7, 8, 9] [] mixed rfl (by kernel_rfl) (by kernel_rfl) ?_
    refine wk_move (.int .i64 0) rfl rfl rfl rfl ?_
    dsimp only [putL, setL, List.set_cons_zero, List.set_cons_succ, List.nil_append, List.cons_append]
    refine wk_iop (.bool false) rfl rfl rfl rfl rfl rfl (iop_neq_f (by decide)) ?_
    dsimp only [putL, setL, List.set_cons_zero, List.set_cons_succ, List.nil_append, List.cons_append]
    refine wk_move (.bool false) rfl rfl rfl rfl ?_
    dsimp only [putL, setL, List.set_cons_zero, List.set_cons_succ, List.nil_append, List.cons_append]
    refine wk_ldN 5 rfl rfl rfl rfl rfl ?_
    dsimp only [putL, setL, List.set_cons_zero, List.set_cons_succ, List.nil_append, List.cons_append]
    refine wk_move (.slice (some ⟨β3, 0, none⟩) 4 4) rfl rfl rfl rfl ?_
    dsimp only [putL, setL, List.set_cons_zero, List.set_cons_succ, List.nil_append, List.cons_append]
    refine wk_move (.int .i64 2) rfl rfl rfl rfl ?_
    dsimp only [putL, setL, List.set_cons_zero, List.set_cons_succ, List.nil_append, List.cons_append]
    refine wk_idxS 2 4 rfl rfl rfl rfl rfl Try.underlying57 (by kernel_rfl) rfl (by decide) ?_
    dsimp only [putL, setL, List.set_cons_zero, List.set_cons_succ, List.nil_append, List.cons_append]
    refine wk_ldR 2 2 rfl rfl rfl rfl rfl rfl rfl ?_
    dsimp only [putL, setL, List.set_cons_zero, List.set_cons_succ, List.nil_append, List.cons_append]
    refine wk_neN false rfl rfl rfl rfl rfl (Nat.lt_trans (Nat.mod_lt _ (modW_pos h)) (modW_lt (parI which))) (Nat.lt_trans (Nat.mod_lt _ (modW_pos h)) (modW_lt (parI which))) (decide_eq_true rfl) ?_
    dsimp only [putL, setL, List.set_cons_zero, List.set_cons_succ, List.nil_append, List.cons_append]
    refine wk_pick false (.bool false) rfl rfl rfl rfl rfl ?_
    dsimp only [putL, setL, List.set_cons_zero, List.set_cons_succ, List.nil_append, List.cons_append]
    refine wk_nil ?_
    refine sp_false rfl rfl ?_
    refine sp_skip rfl ?_
    refine sp_region (π := [0, 1, 2]) [] rfl rfl ?_
    refine wk_move (.int .i64 2) rfl rfl rfl rfl ?_
    dsimp only [putL, setL, List.set_cons_zero, List.set_cons_succ, List.nil_append, List.cons_append]
    refine wk_iop (.int .i64 3) rfl rfl rfl rfl rfl rfl (by kernel_rfl) ?_
    dsimp only [putL, setL, List.set_cons_zero, List.set_cons_succ, List.nil_append, List.cons_append]
    refine wk_assign (.int .i64 3) rfl rfl rfl rfl ?_
    dsimp only [putL, setL, List.set_cons_zero, List.set_cons_succ, List.nil_append, List.cons_append]
    refine wk_nil ?_
    refine un_step ?_
    refine sp_seq rfl ?_
    refine sp_seq rfl ?_
    refine sp_region (π := [0, 1, 2, 3]) [] rfl rfl ?_
    refine wk_move (.int .i64 3) rfl rfl rfl rfl ?_
    dsimp only [putL, setL, List.set_cons_zero, List.set_cons_succ, List.nil_append, List.cons_append]
    refine wk_move (.slice (some ⟨β3, 0, none⟩) 4 4) rfl rfl rfl rfl ?_
    dsimp only [putL, setL, List.set_cons_zero, List.set_cons_succ, List.nil_append, List.cons_append]
    refine wk_len rfl rfl rfl rfl Try.underlying57 ?_
    dsimp only [putL, setL, List.set_cons_zero, List.set_cons_succ, List.nil_append, List.cons_append]
    refine wk_iop (.bool true) rfl rfl rfl rfl rfl rfl (iop_lss_t (by decide)) ?_
    dsimp only [putL, setL, List.set_cons_zero, List.set_cons_succ, List.nil_append, List.cons_append]
    refine wk_nil ?_
    refine sp_true rfl rfl ?_
    refine sp_skip rfl ?_
    refine sp_seq rfl ?_
    refine sp_block rfl ?_
    refine sp_seq rfl ?_
    refine sp_region (π := [0, 1, 2, 3, 4, 5, 6, 7, 8, 9, 10, 11, 12]) [] rfl rfl ?_
    refine wk_move (.int .i64 (parI which)) rfl rfl rfl rfl ?_
    dsimp only [putL, setL, List.set_cons_zero, List.set_cons_succ, List.nil_append, List.cons_append]
    refine wk_move (.slice (some ⟨β3, 0, none⟩) 4 4) rfl rfl rfl rfl ?_
    dsimp only [putL, setL, List.set_cons_zero, List.set_cons_succ, List.nil_append, List.cons_append]
    refine wk_move (.int .i64 3) rfl rfl rfl rfl ?_
    dsimp only [putL, setL, List.set_cons_zero, List.set_cons_succ, List.nil_append, List.cons_append]
    refine wk_idxS 3 4 rfl rfl rfl rfl rfl Try.underlying57 (by kernel_rfl) rfl (by decide) ?_
    dsimp only [putL, setL, List.set_cons_zero, List.set_cons_succ, List.nil_append, List.cons_append]
    refine wk_ldR 2 3 rfl rfl rfl rfl rfl rfl rfl ?_
    dsimp only [putL, setL, List.set_cons_zero, List.set_cons_succ, List.nil_append, List.cons_append]
    refine wk_call [(numV (subM (modW (parI which)) a b))] (b32V (subM (modW (parI which)) a b)) rfl rfl rfl (enters_of Try.func40 (by kernel_rfl) (by kernel_rfl)) rfl (bytes_calls (subM (modW (parI which)) a b) (Nat.lt_trans (Nat.mod_lt _ (modW_pos h)) (modW_lt (parI which)))) ?_
    dsimp only [putL, setL, List.set_cons_zero, List.set_cons_succ, List.nil_append, List.cons_append]
    refine wk_call [(.int .i64 (parI which)), (b32V (subM (modW (parI which)) a b))] (.tuple #[(numV (subM (modW (parI which)) a b)), (.int .i64 0)]) rfl rfl rfl (enters_of Try.func57 (by kernel_rfl) (by kernel_rfl)) rfl (read_in (parI which) (subM (modW (parI which)) a b) h (Nat.lt_trans (Nat.mod_lt _ (modW_pos h)) (modW_lt (parI which))) (cmp_neg (subM_lt (modW_pos h)))) ?_
    dsimp only [putL, setL, List.set_cons_zero, List.set_cons_succ, List.nil_append, List.cons_append]
    refine wk_move (.tuple #[(numV (subM (modW (parI which)) a b)), (.int .i64 0)]) rfl rfl rfl rfl ?_
    dsimp only [putL, setL, List.set_cons_zero, List.set_cons_succ, List.nil_append, List.cons_append]
    refine wk_ext (numV (subM (modW (parI which)) a b)) rfl rfl rfl rfl rfl ?_
    dsimp only [putL, setL, List.set_cons_zero, List.set_cons_succ, List.nil_append, List.cons_append]
    refine wk_ext (.int .i64 0) rfl rfl rfl rfl rfl ?_
    dsimp only [putL, setL, List.set_cons_zero, List.set_cons_succ, List.nil_append, List.cons_append]
    refine wk_newN rfl rfl fun β7 => ?_
    dsimp only [putL, setL, List.set_cons_zero, List.set_cons_succ, List.nil_append, List.cons_append]
    refine wk_stN 6 (subM (modW (parI which)) a b) rfl rfl rfl rfl rfl rfl ?_
    dsimp only [putL, setL, List.set_cons_zero, List.set_cons_succ, List.nil_append, List.cons_append]
    refine wk_assign (.int .i64 0) rfl rfl rfl rfl ?_
    dsimp only [putL, setL, List.set_cons_zero, List.set_cons_succ, List.nil_append, List.cons_append]
    refine wk_nil ?_
    refine sp_seq rfl ?_
    refine sp_draw [0, 1, 2, 3, 4, 5, 6, 7, 8, 9] [] mixed rfl (by kernel_rfl) (by kernel_rfl) ?_
    refine wk_move (.int .i64 0) rfl rfl rfl rfl ?_
    dsimp only [putL, setL, List.set_cons_zero, List.set_cons_succ, List.nil_append, List.cons_append]
    refine wk_iop (.bool false) rfl rfl rfl rfl rfl rfl (iop_neq_f (by decide)) ?_
    dsimp only [putL, setL, List.set_cons_zero, List.set_cons_succ, List.nil_append, List.cons_append]
    refine wk_move (.bool false) rfl rfl rfl rfl ?_
    dsimp only [putL, setL, List.set_cons_zero, List.set_cons_succ, List.nil_append, List.cons_append]
    refine wk_ldN 6 rfl rfl rfl rfl rfl ?_
    dsimp only [putL, setL, List.set_cons_zero, List.set_cons_succ, List.nil_append, List.cons_append]
    refine wk_move (.slice (some ⟨β3, 0, none⟩) 4 4) rfl rfl rfl rfl ?_
    dsimp only [putL, setL, List.set_cons_zero, List.set_cons_succ, List.nil_append, List.cons_append]
    refine wk_move (.int .i64 3) rfl rfl rfl rfl ?_
    dsimp only [putL, setL, List.set_cons_zero, List.set_cons_succ, List.nil_append, List.cons_append]
    refine wk_idxS 3 4 rfl rfl rfl rfl rfl Try.underlying57 (by kernel_rfl) rfl (by decide) ?_
    dsimp only [putL, setL, List.set_cons_zero, List.set_cons_succ, List.nil_append, List.cons_append]
    refine wk_ldR 2 3 rfl rfl rfl rfl rfl rfl rfl ?_
    dsimp only [putL, setL, List.set_cons_zero, List.set_cons_succ, List.nil_append, List.cons_append]
    refine wk_neN false rfl rfl rfl rfl rfl (Nat.lt_trans (Nat.mod_lt _ (modW_pos h)) (modW_lt (parI which))) (Nat.lt_trans (Nat.mod_lt _ (modW_pos h)) (modW_lt (parI which))) (decide_eq_true rfl) ?_
    dsimp only [putL, setL, List.set_cons_zero, List.set_cons_succ, List.nil_append, List.cons_append]
    refine wk_pick false (.bool false) rfl rfl rfl rfl rfl ?_
    dsimp only [putL, setL, List.set_cons_zero, List.set_cons_succ, List.nil_append, List.cons_append]
    refine wk_nil ?_
    refine sp_false rfl rfl ?_
    refine sp_skip rfl ?_
    refine sp_region (π := [0, 1, 2]) [] rfl rfl ?_
    refine wk_move (.int .i64 3) rfl rfl rfl rfl ?_
    dsimp only [putL, setL, List.set_cons_zero, List.set_cons_succ, List.nil_append, List.cons_append]
    refine wk_iop (.int .i64 4) rfl rfl rfl rfl rfl rfl (by kernel_rfl) ?_
    dsimp only [putL, setL, List.set_cons_zero, List.set_cons_succ, List.nil_append, List.cons_append]
    refine wk_assign (.int .i64 4) rfl rfl rfl rfl ?_
    dsimp only [putL, setL, List.set_cons_zero, List.set_cons_succ, List.nil_append, List.cons_append]
    refine wk_nil ?_
    refine un_step ?_
    refine sp_seq rfl ?_
    refine sp_seq rfl ?_
    refine sp_region (π := [0, 1, 2, 3]) [] rfl rfl ?_
    refine wk_move (.int .i64 4) rfl rfl rfl rfl ?_
    dsimp only [putL, setL, List.set_cons_zero, List.set_cons_succ, List.nil_append, List.cons_append]
    refine wk_move (.slice (some ⟨β3, 0, none⟩) 4 4) rfl rfl rfl rfl ?_
    dsimp only [putL, setL, List.set_cons_zero, List.set_cons_succ, List.nil_append, List.cons_append]
    refine wk_len rfl rfl rfl rfl Try.underlying57 ?_
    dsimp only [putL, setL, List.set_cons_zero, List.set_cons_succ, List.nil_append, List.cons_append]
    refine wk_iop (.bool false) rfl rfl rfl rfl rfl rfl (iop_lss_f (by decide)) ?_
    dsimp only [putL, setL, List.set_cons_zero, List.set_cons_succ, List.nil_append, List.cons_append]
    refine wk_nil ?_
    refine sp_false rfl rfl ?_
    refine sp_exit rfl ?_
    refine sp_seq rfl ?_
    refine sp_region (π := [0, 1, 2, 3]) [] rfl rfl ?_
    refine wk_move (.int .i64 (parI which)) rfl rfl rfl rfl ?_
    dsimp only [putL, setL, List.set_cons_zero, List.set_cons_succ, List.nil_append, List.cons_append]
    refine wk_call [(.int .i64 (parI which))] (numV 115792089237316195423570985008687907852837564279074904382605163141518161494337) rfl rfl rfl (enters_of Try.func43 (by kernel_rfl) (by kernel_rfl)) rfl (conv (by rw [h0]; rfl) (prime_ok (parI which) h)) ?_
    dsimp only [putL, setL, List.set_cons_zero, List.set_cons_succ, List.nil_append, List.cons_append]
    refine wk_newN rfl rfl fun β8 => ?_
    dsimp only [putL, setL, List.set_cons_zero, List.set_cons_succ, List.nil_append, List.cons_append]
    refine wk_stN 7 115792089237316195423570985008687907852837564279074904382605163141518161494337 rfl rfl rfl rfl rfl rfl ?_
    dsimp only [putL, setL, List.set_cons_zero, List.set_cons_succ, List.nil_append, List.cons_append]
    refine wk_nil ?_
    refine sp_seq rfl ?_
    refine sp_region (π := [0, 1, 2, 3, 4, 5, 6, 7, 8, 9]) [] rfl rfl ?_
    refine wk_move (.int .i64 (parI which)) rfl rfl rfl rfl ?_
    dsimp only [putL, setL, List.set_cons_zero, List.set_cons_succ, List.nil_append, List.cons_append]
    refine wk_ldN 7 rfl rfl rfl rfl rfl ?_
    dsimp only [putL, setL, List.set_cons_zero, List.set_cons_succ, List.nil_append, List.cons_append]
    refine wk_call [(numV 115792089237316195423570985008687907852837564279074904382605163141518161494337)] (b32V 115792089237316195423570985008687907852837564279074904382605163141518161494337) rfl rfl rfl (enters_of Try.func40 (by kernel_rfl) (by kernel_rfl)) rfl (bytes_calls 115792089237316195423570985008687907852837564279074904382605163141518161494337 (by decide)) ?_
    dsimp only [putL, setL, List.set_cons_zero, List.set_cons_succ, List.nil_append, List.cons_append]
    refine wk_call [(.int .i64 (parI which)), (b32V 115792089237316195423570985008687907852837564279074904382605163141518161494337)] (.tuple #[(numV 0), (.int .i64 2)]) rfl rfl rfl (enters_of Try.func57 (by kernel_rfl) (by kernel_rfl)) rfl (read_out (parI which) 115792089237316195423570985008687907852837564279074904382605163141518161494337 h (by decide) (by rw [h0]; decide)) ?_
    dsimp only [putL, setL, List.set_cons_zero, List.set_cons_succ, List.nil_append, List.cons_append]
    refine wk_move (.tuple #[(numV 0), (.int .i64 2)]) rfl rfl rfl rfl ?_
    dsimp only [putL, setL, List.set_cons_zero, List.set_cons_succ, List.nil_append, List.cons_append]
    refine wk_ext (numV 0) rfl rfl rfl rfl rfl ?_
    dsimp only [putL, setL, List.set_cons_zero, List.set_cons_succ, List.nil_append, List.cons_append]
    refine wk_ext (.int .i64 2) rfl rfl rfl rfl rfl ?_
    dsimp only [putL, setL, List.set_cons_zero, List.set_cons_succ, List.nil_append, List.cons_append]
    refine wk_newN rfl rfl fun β9 => ?_
    dsimp only [putL, setL, List.set_cons_zero, List.set_cons_succ, List.nil_append, List.cons_append]
    refine wk_stN 8 0 rfl rfl rfl rfl rfl rfl ?_
    dsimp only [putL, setL, List.set_cons_zero, List.set_cons_succ, List.nil_append, List.cons_append]
    refine wk_assign (.int .i64 2) rfl rfl rfl rfl ?_
    dsimp only [putL, setL, List.set_cons_zero, List.set_cons_succ, List.nil_append, List.cons_append]
    refine wk_nil ?_
    refine sp_seq rfl ?_
    refine sp_region (π := [0, 1, 2, 3, 4]) [] rfl rfl ?_
    refine wk_idx 0 1 rfl rfl rfl rfl rfl nunder (by kernel_rfl) rfl (by decide) ?_
    dsimp only [putL, setL, List.set_cons_zero, List.set_cons_succ, List.nil_append, List.cons_append]
    refine wk_digit 7 0 13822214165235122497 (by decide) (by kernel_rfl) rfl rfl rfl rfl rfl ?_
    dsimp only [putL, setL, List.set_cons_zero, List.set_cons_succ, List.nil_append, List.cons_append]
    refine wk_iop (.int .u64 13822214165235122496) rfl rfl rfl rfl rfl rfl (by kernel_rfl) ?_
    dsimp only [putL, setL, List.set_cons_zero, List.set_cons_succ, List.nil_append, List.cons_append]
    refine wk_idx 0 1 rfl rfl rfl rfl rfl nunder (by kernel_rfl) rfl (by decide) ?_
    dsimp only [putL, setL, List.set_cons_zero, List.set_cons_succ, List.nil_append, List.cons_append]
    refine wk_stD 7 0 115792089237316195423570985008687907852837564279074904382605163141518161494336 rfl rfl rfl rfl rfl rfl (by kernel_rfl) (by decide) ?_
    dsimp only [putL, setL, List.set_cons_zero, List.set_cons_succ, List.nil_append, List.cons_append]
    refine wk_nil ?_
    refine sp_seq rfl ?_
    refine sp_region (π := [0, 1, 2, 3, 4, 5, 6, 7, 8, 9]) [] rfl rfl ?_
    refine wk_move (.int .i64 (parI which)) rfl rfl rfl rfl ?_
    dsimp only [putL, setL, List.set_cons_zero, List.set_cons_succ, List.nil_append, List.cons_append]
    refine wk_ldN 7 rfl rfl rfl rfl rfl ?_
    dsimp only [putL, setL, List.set_cons_zero, List.set_cons_succ, List.nil_append, List.cons_append]
    refine wk_call [(numV 115792089237316195423570985008687907852837564279074904382605163141518161494336)] (b32V 115792089237316195423570985008687907852837564279074904382605163141518161494336) rfl rfl rfl (enters_of Try.func40 (by kernel_rfl) (by kernel_rfl)) rfl (bytes_calls 115792089237316195423570985008687907852837564279074904382605163141518161494336 (by decide)) ?_
    dsimp only [putL, setL, List.set_cons_zero, List.set_cons_succ, List.nil_append, List.cons_append]
    refine wk_call [(.int .i64 (parI which)), (b32V 115792089237316195423570985008687907852837564279074904382605163141518161494336)] (.tuple #[(numV 115792089237316195423570985008687907852837564279074904382605163141518161494336), (.int .i64 0)]) rfl rfl rfl (enters_of Try.func57 (by kernel_rfl) (by kernel_rfl)) rfl (read_in (parI which) 115792089237316195423570985008687907852837564279074904382605163141518161494336 h (by decide) (by rw [h0]; decide)) ?_
    dsimp only [putL, setL, List.set_cons_zero, List.set_cons_succ, List.nil_append, List.cons_append]
    refine wk_move (.tuple #[(numV 115792089237316195423570985008687907852837564279074904382605163141518161494336), (.int .i64 0)]) rfl rfl rfl rfl ?_
    dsimp only [putL, setL, List.set_cons_zero, List.set_cons_succ, List.nil_append, List.cons_append]
    refine wk_ext (numV 115792089237316195423570985008687907852837564279074904382605163141518161494336) rfl rfl rfl rfl rfl ?_
    dsimp only [putL, setL, List.set_cons_zero, List.set_cons_succ, List.nil_append, List.cons_append]
    refine wk_ext (.int .i64 0) rfl rfl rfl rfl rfl ?_
    dsimp only [putL, setL, List.set_cons_zero, List.set_cons_succ, List.nil_append, List.cons_append]
    refine wk_newN rfl rfl fun β10 => ?_
    dsimp only [putL, setL, List.set_cons_zero, List.set_cons_succ, List.nil_append, List.cons_append]
    refine wk_stN 9 115792089237316195423570985008687907852837564279074904382605163141518161494336 rfl rfl rfl rfl rfl rfl ?_
    dsimp only [putL, setL, List.set_cons_zero, List.set_cons_succ, List.nil_append, List.cons_append]
    refine wk_assign (.int .i64 0) rfl rfl rfl rfl ?_
    dsimp only [putL, setL, List.set_cons_zero, List.set_cons_succ, List.nil_append, List.cons_append]
    refine wk_nil ?_
    refine sp_seq rfl ?_
    refine sp_region (π := [0, 1, 2, 3, 4, 5, 6, 7, 8, 9, 10, 11, 12, 13, 14, 15, 16, 17, 18, 19, 20, 21, 22]) [] rfl rfl ?_
    refine wk_move (.int .i64 2) rfl rfl rfl rfl ?_
    dsimp only [putL, setL, List.set_cons_zero, List.set_cons_succ, List.nil_append, List.cons_append]
    refine wk_iop (.bool true) rfl rfl rfl rfl rfl rfl (iop_eql_t (by decide)) ?_
    dsimp only [putL, setL, List.set_cons_zero, List.set_cons_succ, List.nil_append, List.cons_append]
    refine wk_move (.bool true) rfl rfl rfl rfl ?_
    dsimp only [putL, setL, List.set_cons_zero, List.set_cons_succ, List.nil_append, List.cons_append]
    refine wk_move (.int .i64 0) rfl rfl rfl rfl ?_
    dsimp only [putL, setL, List.set_cons_zero, List.set_cons_succ, List.nil_append, List.cons_append]
    refine wk_iop (.bool true) rfl rfl rfl rfl rfl rfl (iop_eql_t (by decide)) ?_
    dsimp only [putL, setL, List.set_cons_zero, List.set_cons_succ, List.nil_append, List.cons_append]
    refine wk_pick true (.bool true) rfl rfl rfl rfl rfl ?_
    dsimp only [putL, setL, List.set_cons_zero, List.set_cons_succ, List.nil_append, List.cons_append]
    refine wk_move (.bool true) rfl rfl rfl rfl ?_
    dsimp only [putL, setL, List.set_cons_zero, List.set_cons_succ, List.nil_append, List.cons_append]
    refine wk_ldN 9 rfl rfl rfl rfl rfl ?_
    dsimp only [putL, setL, List.set_cons_zero, List.set_cons_succ, List.nil_append, List.cons_append]
    refine wk_ldN 7 rfl rfl rfl rfl rfl ?_
    dsimp only [putL, setL, List.set_cons_zero, List.set_cons_succ, List.nil_append, List.cons_append]
    refine wk_eqN true rfl rfl rfl rfl rfl (by decide) (by decide) (decide_eq_true rfl) ?_
    dsimp only [putL, setL, List.set_cons_zero, List.set_cons_succ, List.nil_append, List.cons_append]
    refine wk_pick true (.bool true) rfl rfl rfl rfl rfl ?_
    dsimp only [putL, setL, List.set_cons_zero, List.set_cons_succ, List.nil_append, List.cons_append]
    refine wk_move (.bool true) rfl rfl rfl rfl ?_
    dsimp only [putL, setL, List.set_cons_zero, List.set_cons_succ, List.nil_append, List.cons_append]
    refine wk_move (.int .i64 (parI which)) rfl rfl rfl rfl ?_
    dsimp only [putL, setL, List.set_cons_zero, List.set_cons_succ, List.nil_append, List.cons_append]
    refine wk_ldN 9 rfl rfl rfl rfl rfl ?_
    dsimp only [putL, setL, List.set_cons_zero, List.set_cons_succ, List.nil_append, List.cons_append]
    refine wk_val (numV 1) rfl rfl rfl (fun w => by kernel_rfl) ?_
    dsimp only [putL, setL, List.set_cons_zero, List.set_cons_succ, List.nil_append, List.cons_append]
    refine wk_call [(.int .i64 (parI which)), (numV 115792089237316195423570985008687907852837564279074904382605163141518161494336), (numV 1)] (numV ((115792089237316195423570985008687907852837564279074904382605163141518161494336 + 1) % modW (parI which))) rfl rfl rfl (enters_of Try.func47 (by kernel_rfl) (by kernel_rfl)) rfl (fadd_ok (parI which) 115792089237316195423570985008687907852837564279074904382605163141518161494336 1 h (by decide) (by decide)) ?_
    dsimp only [putL, setL, List.set_cons_zero, List.set_cons_succ, List.nil_append, List.cons_append]
    refine wk_val (numV 0) rfl rfl rfl (fun w => by kernel_rfl) ?_
    dsimp only [putL, setL, List.set_cons_zero, List.set_cons_succ, List.nil_append, List.cons_append]
    refine wk_eqN true rfl rfl rfl rfl rfl (Nat.lt_trans (Nat.mod_lt _ (modW_pos h)) (modW_lt (parI which))) (by decide) (decide_eq_true (by rw [h0]; decide)) ?_
    dsimp only [putL, setL, List.set_cons_zero, List.set_cons_succ, List.nil_append, List.cons_append]
    refine wk_pick true (.bool true) rfl rfl rfl rfl rfl ?_
    dsimp only [putL, setL, List.set_cons_zero, List.set_cons_succ, List.nil_append, List.cons_append]
    refine wk_move (.bool true) rfl rfl rfl rfl ?_
    dsimp only [putL, setL, List.set_cons_zero, List.set_cons_succ, List.nil_append, List.cons_append]
    refine wk_call [] (.bool true) rfl rfl rfl (enters_of Try.func53 (by kernel_rfl) (by kernel_rfl)) rfl wakes2_calls ?_
    dsimp only [putL, setL, List.set_cons_zero, List.set_cons_succ, List.nil_append, List.cons_append]
    refine wk_pick true (.bool true) rfl rfl rfl rfl rfl ?_
    dsimp only [putL, setL, List.set_cons_zero, List.set_cons_succ, List.nil_append, List.cons_append]
    refine wk_assign (.bool true) rfl rfl rfl rfl ?_
    dsimp only [putL, setL, List.set_cons_zero, List.set_cons_succ, List.nil_append, List.cons_append]
    refine wk_nil ?_
    refine sp_ret rfl ?_
    exact ret_tmps (v := (.bool true)) (fun w' => by kernel_rfl) fun w' hw => ⟨rfl, hw.below⟩

set_option maxRecDepth 100000 in
theorem fieldBytes_lifted (os : Os) (started : os.Started) (H : Type) (enc : TypeId × Value → H) :
    ReturnsInHanded {} Try.checked os 18 .any (Rows.fieldBytesSpec.pre6 enc Try.prog Try.f18 Rows.fieldBytesRow.domain false) (Rows.fieldBytesSpec.post enc Try.prog Try.f18 false true false false) := by
  refine returnsInHanded_of_change (C := Try.checked) own started (by kernel_rfl) Try.func18
    (ChangeSpec.witness6 (enc := enc) (C := Try.checked) false ⟨#[], #[.int .i64 0, .agg #[.int .u64 0, .int .u64 0, .int .u64 0, .int .u64 0], .agg #[.int .u64 0, .int .u64 0, .int .u64 0, .int .u64 0]], []⟩ 8 (by kernel_rfl) (by kernel_rfl) (by kernel_rfl) (by kernel_rfl)) ?_
  intro W base args ds gs before hval0 hW hcnd _
  have hval : ∀ (j : Nat) t v, Try.f18.params[j]? = some t → args[j]? = some v → Value.okWide Try.prog W .any base t v := hval0
  have hW' := hW
  obtain ⟨p, q, hA0, hV, rfl, hfz, hnd⟩ := hW
  have hA : DataW.TrodAll enc Try.prog W 0 (fun _ => true) true Try.f18.params.toList args.toList ds p := hA0
  rw [Try.params18] at hA hval
  obtain ⟨v0, vs0, d0, ds0, p0, q0, hargs, rfl, rfl, h0, r0⟩ := trodAll_cons hA
  obtain ⟨v1, vs1, d1, ds1, p1, q1, rfl, rfl, rfl, h1, r1⟩ := trodAll_cons r0
  obtain ⟨v2, vs2, d2, ds2, p2, q2, rfl, rfl, rfl, h2, r2⟩ := trodAll_cons r1
  obtain ⟨rfl, rfl, rfl⟩ := trodAll_nil r2
  obtain rfl : args = #[v0, v1, v2] := by cases args; simp_all
  obtain ⟨rfl, rfl⟩ := trodVars_none hV
  have k0 := h0
  have lt0 : ∀ x ∈ p0, x.block < W.heap.size := by obtain ⟨m, hm⟩ := k0; exact DataW.trod_lt m _ _ _ hm
  have k1 := h1
  have lt1 : ∀ x ∈ p1, x.block < W.heap.size := by obtain ⟨m, hm⟩ := k1; exact DataW.trod_lt m _ _ _ hm
  have k2 := h2
  have lt2 : ∀ x ∈ p2, x.block < W.heap.size := by obtain ⟨m, hm⟩ := k2; exact DataW.trod_lt m _ _ _ hm
  obtain ⟨which, rfl, rfl, rfl, w_which0⟩ := open_int Try.underlying3 (hval 0 3 v0 rfl rfl) h0; have w_which := wf_i64 w_which0
  obtain ⟨a, w_a, rfl⟩ := open_num (hval 1 24 v1 rfl rfl) h1
  obtain ⟨b, w_b, rfl⟩ := open_num (hval 2 24 v2 rfl rfl) h2
  clear hA0 hval0
  refine (fieldBytes_walk which a b w_which w_a w_b W).mono fun e W' ⟨he, bel⟩ => ?_
  subst he
  exact ⟨_, rfl, _, _, _, [], _, [], hW', trodAll_mk1 (shut_bool Try.underlying4 _), (trodAll_cons_mk (Below.trod laidOut (by kernel_rfl) (of_decide_eq_true (by kernel_rfl)) k0 bel lt0) (trodAll_cons_mk (Below.trod laidOut (by kernel_rfl) (of_decide_eq_true (by kernel_rfl)) k1 bel lt1) (trodAll_cons_mk (Below.trod laidOut (by kernel_rfl) (of_decide_eq_true (by kernel_rfl)) k2 bel lt2) trodAll_mk0))), rfl, bel.frame _, fun h => by cases h⟩

theorem fieldBytes_holds : Rows.FieldBytesSaid :=
  OpenClaim.holds_of_wide 18 Try.f18 rfl rfl rfl rfl rfl rfl rfl ⟨rfl, rfl, rfl, rfl, rfl⟩ rfl rfl rfl rfl rfl (by kernel_rfl) Try.func18 (by kernel_rfl)
    (of_decide_eq_true (by kernel_rfl)) (by unfold Func.isWrapper; first | (rw [if_pos (by decide +kernel)]; kernel_rfl) | (rw [if_neg (by decide +kernel)]; exact ⟨rfl, rfl⟩))
    (fun os started H enc _ => fieldBytes_lifted os started H enc)

end Go.Proofs.Ytmecomgifmkkfaa
