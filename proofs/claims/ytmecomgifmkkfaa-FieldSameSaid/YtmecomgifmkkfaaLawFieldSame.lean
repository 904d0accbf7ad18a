/- FieldSame: a number, and it and the prime, are one; what is told is below the prime; for every input, no condition. -/
import Derived.Test.YtmecomgifmkkfaaSymC
import Derived.Test.YtmecomgifmkkfaaFieldD
import Derived.Test.YtmecomgifmkkfaaRefB
import Derived.Test.YtmecomgifmkkfaaLimbM
import Derived.Test.YtmecomgifmkkfaaLimbG
import Derived.Test.YtmecomgifmkkfaaLimbB
import Derived.Test.YtmecomgifmkkfaaSymB
import Derived.Test.YtmecomgifmkkfaaRows
import Derived.Test.YtmecomgifmkkfaaOpen
import Derived.Test.YtmecomgifmkkfaaAux
import Derived.Test.YtmecomgifmkkfaaFieldL
import Derived.Test.YtmecomgifmkkfaaFieldM
import Derived.Test.YtmecomgifmkkfaaSymD
import Derived.Test.YtmecomgifmkkfaaSymS
import Derived.Test.YtmecomgifmkkfaaFieldN
import Derived.ProofKit
import Derived.OpenShut
namespace Go.Proofs.Ytmecomgifmkkfaa
set_option linter.unusedVariables false
set_option linter.unusedSimpArgs false
open Go.ChangeShapes Go.WideShapes Go.ChangeAt Go.RowKit

theorem cmp_below {x m : Nat} (h : x < m) : ¬ 0 ≤ cmpI x m := by rw [cmpI_lt h]; decide
theorem over {which : Int} (h : okW which) {a : Nat} (hc : (((a % modW which + modW which) / W256 : Nat) : Int) = 0) : (a % modW which + modW which) % W256 = a % modW which + modW which := by
  have hc' : (a % modW which + modW which) / W256 = 0 := by omega
  refine Nat.mod_eq_of_lt ?_
  rcases Nat.lt_or_ge (a % modW which + modW which) W256 with h1 | h1
  · exact h1
  · have := Nat.div_pos h1 W256_pos; omega
theorem over_red {which : Int} (h : okW which) {a : Nat} (hc : (((a % modW which + modW which) / W256 : Nat) : Int) = 0) : (a % modW which + modW which) % W256 % modW which = a % modW which := by
  rw [over h hc, Nat.add_mod_right, Nat.mod_mod]
theorem over_add {which : Int} (h : okW which) {a b : Nat} (hc : (((a % modW which + modW which) / W256 : Nat) : Int) = 0) : ((a % modW which + modW which) % W256 + b) % modW which = (a + b) % modW which := by
  rw [← mm1, over_red h hc, mm1]
theorem over_mul {which : Int} (h : okW which) {a b : Nat} (hc : (((a % modW which + modW which) / W256 : Nat) : Int) = 0) : (a % modW which + modW which) % W256 * b % modW which = a * b % modW which := by
  rw [← mm3, over_red h hc, mm3]
theorem over_sub {which : Int} (h : okW which) {a b : Nat} (hc : (((a % modW which + modW which) / W256 : Nat) : Int) = 0) : subM (modW which) b ((a % modW which + modW which) % W256) = subM (modW which) b a := by
  unfold subM
  rw [over_red h hc]

set_option maxRecDepth 20000 in
set_option maxHeartbeats 2000000 in
theorem fieldSame_walk (which : Int) (a : Nat) (b : Nat) (w_which : -9223372036854775808 ≤ which ∧ which ≤ 9223372036854775807) (w_a : a < W256) (w_b : b < W256) (w : World) :
    Calls Try.prog 16 #[.int .i64 which, numV a, numV b] w fun e w' => e = .returned (.bool true) ∧ Below w.heap.size w w' := by
  have h : okW (parI which) := parI_ok which
  refine fn_calls (l0 := [(.int .i64 which), (numV a), (numV b), undef, undef, undef, undef, undef, undef, undef, undef, undef, undef, undef, undef, undef, undef, undef, undef, undef, undef, undef, undef, undef, undef, undef, undef, undef, undef, undef, undef, undef, undef, undef, undef, undef, undef, undef, undef, undef, undef, undef, undef, undef, undef, undef, undef, undef, undef, undef, undef, undef, undef, undef, undef, undef, undef, undef, undef, undef, undef, undef, undef, undef, undef, undef, undef, undef, undef, undef, undef, undef, undef, undef, undef, undef, undef, undef, undef, undef, undef, undef, undef, undef, undef, undef, undef, undef, undef, undef, undef, undef, undef, undef, undef, undef, undef, undef, undef, undef, undef, undef, undef, undef, undef, undef, undef, undef, undef, undef, undef, undef, undef, undef, undef, undef, undef, undef, undef]) Try.func16 rfl rfl [] (St.start w) ?_
  refine sp_seq rfl ?_
  refine sp_region (π := [0, 1, 2]) [] rfl rfl ?_
  refine wk_boxN a rfl rfl rfl fun β1 => ?_
  dsimp only [putL, setL, List.set_cons_zero, List.set_cons_succ, List.nil_append, List.cons_append]
  refine wk_boxN b rfl rfl rfl fun β2 => ?_
  dsimp only [putL, setL, List.set_cons_zero, List.set_cons_succ, List.nil_append, List.cons_append]
  refine wk_assign (.bool false) rfl rfl rfl rfl ?_
  dsimp only [putL, setL, List.set_cons_zero, List.set_cons_succ, List.nil_append, List.cons_append]
  refine wk_nil ?_
  refine sp_seq rfl ?_
  refine sp_region (π := [0, 1, 2, 3, 4]) [] rfl rfl ?_
  refine wk_move (.int .i64 which) rfl rfl rfl rfl ?_
  dsimp only [putL, setL, List.set_cons_zero, List.set_cons_succ, List.nil_append, List.cons_append]
  refine wk_val (.int .u64 (IntKind.u64.wrap which)) rfl rfl rfl (fun w => by kernel_rfl) ?_
  dsimp only [putL, setL, List.set_cons_zero, List.set_cons_succ, List.nil_append, List.cons_append]
  refine wk_iop (.int .u64 ((IntKind.u64.wrap which).tmod 2)) rfl rfl rfl rfl rfl rfl rfl ?_
  dsimp only [putL, setL, List.set_cons_zero, List.set_cons_succ, List.nil_append, List.cons_append]
  refine wk_val (.int .i64 (parI which)) rfl rfl rfl (fun w => by kernel_rfl) ?_
  dsimp only [putL, setL, List.set_cons_zero, List.set_cons_succ, List.nil_append, List.cons_append]
  refine wk_assign (.int .i64 (parI which)) rfl rfl rfl rfl ?_
  dsimp only [putL, setL, List.set_cons_zero, List.set_cons_succ, List.nil_append, List.cons_append]
  refine wk_nil ?_
  refine sp_seq rfl ?_
  refine sp_region (π := [0, 1, 2, 3]) [] rfl rfl ?_
  refine wk_move (.int .i64 (parI which)) rfl rfl rfl rfl ?_
  dsimp only [putL, setL, List.set_cons_zero, List.set_cons_succ, List.nil_append, List.cons_append]
  refine wk_call [(.int .i64 (parI which))] (numV (modW (parI which))) rfl rfl rfl (enters_of Try.func43 (by kernel_rfl) (by kernel_rfl)) rfl (prime_ok (parI which) h) ?_
  dsimp only [putL, setL, List.set_cons_zero, List.set_cons_succ, List.nil_append, List.cons_append]
  refine wk_newN rfl rfl fun β3 => ?_
  dsimp only [putL, setL, List.set_cons_zero, List.set_cons_succ, List.nil_append, List.cons_append]
  refine wk_stN 2 (modW (parI which)) rfl rfl rfl rfl rfl rfl ?_
  dsimp only [putL, setL, List.set_cons_zero, List.set_cons_succ, List.nil_append, List.cons_append]
  refine wk_nil ?_
  refine sp_seq rfl ?_
  refine sp_region (π := [0, 1, 2, 3, 4]) [] rfl rfl ?_
  refine wk_move (.int .i64 (parI which)) rfl rfl rfl rfl ?_
  dsimp only [putL, setL, List.set_cons_zero, List.set_cons_succ, List.nil_append, List.cons_append]
  refine wk_ldN 0 rfl rfl rfl rfl rfl ?_
  dsimp only [putL, setL, List.set_cons_zero, List.set_cons_succ, List.nil_append, List.cons_append]
  refine wk_call [(.int .i64 (parI which)), (numV a)] (numV (a % modW (parI which))) rfl rfl rfl (enters_of Try.func45 (by kernel_rfl) (by kernel_rfl)) rfl (red_ok (parI which) a h w_a) ?_
  dsimp only [putL, setL, List.set_cons_zero, List.set_cons_succ, List.nil_append, List.cons_append]
  refine wk_newN rfl rfl fun β4 => ?_
  dsimp only [putL, setL, List.set_cons_zero, List.set_cons_succ, List.nil_append, List.cons_append]
  refine wk_stN 3 (a % modW (parI which)) rfl rfl rfl rfl rfl rfl ?_
  dsimp only [putL, setL, List.set_cons_zero, List.set_cons_succ, List.nil_append, List.cons_append]
  refine wk_nil ?_
  refine sp_seq rfl ?_
  refine sp_region (π := [0, 1, 2, 3, 4, 5, 6, 7, 8]) [] rfl rfl ?_
  refine wk_ldN 3 rfl rfl rfl rfl rfl ?_
  dsimp only [putL, setL, List.set_cons_zero, List.set_cons_succ, List.nil_append, List.cons_append]
  refine wk_ldN 2 rfl rfl rfl rfl rfl ?_
  dsimp only [putL, setL, List.set_cons_zero, List.set_cons_succ, List.nil_append, List.cons_append]
  refine wk_call [(numV (a % modW (parI which))), (numV (modW (parI which)))] (.tuple #[(numV (((a % modW (parI which)) + (modW (parI which))) % W256)), (.int .u64 ((((a % modW (parI which)) + (modW (parI which))) / W256 : Nat) : Int))]) rfl rfl rfl (enters_of Try.func29 (by kernel_rfl) (by kernel_rfl)) rfl (add_calls (a % modW (parI which)) (modW (parI which)) (Nat.lt_trans (Nat.mod_lt _ (modW_pos h)) (modW_lt (parI which))) (modW_lt (parI which))) ?_
  dsimp only [putL, setL, List.set_cons_zero, List.set_cons_succ, List.nil_append, List.cons_append]
  refine wk_move (.tuple #[(numV (((a % modW (parI which)) + (modW (parI which))) % W256)), (.int .u64 ((((a % modW (parI which)) + (modW (parI which))) / W256 : Nat) : Int))]) rfl rfl rfl rfl ?_
  dsimp only [putL, setL, List.set_cons_zero, List.set_cons_succ, List.nil_append, List.cons_append]
  refine wk_ext (numV (((a % modW (parI which)) + (modW (parI which))) % W256)) rfl rfl rfl rfl rfl ?_
  dsimp only [putL, setL, List.set_cons_zero, List.set_cons_succ, List.nil_append, List.cons_append]
  refine wk_ext (.int .u64 ((((a % modW (parI which)) + (modW (parI which))) / W256 : Nat) : Int)) rfl rfl rfl rfl rfl ?_
  dsimp only [putL, setL, List.set_cons_zero, List.set_cons_succ, List.nil_append, List.cons_append]
  refine wk_newN rfl rfl fun β5 => ?_
  dsimp only [putL, setL, List.set_cons_zero, List.set_cons_succ, List.nil_append, List.cons_append]
  refine wk_stN 4 (((a % modW (parI which)) + (modW (parI which))) % W256) rfl rfl rfl rfl rfl rfl ?_
  dsimp only [putL, setL, List.set_cons_zero, List.set_cons_succ, List.nil_append, List.cons_append]
  refine wk_assign (.int .u64 ((((a % modW (parI which)) + (modW (parI which))) / W256 : Nat) : Int)) rfl rfl rfl rfl ?_
  dsimp only [putL, setL, List.set_cons_zero, List.set_cons_succ, List.nil_append, List.cons_append]
  refine wk_nil ?_
  refine sp_seq rfl ?_
  refine sp_draw [0, 1, 2, 3, 5, 6, 7, 9, 10, 11, 13, 14, 4, 8, 12, 15, 16, 17] [] mixed rfl (by kernel_rfl) (by kernel_rfl) ?_
  refine wk_ldN 3 rfl rfl rfl rfl rfl ?_
  dsimp only [putL, setL, List.set_cons_zero, List.set_cons_succ, List.nil_append, List.cons_append]
  refine wk_move (.int .i64 (parI which)) rfl rfl rfl rfl ?_
  dsimp only [putL, setL, List.set_cons_zero, List.set_cons_succ, List.nil_append, List.cons_append]
  refine wk_ldN 0 rfl rfl rfl rfl rfl ?_
  dsimp only [putL, setL, List.set_cons_zero, List.set_cons_succ, List.nil_append, List.cons_append]
  refine wk_ldN 1 rfl rfl rfl rfl rfl ?_
  dsimp only [putL, setL, List.set_cons_zero, List.set_cons_succ, List.nil_append, List.cons_append]
  refine wk_move (.int .i64 (parI which)) rfl rfl rfl rfl ?_
  dsimp only [putL, setL, List.set_cons_zero, List.set_cons_succ, List.nil_append, List.cons_append]
  refine wk_ldN 0 rfl rfl rfl rfl rfl ?_
  dsimp only [putL, setL, List.set_cons_zero, List.set_cons_succ, List.nil_append, List.cons_append]
  refine wk_ldN 1 rfl rfl rfl rfl rfl ?_
  dsimp only [putL, setL, List.set_cons_zero, List.set_cons_succ, List.nil_append, List.cons_append]
  refine wk_move (.int .i64 (parI which)) rfl rfl rfl rfl ?_
  dsimp only [putL, setL, List.set_cons_zero, List.set_cons_succ, List.nil_append, List.cons_append]
  refine wk_ldN 0 rfl rfl rfl rfl rfl ?_
  dsimp only [putL, setL, List.set_cons_zero, List.set_cons_succ, List.nil_append, List.cons_append]
  refine wk_ldN 1 rfl rfl rfl rfl rfl ?_
  dsimp only [putL, setL, List.set_cons_zero, List.set_cons_succ, List.nil_append, List.cons_append]
  refine wk_move (.int .i64 (parI which)) rfl rfl rfl rfl ?_
  dsimp only [putL, setL, List.set_cons_zero, List.set_cons_succ, List.nil_append, List.cons_append]
  refine wk_ldN 0 rfl rfl rfl rfl rfl ?_
  dsimp only [putL, setL, List.set_cons_zero, List.set_cons_succ, List.nil_append, List.cons_append]
  refine wk_call [(.int .i64 (parI which)), (numV a), (numV b)] (numV ((a + b) % modW (parI which))) rfl rfl rfl (enters_of Try.func47 (by kernel_rfl) (by kernel_rfl)) rfl (fadd_ok (parI which) a b h w_a w_b) ?_
  dsimp only [putL, setL, List.set_cons_zero, List.set_cons_succ, List.nil_append, List.cons_append]
  refine wk_call [(.int .i64 (parI which)), (numV a), (numV b)] (numV (subM (modW (parI which)) a b)) rfl rfl rfl (enters_of Try.func49 (by kernel_rfl) (by kernel_rfl)) rfl (fsub_ok (parI which) a b h w_a w_b) ?_
  dsimp only [putL, setL, List.set_cons_zero, List.set_cons_succ, List.nil_append, List.cons_append]
  refine wk_call [(.int .i64 (parI which)), (numV a), (numV b)] (numV (a * b % modW (parI which))) rfl rfl rfl (enters_of Try.func51 (by kernel_rfl) (by kernel_rfl)) rfl (fmul_ok (parI which) a b h w_a w_b) ?_
  dsimp only [putL, setL, List.set_cons_zero, List.set_cons_succ, List.nil_append, List.cons_append]
  refine wk_call [(.int .i64 (parI which)), (numV a)] (numV (a ^ (modW (parI which) - 2) % modW (parI which))) rfl rfl rfl (enters_of Try.func56 (by kernel_rfl) (by kernel_rfl)) rfl (finv_ok (parI which) a h w_a) ?_
  dsimp only [putL, setL, List.set_cons_zero, List.set_cons_succ, List.nil_append, List.cons_append]
  refine wk_make (z := rowO [(a % modW (parI which)), ((a + b) % modW (parI which)), (subM (modW (parI which)) a b), (a * b % modW (parI which)), (a ^ (modW (parI which) - 2) % modW (parI which))]) (mk := fun β => .slice (some ⟨β, 0, none⟩) 5 5) rfl rfl (fun w => by kernel_rfl) fun β6 => ?_
  dsimp only [putL, setL, List.set_cons_zero, List.set_cons_succ, List.nil_append, List.cons_append]
  refine wk_assign (.slice (some ⟨β6, 0, none⟩) 5 5) rfl rfl rfl rfl ?_
  dsimp only [putL, setL, List.set_cons_zero, List.set_cons_succ, List.nil_append, List.cons_append]
  refine wk_nil ?_
  refine sp_seq rfl ?_
  refine sp_seq rfl ?_
  refine sp_region (π := [0]) [] rfl rfl ?_
  refine wk_assign (.int .i64 0) rfl rfl rfl rfl ?_
  dsimp only [putL, setL, List.set_cons_zero, List.set_cons_succ, List.nil_append, List.cons_append]
  refine wk_nil ?_
  refine sp_block rfl ?_
  refine sp_unroll 6 rfl ?_
  refine un_step ?_
  refine sp_seq rfl ?_
  refine sp_seq rfl ?_
  refine sp_region (π := [0, 1, 2, 3]) [] rfl rfl ?_
  refine wk_move (.int .i64 0) rfl rfl rfl rfl ?_
  dsimp only [putL, setL, List.set_cons_zero, List.set_cons_succ, List.nil_append, List.cons_append]
  refine wk_move (.slice (some ⟨β6, 0, none⟩) 5 5) rfl rfl rfl rfl ?_
  dsimp only [putL, setL, List.set_cons_zero, List.set_cons_succ, List.nil_append, List.cons_append]
  refine wk_len rfl rfl rfl rfl Try.underlying57 ?_
  dsimp only [putL, setL, List.set_cons_zero, List.set_cons_succ, List.nil_append, List.cons_append]
  refine wk_iop (.bool true) rfl rfl rfl rfl rfl rfl (iop_lss_t (by decide)) ?_
  dsimp only [putL, setL, List.set_cons_zero, List.set_cons_succ, List.nil_append, List.cons_append]
  refine wk_nil ?_
  refine sp_true rfl rfl ?_
  refine sp_skip rfl ?_
  refine sp_seq rfl ?_
  refine sp_block rfl ?_
  refine sp_seq rfl ?_
  refine sp_draw [0, 1, 2, 3, 4, 5, 6] [] mixed rfl (by kernel_rfl) (by kernel_rfl) ?_
  refine wk_move (.slice (some ⟨β6, 0, none⟩) 5 5) rfl rfl rfl rfl ?_
  dsimp only [putL, setL, List.set_cons_zero, List.set_cons_succ, List.nil_append, List.cons_append]
  refine wk_move (.int .i64 0) rfl rfl rfl rfl ?_
  dsimp only [putL, setL, List.set_cons_zero, List.set_cons_succ, List.nil_append, List.cons_append]
  refine wk_idxS 0 4 rfl rfl rfl rfl rfl Try.underlying57 (by kernel_rfl) rfl (by decide) ?_
  dsimp only [putL, setL, List.set_cons_zero, List.set_cons_succ, List.nil_append, List.cons_append]
  refine wk_ldR 5 0 rfl rfl rfl rfl rfl rfl rfl ?_
  dsimp only [putL, setL, List.set_cons_zero, List.set_cons_succ, List.nil_append, List.cons_append]
  refine wk_ldN 2 rfl rfl rfl rfl rfl ?_
  dsimp only [putL, setL, List.set_cons_zero, List.set_cons_succ, List.nil_append, List.cons_append]
  refine wk_call [(numV (a % modW (parI which))), (numV (modW (parI which)))] (.int .i64 (cmpI (a % modW (parI which)) (modW (parI which)))) rfl rfl rfl (enters_of Try.func28 (by kernel_rfl) (by kernel_rfl)) rfl (cmp_calls (a % modW (parI which)) (modW (parI which)) (Nat.lt_trans (Nat.mod_lt _ (modW_pos h)) (modW_lt (parI which))) (modW_lt (parI which))) ?_
  dsimp only [putL, setL, List.set_cons_zero, List.set_cons_succ, List.nil_append, List.cons_append]
  refine wk_iop (.bool false) rfl rfl rfl rfl rfl rfl (iop_geq_f (cmp_below (Nat.mod_lt _ (modW_pos h)))) ?_
  dsimp only [putL, setL, List.set_cons_zero, List.set_cons_succ, List.nil_append, List.cons_append]
  refine wk_nil ?_
  refine sp_false rfl rfl ?_
  refine sp_skip rfl ?_
  refine sp_region (π := [0, 1, 2]) [] rfl rfl ?_
  refine wk_move (.int .i64 0) rfl rfl rfl rfl ?_
  dsimp only [putL, setL, List.set_cons_zero, List.set_cons_succ, List.nil_append, List.cons_append]
  refine wk_iop (.int .i64 1) rfl rfl rfl rfl rfl rfl (by kernel_rfl) ?_
  dsimp only [putL, setL, List.set_cons_zero, List.set_cons_succ, List.nil_append, List.cons_append]
  refine wk_assign (.int .i64 1) rfl rfl rfl rfl ?_
  dsimp only [putL, setL, List.set_cons_zero, List.set_cons_succ, List.nil_append, List.cons_append]
  refine wk_nil ?_
  refine un_step ?_
  refine sp_seq rfl ?_
  refine sp_seq rfl ?_
  refine sp_region (π := [0, 1, 2, 3]) [] rfl rfl ?_
  refine wk_move (.int .i64 1) rfl rfl rfl rfl ?_
  dsimp only [putL, setL, List.set_cons_zero, List.set_cons_succ, List.nil_append, List.cons_append]
  refine wk_move (.slice (some ⟨β6, 0, none⟩) 5 5) rfl rfl rfl rfl ?_
  dsimp only [putL, setL, List.set_cons_zero, List.set_cons_succ, List.nil_append, List.cons_append]
  refine wk_len rfl rfl rfl rfl Try.underlying57 ?_
  dsimp only [putL, setL, List.set_cons_zero, List.set_cons_succ, List.nil_append, List.cons_append]
  refine wk_iop (.bool true) rfl rfl rfl rfl rfl rfl (iop_lss_t (by decide)) ?_
  dsimp only [putL, setL, List.set_cons_zero, List.set_cons_succ, List.nil_append, List.cons_append]
  refine wk_nil ?_
  refine sp_true rfl rfl ?_
  refine sp_skip rfl ?_
  refine sp_seq rfl ?_
  refine sp_block rfl ?_
  refine sp_seq rfl ?_
  refine sp_draw [0, 1, 2, 3, 4, 5, 6] [] mixed rfl (by kernel_rfl) (by kernel_rfl) ?_
  refine wk_move (.slice (some ⟨β6, 0, none⟩) 5 5) rfl rfl rfl rfl ?_
  dsimp only [putL, setL, List.set_cons_zero, List.set_cons_succ, List.nil_append, List.cons_append]
  refine wk_move (.int .i64 1) rfl rfl rfl rfl ?_
  dsimp only [putL, setL, List.set_cons_zero, List.set_cons_succ, List.nil_append, List.cons_append]
  refine wk_idxS 1 4 rfl rfl rfl rfl rfl Try.underlying57 (by kernel_rfl) rfl (by decide) ?_
  dsimp only [putL, setL, List.set_cons_zero, List.set_cons_succ, List.nil_append, List.cons_append]
  refine wk_ldR 5 1 rfl rfl rfl rfl rfl rfl rfl ?_
  dsimp only [putL, setL, List.set_cons_zero, List.set_cons_succ, List.nil_append, List.cons_append]
  refine wk_ldN 2 rfl rfl rfl rfl rfl ?_
  dsimp only [putL, setL, List.set_cons_zero, List.set_cons_succ, List.nil_append, List.cons_append]
  refine wk_call [(numV ((a + b) % modW (parI which))), (numV (modW (parI which)))] (.int .i64 (cmpI ((a + b) % modW (parI which)) (modW (parI which)))) rfl rfl rfl (enters_of Try.func28 (by kernel_rfl) (by kernel_rfl)) rfl (cmp_calls ((a + b) % modW (parI which)) (modW (parI which)) (Nat.lt_trans (Nat.mod_lt _ (modW_pos h)) (modW_lt (parI which))) (modW_lt (parI which))) ?_
  dsimp only [putL, setL, List.set_cons_zero, List.set_cons_succ, List.nil_append, List.cons_append]
  refine wk_iop (.bool false) rfl rfl rfl rfl rfl rfl (iop_geq_f (cmp_below (Nat.mod_lt _ (modW_pos h)))) ?_
  dsimp only [putL, setL, List.set_cons_zero, List.set_cons_succ, List.nil_append, List.cons_append]
  refine wk_nil ?_
  refine sp_false rfl rfl ?_
  refine sp_skip rfl ?_
  refine sp_region (π := [0, 1, 2]) [] rfl rfl ?_
  refine wk_move (.int .i64 1) rfl rfl rfl rfl ?_
  dsimp only [putL, setL, List.set_cons_zero, List.set_cons_succ, List.nil_append, List.cons_append]
  refine wk_iop (.int .i64 2) rfl rfl rfl rfl rfl rfl (by kernel_rfl) ?_
  dsimp only [putL, setL, List.set_cons_zero, List.set_cons_succ, List.nil_append, List.cons_append]
  refine wk_assign (.int .i64 2) rfl rfl rfl rfl ?_
  dsimp only [putL, setL, List.set_cons_zero, List.set_cons_succ, List.nil_append, List.cons_append]
  refine wk_nil ?_
  refine un_step ?_
  refine sp_seq rfl ?_
  refine sp_seq rfl ?_
  refine sp_region (π := [0, 1, 2, 3]) [] rfl rfl ?_
  refine wk_move (.int .i64 2) rfl rfl rfl rfl ?_
  dsimp only [putL, setL, List.set_cons_zero, List.set_cons_succ, List.nil_append, List.cons_append]
  refine wk_move (.slice (some ⟨β6, 0, none⟩) 5 5) rfl rfl rfl rfl ?_
  dsimp only [putL, setL, List.set_cons_zero, List.set_cons_succ, List.nil_append, List.cons_append]
  refine wk_len rfl rfl rfl rfl Try.underlying57 ?_
  dsimp only [putL, setL, List.set_cons_zero, List.set_cons_succ, List.nil_append, List.cons_append]
  refine wk_iop (.bool true) rfl rfl rfl rfl rfl rfl (iop_lss_t (by decide)) ?_
  dsimp only [putL, setL, List.set_cons_zero, List.set_cons_succ, List.nil_append, List.cons_append]
  refine wk_nil ?_
  refine sp_true rfl rfl ?_
  refine sp_skip rfl ?_
  refine sp_seq rfl ?_
  refine sp_block rfl ?_
  refine sp_seq rfl ?_
  refine sp_draw [0, 1, 2, 3, 4, 5, 6] [] mixed rfl (by kernel_rfl) (by kernel_rfl) ?_
  refine wk_move (.slice (some ⟨β6, 0, none⟩) 5 5) rfl rfl rfl rfl ?_
  dsimp only [putL, setL, List.set_cons_zero, List.set_cons_succ, List.nil_append, List.cons_append]
  refine wk_move (.int .i64 2) rfl rfl rfl rfl ?_
  dsimp only [putL, setL, List.set_cons_zero, List.set_cons_succ, List.nil_append, List.cons_append]
  refine wk_idxS 2 4 rfl rfl rfl rfl rfl Try.underlying57 (by kernel_rfl) rfl (by decide) ?_
  dsimp only [putL, setL, List.set_cons_zero, List.set_cons_succ, List.nil_append, List.cons_append]
  refine wk_ldR 5 2 rfl rfl rfl rfl rfl rfl rfl ?_
  dsimp only [putL, setL, List.set_cons_zero, List.set_cons_succ, List.nil_append, List.cons_append]
  refine wk_ldN 2 rfl rfl rfl rfl rfl ?_
  dsimp only [putL, setL, List.set_cons_zero, List.set_cons_succ, List.nil_append, List.cons_append]
  refine wk_call [(numV (subM (modW (parI which)) a b)), (numV (modW (parI which)))] (.int .i64 (cmpI (subM (modW (parI which)) a b) (modW (parI which)))) rfl rfl rfl (enters_of Try.func28 (by kernel_rfl) (by kernel_rfl)) rfl (cmp_calls (subM (modW (parI which)) a b) (modW (parI which)) (Nat.lt_trans (Nat.mod_lt _ (modW_pos h)) (modW_lt (parI which))) (modW_lt (parI which))) ?_
  dsimp only [putL, setL, List.set_cons_zero, List.set_cons_succ, List.nil_append, List.cons_append]
  refine wk_iop (.bool false) rfl rfl rfl rfl rfl rfl (iop_geq_f (cmp_below (Nat.mod_lt _ (modW_pos h)))) ?_
  dsimp only [putL, setL, List.set_cons_zero, List.set_cons_succ, List.nil_append, List.cons_append]
  refine wk_nil ?_
  refine sp_false rfl rfl ?_
  refine sp_skip rfl ?_
  refine sp_region (π := [0, 1, 2]) [] rfl rfl ?_
  refine wk_move (.int .i64 2) rfl rfl rfl rfl ?_
  dsimp only [putL, setL, List.set_cons_zero, List.set_cons_succ, List.nil_append, List.cons_append]
  refine wk_iop (.int .i64 3) rfl rfl rfl rfl rfl rfl (by kernel_rfl) ?_
  dsimp only [putL, setL, List.set_cons_zero, List.set_cons_succ, List.nil_append, List.cons_append]
  refine wk_assign (.int .i64 3) rfl rfl rfl rfl ?_
  dsimp only [putL, setL, List.set_cons_zero, List.set_cons_succ, List.nil_append, List.cons_append]
  refine wk_nil ?_
  refine un_step ?_
  refine sp_seq rfl ?_
  refine sp_seq rfl ?_
  refine sp_region (π := [0, 1, 2, 3]) [] rfl rfl ?_
  refine wk_move (.int .i64 3) rfl rfl rfl rfl ?_
  dsimp only [putL, setL, List.set_cons_zero, List.set_cons_succ, List.nil_append, List.cons_append]
  refine wk_move (.slice (some ⟨β6, 0, none⟩) 5 5) rfl rfl rfl rfl ?_
  dsimp only [putL, setL, List.set_cons_zero, List.set_cons_succ, List.nil_append, List.cons_append]
  refine wk_len rfl rfl rfl rfl Try.underlying57 ?_
  dsimp only [putL, setL, List.set_cons_zero, List.set_cons_succ, List.nil_append, List.cons_append]
  refine wk_iop (.bool true) rfl rfl rfl rfl rfl rfl (iop_lss_t (by decide)) ?_
  dsimp only [putL, setL, List.set_cons_zero, List.set_cons_succ, List.nil_append, List.cons_append]
  refine wk_nil ?_
  refine sp_true rfl rfl ?_
  refine sp_skip rfl ?_
  refine sp_seq rfl ?_
  refine sp_block rfl ?_
  refine sp_seq rfl ?_
  refine sp_draw [0, 1, 2, 3, 4, 5, 6] [] mixed rfl (by kernel_rfl) (by kernel_rfl) ?_
  refine wk_move (.slice (some ⟨β6, 0, none⟩) 5 5) rfl rfl rfl rfl ?_
  dsimp only [putL, setL, List.set_cons_zero, List.set_cons_succ, List.nil_append, List.cons_append]
  refine wk_move (.int .i64 3) rfl rfl rfl rfl ?_
  dsimp only [putL, setL, List.set_cons_zero, List.set_cons_succ, List.nil_append, List.cons_append]
  refine wk_idxS 3 4 rfl rfl rfl rfl rfl Try.underlying57 (by kernel_rfl) rfl (by decide) ?_
  dsimp only [putL, setL, List.set_cons_zero, List.set_cons_succ, List.nil_append, List.cons_append]
  refine wk_ldR 5 3 rfl rfl rfl rfl rfl rfl rfl ?_
  dsimp only [putL, setL, List.set_cons_zero, List.set_cons_succ, List.nil_append, List.cons_append]
  refine wk_ldN 2 rfl rfl rfl rfl rfl ?_
  dsimp only [putL, setL, List.set_cons_zero, List.set_cons_succ, List.nil_append, List.cons_append]
  refine wk_call [(numV (a * b % modW (parI which))), (numV (modW (parI which)))] (.int .i64 (cmpI (a * b % modW (parI which)) (modW (parI which)))) rfl rfl rfl (enters_of Try.func28 (by kernel_rfl) (by kernel_rfl)) rfl (cmp_calls (a * b % modW (parI which)) (modW (parI which)) (Nat.lt_trans (Nat.mod_lt _ (modW_pos h)) (modW_lt (parI which))) (modW_lt (parI which))) ?_
  dsimp only [putL, setL, List.set_cons_zero, List.set_cons_succ, List.nil_append, List.cons_append]
  refine wk_iop (.bool false) rfl rfl rfl rfl rfl rfl (iop_geq_f (cmp_below (Nat.mod_lt _ (modW_pos h)))) ?_
  dsimp only [putL, setL, List.set_cons_zero, List.set_cons_succ, List.nil_append, List.cons_append]
  refine wk_nil ?_
  refine sp_false rfl rfl ?_
  refine sp_skip rfl ?_
  refine sp_region (π := [0, 1, 2]) [] rfl rfl ?_
  refine wk_move (.int .i64 3) rfl rfl rfl rfl ?_
  dsimp only [putL, setL, List.set_cons_zero, List.set_cons_succ, List.nil_append, List.cons_append]
  refine wk_iop (.int .i64 4) rfl rfl rfl rfl rfl rfl (by kernel_rfl) ?_
  dsimp only [putL, setL, List.set_cons_zero, List.set_cons_succ, List.nil_append, List.cons_append]
  refine wk_assign (.int .i64 4) rfl rfl rfl rfl ?_
  dsimp only [putL, setL, List.set_cons_zero, List.set_cons_succ, List.nil_append, List.cons_append]
  refine wk_nil ?_
  refine un_step ?_
  refine sp_seq rfl ?_
  refine sp_seq rfl ?_
  refine sp_region (π := [0, 1, 2, 3]) [] rfl rfl ?_
  refine wk_move (.int .i64 4) rfl rfl rfl rfl ?_
  dsimp only [putL, setL, List.set_cons_zero, List.set_cons_succ, List.nil_append, List.cons_append]
  refine wk_move (.slice (some ⟨β6, 0, none⟩) 5 5) rfl rfl rfl rfl ?_
  dsimp only [putL, setL, List.set_cons_zero, List.set_cons_succ, List.nil_append, List.cons_append]
  refine wk_len rfl rfl rfl rfl Try.underlying57 ?_
  dsimp only [putL, setL, List.set_cons_zero, List.set_cons_succ, List.nil_append, List.cons_append]
  refine wk_iop (.bool true) rfl rfl rfl rfl rfl rfl (iop_lss_t (by decide)) ?_
  dsimp only [putL, setL, List.set_cons_zero, List.set_cons_succ, List.nil_append, List.cons_append]
  refine wk_nil ?_
  refine sp_true rfl rfl ?_
  refine sp_skip rfl ?_
  refine sp_seq rfl ?_
  refine sp_block rfl ?_
  refine sp_seq rfl ?_
  refine sp_draw [0, 1, 2, 3, 4, 5, 6] [] mixed rfl (by kernel_rfl) (by kernel_rfl) ?_
  refine wk_move (.slice (some ⟨β6, 0, none⟩) 5 5) rfl rfl rfl rfl ?_
  dsimp only [putL, setL, List.set_cons_zero, List.set_cons_succ, List.nil_append, List.cons_append]
  refine wk_move (.int .i64 4) rfl rfl rfl rfl ?_
  dsimp only [putL, setL, List.set_cons_zero, List.set_cons_succ, List.nil_append, List.cons_append]
  refine wk_idxS 4 4 rfl rfl rfl rfl rfl Try.underlying57 (by kernel_rfl) rfl (by decide) ?_
  dsimp only [putL, setL, List.set_cons_zero, List.set_cons_succ, List.nil_append, List.cons_append]
  refine wk_ldR 5 4 rfl rfl rfl rfl rfl rfl rfl ?_
  dsimp only [putL, setL, List.set_cons_zero, List.set_cons_succ, List.nil_append, List.cons_append]
  refine wk_ldN 2 rfl rfl rfl rfl rfl ?_
  dsimp only [putL, setL, List.set_cons_zero, List.set_cons_succ, List.nil_append, List.cons_append]
  refine wk_call [(numV (a ^ (modW (parI which) - 2) % modW (parI which))), (numV (modW (parI which)))] (.int .i64 (cmpI (a ^ (modW (parI which) - 2) % modW (parI which)) (modW (parI which)))) rfl rfl rfl (enters_of Try.func28 (by kernel_rfl) (by kernel_rfl)) rfl (cmp_calls (a ^ (modW (parI which) - 2) % modW (parI which)) (modW (parI which)) (Nat.lt_trans (Nat.mod_lt _ (modW_pos h)) (modW_lt (parI which))) (modW_lt (parI which))) ?_
  dsimp only [putL, setL, List.set_cons_zero, List.set_cons_succ, List.nil_append, List.cons_append]
  refine wk_iop (.bool false) rfl rfl rfl rfl rfl rfl (iop_geq_f (cmp_below (Nat.mod_lt _ (modW_pos h)))) ?_
  dsimp only [putL, setL, List.set_cons_zero, List.set_cons_succ, List.nil_append, List.cons_append]
  refine wk_nil ?_
  refine sp_false rfl rfl ?_
  refine sp_skip rfl ?_
  refine sp_region (π := [0, 1, 2]) [] rfl rfl ?_
  refine wk_move (.int .i64 4) rfl rfl rfl rfl ?_
  dsimp only [putL, setL, List.set_cons_zero, List.set_cons_succ, List.nil_append, List.cons_append]
  refine wk_iop (.int .i64 5) rfl rfl rfl rfl rfl rfl (by kernel_rfl) ?_
  dsimp only [putL, setL, List.set_cons_zero, List.set_cons_succ, List.nil_append, List.cons_append]
  refine wk_assign (.int .i64 5) rfl rfl rfl rfl ?_
  dsimp only [putL, setL, List.set_cons_zero, List.set_cons_succ, List.nil_append, List.cons_append]
  refine wk_nil ?_
  refine un_step ?_
  refine sp_seq rfl ?_
  refine sp_seq rfl ?_
  refine sp_region (π := [0, 1, 2, 3]) [] rfl rfl ?_
  refine wk_move (.int .i64 5) rfl rfl rfl rfl ?_
  dsimp only [putL, setL, List.set_cons_zero, List.set_cons_succ, List.nil_append, List.cons_append]
  refine wk_move (.slice (some ⟨β6, 0, none⟩) 5 5) rfl rfl rfl rfl ?_
  dsimp only [putL, setL, List.set_cons_zero, List.set_cons_succ, List.nil_append, List.cons_append]
  refine wk_len rfl rfl rfl rfl Try.underlying57 ?_
  dsimp only [putL, setL, List.set_cons_zero, List.set_cons_succ, List.nil_append, List.cons_append]
  refine wk_iop (.bool false) rfl rfl rfl rfl rfl rfl (iop_lss_f (by decide)) ?_
  dsimp only [putL, setL, List.set_cons_zero, List.set_cons_succ, List.nil_append, List.cons_append]
  refine wk_nil ?_
  refine sp_false rfl rfl ?_
  refine sp_exit rfl ?_
  refine sp_seq rfl ?_
  refine sp_seq rfl ?_
  refine sp_draw [0, 1, 2, 3, 4, 6, 5, 7, 8, 9, 10, 11, 13, 14, 15, 12, 16, 17, 18, 19, 20, 21, 22, 24, 25, 26, 23, 27, 28, 29, 30, 31, 32, 33, 35, 36, 37, 34, 38, 39, 40, 41] [] mixed rfl (by kernel_rfl) (by kernel_rfl) ?_
  refine wk_move (.int .u64 ((((a % modW (parI which)) + (modW (parI which))) / W256 : Nat) : Int)) rfl rfl rfl rfl ?_
  dsimp only [putL, setL, List.set_cons_zero, List.set_cons_succ, List.nil_append, List.cons_append]
  by_cases hc7 : ((((a % modW (parI which)) + (modW (parI which))) / W256 : Nat) : Int) = 0
  · skip
    refine wk_iop (.bool true) rfl rfl rfl rfl rfl rfl (iop_eql_t hc7) ?_
    dsimp only [putL, setL, List.set_cons_zero, List.set_cons_succ, List.nil_append, List.cons_append]
    refine wk_move (.bool true) rfl rfl rfl rfl ?_
    dsimp only [putL, setL, List.set_cons_zero, List.set_cons_succ, List.nil_append, List.cons_append]
    refine wk_move (.int .i64 (parI which)) rfl rfl rfl rfl ?_
    dsimp only [putL, setL, List.set_cons_zero, List.set_cons_succ, List.nil_append, List.cons_append]
    refine wk_ldN 4 rfl rfl rfl rfl rfl ?_
    dsimp only [putL, setL, List.set_cons_zero, List.set_cons_succ, List.nil_append, List.cons_append]
    refine wk_ldN 3 rfl rfl rfl rfl rfl ?_
    dsimp only [putL, setL, List.set_cons_zero, List.set_cons_succ, List.nil_append, List.cons_append]
    refine wk_call [(.int .i64 (parI which)), (numV (((a % modW (parI which)) + (modW (parI which))) % W256))] (numV ((((a % modW (parI which)) + (modW (parI which))) % W256) % modW (parI which))) rfl rfl rfl (enters_of Try.func45 (by kernel_rfl) (by kernel_rfl)) rfl (red_ok (parI which) (((a % modW (parI which)) + (modW (parI which))) % W256) h (Nat.mod_lt _ W256_pos)) ?_
    dsimp only [putL, setL, List.set_cons_zero, List.set_cons_succ, List.nil_append, List.cons_append]
    refine wk_neN false rfl rfl rfl rfl rfl (Nat.lt_trans (Nat.mod_lt _ (modW_pos h)) (modW_lt (parI which))) (Nat.lt_trans (Nat.mod_lt _ (modW_pos h)) (modW_lt (parI which))) (decide_eq_true (over_red h hc7)) ?_
    dsimp only [putL, setL, List.set_cons_zero, List.set_cons_succ, List.nil_append, List.cons_append]
    refine wk_move (.bool false) rfl rfl rfl rfl ?_
    dsimp only [putL, setL, List.set_cons_zero, List.set_cons_succ, List.nil_append, List.cons_append]
    refine wk_move (.int .i64 (parI which)) rfl rfl rfl rfl ?_
    dsimp only [putL, setL, List.set_cons_zero, List.set_cons_succ, List.nil_append, List.cons_append]
    refine wk_ldN 4 rfl rfl rfl rfl rfl ?_
    dsimp only [putL, setL, List.set_cons_zero, List.set_cons_succ, List.nil_append, List.cons_append]
    refine wk_ldN 1 rfl rfl rfl rfl rfl ?_
    dsimp only [putL, setL, List.set_cons_zero, List.set_cons_succ, List.nil_append, List.cons_append]
    refine wk_move (.int .i64 (parI which)) rfl rfl rfl rfl ?_
    dsimp only [putL, setL, List.set_cons_zero, List.set_cons_succ, List.nil_append, List.cons_append]
    refine wk_ldN 0 rfl rfl rfl rfl rfl ?_
    dsimp only [putL, setL, List.set_cons_zero, List.set_cons_succ, List.nil_append, List.cons_append]
    refine wk_ldN 1 rfl rfl rfl rfl rfl ?_
    dsimp only [putL, setL, List.set_cons_zero, List.set_cons_succ, List.nil_append, List.cons_append]
    refine wk_call [(.int .i64 (parI which)), (numV (((a % modW (parI which)) + (modW (parI which))) % W256)), (numV b)] (numV (((((a % modW (parI which)) + (modW (parI which))) % W256) + b) % modW (parI which))) rfl rfl rfl (enters_of Try.func47 (by kernel_rfl) (by kernel_rfl)) rfl (fadd_ok (parI which) (((a % modW (parI which)) + (modW (parI which))) % W256) b h (Nat.mod_lt _ W256_pos) w_b) ?_
    dsimp only [putL, setL, List.set_cons_zero, List.set_cons_succ, List.nil_append, List.cons_append]
    refine wk_call [(.int .i64 (parI which)), (numV a), (numV b)] (numV ((a + b) % modW (parI which))) rfl rfl rfl (enters_of Try.func47 (by kernel_rfl) (by kernel_rfl)) rfl (fadd_ok (parI which) a b h w_a w_b) ?_
    dsimp only [putL, setL, List.set_cons_zero, List.set_cons_succ, List.nil_append, List.cons_append]
    refine wk_neN false rfl rfl rfl rfl rfl (Nat.lt_trans (Nat.mod_lt _ (modW_pos h)) (modW_lt (parI which))) (Nat.lt_trans (Nat.mod_lt _ (modW_pos h)) (modW_lt (parI which))) (decide_eq_true (over_add h hc7)) ?_
    dsimp only [putL, setL, List.set_cons_zero, List.set_cons_succ, List.nil_append, List.cons_append]
    refine wk_pick false (.bool false) rfl rfl rfl rfl rfl ?_
    dsimp only [putL, setL, List.set_cons_zero, List.set_cons_succ, List.nil_append, List.cons_append]
    refine wk_move (.bool false) rfl rfl rfl rfl ?_
    dsimp only [putL, setL, List.set_cons_zero, List.set_cons_succ, List.nil_append, List.cons_append]
    refine wk_move (.int .i64 (parI which)) rfl rfl rfl rfl ?_
    dsimp only [putL, setL, List.set_cons_zero, List.set_cons_succ, List.nil_append, List.cons_append]
    refine wk_ldN 4 rfl rfl rfl rfl rfl ?_
    dsimp only [putL, setL, List.set_cons_zero, List.set_cons_succ, List.nil_append, List.cons_append]
    refine wk_ldN 1 rfl rfl rfl rfl rfl ?_
    dsimp only [putL, setL, List.set_cons_zero, List.set_cons_succ, List.nil_append, List.cons_append]
    refine wk_move (.int .i64 (parI which)) rfl rfl rfl rfl ?_
    dsimp only [putL, setL, List.set_cons_zero, List.set_cons_succ, List.nil_append, List.cons_append]
    refine wk_ldN 0 rfl rfl rfl rfl rfl ?_
    dsimp only [putL, setL, List.set_cons_zero, List.set_cons_succ, List.nil_append, List.cons_append]
    refine wk_ldN 1 rfl rfl rfl rfl rfl ?_
    dsimp only [putL, setL, List.set_cons_zero, List.set_cons_succ, List.nil_append, List.cons_append]
    refine wk_call [(.int .i64 (parI which)), (numV (((a % modW (parI which)) + (modW (parI which))) % W256)), (numV b)] (numV ((((a % modW (parI which)) + (modW (parI which))) % W256) * b % modW (parI which))) rfl rfl rfl (enters_of Try.func51 (by kernel_rfl) (by kernel_rfl)) rfl (fmul_ok (parI which) (((a % modW (parI which)) + (modW (parI which))) % W256) b h (Nat.mod_lt _ W256_pos) w_b) ?_
    dsimp only [putL, setL, List.set_cons_zero, List.set_cons_succ, List.nil_append, List.cons_append]
    refine wk_call [(.int .i64 (parI which)), (numV a), (numV b)] (numV (a * b % modW (parI which))) rfl rfl rfl (enters_of Try.func51 (by kernel_rfl) (by kernel_rfl)) rfl (fmul_ok (parI which) a b h w_a w_b) ?_
    dsimp only [putL, setL, List.set_cons_zero, List.set_cons_succ, List.nil_append, List.cons_append]
    refine wk_neN false rfl rfl rfl rfl rfl (Nat.lt_trans (Nat.mod_lt _ (modW_pos h)) (modW_lt (parI which))) (Nat.lt_trans (Nat.mod_lt _ (modW_pos h)) (modW_lt (parI which))) (decide_eq_true (over_mul h hc7)) ?_
    dsimp only [putL, setL, List.set_cons_zero, List.set_cons_succ, List.nil_append, List.cons_append]
    refine wk_pick false (.bool false) rfl rfl rfl rfl rfl ?_
    dsimp only [putL, setL, List.set_cons_zero, List.set_cons_succ, List.nil_append, List.cons_append]
    refine wk_move (.bool false) rfl rfl rfl rfl ?_
    dsimp only [putL, setL, List.set_cons_zero, List.set_cons_succ, List.nil_append, List.cons_append]
    refine wk_move (.int .i64 (parI which)) rfl rfl rfl rfl ?_
    dsimp only [putL, setL, List.set_cons_zero, List.set_cons_succ, List.nil_append, List.cons_append]
    refine wk_ldN 1 rfl rfl rfl rfl rfl ?_
    dsimp only [putL, setL, List.set_cons_zero, List.set_cons_succ, List.nil_append, List.cons_append]
    refine wk_ldN 4 rfl rfl rfl rfl rfl ?_
    dsimp only [putL, setL, List.set_cons_zero, List.set_cons_succ, List.nil_append, List.cons_append]
    refine wk_move (.int .i64 (parI which)) rfl rfl rfl rfl ?_
    dsimp only [putL, setL, List.set_cons_zero, List.set_cons_succ, List.nil_append, List.cons_append]
    refine wk_ldN 1 rfl rfl rfl rfl rfl ?_
    dsimp only [putL, setL, List.set_cons_zero, List.set_cons_succ, List.nil_append, List.cons_append]
    refine wk_ldN 0 rfl rfl rfl rfl rfl ?_
    dsimp only [putL, setL, List.set_cons_zero, List.set_cons_succ, List.nil_append, List.cons_append]
    refine wk_call [(.int .i64 (parI which)), (numV b), (numV (((a % modW (parI which)) + (modW (parI which))) % W256))] (numV (subM (modW (parI which)) b (((a % modW (parI which)) + (modW (parI which))) % W256))) rfl rfl rfl (enters_of Try.func49 (by kernel_rfl) (by kernel_rfl)) rfl (fsub_ok (parI which) b (((a % modW (parI which)) + (modW (parI which))) % W256) h w_b (Nat.mod_lt _ W256_pos)) ?_
    dsimp only [putL, setL, List.set_cons_zero, List.set_cons_succ, List.nil_append, List.cons_append]
    refine wk_call [(.int .i64 (parI which)), (numV b), (numV a)] (numV (subM (modW (parI which)) b a)) rfl rfl rfl (enters_of Try.func49 (by kernel_rfl) (by kernel_rfl)) rfl (fsub_ok (parI which) b a h w_b w_a) ?_
    dsimp only [putL, setL, List.set_cons_zero, List.set_cons_succ, List.nil_append, List.cons_append]
    refine wk_neN false rfl rfl rfl rfl rfl (Nat.lt_trans (Nat.mod_lt _ (modW_pos h)) (modW_lt (parI which))) (Nat.lt_trans (Nat.mod_lt _ (modW_pos h)) (modW_lt (parI which))) (decide_eq_true (over_sub h hc7)) ?_
    dsimp only [putL, setL, List.set_cons_zero, List.set_cons_succ, List.nil_append, List.cons_append]
    refine wk_pick false (.bool false) rfl rfl rfl rfl rfl ?_
    dsimp only [putL, setL, List.set_cons_zero, List.set_cons_succ, List.nil_append, List.cons_append]
    refine wk_pick true (.bool false) rfl rfl rfl rfl rfl ?_
    dsimp only [putL, setL, List.set_cons_zero, List.set_cons_succ, List.nil_append, List.cons_append]
    refine wk_nil ?_
    refine sp_false rfl rfl ?_
    refine sp_skip rfl ?_
    refine sp_seq rfl ?_
    refine sp_region (π := [0, 1, 2, 3, 4, 5, 6, 7, 8, 9]) [] rfl rfl ?_
    refine wk_val (numV 0) rfl rfl rfl (fun w => by kernel_rfl) ?_
    dsimp only [putL, setL, List.set_cons_zero, List.set_cons_succ, List.nil_append, List.cons_append]
    refine wk_ldN 0 rfl rfl rfl rfl rfl ?_
    dsimp only [putL, setL, List.set_cons_zero, List.set_cons_succ, List.nil_append, List.cons_append]
    refine wk_ldN 2 rfl rfl rfl rfl rfl ?_
    dsimp only [putL, setL, List.set_cons_zero, List.set_cons_succ, List.nil_append, List.cons_append]
    refine wk_call [(numV 0), (numV a), (numV (modW (parI which)))] (.tuple #[(numV (a % modW (parI which))), (.int .i64 0)]) rfl rfl rfl (enters_of Try.func25 (by kernel_rfl) (by kernel_rfl)) rfl (conv (by rw [Nat.zero_mul, Nat.zero_add]) (mod_calls 0 a (modW (parI which)) W256_pos w_a (modW_lt _) (Nat.ne_of_gt (modW_pos h)))) ?_
    dsimp only [putL, setL, List.set_cons_zero, List.set_cons_succ, List.nil_append, List.cons_append]
    refine wk_move (.tuple #[(numV (a % modW (parI which))), (.int .i64 0)]) rfl rfl rfl rfl ?_
    dsimp only [putL, setL, List.set_cons_zero, List.set_cons_succ, List.nil_append, List.cons_append]
    refine wk_ext (numV (a % modW (parI which))) rfl rfl rfl rfl rfl ?_
    dsimp only [putL, setL, List.set_cons_zero, List.set_cons_succ, List.nil_append, List.cons_append]
    refine wk_ext (.int .i64 0) rfl rfl rfl rfl rfl ?_
    dsimp only [putL, setL, List.set_cons_zero, List.set_cons_succ, List.nil_append, List.cons_append]
    refine wk_newN rfl rfl fun β8 => ?_
    dsimp only [putL, setL, List.set_cons_zero, List.set_cons_succ, List.nil_append, List.cons_append]
    refine wk_stN 6 (a % modW (parI which)) rfl rfl rfl rfl rfl rfl ?_
    dsimp only [putL, setL, List.set_cons_zero, List.set_cons_succ, List.nil_append, List.cons_append]
    refine wk_assign (.int .i64 0) rfl rfl rfl rfl ?_
    dsimp only [putL, setL, List.set_cons_zero, List.set_cons_succ, List.nil_append, List.cons_append]
    refine wk_nil ?_
    refine sp_seq rfl ?_
    refine sp_region (π := [0, 1, 2, 3, 4, 5, 6, 7, 8, 9, 10]) [] rfl rfl ?_
    refine wk_move (.int .i64 0) rfl rfl rfl rfl ?_
    dsimp only [putL, setL, List.set_cons_zero, List.set_cons_succ, List.nil_append, List.cons_append]
    refine wk_iop (.bool true) rfl rfl rfl rfl rfl rfl (iop_eql_t (by decide)) ?_
    dsimp only [putL, setL, List.set_cons_zero, List.set_cons_succ, List.nil_append, List.cons_append]
    refine wk_move (.bool true) rfl rfl rfl rfl ?_
    dsimp only [putL, setL, List.set_cons_zero, List.set_cons_succ, List.nil_append, List.cons_append]
    refine wk_ldN 6 rfl rfl rfl rfl rfl ?_
    dsimp only [putL, setL, List.set_cons_zero, List.set_cons_succ, List.nil_append, List.cons_append]
    refine wk_ldN 3 rfl rfl rfl rfl rfl ?_
    dsimp only [putL, setL, List.set_cons_zero, List.set_cons_succ, List.nil_append, List.cons_append]
    refine wk_eqN true rfl rfl rfl rfl rfl (Nat.lt_trans (Nat.mod_lt _ (modW_pos h)) (modW_lt (parI which))) (Nat.lt_trans (Nat.mod_lt _ (modW_pos h)) (modW_lt (parI which))) (decide_eq_true rfl) ?_
    dsimp only [putL, setL, List.set_cons_zero, List.set_cons_succ, List.nil_append, List.cons_append]
    refine wk_pick true (.bool true) rfl rfl rfl rfl rfl ?_
    dsimp only [putL, setL, List.set_cons_zero, List.set_cons_succ, List.nil_append, List.cons_append]
    refine wk_move (.bool true) rfl rfl rfl rfl ?_
    dsimp only [putL, setL, List.set_cons_zero, List.set_cons_succ, List.nil_append, List.cons_append]
    refine wk_call [] (.bool true) rfl rfl rfl (enters_of Try.func53 (by kernel_rfl) (by kernel_rfl)) rfl wakes2_calls ?_
    dsimp only [putL, setL, List.set_cons_zero, List.set_cons_succ, List.nil_append, List.cons_append]
    refine wk_pick true (.bool true) rfl rfl rfl rfl rfl ?_
    dsimp only [putL, setL, List.set_cons_zero, List.set_cons_succ, List.nil_append, List.cons_append]
    refine wk_assign (.bool true) rfl rfl rfl rfl ?_
    dsimp only [putL, setL, List.set_cons_zero, List.set_cons_succ, List.nil_append, List.cons_append]
    refine wk_nil ?_
    refine sp_ret rfl ?_
    exact ret_tmps (v := (.bool true)) (fun w' => by kernel_rfl) fun w' hw => ⟨rfl, hw.below⟩
  · skip
    refine wk_iop (.bool false) rfl rfl rfl rfl rfl rfl (iop_eql_f hc7) ?_
    dsimp only [putL, setL, List.set_cons_zero, List.set_cons_succ, List.nil_append, List.cons_append]
    refine wk_move (.bool false) rfl rfl rfl rfl ?_
    dsimp only [putL, setL, List.set_cons_zero, List.set_cons_succ, List.nil_append, List.cons_append]
    refine wk_skip rfl rfl (fun h => by cases h) ?_
    dsimp only [putL, setL, List.set_cons_zero, List.set_cons_succ, List.nil_append, List.cons_append]
    refine wk_skip rfl rfl (fun h => by cases h) ?_
    dsimp only [putL, setL, List.set_cons_zero, List.set_cons_succ, List.nil_append, List.cons_append]
    refine wk_skip rfl rfl (fun h => by cases h) ?_
    dsimp only [putL, setL, List.set_cons_zero, List.set_cons_succ, List.nil_append, List.cons_append]
    refine wk_skip rfl rfl (fun h => by cases h) ?_
    dsimp only [putL, setL, List.set_cons_zero, List.set_cons_succ, List.nil_append, List.cons_append]
    refine wk_skip rfl rfl (fun h => by cases h) ?_
    dsimp only [putL, setL, List.set_cons_zero, List.set_cons_succ, List.nil_append, List.cons_append]
    refine wk_skip rfl rfl (fun h => by cases h) ?_
    dsimp only [putL, setL, List.set_cons_zero, List.set_cons_succ, List.nil_append, List.cons_append]
    refine wk_skip2 rfl rfl (fun h => by cases h) ?_
    dsimp only [putL, setL, List.set_cons_zero, List.set_cons_succ, List.nil_append, List.cons_append]
    refine wk_skip2 rfl rfl (fun h => by cases h) ?_
    dsimp only [putL, setL, List.set_cons_zero, List.set_cons_succ, List.nil_append, List.cons_append]
    refine wk_skip2 rfl rfl (fun h => by cases h) ?_
    dsimp only [putL, setL, List.set_cons_zero, List.set_cons_succ, List.nil_append, List.cons_append]
    refine wk_skip2 rfl rfl (fun h => by cases h) ?_
    dsimp only [putL, setL, List.set_cons_zero, List.set_cons_succ, List.nil_append, List.cons_append]
    refine wk_skip2 rfl rfl (fun h => by cases h) ?_
    dsimp only [putL, setL, List.set_cons_zero, List.set_cons_succ, List.nil_append, List.cons_append]
    refine wk_skip2 rfl rfl (fun h => by cases h) ?_
    dsimp only [putL, setL, List.set_cons_zero, List.set_cons_succ, List.nil_append, List.cons_append]
    refine wk_skip2 rfl rfl (fun h => by cases h) ?_
    dsimp only [putL, setL, List.set_cons_zero, List.set_cons_succ, List.nil_append, List.cons_append]
    refine wk_skip2 rfl rfl (fun h => by cases h) ?_
    dsimp only [putL, setL, List.set_cons_zero, List.set_cons_succ, List.nil_append, List.cons_append]
    refine wk_skip2 rfl rfl (fun h => by cases h) ?_
    dsimp only [putL, setL, List.set_cons_zero, List.set_cons_succ, List.nil_append, List.cons_append]
    refine wk_skip rfl rfl (fun h => by cases h) ?_
    dsimp only [putL, setL, List.set_cons_zero, List.set_cons_succ, List.nil_append, List.cons_append]
    refine wk_skip rfl rfl (fun h => by cases h) ?_
    dsimp only [putL, setL, List.set_cons_zero, List.set_cons_succ, List.nil_append, List.cons_append]
    refine wk_skip2 rfl rfl (fun h => by cases h) ?_
    dsimp only [putL, setL, List.set_cons_zero, List.set_cons_succ, List.nil_append, List.cons_append]
    refine wk_skip2 rfl rfl (fun h => by cases h) ?_
    dsimp only [putL, setL, List.set_cons_zero, List.set_cons_succ, List.nil_append, List.cons_append]
    refine wk_skip2 rfl rfl (fun h => by cases h) ?_
    dsimp only [putL, setL, List.set_cons_zero, List.set_cons_succ, List.nil_append, List.cons_append]
    refine wk_skip2 rfl rfl (fun h => by cases h) ?_
    dsimp only [putL, setL, List.set_cons_zero, List.set_cons_succ, List.nil_append, List.cons_append]
    refine wk_skip2 rfl rfl (fun h => by cases h) ?_
    dsimp only [putL, setL, List.set_cons_zero, List.set_cons_succ, List.nil_append, List.cons_append]
    refine wk_skip2 rfl rfl (fun h => by cases h) ?_
    dsimp only [putL, setL, List.set_cons_zero, List.set_cons_succ, List.nil_append, List.cons_append]
    refine wk_skip2 rfl rfl (fun h => by cases h) ?_
    dsimp only [putL, setL, List.set_cons_zero, List.set_cons_succ, List.nil_append, List.cons_append]
    refine wk_skip2 rfl rfl (fun h => by cases h) ?_
    dsimp only [putL, setL, List.set_cons_zero, List.set_cons_succ, List.nil_append, List.cons_append]
    refine wk_skip2 rfl rfl (fun h => by cases h) ?_
    dsimp only [putL, setL, List.set_cons_zero, List.set_cons_succ, List.nil_append, List.cons_append]
    refine wk_skip rfl rfl (fun h => by cases h) ?_
    dsimp only [putL, setL, List.set_cons_zero, List.set_cons_succ, List.nil_append, List.cons_append]
    refine wk_skip rfl rfl (fun h => by cases h) ?_
    dsimp only [putL, setL, List.set_cons_zero, List.set_cons_succ, List.nil_append, List.cons_append]
    refine wk_skip2 rfl rfl (fun h => by cases h) ?_
    dsimp only [putL, setL, List.set_cons_zero, List.set_cons_succ, List.nil_append, List.cons_append]
    refine wk_skip2 rfl rfl (fun h => by cases h) ?_
    dsimp only [putL, setL, List.set_cons_zero, List.set_cons_succ, List.nil_append, List.cons_append]
    refine wk_skip2 rfl rfl (fun h => by cases h) ?_
    dsimp only [putL, setL, List.set_cons_zero, List.set_cons_succ, List.nil_append, List.cons_append]
    refine wk_skip2 rfl rfl (fun h => by cases h) ?_
    dsimp only [putL, setL, List.set_cons_zero, List.set_cons_succ, List.nil_append, List.cons_append]
    refine wk_skip2 rfl rfl (fun h => by cases h) ?_
    dsimp only [putL, setL, List.set_cons_zero, List.set_cons_succ, List.nil_append, List.cons_append]
    refine wk_skip2 rfl rfl (fun h => by cases h) ?_
    dsimp only [putL, setL, List.set_cons_zero, List.set_cons_succ, List.nil_append, List.cons_append]
    refine wk_skip2 rfl rfl (fun h => by cases h) ?_
    dsimp only [putL, setL, List.set_cons_zero, List.set_cons_succ, List.nil_append, List.cons_append]
    refine wk_skip2 rfl rfl (fun h => by cases h) ?_
    dsimp only [putL, setL, List.set_cons_zero, List.set_cons_succ, List.nil_append, List.cons_append]
    refine wk_skip2 rfl rfl (fun h => by cases h) ?_
    dsimp only [putL, setL, List.set_cons_zero, List.set_cons_succ, List.nil_append, List.cons_append]
    refine wk_skip rfl rfl (fun h => by cases h) ?_
    dsimp only [putL, setL, List.set_cons_zero, List.set_cons_succ, List.nil_append, List.cons_append]
    refine wk_pick false (.bool false) rfl rfl rfl rfl rfl ?_
    dsimp only [putL, setL, List.set_cons_zero, List.set_cons_succ, List.nil_append, List.cons_append]
    refine wk_nil ?_
    refine sp_false rfl rfl ?_
    refine sp_skip rfl ?_
    refine sp_seq rfl ?_
    refine sp_region (π := [0, 1, 2, 3, 4, 5, 6, 7, 8, 9]) [] rfl rfl ?_
    refine wk_val (numV 0) rfl rfl rfl (fun w => by kernel_rfl) ?_
    dsimp only [putL, setL, List.set_cons_zero, List.set_cons_succ, List.nil_append, List.cons_append]
    refine wk_ldN 0 rfl rfl rfl rfl rfl ?_
    dsimp only [putL, setL, List.set_cons_zero, List.set_cons_succ, List.nil_append, List.cons_append]
    refine wk_ldN 2 rfl rfl rfl rfl rfl ?_
    dsimp only [putL, setL, List.set_cons_zero, List.set_cons_succ, List.nil_append, List.cons_append]
    refine wk_call [(numV 0), (numV a), (numV (modW (parI which)))] (.tuple #[(numV (a % modW (parI which))), (.int .i64 0)]) rfl rfl rfl (enters_of Try.func25 (by kernel_rfl) (by kernel_rfl)) rfl (conv (by rw [Nat.zero_mul, Nat.zero_add]) (mod_calls 0 a (modW (parI which)) W256_pos w_a (modW_lt _) (Nat.ne_of_gt (modW_pos h)))) ?_
    dsimp only [putL, setL, List.set_cons_zero, List.set_cons_succ, List.nil_append, List.cons_append]
    refine wk_move (.tuple #[(numV (a % modW (parI which))), (.int .i64 0)]) rfl rfl rfl rfl ?_
    dsimp only [putL, setL, List.set_cons_zero, List.set_cons_succ, List.nil_append, List.cons_append]
    refine wk_ext (numV (a % modW (parI which))) rfl rfl rfl rfl rfl ?_
    dsimp only [putL, setL, List.set_cons_zero, List.set_cons_succ, List.nil_append, List.cons_append]
    refine wk_ext (.int .i64 0) rfl rfl rfl rfl rfl ?_
    dsimp only [putL, setL, List.set_cons_zero, List.set_cons_succ, List.nil_append, List.cons_append]
    refine wk_newN rfl rfl fun β9 => ?_
    dsimp only [putL, setL, List.set_cons_zero, List.set_cons_succ, List.nil_append, List.cons_append]
    refine wk_stN 6 (a % modW (parI which)) rfl rfl rfl rfl rfl rfl ?_
    dsimp only [putL, setL, List.set_cons_zero, List.set_cons_succ, List.nil_append, List.cons_append]
    refine wk_assign (.int .i64 0) rfl rfl rfl rfl ?_
    dsimp only [putL, setL, List.set_cons_zero, List.set_cons_succ, List.nil_append, List.cons_append]
    refine wk_nil ?_
    refine sp_seq rfl ?_
    refine sp_region (π := [0, 1, 2, 3, 4, 5, 6, 7, 8, 9, 10]) [] rfl rfl ?_
    refine wk_move (.int .i64 0) rfl rfl rfl rfl ?_
    dsimp only [putL, setL, List.set_cons_zero, List.set_cons_succ, List.nil_append, List.cons_append]
    refine wk_iop (.bool true) rfl rfl rfl rfl rfl rfl (iop_eql_t (by decide)) ?_
    dsimp only [putL, setL, List.set_cons_zero, List.set_cons_succ, List.nil_append, List.cons_append]
    refine wk_move (.bool true) rfl rfl rfl rfl ?_
    dsimp only [putL, setL, List.set_cons_zero, List.set_cons_succ, List.nil_append, List.cons_append]
    refine wk_ldN 6 rfl rfl rfl rfl rfl ?_
    dsimp only [putL, setL, List.set_cons_zero, List.set_cons_succ, List.nil_append, List.cons_append]
    refine wk_ldN 3 rfl rfl rfl rfl rfl ?_
    dsimp only [putL, setL, List.set_cons_zero, List.set_cons_succ, List.nil_append, List.cons_append]
    refine wk_eqN true rfl rfl rfl rfl rfl (Nat.lt_trans (Nat.mod_lt _ (modW_pos h)) (modW_lt (parI which))) (Nat.lt_trans (Nat.mod_lt _ (modW_pos h)) (modW_lt (parI which))) (decide_eq_true rfl) ?_
    dsimp only [putL, setL, List.set_cons_zero, List.set_cons_succ, List.nil_append, List.cons_append]
    refine wk_pick true (.bool true) rfl rfl rfl rfl rfl ?_
    dsimp only [putL, setL, List.set_cons_zero, List.set_cons_succ, List.nil_append, List.cons_append]
    refine wk_move (.bool true) rfl rfl rfl rfl ?_
    dsimp only [putL, setL, List.set_cons_zero, List.set_cons_succ, List.nil_append, List.cons_append]
    refine wk_call [] (.bool true) rfl rfl rfl (enters_of Try.func53 (by kernel_rfl) (by kernel_rfl)) rfl wakes2_calls ?_
    dsimp only [putL, setL, List.set_cons_zero, List.set_cons_succ, List.nil_append, List.cons_append]
    refine wk_pick true (.bool true) rfl rfl rfl rfl rfl ?_
    dsimp only [putL, setL, List.set_cons_zero, List.set_cons_succ, List.nil_append, List.cons_append]
    refine wk_assign (.bool true) rfl rfl rfl rfl ?_
    dsimp only [putL, setL, List.set_cons_zero, List.set_cons_succ, List.nil_append, List.cons_append]
    refine wk_nil ?_
    refine sp_ret rfl ?_
    exact ret_tmps (v := (.bool true)) (fun w' => by kernel_rfl) fun w' hw => ⟨rfl, hw.below⟩

set_option maxRecDepth 100000 in
theorem fieldSame_lifted (os : Os) (started : os.Started) (H : Type) (enc : TypeId × Value → H) :
    ReturnsInHanded {} Try.checked os 16 .any (Rows.fieldSameSpec.pre6 enc Try.prog Try.f16 Rows.fieldSameRow.domain false) (Rows.fieldSameSpec.post enc Try.prog Try.f16 false true false false) := by
  refine returnsInHanded_of_change (C := Try.checked) own started (by kernel_rfl) Try.func16
    (ChangeSpec.witness6 (enc := enc) (C := Try.checked) false ⟨#[], #[.int .i64 0, .agg #[.int .u64 0, .int .u64 0, .int .u64 0, .int .u64 0], .agg #[.int .u64 0, .int .u64 0, .int .u64 0, .int .u64 0]], []⟩ 8 (by kernel_rfl) (by kernel_rfl) (by kernel_rfl) (by kernel_rfl)) ?_
  intro W base args ds gs before hval0 hW hcnd _
  have hval : ∀ (j : Nat) t v, Try.f16.params[j]? = some t → args[j]? = some v → Value.okWide Try.prog W .any base t v := hval0
  have hW' := hW
  obtain ⟨p, q, hA0, hV, rfl, hfz, hnd⟩ := hW
  have hA : DataW.TrodAll enc Try.prog W 0 (fun _ => true) true Try.f16.params.toList args.toList ds p := hA0
  rw [Try.params16] at hA hval
  obtain ⟨v0, vs0, d0, ds0, p0, q0, hargs, rfl, rfl, h0, r0⟩ := trodAll_cons hA
  obtain ⟨v1, vs1, d1, ds1, p1, q1, rfl, rfl, rfl, h1, r1⟩ := trodAll_cons r0
  obtain ⟨v2, vs2, d2, ds2, p2, q2, rfl, rfl, rfl, h2, r2⟩ := trodAll_cons r1
  obtain ⟨rfl, rfl, rfl⟩ := trodAll_nil r2
  obtain rfl : args = #[v0, v1, v2] := by cases args; simp_all
  obtain ⟨rfl, rfl⟩ := trodVars_none hV
  have k0 := h0
  have lt0 : ∀ x ∈ p0, x.block < W.heap.size := by obtain ⟨m, hm⟩ := k0; exact DataW.trod_lt m _ _ _ hm
  have k1 := h1
  have lt1 : ∀ x ∈ p1, x.block < W.heap.size := by obtain ⟨m, hm⟩ := k1; exact DataW.trod_lt m _ _ _ hm
  have k2 := h2
  have lt2 : ∀ x ∈ p2, x.block < W.heap.size := by obtain ⟨m, hm⟩ := k2; exact DataW.trod_lt m _ _ _ hm
  obtain ⟨which, rfl, rfl, rfl, w_which0⟩ := open_int Try.underlying3 (hval 0 3 v0 rfl rfl) h0; have w_which := wf_i64 w_which0
  obtain ⟨a, w_a, rfl⟩ := open_num (hval 1 24 v1 rfl rfl) h1
  obtain ⟨b, w_b, rfl⟩ := open_num (hval 2 24 v2 rfl rfl) h2
  clear hA0 hval0
  refine (fieldSame_walk which a b w_which w_a w_b W).mono fun e W' ⟨he, bel⟩ => ?_
  subst he
  exact ⟨_, rfl, _, _, _, [], _, [], hW', trodAll_mk1 (shut_bool Try.underlying4 _), (trodAll_cons_mk (Below.trod laidOut (by kernel_rfl) (of_decide_eq_true (by kernel_rfl)) k0 bel lt0) (trodAll_cons_mk (Below.trod laidOut (by kernel_rfl) (of_decide_eq_true (by kernel_rfl)) k1 bel lt1) (trodAll_cons_mk (Below.trod laidOut (by kernel_rfl) (of_decide_eq_true (by kernel_rfl)) k2 bel lt2) trodAll_mk0))), rfl, bel.frame _, fun h => by cases h⟩

theorem fieldSame_holds : Rows.FieldSameSaid :=
  OpenClaim.holds_of_wide 16 Try.f16 rfl rfl rfl rfl rfl rfl rfl ⟨rfl, rfl, rfl, rfl, rfl⟩ rfl rfl rfl rfl rfl (by kernel_rfl) Try.func16 (by kernel_rfl)
    (of_decide_eq_true (by kernel_rfl)) (by unfold Func.isWrapper; first | (rw [if_pos (by decide +kernel)]; kernel_rfl) | (rw [if_neg (by decide +kernel)]; exact ⟨rfl, rfl⟩))
    (fun os started H enc _ => fieldSame_lifted os started H enc)

end Go.Proofs.Ytmecomgifmkkfaa
