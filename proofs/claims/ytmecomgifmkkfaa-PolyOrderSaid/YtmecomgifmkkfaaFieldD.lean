/- Roots, numbers of bytes, by the program: what each call answers. -/
import Derived.Test.YtmecomgifmkkfaaFieldC
import Derived.Test.YtmecomgifmkkfaaSymB
import Derived.Test.YtmecomgifmkkfaaLimbB
namespace Go.Proofs.Ytmecomgifmkkfaa
set_option linter.unusedVariables false
set_option linter.unusedSimpArgs false
open Go.RowKit

/-- (p + 1) / 4. -/
def rootE : Nat := 28948022309329048855892746252171976963317496166410141009864396001977208667916
/-- To the power (p + 1) / 4. -/
def rootX (a : Nat) : Nat := a ^ rootE % modW 0
def rootV (a : Nat) : Nat := if rootX a % 2 = 1 then subM (modW 0) 0 (rootX a) else rootX a
theorem rootX_lt (a : Nat) : rootX a < W256 := Nat.lt_trans (Nat.mod_lt _ (modW_pos (.inl rfl))) (modW_lt 0)
theorem ok0 : okW 0 := .inl rfl
theorem sub0_lt (b : Nat) : subM (modW 0) 0 b < W256 := Nat.lt_trans (subM_lt (modW_pos ok0)) (modW_lt 0)
theorem zero_ext {m : Nat} (h : okW m) : True := trivial

set_option maxRecDepth 20000 in
set_option maxHeartbeats 400000 in
theorem root_yes (a : Nat) (ha : a < W256) (hr : rootX a * rootX a % modW 0 = a % modW 0) (w : World) : Calls Try.prog 54 #[numV a] w fun r w' => r = .returned (.tuple #[numV (rootV a), .bool true]) ∧ Below w.heap.size w w' := by
  refine fn_calls (l0 := [(numV a), undef, undef, undef, undef, undef, undef, undef, undef, undef, undef, undef, undef, undef, undef, undef, undef, undef, undef, undef, undef, undef, undef, undef, undef, undef, undef, undef, undef, undef, undef, undef, undef, undef, undef, undef, undef, undef, undef, undef, undef, undef, undef, undef, undef, undef, undef, undef, undef, undef, undef, undef, undef, undef]) Try.func54 rfl rfl [] (St.start w) ?_
  refine sp_seq rfl ?_
  refine sp_region (π := [0, 1, 2]) [] rfl rfl ?_
  refine wk_boxN a rfl rfl rfl fun β1 => ?_
  dsimp only [putL, setL, List.set_cons_zero, List.set_cons_succ, List.nil_append, List.cons_append]
  refine wk_newN rfl rfl fun β2 => ?_
  dsimp only [putL, setL, List.set_cons_zero, List.set_cons_succ, List.nil_append, List.cons_append]
  refine wk_assign (.bool false) rfl rfl rfl rfl ?_
  dsimp only [putL, setL, List.set_cons_zero, List.set_cons_succ, List.nil_append, List.cons_append]
  refine wk_nil ?_
  refine sp_seq rfl ?_
  refine sp_region (π := [0, 1, 2, 3, 4, 5, 6, 7, 8]) [] rfl rfl ?_
  refine wk_call [(.int .i64 0)] (numV 115792089237316195423570985008687907853269984665640564039457584007908834671663) rfl rfl rfl (enters_of Try.func43 (by kernel_rfl) (by kernel_rfl)) rfl (conv rfl (prime_ok 0 ok0)) ?_
  dsimp only [putL, setL, List.set_cons_zero, List.set_cons_succ, List.nil_append, List.cons_append]
  refine wk_val (numV 1) rfl rfl rfl (fun w => by kernel_rfl) ?_
  dsimp only [putL, setL, List.set_cons_zero, List.set_cons_succ, List.nil_append, List.cons_append]
  refine wk_call [(numV 115792089237316195423570985008687907853269984665640564039457584007908834671663), (numV 1)] (.tuple #[(numV 115792089237316195423570985008687907853269984665640564039457584007908834671664), (.int .u64 0)]) rfl rfl rfl (enters_of Try.func29 (by kernel_rfl) (by kernel_rfl)) rfl (conv (by kernel_rfl) (add_calls 115792089237316195423570985008687907853269984665640564039457584007908834671663 1 (by decide) (by decide))) ?_
  dsimp only [putL, setL, List.set_cons_zero, List.set_cons_succ, List.nil_append, List.cons_append]
  refine wk_move (.tuple #[(numV 115792089237316195423570985008687907853269984665640564039457584007908834671664), (.int .u64 0)]) rfl rfl rfl rfl ?_
  dsimp only [putL, setL, List.set_cons_zero, List.set_cons_succ, List.nil_append, List.cons_append]
  refine wk_ext (numV 115792089237316195423570985008687907853269984665640564039457584007908834671664) rfl rfl rfl rfl rfl ?_
  dsimp only [putL, setL, List.set_cons_zero, List.set_cons_succ, List.nil_append, List.cons_append]
  refine wk_ext (.int .u64 0) rfl rfl rfl rfl rfl ?_
  dsimp only [putL, setL, List.set_cons_zero, List.set_cons_succ, List.nil_append, List.cons_append]
  refine wk_newN rfl rfl fun β3 => ?_
  dsimp only [putL, setL, List.set_cons_zero, List.set_cons_succ, List.nil_append, List.cons_append]
  refine wk_stN 2 115792089237316195423570985008687907853269984665640564039457584007908834671664 rfl rfl rfl rfl rfl rfl ?_
  dsimp only [putL, setL, List.set_cons_zero, List.set_cons_succ, List.nil_append, List.cons_append]
  refine wk_assign (.int .u64 0) rfl rfl rfl rfl ?_
  dsimp only [putL, setL, List.set_cons_zero, List.set_cons_succ, List.nil_append, List.cons_append]
  refine wk_nil ?_
  refine sp_seq rfl ?_
  refine sp_seq rfl ?_
  refine sp_region (π := [0]) [] rfl rfl ?_
  refine wk_move (.int .i64 0) rfl rfl rfl rfl ?_
  dsimp only [putL, setL, List.set_cons_zero, List.set_cons_succ, List.nil_append, List.cons_append]
  refine wk_nil ?_
  refine sp_block rfl ?_
  refine sp_unroll 5 rfl ?_
  refine un_step ?_
  refine sp_seq rfl ?_
  refine sp_region (π := [0]) [] rfl rfl ?_
  refine wk_iop (.bool true) rfl rfl rfl rfl rfl rfl (iop_lss_t (by decide)) ?_
  dsimp only [putL, setL, List.set_cons_zero, List.set_cons_succ, List.nil_append, List.cons_append]
  refine wk_nil ?_
  refine sp_seq rfl ?_
  refine sp_true rfl rfl ?_
  refine sp_skip rfl ?_
  refine sp_seq rfl ?_
  refine sp_block rfl ?_
  refine sp_seq rfl ?_
  refine sp_region (π := [0, 1]) [] rfl rfl ?_
  refine wk_move (.int .i64 0) rfl rfl rfl rfl ?_
  dsimp only [putL, setL, List.set_cons_zero, List.set_cons_succ, List.nil_append, List.cons_append]
  refine wk_assign (.int .i64 0) rfl rfl rfl rfl ?_
  dsimp only [putL, setL, List.set_cons_zero, List.set_cons_succ, List.nil_append, List.cons_append]
  refine wk_nil ?_
  refine sp_seq rfl ?_
  refine sp_region (π := [0, 1, 2, 3, 4, 5]) [] rfl rfl ?_
  refine wk_move (.int .i64 0) rfl rfl rfl rfl ?_
  dsimp only [putL, setL, List.set_cons_zero, List.set_cons_succ, List.nil_append, List.cons_append]
  refine wk_idx 0 1 rfl rfl rfl rfl rfl nunder (by kernel_rfl) rfl (by decide) ?_
  dsimp only [putL, setL, List.set_cons_zero, List.set_cons_succ, List.nil_append, List.cons_append]
  refine wk_digit 2 0 18446744069414583344 (by decide) (by kernel_rfl) rfl rfl rfl rfl rfl ?_
  dsimp only [putL, setL, List.set_cons_zero, List.set_cons_succ, List.nil_append, List.cons_append]
  refine wk_iop (.int .u64 4611686017353645836) rfl rfl rfl rfl rfl rfl (by kernel_rfl) ?_
  dsimp only [putL, setL, List.set_cons_zero, List.set_cons_succ, List.nil_append, List.cons_append]
  refine wk_idx 0 1 rfl rfl rfl rfl rfl nunder (by kernel_rfl) rfl (by decide) ?_
  dsimp only [putL, setL, List.set_cons_zero, List.set_cons_succ, List.nil_append, List.cons_append]
  refine wk_stD 2 0 115792089237316195423570985008687907853269984665640564039443748949856773734156 rfl rfl rfl rfl rfl rfl (by kernel_rfl) (by decide) ?_
  dsimp only [putL, setL, List.set_cons_zero, List.set_cons_succ, List.nil_append, List.cons_append]
  refine wk_nil ?_
  refine sp_seq rfl ?_
  refine sp_region (π := [0, 1, 2]) [] rfl rfl ?_
  refine wk_move (.int .i64 0) rfl rfl rfl rfl ?_
  dsimp only [putL, setL, List.set_cons_zero, List.set_cons_succ, List.nil_append, List.cons_append]
  refine wk_iop (.int .i64 1) rfl rfl rfl rfl rfl rfl (by kernel_rfl) ?_
  dsimp only [putL, setL, List.set_cons_zero, List.set_cons_succ, List.nil_append, List.cons_append]
  refine wk_iop (.bool true) rfl rfl rfl rfl rfl rfl (iop_lss_t (by decide)) ?_
  dsimp only [putL, setL, List.set_cons_zero, List.set_cons_succ, List.nil_append, List.cons_append]
  refine wk_nil ?_
  refine sp_true rfl rfl ?_
  refine sp_draw [0, 1, 2, 3, 4, 5, 6, 7, 8, 9, 10] [] mixed rfl (by kernel_rfl) (by kernel_rfl) ?_
  refine wk_move (.int .i64 0) rfl rfl rfl rfl ?_
  dsimp only [putL, setL, List.set_cons_zero, List.set_cons_succ, List.nil_append, List.cons_append]
  refine wk_idx 0 1 rfl rfl rfl rfl rfl nunder (by kernel_rfl) rfl (by decide) ?_
  dsimp only [putL, setL, List.set_cons_zero, List.set_cons_succ, List.nil_append, List.cons_append]
  refine wk_digit 2 0 4611686017353645836 (by decide) (by kernel_rfl) rfl rfl rfl rfl rfl ?_
  dsimp only [putL, setL, List.set_cons_zero, List.set_cons_succ, List.nil_append, List.cons_append]
  refine wk_move (.int .i64 0) rfl rfl rfl rfl ?_
  dsimp only [putL, setL, List.set_cons_zero, List.set_cons_succ, List.nil_append, List.cons_append]
  refine wk_iop (.int .i64 1) rfl rfl rfl rfl rfl rfl (by kernel_rfl) ?_
  dsimp only [putL, setL, List.set_cons_zero, List.set_cons_succ, List.nil_append, List.cons_append]
  refine wk_idx 1 1 rfl rfl rfl rfl rfl nunder (by kernel_rfl) rfl (by decide) ?_
  dsimp only [putL, setL, List.set_cons_zero, List.set_cons_succ, List.nil_append, List.cons_append]
  refine wk_digit 2 1 18446744073709551615 (by decide) (by kernel_rfl) rfl rfl rfl rfl rfl ?_
  dsimp only [putL, setL, List.set_cons_zero, List.set_cons_succ, List.nil_append, List.cons_append]
  refine wk_iop (.int .u64 13835058055282163712) rfl rfl rfl rfl rfl rfl (by kernel_rfl) ?_
  dsimp only [putL, setL, List.set_cons_zero, List.set_cons_succ, List.nil_append, List.cons_append]
  refine wk_iop (.int .u64 18446744072635809548) rfl rfl rfl rfl rfl rfl (by kernel_rfl) ?_
  dsimp only [putL, setL, List.set_cons_zero, List.set_cons_succ, List.nil_append, List.cons_append]
  refine wk_idx 0 1 rfl rfl rfl rfl rfl nunder (by kernel_rfl) rfl (by decide) ?_
  dsimp only [putL, setL, List.set_cons_zero, List.set_cons_succ, List.nil_append, List.cons_append]
  refine wk_stD 2 0 115792089237316195423570985008687907853269984665640564039457584007912055897868 rfl rfl rfl rfl rfl rfl (by kernel_rfl) (by decide) ?_
  dsimp only [putL, setL, List.set_cons_zero, List.set_cons_succ, List.nil_append, List.cons_append]
  refine wk_nil ?_
  refine sp_region (π := [0, 1]) [] rfl rfl ?_
  refine wk_iop (.int .i64 1) rfl rfl rfl rfl rfl rfl (by kernel_rfl) ?_
  dsimp only [putL, setL, List.set_cons_zero, List.set_cons_succ, List.nil_append, List.cons_append]
  refine wk_move (.int .i64 1) rfl rfl rfl rfl ?_
  dsimp only [putL, setL, List.set_cons_zero, List.set_cons_succ, List.nil_append, List.cons_append]
  refine wk_nil ?_
  refine un_step ?_
  refine sp_seq rfl ?_
  refine sp_region (π := [0]) [] rfl rfl ?_
  refine wk_iop (.bool true) rfl rfl rfl rfl rfl rfl (iop_lss_t (by decide)) ?_
  dsimp only [putL, setL, List.set_cons_zero, List.set_cons_succ, List.nil_append, List.cons_append]
  refine wk_nil ?_
  refine sp_seq rfl ?_
  refine sp_true rfl rfl ?_
  refine sp_skip rfl ?_
  refine sp_seq rfl ?_
  refine sp_block rfl ?_
  refine sp_seq rfl ?_
  refine sp_region (π := [0, 1]) [] rfl rfl ?_
  refine wk_move (.int .i64 1) rfl rfl rfl rfl ?_
  dsimp only [putL, setL, List.set_cons_zero, List.set_cons_succ, List.nil_append, List.cons_append]
  refine wk_assign (.int .i64 1) rfl rfl rfl rfl ?_
  dsimp only [putL, setL, List.set_cons_zero, List.set_cons_succ, List.nil_append, List.cons_append]
  refine wk_nil ?_
  refine sp_seq rfl ?_
  refine sp_region (π := [0, 1, 2, 3, 4, 5]) [] rfl rfl ?_
  refine wk_move (.int .i64 1) rfl rfl rfl rfl ?_
  dsimp only [putL, setL, List.set_cons_zero, List.set_cons_succ, List.nil_append, List.cons_append]
  refine wk_idx 1 1 rfl rfl rfl rfl rfl nunder (by kernel_rfl) rfl (by decide) ?_
  dsimp only [putL, setL, List.set_cons_zero, List.set_cons_succ, List.nil_append, List.cons_append]
  refine wk_digit 2 1 18446744073709551615 (by decide) (by kernel_rfl) rfl rfl rfl rfl rfl ?_
  dsimp only [putL, setL, List.set_cons_zero, List.set_cons_succ, List.nil_append, List.cons_append]
  refine wk_iop (.int .u64 4611686018427387903) rfl rfl rfl rfl rfl rfl (by kernel_rfl) ?_
  dsimp only [putL, setL, List.set_cons_zero, List.set_cons_succ, List.nil_append, List.cons_append]
  refine wk_idx 1 1 rfl rfl rfl rfl rfl nunder (by kernel_rfl) rfl (by decide) ?_
  dsimp only [putL, setL, List.set_cons_zero, List.set_cons_succ, List.nil_append, List.cons_append]
  refine wk_stD 2 1 115792089237316195423570985008687907853014772890449860191860053052338229739276 rfl rfl rfl rfl rfl rfl (by kernel_rfl) (by decide) ?_
  dsimp only [putL, setL, List.set_cons_zero, List.set_cons_succ, List.nil_append, List.cons_append]
  refine wk_nil ?_
  refine sp_seq rfl ?_
  refine sp_region (π := [0, 1, 2]) [] rfl rfl ?_
  refine wk_move (.int .i64 1) rfl rfl rfl rfl ?_
  dsimp only [putL, setL, List.set_cons_zero, List.set_cons_succ, List.nil_append, List.cons_append]
  refine wk_iop (.int .i64 2) rfl rfl rfl rfl rfl rfl (by kernel_rfl) ?_
  dsimp only [putL, setL, List.set_cons_zero, List.set_cons_succ, List.nil_append, List.cons_append]
  refine wk_iop (.bool true) rfl rfl rfl rfl rfl rfl (iop_lss_t (by decide)) ?_
  dsimp only [putL, setL, List.set_cons_zero, List.set_cons_succ, List.nil_append, List.cons_append]
  refine wk_nil ?_
  refine sp_true rfl rfl ?_
  refine sp_draw [0, 1, 2, 3, 4, 5, 6, 7, 8, 9, 10] [] mixed rfl (by kernel_rfl) (by kernel_rfl) ?_
  refine wk_move (.int .i64 1) rfl rfl rfl rfl ?_
  dsimp only [putL, setL, List.set_cons_zero, List.set_cons_succ, List.nil_append, List.cons_append]
  refine wk_idx 1 1 rfl rfl rfl rfl rfl nunder (by kernel_rfl) rfl (by decide) ?_
  dsimp only [putL, setL, List.set_cons_zero, List.set_cons_succ, List.nil_append, List.cons_append]
  refine wk_digit 2 1 4611686018427387903 (by decide) (by kernel_rfl) rfl rfl rfl rfl rfl ?_
  dsimp only [putL, setL, List.set_cons_zero, List.set_cons_succ, List.nil_append, List.cons_append]
  refine wk_move (.int .i64 1) rfl rfl rfl rfl ?_
  dsimp only [putL, setL, List.set_cons_zero, List.set_cons_succ, List.nil_append, List.cons_append]
  refine wk_iop (.int .i64 2) rfl rfl rfl rfl rfl rfl (by kernel_rfl) ?_
  dsimp only [putL, setL, List.set_cons_zero, List.set_cons_succ, List.nil_append, List.cons_append]
  refine wk_idx 2 1 rfl rfl rfl rfl rfl nunder (by kernel_rfl) rfl (by decide) ?_
  dsimp only [putL, setL, List.set_cons_zero, List.set_cons_succ, List.nil_append, List.cons_append]
  refine wk_digit 2 2 18446744073709551615 (by decide) (by kernel_rfl) rfl rfl rfl rfl rfl ?_
  dsimp only [putL, setL, List.set_cons_zero, List.set_cons_succ, List.nil_append, List.cons_append]
  refine wk_iop (.int .u64 13835058055282163712) rfl rfl rfl rfl rfl rfl (by kernel_rfl) ?_
  dsimp only [putL, setL, List.set_cons_zero, List.set_cons_succ, List.nil_append, List.cons_append]
  refine wk_iop (.int .u64 18446744073709551615) rfl rfl rfl rfl rfl rfl (by kernel_rfl) ?_
  dsimp only [putL, setL, List.set_cons_zero, List.set_cons_succ, List.nil_append, List.cons_append]
  refine wk_idx 1 1 rfl rfl rfl rfl rfl nunder (by kernel_rfl) rfl (by decide) ?_
  dsimp only [putL, setL, List.set_cons_zero, List.set_cons_succ, List.nil_append, List.cons_append]
  refine wk_stD 2 1 115792089237316195423570985008687907853269984665640564039457584007912055897868 rfl rfl rfl rfl rfl rfl (by kernel_rfl) (by decide) ?_
  dsimp only [putL, setL, List.set_cons_zero, List.set_cons_succ, List.nil_append, List.cons_append]
  refine wk_nil ?_
  refine sp_region (π := [0, 1]) [] rfl rfl ?_
  refine wk_iop (.int .i64 2) rfl rfl rfl rfl rfl rfl (by kernel_rfl) ?_
  dsimp only [putL, setL, List.set_cons_zero, List.set_cons_succ, List.nil_append, List.cons_append]
  refine wk_move (.int .i64 2) rfl rfl rfl rfl ?_
  dsimp only [putL, setL, List.set_cons_zero, List.set_cons_succ, List.nil_append, List.cons_append]
  refine wk_nil ?_
  refine un_step ?_
  refine sp_seq rfl ?_
  refine sp_region (π := [0]) [] rfl rfl ?_
  refine wk_iop (.bool true) rfl rfl rfl rfl rfl rfl (iop_lss_t (by decide)) ?_
  dsimp only [putL, setL, List.set_cons_zero, List.set_cons_succ, List.nil_append, List.cons_append]
  refine wk_nil ?_
  refine sp_seq rfl ?_
  refine sp_true rfl rfl ?_
  refine sp_skip rfl ?_
  refine sp_seq rfl ?_
  refine sp_block rfl ?_
  refine sp_seq rfl ?_
  refine sp_region (π := [0, 1]) [] rfl rfl ?_
  refine wk_move (.int .i64 2) rfl rfl rfl rfl ?_
  dsimp only [putL, setL, List.set_cons_zero, List.set_cons_succ, List.nil_append, List.cons_append]
  refine wk_assign (.int .i64 2) rfl rfl rfl rfl ?_
  dsimp only [putL, setL, List.set_cons_zero, List.set_cons_succ, List.nil_append, List.cons_append]
  refine wk_nil ?_
  refine sp_seq rfl ?_
  refine sp_region (π := [0, 1, 2, 3, 4, 5]) [] rfl rfl ?_
  refine wk_move (.int .i64 2) rfl rfl rfl rfl ?_
  dsimp only [putL, setL, List.set_cons_zero, List.set_cons_succ, List.nil_append, List.cons_append]
  refine wk_idx 2 1 rfl rfl rfl rfl rfl nunder (by kernel_rfl) rfl (by decide) ?_
  dsimp only [putL, setL, List.set_cons_zero, List.set_cons_succ, List.nil_append, List.cons_append]
  refine wk_digit 2 2 18446744073709551615 (by decide) (by kernel_rfl) rfl rfl rfl rfl rfl ?_
  dsimp only [putL, setL, List.set_cons_zero, List.set_cons_succ, List.nil_append, List.cons_append]
  refine wk_iop (.int .u64 4611686018427387903) rfl rfl rfl rfl rfl rfl (by kernel_rfl) ?_
  dsimp only [putL, setL, List.set_cons_zero, List.set_cons_succ, List.nil_append, List.cons_append]
  refine wk_idx 2 1 rfl rfl rfl rfl rfl nunder (by kernel_rfl) rfl (by decide) ?_
  dsimp only [putL, setL, List.set_cons_zero, List.set_cons_succ, List.nil_append, List.cons_append]
  refine wk_stD 2 2 115792089237316195418863158707147897280393142598234814227380817424564030013196 rfl rfl rfl rfl rfl rfl (by kernel_rfl) (by decide) ?_
  dsimp only [putL, setL, List.set_cons_zero, List.set_cons_succ, List.nil_append, List.cons_append]
  refine wk_nil ?_
  refine sp_seq rfl ?_
  refine sp_region (π := [0, 1, 2]) [] rfl rfl ?_
  refine wk_move (.int .i64 2) rfl rfl rfl rfl ?_
  dsimp only [putL, setL, List.set_cons_zero, List.set_cons_succ, List.nil_append, List.cons_append]
  refine wk_iop (.int .i64 3) rfl rfl rfl rfl rfl rfl (by kernel_rfl) ?_
  dsimp only [putL, setL, List.set_cons_zero, List.set_cons_succ, List.nil_append, List.cons_append]
  refine wk_iop (.bool true) rfl rfl rfl rfl rfl rfl (iop_lss_t (by decide)) ?_
  dsimp only [putL, setL, List.set_cons_zero, List.set_cons_succ, List.nil_append, List.cons_append]
  refine wk_nil ?_
  refine sp_true rfl rfl ?_
  refine sp_draw [0, 1, 2, 3, 4, 5, 6, 7, 8, 9, 10] [] mixed rfl (by kernel_rfl) (by kernel_rfl) ?_
  refine wk_move (.int .i64 2) rfl rfl rfl rfl ?_
  dsimp only [putL, setL, List.set_cons_zero, List.set_cons_succ, List.nil_append, List.cons_append]
  refine wk_idx 2 1 rfl rfl rfl rfl rfl nunder (by kernel_rfl) rfl (by decide) ?_
  dsimp only [putL, setL, List.set_cons_zero, List.set_cons_succ, List.nil_append, List.cons_append]
  refine wk_digit 2 2 4611686018427387903 (by decide) (by kernel_rfl) rfl rfl rfl rfl rfl ?_
  dsimp only [putL, setL, List.set_cons_zero, List.set_cons_succ, List.nil_append, List.cons_append]
  refine wk_move (.int .i64 2) rfl rfl rfl rfl ?_
  dsimp only [putL, setL, List.set_cons_zero, List.set_cons_succ, List.nil_append, List.cons_append]
  refine wk_iop (.int .i64 3) rfl rfl rfl rfl rfl rfl (by kernel_rfl) ?_
  dsimp only [putL, setL, List.set_cons_zero, List.set_cons_succ, List.nil_append, List.cons_append]
  refine wk_idx 3 1 rfl rfl rfl rfl rfl nunder (by kernel_rfl) rfl (by decide) ?_
  dsimp only [putL, setL, List.set_cons_zero, List.set_cons_succ, List.nil_append, List.cons_append]
  refine wk_digit 2 3 18446744073709551615 (by decide) (by kernel_rfl) rfl rfl rfl rfl rfl ?_
  dsimp only [putL, setL, List.set_cons_zero, List.set_cons_succ, List.nil_append, List.cons_append]
  refine wk_iop (.int .u64 13835058055282163712) rfl rfl rfl rfl rfl rfl (by kernel_rfl) ?_
  dsimp only [putL, setL, List.set_cons_zero, List.set_cons_succ, List.nil_append, List.cons_append]
  refine wk_iop (.int .u64 18446744073709551615) rfl rfl rfl rfl rfl rfl (by kernel_rfl) ?_
  dsimp only [putL, setL, List.set_cons_zero, List.set_cons_succ, List.nil_append, List.cons_append]
  refine wk_idx 2 1 rfl rfl rfl rfl rfl nunder (by kernel_rfl) rfl (by decide) ?_
  dsimp only [putL, setL, List.set_cons_zero, List.set_cons_succ, List.nil_append, List.cons_append]
  refine wk_stD 2 2 115792089237316195423570985008687907853269984665640564039457584007912055897868 rfl rfl rfl rfl rfl rfl (by kernel_rfl) (by decide) ?_
  dsimp only [putL, setL, List.set_cons_zero, List.set_cons_succ, List.nil_append, List.cons_append]
  refine wk_nil ?_
  refine sp_region (π := [0, 1]) [] rfl rfl ?_
  refine wk_iop (.int .i64 3) rfl rfl rfl rfl rfl rfl (by kernel_rfl) ?_
  dsimp only [putL, setL, List.set_cons_zero, List.set_cons_succ, List.nil_append, List.cons_append]
  refine wk_move (.int .i64 3) rfl rfl rfl rfl ?_
  dsimp only [putL, setL, List.set_cons_zero, List.set_cons_succ, List.nil_append, List.cons_append]
  refine wk_nil ?_
  refine un_step ?_
  refine sp_seq rfl ?_
  refine sp_region (π := [0]) [] rfl rfl ?_
  refine wk_iop (.bool true) rfl rfl rfl rfl rfl rfl (iop_lss_t (by decide)) ?_
  dsimp only [putL, setL, List.set_cons_zero, List.set_cons_succ, List.nil_append, List.cons_append]
  refine wk_nil ?_
  refine sp_seq rfl ?_
  refine sp_true rfl rfl ?_
  refine sp_skip rfl ?_
  refine sp_seq rfl ?_
  refine sp_block rfl ?_
  refine sp_seq rfl ?_
  refine sp_region (π := [0, 1]) [] rfl rfl ?_
  refine wk_move (.int .i64 3) rfl rfl rfl rfl ?_
  dsimp only [putL, setL, List.set_cons_zero, List.set_cons_succ, List.nil_append, List.cons_append]
  refine wk_assign (.int .i64 3) rfl rfl rfl rfl ?_
  dsimp only [putL, setL, List.set_cons_zero, List.set_cons_succ, List.nil_append, List.cons_append]
  refine wk_nil ?_
  refine sp_seq rfl ?_
  refine sp_region (π := [0, 1, 2, 3, 4, 5]) [] rfl rfl ?_
  refine wk_move (.int .i64 3) rfl rfl rfl rfl ?_
  dsimp only [putL, setL, List.set_cons_zero, List.set_cons_succ, List.nil_append, List.cons_append]
  refine wk_idx 3 1 rfl rfl rfl rfl rfl nunder (by kernel_rfl) rfl (by decide) ?_
  dsimp only [putL, setL, List.set_cons_zero, List.set_cons_succ, List.nil_append, List.cons_append]
  refine wk_digit 2 3 18446744073709551615 (by decide) (by kernel_rfl) rfl rfl rfl rfl rfl ?_
  dsimp only [putL, setL, List.set_cons_zero, List.set_cons_succ, List.nil_append, List.cons_append]
  refine wk_iop (.int .u64 4611686018427387903) rfl rfl rfl rfl rfl rfl (by kernel_rfl) ?_
  dsimp only [putL, setL, List.set_cons_zero, List.set_cons_succ, List.nil_append, List.cons_append]
  refine wk_idx 3 1 rfl rfl rfl rfl rfl nunder (by kernel_rfl) rfl (by decide) ?_
  dsimp only [putL, setL, List.set_cons_zero, List.set_cons_succ, List.nil_append, List.cons_append]
  refine wk_stD 2 3 28948022309329048855892746252171976963317496166410141009864396001977208667916 rfl rfl rfl rfl rfl rfl (by kernel_rfl) (by decide) ?_
  dsimp only [putL, setL, List.set_cons_zero, List.set_cons_succ, List.nil_append, List.cons_append]
  refine wk_nil ?_
  refine sp_seq rfl ?_
  refine sp_region (π := [0, 1, 2]) [] rfl rfl ?_
  refine wk_move (.int .i64 3) rfl rfl rfl rfl ?_
  dsimp only [putL, setL, List.set_cons_zero, List.set_cons_succ, List.nil_append, List.cons_append]
  refine wk_iop (.int .i64 4) rfl rfl rfl rfl rfl rfl (by kernel_rfl) ?_
  dsimp only [putL, setL, List.set_cons_zero, List.set_cons_succ, List.nil_append, List.cons_append]
  refine wk_iop (.bool false) rfl rfl rfl rfl rfl rfl (iop_lss_f (by decide)) ?_
  dsimp only [putL, setL, List.set_cons_zero, List.set_cons_succ, List.nil_append, List.cons_append]
  refine wk_nil ?_
  refine sp_false rfl rfl ?_
  refine sp_skip rfl ?_
  refine sp_region (π := [0, 1]) [] rfl rfl ?_
  refine wk_iop (.int .i64 4) rfl rfl rfl rfl rfl rfl (by kernel_rfl) ?_
  dsimp only [putL, setL, List.set_cons_zero, List.set_cons_succ, List.nil_append, List.cons_append]
  refine wk_move (.int .i64 4) rfl rfl rfl rfl ?_
  dsimp only [putL, setL, List.set_cons_zero, List.set_cons_succ, List.nil_append, List.cons_append]
  refine wk_nil ?_
  refine un_step ?_
  refine sp_seq rfl ?_
  refine sp_region (π := [0]) [] rfl rfl ?_
  refine wk_iop (.bool false) rfl rfl rfl rfl rfl rfl (iop_lss_f (by decide)) ?_
  dsimp only [putL, setL, List.set_cons_zero, List.set_cons_succ, List.nil_append, List.cons_append]
  refine wk_nil ?_
  refine sp_seq rfl ?_
  refine sp_false rfl rfl ?_
  refine sp_exit rfl ?_
  refine sp_seq rfl ?_
  refine sp_region (π := [0, 1, 2, 3, 4]) [] rfl rfl ?_
  refine wk_ldN 0 rfl rfl rfl rfl rfl ?_
  dsimp only [putL, setL, List.set_cons_zero, List.set_cons_succ, List.nil_append, List.cons_append]
  refine wk_ldN 2 rfl rfl rfl rfl rfl ?_
  dsimp only [putL, setL, List.set_cons_zero, List.set_cons_succ, List.nil_append, List.cons_append]
  refine wk_call [(.int .i64 0), (numV a), (numV 28948022309329048855892746252171976963317496166410141009864396001977208667916)] (numV (rootX a)) rfl rfl rfl (enters_of Try.func55 (by kernel_rfl) (by kernel_rfl)) rfl (fpow_ok 0 a rootE ok0 ha (by decide)) ?_
  dsimp only [putL, setL, List.set_cons_zero, List.set_cons_succ, List.nil_append, List.cons_append]
  refine wk_newN rfl rfl fun β4 => ?_
  dsimp only [putL, setL, List.set_cons_zero, List.set_cons_succ, List.nil_append, List.cons_append]
  refine wk_stN 3 (rootX a) rfl rfl rfl rfl rfl rfl ?_
  dsimp only [putL, setL, List.set_cons_zero, List.set_cons_succ, List.nil_append, List.cons_append]
  refine wk_nil ?_
  refine sp_seq rfl ?_
  refine sp_seq rfl ?_
  refine sp_draw [0, 1, 3, 2, 4, 5] [] mixed rfl (by kernel_rfl) (by kernel_rfl) ?_
  refine wk_ldN 3 rfl rfl rfl rfl rfl ?_
  dsimp only [putL, setL, List.set_cons_zero, List.set_cons_succ, List.nil_append, List.cons_append]
  refine wk_ldN 3 rfl rfl rfl rfl rfl ?_
  dsimp only [putL, setL, List.set_cons_zero, List.set_cons_succ, List.nil_append, List.cons_append]
  refine wk_ldN 0 rfl rfl rfl rfl rfl ?_
  dsimp only [putL, setL, List.set_cons_zero, List.set_cons_succ, List.nil_append, List.cons_append]
  refine wk_call [(.int .i64 0), (numV (rootX a)), (numV (rootX a))] (numV (rootX a * rootX a % modW 0)) rfl rfl rfl (enters_of Try.func51 (by kernel_rfl) (by kernel_rfl)) rfl (fmul_ok 0 (rootX a) (rootX a) ok0 (rootX_lt a) (rootX_lt a)) ?_
  dsimp only [putL, setL, List.set_cons_zero, List.set_cons_succ, List.nil_append, List.cons_append]
  refine wk_call [(.int .i64 0), (numV a)] (numV (a % modW 0)) rfl rfl rfl (enters_of Try.func45 (by kernel_rfl) (by kernel_rfl)) rfl (red_ok 0 a ok0 ha) ?_
  dsimp only [putL, setL, List.set_cons_zero, List.set_cons_succ, List.nil_append, List.cons_append]
  refine wk_neN false rfl rfl rfl rfl rfl (Nat.lt_trans (Nat.mod_lt _ (modW_pos ok0)) (modW_lt 0)) (Nat.lt_trans (Nat.mod_lt _ (modW_pos ok0)) (modW_lt 0)) (decide_eq_true hr) ?_
  dsimp only [putL, setL, List.set_cons_zero, List.set_cons_succ, List.nil_append, List.cons_append]
  refine wk_nil ?_
  refine sp_false rfl rfl ?_
  refine sp_skip rfl ?_
  refine sp_seq rfl ?_
  refine sp_seq rfl ?_
  refine sp_region (π := [0, 1, 2, 3]) [] rfl rfl ?_
  refine wk_idx 0 1 rfl rfl rfl rfl rfl nunder (by kernel_rfl) rfl (by decide) ?_
  dsimp only [putL, setL, List.set_cons_zero, List.set_cons_succ, List.nil_append, List.cons_append]
  refine wk_digit 3 0 ((dg (rootX a) 0 : Nat) : Int) (by decide) rfl rfl rfl rfl rfl rfl ?_
  dsimp only [putL, setL, List.set_cons_zero, List.set_cons_succ, List.nil_append, List.cons_append]
  refine wk_iop (.int .u64 (((rootX a) % 2 : Nat) : Int)) rfl rfl rfl rfl rfl rfl (iop_and1 (rootX a)) ?_
  dsimp only [putL, setL, List.set_cons_zero, List.set_cons_succ, List.nil_append, List.cons_append]
  by_cases hc5 : (((rootX a) % 2 : Nat) : Int) = 1
  · skip
    refine wk_iop (.bool true) rfl rfl rfl rfl rfl rfl (iop_eql_t hc5) ?_
    dsimp only [putL, setL, List.set_cons_zero, List.set_cons_succ, List.nil_append, List.cons_append]
    refine wk_nil ?_
    refine sp_true rfl rfl ?_
    refine sp_region (π := [0, 1, 2, 3]) [] rfl rfl ?_
    refine wk_val (numV 0) rfl rfl rfl (fun w => by kernel_rfl) ?_
    dsimp only [putL, setL, List.set_cons_zero, List.set_cons_succ, List.nil_append, List.cons_append]
    refine wk_ldN 3 rfl rfl rfl rfl rfl ?_
    dsimp only [putL, setL, List.set_cons_zero, List.set_cons_succ, List.nil_append, List.cons_append]
    refine wk_call [(.int .i64 0), (numV 0), (numV (rootX a))] (numV (subM (modW 0) 0 (rootX a))) rfl rfl rfl (enters_of Try.func49 (by kernel_rfl) (by kernel_rfl)) rfl (fsub_ok 0 0 (rootX a) ok0 W256_pos (rootX_lt a)) ?_
    dsimp only [putL, setL, List.set_cons_zero, List.set_cons_succ, List.nil_append, List.cons_append]
    refine wk_stN 3 (subM (modW 0) 0 (rootX a)) rfl rfl rfl rfl rfl rfl ?_
    dsimp only [putL, setL, List.set_cons_zero, List.set_cons_succ, List.nil_append, List.cons_append]
    refine wk_nil ?_
    refine sp_seq rfl ?_
    refine sp_region (π := [0, 1, 2]) [] rfl rfl ?_
    refine wk_ldN 3 rfl rfl rfl rfl rfl ?_
    dsimp only [putL, setL, List.set_cons_zero, List.set_cons_succ, List.nil_append, List.cons_append]
    refine wk_stN 1 (subM (modW 0) 0 (rootX a)) rfl rfl rfl rfl rfl rfl ?_
    dsimp only [putL, setL, List.set_cons_zero, List.set_cons_succ, List.nil_append, List.cons_append]
    refine wk_assign (.bool true) rfl rfl rfl rfl ?_
    dsimp only [putL, setL, List.set_cons_zero, List.set_cons_succ, List.nil_append, List.cons_append]
    refine wk_nil ?_
    refine sp_ret rfl ?_
    exact ret_numCT 1 rfl rfl rfl rfl fun w' hw => ⟨by unfold rootV; rw [if_pos (by omega)]; rfl, hw.below⟩
  · skip
    refine wk_iop (.bool false) rfl rfl rfl rfl rfl rfl (iop_eql_f hc5) ?_
    dsimp only [putL, setL, List.set_cons_zero, List.set_cons_succ, List.nil_append, List.cons_append]
    refine wk_nil ?_
    refine sp_false rfl rfl ?_
    refine sp_skip rfl ?_
    refine sp_seq rfl ?_
    refine sp_region (π := [0, 1, 2]) [] rfl rfl ?_
    refine wk_ldN 3 rfl rfl rfl rfl rfl ?_
    dsimp only [putL, setL, List.set_cons_zero, List.set_cons_succ, List.nil_append, List.cons_append]
    refine wk_stN 1 (rootX a) rfl rfl rfl rfl rfl rfl ?_
    dsimp only [putL, setL, List.set_cons_zero, List.set_cons_succ, List.nil_append, List.cons_append]
    refine wk_assign (.bool true) rfl rfl rfl rfl ?_
    dsimp only [putL, setL, List.set_cons_zero, List.set_cons_succ, List.nil_append, List.cons_append]
    refine wk_nil ?_
    refine sp_ret rfl ?_
    exact ret_numCT 1 rfl rfl rfl rfl fun w' hw => ⟨by unfold rootV; rw [if_neg (by omega)]; rfl, hw.below⟩

set_option maxRecDepth 20000 in
set_option maxHeartbeats 400000 in
theorem root_no (a : Nat) (ha : a < W256) (hr : ¬ rootX a * rootX a % modW 0 = a % modW 0) (w : World) : Calls Try.prog 54 #[numV a] w fun r w' => r = .returned (.tuple #[numV 0, .bool false]) ∧ Below w.heap.size w w' := by
  refine fn_calls (l0 := [(numV a), undef, undef, undef, undef, undef, undef, undef, undef, undef, undef, undef, undef, undef, undef, undef, undef, undef, undef, undef, undef, undef, undef, undef, undef, undef, undef, undef, undef, undef, undef, undef, undef, undef, undef, undef, undef, undef, undef, undef, undef, undef, undef, undef, undef, undef, undef, undef, undef, undef, undef, undef, undef, undef]) Try.func54 rfl rfl [] (St.start w) ?_
  refine sp_seq rfl ?_
  refine sp_region (π := [0, 1, 2]) [] rfl rfl ?_
  refine wk_boxN a rfl rfl rfl fun β1 => ?_
  dsimp only [putL, setL, List.set_cons_zero, List.set_cons_succ, List.nil_append, List.cons_append]
  refine wk_newN rfl rfl fun β2 => ?_
  dsimp only [putL, setL, List.set_cons_zero, List.set_cons_succ, List.nil_append, List.cons_append]
  refine wk_assign (.bool false) rfl rfl rfl rfl ?_
  dsimp only [putL, setL, List.set_cons_zero, List.set_cons_succ, List.nil_append, List.cons_append]
  refine wk_nil ?_
  refine sp_seq rfl ?_
  refine sp_region (π := [0, 1, 2, 3, 4, 5, 6, 7, 8]) [] rfl rfl ?_
  refine wk_call [(.int .i64 0)] (numV 115792089237316195423570985008687907853269984665640564039457584007908834671663) rfl rfl rfl (enters_of Try.func43 (by kernel_rfl) (by kernel_rfl)) rfl (conv rfl (prime_ok 0 ok0)) ?_
  dsimp only [putL, setL, List.set_cons_zero, List.set_cons_succ, List.nil_append, List.cons_append]
  refine wk_val (numV 1) rfl rfl rfl (fun w => by kernel_rfl) ?_
  dsimp only [putL, setL, List.set_cons_zero, List.set_cons_succ, List.nil_append, List.cons_append]
  refine wk_call [(numV 115792089237316195423570985008687907853269984665640564039457584007908834671663), (numV 1)] (.tuple #[(numV 115792089237316195423570985008687907853269984665640564039457584007908834671664), (.int .u64 0)]) rfl rfl rfl (enters_of Try.func29 (by kernel_rfl) (by kernel_rfl)) rfl (conv (by kernel_rfl) (add_calls 115792089237316195423570985008687907853269984665640564039457584007908834671663 1 (by decide) (by decide))) ?_
  dsimp only [putL, setL, List.set_cons_zero, List.set_cons_succ, List.nil_append, List.cons_append]
  refine wk_move (.tuple #[(numV 115792089237316195423570985008687907853269984665640564039457584007908834671664), (.int .u64 0)]) rfl rfl rfl rfl ?_
  dsimp only [putL, setL, List.set_cons_zero, List.set_cons_succ, List.nil_append, List.cons_append]
  refine wk_ext (numV 115792089237316195423570985008687907853269984665640564039457584007908834671664) rfl rfl rfl rfl rfl ?_
  dsimp only [putL, setL, List.set_cons_zero, List.set_cons_succ, List.nil_append, List.cons_append]
  refine wk_ext (.int .u64 0) rfl rfl rfl rfl rfl ?_
  dsimp only [putL, setL, List.set_cons_zero, List.set_cons_succ, List.nil_append, List.cons_append]
  refine wk_newN rfl rfl fun β3 => ?_
  dsimp only [putL, setL, List.set_cons_zero, List.set_cons_succ, List.nil_append, List.cons_append]
  refine wk_stN 2 115792089237316195423570985008687907853269984665640564039457584007908834671664 rfl rfl rfl rfl rfl rfl ?_
  dsimp only [putL, setL, List.set_cons_zero, List.set_cons_succ, List.nil_append, List.cons_append]
  refine wk_assign (.int .u64 0) rfl rfl rfl rfl ?_
  dsimp only [putL, setL, List.set_cons_zero, List.set_cons_succ, List.nil_append, List.cons_append]
  refine wk_nil ?_
  refine sp_seq rfl ?_
  refine sp_seq rfl ?_
  refine sp_region (π := [0]) [] rfl rfl ?_
  refine wk_move (.int .i64 0) rfl rfl rfl rfl ?_
  dsimp only [putL, setL, List.set_cons_zero, List.set_cons_succ, List.nil_append, List.cons_append]
  refine wk_nil ?_
  refine sp_block rfl ?_
  refine sp_unroll 5 rfl ?_
  refine un_step ?_
  refine sp_seq rfl ?_
  refine sp_region (π := [0]) [] rfl rfl ?_
  refine wk_iop (.bool true) rfl rfl rfl rfl rfl rfl (iop_lss_t (by decide)) ?_
  dsimp only [putL, setL, List.set_cons_zero, List.set_cons_succ, List.nil_append, List.cons_append]
  refine wk_nil ?_
  refine sp_seq rfl ?_
  refine sp_true rfl rfl ?_
  refine sp_skip rfl ?_
  refine sp_seq rfl ?_
  refine sp_block rfl ?_
  refine sp_seq rfl ?_
  refine sp_region (π := [0, 1]) [] rfl rfl ?_
  refine wk_move (.int .i64 0) rfl rfl rfl rfl ?_
  dsimp only [putL, setL, List.set_cons_zero, List.set_cons_succ, List.nil_append, List.cons_append]
  refine wk_assign (.int .i64 0) rfl rfl rfl rfl ?_
  dsimp only [putL, setL, List.set_cons_zero, List.set_cons_succ, List.nil_append, List.cons_append]
  refine wk_nil ?_
  refine sp_seq rfl ?_
  refine sp_region (π := [0, 1, 2, 3, 4, 5]) [] rfl rfl ?_
  refine wk_move (.int .i64 0) rfl rfl rfl rfl ?_
  dsimp only [putL, setL, List.set_cons_zero, List.set_cons_succ, List.nil_append, List.cons_append]
  refine wk_idx 0 1 rfl rfl rfl rfl rfl nunder (by kernel_rfl) rfl (by decide) ?_
  dsimp only [putL, setL, List.set_cons_zero, List.set_cons_succ, List.nil_append, List.cons_append]
  refine wk_digit 2 0 18446744069414583344 (by decide) (by kernel_rfl) rfl rfl rfl rfl rfl ?_
  dsimp only [putL, setL, List.set_cons_zero, List.set_cons_succ, List.nil_append, List.cons_append]
  refine wk_iop (.int .u64 4611686017353645836) rfl rfl rfl rfl rfl rfl (by kernel_rfl) ?_
  dsimp only [putL, setL, List.set_cons_zero, List.set_cons_succ, List.nil_append, List.cons_append]
  refine wk_idx 0 1 rfl rfl rfl rfl rfl nunder (by kernel_rfl) rfl (by decide) ?_
  dsimp only [putL, setL, List.set_cons_zero, List.set_cons_succ, List.nil_append, List.cons_append]
  refine wk_stD 2 0 115792089237316195423570985008687907853269984665640564039443748949856773734156 rfl rfl rfl rfl rfl rfl (by kernel_rfl) (by decide) ?_
  dsimp only [putL, setL, List.set_cons_zero, List.set_cons_succ, List.nil_append, List.cons_append]
  refine wk_nil ?_
  refine sp_seq rfl ?_
  refine sp_region (π := [0, 1, 2]) [] rfl rfl ?_
  refine wk_move (.int .i64 0) rfl rfl rfl rfl ?_
  dsimp only [putL, setL, List.set_cons_zero, List.set_cons_succ, List.nil_append, List.cons_append]
  refine wk_iop (.int .i64 1) rfl rfl rfl rfl rfl rfl (by kernel_rfl) ?_
  dsimp only [putL, setL, List.set_cons_zero, List.set_cons_succ, List.nil_append, List.cons_append]
  refine wk_iop (.bool true) rfl rfl rfl rfl rfl rfl (iop_lss_t (by decide)) ?_
  dsimp only [putL, setL, List.set_cons_zero, List.set_cons_succ, List.nil_append, List.cons_append]
  refine wk_nil ?_
  refine sp_true rfl rfl ?_
  refine sp_draw [0, 1, 2, 3, 4, 5, 6, 7, 8, 9, 10] [] mixed rfl (by kernel_rfl) (by kernel_rfl) ?_
  refine wk_move (.int .i64 0) rfl rfl rfl rfl ?_
  dsimp only [putL, setL, List.set_cons_zero, List.set_cons_succ, List.nil_append, List.cons_append]
  refine wk_idx 0 1 rfl rfl rfl rfl rfl nunder (by kernel_rfl) rfl (by decide) ?_
  dsimp only [putL, setL, List.set_cons_zero, List.set_cons_succ, List.nil_append, List.cons_append]
  refine wk_digit 2 0 4611686017353645836 (by decide) (by kernel_rfl) rfl rfl rfl rfl rfl ?_
  dsimp only [putL, setL, List.set_cons_zero, List.set_cons_succ, List.nil_append, List.cons_append]
  refine wk_move (.int .i64 0) rfl rfl rfl rfl ?_
  dsimp only [putL, setL, List.set_cons_zero, List.set_cons_succ, List.nil_append, List.cons_append]
  refine wk_iop (.int .i64 1) rfl rfl rfl rfl rfl rfl (by kernel_rfl) ?_
  dsimp only [putL, setL, List.set_cons_zero, List.set_cons_succ, List.nil_append, List.cons_append]
  refine wk_idx 1 1 rfl rfl rfl rfl rfl nunder (by kernel_rfl) rfl (by decide) ?_
  dsimp only [putL, setL, List.set_cons_zero, List.set_cons_succ, List.nil_append, List.cons_append]
  refine wk_digit 2 1 18446744073709551615 (by decide) (by kernel_rfl) rfl rfl rfl rfl rfl ?_
  dsimp only [putL, setL, List.set_cons_zero, List.set_cons_succ, List.nil_append, List.cons_append]
  refine wk_iop (.int .u64 13835058055282163712) rfl rfl rfl rfl rfl rfl (by kernel_rfl) ?_
  dsimp only [putL, setL, List.set_cons_zero, List.set_cons_succ, List.nil_append, List.cons_append]
  refine wk_iop (.int .u64 18446744072635809548) rfl rfl rfl rfl rfl rfl (by kernel_rfl) ?_
  dsimp only [putL, setL, List.set_cons_zero, List.set_cons_succ, List.nil_append, List.cons_append]
  refine wk_idx 0 1 rfl rfl rfl rfl rfl nunder (by kernel_rfl) rfl (by decide) ?_
  dsimp only [putL, setL, List.set_cons_zero, List.set_cons_succ, List.nil_append, List.cons_append]
  refine wk_stD 2 0 115792089237316195423570985008687907853269984665640564039457584007912055897868 rfl rfl rfl rfl rfl rfl (by kernel_rfl) (by decide) ?_
  dsimp only [putL, setL, List.set_cons_zero, List.set_cons_succ, List.nil_append, List.cons_append]
  refine wk_nil ?_
  refine sp_region (π := [0, 1]) [] rfl rfl ?_
  refine wk_iop (.int .i64 1) rfl rfl rfl rfl rfl rfl (by kernel_rfl) ?_
  dsimp only [putL, setL, List.set_cons_zero, List.set_cons_succ, List.nil_append, List.cons_append]
  refine wk_move (.int .i64 1) rfl rfl rfl rfl ?_
  dsimp only [putL, setL, List.set_cons_zero, List.set_cons_succ, List.nil_append, List.cons_append]
  refine wk_nil ?_
  refine un_step ?_
  refine sp_seq rfl ?_
  refine sp_region (π := [0]) [] rfl rfl ?_
  refine wk_iop (.bool true) rfl rfl rfl rfl rfl rfl (iop_lss_t (by decide)) ?_
  dsimp only [putL, setL, List.set_cons_zero, List.set_cons_succ, List.nil_append, List.cons_append]
  refine wk_nil ?_
  refine sp_seq rfl ?_
  refine sp_true rfl rfl ?_
  refine sp_skip rfl ?_
  refine sp_seq rfl ?_
  refine sp_block rfl ?_
  refine sp_seq rfl ?_
  refine sp_region (π := [0, 1]) [] rfl rfl ?_
  refine wk_move (.int .i64 1) rfl rfl rfl rfl ?_
  dsimp only [putL, setL, List.set_cons_zero, List.set_cons_succ, List.nil_append, List.cons_append]
  refine wk_assign (.int .i64 1) rfl rfl rfl rfl ?_
  dsimp only [putL, setL, List.set_cons_zero, List.set_cons_succ, List.nil_append, List.cons_append]
  refine wk_nil ?_
  refine sp_seq rfl ?_
  refine sp_region (π := [0, 1, 2, 3, 4, 5]) [] rfl rfl ?_
  refine wk_move (.int .i64 1) rfl rfl rfl rfl ?_
  dsimp only [putL, setL, List.set_cons_zero, List.set_cons_succ, List.nil_append, List.cons_append]
  refine wk_idx 1 1 rfl rfl rfl rfl rfl nunder (by kernel_rfl) rfl (by decide) ?_
  dsimp only [putL, setL, List.set_cons_zero, List.set_cons_succ, List.nil_append, List.cons_append]
  refine wk_digit 2 1 18446744073709551615 (by decide) (by kernel_rfl) rfl rfl rfl rfl rfl ?_
  dsimp only [putL, setL, List.set_cons_zero, List.set_cons_succ, List.nil_append, List.cons_append]
  refine wk_iop (.int .u64 4611686018427387903) rfl rfl rfl rfl rfl rfl (by kernel_rfl) ?_
  dsimp only [putL, setL, List.set_cons_zero, List.set_cons_succ, List.nil_append, List.cons_append]
  refine wk_idx 1 1 rfl rfl rfl rfl rfl nunder (by kernel_rfl) rfl (by decide) ?_
  dsimp only [putL, setL, List.set_cons_zero, List.set_cons_succ, List.nil_append, List.cons_append]
  refine wk_stD 2 1 115792089237316195423570985008687907853014772890449860191860053052338229739276 rfl rfl rfl rfl rfl rfl (by kernel_rfl) (by decide) ?_
  dsimp only [putL, setL, List.set_cons_zero, List.set_cons_succ, List.nil_append, List.cons_append]
  refine wk_nil ?_
  refine sp_seq rfl ?_
  refine sp_region (π := [0, 1, 2]) [] rfl rfl ?_
  refine wk_move (.int .i64 1) rfl rfl rfl rfl ?_
  dsimp only [putL, setL, List.set_cons_zero, List.set_cons_succ, List.nil_append, List.cons_append]
  refine wk_iop (.int .i64 2) rfl rfl rfl rfl rfl rfl (by kernel_rfl) ?_
  dsimp only [putL, setL, List.set_cons_zero, List.set_cons_succ, List.nil_append, List.cons_append]
  refine wk_iop (.bool true) rfl rfl rfl rfl rfl rfl (iop_lss_t (by decide)) ?_
  dsimp only [putL, setL, List.set_cons_zero, List.set_cons_succ, List.nil_append, List.cons_append]
  refine wk_nil ?_
  refine sp_true rfl rfl ?_
  refine sp_draw [0, 1, 2, 3, 4, 5, 6, 7, 8, 9, 10] [] mixed rfl (by kernel_rfl) (by kernel_rfl) ?_
  refine wk_move (.int .i64 1) rfl rfl rfl rfl ?_
  dsimp only [putL, setL, List.set_cons_zero, List.set_cons_succ, List.nil_append, List.cons_append]
  refine wk_idx 1 1 rfl rfl rfl rfl rfl nunder (by kernel_rfl) rfl (by decide) ?_
  dsimp only [putL, setL, List.set_cons_zero, List.set_cons_succ, List.nil_append, List.cons_append]
  refine wk_digit 2 1 4611686018427387903 (by decide) (by kernel_rfl) rfl rfl rfl rfl rfl ?_
  dsimp only [putL, setL, List.set_cons_zero, List.set_cons_succ, List.nil_append, List.cons_append]
  refine wk_move (.int .i64 1) rfl rfl rfl rfl ?_
  dsimp only [putL, setL, List.set_cons_zero, List.set_cons_succ, List.nil_append, List.cons_append]
  refine wk_iop (.int .i64 2) rfl rfl rfl rfl rfl rfl (by kernel_rfl) ?_
  dsimp only [putL, setL, List.set_cons_zero, List.set_cons_succ, List.nil_append, List.cons_append]
  refine wk_idx 2 1 rfl rfl rfl rfl rfl nunder (by kernel_rfl) rfl (by decide) ?_
  dsimp only [putL, setL, List.set_cons_zero, List.set_cons_succ, List.nil_append, List.cons_append]
  refine wk_digit 2 2 18446744073709551615 (by decide) (by kernel_rfl) rfl rfl rfl rfl rfl ?_
  dsimp only [putL, setL, List.set_cons_zero, List.set_cons_succ, List.nil_append, List.cons_append]
  refine wk_iop (.int .u64 13835058055282163712) rfl rfl rfl rfl rfl rfl (by kernel_rfl) ?_
  dsimp only [putL, setL, List.set_cons_zero, List.set_cons_succ, List.nil_append, List.cons_append]
  refine wk_iop (.int .u64 18446744073709551615) rfl rfl rfl rfl rfl rfl (by kernel_rfl) ?_
  dsimp only [putL, setL, List.set_cons_zero, List.set_cons_succ, List.nil_append, List.cons_append]
  refine wk_idx 1 1 rfl rfl rfl rfl rfl nunder (by kernel_rfl) rfl (by decide) ?_
  dsimp only [putL, setL, List.set_cons_zero, List.set_cons_succ, List.nil_append, List.cons_append]
  refine wk_stD 2 1 115792089237316195423570985008687907853269984665640564039457584007912055897868 rfl rfl rfl rfl rfl rfl (by kernel_rfl) (by decide) ?_
  dsimp only [putL, setL, List.set_cons_zero, List.set_cons_succ, List.nil_append, List.cons_append]
  refine wk_nil ?_
  refine sp_region (π := [0, 1]) [] rfl rfl ?_
  refine wk_iop (.int .i64 2) rfl rfl rfl rfl rfl rfl (by kernel_rfl) ?_
  dsimp only [putL, setL, List.set_cons_zero, List.set_cons_succ, List.nil_append, List.cons_append]
  refine wk_move (.int .i64 2) rfl rfl rfl rfl ?_
  dsimp only [putL, setL, List.set_cons_zero, List.set_cons_succ, List.nil_append, List.cons_append]
  refine wk_nil ?_
  refine un_step ?_
  refine sp_seq rfl ?_
  refine sp_region (π := [0]) [] rfl rfl ?_
  refine wk_iop (.bool true) rfl rfl rfl rfl rfl rfl (iop_lss_t (by decide)) ?_
  dsimp only [putL, setL, List.set_cons_zero, List.set_cons_succ, List.nil_append, List.cons_append]
  refine wk_nil ?_
  refine sp_seq rfl ?_
  refine sp_true rfl rfl ?_
  refine sp_skip rfl ?_
  refine sp_seq rfl ?_
  refine sp_block rfl ?_
  refine sp_seq rfl ?_
  refine sp_region (π := [0, 1]) [] rfl rfl ?_
  refine wk_move (.int .i64 2) rfl rfl rfl rfl ?_
  dsimp only [putL, setL, List.set_cons_zero, List.set_cons_succ, List.nil_append, List.cons_append]
  refine wk_assign (.int .i64 2) rfl rfl rfl rfl ?_
  dsimp only [putL, setL, List.set_cons_zero, List.set_cons_succ, List.nil_append, List.cons_append]
  refine wk_nil ?_
  refine sp_seq rfl ?_
  refine sp_region (π := [0, 1, 2, 3, 4, 5]) [] rfl rfl ?_
  refine wk_move (.int .i64 2) rfl rfl rfl rfl ?_
  dsimp only [putL, setL, List.set_cons_zero, List.set_cons_succ, List.nil_append, List.cons_append]
  refine wk_idx 2 1 rfl rfl rfl rfl rfl nunder (by kernel_rfl) rfl (by decide) ?_
  dsimp only [putL, setL, List.set_cons_zero, List.set_cons_succ, List.nil_append, List.cons_append]
  refine wk_digit 2 2 18446744073709551615 (by decide) (by kernel_rfl) rfl rfl rfl rfl rfl ?_
  dsimp only [putL, setL, List.set_cons_zero, List.set_cons_succ, List.nil_append, List.cons_append]
  refine wk_iop (.int .u64 4611686018427387903) rfl rfl rfl rfl rfl rfl (by kernel_rfl) ?_
  dsimp only [putL, setL, List.set_cons_zero, List.set_cons_succ, List.nil_append, List.cons_append]
  refine wk_idx 2 1 rfl rfl rfl rfl rfl nunder (by kernel_rfl) rfl (by decide) ?_
  dsimp only [putL, setL, List.set_cons_zero, List.set_cons_succ, List.nil_append, List.cons_append]
  refine wk_stD 2 2 115792089237316195418863158707147897280393142598234814227380817424564030013196 rfl rfl rfl rfl rfl rfl (by kernel_rfl) (by decide) ?_
  dsimp only [putL, setL, List.set_cons_zero, List.set_cons_succ, List.nil_append, List.cons_append]
  refine wk_nil ?_
  refine sp_seq rfl ?_
  refine sp_region (π := [0, 1, 2]) [] rfl rfl ?_
  refine wk_move (.int .i64 2) rfl rfl rfl rfl ?_
  dsimp only [putL, setL, List.set_cons_zero, List.set_cons_succ, List.nil_append, List.cons_append]
  refine wk_iop (.int .i64 3) rfl rfl rfl rfl rfl rfl (by kernel_rfl) ?_
  dsimp only [putL, setL, List.set_cons_zero, List.set_cons_succ, List.nil_append, List.cons_append]
  refine wk_iop (.bool true) rfl rfl rfl rfl rfl rfl (iop_lss_t (by decide)) ?_
  dsimp only [putL, setL, List.set_cons_zero, List.set_cons_succ, List.nil_append, List.cons_append]
  refine wk_nil ?_
  refine sp_true rfl rfl ?_
  refine sp_draw [0, 1, 2, 3, 4, 5, 6, 7, 8, 9, 10] [] mixed rfl (by kernel_rfl) (by kernel_rfl) ?_
  refine wk_move (.int .i64 2) rfl rfl rfl rfl ?_
  dsimp only [putL, setL, List.set_cons_zero, List.set_cons_succ, List.nil_append, List.cons_append]
  refine wk_idx 2 1 rfl rfl rfl rfl rfl nunder (by kernel_rfl) rfl (by decide) ?_
  dsimp only [putL, setL, List.set_cons_zero, List.set_cons_succ, List.nil_append, List.cons_append]
  refine wk_digit 2 2 4611686018427387903 (by decide) (by kernel_rfl) rfl rfl rfl rfl rfl ?_
  dsimp only [putL, setL, List.set_cons_zero, List.set_cons_succ, List.nil_append, List.cons_append]
  refine wk_move (.int .i64 2) rfl rfl rfl rfl ?_
  dsimp only [putL, setL, List.set_cons_zero, List.set_cons_succ, List.nil_append, List.cons_append]
  refine wk_iop (.int .i64 3) rfl rfl rfl rfl rfl rfl (by kernel_rfl) ?_
  dsimp only [putL, setL, List.set_cons_zero, List.set_cons_succ, List.nil_append, List.cons_append]
  refine wk_idx 3 1 rfl rfl rfl rfl rfl nunder (by kernel_rfl) rfl (by decide) ?_
  dsimp only [putL, setL, List.set_cons_zero, List.set_cons_succ, List.nil_append, List.cons_append]
  refine wk_digit 2 3 18446744073709551615 (by decide) (by kernel_rfl) rfl rfl rfl rfl rfl ?_
  dsimp only [putL, setL, List.set_cons_zero, List.set_cons_succ, List.nil_append, List.cons_append]
  refine wk_iop (.int .u64 13835058055282163712) rfl rfl rfl rfl rfl rfl (by kernel_rfl) ?_
  dsimp only [putL, setL, List.set_cons_zero, List.set_cons_succ, List.nil_append, List.cons_append]
  refine wk_iop (.int .u64 18446744073709551615) rfl rfl rfl rfl rfl rfl (by kernel_rfl) ?_
  dsimp only [putL, setL, List.set_cons_zero, List.set_cons_succ, List.nil_append, List.cons_append]
  refine wk_idx 2 1 rfl rfl rfl rfl rfl nunder (by kernel_rfl) rfl (by decide) ?_
  dsimp only [putL, setL, List.set_cons_zero, List.set_cons_succ, List.nil_append, List.cons_append]
  refine wk_stD 2 2 115792089237316195423570985008687907853269984665640564039457584007912055897868 rfl rfl rfl rfl rfl rfl (by kernel_rfl) (by decide) ?_
  dsimp only [putL, setL, List.set_cons_zero, List.set_cons_succ, List.nil_append, List.cons_append]
  refine wk_nil ?_
  refine sp_region (π := [0, 1]) [] rfl rfl ?_
  refine wk_iop (.int .i64 3) rfl rfl rfl rfl rfl rfl (by kernel_rfl) ?_
  dsimp only [putL, setL, List.set_cons_zero, List.set_cons_succ, List.nil_append, List.cons_append]
  refine wk_move (.int .i64 3) rfl rfl rfl rfl ?_
  dsimp only [putL, setL, List.set_cons_zero, List.set_cons_succ, List.nil_append, List.cons_append]
  refine wk_nil ?_
  refine un_step ?_
  refine sp_seq rfl ?_
  refine sp_region (π := [0]) [] rfl rfl ?_
  refine wk_iop (.bool true) rfl rfl rfl rfl rfl rfl (iop_lss_t (by decide)) ?_
  dsimp only [putL, setL, List.set_cons_zero, List.set_cons_succ, List.nil_append, List.cons_append]
  refine wk_nil ?_
  refine sp_seq rfl ?_
  refine sp_true rfl rfl ?_
  refine sp_skip rfl ?_
  refine sp_seq rfl ?_
  refine sp_block rfl ?_
  refine sp_seq rfl ?_
  refine sp_region (π := [0, 1]) [] rfl rfl ?_
  refine wk_move (.int .i64 3) rfl rfl rfl rfl ?_
  dsimp only [putL, setL, List.set_cons_zero, List.set_cons_succ, List.nil_append, List.cons_append]
  refine wk_assign (.int .i64 3) rfl rfl rfl rfl ?_
  dsimp only [putL, setL, List.set_cons_zero, List.set_cons_succ, List.nil_append, List.cons_append]
  refine wk_nil ?_
  refine sp_seq rfl ?_
  refine sp_region (π := [0, 1, 2, 3, 4, 5]) [] rfl rfl ?_
  refine wk_move (.int .i64 3) rfl rfl rfl rfl ?_
  dsimp only [putL, setL, List.set_cons_zero, List.set_cons_succ, List.nil_append, List.cons_append]
  refine wk_idx 3 1 rfl rfl rfl rfl rfl nunder (by kernel_rfl) rfl (by decide) ?_
  dsimp only [putL, setL, List.set_cons_zero, List.set_cons_succ, List.nil_append, List.cons_append]
  refine wk_digit 2 3 18446744073709551615 (by decide) (by kernel_rfl) rfl rfl rfl rfl rfl ?_
  dsimp only [putL, setL, List.set_cons_zero, List.set_cons_succ, List.nil_append, List.cons_append]
  refine wk_iop (.int .u64 4611686018427387903) rfl rfl rfl rfl rfl rfl (by kernel_rfl) ?_
  dsimp only [putL, setL, List.set_cons_zero, List.set_cons_succ, List.nil_append, List.cons_append]
  refine wk_idx 3 1 rfl rfl rfl rfl rfl nunder (by kernel_rfl) rfl (by decide) ?_
  dsimp only [putL, setL, List.set_cons_zero, List.set_cons_succ, List.nil_append, List.cons_append]
  refine wk_stD 2 3 28948022309329048855892746252171976963317496166410141009864396001977208667916 rfl rfl rfl rfl rfl rfl (by kernel_rfl) (by decide) ?_
  dsimp only [putL, setL, List.set_cons_zero, List.set_cons_succ, List.nil_append, List.cons_append]
  refine wk_nil ?_
  refine sp_seq rfl ?_
  refine sp_region (π := [0, 1, 2]) [] rfl rfl ?_
  refine wk_move (.int .i64 3) rfl rfl rfl rfl ?_
  dsimp only [putL, setL, List.set_cons_zero, List.set_cons_succ, List.nil_append, List.cons_append]
  refine wk_iop (.int .i64 4) rfl rfl rfl rfl rfl rfl (by kernel_rfl) ?_
  dsimp only [putL, setL, List.set_cons_zero, List.set_cons_succ, List.nil_append, List.cons_append]
  refine wk_iop (.bool false) rfl rfl rfl rfl rfl rfl (iop_lss_f (by decide)) ?_
  dsimp only [putL, setL, List.set_cons_zero, List.set_cons_succ, List.nil_append, List.cons_append]
  refine wk_nil ?_
  refine sp_false rfl rfl ?_
  refine sp_skip rfl ?_
  refine sp_region (π := [0, 1]) [] rfl rfl ?_
  refine wk_iop (.int .i64 4) rfl rfl rfl rfl rfl rfl (by kernel_rfl) ?_
  dsimp only [putL, setL, List.set_cons_zero, List.set_cons_succ, List.nil_append, List.cons_append]
  refine wk_move (.int .i64 4) rfl rfl rfl rfl ?_
  dsimp only [putL, setL, List.set_cons_zero, List.set_cons_succ, List.nil_append, List.cons_append]
  refine wk_nil ?_
  refine un_step ?_
  refine sp_seq rfl ?_
  refine sp_region (π := [0]) [] rfl rfl ?_
  refine wk_iop (.bool false) rfl rfl rfl rfl rfl rfl (iop_lss_f (by decide)) ?_
  dsimp only [putL, setL, List.set_cons_zero, List.set_cons_succ, List.nil_append, List.cons_append]
  refine wk_nil ?_
  refine sp_seq rfl ?_
  refine sp_false rfl rfl ?_
  refine sp_exit rfl ?_
  refine sp_seq rfl ?_
  refine sp_region (π := [0, 1, 2, 3, 4]) [] rfl rfl ?_
  refine wk_ldN 0 rfl rfl rfl rfl rfl ?_
  dsimp only [putL, setL, List.set_cons_zero, List.set_cons_succ, List.nil_append, List.cons_append]
  refine wk_ldN 2 rfl rfl rfl rfl rfl ?_
  dsimp only [putL, setL, List.set_cons_zero, List.set_cons_succ, List.nil_append, List.cons_append]
  refine wk_call [(.int .i64 0), (numV a), (numV 28948022309329048855892746252171976963317496166410141009864396001977208667916)] (numV (rootX a)) rfl rfl rfl (enters_of Try.func55 (by kernel_rfl) (by kernel_rfl)) rfl (fpow_ok 0 a rootE ok0 ha (by decide)) ?_
  dsimp only [putL, setL, List.set_cons_zero, List.set_cons_succ, List.nil_append, List.cons_append]
  refine wk_newN rfl rfl fun β4 => ?_
  dsimp only [putL, setL, List.set_cons_zero, List.set_cons_succ, List.nil_append, List.cons_append]
  refine wk_stN 3 (rootX a) rfl rfl rfl rfl rfl rfl ?_
  dsimp only [putL, setL, List.set_cons_zero, List.set_cons_succ, List.nil_append, List.cons_append]
  refine wk_nil ?_
  refine sp_seq rfl ?_
  refine sp_seq rfl ?_
  refine sp_draw [0, 1, 3, 2, 4, 5] [] mixed rfl (by kernel_rfl) (by kernel_rfl) ?_
  refine wk_ldN 3 rfl rfl rfl rfl rfl ?_
  dsimp only [putL, setL, List.set_cons_zero, List.set_cons_succ, List.nil_append, List.cons_append]
  refine wk_ldN 3 rfl rfl rfl rfl rfl ?_
  dsimp only [putL, setL, List.set_cons_zero, List.set_cons_succ, List.nil_append, List.cons_append]
  refine wk_ldN 0 rfl rfl rfl rfl rfl ?_
  dsimp only [putL, setL, List.set_cons_zero, List.set_cons_succ, List.nil_append, List.cons_append]
  refine wk_call [(.int .i64 0), (numV (rootX a)), (numV (rootX a))] (numV (rootX a * rootX a % modW 0)) rfl rfl rfl (enters_of Try.func51 (by kernel_rfl) (by kernel_rfl)) rfl (fmul_ok 0 (rootX a) (rootX a) ok0 (rootX_lt a) (rootX_lt a)) ?_
  dsimp only [putL, setL, List.set_cons_zero, List.set_cons_succ, List.nil_append, List.cons_append]
  refine wk_call [(.int .i64 0), (numV a)] (numV (a % modW 0)) rfl rfl rfl (enters_of Try.func45 (by kernel_rfl) (by kernel_rfl)) rfl (red_ok 0 a ok0 ha) ?_
  dsimp only [putL, setL, List.set_cons_zero, List.set_cons_succ, List.nil_append, List.cons_append]
  refine wk_neN true rfl rfl rfl rfl rfl (Nat.lt_trans (Nat.mod_lt _ (modW_pos ok0)) (modW_lt 0)) (Nat.lt_trans (Nat.mod_lt _ (modW_pos ok0)) (modW_lt 0)) (decide_eq_false hr) ?_
  dsimp only [putL, setL, List.set_cons_zero, List.set_cons_succ, List.nil_append, List.cons_append]
  refine wk_nil ?_
  refine sp_true rfl rfl ?_
  refine sp_seq rfl ?_
  refine sp_region (π := [0, 1, 2]) [] rfl rfl ?_
  refine wk_val (numV 0) rfl rfl rfl (fun w => by kernel_rfl) ?_
  dsimp only [putL, setL, List.set_cons_zero, List.set_cons_succ, List.nil_append, List.cons_append]
  refine wk_stN 1 0 rfl rfl rfl rfl rfl rfl ?_
  dsimp only [putL, setL, List.set_cons_zero, List.set_cons_succ, List.nil_append, List.cons_append]
  refine wk_assign (.bool false) rfl rfl rfl rfl ?_
  dsimp only [putL, setL, List.set_cons_zero, List.set_cons_succ, List.nil_append, List.cons_append]
  refine wk_nil ?_
  refine sp_ret rfl ?_
  exact ret_numCT 1 rfl rfl rfl rfl fun w' hw => ⟨rfl, hw.below⟩

set_option maxRecDepth 20000 in
set_option maxHeartbeats 400000 in
theorem read_in (which : Int) (n : Nat) (h : okW which) (hn : n < W256) (hc : cmpI n (modW which) < 0) (w : World) : Calls Try.prog 57 #[.int .i64 which, b32V n] w fun r w' => r = .returned (.tuple #[numV n, .int .i64 0]) ∧ Below w.heap.size w w' := by
  refine fn_calls (l0 := [(.int .i64 which), (b32V n), undef, undef, undef, undef, undef, undef, undef, undef, undef, undef, undef, undef, undef, undef, undef, undef, undef, undef, undef, undef, undef, undef, undef, undef, undef, undef]) Try.func57 rfl rfl [] (St.start w) ?_
  refine sp_seq rfl ?_
  refine sp_region (π := [0, 1, 2]) [] rfl rfl ?_
  refine wk_boxB n rfl rfl rfl fun β1 => ?_
  dsimp only [putL, setL, List.set_cons_zero, List.set_cons_succ, List.nil_append, List.cons_append]
  refine wk_newN rfl rfl fun β2 => ?_
  dsimp only [putL, setL, List.set_cons_zero, List.set_cons_succ, List.nil_append, List.cons_append]
  refine wk_assign (.int .i64 0) rfl rfl rfl rfl ?_
  dsimp only [putL, setL, List.set_cons_zero, List.set_cons_succ, List.nil_append, List.cons_append]
  refine wk_nil ?_
  refine sp_seq rfl ?_
  refine sp_region (π := [0, 1, 2, 3, 4, 5, 6, 7]) [] rfl rfl ?_
  refine wk_move (.int .i64 which) rfl rfl rfl rfl ?_
  dsimp only [putL, setL, List.set_cons_zero, List.set_cons_succ, List.nil_append, List.cons_append]
  refine wk_call [(.int .i64 which)] (.tuple #[(numV (lessW which)), (.bool true)]) rfl rfl rfl (enters_of Try.func74 (by kernel_rfl) (by kernel_rfl)) rfl (less_ok which h) ?_
  dsimp only [putL, setL, List.set_cons_zero, List.set_cons_succ, List.nil_append, List.cons_append]
  refine wk_move (.tuple #[(numV (lessW which)), (.bool true)]) rfl rfl rfl rfl ?_
  dsimp only [putL, setL, List.set_cons_zero, List.set_cons_succ, List.nil_append, List.cons_append]
  refine wk_ext (numV (lessW which)) rfl rfl rfl rfl rfl ?_
  dsimp only [putL, setL, List.set_cons_zero, List.set_cons_succ, List.nil_append, List.cons_append]
  refine wk_ext (.bool true) rfl rfl rfl rfl rfl ?_
  dsimp only [putL, setL, List.set_cons_zero, List.set_cons_succ, List.nil_append, List.cons_append]
  refine wk_newN rfl rfl fun β3 => ?_
  dsimp only [putL, setL, List.set_cons_zero, List.set_cons_succ, List.nil_append, List.cons_append]
  refine wk_stN 2 (lessW which) rfl rfl rfl rfl rfl rfl ?_
  dsimp only [putL, setL, List.set_cons_zero, List.set_cons_succ, List.nil_append, List.cons_append]
  refine wk_assign (.bool true) rfl rfl rfl rfl ?_
  dsimp only [putL, setL, List.set_cons_zero, List.set_cons_succ, List.nil_append, List.cons_append]
  refine wk_nil ?_
  refine sp_seq rfl ?_
  refine sp_region (π := [0, 1, 2, 3]) [] rfl rfl ?_
  refine wk_ldB 0 rfl rfl rfl rfl rfl ?_
  dsimp only [putL, setL, List.set_cons_zero, List.set_cons_succ, List.nil_append, List.cons_append]
  refine wk_call [(b32V n)] (numV n) rfl rfl rfl (enters_of Try.func41 (by kernel_rfl) (by kernel_rfl)) rfl (of_calls n hn) ?_
  dsimp only [putL, setL, List.set_cons_zero, List.set_cons_succ, List.nil_append, List.cons_append]
  refine wk_newN rfl rfl fun β4 => ?_
  dsimp only [putL, setL, List.set_cons_zero, List.set_cons_succ, List.nil_append, List.cons_append]
  refine wk_stN 3 n rfl rfl rfl rfl rfl rfl ?_
  dsimp only [putL, setL, List.set_cons_zero, List.set_cons_succ, List.nil_append, List.cons_append]
  refine wk_nil ?_
  refine sp_seq rfl ?_
  refine sp_block rfl ?_
  refine sp_seq rfl ?_
  refine sp_region (π := [0, 1, 2]) [] rfl rfl ?_
  refine wk_move (.bool true) rfl rfl rfl rfl ?_
  dsimp only [putL, setL, List.set_cons_zero, List.set_cons_succ, List.nil_append, List.cons_append]
  refine wk_not true rfl rfl rfl rfl ?_
  dsimp only [putL, setL, List.set_cons_zero, List.set_cons_succ, List.nil_append, List.cons_append]
  refine wk_assign (.bool false) rfl rfl rfl rfl ?_
  dsimp only [putL, setL, List.set_cons_zero, List.set_cons_succ, List.nil_append, List.cons_append]
  refine wk_nil ?_
  refine sp_false rfl rfl ?_
  refine sp_seq rfl ?_
  refine sp_draw [0, 1, 2, 3, 4, 5] [] mixed rfl (by kernel_rfl) (by kernel_rfl) ?_
  refine wk_ldN 3 rfl rfl rfl rfl rfl ?_
  dsimp only [putL, setL, List.set_cons_zero, List.set_cons_succ, List.nil_append, List.cons_append]
  refine wk_move (.int .i64 which) rfl rfl rfl rfl ?_
  dsimp only [putL, setL, List.set_cons_zero, List.set_cons_succ, List.nil_append, List.cons_append]
  refine wk_call [(.int .i64 which)] (numV (modW which)) rfl rfl rfl (enters_of Try.func43 (by kernel_rfl) (by kernel_rfl)) rfl (prime_ok which h) ?_
  dsimp only [putL, setL, List.set_cons_zero, List.set_cons_succ, List.nil_append, List.cons_append]
  refine wk_call [(numV n), (numV (modW which))] (.int .i64 (cmpI n (modW which))) rfl rfl rfl (enters_of Try.func28 (by kernel_rfl) (by kernel_rfl)) rfl (cmp_calls n (modW which) hn (modW_lt which)) ?_
  dsimp only [putL, setL, List.set_cons_zero, List.set_cons_succ, List.nil_append, List.cons_append]
  refine wk_iop (.bool false) rfl rfl rfl rfl rfl rfl (iop_geq_f (by omega)) ?_
  dsimp only [putL, setL, List.set_cons_zero, List.set_cons_succ, List.nil_append, List.cons_append]
  refine wk_assign (.bool false) rfl rfl rfl rfl ?_
  dsimp only [putL, setL, List.set_cons_zero, List.set_cons_succ, List.nil_append, List.cons_append]
  refine wk_nil ?_
  refine sp_false rfl rfl ?_
  refine sp_skip rfl ?_
  refine sp_seq rfl ?_
  refine sp_region (π := [0, 1, 2]) [] rfl rfl ?_
  refine wk_ldN 3 rfl rfl rfl rfl rfl ?_
  dsimp only [putL, setL, List.set_cons_zero, List.set_cons_succ, List.nil_append, List.cons_append]
  refine wk_stN 1 n rfl rfl rfl rfl rfl rfl ?_
  dsimp only [putL, setL, List.set_cons_zero, List.set_cons_succ, List.nil_append, List.cons_append]
  refine wk_assign (.int .i64 0) rfl rfl rfl rfl ?_
  dsimp only [putL, setL, List.set_cons_zero, List.set_cons_succ, List.nil_append, List.cons_append]
  refine wk_nil ?_
  refine sp_ret rfl ?_
  exact ret_numCT 1 rfl rfl rfl rfl fun w' hw => ⟨rfl, hw.below⟩

set_option maxRecDepth 20000 in
set_option maxHeartbeats 400000 in
theorem read_out (which : Int) (n : Nat) (h : okW which) (hn : n < W256) (hc : 0 ≤ cmpI n (modW which)) (w : World) : Calls Try.prog 57 #[.int .i64 which, b32V n] w fun r w' => r = .returned (.tuple #[numV 0, .int .i64 2]) ∧ Below w.heap.size w w' := by
  refine fn_calls (l0 := [(.int .i64 which), (b32V n), undef, undef, undef, undef, undef, undef, undef, undef, undef, undef, undef, undef, undef, undef, undef, undef, undef, undef, undef, undef, undef, undef, undef, undef, undef, undef]) Try.func57 rfl rfl [] (St.start w) ?_
  refine sp_seq rfl ?_
  refine sp_region (π := [0, 1, 2]) [] rfl rfl ?_
  refine wk_boxB n rfl rfl rfl fun β1 => ?_
  dsimp only [putL, setL, List.set_cons_zero, List.set_cons_succ, List.nil_append, List.cons_append]
  refine wk_newN rfl rfl fun β2 => ?_
  dsimp only [putL, setL, List.set_cons_zero, List.set_cons_succ, List.nil_append, List.cons_append]
  refine wk_assign (.int .i64 0) rfl rfl rfl rfl ?_
  dsimp only [putL, setL, List.set_cons_zero, List.set_cons_succ, List.nil_append, List.cons_append]
  refine wk_nil ?_
  refine sp_seq rfl ?_
  refine sp_region (π := [0, 1, 2, 3, 4, 5, 6, 7]) [] rfl rfl ?_
  refine wk_move (.int .i64 which) rfl rfl rfl rfl ?_
  dsimp only [putL, setL, List.set_cons_zero, List.set_cons_succ, List.nil_append, List.cons_append]
  refine wk_call [(.int .i64 which)] (.tuple #[(numV (lessW which)), (.bool true)]) rfl rfl rfl (enters_of Try.func74 (by kernel_rfl) (by kernel_rfl)) rfl (less_ok which h) ?_
  dsimp only [putL, setL, List.set_cons_zero, List.set_cons_succ, List.nil_append, List.cons_append]
  refine wk_move (.tuple #[(numV (lessW which)), (.bool true)]) rfl rfl rfl rfl ?_
  dsimp only [putL, setL, List.set_cons_zero, List.set_cons_succ, List.nil_append, List.cons_append]
  refine wk_ext (numV (lessW which)) rfl rfl rfl rfl rfl ?_
  dsimp only [putL, setL, List.set_cons_zero, List.set_cons_succ, List.nil_append, List.cons_append]
  refine wk_ext (.bool true) rfl rfl rfl rfl rfl ?_
  dsimp only [putL, setL, List.set_cons_zero, List.set_cons_succ, List.nil_append, List.cons_append]
  refine wk_newN rfl rfl fun β3 => ?_
  dsimp only [putL, setL, List.set_cons_zero, List.set_cons_succ, List.nil_append, List.cons_append]
  refine wk_stN 2 (lessW which) rfl rfl rfl rfl rfl rfl ?_
  dsimp only [putL, setL, List.set_cons_zero, List.set_cons_succ, List.nil_append, List.cons_append]
  refine wk_assign (.bool true) rfl rfl rfl rfl ?_
  dsimp only [putL, setL, List.set_cons_zero, List.set_cons_succ, List.nil_append, List.cons_append]
  refine wk_nil ?_
  refine sp_seq rfl ?_
  refine sp_region (π := [0, 1, 2, 3]) [] rfl rfl ?_
  refine wk_ldB 0 rfl rfl rfl rfl rfl ?_
  dsimp only [putL, setL, List.set_cons_zero, List.set_cons_succ, List.nil_append, List.cons_append]
  refine wk_call [(b32V n)] (numV n) rfl rfl rfl (enters_of Try.func41 (by kernel_rfl) (by kernel_rfl)) rfl (of_calls n hn) ?_
  dsimp only [putL, setL, List.set_cons_zero, List.set_cons_succ, List.nil_append, List.cons_append]
  refine wk_newN rfl rfl fun β4 => ?_
  dsimp only [putL, setL, List.set_cons_zero, List.set_cons_succ, List.nil_append, List.cons_append]
  refine wk_stN 3 n rfl rfl rfl rfl rfl rfl ?_
  dsimp only [putL, setL, List.set_cons_zero, List.set_cons_succ, List.nil_append, List.cons_append]
  refine wk_nil ?_
  refine sp_seq rfl ?_
  refine sp_block rfl ?_
  refine sp_seq rfl ?_
  refine sp_region (π := [0, 1, 2]) [] rfl rfl ?_
  refine wk_move (.bool true) rfl rfl rfl rfl ?_
  dsimp only [putL, setL, List.set_cons_zero, List.set_cons_succ, List.nil_append, List.cons_append]
  refine wk_not true rfl rfl rfl rfl ?_
  dsimp only [putL, setL, List.set_cons_zero, List.set_cons_succ, List.nil_append, List.cons_append]
  refine wk_assign (.bool false) rfl rfl rfl rfl ?_
  dsimp only [putL, setL, List.set_cons_zero, List.set_cons_succ, List.nil_append, List.cons_append]
  refine wk_nil ?_
  refine sp_false rfl rfl ?_
  refine sp_seq rfl ?_
  refine sp_draw [0, 1, 2, 3, 4, 5] [] mixed rfl (by kernel_rfl) (by kernel_rfl) ?_
  refine wk_ldN 3 rfl rfl rfl rfl rfl ?_
  dsimp only [putL, setL, List.set_cons_zero, List.set_cons_succ, List.nil_append, List.cons_append]
  refine wk_move (.int .i64 which) rfl rfl rfl rfl ?_
  dsimp only [putL, setL, List.set_cons_zero, List.set_cons_succ, List.nil_append, List.cons_append]
  refine wk_call [(.int .i64 which)] (numV (modW which)) rfl rfl rfl (enters_of Try.func43 (by kernel_rfl) (by kernel_rfl)) rfl (prime_ok which h) ?_
  dsimp only [putL, setL, List.set_cons_zero, List.set_cons_succ, List.nil_append, List.cons_append]
  refine wk_call [(numV n), (numV (modW which))] (.int .i64 (cmpI n (modW which))) rfl rfl rfl (enters_of Try.func28 (by kernel_rfl) (by kernel_rfl)) rfl (cmp_calls n (modW which) hn (modW_lt which)) ?_
  dsimp only [putL, setL, List.set_cons_zero, List.set_cons_succ, List.nil_append, List.cons_append]
  refine wk_iop (.bool true) rfl rfl rfl rfl rfl rfl (iop_geq_t hc) ?_
  dsimp only [putL, setL, List.set_cons_zero, List.set_cons_succ, List.nil_append, List.cons_append]
  refine wk_assign (.bool true) rfl rfl rfl rfl ?_
  dsimp only [putL, setL, List.set_cons_zero, List.set_cons_succ, List.nil_append, List.cons_append]
  refine wk_nil ?_
  refine sp_true rfl rfl ?_
  refine sp_seq rfl ?_
  refine sp_region (π := [0, 1, 2]) [] rfl rfl ?_
  refine wk_val (numV 0) rfl rfl rfl (fun w => by kernel_rfl) ?_
  dsimp only [putL, setL, List.set_cons_zero, List.set_cons_succ, List.nil_append, List.cons_append]
  refine wk_stN 1 0 rfl rfl rfl rfl rfl rfl ?_
  dsimp only [putL, setL, List.set_cons_zero, List.set_cons_succ, List.nil_append, List.cons_append]
  refine wk_assign (.int .i64 2) rfl rfl rfl rfl ?_
  dsimp only [putL, setL, List.set_cons_zero, List.set_cons_succ, List.nil_append, List.cons_append]
  refine wk_nil ?_
  refine sp_ret rfl ?_
  exact ret_numCT 1 rfl rfl rfl rfl fun w' hw => ⟨rfl, hw.below⟩

set_option maxRecDepth 20000 in
set_option maxHeartbeats 400000 in
theorem read_no (which : Int) (n : Nat) (h : ¬ okW which) (hn : n < W256) (w : World) : Calls Try.prog 57 #[.int .i64 which, b32V n] w fun r w' => r = .returned (.tuple #[numV 0, .int .i64 1]) ∧ Below w.heap.size w w' := by
  refine fn_calls (l0 := [(.int .i64 which), (b32V n), undef, undef, undef, undef, undef, undef, undef, undef, undef, undef, undef, undef, undef, undef, undef, undef, undef, undef, undef, undef, undef, undef, undef, undef, undef, undef]) Try.func57 rfl rfl [] (St.start w) ?_
  refine sp_seq rfl ?_
  refine sp_region (π := [0, 1, 2]) [] rfl rfl ?_
  refine wk_boxB n rfl rfl rfl fun β1 => ?_
  dsimp only [putL, setL, List.set_cons_zero, List.set_cons_succ, List.nil_append, List.cons_append]
  refine wk_newN rfl rfl fun β2 => ?_
  dsimp only [putL, setL, List.set_cons_zero, List.set_cons_succ, List.nil_append, List.cons_append]
  refine wk_assign (.int .i64 0) rfl rfl rfl rfl ?_
  dsimp only [putL, setL, List.set_cons_zero, List.set_cons_succ, List.nil_append, List.cons_append]
  refine wk_nil ?_
  refine sp_seq rfl ?_
  refine sp_region (π := [0, 1, 2, 3, 4, 5, 6, 7]) [] rfl rfl ?_
  refine wk_move (.int .i64 which) rfl rfl rfl rfl ?_
  dsimp only [putL, setL, List.set_cons_zero, List.set_cons_succ, List.nil_append, List.cons_append]
  refine wk_call [(.int .i64 which)] (.tuple #[(numV 0), (.bool false)]) rfl rfl rfl (enters_of Try.func74 (by kernel_rfl) (by kernel_rfl)) rfl (less_no which h) ?_
  dsimp only [putL, setL, List.set_cons_zero, List.set_cons_succ, List.nil_append, List.cons_append]
  refine wk_move (.tuple #[(numV 0), (.bool false)]) rfl rfl rfl rfl ?_
  dsimp only [putL, setL, List.set_cons_zero, List.set_cons_succ, List.nil_append, List.cons_append]
  refine wk_ext (numV 0) rfl rfl rfl rfl rfl ?_
  dsimp only [putL, setL, List.set_cons_zero, List.set_cons_succ, List.nil_append, List.cons_append]
  refine wk_ext (.bool false) rfl rfl rfl rfl rfl ?_
  dsimp only [putL, setL, List.set_cons_zero, List.set_cons_succ, List.nil_append, List.cons_append]
  refine wk_newN rfl rfl fun β3 => ?_
  dsimp only [putL, setL, List.set_cons_zero, List.set_cons_succ, List.nil_append, List.cons_append]
  refine wk_stN 2 0 rfl rfl rfl rfl rfl rfl ?_
  dsimp only [putL, setL, List.set_cons_zero, List.set_cons_succ, List.nil_append, List.cons_append]
  refine wk_assign (.bool false) rfl rfl rfl rfl ?_
  dsimp only [putL, setL, List.set_cons_zero, List.set_cons_succ, List.nil_append, List.cons_append]
  refine wk_nil ?_
  refine sp_seq rfl ?_
  refine sp_region (π := [0, 1, 2, 3]) [] rfl rfl ?_
  refine wk_ldB 0 rfl rfl rfl rfl rfl ?_
  dsimp only [putL, setL, List.set_cons_zero, List.set_cons_succ, List.nil_append, List.cons_append]
  refine wk_call [(b32V n)] (numV n) rfl rfl rfl (enters_of Try.func41 (by kernel_rfl) (by kernel_rfl)) rfl (of_calls n hn) ?_
  dsimp only [putL, setL, List.set_cons_zero, List.set_cons_succ, List.nil_append, List.cons_append]
  refine wk_newN rfl rfl fun β4 => ?_
  dsimp only [putL, setL, List.set_cons_zero, List.set_cons_succ, List.nil_append, List.cons_append]
  refine wk_stN 3 n rfl rfl rfl rfl rfl rfl ?_
  dsimp only [putL, setL, List.set_cons_zero, List.set_cons_succ, List.nil_append, List.cons_append]
  refine wk_nil ?_
  refine sp_seq rfl ?_
  refine sp_block rfl ?_
  refine sp_seq rfl ?_
  refine sp_region (π := [0, 1, 2]) [] rfl rfl ?_
  refine wk_move (.bool false) rfl rfl rfl rfl ?_
  dsimp only [putL, setL, List.set_cons_zero, List.set_cons_succ, List.nil_append, List.cons_append]
  refine wk_not false rfl rfl rfl rfl ?_
  dsimp only [putL, setL, List.set_cons_zero, List.set_cons_succ, List.nil_append, List.cons_append]
  refine wk_assign (.bool true) rfl rfl rfl rfl ?_
  dsimp only [putL, setL, List.set_cons_zero, List.set_cons_succ, List.nil_append, List.cons_append]
  refine wk_nil ?_
  refine sp_true rfl rfl ?_
  refine sp_seq rfl ?_
  refine sp_region (π := [0, 1, 2]) [] rfl rfl ?_
  refine wk_val (numV 0) rfl rfl rfl (fun w => by kernel_rfl) ?_
  dsimp only [putL, setL, List.set_cons_zero, List.set_cons_succ, List.nil_append, List.cons_append]
  refine wk_stN 1 0 rfl rfl rfl rfl rfl rfl ?_
  dsimp only [putL, setL, List.set_cons_zero, List.set_cons_succ, List.nil_append, List.cons_append]
  refine wk_assign (.int .i64 1) rfl rfl rfl rfl ?_
  dsimp only [putL, setL, List.set_cons_zero, List.set_cons_succ, List.nil_append, List.cons_append]
  refine wk_nil ?_
  refine sp_ret rfl ?_
  exact ret_numCT 1 rfl rfl rfl rfl fun w' hw => ⟨rfl, hw.below⟩

end Go.Proofs.Ytmecomgifmkkfaa
