/- What the page's sums, differences, products, powers, inverses answer, modulo either prime. -/
import Derived.Test.YtmecomgifmkkfaaRefA
import Derived.Test.YtmecomgifmkkfaaFieldC
import Derived.Test.YtmecomgifmkkfaaLimbG
import Derived.Test.YtmecomgifmkkfaaLimbB
import Derived.Test.YtmecomgifmkkfaaLimbC
namespace Go.Proofs.Ytmecomgifmkkfaa
set_option linter.unusedVariables false
set_option linter.unusedSimpArgs false
open Go.RowKit

theorem carry_lt {x z : Nat} (hx : x < W256) (hz : z < W256) : (x + z) / W256 < 18446744073709551616 := by
  have : (x + z) / W256 < 2 := Nat.div_lt_of_lt_mul (by omega)
  omega
theorem cmpI_ge {x m : Nat} : 0 ≤ cmpI x m ↔ m ≤ x := by
  unfold cmpI
  split
  · omega
  · split <;> omega
theorem rfold_big {which : Int} (h : okW which) {x y V : Nat} (hy : y = 0) (hx : x < W256) (hV : (y * W256 + x) % modW which = V) (hc : 0 ≤ cmpI x (modW which)) : (x + W256 - modW which) % W256 = V := by
  subst hy
  rw [Nat.zero_mul, Nat.zero_add] at hV
  have hl := lessW_ok h
  have := (fold_end (lo := x) hl.2.2.1 hx).1 (by rw [hl.1]; exact cmpI_ge.1 hc)
  rw [hl.1] at this
  rw [this, hV]
theorem rfold_small {which : Int} (h : okW which) {x y V : Nat} (hy : y = 0) (hx : x < W256) (hV : (y * W256 + x) % modW which = V) (hc : ¬ 0 ≤ cmpI x (modW which)) : x = V := by
  subst hy
  rw [Nat.zero_mul, Nat.zero_add] at hV
  have hl := lessW_ok h
  have := (fold_end (lo := x) hl.2.2.1 hx).2 (by rw [hl.1]; exact fun h' => hc (cmpI_ge.2 h'))
  rw [hl.1] at this
  rw [← hV]; exact this
theorem rfold_step {which : Int} (h : okW which) {x y V : Nat} (hy : ¬ y = 0) (hx : x < W256) (hyy : y < W256) (hV : (y * W256 + x) % modW which = V) :
    (y * lessW which / W256 + (x + y * lessW which % W256) / W256) < W256 ∧
    ((y * lessW which / W256 + (x + y * lessW which % W256) / W256) * W256 + (x + y * lessW which % W256) % W256) % modW which = V ∧
    (y * lessW which / W256 + (x + y * lessW which % W256) / W256) * W256 + (x + y * lessW which % W256) % W256 < y * W256 + x := by
  have hl := lessW_ok h
  have fs := fold_step hl.2.2.1 hl.2.1 (Nat.pos_of_ne_zero hy) hyy hx
  have h4 := fs.2.2.2
  rw [hl.1] at h4
  refine ⟨fs.1, ?_, ?_⟩
  · rw [fs.2.1, h4, hV]
  · rw [fs.2.1]; exact fs.2.2.1
theorem rsum_mod {a b m : Nat} : (a % m + b % m) % m = (a + b) % m := by rw [← Nat.add_mod]
theorem rwide {s x m v : Nat} (hs : s = v % W256) (hx : x = v / W256) : (x * W256 + s) % m = v % m := by
  have e1 : x * W256 + s = v := by rw [hs, hx, Nat.mul_comm, Nat.div_add_mod]
  rw [e1]
theorem subM_mod {m a b : Nat} : (a % m + (m - b % m) % m) % m = subM m a b := by unfold subM; rw [← Nat.add_mod]

set_option maxRecDepth 20000 in
set_option maxHeartbeats 400000 in
theorem rfold_ok (which : Int) (lo hi : Nat) (h : okW which) (hlo : lo < W256) (hhi : hi < W256) (w : World) : Calls Try.prog 78 #[.int .i64 which, numV lo, numV hi] w fun r w' => r = .returned (numV ((hi * W256 + lo) % modW which)) ∧ Below w.heap.size w w' := by
  refine fn_calls (l0 := [(.int .i64 which), (numV lo), (numV hi), undef, undef, undef, undef, undef, undef, undef, undef, undef, undef, undef, undef, undef, undef, undef, undef, undef, undef, undef, undef, undef, undef, undef, undef, undef, undef, undef, undef, undef, undef, undef, undef, undef, undef, undef, undef, undef, undef, undef, undef, undef, undef, undef, undef, undef]) Try.func78 rfl rfl [] (St.start w) ?_
  refine sp_seq rfl ?_
  refine sp_region (π := [0, 1, 2]) [] rfl rfl ?_
  refine wk_boxN lo rfl rfl rfl fun β1 => ?_
  dsimp only [putL, setL, List.set_cons_zero, List.set_cons_succ, List.nil_append, List.cons_append]
  refine wk_boxN hi rfl rfl rfl fun β2 => ?_
  dsimp only [putL, setL, List.set_cons_zero, List.set_cons_succ, List.nil_append, List.cons_append]
  refine wk_newN rfl rfl fun β3 => ?_
  dsimp only [putL, setL, List.set_cons_zero, List.set_cons_succ, List.nil_append, List.cons_append]
  refine wk_nil ?_
  refine sp_seq rfl ?_
  refine sp_block rfl ?_
  refine sp_loopg rfl (fun n l M => ∃ x : Nat, ∃ y : Nat, ∃ d7 : Value, ∃ d8 : Value, ∃ d9 : Value, ∃ d10 : Value, ∃ d11 : Value, ∃ d12 : Value, ∃ d13 : Value, ∃ d14 : Value, ∃ d15 : Value, ∃ d16 : Value, ∃ d17 : Value, ∃ d18 : Value, ∃ d19 : Value, ∃ d20 : Value, ∃ d21 : Value, ∃ d22 : Value, ∃ d23 : Value, ∃ d24 : Value, ∃ d25 : Value, ∃ d26 : Value, ∃ d27 : Value, ∃ d28 : Value, ∃ d29 : Value, ∃ d30 : Value, ∃ d31 : Value, ∃ d32 : Value, ∃ d33 : Value, ∃ d34 : Value, l = [(.int .i64 which), (numV lo), (numV hi), undef, (.pointer (some ⟨β1, 0, none⟩)), (.pointer (some ⟨β2, 0, none⟩)), (.pointer (some ⟨β3, 0, none⟩)), d7, d8, d9, d10, d11, d12, d13, d14, d15, d16, d17, d18, d19, d20, d21, d22, d23, d24, d25, d26, d27, d28, d29, d30, d31, d32, d33, d34, undef, undef, undef, undef, undef, undef, undef, undef, undef, undef, undef, undef, undef] ∧ M = [(β1, numO x), (β2, numO y), (β3, numO 0)] ∧ x < W256 ∧ y < W256 ∧ (y * W256 + x) % modW which = (hi * W256 + lo) % modW which ∧ n = (y * W256 + x)) (hi * W256 + lo) ?_ ?_
  · exact ⟨lo, hi, undef, undef, undef, undef, undef, undef, undef, undef, undef, undef, undef, undef, undef, undef, undef, undef, undef, undef, undef, undef, undef, undef, undef, undef, undef, undef, undef, undef, rfl, rfl, hlo, hhi, rfl, rfl⟩
  · skip
    rintro n l M ⟨x, y, d7, d8, d9, d10, d11, d12, d13, d14, d15, d16, d17, d18, d19, d20, d21, d22, d23, d24, d25, d26, d27, d28, d29, d30, d31, d32, d33, d34, rfl, rfl, hf0, hf1, hf2, rfl⟩
    refine sp_seq rfl ?_
    refine sp_seq rfl ?_
    refine sp_region (π := [0, 1, 2]) [] rfl rfl ?_
    refine wk_ldN 1 rfl rfl rfl rfl rfl ?_
    dsimp only [putL, setL, List.set_cons_zero, List.set_cons_succ, List.nil_append, List.cons_append]
    refine wk_val (numV 0) rfl rfl rfl (fun w => by kernel_rfl) ?_
    dsimp only [putL, setL, List.set_cons_zero, List.set_cons_succ, List.nil_append, List.cons_append]
    by_cases hc4 : y = 0
    · skip
      refine wk_neN false rfl rfl rfl rfl rfl hf1 (by decide) (decide_eq_true hc4) ?_
      dsimp only [putL, setL, List.set_cons_zero, List.set_cons_succ, List.nil_append, List.cons_append]
      refine wk_nil ?_
      refine sp_false rfl rfl ?_
      refine sp_exit rfl ?_
      refine sp_seq rfl ?_
      refine sp_seq rfl ?_
      refine sp_draw [0, 1, 2, 3, 4] [] mixed rfl (by kernel_rfl) (by kernel_rfl) ?_
      refine wk_ldN 0 rfl rfl rfl rfl rfl ?_
      dsimp only [putL, setL, List.set_cons_zero, List.set_cons_succ, List.nil_append, List.cons_append]
      refine wk_move (.int .i64 which) rfl rfl rfl rfl ?_
      dsimp only [putL, setL, List.set_cons_zero, List.set_cons_succ, List.nil_append, List.cons_append]
      refine wk_call [(.int .i64 which)] (numV (modW which)) rfl rfl rfl (enters_of Try.func44 (by kernel_rfl) (by kernel_rfl)) rfl (rprime_ok which h) ?_
      dsimp only [putL, setL, List.set_cons_zero, List.set_cons_succ, List.nil_append, List.cons_append]
      refine wk_call [(numV x), (numV (modW which))] (.int .i64 (cmpI x (modW which))) rfl rfl rfl (enters_of Try.func35 (by kernel_rfl) (by kernel_rfl)) rfl (rcmp_calls x (modW which) hf0 (modW_lt which)) ?_
      dsimp only [putL, setL, List.set_cons_zero, List.set_cons_succ, List.nil_append, List.cons_append]
      by_cases hc5 : 0 ≤ (cmpI x (modW which))
      · skip
        refine wk_iop (.bool true) rfl rfl rfl rfl rfl rfl (iop_geq_t hc5) ?_
        dsimp only [putL, setL, List.set_cons_zero, List.set_cons_succ, List.nil_append, List.cons_append]
        refine wk_nil ?_
        refine sp_true rfl rfl ?_
        refine sp_draw [0, 1, 2, 3, 4, 5, 6, 7] [] mixed rfl (by kernel_rfl) (by kernel_rfl) ?_
        refine wk_ldN 0 rfl rfl rfl rfl rfl ?_
        dsimp only [putL, setL, List.set_cons_zero, List.set_cons_succ, List.nil_append, List.cons_append]
        refine wk_move (.int .i64 which) rfl rfl rfl rfl ?_
        dsimp only [putL, setL, List.set_cons_zero, List.set_cons_succ, List.nil_append, List.cons_append]
        refine wk_call [(.int .i64 which)] (numV (modW which)) rfl rfl rfl (enters_of Try.func44 (by kernel_rfl) (by kernel_rfl)) rfl (rprime_ok which h) ?_
        dsimp only [putL, setL, List.set_cons_zero, List.set_cons_succ, List.nil_append, List.cons_append]
        refine wk_call [(numV x), (numV (modW which))] (.tuple #[(numV ((x + W256 - (modW which)) % W256)), (.int .u64 ((if x < (modW which) then 1 else 0 : Nat) : Int))]) rfl rfl rfl (enters_of Try.func33 (by kernel_rfl) (by kernel_rfl)) rfl (rsub_calls x (modW which) hf0 (modW_lt which)) ?_
        dsimp only [putL, setL, List.set_cons_zero, List.set_cons_succ, List.nil_append, List.cons_append]
        refine wk_move (.tuple #[(numV ((x + W256 - (modW which)) % W256)), (.int .u64 ((if x < (modW which) then 1 else 0 : Nat) : Int))]) rfl rfl rfl rfl ?_
        dsimp only [putL, setL, List.set_cons_zero, List.set_cons_succ, List.nil_append, List.cons_append]
        refine wk_ext (numV ((x + W256 - (modW which)) % W256)) rfl rfl rfl rfl rfl ?_
        dsimp only [putL, setL, List.set_cons_zero, List.set_cons_succ, List.nil_append, List.cons_append]
        refine wk_ext (.int .u64 ((if x < (modW which) then 1 else 0 : Nat) : Int)) rfl rfl rfl rfl rfl ?_
        dsimp only [putL, setL, List.set_cons_zero, List.set_cons_succ, List.nil_append, List.cons_append]
        refine wk_stN 0 ((x + W256 - (modW which)) % W256) rfl rfl rfl rfl rfl rfl ?_
        dsimp only [putL, setL, List.set_cons_zero, List.set_cons_succ, List.nil_append, List.cons_append]
        refine wk_nil ?_
        refine sp_seq rfl ?_
        refine sp_region (π := [0, 1]) [] rfl rfl ?_
        refine wk_ldN 0 rfl rfl rfl rfl rfl ?_
        dsimp only [putL, setL, List.set_cons_zero, List.set_cons_succ, List.nil_append, List.cons_append]
        refine wk_stN 2 ((x + W256 - (modW which)) % W256) rfl rfl rfl rfl rfl rfl ?_
        dsimp only [putL, setL, List.set_cons_zero, List.set_cons_succ, List.nil_append, List.cons_append]
        refine wk_nil ?_
        refine sp_ret rfl ?_
        exact ret_numC 2 rfl rfl rfl fun w' hw => ⟨by rw [rfold_big h hc4 hf0 hf2 hc5], hw.below⟩
      · skip
        refine wk_iop (.bool false) rfl rfl rfl rfl rfl rfl (iop_geq_f hc5) ?_
        dsimp only [putL, setL, List.set_cons_zero, List.set_cons_succ, List.nil_append, List.cons_append]
        refine wk_nil ?_
        refine sp_false rfl rfl ?_
        refine sp_skip rfl ?_
        refine sp_seq rfl ?_
        refine sp_region (π := [0, 1]) [] rfl rfl ?_
        refine wk_ldN 0 rfl rfl rfl rfl rfl ?_
        dsimp only [putL, setL, List.set_cons_zero, List.set_cons_succ, List.nil_append, List.cons_append]
        refine wk_stN 2 x rfl rfl rfl rfl rfl rfl ?_
        dsimp only [putL, setL, List.set_cons_zero, List.set_cons_succ, List.nil_append, List.cons_append]
        refine wk_nil ?_
        refine sp_ret rfl ?_
        exact ret_numC 2 rfl rfl rfl fun w' hw => ⟨by rw [← rfold_small h hc4 hf0 hf2 hc5], hw.below⟩
    · skip
      refine wk_neN true rfl rfl rfl rfl rfl hf1 (by decide) (decide_eq_false hc4) ?_
      dsimp only [putL, setL, List.set_cons_zero, List.set_cons_succ, List.nil_append, List.cons_append]
      refine wk_nil ?_
      refine sp_true rfl rfl ?_
      refine sp_skip rfl ?_
      refine sp_block rfl ?_
      refine sp_seq rfl ?_
      refine sp_draw [0, 1, 2, 3, 4, 5, 6, 7, 8, 9, 10] [] mixed rfl (by kernel_rfl) (by kernel_rfl) ?_
      refine wk_ldN 1 rfl rfl rfl rfl rfl ?_
      dsimp only [putL, setL, List.set_cons_zero, List.set_cons_succ, List.nil_append, List.cons_append]
      refine wk_move (.int .i64 which) rfl rfl rfl rfl ?_
      dsimp only [putL, setL, List.set_cons_zero, List.set_cons_succ, List.nil_append, List.cons_append]
      refine wk_call [(.int .i64 which)] (numV (lessW which)) rfl rfl rfl (enters_of Try.func75 (by kernel_rfl) (by kernel_rfl)) rfl (rsmall_ok which h) ?_
      dsimp only [putL, setL, List.set_cons_zero, List.set_cons_succ, List.nil_append, List.cons_append]
      refine wk_call [(numV y), (numV (lessW which))] (.tuple #[(numV (y * (lessW which) % W256)), (numV (y * (lessW which) / W256))]) rfl rfl rfl (enters_of Try.func34 (by kernel_rfl) (by kernel_rfl)) rfl (rmul_calls y (lessW which) hf1 (lessW_ok h).2.2.2) ?_
      dsimp only [putL, setL, List.set_cons_zero, List.set_cons_succ, List.nil_append, List.cons_append]
      refine wk_move (.tuple #[(numV (y * (lessW which) % W256)), (numV (y * (lessW which) / W256))]) rfl rfl rfl rfl ?_
      dsimp only [putL, setL, List.set_cons_zero, List.set_cons_succ, List.nil_append, List.cons_append]
      refine wk_ext (numV (y * (lessW which) % W256)) rfl rfl rfl rfl rfl ?_
      dsimp only [putL, setL, List.set_cons_zero, List.set_cons_succ, List.nil_append, List.cons_append]
      refine wk_ext (numV (y * (lessW which) / W256)) rfl rfl rfl rfl rfl ?_
      dsimp only [putL, setL, List.set_cons_zero, List.set_cons_succ, List.nil_append, List.cons_append]
      refine wk_newN rfl rfl fun β6 => ?_
      dsimp only [putL, setL, List.set_cons_zero, List.set_cons_succ, List.nil_append, List.cons_append]
      refine wk_newN rfl rfl fun β7 => ?_
      dsimp only [putL, setL, List.set_cons_zero, List.set_cons_succ, List.nil_append, List.cons_append]
      refine wk_stN 3 (y * (lessW which) % W256) rfl rfl rfl rfl rfl rfl ?_
      dsimp only [putL, setL, List.set_cons_zero, List.set_cons_succ, List.nil_append, List.cons_append]
      refine wk_stN 4 (y * (lessW which) / W256) rfl rfl rfl rfl rfl rfl ?_
      dsimp only [putL, setL, List.set_cons_zero, List.set_cons_succ, List.nil_append, List.cons_append]
      refine wk_nil ?_
      refine sp_seq rfl ?_
      refine sp_region (π := [0, 1, 2, 3, 4, 5, 6, 7, 8]) [] rfl rfl ?_
      refine wk_ldN 0 rfl rfl rfl rfl rfl ?_
      dsimp only [putL, setL, List.set_cons_zero, List.set_cons_succ, List.nil_append, List.cons_append]
      refine wk_ldN 3 rfl rfl rfl rfl rfl ?_
      dsimp only [putL, setL, List.set_cons_zero, List.set_cons_succ, List.nil_append, List.cons_append]
      refine wk_call [(numV x), (numV (y * (lessW which) % W256))] (.tuple #[(numV ((x + (y * (lessW which) % W256)) % W256)), (.int .u64 (((x + (y * (lessW which) % W256)) / W256 : Nat) : Int))]) rfl rfl rfl (enters_of Try.func32 (by kernel_rfl) (by kernel_rfl)) rfl (radd_calls x (y * (lessW which) % W256) hf0 (Nat.mod_lt _ W256_pos)) ?_
      dsimp only [putL, setL, List.set_cons_zero, List.set_cons_succ, List.nil_append, List.cons_append]
      refine wk_move (.tuple #[(numV ((x + (y * (lessW which) % W256)) % W256)), (.int .u64 (((x + (y * (lessW which) % W256)) / W256 : Nat) : Int))]) rfl rfl rfl rfl ?_
      dsimp only [putL, setL, List.set_cons_zero, List.set_cons_succ, List.nil_append, List.cons_append]
      refine wk_ext (numV ((x + (y * (lessW which) % W256)) % W256)) rfl rfl rfl rfl rfl ?_
      dsimp only [putL, setL, List.set_cons_zero, List.set_cons_succ, List.nil_append, List.cons_append]
      refine wk_ext (.int .u64 (((x + (y * (lessW which) % W256)) / W256 : Nat) : Int)) rfl rfl rfl rfl rfl ?_
      dsimp only [putL, setL, List.set_cons_zero, List.set_cons_succ, List.nil_append, List.cons_append]
      refine wk_newN rfl rfl fun β8 => ?_
      dsimp only [putL, setL, List.set_cons_zero, List.set_cons_succ, List.nil_append, List.cons_append]
      refine wk_stN 5 ((x + (y * (lessW which) % W256)) % W256) rfl rfl rfl rfl rfl rfl ?_
      dsimp only [putL, setL, List.set_cons_zero, List.set_cons_succ, List.nil_append, List.cons_append]
      refine wk_assign (.int .u64 (((x + (y * (lessW which) % W256)) / W256 : Nat) : Int)) rfl rfl rfl rfl ?_
      dsimp only [putL, setL, List.set_cons_zero, List.set_cons_succ, List.nil_append, List.cons_append]
      refine wk_nil ?_
      refine sp_seq rfl ?_
      refine sp_region (π := [0, 1]) [] rfl rfl ?_
      refine wk_ldN 5 rfl rfl rfl rfl rfl ?_
      dsimp only [putL, setL, List.set_cons_zero, List.set_cons_succ, List.nil_append, List.cons_append]
      refine wk_stN 0 ((x + (y * (lessW which) % W256)) % W256) rfl rfl rfl rfl rfl rfl ?_
      dsimp only [putL, setL, List.set_cons_zero, List.set_cons_succ, List.nil_append, List.cons_append]
      refine wk_nil ?_
      refine sp_region (π := [0, 1, 2, 3, 4, 5, 6, 7]) [] rfl rfl ?_
      refine wk_ldN 4 rfl rfl rfl rfl rfl ?_
      dsimp only [putL, setL, List.set_cons_zero, List.set_cons_succ, List.nil_append, List.cons_append]
      refine wk_move (.int .u64 (((x + (y * (lessW which) % W256)) / W256 : Nat) : Int)) rfl rfl rfl rfl ?_
      dsimp only [putL, setL, List.set_cons_zero, List.set_cons_succ, List.nil_append, List.cons_append]
      refine wk_val (numV ((x + (y * (lessW which) % W256)) / W256)) rfl rfl rfl (fun w => by rw [← one_digit (carry_lt hf0 (Nat.mod_lt _ W256_pos))]; kernel_rfl) ?_
      dsimp only [putL, setL, List.set_cons_zero, List.set_cons_succ, List.nil_append, List.cons_append]
      refine wk_call [(numV (y * (lessW which) / W256)), (numV ((x + (y * (lessW which) % W256)) / W256))] (.tuple #[(numV ((y * (lessW which) / W256) + ((x + (y * (lessW which) % W256)) / W256))), (.int .u64 ((((y * (lessW which) / W256) + ((x + (y * (lessW which) % W256)) / W256)) / W256 : Nat) : Int))]) rfl rfl rfl (enters_of Try.func32 (by kernel_rfl) (by kernel_rfl)) rfl (conv (by rw [Nat.mod_eq_of_lt (rfold_step h hc4 hf0 hf1 hf2).1]) (radd_calls (y * (lessW which) / W256) ((x + (y * (lessW which) % W256)) / W256) (mul_hi hf1 (lessW_ok h).2.2.2) (Nat.lt_trans (carry_lt hf0 (Nat.mod_lt _ W256_pos)) (by decide)))) ?_
      dsimp only [putL, setL, List.set_cons_zero, List.set_cons_succ, List.nil_append, List.cons_append]
      refine wk_move (.tuple #[(numV ((y * (lessW which) / W256) + ((x + (y * (lessW which) % W256)) / W256))), (.int .u64 ((((y * (lessW which) / W256) + ((x + (y * (lessW which) % W256)) / W256)) / W256 : Nat) : Int))]) rfl rfl rfl rfl ?_
      dsimp only [putL, setL, List.set_cons_zero, List.set_cons_succ, List.nil_append, List.cons_append]
      refine wk_ext (numV ((y * (lessW which) / W256) + ((x + (y * (lessW which) % W256)) / W256))) rfl rfl rfl rfl rfl ?_
      dsimp only [putL, setL, List.set_cons_zero, List.set_cons_succ, List.nil_append, List.cons_append]
      refine wk_ext (.int .u64 ((((y * (lessW which) / W256) + ((x + (y * (lessW which) % W256)) / W256)) / W256 : Nat) : Int)) rfl rfl rfl rfl rfl ?_
      dsimp only [putL, setL, List.set_cons_zero, List.set_cons_succ, List.nil_append, List.cons_append]
      refine wk_stN 1 ((y * (lessW which) / W256) + ((x + (y * (lessW which) % W256)) / W256)) rfl rfl rfl rfl rfl rfl ?_
      dsimp only [putL, setL, List.set_cons_zero, List.set_cons_succ, List.nil_append, List.cons_append]
      refine wk_nil ?_
      exact ⟨[(β1, numO ((x + (y * (lessW which) % W256)) % W256)), (β2, numO ((y * (lessW which) / W256) + ((x + (y * (lessW which) % W256)) / W256))), (β3, numO 0)], _, by exact List.Sublist.cons_cons _ <| List.Sublist.cons_cons _ <| List.Sublist.cons_cons _ <| List.Sublist.cons _ <| List.Sublist.cons _ <| List.Sublist.cons _ <| List.Sublist.slnil, ⟨((x + (y * (lessW which) % W256)) % W256), ((y * (lessW which) / W256) + ((x + (y * (lessW which) % W256)) / W256)), (.pointer (some ⟨β6, 0, none⟩)), (.pointer (some ⟨β7, 0, none⟩)), (.pointer (some ⟨β8, 0, none⟩)), (.int .u64 (((x + (y * (lessW which) % W256)) / W256 : Nat) : Int)), (numV y), (numV 0), (.bool true), (.tuple #[(numV (y * (lessW which) % W256)), (numV (y * (lessW which) / W256))]), (numV y), (.int .i64 which), (numV (lessW which)), (.tuple #[(numV (y * (lessW which) % W256)), (numV (y * (lessW which) / W256))]), (numV (y * (lessW which) % W256)), (numV (y * (lessW which) / W256)), (.tuple #[(numV ((x + (y * (lessW which) % W256)) % W256)), (.int .u64 (((x + (y * (lessW which) % W256)) / W256 : Nat) : Int))]), (numV x), (numV (y * (lessW which) % W256)), (.tuple #[(numV ((x + (y * (lessW which) % W256)) % W256)), (.int .u64 (((x + (y * (lessW which) % W256)) / W256 : Nat) : Int))]), (numV ((x + (y * (lessW which) % W256)) % W256)), (.int .u64 (((x + (y * (lessW which) % W256)) / W256 : Nat) : Int)), (numV ((x + (y * (lessW which) % W256)) % W256)), (.tuple #[(numV ((y * (lessW which) / W256) + ((x + (y * (lessW which) % W256)) / W256))), (.int .u64 ((((y * (lessW which) / W256) + ((x + (y * (lessW which) % W256)) / W256)) / W256 : Nat) : Int))]), (numV (y * (lessW which) / W256)), (.int .u64 (((x + (y * (lessW which) % W256)) / W256 : Nat) : Int)), (numV ((x + (y * (lessW which) % W256)) / W256)), (.tuple #[(numV ((y * (lessW which) / W256) + ((x + (y * (lessW which) % W256)) / W256))), (.int .u64 ((((y * (lessW which) / W256) + ((x + (y * (lessW which) % W256)) / W256)) / W256 : Nat) : Int))]), (numV ((y * (lessW which) / W256) + ((x + (y * (lessW which) % W256)) / W256))), (.int .u64 ((((y * (lessW which) / W256) + ((x + (y * (lessW which) % W256)) / W256)) / W256 : Nat) : Int)), rfl, rfl, (Nat.mod_lt _ W256_pos), (rfold_step h hc4 hf0 hf1 hf2).1, (rfold_step h hc4 hf0 hf1 hf2).2.1, rfl⟩, (rfold_step h hc4 hf0 hf1 hf2).2.2⟩

set_option maxRecDepth 20000 in
set_option maxHeartbeats 400000 in
theorem rred_no (which : Int) (a : Nat) (h : ¬ okW which) (w : World) : Calls Try.prog 46 #[.int .i64 which, numV a] w fun r w' => r = .returned (numV 0) ∧ Below w.heap.size w w' := by
  refine fn_calls (l0 := [(.int .i64 which), (numV a), undef, undef, undef, undef, undef, undef, undef, undef, undef, undef, undef]) Try.func46 rfl rfl [] (St.start w) ?_
  refine sp_seq rfl ?_
  refine sp_region (π := [0, 1]) [] rfl rfl ?_
  refine wk_boxN a rfl rfl rfl fun β1 => ?_
  dsimp only [putL, setL, List.set_cons_zero, List.set_cons_succ, List.nil_append, List.cons_append]
  refine wk_newN rfl rfl fun β2 => ?_
  dsimp only [putL, setL, List.set_cons_zero, List.set_cons_succ, List.nil_append, List.cons_append]
  refine wk_nil ?_
  refine sp_seq rfl ?_
  refine sp_seq rfl ?_
  refine sp_region (π := [0, 1, 2]) [] rfl rfl ?_
  refine wk_move (.int .i64 which) rfl rfl rfl rfl ?_
  dsimp only [putL, setL, List.set_cons_zero, List.set_cons_succ, List.nil_append, List.cons_append]
  refine wk_call [(.int .i64 which)] (.bool false) rfl rfl rfl (enters_of Try.func77 (by kernel_rfl) (by kernel_rfl)) rfl (rok_no which h) ?_
  dsimp only [putL, setL, List.set_cons_zero, List.set_cons_succ, List.nil_append, List.cons_append]
  refine wk_not false rfl rfl rfl rfl ?_
  dsimp only [putL, setL, List.set_cons_zero, List.set_cons_succ, List.nil_append, List.cons_append]
  refine wk_nil ?_
  refine sp_true rfl rfl ?_
  refine sp_seq rfl ?_
  refine sp_region (π := [0, 1]) [] rfl rfl ?_
  refine wk_val (numV 0) rfl rfl rfl (fun w => by kernel_rfl) ?_
  dsimp only [putL, setL, List.set_cons_zero, List.set_cons_succ, List.nil_append, List.cons_append]
  refine wk_stN 1 0 rfl rfl rfl rfl rfl rfl ?_
  dsimp only [putL, setL, List.set_cons_zero, List.set_cons_succ, List.nil_append, List.cons_append]
  refine wk_nil ?_
  refine sp_ret rfl ?_
  exact ret_numC 1 rfl rfl rfl fun w' hw => ⟨rfl, hw.below⟩

set_option maxRecDepth 20000 in
set_option maxHeartbeats 400000 in
theorem rfadd_no (which : Int) (a b : Nat) (h : ¬ okW which) (w : World) : Calls Try.prog 48 #[.int .i64 which, numV a, numV b] w fun r w' => r = .returned (numV 0) ∧ Below w.heap.size w w' := by
  refine fn_calls (l0 := [(.int .i64 which), (numV a), (numV b), undef, undef, undef, undef, undef, undef, undef, undef, undef, undef, undef, undef, undef, undef, undef, undef, undef, undef, undef, undef, undef, undef, undef, undef, undef]) Try.func48 rfl rfl [] (St.start w) ?_
  refine sp_seq rfl ?_
  refine sp_region (π := [0, 1, 2]) [] rfl rfl ?_
  refine wk_boxN a rfl rfl rfl fun β1 => ?_
  dsimp only [putL, setL, List.set_cons_zero, List.set_cons_succ, List.nil_append, List.cons_append]
  refine wk_boxN b rfl rfl rfl fun β2 => ?_
  dsimp only [putL, setL, List.set_cons_zero, List.set_cons_succ, List.nil_append, List.cons_append]
  refine wk_newN rfl rfl fun β3 => ?_
  dsimp only [putL, setL, List.set_cons_zero, List.set_cons_succ, List.nil_append, List.cons_append]
  refine wk_nil ?_
  refine sp_seq rfl ?_
  refine sp_seq rfl ?_
  refine sp_region (π := [0, 1, 2]) [] rfl rfl ?_
  refine wk_move (.int .i64 which) rfl rfl rfl rfl ?_
  dsimp only [putL, setL, List.set_cons_zero, List.set_cons_succ, List.nil_append, List.cons_append]
  refine wk_call [(.int .i64 which)] (.bool false) rfl rfl rfl (enters_of Try.func77 (by kernel_rfl) (by kernel_rfl)) rfl (rok_no which h) ?_
  dsimp only [putL, setL, List.set_cons_zero, List.set_cons_succ, List.nil_append, List.cons_append]
  refine wk_not false rfl rfl rfl rfl ?_
  dsimp only [putL, setL, List.set_cons_zero, List.set_cons_succ, List.nil_append, List.cons_append]
  refine wk_nil ?_
  refine sp_true rfl rfl ?_
  refine sp_seq rfl ?_
  refine sp_region (π := [0, 1]) [] rfl rfl ?_
  refine wk_val (numV 0) rfl rfl rfl (fun w => by kernel_rfl) ?_
  dsimp only [putL, setL, List.set_cons_zero, List.set_cons_succ, List.nil_append, List.cons_append]
  refine wk_stN 2 0 rfl rfl rfl rfl rfl rfl ?_
  dsimp only [putL, setL, List.set_cons_zero, List.set_cons_succ, List.nil_append, List.cons_append]
  refine wk_nil ?_
  refine sp_ret rfl ?_
  exact ret_numC 2 rfl rfl rfl fun w' hw => ⟨rfl, hw.below⟩

set_option maxRecDepth 20000 in
set_option maxHeartbeats 400000 in
theorem rfmul_no (which : Int) (a b : Nat) (h : ¬ okW which) (w : World) : Calls Try.prog 52 #[.int .i64 which, numV a, numV b] w fun r w' => r = .returned (numV 0) ∧ Below w.heap.size w w' := by
  refine fn_calls (l0 := [(.int .i64 which), (numV a), (numV b), undef, undef, undef, undef, undef, undef, undef, undef, undef, undef, undef, undef, undef, undef, undef, undef, undef, undef, undef, undef]) Try.func52 rfl rfl [] (St.start w) ?_
  refine sp_seq rfl ?_
  refine sp_region (π := [0, 1, 2]) [] rfl rfl ?_
  refine wk_boxN a rfl rfl rfl fun β1 => ?_
  dsimp only [putL, setL, List.set_cons_zero, List.set_cons_succ, List.nil_append, List.cons_append]
  refine wk_boxN b rfl rfl rfl fun β2 => ?_
  dsimp only [putL, setL, List.set_cons_zero, List.set_cons_succ, List.nil_append, List.cons_append]
  refine wk_newN rfl rfl fun β3 => ?_
  dsimp only [putL, setL, List.set_cons_zero, List.set_cons_succ, List.nil_append, List.cons_append]
  refine wk_nil ?_
  refine sp_seq rfl ?_
  refine sp_seq rfl ?_
  refine sp_region (π := [0, 1, 2]) [] rfl rfl ?_
  refine wk_move (.int .i64 which) rfl rfl rfl rfl ?_
  dsimp only [putL, setL, List.set_cons_zero, List.set_cons_succ, List.nil_append, List.cons_append]
  refine wk_call [(.int .i64 which)] (.bool false) rfl rfl rfl (enters_of Try.func77 (by kernel_rfl) (by kernel_rfl)) rfl (rok_no which h) ?_
  dsimp only [putL, setL, List.set_cons_zero, List.set_cons_succ, List.nil_append, List.cons_append]
  refine wk_not false rfl rfl rfl rfl ?_
  dsimp only [putL, setL, List.set_cons_zero, List.set_cons_succ, List.nil_append, List.cons_append]
  refine wk_nil ?_
  refine sp_true rfl rfl ?_
  refine sp_seq rfl ?_
  refine sp_region (π := [0, 1]) [] rfl rfl ?_
  refine wk_val (numV 0) rfl rfl rfl (fun w => by kernel_rfl) ?_
  dsimp only [putL, setL, List.set_cons_zero, List.set_cons_succ, List.nil_append, List.cons_append]
  refine wk_stN 2 0 rfl rfl rfl rfl rfl rfl ?_
  dsimp only [putL, setL, List.set_cons_zero, List.set_cons_succ, List.nil_append, List.cons_append]
  refine wk_nil ?_
  refine sp_ret rfl ?_
  exact ret_numC 2 rfl rfl rfl fun w' hw => ⟨rfl, hw.below⟩

set_option maxRecDepth 20000 in
set_option maxHeartbeats 400000 in
theorem rfsub_no (which : Int) (a b : Nat) (h : ¬ okW which) (w : World) : Calls Try.prog 50 #[.int .i64 which, numV a, numV b] w fun r w' => r = .returned (numV 0) ∧ Below w.heap.size w w' := by
  refine fn_calls (l0 := [(.int .i64 which), (numV a), (numV b), undef, undef, undef, undef, undef, undef, undef, undef, undef, undef, undef, undef, undef, undef, undef, undef, undef, undef, undef, undef, undef, undef, undef]) Try.func50 rfl rfl [] (St.start w) ?_
  refine sp_seq rfl ?_
  refine sp_region (π := [0, 1, 2]) [] rfl rfl ?_
  refine wk_boxN a rfl rfl rfl fun β1 => ?_
  dsimp only [putL, setL, List.set_cons_zero, List.set_cons_succ, List.nil_append, List.cons_append]
  refine wk_boxN b rfl rfl rfl fun β2 => ?_
  dsimp only [putL, setL, List.set_cons_zero, List.set_cons_succ, List.nil_append, List.cons_append]
  refine wk_newN rfl rfl fun β3 => ?_
  dsimp only [putL, setL, List.set_cons_zero, List.set_cons_succ, List.nil_append, List.cons_append]
  refine wk_nil ?_
  refine sp_seq rfl ?_
  refine sp_seq rfl ?_
  refine sp_region (π := [0, 1, 2]) [] rfl rfl ?_
  refine wk_move (.int .i64 which) rfl rfl rfl rfl ?_
  dsimp only [putL, setL, List.set_cons_zero, List.set_cons_succ, List.nil_append, List.cons_append]
  refine wk_call [(.int .i64 which)] (.bool false) rfl rfl rfl (enters_of Try.func77 (by kernel_rfl) (by kernel_rfl)) rfl (rok_no which h) ?_
  dsimp only [putL, setL, List.set_cons_zero, List.set_cons_succ, List.nil_append, List.cons_append]
  refine wk_not false rfl rfl rfl rfl ?_
  dsimp only [putL, setL, List.set_cons_zero, List.set_cons_succ, List.nil_append, List.cons_append]
  refine wk_nil ?_
  refine sp_true rfl rfl ?_
  refine sp_seq rfl ?_
  refine sp_region (π := [0, 1]) [] rfl rfl ?_
  refine wk_val (numV 0) rfl rfl rfl (fun w => by kernel_rfl) ?_
  dsimp only [putL, setL, List.set_cons_zero, List.set_cons_succ, List.nil_append, List.cons_append]
  refine wk_stN 2 0 rfl rfl rfl rfl rfl rfl ?_
  dsimp only [putL, setL, List.set_cons_zero, List.set_cons_succ, List.nil_append, List.cons_append]
  refine wk_nil ?_
  refine sp_ret rfl ?_
  exact ret_numC 2 rfl rfl rfl fun w' hw => ⟨rfl, hw.below⟩

set_option maxRecDepth 20000 in
set_option maxHeartbeats 400000 in
theorem rred_ok (which : Int) (a : Nat) (h : okW which) (ha : a < W256) (w : World) : Calls Try.prog 46 #[.int .i64 which, numV a] w fun r w' => r = .returned (numV (a % modW which)) ∧ Below w.heap.size w w' := by
  refine fn_calls (l0 := [(.int .i64 which), (numV a), undef, undef, undef, undef, undef, undef, undef, undef, undef, undef, undef]) Try.func46 rfl rfl [] (St.start w) ?_
  refine sp_seq rfl ?_
  refine sp_region (π := [0, 1]) [] rfl rfl ?_
  refine wk_boxN a rfl rfl rfl fun β1 => ?_
  dsimp only [putL, setL, List.set_cons_zero, List.set_cons_succ, List.nil_append, List.cons_append]
  refine wk_newN rfl rfl fun β2 => ?_
  dsimp only [putL, setL, List.set_cons_zero, List.set_cons_succ, List.nil_append, List.cons_append]
  refine wk_nil ?_
  refine sp_seq rfl ?_
  refine sp_seq rfl ?_
  refine sp_region (π := [0, 1, 2]) [] rfl rfl ?_
  refine wk_move (.int .i64 which) rfl rfl rfl rfl ?_
  dsimp only [putL, setL, List.set_cons_zero, List.set_cons_succ, List.nil_append, List.cons_append]
  refine wk_call [(.int .i64 which)] (.bool true) rfl rfl rfl (enters_of Try.func77 (by kernel_rfl) (by kernel_rfl)) rfl (rok_yes which h) ?_
  dsimp only [putL, setL, List.set_cons_zero, List.set_cons_succ, List.nil_append, List.cons_append]
  refine wk_not true rfl rfl rfl rfl ?_
  dsimp only [putL, setL, List.set_cons_zero, List.set_cons_succ, List.nil_append, List.cons_append]
  refine wk_nil ?_
  refine sp_false rfl rfl ?_
  refine sp_skip rfl ?_
  refine sp_seq rfl ?_
  refine sp_region (π := [0, 1, 2, 3, 4]) [] rfl rfl ?_
  refine wk_move (.int .i64 which) rfl rfl rfl rfl ?_
  dsimp only [putL, setL, List.set_cons_zero, List.set_cons_succ, List.nil_append, List.cons_append]
  refine wk_ldN 0 rfl rfl rfl rfl rfl ?_
  dsimp only [putL, setL, List.set_cons_zero, List.set_cons_succ, List.nil_append, List.cons_append]
  refine wk_val (numV 0) rfl rfl rfl (fun w => by kernel_rfl) ?_
  dsimp only [putL, setL, List.set_cons_zero, List.set_cons_succ, List.nil_append, List.cons_append]
  refine wk_call [(.int .i64 which), (numV a), (numV 0)] (numV (a % modW which)) rfl rfl rfl (enters_of Try.func78 (by kernel_rfl) (by kernel_rfl)) rfl (conv (congrArg numV (by rw [Nat.zero_mul, Nat.zero_add])) (rfold_ok which a 0 h ha (by decide))) ?_
  dsimp only [putL, setL, List.set_cons_zero, List.set_cons_succ, List.nil_append, List.cons_append]
  refine wk_stN 1 (a % modW which) rfl rfl rfl rfl rfl rfl ?_
  dsimp only [putL, setL, List.set_cons_zero, List.set_cons_succ, List.nil_append, List.cons_append]
  refine wk_nil ?_
  refine sp_ret rfl ?_
  exact ret_numC 1 rfl rfl rfl fun w' hw => ⟨rfl, hw.below⟩

set_option maxRecDepth 20000 in
set_option maxHeartbeats 400000 in
theorem rfadd_ok (which : Int) (a b : Nat) (h : okW which) (ha : a < W256) (hb : b < W256) (w : World) : Calls Try.prog 48 #[.int .i64 which, numV a, numV b] w fun r w' => r = .returned (numV ((a + b) % modW which)) ∧ Below w.heap.size w w' := by
  obtain ⟨x, hx⟩ : ∃ x, x = (a % modW which + b % modW which) / W256 := ⟨_, rfl⟩
  have hx1 : x < 18446744073709551616 := by rw [hx]; exact carry_lt (Nat.lt_trans (Nat.mod_lt _ (modW_pos h)) (modW_lt which)) (Nat.lt_trans (Nat.mod_lt _ (modW_pos h)) (modW_lt which))
  refine fn_calls (l0 := [(.int .i64 which), (numV a), (numV b), undef, undef, undef, undef, undef, undef, undef, undef, undef, undef, undef, undef, undef, undef, undef, undef, undef, undef, undef, undef, undef, undef, undef, undef, undef]) Try.func48 rfl rfl [] (St.start w) ?_
  refine sp_seq rfl ?_
  refine sp_region (π := [0, 1, 2]) [] rfl rfl ?_
  refine wk_boxN a rfl rfl rfl fun β1 => ?_
  dsimp only [putL, setL, List.set_cons_zero, List.set_cons_succ, List.nil_append, List.cons_append]
  refine wk_boxN b rfl rfl rfl fun β2 => ?_
  dsimp only [putL, setL, List.set_cons_zero, List.set_cons_succ, List.nil_append, List.cons_append]
  refine wk_newN rfl rfl fun β3 => ?_
  dsimp only [putL, setL, List.set_cons_zero, List.set_cons_succ, List.nil_append, List.cons_append]
  refine wk_nil ?_
  refine sp_seq rfl ?_
  refine sp_seq rfl ?_
  refine sp_region (π := [0, 1, 2]) [] rfl rfl ?_
  refine wk_move (.int .i64 which) rfl rfl rfl rfl ?_
  dsimp only [putL, setL, List.set_cons_zero, List.set_cons_succ, List.nil_append, List.cons_append]
  refine wk_call [(.int .i64 which)] (.bool true) rfl rfl rfl (enters_of Try.func77 (by kernel_rfl) (by kernel_rfl)) rfl (rok_yes which h) ?_
  dsimp only [putL, setL, List.set_cons_zero, List.set_cons_succ, List.nil_append, List.cons_append]
  refine wk_not true rfl rfl rfl rfl ?_
  dsimp only [putL, setL, List.set_cons_zero, List.set_cons_succ, List.nil_append, List.cons_append]
  refine wk_nil ?_
  refine sp_false rfl rfl ?_
  refine sp_skip rfl ?_
  refine sp_seq rfl ?_
  refine sp_draw [0, 1, 3, 4, 2, 5, 6, 7, 8, 9, 10, 11, 12] [] mixed rfl (by kernel_rfl) (by kernel_rfl) ?_
  refine wk_move (.int .i64 which) rfl rfl rfl rfl ?_
  dsimp only [putL, setL, List.set_cons_zero, List.set_cons_succ, List.nil_append, List.cons_append]
  refine wk_ldN 0 rfl rfl rfl rfl rfl ?_
  dsimp only [putL, setL, List.set_cons_zero, List.set_cons_succ, List.nil_append, List.cons_append]
  refine wk_move (.int .i64 which) rfl rfl rfl rfl ?_
  dsimp only [putL, setL, List.set_cons_zero, List.set_cons_succ, List.nil_append, List.cons_append]
  refine wk_ldN 1 rfl rfl rfl rfl rfl ?_
  dsimp only [putL, setL, List.set_cons_zero, List.set_cons_succ, List.nil_append, List.cons_append]
  refine wk_call [(.int .i64 which), (numV a)] (numV (a % modW which)) rfl rfl rfl (enters_of Try.func46 (by kernel_rfl) (by kernel_rfl)) rfl (rred_ok which a h ha) ?_
  dsimp only [putL, setL, List.set_cons_zero, List.set_cons_succ, List.nil_append, List.cons_append]
  refine wk_call [(.int .i64 which), (numV b)] (numV (b % modW which)) rfl rfl rfl (enters_of Try.func46 (by kernel_rfl) (by kernel_rfl)) rfl (rred_ok which b h hb) ?_
  dsimp only [putL, setL, List.set_cons_zero, List.set_cons_succ, List.nil_append, List.cons_append]
  refine wk_call [(numV (a % modW which)), (numV (b % modW which))] (.tuple #[(numV ((a % modW which + b % modW which) % W256)), (.int .u64 (x : Int))]) rfl rfl rfl (enters_of Try.func32 (by kernel_rfl) (by kernel_rfl)) rfl (conv (by rw [← hx]) (radd_calls (a % modW which) (b % modW which) (Nat.lt_trans (Nat.mod_lt _ (modW_pos h)) (modW_lt which)) (Nat.lt_trans (Nat.mod_lt _ (modW_pos h)) (modW_lt which)))) ?_
  dsimp only [putL, setL, List.set_cons_zero, List.set_cons_succ, List.nil_append, List.cons_append]
  refine wk_move (.tuple #[(numV ((a % modW which + b % modW which) % W256)), (.int .u64 (x : Int))]) rfl rfl rfl rfl ?_
  dsimp only [putL, setL, List.set_cons_zero, List.set_cons_succ, List.nil_append, List.cons_append]
  refine wk_ext (numV ((a % modW which + b % modW which) % W256)) rfl rfl rfl rfl rfl ?_
  dsimp only [putL, setL, List.set_cons_zero, List.set_cons_succ, List.nil_append, List.cons_append]
  refine wk_ext (.int .u64 (x : Int)) rfl rfl rfl rfl rfl ?_
  dsimp only [putL, setL, List.set_cons_zero, List.set_cons_succ, List.nil_append, List.cons_append]
  refine wk_newN rfl rfl fun β4 => ?_
  dsimp only [putL, setL, List.set_cons_zero, List.set_cons_succ, List.nil_append, List.cons_append]
  refine wk_stN 3 ((a % modW which + b % modW which) % W256) rfl rfl rfl rfl rfl rfl ?_
  dsimp only [putL, setL, List.set_cons_zero, List.set_cons_succ, List.nil_append, List.cons_append]
  refine wk_assign (.int .u64 (x : Int)) rfl rfl rfl rfl ?_
  dsimp only [putL, setL, List.set_cons_zero, List.set_cons_succ, List.nil_append, List.cons_append]
  refine wk_nil ?_
  refine sp_seq rfl ?_
  refine sp_region (π := [0, 1, 2, 3, 4, 5]) [] rfl rfl ?_
  refine wk_move (.int .i64 which) rfl rfl rfl rfl ?_
  dsimp only [putL, setL, List.set_cons_zero, List.set_cons_succ, List.nil_append, List.cons_append]
  refine wk_ldN 3 rfl rfl rfl rfl rfl ?_
  dsimp only [putL, setL, List.set_cons_zero, List.set_cons_succ, List.nil_append, List.cons_append]
  refine wk_move (.int .u64 (x : Int)) rfl rfl rfl rfl ?_
  dsimp only [putL, setL, List.set_cons_zero, List.set_cons_succ, List.nil_append, List.cons_append]
  refine wk_val (numV x) rfl rfl rfl (fun w => by rw [← one_digit hx1]; kernel_rfl) ?_
  dsimp only [putL, setL, List.set_cons_zero, List.set_cons_succ, List.nil_append, List.cons_append]
  refine wk_call [(.int .i64 which), (numV ((a % modW which + b % modW which) % W256)), (numV x)] (numV ((a + b) % modW which)) rfl rfl rfl (enters_of Try.func78 (by kernel_rfl) (by kernel_rfl)) rfl (conv (congrArg numV (by rw [rwide rfl hx, rsum_mod])) (rfold_ok which ((a % modW which + b % modW which) % W256) x h (Nat.mod_lt _ W256_pos) (Nat.lt_trans hx1 (by decide)))) ?_
  dsimp only [putL, setL, List.set_cons_zero, List.set_cons_succ, List.nil_append, List.cons_append]
  refine wk_stN 2 ((a + b) % modW which) rfl rfl rfl rfl rfl rfl ?_
  dsimp only [putL, setL, List.set_cons_zero, List.set_cons_succ, List.nil_append, List.cons_append]
  refine wk_nil ?_
  refine sp_ret rfl ?_
  exact ret_numC 2 rfl rfl rfl fun w' hw => ⟨rfl, hw.below⟩

set_option maxRecDepth 20000 in
set_option maxHeartbeats 400000 in
theorem rfmul_ok (which : Int) (a b : Nat) (h : okW which) (ha : a < W256) (hb : b < W256) (w : World) : Calls Try.prog 52 #[.int .i64 which, numV a, numV b] w fun r w' => r = .returned (numV (a * b % modW which)) ∧ Below w.heap.size w w' := by
  refine fn_calls (l0 := [(.int .i64 which), (numV a), (numV b), undef, undef, undef, undef, undef, undef, undef, undef, undef, undef, undef, undef, undef, undef, undef, undef, undef, undef, undef, undef]) Try.func52 rfl rfl [] (St.start w) ?_
  refine sp_seq rfl ?_
  refine sp_region (π := [0, 1, 2]) [] rfl rfl ?_
  refine wk_boxN a rfl rfl rfl fun β1 => ?_
  dsimp only [putL, setL, List.set_cons_zero, List.set_cons_succ, List.nil_append, List.cons_append]
  refine wk_boxN b rfl rfl rfl fun β2 => ?_
  dsimp only [putL, setL, List.set_cons_zero, List.set_cons_succ, List.nil_append, List.cons_append]
  refine wk_newN rfl rfl fun β3 => ?_
  dsimp only [putL, setL, List.set_cons_zero, List.set_cons_succ, List.nil_append, List.cons_append]
  refine wk_nil ?_
  refine sp_seq rfl ?_
  refine sp_seq rfl ?_
  refine sp_region (π := [0, 1, 2]) [] rfl rfl ?_
  refine wk_move (.int .i64 which) rfl rfl rfl rfl ?_
  dsimp only [putL, setL, List.set_cons_zero, List.set_cons_succ, List.nil_append, List.cons_append]
  refine wk_call [(.int .i64 which)] (.bool true) rfl rfl rfl (enters_of Try.func77 (by kernel_rfl) (by kernel_rfl)) rfl (rok_yes which h) ?_
  dsimp only [putL, setL, List.set_cons_zero, List.set_cons_succ, List.nil_append, List.cons_append]
  refine wk_not true rfl rfl rfl rfl ?_
  dsimp only [putL, setL, List.set_cons_zero, List.set_cons_succ, List.nil_append, List.cons_append]
  refine wk_nil ?_
  refine sp_false rfl rfl ?_
  refine sp_skip rfl ?_
  refine sp_seq rfl ?_
  refine sp_region (π := [0, 1, 2, 3, 4, 5, 6, 7, 8, 9]) [] rfl rfl ?_
  refine wk_ldN 0 rfl rfl rfl rfl rfl ?_
  dsimp only [putL, setL, List.set_cons_zero, List.set_cons_succ, List.nil_append, List.cons_append]
  refine wk_ldN 1 rfl rfl rfl rfl rfl ?_
  dsimp only [putL, setL, List.set_cons_zero, List.set_cons_succ, List.nil_append, List.cons_append]
  refine wk_call [(numV a), (numV b)] (.tuple #[(numV (a * b % W256)), (numV (a * b / W256))]) rfl rfl rfl (enters_of Try.func34 (by kernel_rfl) (by kernel_rfl)) rfl (rmul_calls a b ha hb) ?_
  dsimp only [putL, setL, List.set_cons_zero, List.set_cons_succ, List.nil_append, List.cons_append]
  refine wk_move (.tuple #[(numV (a * b % W256)), (numV (a * b / W256))]) rfl rfl rfl rfl ?_
  dsimp only [putL, setL, List.set_cons_zero, List.set_cons_succ, List.nil_append, List.cons_append]
  refine wk_ext (numV (a * b % W256)) rfl rfl rfl rfl rfl ?_
  dsimp only [putL, setL, List.set_cons_zero, List.set_cons_succ, List.nil_append, List.cons_append]
  refine wk_ext (numV (a * b / W256)) rfl rfl rfl rfl rfl ?_
  dsimp only [putL, setL, List.set_cons_zero, List.set_cons_succ, List.nil_append, List.cons_append]
  refine wk_newN rfl rfl fun β4 => ?_
  dsimp only [putL, setL, List.set_cons_zero, List.set_cons_succ, List.nil_append, List.cons_append]
  refine wk_newN rfl rfl fun β5 => ?_
  dsimp only [putL, setL, List.set_cons_zero, List.set_cons_succ, List.nil_append, List.cons_append]
  refine wk_stN 3 (a * b % W256) rfl rfl rfl rfl rfl rfl ?_
  dsimp only [putL, setL, List.set_cons_zero, List.set_cons_succ, List.nil_append, List.cons_append]
  refine wk_stN 4 (a * b / W256) rfl rfl rfl rfl rfl rfl ?_
  dsimp only [putL, setL, List.set_cons_zero, List.set_cons_succ, List.nil_append, List.cons_append]
  refine wk_nil ?_
  refine sp_seq rfl ?_
  refine sp_region (π := [0, 1, 2, 3, 4]) [] rfl rfl ?_
  refine wk_move (.int .i64 which) rfl rfl rfl rfl ?_
  dsimp only [putL, setL, List.set_cons_zero, List.set_cons_succ, List.nil_append, List.cons_append]
  refine wk_ldN 3 rfl rfl rfl rfl rfl ?_
  dsimp only [putL, setL, List.set_cons_zero, List.set_cons_succ, List.nil_append, List.cons_append]
  refine wk_ldN 4 rfl rfl rfl rfl rfl ?_
  dsimp only [putL, setL, List.set_cons_zero, List.set_cons_succ, List.nil_append, List.cons_append]
  refine wk_call [(.int .i64 which), (numV (a * b % W256)), (numV (a * b / W256))] (numV (a * b % modW which)) rfl rfl rfl (enters_of Try.func78 (by kernel_rfl) (by kernel_rfl)) rfl (conv (congrArg numV (rwide rfl rfl)) (rfold_ok which (a * b % W256) (a * b / W256) h (Nat.mod_lt _ W256_pos) (mul_hi ha hb))) ?_
  dsimp only [putL, setL, List.set_cons_zero, List.set_cons_succ, List.nil_append, List.cons_append]
  refine wk_stN 2 (a * b % modW which) rfl rfl rfl rfl rfl rfl ?_
  dsimp only [putL, setL, List.set_cons_zero, List.set_cons_succ, List.nil_append, List.cons_append]
  refine wk_nil ?_
  refine sp_ret rfl ?_
  exact ret_numC 2 rfl rfl rfl fun w' hw => ⟨rfl, hw.below⟩

set_option maxRecDepth 20000 in
set_option maxHeartbeats 400000 in
theorem rfsub_ok (which : Int) (a b : Nat) (h : okW which) (ha : a < W256) (hb : b < W256) (w : World) : Calls Try.prog 50 #[.int .i64 which, numV a, numV b] w fun r w' => r = .returned (numV (subM (modW which) a b)) ∧ Below w.heap.size w w' := by
  have hm := modW_lt which
  have h1 := Nat.mod_lt b (modW_pos h)
  have er : (modW which + W256 - b % modW which) % W256 = modW which - b % modW which := by
    rw [show modW which + W256 - b % modW which = (modW which - b % modW which) + W256 by omega, Nat.add_mod_right, Nat.mod_eq_of_lt (by omega)]
  have hr : modW which - b % modW which < W256 := by omega
  refine fn_calls (l0 := [(.int .i64 which), (numV a), (numV b), undef, undef, undef, undef, undef, undef, undef, undef, undef, undef, undef, undef, undef, undef, undef, undef, undef, undef, undef, undef, undef, undef, undef]) Try.func50 rfl rfl [] (St.start w) ?_
  refine sp_seq rfl ?_
  refine sp_region (π := [0, 1, 2]) [] rfl rfl ?_
  refine wk_boxN a rfl rfl rfl fun β1 => ?_
  dsimp only [putL, setL, List.set_cons_zero, List.set_cons_succ, List.nil_append, List.cons_append]
  refine wk_boxN b rfl rfl rfl fun β2 => ?_
  dsimp only [putL, setL, List.set_cons_zero, List.set_cons_succ, List.nil_append, List.cons_append]
  refine wk_newN rfl rfl fun β3 => ?_
  dsimp only [putL, setL, List.set_cons_zero, List.set_cons_succ, List.nil_append, List.cons_append]
  refine wk_nil ?_
  refine sp_seq rfl ?_
  refine sp_seq rfl ?_
  refine sp_region (π := [0, 1, 2]) [] rfl rfl ?_
  refine wk_move (.int .i64 which) rfl rfl rfl rfl ?_
  dsimp only [putL, setL, List.set_cons_zero, List.set_cons_succ, List.nil_append, List.cons_append]
  refine wk_call [(.int .i64 which)] (.bool true) rfl rfl rfl (enters_of Try.func77 (by kernel_rfl) (by kernel_rfl)) rfl (rok_yes which h) ?_
  dsimp only [putL, setL, List.set_cons_zero, List.set_cons_succ, List.nil_append, List.cons_append]
  refine wk_not true rfl rfl rfl rfl ?_
  dsimp only [putL, setL, List.set_cons_zero, List.set_cons_succ, List.nil_append, List.cons_append]
  refine wk_nil ?_
  refine sp_false rfl rfl ?_
  refine sp_skip rfl ?_
  refine sp_seq rfl ?_
  refine sp_draw [0, 2, 3, 1, 4, 5, 6, 7, 8, 9, 10, 11] [] mixed rfl (by kernel_rfl) (by kernel_rfl) ?_
  refine wk_move (.int .i64 which) rfl rfl rfl rfl ?_
  dsimp only [putL, setL, List.set_cons_zero, List.set_cons_succ, List.nil_append, List.cons_append]
  refine wk_move (.int .i64 which) rfl rfl rfl rfl ?_
  dsimp only [putL, setL, List.set_cons_zero, List.set_cons_succ, List.nil_append, List.cons_append]
  refine wk_ldN 1 rfl rfl rfl rfl rfl ?_
  dsimp only [putL, setL, List.set_cons_zero, List.set_cons_succ, List.nil_append, List.cons_append]
  refine wk_call [(.int .i64 which)] (numV (modW which)) rfl rfl rfl (enters_of Try.func44 (by kernel_rfl) (by kernel_rfl)) rfl (rprime_ok which h) ?_
  dsimp only [putL, setL, List.set_cons_zero, List.set_cons_succ, List.nil_append, List.cons_append]
  refine wk_call [(.int .i64 which), (numV b)] (numV (b % modW which)) rfl rfl rfl (enters_of Try.func46 (by kernel_rfl) (by kernel_rfl)) rfl (rred_ok which b h hb) ?_
  dsimp only [putL, setL, List.set_cons_zero, List.set_cons_succ, List.nil_append, List.cons_append]
  refine wk_call [(numV (modW which)), (numV (b % modW which))] (.tuple #[(numV (modW which - b % modW which)), (.int .u64 ((if modW which < b % modW which then 1 else 0 : Nat) : Int))]) rfl rfl rfl (enters_of Try.func33 (by kernel_rfl) (by kernel_rfl)) rfl (conv (by rw [er]) (rsub_calls (modW which) (b % modW which) hm (Nat.lt_trans (Nat.mod_lt _ (modW_pos h)) (modW_lt which)))) ?_
  dsimp only [putL, setL, List.set_cons_zero, List.set_cons_succ, List.nil_append, List.cons_append]
  refine wk_move (.tuple #[(numV (modW which - b % modW which)), (.int .u64 ((if modW which < b % modW which then 1 else 0 : Nat) : Int))]) rfl rfl rfl rfl ?_
  dsimp only [putL, setL, List.set_cons_zero, List.set_cons_succ, List.nil_append, List.cons_append]
  refine wk_ext (numV (modW which - b % modW which)) rfl rfl rfl rfl rfl ?_
  dsimp only [putL, setL, List.set_cons_zero, List.set_cons_succ, List.nil_append, List.cons_append]
  refine wk_ext (.int .u64 ((if modW which < b % modW which then 1 else 0 : Nat) : Int)) rfl rfl rfl rfl rfl ?_
  dsimp only [putL, setL, List.set_cons_zero, List.set_cons_succ, List.nil_append, List.cons_append]
  refine wk_newN rfl rfl fun β4 => ?_
  dsimp only [putL, setL, List.set_cons_zero, List.set_cons_succ, List.nil_append, List.cons_append]
  refine wk_stN 3 (modW which - b % modW which) rfl rfl rfl rfl rfl rfl ?_
  dsimp only [putL, setL, List.set_cons_zero, List.set_cons_succ, List.nil_append, List.cons_append]
  refine wk_assign (.int .u64 ((if modW which < b % modW which then 1 else 0 : Nat) : Int)) rfl rfl rfl rfl ?_
  dsimp only [putL, setL, List.set_cons_zero, List.set_cons_succ, List.nil_append, List.cons_append]
  refine wk_nil ?_
  refine sp_seq rfl ?_
  refine sp_region (π := [0, 1, 2, 3, 4]) [] rfl rfl ?_
  refine wk_move (.int .i64 which) rfl rfl rfl rfl ?_
  dsimp only [putL, setL, List.set_cons_zero, List.set_cons_succ, List.nil_append, List.cons_append]
  refine wk_ldN 0 rfl rfl rfl rfl rfl ?_
  dsimp only [putL, setL, List.set_cons_zero, List.set_cons_succ, List.nil_append, List.cons_append]
  refine wk_ldN 3 rfl rfl rfl rfl rfl ?_
  dsimp only [putL, setL, List.set_cons_zero, List.set_cons_succ, List.nil_append, List.cons_append]
  refine wk_call [(.int .i64 which), (numV a), (numV (modW which - b % modW which))] (numV (subM (modW which) a b)) rfl rfl rfl (enters_of Try.func48 (by kernel_rfl) (by kernel_rfl)) rfl (rfadd_ok which a (modW which - b % modW which) h ha hr) ?_
  dsimp only [putL, setL, List.set_cons_zero, List.set_cons_succ, List.nil_append, List.cons_append]
  refine wk_stN 2 (subM (modW which) a b) rfl rfl rfl rfl rfl rfl ?_
  dsimp only [putL, setL, List.set_cons_zero, List.set_cons_succ, List.nil_append, List.cons_append]
  refine wk_nil ?_
  refine sp_ret rfl ?_
  exact ret_numC 2 rfl rfl rfl fun w' hw => ⟨rfl, hw.below⟩

set_option maxRecDepth 20000 in
set_option maxHeartbeats 400000 in
theorem rpow_ok (which : Int) (a e : Nat) (h : okW which) (ha : a < W256) (he : e < W256) (w : World) : Calls Try.prog 90 #[.int .i64 which, numV a, numV e] w fun r w' => r = .returned (numV (a ^ e % modW which)) ∧ Below w.heap.size w w' := by
  have hl := lenN_256 he
  refine fn_calls (l0 := [(.int .i64 which), (numV a), (numV e), undef, undef, undef, undef, undef, undef, undef, undef, undef, undef, undef, undef, undef, undef, undef, undef, undef, undef, undef, undef, undef, undef, undef, undef, undef, undef, undef, undef]) Try.func90 rfl rfl [] (St.start w) ?_
  refine sp_seq rfl ?_
  refine sp_region (π := [0, 1, 2]) [] rfl rfl ?_
  refine wk_boxN a rfl rfl rfl fun β1 => ?_
  dsimp only [putL, setL, List.set_cons_zero, List.set_cons_succ, List.nil_append, List.cons_append]
  refine wk_boxN e rfl rfl rfl fun β2 => ?_
  dsimp only [putL, setL, List.set_cons_zero, List.set_cons_succ, List.nil_append, List.cons_append]
  refine wk_newN rfl rfl fun β3 => ?_
  dsimp only [putL, setL, List.set_cons_zero, List.set_cons_succ, List.nil_append, List.cons_append]
  refine wk_nil ?_
  refine sp_seq rfl ?_
  refine sp_seq rfl ?_
  refine sp_region (π := [0, 1, 2]) [] rfl rfl ?_
  refine wk_move (.int .i64 which) rfl rfl rfl rfl ?_
  dsimp only [putL, setL, List.set_cons_zero, List.set_cons_succ, List.nil_append, List.cons_append]
  refine wk_call [(.int .i64 which)] (.bool true) rfl rfl rfl (enters_of Try.func77 (by kernel_rfl) (by kernel_rfl)) rfl (rok_yes which h) ?_
  dsimp only [putL, setL, List.set_cons_zero, List.set_cons_succ, List.nil_append, List.cons_append]
  refine wk_not true rfl rfl rfl rfl ?_
  dsimp only [putL, setL, List.set_cons_zero, List.set_cons_succ, List.nil_append, List.cons_append]
  refine wk_nil ?_
  refine sp_false rfl rfl ?_
  refine sp_skip rfl ?_
  refine sp_seq rfl ?_
  refine sp_region (π := [0, 1, 2]) [] rfl rfl ?_
  refine wk_val (numV 1) rfl rfl rfl (fun w => by kernel_rfl) ?_
  dsimp only [putL, setL, List.set_cons_zero, List.set_cons_succ, List.nil_append, List.cons_append]
  refine wk_newN rfl rfl fun β4 => ?_
  dsimp only [putL, setL, List.set_cons_zero, List.set_cons_succ, List.nil_append, List.cons_append]
  refine wk_stN 3 1 rfl rfl rfl rfl rfl rfl ?_
  dsimp only [putL, setL, List.set_cons_zero, List.set_cons_succ, List.nil_append, List.cons_append]
  refine wk_nil ?_
  refine sp_seq rfl ?_
  refine sp_seq rfl ?_
  refine sp_region (π := [0]) [] rfl rfl ?_
  refine wk_assign (.int .i64 255) rfl rfl rfl rfl ?_
  dsimp only [putL, setL, List.set_cons_zero, List.set_cons_succ, List.nil_append, List.cons_append]
  refine wk_nil ?_
  refine sp_block rfl ?_
  refine sp_loop rfl (fun l M => ∃ i : Int, ∃ k : Nat, ∃ y : Nat, ∃ d14 : Value, ∃ d15 : Value, ∃ d16 : Value, ∃ d17 : Value, ∃ d18 : Value, ∃ d19 : Value, ∃ d20 : Value, ∃ d21 : Value, ∃ d22 : Value, ∃ d23 : Value, ∃ d24 : Value, ∃ d25 : Value, ∃ d26 : Value, ∃ d27 : Value, ∃ d28 : Value, ∃ d29 : Value, l = [(.int .i64 which), (numV a), (numV e), undef, (.pointer (some ⟨β1, 0, none⟩)), (.pointer (some ⟨β2, 0, none⟩)), (.pointer (some ⟨β3, 0, none⟩)), (.pointer (some ⟨β4, 0, none⟩)), (.int .i64 i), (.int .i64 which), (.bool true), (.bool false), undef, (numV 1), d14, d15, d16, d17, d18, d19, d20, d21, d22, d23, d24, d25, d26, d27, d28, d29, undef] ∧ M = [(β1, numO a), (β2, numO e), (β3, numO 0), (β4, numO y)] ∧ i = (k : Int) - 1 ∧ k ≤ 256 ∧ y = a ^ (e / 2 ^ k) % modW which) (fun l _ => (intOf (nthD l 8) + 1).toNat) ?_ ?_
  · exact ⟨255, 256, 1, undef, undef, undef, undef, undef, undef, undef, undef, undef, undef, undef, undef, undef, undef, undef, undef, rfl, rfl, rfl, (Nat.le_refl _), (pow_first (modW_two h) (by rw [← W256_pow]; exact he))⟩
  · skip
    rintro l M ⟨i, k, y, d14, d15, d16, d17, d18, d19, d20, d21, d22, d23, d24, d25, d26, d27, d28, d29, rfl, rfl, hf0, hf1, hf2⟩
    have hy : y < W256 := by rw [hf2]; exact (Nat.lt_trans (Nat.mod_lt _ (modW_pos h)) (modW_lt which))
    refine sp_seq rfl ?_
    refine sp_seq rfl ?_
    refine sp_region (π := [0, 1]) [] rfl rfl ?_
    refine wk_move (.int .i64 i) rfl rfl rfl rfl ?_
    dsimp only [putL, setL, List.set_cons_zero, List.set_cons_succ, List.nil_append, List.cons_append]
    by_cases hc5 : 0 ≤ i
    · skip
      refine wk_iop (.bool true) rfl rfl rfl rfl rfl rfl (iop_geq_t hc5) ?_
      dsimp only [putL, setL, List.set_cons_zero, List.set_cons_succ, List.nil_append, List.cons_append]
      refine wk_nil ?_
      refine sp_true rfl rfl ?_
      refine sp_skip rfl ?_
      refine sp_seq rfl ?_
      refine sp_block rfl ?_
      refine sp_seq rfl ?_
      refine sp_region (π := [0, 1, 2, 3, 4]) [] rfl rfl ?_
      refine wk_move (.int .i64 which) rfl rfl rfl rfl ?_
      dsimp only [putL, setL, List.set_cons_zero, List.set_cons_succ, List.nil_append, List.cons_append]
      refine wk_ldN 3 rfl rfl rfl rfl rfl ?_
      dsimp only [putL, setL, List.set_cons_zero, List.set_cons_succ, List.nil_append, List.cons_append]
      refine wk_ldN 3 rfl rfl rfl rfl rfl ?_
      dsimp only [putL, setL, List.set_cons_zero, List.set_cons_succ, List.nil_append, List.cons_append]
      refine wk_call [(.int .i64 which), (numV y), (numV y)] (numV (y * y % modW which)) rfl rfl rfl (enters_of Try.func52 (by kernel_rfl) (by kernel_rfl)) rfl (rfmul_ok which y y h hy hy) ?_
      dsimp only [putL, setL, List.set_cons_zero, List.set_cons_succ, List.nil_append, List.cons_append]
      refine wk_stN 3 (y * y % modW which) rfl rfl rfl rfl rfl rfl ?_
      dsimp only [putL, setL, List.set_cons_zero, List.set_cons_succ, List.nil_append, List.cons_append]
      refine wk_nil ?_
      refine sp_seq rfl ?_
      refine sp_region (π := [0, 1, 2, 3]) [] rfl rfl ?_
      refine wk_ldN 1 rfl rfl rfl rfl rfl ?_
      dsimp only [putL, setL, List.set_cons_zero, List.set_cons_succ, List.nil_append, List.cons_append]
      refine wk_move (.int .i64 i) rfl rfl rfl rfl ?_
      dsimp only [putL, setL, List.set_cons_zero, List.set_cons_succ, List.nil_append, List.cons_append]
      refine wk_call [(numV e), (.int .i64 i)] (.int .i64 (bitI e i)) rfl rfl rfl (enters_of Try.func37 (by kernel_rfl) (by kernel_rfl)) rfl (rbit_calls e i he) ?_
      dsimp only [putL, setL, List.set_cons_zero, List.set_cons_succ, List.nil_append, List.cons_append]
      by_cases hc6 : (bitI e i) = 1
      · skip
        refine wk_iop (.bool true) rfl rfl rfl rfl rfl rfl (iop_eql_t hc6) ?_
        dsimp only [putL, setL, List.set_cons_zero, List.set_cons_succ, List.nil_append, List.cons_append]
        refine wk_nil ?_
        refine sp_true rfl rfl ?_
        refine sp_region (π := [0, 1, 2, 3, 4]) [] rfl rfl ?_
        refine wk_move (.int .i64 which) rfl rfl rfl rfl ?_
        dsimp only [putL, setL, List.set_cons_zero, List.set_cons_succ, List.nil_append, List.cons_append]
        refine wk_ldN 3 rfl rfl rfl rfl rfl ?_
        dsimp only [putL, setL, List.set_cons_zero, List.set_cons_succ, List.nil_append, List.cons_append]
        refine wk_ldN 0 rfl rfl rfl rfl rfl ?_
        dsimp only [putL, setL, List.set_cons_zero, List.set_cons_succ, List.nil_append, List.cons_append]
        refine wk_call [(.int .i64 which), (numV (y * y % modW which)), (numV a)] (numV ((y * y % modW which) * a % modW which)) rfl rfl rfl (enters_of Try.func52 (by kernel_rfl) (by kernel_rfl)) rfl (rfmul_ok which (y * y % modW which) a h (Nat.lt_trans (Nat.mod_lt _ (modW_pos h)) (modW_lt which)) ha) ?_
        dsimp only [putL, setL, List.set_cons_zero, List.set_cons_succ, List.nil_append, List.cons_append]
        refine wk_stN 3 ((y * y % modW which) * a % modW which) rfl rfl rfl rfl rfl rfl ?_
        dsimp only [putL, setL, List.set_cons_zero, List.set_cons_succ, List.nil_append, List.cons_append]
        refine wk_nil ?_
        refine sp_region (π := [0, 1, 2]) [] rfl rfl ?_
        refine wk_move (.int .i64 i) rfl rfl rfl rfl ?_
        dsimp only [putL, setL, List.set_cons_zero, List.set_cons_succ, List.nil_append, List.cons_append]
        refine wk_iop (.int .i64 (i - 1)) rfl rfl rfl rfl rfl rfl (iop_sub (by omega) (by omega)) ?_
        dsimp only [putL, setL, List.set_cons_zero, List.set_cons_succ, List.nil_append, List.cons_append]
        refine wk_assign (.int .i64 (i - 1)) rfl rfl rfl rfl ?_
        dsimp only [putL, setL, List.set_cons_zero, List.set_cons_succ, List.nil_append, List.cons_append]
        refine wk_nil ?_
        exact ⟨[(β1, numO a), (β2, numO e), (β3, numO 0), (β4, numO ((y * y % modW which) * a % modW which))], List.Sublist.refl _, ⟨(i - 1), (k - 1), ((y * y % modW which) * a % modW which), (.int .i64 i), (.bool true), (.int .i64 i), (.int .i64 (i - 1)), (.int .i64 which), (numV y), (numV y), (numV (y * y % modW which)), (numV e), (.int .i64 i), (.int .i64 (bitI e i)), (.bool true), (.int .i64 which), (numV (y * y % modW which)), (numV a), (numV ((y * y % modW which) * a % modW which)), rfl, rfl, (by omega), (by omega), (pow_odd hf0 hc5 hc6 hf2)⟩, (by show ((i - 1) + 1).toNat < (i + 1).toNat; omega)⟩
      · skip
        refine wk_iop (.bool false) rfl rfl rfl rfl rfl rfl (iop_eql_f hc6) ?_
        dsimp only [putL, setL, List.set_cons_zero, List.set_cons_succ, List.nil_append, List.cons_append]
        refine wk_nil ?_
        refine sp_false rfl rfl ?_
        refine sp_skip rfl ?_
        refine sp_region (π := [0, 1, 2]) [] rfl rfl ?_
        refine wk_move (.int .i64 i) rfl rfl rfl rfl ?_
        dsimp only [putL, setL, List.set_cons_zero, List.set_cons_succ, List.nil_append, List.cons_append]
        refine wk_iop (.int .i64 (i - 1)) rfl rfl rfl rfl rfl rfl (iop_sub (by omega) (by omega)) ?_
        dsimp only [putL, setL, List.set_cons_zero, List.set_cons_succ, List.nil_append, List.cons_append]
        refine wk_assign (.int .i64 (i - 1)) rfl rfl rfl rfl ?_
        dsimp only [putL, setL, List.set_cons_zero, List.set_cons_succ, List.nil_append, List.cons_append]
        refine wk_nil ?_
        exact ⟨[(β1, numO a), (β2, numO e), (β3, numO 0), (β4, numO (y * y % modW which))], List.Sublist.refl _, ⟨(i - 1), (k - 1), (y * y % modW which), (.int .i64 i), (.bool true), (.int .i64 i), (.int .i64 (i - 1)), (.int .i64 which), (numV y), (numV y), (numV (y * y % modW which)), (numV e), (.int .i64 i), (.int .i64 (bitI e i)), (.bool false), d26, d27, d28, d29, rfl, rfl, (by omega), (by omega), (pow_even hf0 hc5 hc6 hf2)⟩, (by show ((i - 1) + 1).toNat < (i + 1).toNat; omega)⟩
    · skip
      refine wk_iop (.bool false) rfl rfl rfl rfl rfl rfl (iop_geq_f hc5) ?_
      dsimp only [putL, setL, List.set_cons_zero, List.set_cons_succ, List.nil_append, List.cons_append]
      refine wk_nil ?_
      refine sp_false rfl rfl ?_
      refine sp_exit rfl ?_
      refine sp_seq rfl ?_
      refine sp_region (π := [0, 1]) [] rfl rfl ?_
      refine wk_ldN 3 rfl rfl rfl rfl rfl ?_
      dsimp only [putL, setL, List.set_cons_zero, List.set_cons_succ, List.nil_append, List.cons_append]
      refine wk_stN 2 y rfl rfl rfl rfl rfl rfl ?_
      dsimp only [putL, setL, List.set_cons_zero, List.set_cons_succ, List.nil_append, List.cons_append]
      refine wk_nil ?_
      refine sp_ret rfl ?_
      exact ret_numC 2 rfl rfl rfl fun w' hw => ⟨by rw [pow_last hf0 hc5 hf2], hw.below⟩

set_option maxRecDepth 20000 in
set_option maxHeartbeats 400000 in
theorem rinv_ok (which : Int) (a : Nat) (h : okW which) (ha : a < W256) (w : World) : Calls Try.prog 88 #[.int .i64 which, numV a] w fun r w' => r = .returned (numV (a ^ (modW which - 2) % modW which)) ∧ Below w.heap.size w w' := by
  have h2 := modW_two h
  have hm := modW_lt which
  have hr : modW which - 2 < W256 := by omega
  have er : (modW which + W256 - 2) % W256 = modW which - 2 := by
    rw [show modW which + W256 - 2 = (modW which - 2) + W256 by omega, Nat.add_mod_right, Nat.mod_eq_of_lt (by omega)]
  refine fn_calls (l0 := [(.int .i64 which), (numV a), undef, undef, undef, undef, undef, undef, undef, undef, undef, undef, undef, undef, undef, undef, undef, undef]) Try.func88 rfl rfl [] (St.start w) ?_
  refine sp_seq rfl ?_
  refine sp_region (π := [0, 1]) [] rfl rfl ?_
  refine wk_boxN a rfl rfl rfl fun β1 => ?_
  dsimp only [putL, setL, List.set_cons_zero, List.set_cons_succ, List.nil_append, List.cons_append]
  refine wk_newN rfl rfl fun β2 => ?_
  dsimp only [putL, setL, List.set_cons_zero, List.set_cons_succ, List.nil_append, List.cons_append]
  refine wk_nil ?_
  refine sp_seq rfl ?_
  refine sp_region (π := [0, 1, 2, 3, 4, 5, 6, 7, 8, 9]) [] rfl rfl ?_
  refine wk_move (.int .i64 which) rfl rfl rfl rfl ?_
  dsimp only [putL, setL, List.set_cons_zero, List.set_cons_succ, List.nil_append, List.cons_append]
  refine wk_call [(.int .i64 which)] (numV (modW which)) rfl rfl rfl (enters_of Try.func44 (by kernel_rfl) (by kernel_rfl)) rfl (rprime_ok which h) ?_
  dsimp only [putL, setL, List.set_cons_zero, List.set_cons_succ, List.nil_append, List.cons_append]
  refine wk_val (numV 2) rfl rfl rfl (fun w => by kernel_rfl) ?_
  dsimp only [putL, setL, List.set_cons_zero, List.set_cons_succ, List.nil_append, List.cons_append]
  refine wk_call [(numV (modW which)), (numV 2)] (.tuple #[(numV (modW which - 2)), (.int .u64 ((if modW which < 2 then 1 else 0 : Nat) : Int))]) rfl rfl rfl (enters_of Try.func33 (by kernel_rfl) (by kernel_rfl)) rfl (conv (by rw [er]) (rsub_calls (modW which) 2 (modW_lt which) (by decide))) ?_
  dsimp only [putL, setL, List.set_cons_zero, List.set_cons_succ, List.nil_append, List.cons_append]
  refine wk_move (.tuple #[(numV (modW which - 2)), (.int .u64 ((if modW which < 2 then 1 else 0 : Nat) : Int))]) rfl rfl rfl rfl ?_
  dsimp only [putL, setL, List.set_cons_zero, List.set_cons_succ, List.nil_append, List.cons_append]
  refine wk_ext (numV (modW which - 2)) rfl rfl rfl rfl rfl ?_
  dsimp only [putL, setL, List.set_cons_zero, List.set_cons_succ, List.nil_append, List.cons_append]
  refine wk_ext (.int .u64 ((if modW which < 2 then 1 else 0 : Nat) : Int)) rfl rfl rfl rfl rfl ?_
  dsimp only [putL, setL, List.set_cons_zero, List.set_cons_succ, List.nil_append, List.cons_append]
  refine wk_newN rfl rfl fun β3 => ?_
  dsimp only [putL, setL, List.set_cons_zero, List.set_cons_succ, List.nil_append, List.cons_append]
  refine wk_stN 2 (modW which - 2) rfl rfl rfl rfl rfl rfl ?_
  dsimp only [putL, setL, List.set_cons_zero, List.set_cons_succ, List.nil_append, List.cons_append]
  refine wk_assign (.int .u64 ((if modW which < 2 then 1 else 0 : Nat) : Int)) rfl rfl rfl rfl ?_
  dsimp only [putL, setL, List.set_cons_zero, List.set_cons_succ, List.nil_append, List.cons_append]
  refine wk_nil ?_
  refine sp_seq rfl ?_
  refine sp_region (π := [0, 1, 2, 3, 4]) [] rfl rfl ?_
  refine wk_move (.int .i64 which) rfl rfl rfl rfl ?_
  dsimp only [putL, setL, List.set_cons_zero, List.set_cons_succ, List.nil_append, List.cons_append]
  refine wk_ldN 0 rfl rfl rfl rfl rfl ?_
  dsimp only [putL, setL, List.set_cons_zero, List.set_cons_succ, List.nil_append, List.cons_append]
  refine wk_ldN 2 rfl rfl rfl rfl rfl ?_
  dsimp only [putL, setL, List.set_cons_zero, List.set_cons_succ, List.nil_append, List.cons_append]
  refine wk_call [(.int .i64 which), (numV a), (numV (modW which - 2))] (numV (a ^ (modW which - 2) % modW which)) rfl rfl rfl (enters_of Try.func90 (by kernel_rfl) (by kernel_rfl)) rfl (rpow_ok which a (modW which - 2) h ha hr) ?_
  dsimp only [putL, setL, List.set_cons_zero, List.set_cons_succ, List.nil_append, List.cons_append]
  refine wk_stN 1 (a ^ (modW which - 2) % modW which) rfl rfl rfl rfl rfl rfl ?_
  dsimp only [putL, setL, List.set_cons_zero, List.set_cons_succ, List.nil_append, List.cons_append]
  refine wk_nil ?_
  refine sp_ret rfl ?_
  exact ret_numC 1 rfl rfl rfl fun w' hw => ⟨rfl, hw.below⟩

end Go.Proofs.Ytmecomgifmkkfaa
