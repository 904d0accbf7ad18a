/- Powers, inverses modulo either prime, by the program: what each call answers. -/
import Derived.Test.YtmecomgifmkkfaaFieldB
import Derived.Test.YtmecomgifmkkfaaLimbC
import Derived.Test.YtmecomgifmkkfaaPrime
namespace Go.Proofs.Ytmecomgifmkkfaa
set_option linter.unusedVariables false
set_option linter.unusedSimpArgs false
open Go.RowKit

theorem modW_two {which : Int} (h : okW which) : 2 < modW which := by rcases h with rfl | rfl <;> decide
theorem bitI_at {e k : Nat} {i : Int} (hi : i = (k : Int) - 1) (h0 : 0 ≤ i) : ∃ j, k = j + 1 ∧ bitI e i = ((e / 2 ^ j % 2 : Nat) : Int) := by
  obtain ⟨j, rfl⟩ : ∃ j, k = j + 1 := ⟨k - 1, by omega⟩
  obtain rfl : i = (j : Int) := by omega
  exact ⟨j, rfl, by unfold bitI; rw [if_neg (by omega), Int.toNat_natCast]⟩
theorem pow_even {a e k m y : Nat} {i : Int} (hi : i = (k : Int) - 1) (h0 : 0 ≤ i) (hb : ¬ bitI e i = 1) (hy : y = a ^ (e / 2 ^ k) % m) : y * y % m = a ^ (e / 2 ^ (k - 1)) % m := by
  obtain ⟨j, rfl, hj⟩ := bitI_at (e := e) hi h0
  rw [hj] at hb
  have h2 : e / 2 ^ j % 2 < 2 := Nat.mod_lt _ (by decide)
  rw [hy, ← Nat.mul_mod, ← Nat.pow_add, Nat.add_sub_cancel]
  congr 2
  rw [Nat.pow_succ, ← Nat.div_div_eq_div_mul]
  omega
theorem pow_odd {a e k m y : Nat} {i : Int} (hi : i = (k : Int) - 1) (h0 : 0 ≤ i) (hb : bitI e i = 1) (hy : y = a ^ (e / 2 ^ k) % m) : y * y % m * a % m = a ^ (e / 2 ^ (k - 1)) % m := by
  obtain ⟨j, rfl, hj⟩ := bitI_at (e := e) hi h0
  rw [hj] at hb
  rw [hy, ← Nat.mul_mod, ← Nat.pow_add, Nat.mul_mod, Nat.mod_mod, ← Nat.mul_mod, ← Nat.pow_succ, Nat.add_sub_cancel]
  congr 2
  rw [Nat.pow_succ 2, ← Nat.div_div_eq_div_mul]
  omega
theorem pow_first {a e k m : Nat} (hm : 2 < m) (h : e < 2 ^ k) : 1 = a ^ (e / 2 ^ k) % m := by
  rw [Nat.div_eq_of_lt h, Nat.pow_zero, Nat.mod_eq_of_lt (by omega)]
theorem pow_last {a e k m y : Nat} {i : Int} (hi : i = (k : Int) - 1) (h0 : ¬ 0 ≤ i) (hy : y = a ^ (e / 2 ^ k) % m) : y = a ^ e % m := by
  obtain rfl : k = 0 := by omega
  rw [hy, Nat.pow_zero, Nat.div_one]

set_option maxRecDepth 20000 in
set_option maxHeartbeats 400000 in
theorem fpow_ok (which : Int) (a e : Nat) (h : okW which) (ha : a < W256) (he : e < W256) (w : World) : Calls Try.prog 55 #[.int .i64 which, numV a, numV e] w fun r w' => r = .returned (numV (a ^ e % modW which)) ∧ Below w.heap.size w w' := by
  have hl := lenN_256 he
  refine fn_calls (l0 := [(.int .i64 which), (numV a), (numV e), undef, undef, undef, undef, undef, undef, undef, undef, undef, undef, undef, undef, undef, undef, undef, undef, undef, undef, undef, undef, undef, undef, undef, undef, undef, undef, undef, undef, undef, undef, undef, undef, undef, undef, undef, undef, undef]) Try.func55 rfl rfl [] (St.start w) ?_
  refine sp_seq rfl ?_
  refine sp_region (π := [0, 1, 2]) [] rfl rfl ?_
  refine wk_boxN a rfl rfl rfl fun β1 => ?_
  dsimp only [putL, setL, List.set_cons_zero, List.set_cons_succ, List.nil_append, List.cons_append]
  refine wk_boxN e rfl rfl rfl fun β2 => ?_
  dsimp only [putL, setL, List.set_cons_zero, List.set_cons_succ, List.nil_append, List.cons_append]
  refine wk_newN rfl rfl fun β3 => ?_
  dsimp only [putL, setL, List.set_cons_zero, List.set_cons_succ, List.nil_append, List.cons_append]
  refine wk_nil ?_
  refine sp_seq rfl ?_
  refine sp_region (π := [0, 1, 2, 3, 4, 5, 6, 7]) [] rfl rfl ?_
  refine wk_move (.int .i64 which) rfl rfl rfl rfl ?_
  dsimp only [putL, setL, List.set_cons_zero, List.set_cons_succ, List.nil_append, List.cons_append]
  refine wk_call [(.int .i64 which)] (.tuple #[(numV (lessW which)), (.bool true)]) rfl rfl rfl (enters_of Try.func74 (by kernel_rfl) (by kernel_rfl)) rfl (less_ok which h) ?_
  dsimp only [putL, setL, List.set_cons_zero, List.set_cons_succ, List.nil_append, List.cons_append]
  refine wk_move (.tuple #[(numV (lessW which)), (.bool true)]) rfl rfl rfl rfl ?_
  dsimp only [putL, setL, List.set_cons_zero, List.set_cons_succ, List.nil_append, List.cons_append]
  refine wk_ext (numV (lessW which)) rfl rfl rfl rfl rfl ?_
  dsimp only [putL, setL, List.set_cons_zero, List.set_cons_succ, List.nil_append, List.cons_append]
  refine wk_ext (.bool true) rfl rfl rfl rfl rfl ?_
  dsimp only [putL, setL, List.set_cons_zero, List.set_cons_succ, List.nil_append, List.cons_append]
  refine wk_newN rfl rfl fun β4 => ?_
  dsimp only [putL, setL, List.set_cons_zero, List.set_cons_succ, List.nil_append, List.cons_append]
  refine wk_stN 3 (lessW which) rfl rfl rfl rfl rfl rfl ?_
  dsimp only [putL, setL, List.set_cons_zero, List.set_cons_succ, List.nil_append, List.cons_append]
  refine wk_assign (.bool true) rfl rfl rfl rfl ?_
  dsimp only [putL, setL, List.set_cons_zero, List.set_cons_succ, List.nil_append, List.cons_append]
  refine wk_nil ?_
  refine sp_seq rfl ?_
  refine sp_seq rfl ?_
  refine sp_region (π := [0, 1]) [] rfl rfl ?_
  refine wk_move (.bool true) rfl rfl rfl rfl ?_
  dsimp only [putL, setL, List.set_cons_zero, List.set_cons_succ, List.nil_append, List.cons_append]
  refine wk_not true rfl rfl rfl rfl ?_
  dsimp only [putL, setL, List.set_cons_zero, List.set_cons_succ, List.nil_append, List.cons_append]
  refine wk_nil ?_
  refine sp_false rfl rfl ?_
  refine sp_skip rfl ?_
  refine sp_seq rfl ?_
  refine sp_region (π := [0, 1, 2]) [] rfl rfl ?_
  refine wk_val (numV 1) rfl rfl rfl (fun w => by kernel_rfl) ?_
  dsimp only [putL, setL, List.set_cons_zero, List.set_cons_succ, List.nil_append, List.cons_append]
  refine wk_newN rfl rfl fun β5 => ?_
  dsimp only [putL, setL, List.set_cons_zero, List.set_cons_succ, List.nil_append, List.cons_append]
  refine wk_stN 4 1 rfl rfl rfl rfl rfl rfl ?_
  dsimp only [putL, setL, List.set_cons_zero, List.set_cons_succ, List.nil_append, List.cons_append]
  refine wk_nil ?_
  refine sp_seq rfl ?_
  refine sp_seq rfl ?_
  refine sp_region (π := [0, 1, 2, 3]) [] rfl rfl ?_
  refine wk_ldN 1 rfl rfl rfl rfl rfl ?_
  dsimp only [putL, setL, List.set_cons_zero, List.set_cons_succ, List.nil_append, List.cons_append]
  refine wk_call [(numV e)] (.int .i64 (lenN e : Int)) rfl rfl rfl (enters_of Try.func38 (by kernel_rfl) (by kernel_rfl)) rfl (len_calls e he) ?_
  dsimp only [putL, setL, List.set_cons_zero, List.set_cons_succ, List.nil_append, List.cons_append]
  refine wk_iop (.int .i64 ((lenN e : Int) - 1)) rfl rfl rfl rfl rfl rfl (iop_sub (by omega) (by omega)) ?_
  dsimp only [putL, setL, List.set_cons_zero, List.set_cons_succ, List.nil_append, List.cons_append]
  refine wk_assign (.int .i64 ((lenN e : Int) - 1)) rfl rfl rfl rfl ?_
  dsimp only [putL, setL, List.set_cons_zero, List.set_cons_succ, List.nil_append, List.cons_append]
  refine wk_nil ?_
  refine sp_block rfl ?_
  refine sp_loop rfl (fun l M => ∃ i : Int, ∃ k : Nat, ∃ y : Nat, ∃ d23 : Value, ∃ d24 : Value, ∃ d25 : Value, ∃ d26 : Value, ∃ d27 : Value, ∃ d28 : Value, ∃ d29 : Value, ∃ d30 : Value, ∃ d31 : Value, ∃ d32 : Value, ∃ d33 : Value, ∃ d34 : Value, ∃ d35 : Value, ∃ d36 : Value, ∃ d37 : Value, ∃ d38 : Value, l = [(.int .i64 which), (numV a), (numV e), undef, (.pointer (some ⟨β1, 0, none⟩)), (.pointer (some ⟨β2, 0, none⟩)), (.pointer (some ⟨β3, 0, none⟩)), (.pointer (some ⟨β4, 0, none⟩)), (.bool true), (.pointer (some ⟨β5, 0, none⟩)), (.int .i64 i), (.tuple #[(numV (lessW which)), (.bool true)]), (.int .i64 which), (.tuple #[(numV (lessW which)), (.bool true)]), (numV (lessW which)), (.bool true), (.bool true), (.bool false), undef, (numV 1), (numV e), (.int .i64 (lenN e : Int)), (.int .i64 ((lenN e : Int) - 1)), d23, d24, d25, d26, d27, d28, d29, d30, d31, d32, d33, d34, d35, d36, d37, d38, undef] ∧ M = [(β1, numO a), (β2, numO e), (β3, numO 0), (β4, numO (lessW which)), (β5, numO y)] ∧ i = (k : Int) - 1 ∧ k ≤ 256 ∧ y = a ^ (e / 2 ^ k) % modW which) (fun l _ => (intOf (nthD l 10) + 1).toNat) ?_ ?_
  · exact ⟨((((lenN e) : Nat) : Int) - 1), (lenN e), 1, undef, undef, undef, undef, undef, undef, undef, undef, undef, undef, undef, undef, undef, undef, undef, undef, rfl, rfl, rfl, (lenN_256 he), (pow_first (modW_two h) (lenN_lt e))⟩
  · skip
    rintro l M ⟨i, k, y, d23, d24, d25, d26, d27, d28, d29, d30, d31, d32, d33, d34, d35, d36, d37, d38, rfl, rfl, hf0, hf1, hf2⟩
    have hy : y < W256 := by rw [hf2]; exact (Nat.lt_trans (Nat.mod_lt _ (modW_pos h)) (modW_lt which))
    refine sp_seq rfl ?_
    refine sp_seq rfl ?_
    refine sp_region (π := [0, 1]) [] rfl rfl ?_
    refine wk_move (.int .i64 i) rfl rfl rfl rfl ?_
    dsimp only [putL, setL, List.set_cons_zero, List.set_cons_succ, List.nil_append, List.cons_append]
    by_cases hc6 : 0 ≤ i
    · skip
      refine wk_iop (.bool true) rfl rfl rfl rfl rfl rfl (iop_geq_t hc6) ?_
      dsimp only [putL, setL, List.set_cons_zero, List.set_cons_succ, List.nil_append, List.cons_append]
      refine wk_nil ?_
      refine sp_true rfl rfl ?_
      refine sp_skip rfl ?_
      refine sp_seq rfl ?_
      refine sp_block rfl ?_
      refine sp_seq rfl ?_
      refine sp_region (π := [0, 1, 2, 3, 4]) [] rfl rfl ?_
      refine wk_move (.int .i64 which) rfl rfl rfl rfl ?_
      dsimp only [putL, setL, List.set_cons_zero, List.set_cons_succ, List.nil_append, List.cons_append]
      refine wk_ldN 4 rfl rfl rfl rfl rfl ?_
      dsimp only [putL, setL, List.set_cons_zero, List.set_cons_succ, List.nil_append, List.cons_append]
      refine wk_ldN 4 rfl rfl rfl rfl rfl ?_
      dsimp only [putL, setL, List.set_cons_zero, List.set_cons_succ, List.nil_append, List.cons_append]
      refine wk_call [(.int .i64 which), (numV y), (numV y)] (numV (y * y % modW which)) rfl rfl rfl (enters_of Try.func51 (by kernel_rfl) (by kernel_rfl)) rfl (fmul_ok which y y h hy hy) ?_
      dsimp only [putL, setL, List.set_cons_zero, List.set_cons_succ, List.nil_append, List.cons_append]
      refine wk_stN 4 (y * y % modW which) rfl rfl rfl rfl rfl rfl ?_
      dsimp only [putL, setL, List.set_cons_zero, List.set_cons_succ, List.nil_append, List.cons_append]
      refine wk_nil ?_
      refine sp_seq rfl ?_
      refine sp_region (π := [0, 1, 2, 3]) [] rfl rfl ?_
      refine wk_ldN 1 rfl rfl rfl rfl rfl ?_
      dsimp only [putL, setL, List.set_cons_zero, List.set_cons_succ, List.nil_append, List.cons_append]
      refine wk_move (.int .i64 i) rfl rfl rfl rfl ?_
      dsimp only [putL, setL, List.set_cons_zero, List.set_cons_succ, List.nil_append, List.cons_append]
      refine wk_call [(numV e), (.int .i64 i)] (.int .i64 (bitI e i)) rfl rfl rfl (enters_of Try.func36 (by kernel_rfl) (by kernel_rfl)) rfl (bit_calls e i he) ?_
      dsimp only [putL, setL, List.set_cons_zero, List.set_cons_succ, List.nil_append, List.cons_append]
      by_cases hc7 : (bitI e i) = 1
      · skip
        refine wk_iop (.bool true) rfl rfl rfl rfl rfl rfl (iop_eql_t hc7) ?_
        dsimp only [putL, setL, List.set_cons_zero, List.set_cons_succ, List.nil_append, List.cons_append]
        refine wk_nil ?_
        refine sp_true rfl rfl ?_
        refine sp_region (π := [0, 1, 2, 3, 4]) [] rfl rfl ?_
        refine wk_move (.int .i64 which) rfl rfl rfl rfl ?_
        dsimp only [putL, setL, List.set_cons_zero, List.set_cons_succ, List.nil_append, List.cons_append]
        refine wk_ldN 4 rfl rfl rfl rfl rfl ?_
        dsimp only [putL, setL, List.set_cons_zero, List.set_cons_succ, List.nil_append, List.cons_append]
        refine wk_ldN 0 rfl rfl rfl rfl rfl ?_
        dsimp only [putL, setL, List.set_cons_zero, List.set_cons_succ, List.nil_append, List.cons_append]
        refine wk_call [(.int .i64 which), (numV (y * y % modW which)), (numV a)] (numV ((y * y % modW which) * a % modW which)) rfl rfl rfl (enters_of Try.func51 (by kernel_rfl) (by kernel_rfl)) rfl (fmul_ok which (y * y % modW which) a h (Nat.lt_trans (Nat.mod_lt _ (modW_pos h)) (modW_lt which)) ha) ?_
        dsimp only [putL, setL, List.set_cons_zero, List.set_cons_succ, List.nil_append, List.cons_append]
        refine wk_stN 4 ((y * y % modW which) * a % modW which) rfl rfl rfl rfl rfl rfl ?_
        dsimp only [putL, setL, List.set_cons_zero, List.set_cons_succ, List.nil_append, List.cons_append]
        refine wk_nil ?_
        refine sp_region (π := [0, 1, 2]) [] rfl rfl ?_
        refine wk_move (.int .i64 i) rfl rfl rfl rfl ?_
        dsimp only [putL, setL, List.set_cons_zero, List.set_cons_succ, List.nil_append, List.cons_append]
        refine wk_iop (.int .i64 (i - 1)) rfl rfl rfl rfl rfl rfl (iop_sub (by omega) (by omega)) ?_
        dsimp only [putL, setL, List.set_cons_zero, List.set_cons_succ, List.nil_append, List.cons_append]
        refine wk_assign (.int .i64 (i - 1)) rfl rfl rfl rfl ?_
        dsimp only [putL, setL, List.set_cons_zero, List.set_cons_succ, List.nil_append, List.cons_append]
        refine wk_nil ?_
        exact ⟨[(β1, numO a), (β2, numO e), (β3, numO 0), (β4, numO (lessW which)), (β5, numO ((y * y % modW which) * a % modW which))], List.Sublist.refl _, ⟨(i - 1), (k - 1), ((y * y % modW which) * a % modW which), (.int .i64 i), (.bool true), (.int .i64 i), (.int .i64 (i - 1)), (.int .i64 which), (numV y), (numV y), (numV (y * y % modW which)), (numV e), (.int .i64 i), (.int .i64 (bitI e i)), (.bool true), (.int .i64 which), (numV (y * y % modW which)), (numV a), (numV ((y * y % modW which) * a % modW which)), rfl, rfl, (by omega), (by omega), (pow_odd hf0 hc6 hc7 hf2)⟩, (by show ((i - 1) + 1).toNat < (i + 1).toNat; omega)⟩
      · skip
        refine wk_iop (.bool false) rfl rfl rfl rfl rfl rfl (iop_eql_f hc7) ?_
        dsimp only [putL, setL, List.set_cons_zero, List.set_cons_succ, List.nil_append, List.cons_append]
        refine wk_nil ?_
        refine sp_false rfl rfl ?_
        refine sp_skip rfl ?_
        refine sp_region (π := [0, 1, 2]) [] rfl rfl ?_
        refine wk_move (.int .i64 i) rfl rfl rfl rfl ?_
        dsimp only [putL, setL, List.set_cons_zero, List.set_cons_succ, List.nil_append, List.cons_append]
        refine wk_iop (.int .i64 (i - 1)) rfl rfl rfl rfl rfl rfl (iop_sub (by omega) (by omega)) ?_
        dsimp only [putL, setL, List.set_cons_zero, List.set_cons_succ, List.nil_append, List.cons_append]
        refine wk_assign (.int .i64 (i - 1)) rfl rfl rfl rfl ?_
        dsimp only [putL, setL, List.set_cons_zero, List.set_cons_succ, List.nil_append, List.cons_append]
        refine wk_nil ?_
        exact ⟨[(β1, numO a), (β2, numO e), (β3, numO 0), (β4, numO (lessW which)), (β5, numO (y * y % modW which))], List.Sublist.refl _, ⟨(i - 1), (k - 1), (y * y % modW which), (.int .i64 i), (.bool true), (.int .i64 i), (.int .i64 (i - 1)), (.int .i64 which), (numV y), (numV y), (numV (y * y % modW which)), (numV e), (.int .i64 i), (.int .i64 (bitI e i)), (.bool false), d35, d36, d37, d38, rfl, rfl, (by omega), (by omega), (pow_even hf0 hc6 hc7 hf2)⟩, (by show ((i - 1) + 1).toNat < (i + 1).toNat; omega)⟩
    · skip
      refine wk_iop (.bool false) rfl rfl rfl rfl rfl rfl (iop_geq_f hc6) ?_
      dsimp only [putL, setL, List.set_cons_zero, List.set_cons_succ, List.nil_append, List.cons_append]
      refine wk_nil ?_
      refine sp_false rfl rfl ?_
      refine sp_exit rfl ?_
      refine sp_seq rfl ?_
      refine sp_region (π := [0, 1]) [] rfl rfl ?_
      refine wk_ldN 4 rfl rfl rfl rfl rfl ?_
      dsimp only [putL, setL, List.set_cons_zero, List.set_cons_succ, List.nil_append, List.cons_append]
      refine wk_stN 2 y rfl rfl rfl rfl rfl rfl ?_
      dsimp only [putL, setL, List.set_cons_zero, List.set_cons_succ, List.nil_append, List.cons_append]
      refine wk_nil ?_
      refine sp_ret rfl ?_
      exact ret_numC 2 rfl rfl rfl fun w' hw => ⟨by rw [pow_last hf0 hc6 hf2], hw.below⟩

set_option maxRecDepth 20000 in
set_option maxHeartbeats 400000 in
theorem finv_ok (which : Int) (a : Nat) (h : okW which) (ha : a < W256) (w : World) : Calls Try.prog 56 #[.int .i64 which, numV a] w fun r w' => r = .returned (numV (a ^ (modW which - 2) % modW which)) ∧ Below w.heap.size w w' := by
  have h2 := modW_two h
  have hm := modW_lt which
  have hr : modW which - 2 < W256 := by omega
  have er : (modW which + W256 - 2) % W256 = modW which - 2 := by
    rw [show modW which + W256 - 2 = (modW which - 2) + W256 by omega, Nat.add_mod_right, Nat.mod_eq_of_lt (by omega)]
  refine fn_calls (l0 := [(.int .i64 which), (numV a), undef, undef, undef, undef, undef, undef, undef, undef, undef, undef, undef, undef, undef, undef, undef, undef]) Try.func56 rfl rfl [] (St.start w) ?_
  refine sp_seq rfl ?_
  refine sp_region (π := [0, 1]) [] rfl rfl ?_
  refine wk_boxN a rfl rfl rfl fun β1 => ?_
  dsimp only [putL, setL, List.set_cons_zero, List.set_cons_succ, List.nil_append, List.cons_append]
  refine wk_newN rfl rfl fun β2 => ?_
  dsimp only [putL, setL, List.set_cons_zero, List.set_cons_succ, List.nil_append, List.cons_append]
  refine wk_nil ?_
  refine sp_seq rfl ?_
  refine sp_region (π := [0, 1, 2, 3, 4, 5, 6, 7, 8, 9]) [] rfl rfl ?_
  refine wk_move (.int .i64 which) rfl rfl rfl rfl ?_
  dsimp only [putL, setL, List.set_cons_zero, List.set_cons_succ, List.nil_append, List.cons_append]
  refine wk_call [(.int .i64 which)] (numV (modW which)) rfl rfl rfl (enters_of Try.func43 (by kernel_rfl) (by kernel_rfl)) rfl (prime_ok which h) ?_
  dsimp only [putL, setL, List.set_cons_zero, List.set_cons_succ, List.nil_append, List.cons_append]
  refine wk_val (numV 2) rfl rfl rfl (fun w => by kernel_rfl) ?_
  dsimp only [putL, setL, List.set_cons_zero, List.set_cons_succ, List.nil_append, List.cons_append]
  refine wk_call [(numV (modW which)), (numV 2)] (.tuple #[(numV (modW which - 2)), (.int .u64 ((if modW which < 2 then 1 else 0 : Nat) : Int))]) rfl rfl rfl (enters_of Try.func30 (by kernel_rfl) (by kernel_rfl)) rfl (conv (by rw [er]) (sub_calls (modW which) 2 (modW_lt which) (by decide))) ?_
  dsimp only [putL, setL, List.set_cons_zero, List.set_cons_succ, List.nil_append, List.cons_append]
  refine wk_move (.tuple #[(numV (modW which - 2)), (.int .u64 ((if modW which < 2 then 1 else 0 : Nat) : Int))]) rfl rfl rfl rfl ?_
  dsimp only [putL, setL, List.set_cons_zero, List.set_cons_succ, List.nil_append, List.cons_append]
  refine wk_ext (numV (modW which - 2)) rfl rfl rfl rfl rfl ?_
  dsimp only [putL, setL, List.set_cons_zero, List.set_cons_succ, List.nil_append, List.cons_append]
  refine wk_ext (.int .u64 ((if modW which < 2 then 1 else 0 : Nat) : Int)) rfl rfl rfl rfl rfl ?_
  dsimp only [putL, setL, List.set_cons_zero, List.set_cons_succ, List.nil_append, List.cons_append]
  refine wk_newN rfl rfl fun β3 => ?_
  dsimp only [putL, setL, List.set_cons_zero, List.set_cons_succ, List.nil_append, List.cons_append]
  refine wk_stN 2 (modW which - 2) rfl rfl rfl rfl rfl rfl ?_
  dsimp only [putL, setL, List.set_cons_zero, List.set_cons_succ, List.nil_append, List.cons_append]
  refine wk_assign (.int .u64 ((if modW which < 2 then 1 else 0 : Nat) : Int)) rfl rfl rfl rfl ?_
  dsimp only [putL, setL, List.set_cons_zero, List.set_cons_succ, List.nil_append, List.cons_append]
  refine wk_nil ?_
  refine sp_seq rfl ?_
  refine sp_region (π := [0, 1, 2, 3, 4]) [] rfl rfl ?_
  refine wk_move (.int .i64 which) rfl rfl rfl rfl ?_
  dsimp only [putL, setL, List.set_cons_zero, List.set_cons_succ, List.nil_append, List.cons_append]
  refine wk_ldN 0 rfl rfl rfl rfl rfl ?_
  dsimp only [putL, setL, List.set_cons_zero, List.set_cons_succ, List.nil_append, List.cons_append]
  refine wk_ldN 2 rfl rfl rfl rfl rfl ?_
  dsimp only [putL, setL, List.set_cons_zero, List.set_cons_succ, List.nil_append, List.cons_append]
  refine wk_call [(.int .i64 which), (numV a), (numV (modW which - 2))] (numV (a ^ (modW which - 2) % modW which)) rfl rfl rfl (enters_of Try.func55 (by kernel_rfl) (by kernel_rfl)) rfl (fpow_ok which a (modW which - 2) h ha hr) ?_
  dsimp only [putL, setL, List.set_cons_zero, List.set_cons_succ, List.nil_append, List.cons_append]
  refine wk_stN 1 (a ^ (modW which - 2) % modW which) rfl rfl rfl rfl rfl rfl ?_
  dsimp only [putL, setL, List.set_cons_zero, List.set_cons_succ, List.nil_append, List.cons_append]
  refine wk_nil ?_
  refine sp_ret rfl ?_
  exact ret_numC 1 rfl rfl rfl fun w' hw => ⟨rfl, hw.below⟩

end Go.Proofs.Ytmecomgifmkkfaa
