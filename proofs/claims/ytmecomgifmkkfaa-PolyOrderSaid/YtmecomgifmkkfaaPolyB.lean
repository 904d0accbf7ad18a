/- What a polynomial is worth, in poly and in the page's poly. -/
import Derived.Test.YtmecomgifmkkfaaPolyA
import Derived.Test.YtmecomgifmkkfaaPolyN
namespace Go.Proofs.Ytmecomgifmkkfaa
set_option linter.unusedVariables false
set_option linter.unusedSimpArgs false
open Go.RowKit

set_option maxRecDepth 20000 in
set_option maxHeartbeats 400000 in
theorem eval_calls (xs : List Nat) (x : Nat) (a : Option Addr) (c : Nat) (hx : x < W256) (hxs : ∀ y ∈ xs, y < W256) (hn : xs.length ≤ 4611686018427387904) (w : World) (hH : Holds w a (rowL xs)): Calls Try.prog 59 #[.slice a xs.length c, numV x] w fun r w' => r = .returned (numV (evalL (modW 1) xs x)) ∧ Below w.heap.size w w' := by
  refine fn_calls (l0 := [(.slice a xs.length c), (numV x), undef, undef, undef, undef, undef, undef, undef, undef, undef, undef, undef, undef, undef, undef, undef, undef, undef, undef, undef, undef, undef]) Try.func59 rfl rfl [] (St.start w) ?_
  refine sp_seq rfl ?_
  refine sp_region (π := [0, 1]) [] rfl rfl ?_
  refine wk_boxN x rfl rfl rfl fun β1 => ?_
  dsimp only [putL, setL, List.set_cons_zero, List.set_cons_succ, List.nil_append, List.cons_append]
  refine wk_newN rfl rfl fun β2 => ?_
  dsimp only [putL, setL, List.set_cons_zero, List.set_cons_succ, List.nil_append, List.cons_append]
  refine wk_nil ?_
  refine sp_seq rfl ?_
  refine sp_region (π := [0]) [] rfl rfl ?_
  refine wk_newN rfl rfl fun β3 => ?_
  dsimp only [putL, setL, List.set_cons_zero, List.set_cons_succ, List.nil_append, List.cons_append]
  refine wk_nil ?_
  refine sp_seq rfl ?_
  refine sp_seq rfl ?_
  refine sp_region (π := [0, 1, 2, 3]) [] rfl rfl ?_
  refine wk_move (.slice a xs.length c) rfl rfl rfl rfl ?_
  dsimp only [putL, setL, List.set_cons_zero, List.set_cons_succ, List.nil_append, List.cons_append]
  refine wk_lenA rfl rfl rfl rfl Try.underlying57 ?_
  dsimp only [putL, setL, List.set_cons_zero, List.set_cons_succ, List.nil_append, List.cons_append]
  refine wk_iop (.int .i64 (((xs.length : Nat) : Int) - 1)) rfl rfl rfl rfl rfl rfl (iop_sub (by omega) (by omega)) ?_
  dsimp only [putL, setL, List.set_cons_zero, List.set_cons_succ, List.nil_append, List.cons_append]
  refine wk_assign (.int .i64 (((xs.length : Nat) : Int) - 1)) rfl rfl rfl rfl ?_
  dsimp only [putL, setL, List.set_cons_zero, List.set_cons_succ, List.nil_append, List.cons_append]
  refine wk_nil ?_
  refine sp_block rfl ?_
  refine sp_loopg rfl (fun n l M => ∃ i : Int, ∃ k : Nat, ∃ y : Nat, ∃ d10 : Value, ∃ d11 : Value, ∃ d12 : Value, ∃ d13 : Value, ∃ d14 : Value, ∃ d15 : Value, ∃ d16 : Value, ∃ d17 : Value, ∃ d18 : Value, ∃ d19 : Value, ∃ d20 : Value, ∃ d21 : Value, l = [(.slice a xs.length c), (numV x), undef, (.pointer (some ⟨β1, 0, none⟩)), (.pointer (some ⟨β2, 0, none⟩)), (.pointer (some ⟨β3, 0, none⟩)), (.int .i64 i), (.slice a xs.length c), (.int .i64 ((xs.length : Nat) : Int)), (.int .i64 (((xs.length : Nat) : Int) - 1)), d10, d11, d12, d13, d14, d15, d16, d17, d18, d19, d20, d21, undef] ∧ M = [(β1, numO x), (β2, numO 0), (β3, numO y)] ∧ i = (k : Int) - 1 ∧ k ≤ xs.length ∧ y = evalL (modW 1) (xs.drop k) x ∧ n = (i + 1).toNat) ((((xs.length : Nat) : Int) - 1 + 1).toNat) ?_ ?_
  · exact ⟨(((xs.length : Nat) : Int) - 1), xs.length, 0, undef, undef, undef, undef, undef, undef, undef, undef, undef, undef, undef, undef, rfl, rfl, rfl, (Nat.le_refl _), (by rw [List.drop_length]; rfl), rfl⟩
  · skip
    rintro n l M ⟨i, k, y, d10, d11, d12, d13, d14, d15, d16, d17, d18, d19, d20, d21, rfl, rfl, hf0, hf1, hf2, rfl⟩
    have hy : y < W256 := by rw [hf2]; exact evalL_lt (modW_pos ok1) (modW_lt 1) _ _
    refine sp_seq rfl ?_
    refine sp_seq rfl ?_
    refine sp_region (π := [0, 1]) [] rfl rfl ?_
    refine wk_move (.int .i64 i) rfl rfl rfl rfl ?_
    dsimp only [putL, setL, List.set_cons_zero, List.set_cons_succ, List.nil_append, List.cons_append]
    by_cases hc4 : 0 ≤ i
    · skip
      refine wk_iop (.bool true) rfl rfl rfl rfl rfl rfl (iop_geq_t hc4) ?_
      dsimp only [putL, setL, List.set_cons_zero, List.set_cons_succ, List.nil_append, List.cons_append]
      refine wk_nil ?_
      refine sp_true rfl rfl ?_
      refine sp_skip rfl ?_
      refine sp_seq rfl ?_
      refine sp_block rfl ?_
      refine sp_draw [0, 1, 3, 4, 5, 6, 2, 7, 8] [] mixed rfl (by kernel_rfl) (by kernel_rfl) ?_
      refine wk_ldN 2 rfl rfl rfl rfl rfl ?_
      dsimp only [putL, setL, List.set_cons_zero, List.set_cons_succ, List.nil_append, List.cons_append]
      refine wk_ldN 0 rfl rfl rfl rfl rfl ?_
      dsimp only [putL, setL, List.set_cons_zero, List.set_cons_succ, List.nil_append, List.cons_append]
      refine wk_move (.slice a xs.length c) rfl rfl rfl rfl ?_
      dsimp only [putL, setL, List.set_cons_zero, List.set_cons_succ, List.nil_append, List.cons_append]
      refine wk_move (.int .i64 i) rfl rfl rfl rfl ?_
      dsimp only [putL, setL, List.set_cons_zero, List.set_cons_succ, List.nil_append, List.cons_append]
      obtain ⟨β5, o5, ha5, hr5⟩ := hH.at_ (rowL_ne (k := (k - 1)) (by omega))
      refine wk_idxA (k - 1) 4 rfl rfl rfl rfl ha5 rfl Try.underlying57 (by kernel_rfl) (by omega) (by omega) ?_
      dsimp only [putL, setL, List.set_cons_zero, List.set_cons_succ, List.nil_append, List.cons_append]
      refine wk_ldA rfl rfl rfl rfl (fun M' w' hm hst => old_range hr5 (rowL_ne (k := (k - 1)) (by omega)) hst) (by omega) ?_
      dsimp only [putL, setL, List.set_cons_zero, List.set_cons_succ, List.nil_append, List.cons_append]
      refine wk_call [(numV y), (numV x)] (numV (y * x % modW 1)) rfl rfl rfl (enters_of Try.func80 (by kernel_rfl) (by kernel_rfl)) rfl (pmul_calls y x hy hx) ?_
      dsimp only [putL, setL, List.set_cons_zero, List.set_cons_succ, List.nil_append, List.cons_append]
      refine wk_call [(numV (y * x % modW 1)), (numV (ix xs (k - 1)))] (numV (((y * x % modW 1) + (ix xs (k - 1))) % modW 1)) rfl rfl rfl (enters_of Try.func79 (by kernel_rfl) (by kernel_rfl)) rfl (padd_calls (y * x % modW 1) (ix xs (k - 1)) (Nat.lt_trans (Nat.mod_lt _ (modW_pos ok1)) (modW_lt 1)) (ix_lt hxs)) ?_
      dsimp only [putL, setL, List.set_cons_zero, List.set_cons_succ, List.nil_append, List.cons_append]
      refine wk_stN 2 (((y * x % modW 1) + (ix xs (k - 1))) % modW 1) rfl rfl rfl rfl rfl rfl ?_
      dsimp only [putL, setL, List.set_cons_zero, List.set_cons_succ, List.nil_append, List.cons_append]
      refine wk_nil ?_
      refine sp_region (π := [0, 1, 2]) [] rfl rfl ?_
      refine wk_move (.int .i64 i) rfl rfl rfl rfl ?_
      dsimp only [putL, setL, List.set_cons_zero, List.set_cons_succ, List.nil_append, List.cons_append]
      refine wk_iop (.int .i64 (i - 1)) rfl rfl rfl rfl rfl rfl (iop_sub (by omega) (by omega)) ?_
      dsimp only [putL, setL, List.set_cons_zero, List.set_cons_succ, List.nil_append, List.cons_append]
      refine wk_assign (.int .i64 (i - 1)) rfl rfl rfl rfl ?_
      dsimp only [putL, setL, List.set_cons_zero, List.set_cons_succ, List.nil_append, List.cons_append]
      refine wk_nil ?_
      exact ⟨[(β1, numO x), (β2, numO 0), (β3, numO (((y * x % modW 1) + (ix xs (k - 1))) % modW 1))], _, List.Sublist.refl _, ⟨(i - 1), (k - 1), (((y * x % modW 1) + (ix xs (k - 1))) % modW 1), (.int .i64 i), (.bool true), (.int .i64 i), (.int .i64 (i - 1)), (numV y), (numV x), (numV (y * x % modW 1)), (.slice a xs.length c), (.int .i64 i), (.pointer (some ⟨β5, o5 + (k - 1) * 4, none⟩)), (numV (ix xs (k - 1))), (numV (((y * x % modW 1) + (ix xs (k - 1))) % modW 1)), rfl, rfl, (by omega), (by omega), (evalL_step hf0 hc4 hf1 hf2), rfl⟩, (by omega)⟩
    · skip
      refine wk_iop (.bool false) rfl rfl rfl rfl rfl rfl (iop_geq_f hc4) ?_
      dsimp only [putL, setL, List.set_cons_zero, List.set_cons_succ, List.nil_append, List.cons_append]
      refine wk_nil ?_
      refine sp_false rfl rfl ?_
      refine sp_exit rfl ?_
      refine sp_seq rfl ?_
      refine sp_region (π := [0, 1]) [] rfl rfl ?_
      refine wk_ldN 2 rfl rfl rfl rfl rfl ?_
      dsimp only [putL, setL, List.set_cons_zero, List.set_cons_succ, List.nil_append, List.cons_append]
      refine wk_stN 1 y rfl rfl rfl rfl rfl rfl ?_
      dsimp only [putL, setL, List.set_cons_zero, List.set_cons_succ, List.nil_append, List.cons_append]
      refine wk_nil ?_
      refine sp_ret rfl ?_
      exact ret_numC 1 rfl rfl rfl fun w' hw => ⟨by rw [evalL_end hf0 hc4 hf2], hw.below⟩

set_option maxRecDepth 20000 in
set_option maxHeartbeats 400000 in
theorem reval_calls (xs : List Nat) (x : Nat) (a : Option Addr) (c : Nat) (hx : x < W256) (hxs : ∀ y ∈ xs, y < W256) (hn : xs.length ≤ 4611686018427387904) (w : World) (hH : Holds w a (rowL xs)): Calls Try.prog 64 #[.slice a xs.length c, numV x] w fun r w' => r = .returned (numV (evalL (modW 1) xs x)) ∧ Below w.heap.size w w' := by
  refine fn_calls (l0 := [(.slice a xs.length c), (numV x), undef, undef, undef, undef, undef, undef, undef, undef, undef, undef, undef, undef, undef, undef, undef, undef, undef, undef, undef, undef, undef]) Try.func64 rfl rfl [] (St.start w) ?_
  refine sp_seq rfl ?_
  refine sp_region (π := [0, 1]) [] rfl rfl ?_
  refine wk_boxN x rfl rfl rfl fun β1 => ?_
  dsimp only [putL, setL, List.set_cons_zero, List.set_cons_succ, List.nil_append, List.cons_append]
  refine wk_newN rfl rfl fun β2 => ?_
  dsimp only [putL, setL, List.set_cons_zero, List.set_cons_succ, List.nil_append, List.cons_append]
  refine wk_nil ?_
  refine sp_seq rfl ?_
  refine sp_region (π := [0]) [] rfl rfl ?_
  refine wk_newN rfl rfl fun β3 => ?_
  dsimp only [putL, setL, List.set_cons_zero, List.set_cons_succ, List.nil_append, List.cons_append]
  refine wk_nil ?_
  refine sp_seq rfl ?_
  refine sp_seq rfl ?_
  refine sp_region (π := [0, 1, 2, 3]) [] rfl rfl ?_
  refine wk_move (.slice a xs.length c) rfl rfl rfl rfl ?_
  dsimp only [putL, setL, List.set_cons_zero, List.set_cons_succ, List.nil_append, List.cons_append]
  refine wk_lenA rfl rfl rfl rfl Try.underlying57 ?_
  dsimp only [putL, setL, List.set_cons_zero, List.set_cons_succ, List.nil_append, List.cons_append]
  refine wk_iop (.int .i64 (((xs.length : Nat) : Int) - 1)) rfl rfl rfl rfl rfl rfl (iop_sub (by omega) (by omega)) ?_
  dsimp only [putL, setL, List.set_cons_zero, List.set_cons_succ, List.nil_append, List.cons_append]
  refine wk_assign (.int .i64 (((xs.length : Nat) : Int) - 1)) rfl rfl rfl rfl ?_
  dsimp only [putL, setL, List.set_cons_zero, List.set_cons_succ, List.nil_append, List.cons_append]
  refine wk_nil ?_
  refine sp_block rfl ?_
  refine sp_loopg rfl (fun n l M => ∃ i : Int, ∃ k : Nat, ∃ y : Nat, ∃ d10 : Value, ∃ d11 : Value, ∃ d12 : Value, ∃ d13 : Value, ∃ d14 : Value, ∃ d15 : Value, ∃ d16 : Value, ∃ d17 : Value, ∃ d18 : Value, ∃ d19 : Value, ∃ d20 : Value, ∃ d21 : Value, l = [(.slice a xs.length c), (numV x), undef, (.pointer (some ⟨β1, 0, none⟩)), (.pointer (some ⟨β2, 0, none⟩)), (.pointer (some ⟨β3, 0, none⟩)), (.int .i64 i), (.slice a xs.length c), (.int .i64 ((xs.length : Nat) : Int)), (.int .i64 (((xs.length : Nat) : Int) - 1)), d10, d11, d12, d13, d14, d15, d16, d17, d18, d19, d20, d21, undef] ∧ M = [(β1, numO x), (β2, numO 0), (β3, numO y)] ∧ i = (k : Int) - 1 ∧ k ≤ xs.length ∧ y = evalL (modW 1) (xs.drop k) x ∧ n = (i + 1).toNat) ((((xs.length : Nat) : Int) - 1 + 1).toNat) ?_ ?_
  · exact ⟨(((xs.length : Nat) : Int) - 1), xs.length, 0, undef, undef, undef, undef, undef, undef, undef, undef, undef, undef, undef, undef, rfl, rfl, rfl, (Nat.le_refl _), (by rw [List.drop_length]; rfl), rfl⟩
  · skip
    rintro n l M ⟨i, k, y, d10, d11, d12, d13, d14, d15, d16, d17, d18, d19, d20, d21, rfl, rfl, hf0, hf1, hf2, rfl⟩
    have hy : y < W256 := by rw [hf2]; exact evalL_lt (modW_pos ok1) (modW_lt 1) _ _
    refine sp_seq rfl ?_
    refine sp_seq rfl ?_
    refine sp_region (π := [0, 1]) [] rfl rfl ?_
    refine wk_move (.int .i64 i) rfl rfl rfl rfl ?_
    dsimp only [putL, setL, List.set_cons_zero, List.set_cons_succ, List.nil_append, List.cons_append]
    by_cases hc4 : 0 ≤ i
    · skip
      refine wk_iop (.bool true) rfl rfl rfl rfl rfl rfl (iop_geq_t hc4) ?_
      dsimp only [putL, setL, List.set_cons_zero, List.set_cons_succ, List.nil_append, List.cons_append]
      refine wk_nil ?_
      refine sp_true rfl rfl ?_
      refine sp_skip rfl ?_
      refine sp_seq rfl ?_
      refine sp_block rfl ?_
      refine sp_draw [0, 1, 3, 4, 5, 6, 2, 7, 8] [] mixed rfl (by kernel_rfl) (by kernel_rfl) ?_
      refine wk_ldN 2 rfl rfl rfl rfl rfl ?_
      dsimp only [putL, setL, List.set_cons_zero, List.set_cons_succ, List.nil_append, List.cons_append]
      refine wk_ldN 0 rfl rfl rfl rfl rfl ?_
      dsimp only [putL, setL, List.set_cons_zero, List.set_cons_succ, List.nil_append, List.cons_append]
      refine wk_move (.slice a xs.length c) rfl rfl rfl rfl ?_
      dsimp only [putL, setL, List.set_cons_zero, List.set_cons_succ, List.nil_append, List.cons_append]
      refine wk_move (.int .i64 i) rfl rfl rfl rfl ?_
      dsimp only [putL, setL, List.set_cons_zero, List.set_cons_succ, List.nil_append, List.cons_append]
      obtain ⟨β5, o5, ha5, hr5⟩ := hH.at_ (rowL_ne (k := (k - 1)) (by omega))
      refine wk_idxA (k - 1) 4 rfl rfl rfl rfl ha5 rfl Try.underlying57 (by kernel_rfl) (by omega) (by omega) ?_
      dsimp only [putL, setL, List.set_cons_zero, List.set_cons_succ, List.nil_append, List.cons_append]
      refine wk_ldA rfl rfl rfl rfl (fun M' w' hm hst => old_range hr5 (rowL_ne (k := (k - 1)) (by omega)) hst) (by omega) ?_
      dsimp only [putL, setL, List.set_cons_zero, List.set_cons_succ, List.nil_append, List.cons_append]
      refine wk_call [(numV y), (numV x)] (numV (y * x % modW 1)) rfl rfl rfl (enters_of Try.func86 (by kernel_rfl) (by kernel_rfl)) rfl (qmul_calls y x hy hx) ?_
      dsimp only [putL, setL, List.set_cons_zero, List.set_cons_succ, List.nil_append, List.cons_append]
      refine wk_call [(numV (y * x % modW 1)), (numV (ix xs (k - 1)))] (numV (((y * x % modW 1) + (ix xs (k - 1))) % modW 1)) rfl rfl rfl (enters_of Try.func85 (by kernel_rfl) (by kernel_rfl)) rfl (qadd_calls (y * x % modW 1) (ix xs (k - 1)) (Nat.lt_trans (Nat.mod_lt _ (modW_pos ok1)) (modW_lt 1)) (ix_lt hxs)) ?_
      dsimp only [putL, setL, List.set_cons_zero, List.set_cons_succ, List.nil_append, List.cons_append]
      refine wk_stN 2 (((y * x % modW 1) + (ix xs (k - 1))) % modW 1) rfl rfl rfl rfl rfl rfl ?_
      dsimp only [putL, setL, List.set_cons_zero, List.set_cons_succ, List.nil_append, List.cons_append]
      refine wk_nil ?_
      refine sp_region (π := [0, 1, 2]) [] rfl rfl ?_
      refine wk_move (.int .i64 i) rfl rfl rfl rfl ?_
      dsimp only [putL, setL, List.set_cons_zero, List.set_cons_succ, List.nil_append, List.cons_append]
      refine wk_iop (.int .i64 (i - 1)) rfl rfl rfl rfl rfl rfl (iop_sub (by omega) (by omega)) ?_
      dsimp only [putL, setL, List.set_cons_zero, List.set_cons_succ, List.nil_append, List.cons_append]
      refine wk_assign (.int .i64 (i - 1)) rfl rfl rfl rfl ?_
      dsimp only [putL, setL, List.set_cons_zero, List.set_cons_succ, List.nil_append, List.cons_append]
      refine wk_nil ?_
      exact ⟨[(β1, numO x), (β2, numO 0), (β3, numO (((y * x % modW 1) + (ix xs (k - 1))) % modW 1))], _, List.Sublist.refl _, ⟨(i - 1), (k - 1), (((y * x % modW 1) + (ix xs (k - 1))) % modW 1), (.int .i64 i), (.bool true), (.int .i64 i), (.int .i64 (i - 1)), (numV y), (numV x), (numV (y * x % modW 1)), (.slice a xs.length c), (.int .i64 i), (.pointer (some ⟨β5, o5 + (k - 1) * 4, none⟩)), (numV (ix xs (k - 1))), (numV (((y * x % modW 1) + (ix xs (k - 1))) % modW 1)), rfl, rfl, (by omega), (by omega), (evalL_step hf0 hc4 hf1 hf2), rfl⟩, (by omega)⟩
    · skip
      refine wk_iop (.bool false) rfl rfl rfl rfl rfl rfl (iop_geq_f hc4) ?_
      dsimp only [putL, setL, List.set_cons_zero, List.set_cons_succ, List.nil_append, List.cons_append]
      refine wk_nil ?_
      refine sp_false rfl rfl ?_
      refine sp_exit rfl ?_
      refine sp_seq rfl ?_
      refine sp_region (π := [0, 1]) [] rfl rfl ?_
      refine wk_ldN 2 rfl rfl rfl rfl rfl ?_
      dsimp only [putL, setL, List.set_cons_zero, List.set_cons_succ, List.nil_append, List.cons_append]
      refine wk_stN 1 y rfl rfl rfl rfl rfl rfl ?_
      dsimp only [putL, setL, List.set_cons_zero, List.set_cons_succ, List.nil_append, List.cons_append]
      refine wk_nil ?_
      refine sp_ret rfl ?_
      exact ret_numC 1 rfl rfl rfl fun w' hw => ⟨by rw [evalL_end hf0 hc4 hf2], hw.below⟩

end Go.Proofs.Ytmecomgifmkkfaa
