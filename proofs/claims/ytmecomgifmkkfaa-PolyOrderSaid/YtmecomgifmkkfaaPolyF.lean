/- The page's weights, places, and what shares tell at 0: what the calls answer. -/
import Derived.Test.YtmecomgifmkkfaaPolyE
import Derived.Test.YtmecomgifmkkfaaFieldM
namespace Go.Proofs.Ytmecomgifmkkfaa
set_option linter.unusedVariables false
set_option linter.unusedSimpArgs false
open Go.RowKit

theorem subM_zero {m a b : Nat} (hm : 0 < m) : subM m a b = 0 ↔ a % m = b % m := by
  constructor
  · intro h
    have := subM_add (a := a) (b := b) hm
    rw [h, Nat.zero_add] at this
    exact this.symm
  · intro h
    exact subM_of hm (by rw [Nat.zero_add]; exact h.symm)
theorem subM_zero_comm {m a b : Nat} (hm : 0 < m) : subM m a b = 0 ↔ subM m b a = 0 := by
  rw [subM_zero hm, subM_zero hm]; exact eq_comm
theorem wrongI_zero {m : Nat} {xs : List Nat} (h : wrongI m xs = 0) : ¬ (xs.length = 0 ∨ 64 < xs.length) ∧ Unlike m xs xs.length := by
  unfold wrongI at h
  split at h
  · cases h
  · rename_i h1
    split at h
    · rename_i h2; exact ⟨h1, h2⟩
    · cases h
/-- No place up to the i-th one is like another one. -/
def Apart (m : Nat) (xs : List Nat) (i : Nat) : Prop := ∀ i', i' < i → ∀ k, k < xs.length → k ≠ i' → subM m (ix xs k) (ix xs i') ≠ 0
theorem apart_zero (m : Nat) (xs : List Nat) : Apart m xs 0 := fun i h => by omega
theorem apart_succ {m : Nat} {xs : List Nat} {i : Nat} (h : Apart m xs i) (hk : ∀ k, k < xs.length → k ≠ i → subM m (ix xs k) (ix xs i) ≠ 0) : Apart m xs (i + 1) := by
  intro j hj k hk' hn
  rcases Nat.lt_or_ge j i with h1 | h1
  · exact h j h1 k hk' hn
  · obtain rfl : j = i := by omega
    exact hk k hk' hn
theorem apart_all {m : Nat} {xs : List Nat} (hm : 0 < m) (h : Apart m xs xs.length) : Unlike m xs xs.length := fun i hi k hk h0 =>
  h i hi k (by omega) (by omega) ((subM_zero_comm hm).1 h0)
theorem unlike_ne {m : Nat} {xs : List Nat} (hm : 0 < m) (h : Unlike m xs xs.length) {i k : Nat} (hi : i < xs.length) (hk : k < xs.length) (hn : ¬ k = i) : subM m (ix xs k) (ix xs i) ≠ 0 := by
  intro h0
  rcases Nat.lt_or_gt_of_ne hn with h1 | h1
  · exact h i hi k h1 ((subM_zero_comm hm).1 h0)
  · exact h k hk i h1 h0
theorem row_succ {m : Nat} {xs : List Nat} {i k : Nat} (h : ∀ k', k' < k → k' ≠ i → subM m (ix xs k') (ix xs i) ≠ 0) (hk : k = i ∨ ¬ subM m (ix xs k) (ix xs i) = 0) : ∀ k', k' < k + 1 → k' ≠ i → subM m (ix xs k') (ix xs i) ≠ 0 := by
  intro k' hk' hn
  rcases Nat.lt_or_ge k' k with h1 | h1
  · exact h k' h1 hn
  · obtain rfl : k' = k := by omega
    exact hk.resolve_left hn
/-- What the page multiplies for the i-th weight, up to the k-th place. -/
def pageW (m : Nat) (xs : List Nat) (i k : Nat) : Nat := overL m xs i k * (underL m xs i k ^ (m - 2) % m) % m
theorem weights_page (m : Nat) (xs : List Nat) (i : Nat) : rowL (weightsTo m xs (i + 1)) = rowL (weightsTo m xs i) ++ rowL [pageW m xs i xs.length] := weights_row m xs i
theorem pageW_zero {m : Nat} (hm : 1 < m) (xs : List Nat) (i : Nat) : 1 = pageW m xs i 0 := by
  unfold pageW overL underL
  rw [Nat.one_pow, Nat.mod_eq_of_lt hm, Nat.mod_eq_of_lt hm]
theorem pageW_same {m : Nat} {xs : List Nat} {i k : Nat} (h : k = i) : pageW m xs i (k + 1) = pageW m xs i k := by
  unfold pageW; rw [overL, underL, if_pos h, if_pos h]
theorem mulmod4 (m a b x d : Nat) : a * (b % m) % m * (x * (d % m) % m) % m = a * x % m * (b * d % m) % m := by
  rw [Nat.mul_mod_mod a b m, Nat.mul_mod_mod x d m, ← Nat.mul_mod, ← Nat.mul_mod]
  congr 1
  ac_rfl
theorem pageW_step {m : Nat} {xs : List Nat} {i k : Nat} (h : ¬ k = i) : pageW m xs i k * (ix xs k * (subM m (ix xs k) (ix xs i) ^ (m - 2) % m) % m) % m = pageW m xs i (k + 1) := by
  unfold pageW
  rw [overL, underL, if_neg h, if_neg h, ← Nat.pow_mod, Nat.mul_pow]
  exact mulmod4 _ _ _ _ _
theorem pageW_lt {m : Nat} (hm : 0 < m) (hW : m < W256) (xs : List Nat) (i k : Nat) : pageW m xs i k < W256 := Nat.lt_trans (Nat.mod_lt _ hm) hW

set_option maxRecDepth 20000 in
set_option maxHeartbeats 400000 in
theorem rweights_ok (xs : List Nat) (a : Option Addr) (c : Nat) (hxs : ∀ y ∈ xs, y < W256) (hn : xs.length ≤ 1099511627776) (hc : xs.length ≤ c) (hw0 : wrongI (modW 1) xs = 0) (w : World) (hH : Holds w a (rowL xs)) : Calls Try.prog 66 #[.slice a xs.length c] w (NewS 24 4 (fun v => .tuple #[v, .int .i64 0]) xs.length (rowL (weightsTo (modW 1) xs xs.length)) w) := by
  refine fn_calls (l0 := [(.slice a xs.length c), undef, undef, undef, undef, undef, undef, undef, undef, undef, undef, undef, undef, undef, undef, undef, undef, undef, undef, undef, undef, undef, undef, undef, undef, undef, undef, undef, undef, undef, undef, undef, undef, undef, undef, undef, undef, undef, undef, undef, undef, undef, undef, undef, undef, undef, undef, undef, undef, undef, undef, undef, undef, undef, undef, undef, undef, undef, undef]) Try.func66 rfl rfl [] (St.start w) ?_
  refine sp_seq rfl ?_
  refine sp_region (π := [0, 1]) [] rfl rfl ?_
  refine wk_assign (.slice none 0 0) rfl rfl rfl rfl ?_
  dsimp only [putL, setL, List.set_cons_zero, List.set_cons_succ, List.nil_append, List.cons_append]
  refine wk_assign (.int .i64 0) rfl rfl rfl rfl ?_
  dsimp only [putL, setL, List.set_cons_zero, List.set_cons_succ, List.nil_append, List.cons_append]
  refine wk_nil ?_
  refine sp_seq rfl ?_
  refine sp_seq rfl ?_
  refine sp_region (π := [0, 1, 2, 3, 4, 5, 6, 7]) [] rfl rfl ?_
  refine wk_move (.slice a xs.length c) rfl rfl rfl rfl ?_
  dsimp only [putL, setL, List.set_cons_zero, List.set_cons_succ, List.nil_append, List.cons_append]
  refine wk_lenA rfl rfl rfl rfl Try.underlying57 ?_
  dsimp only [putL, setL, List.set_cons_zero, List.set_cons_succ, List.nil_append, List.cons_append]
  by_cases hc1 : ((xs.length : Nat) : Int) < 1
  · skip
    refine wk_iop (.bool true) rfl rfl rfl rfl rfl rfl (iop_lss_t hc1) ?_
    dsimp only [putL, setL, List.set_cons_zero, List.set_cons_succ, List.nil_append, List.cons_append]
    refine wk_move (.bool true) rfl rfl rfl rfl ?_
    dsimp only [putL, setL, List.set_cons_zero, List.set_cons_succ, List.nil_append, List.cons_append]
    refine wk_skip rfl rfl (fun h => by cases h) ?_
    dsimp only [putL, setL, List.set_cons_zero, List.set_cons_succ, List.nil_append, List.cons_append]
    refine wk_skip rfl rfl (fun h => by cases h) ?_
    dsimp only [putL, setL, List.set_cons_zero, List.set_cons_succ, List.nil_append, List.cons_append]
    refine wk_skip rfl rfl (fun h => by cases h) ?_
    dsimp only [putL, setL, List.set_cons_zero, List.set_cons_succ, List.nil_append, List.cons_append]
    refine wk_pick true (.bool true) rfl rfl rfl rfl rfl ?_
    dsimp only [putL, setL, List.set_cons_zero, List.set_cons_succ, List.nil_append, List.cons_append]
    refine wk_nil ?_
    refine sp_true rfl rfl ?_
    refine sp_seq rfl ?_
    refine sp_region (π := [0, 1]) [] rfl rfl ?_
    refine wk_assign (.slice none 0 0) rfl rfl rfl rfl ?_
    dsimp only [putL, setL, List.set_cons_zero, List.set_cons_succ, List.nil_append, List.cons_append]
    refine wk_assign (.int .i64 4) rfl rfl rfl rfl ?_
    dsimp only [putL, setL, List.set_cons_zero, List.set_cons_succ, List.nil_append, List.cons_append]
    refine wk_nil ?_
    refine sp_ret rfl ?_
    exact absurd (wrongI_zero hw0).1 (by omega)
  · skip
    refine wk_iop (.bool false) rfl rfl rfl rfl rfl rfl (iop_lss_f hc1) ?_
    dsimp only [putL, setL, List.set_cons_zero, List.set_cons_succ, List.nil_append, List.cons_append]
    refine wk_move (.bool false) rfl rfl rfl rfl ?_
    dsimp only [putL, setL, List.set_cons_zero, List.set_cons_succ, List.nil_append, List.cons_append]
    refine wk_move (.slice a xs.length c) rfl rfl rfl rfl ?_
    dsimp only [putL, setL, List.set_cons_zero, List.set_cons_succ, List.nil_append, List.cons_append]
    refine wk_lenA rfl rfl rfl rfl Try.underlying57 ?_
    dsimp only [putL, setL, List.set_cons_zero, List.set_cons_succ, List.nil_append, List.cons_append]
    by_cases hc2 : 64 < ((xs.length : Nat) : Int)
    · skip
      refine wk_iop (.bool true) rfl rfl rfl rfl rfl rfl (iop_gtr_t hc2) ?_
      dsimp only [putL, setL, List.set_cons_zero, List.set_cons_succ, List.nil_append, List.cons_append]
      refine wk_pick false (.bool true) rfl rfl rfl rfl rfl ?_
      dsimp only [putL, setL, List.set_cons_zero, List.set_cons_succ, List.nil_append, List.cons_append]
      refine wk_nil ?_
      refine sp_true rfl rfl ?_
      refine sp_seq rfl ?_
      refine sp_region (π := [0, 1]) [] rfl rfl ?_
      refine wk_assign (.slice none 0 0) rfl rfl rfl rfl ?_
      dsimp only [putL, setL, List.set_cons_zero, List.set_cons_succ, List.nil_append, List.cons_append]
      refine wk_assign (.int .i64 4) rfl rfl rfl rfl ?_
      dsimp only [putL, setL, List.set_cons_zero, List.set_cons_succ, List.nil_append, List.cons_append]
      refine wk_nil ?_
      refine sp_ret rfl ?_
      exact absurd (wrongI_zero hw0).1 (by omega)
    · skip
      refine wk_iop (.bool false) rfl rfl rfl rfl rfl rfl (iop_gtr_f hc2) ?_
      dsimp only [putL, setL, List.set_cons_zero, List.set_cons_succ, List.nil_append, List.cons_append]
      refine wk_pick false (.bool false) rfl rfl rfl rfl rfl ?_
      dsimp only [putL, setL, List.set_cons_zero, List.set_cons_succ, List.nil_append, List.cons_append]
      refine wk_nil ?_
      refine sp_false rfl rfl ?_
      refine sp_skip rfl ?_
      refine sp_seq rfl ?_
      refine sp_region (π := [0]) [] rfl rfl ?_
      refine wk_assign (.slice none 0 0) rfl rfl rfl rfl ?_
      dsimp only [putL, setL, List.set_cons_zero, List.set_cons_succ, List.nil_append, List.cons_append]
      refine wk_nil ?_
      refine sp_seq rfl ?_
      refine sp_seq rfl ?_
      refine sp_region (π := [0]) [] rfl rfl ?_
      refine wk_assign (.int .i64 0) rfl rfl rfl rfl ?_
      dsimp only [putL, setL, List.set_cons_zero, List.set_cons_succ, List.nil_append, List.cons_append]
      refine wk_nil ?_
      refine sp_block rfl ?_
      refine sp_loopg rfl (fun n l M => ∃ i : Nat, ∃ v : Value, ∃ S : Mem, ∃ d2 : Value, ∃ d3 : Value, ∃ d6 : Value, ∃ d7 : Value, ∃ d8 : Value, ∃ d17 : Value, ∃ d18 : Value, ∃ d19 : Value, ∃ d20 : Value, ∃ d21 : Value, ∃ d22 : Value, ∃ d23 : Value, ∃ d24 : Value, ∃ d25 : Value, ∃ d26 : Value, ∃ d27 : Value, ∃ d28 : Value, ∃ d29 : Value, ∃ d30 : Value, ∃ d31 : Value, ∃ d32 : Value, ∃ d33 : Value, ∃ d34 : Value, ∃ d35 : Value, ∃ d36 : Value, ∃ d37 : Value, ∃ d38 : Value, ∃ d39 : Value, ∃ d40 : Value, ∃ d41 : Value, ∃ d42 : Value, ∃ d43 : Value, ∃ d44 : Value, ∃ d45 : Value, ∃ d46 : Value, ∃ d47 : Value, ∃ d48 : Value, ∃ d49 : Value, ∃ d50 : Value, ∃ d51 : Value, ∃ d52 : Value, ∃ d53 : Value, ∃ d54 : Value, ∃ d55 : Value, ∃ d56 : Value, ∃ d57 : Value, l = [(.slice a xs.length c), undef, d2, d3, v, (.int .i64 (i : Int)), d6, d7, d8, (.slice a xs.length c), (.int .i64 ((xs.length : Nat) : Int)), (.bool false), (.bool false), (.slice a xs.length c), (.int .i64 ((xs.length : Nat) : Int)), (.bool false), (.bool false), d17, d18, d19, d20, d21, d22, d23, d24, d25, d26, d27, d28, d29, d30, d31, d32, d33, d34, d35, d36, d37, d38, d39, d40, d41, d42, d43, d44, d45, d46, d47, d48, d49, d50, d51, d52, d53, d54, d55, d56, d57, undef] ∧ S = M ∧ (i ≤ xs.length) ∧ (Apart (modW 1) xs i) ∧ (OwnS 24 4 v i (rowL (weightsTo (modW 1) xs i)) S) ∧ n = xs.length - i) (xs.length - 0) ?_ ?_
      · exact ⟨0, (.slice none 0 0), [], (.slice none 0 0), (.int .i64 0), undef, undef, undef, undef, undef, undef, undef, undef, undef, undef, undef, undef, undef, undef, undef, undef, undef, undef, undef, undef, undef, undef, undef, undef, undef, undef, undef, undef, undef, undef, undef, undef, undef, undef, undef, undef, undef, undef, undef, undef, undef, undef, undef, undef, rfl, rfl, (Nat.zero_le _), (apart_zero _ _), (OwnS.nil _ _), rfl⟩
      · skip
        intro n l M
        refine exists_imp.2 fun i => ?_
        refine exists_imp.2 fun v => ?_
        refine exists_imp.2 fun S => ?_
        refine exists_imp.2 fun d2 => ?_
        refine exists_imp.2 fun d3 => ?_
        refine exists_imp.2 fun d6 => ?_
        refine exists_imp.2 fun d7 => ?_
        refine exists_imp.2 fun d8 => ?_
        refine exists_imp.2 fun d17 => ?_
        refine exists_imp.2 fun d18 => ?_
        refine exists_imp.2 fun d19 => ?_
        refine exists_imp.2 fun d20 => ?_
        refine exists_imp.2 fun d21 => ?_
        refine exists_imp.2 fun d22 => ?_
        refine exists_imp.2 fun d23 => ?_
        refine exists_imp.2 fun d24 => ?_
        refine exists_imp.2 fun d25 => ?_
        refine exists_imp.2 fun d26 => ?_
        refine exists_imp.2 fun d27 => ?_
        refine exists_imp.2 fun d28 => ?_
        refine exists_imp.2 fun d29 => ?_
        refine exists_imp.2 fun d30 => ?_
        refine exists_imp.2 fun d31 => ?_
        refine exists_imp.2 fun d32 => ?_
        refine exists_imp.2 fun d33 => ?_
        refine exists_imp.2 fun d34 => ?_
        refine exists_imp.2 fun d35 => ?_
        refine exists_imp.2 fun d36 => ?_
        refine exists_imp.2 fun d37 => ?_
        refine exists_imp.2 fun d38 => ?_
        refine exists_imp.2 fun d39 => ?_
        refine exists_imp.2 fun d40 => ?_
        refine exists_imp.2 fun d41 => ?_
        refine exists_imp.2 fun d42 => ?_
        refine exists_imp.2 fun d43 => ?_
        refine exists_imp.2 fun d44 => ?_
        refine exists_imp.2 fun d45 => ?_
        refine exists_imp.2 fun d46 => ?_
        refine exists_imp.2 fun d47 => ?_
        refine exists_imp.2 fun d48 => ?_
        refine exists_imp.2 fun d49 => ?_
        refine exists_imp.2 fun d50 => ?_
        refine exists_imp.2 fun d51 => ?_
        refine exists_imp.2 fun d52 => ?_
        refine exists_imp.2 fun d53 => ?_
        refine exists_imp.2 fun d54 => ?_
        refine exists_imp.2 fun d55 => ?_
        refine exists_imp.2 fun d56 => ?_
        refine exists_imp.2 fun d57 => ?_
        rintro ⟨rfl, rfl, hf0, hf1, hf2, rfl⟩
        refine sp_seq rfl ?_
        refine sp_seq rfl ?_
        refine sp_region (π := [0, 1, 2, 3]) [] rfl rfl ?_
        refine wk_move (.int .i64 (i : Int)) rfl rfl rfl rfl ?_
        dsimp only [putL, setL, List.set_cons_zero, List.set_cons_succ, List.nil_append, List.cons_append]
        refine wk_move (.slice a xs.length c) rfl rfl rfl rfl ?_
        dsimp only [putL, setL, List.set_cons_zero, List.set_cons_succ, List.nil_append, List.cons_append]
        refine wk_lenA rfl rfl rfl rfl Try.underlying57 ?_
        dsimp only [putL, setL, List.set_cons_zero, List.set_cons_succ, List.nil_append, List.cons_append]
        by_cases hc3 : (i : Int) < ((xs.length : Nat) : Int)
        · skip
          refine wk_iop (.bool true) rfl rfl rfl rfl rfl rfl (iop_lss_t hc3) ?_
          dsimp only [putL, setL, List.set_cons_zero, List.set_cons_succ, List.nil_append, List.cons_append]
          refine wk_nil ?_
          refine sp_true rfl rfl ?_
          refine sp_skip rfl ?_
          refine sp_seq rfl ?_
          refine sp_block rfl ?_
          refine sp_seq rfl ?_
          refine sp_region (π := [0, 1, 2]) [] rfl rfl ?_
          refine wk_val (numV 1) rfl rfl rfl (fun w => by kernel_rfl) ?_
          dsimp only [putL, setL, List.set_cons_zero, List.set_cons_succ, List.nil_append, List.cons_append]
          refine wkf_newN rfl rfl fun β4 => ?_
          dsimp only [putL, setL, List.set_cons_zero, List.set_cons_succ, List.nil_append, List.cons_append]
          refine wk_stN 0 1 rfl rfl rfl rfl rfl rfl ?_
          dsimp only [putL, setL, List.set_cons_zero, List.set_cons_succ, List.nil_append, List.cons_append]
          refine wk_nil ?_
          refine sp_seq rfl ?_
          refine sp_seq rfl ?_
          refine sp_region (π := [0]) [] rfl rfl ?_
          refine wk_assign (.int .i64 0) rfl rfl rfl rfl ?_
          dsimp only [putL, setL, List.set_cons_zero, List.set_cons_succ, List.nil_append, List.cons_append]
          refine wk_nil ?_
          refine sp_block rfl ?_
          refine sp_loopg rfl (fun n l M => ∃ k : Nat, ∃ y : Nat, ∃ d2 : Value, ∃ d3 : Value, ∃ d8 : Value, ∃ d24 : Value, ∃ d25 : Value, ∃ d26 : Value, ∃ d27 : Value, ∃ d28 : Value, ∃ d29 : Value, ∃ d30 : Value, ∃ d31 : Value, ∃ d32 : Value, ∃ d33 : Value, ∃ d34 : Value, ∃ d35 : Value, ∃ d36 : Value, ∃ d37 : Value, ∃ d38 : Value, ∃ d39 : Value, ∃ d40 : Value, ∃ d41 : Value, ∃ d42 : Value, ∃ d43 : Value, ∃ d44 : Value, ∃ d45 : Value, ∃ d46 : Value, ∃ d47 : Value, ∃ d48 : Value, ∃ d49 : Value, ∃ d50 : Value, ∃ d51 : Value, ∃ d52 : Value, ∃ d53 : Value, l = [(.slice a xs.length c), undef, d2, d3, v, (.int .i64 (i : Int)), (.pointer (some ⟨β4, 0, none⟩)), (.int .i64 (k : Int)), d8, (.slice a xs.length c), (.int .i64 ((xs.length : Nat) : Int)), (.bool false), (.bool false), (.slice a xs.length c), (.int .i64 ((xs.length : Nat) : Int)), (.bool false), (.bool false), (.int .i64 (i : Int)), (.slice a xs.length c), (.int .i64 ((xs.length : Nat) : Int)), (.bool true), d21, d22, (numV 1), d24, d25, d26, d27, d28, d29, d30, d31, d32, d33, d34, d35, d36, d37, d38, d39, d40, d41, d42, d43, d44, d45, d46, d47, d48, d49, d50, d51, d52, d53, d54, d55, d56, d57, undef] ∧ (β4, numO y) :: S = M ∧ (k ≤ xs.length) ∧ (y = pageW (modW 1) xs i k) ∧ (∀ k', k' < k → k' ≠ i → subM (modW 1) (ix xs k') (ix xs i) ≠ 0) ∧ n = xs.length - k) (xs.length - 0) ?_ ?_
          · exact ⟨0, 1, d2, d3, d8, d24, d25, d26, d27, d28, d29, d30, d31, d32, d33, d34, d35, d36, d37, d38, d39, d40, d41, d42, d43, d44, d45, d46, d47, d48, d49, d50, d51, d52, d53, rfl, rfl, (Nat.zero_le _), (pageW_zero (Nat.lt_trans (by decide) (modW_two ok1)) _ _), (fun k' hk' => by omega), rfl⟩
          · skip
            intro n l M
            refine exists_imp.2 fun k => ?_
            refine exists_imp.2 fun y => ?_
            refine exists_imp.2 fun d2 => ?_
            refine exists_imp.2 fun d3 => ?_
            refine exists_imp.2 fun d8 => ?_
            refine exists_imp.2 fun d24 => ?_
            refine exists_imp.2 fun d25 => ?_
            refine exists_imp.2 fun d26 => ?_
            refine exists_imp.2 fun d27 => ?_
            refine exists_imp.2 fun d28 => ?_
            refine exists_imp.2 fun d29 => ?_
            refine exists_imp.2 fun d30 => ?_
            refine exists_imp.2 fun d31 => ?_
            refine exists_imp.2 fun d32 => ?_
            refine exists_imp.2 fun d33 => ?_
            refine exists_imp.2 fun d34 => ?_
            refine exists_imp.2 fun d35 => ?_
            refine exists_imp.2 fun d36 => ?_
            refine exists_imp.2 fun d37 => ?_
            refine exists_imp.2 fun d38 => ?_
            refine exists_imp.2 fun d39 => ?_
            refine exists_imp.2 fun d40 => ?_
            refine exists_imp.2 fun d41 => ?_
            refine exists_imp.2 fun d42 => ?_
            refine exists_imp.2 fun d43 => ?_
            refine exists_imp.2 fun d44 => ?_
            refine exists_imp.2 fun d45 => ?_
            refine exists_imp.2 fun d46 => ?_
            refine exists_imp.2 fun d47 => ?_
            refine exists_imp.2 fun d48 => ?_
            refine exists_imp.2 fun d49 => ?_
            refine exists_imp.2 fun d50 => ?_
            refine exists_imp.2 fun d51 => ?_
            refine exists_imp.2 fun d52 => ?_
            refine exists_imp.2 fun d53 => ?_
            rintro ⟨rfl, rfl, hg0, hg1, hg2, rfl⟩
            have hy : y < W256 := by rw [hg1]; exact pageW_lt (modW_pos ok1) (modW_lt 1) _ _ _
            refine sp_seq rfl ?_
            refine sp_seq rfl ?_
            refine sp_region (π := [0, 1, 2, 3]) [] rfl rfl ?_
            refine wk_move (.int .i64 (k : Int)) rfl rfl rfl rfl ?_
            dsimp only [putL, setL, List.set_cons_zero, List.set_cons_succ, List.nil_append, List.cons_append]
            refine wk_move (.slice a xs.length c) rfl rfl rfl rfl ?_
            dsimp only [putL, setL, List.set_cons_zero, List.set_cons_succ, List.nil_append, List.cons_append]
            refine wk_lenA rfl rfl rfl rfl Try.underlying57 ?_
            dsimp only [putL, setL, List.set_cons_zero, List.set_cons_succ, List.nil_append, List.cons_append]
            by_cases hc5 : (k : Int) < ((xs.length : Nat) : Int)
            · skip
              refine wk_iop (.bool true) rfl rfl rfl rfl rfl rfl (iop_lss_t hc5) ?_
              dsimp only [putL, setL, List.set_cons_zero, List.set_cons_succ, List.nil_append, List.cons_append]
              refine wk_nil ?_
              refine sp_true rfl rfl ?_
              refine sp_skip rfl ?_
              refine sp_seq rfl ?_
              refine sp_block rfl ?_
              refine sp_seq rfl ?_
              refine sp_seq rfl ?_
              refine sp_region (π := [0, 1, 2]) [] rfl rfl ?_
              refine wk_move (.int .i64 (k : Int)) rfl rfl rfl rfl ?_
              dsimp only [putL, setL, List.set_cons_zero, List.set_cons_succ, List.nil_append, List.cons_append]
              refine wk_move (.int .i64 (i : Int)) rfl rfl rfl rfl ?_
              dsimp only [putL, setL, List.set_cons_zero, List.set_cons_succ, List.nil_append, List.cons_append]
              by_cases hc6 : (k : Int) = (i : Int)
              · skip
                refine wk_iop (.bool true) rfl rfl rfl rfl rfl rfl (iop_eql_t hc6) ?_
                dsimp only [putL, setL, List.set_cons_zero, List.set_cons_succ, List.nil_append, List.cons_append]
                refine wk_nil ?_
                refine sp_true rfl rfl ?_
                refine sp_exit rfl ?_
                refine sp_region (π := [0, 1, 2]) [] rfl rfl ?_
                refine wk_move (.int .i64 (k : Int)) rfl rfl rfl rfl ?_
                dsimp only [putL, setL, List.set_cons_zero, List.set_cons_succ, List.nil_append, List.cons_append]
                refine wk_iop (.int .i64 ((k : Int) + 1)) rfl rfl rfl rfl rfl rfl (iop_add (by omega) (by omega)) ?_
                dsimp only [putL, setL, List.set_cons_zero, List.set_cons_succ, List.nil_append, List.cons_append]
                refine wk_assign (.int .i64 ((k : Int) + 1)) rfl rfl rfl rfl ?_
                dsimp only [putL, setL, List.set_cons_zero, List.set_cons_succ, List.nil_append, List.cons_append]
                refine wk_nil ?_
                exact ⟨(β4, numO y) :: S, _, List.Sublist.refl _, ⟨(k + 1), y, d2, d3, d8, (.int .i64 (k : Int)), (.slice a xs.length c), (.int .i64 ((xs.length : Nat) : Int)), (.bool true), (.int .i64 (k : Int)), (.int .i64 ((k : Int) + 1)), (.int .i64 (k : Int)), (.int .i64 (i : Int)), (.bool true), d33, d34, d35, d36, d37, d38, d39, d40, d41, d42, d43, d44, d45, d46, d47, d48, d49, d50, d51, d52, d53, rfl, rfl, (by omega), (by rw [pageW_same (by omega)]; exact hg1), (row_succ hg2 (.inl (by omega))), rfl⟩, (by omega)⟩
              · skip
                refine wk_iop (.bool false) rfl rfl rfl rfl rfl rfl (iop_eql_f hc6) ?_
                dsimp only [putL, setL, List.set_cons_zero, List.set_cons_succ, List.nil_append, List.cons_append]
                refine wk_nil ?_
                refine sp_false rfl rfl ?_
                refine sp_skip rfl ?_
                refine sp_seq rfl ?_
                refine sp_draw [0, 1, 2, 3, 4, 5, 6, 7, 8, 9, 10] [] mixed rfl (by kernel_rfl) (by kernel_rfl) ?_
                refine wk_move (.slice a xs.length c) rfl rfl rfl rfl ?_
                dsimp only [putL, setL, List.set_cons_zero, List.set_cons_succ, List.nil_append, List.cons_append]
                refine wk_move (.int .i64 (k : Int)) rfl rfl rfl rfl ?_
                dsimp only [putL, setL, List.set_cons_zero, List.set_cons_succ, List.nil_append, List.cons_append]
                obtain ⟨β7, o7, ha7, hr7⟩ := hH.at_ (rowL_ne (k := k) (by omega))
                refine wk_idxA k 4 rfl rfl rfl rfl ha7 rfl Try.underlying57 (by kernel_rfl) rfl (by omega) ?_
                dsimp only [putL, setL, List.set_cons_zero, List.set_cons_succ, List.nil_append, List.cons_append]
                refine wk_ldA rfl rfl rfl rfl (fun M' w' hm hst => old_range hr7 (rowL_ne (k := k) (by omega)) hst) (by omega) ?_
                dsimp only [putL, setL, List.set_cons_zero, List.set_cons_succ, List.nil_append, List.cons_append]
                refine wk_move (.slice a xs.length c) rfl rfl rfl rfl ?_
                dsimp only [putL, setL, List.set_cons_zero, List.set_cons_succ, List.nil_append, List.cons_append]
                refine wk_move (.int .i64 (i : Int)) rfl rfl rfl rfl ?_
                dsimp only [putL, setL, List.set_cons_zero, List.set_cons_succ, List.nil_append, List.cons_append]
                refine wk_idxA i 4 rfl rfl rfl rfl ha7 rfl Try.underlying57 (by kernel_rfl) rfl (by omega) ?_
                dsimp only [putL, setL, List.set_cons_zero, List.set_cons_succ, List.nil_append, List.cons_append]
                refine wk_ldA rfl rfl rfl rfl (fun M' w' hm hst => old_range hr7 (rowL_ne (k := i) (by omega)) hst) (by omega) ?_
                dsimp only [putL, setL, List.set_cons_zero, List.set_cons_succ, List.nil_append, List.cons_append]
                refine wk_call [(numV (ix xs k)), (numV (ix xs i))] (numV (subM (modW 1) (ix xs k) (ix xs i))) rfl rfl rfl (enters_of Try.func87 (by kernel_rfl) (by kernel_rfl)) rfl (qsub_calls (ix xs k) (ix xs i) (ix_lt hxs) (ix_lt hxs)) ?_
                dsimp only [putL, setL, List.set_cons_zero, List.set_cons_succ, List.nil_append, List.cons_append]
                refine wkf_newN rfl rfl fun β8 => ?_
                dsimp only [putL, setL, List.set_cons_zero, List.set_cons_succ, List.nil_append, List.cons_append]
                refine wk_stN 0 (subM (modW 1) (ix xs k) (ix xs i)) rfl rfl rfl rfl rfl rfl ?_
                dsimp only [putL, setL, List.set_cons_zero, List.set_cons_succ, List.nil_append, List.cons_append]
                refine wk_nil ?_
                refine sp_seq rfl ?_
                refine sp_seq rfl ?_
                refine sp_region (π := [0, 1, 2]) [] rfl rfl ?_
                refine wk_ldN 0 rfl rfl rfl rfl rfl ?_
                dsimp only [putL, setL, List.set_cons_zero, List.set_cons_succ, List.nil_append, List.cons_append]
                refine wk_val (numV 0) rfl rfl rfl (fun w => by kernel_rfl) ?_
                dsimp only [putL, setL, List.set_cons_zero, List.set_cons_succ, List.nil_append, List.cons_append]
                by_cases hc9 : (subM (modW 1) (ix xs k) (ix xs i)) = 0
                · skip
                  refine wk_eqN true rfl rfl rfl rfl rfl (Nat.lt_trans (Nat.mod_lt _ (modW_pos ok1)) (modW_lt 1)) (by decide) (decide_eq_true hc9) ?_
                  dsimp only [putL, setL, List.set_cons_zero, List.set_cons_succ, List.nil_append, List.cons_append]
                  refine wk_nil ?_
                  refine sp_true rfl rfl ?_
                  refine sp_seq rfl ?_
                  refine sp_region (π := [0, 1]) [] rfl rfl ?_
                  refine wk_assign (.slice none 0 0) rfl rfl rfl rfl ?_
                  dsimp only [putL, setL, List.set_cons_zero, List.set_cons_succ, List.nil_append, List.cons_append]
                  refine wk_assign (.int .i64 6) rfl rfl rfl rfl ?_
                  dsimp only [putL, setL, List.set_cons_zero, List.set_cons_succ, List.nil_append, List.cons_append]
                  refine wk_nil ?_
                  refine sp_ret rfl ?_
                  exact False.elim (unlike_ne (modW_pos ok1) (wrongI_zero hw0).2 (i := i) (k := k) (by omega) (by omega) (by omega) hc9)
                · skip
                  refine wk_eqN false rfl rfl rfl rfl rfl (Nat.lt_trans (Nat.mod_lt _ (modW_pos ok1)) (modW_lt 1)) (by decide) (decide_eq_false hc9) ?_
                  dsimp only [putL, setL, List.set_cons_zero, List.set_cons_succ, List.nil_append, List.cons_append]
                  refine wk_nil ?_
                  refine sp_false rfl rfl ?_
                  refine sp_skip rfl ?_
                  refine sp_draw [0, 1, 2, 3, 4, 5, 6, 7, 8, 9] [] mixed rfl (by kernel_rfl) (by kernel_rfl) ?_
                  refine wk_ldN 1 rfl rfl rfl rfl rfl ?_
                  dsimp only [putL, setL, List.set_cons_zero, List.set_cons_succ, List.nil_append, List.cons_append]
                  refine wk_move (.slice a xs.length c) rfl rfl rfl rfl ?_
                  dsimp only [putL, setL, List.set_cons_zero, List.set_cons_succ, List.nil_append, List.cons_append]
                  refine wk_move (.int .i64 (k : Int)) rfl rfl rfl rfl ?_
                  dsimp only [putL, setL, List.set_cons_zero, List.set_cons_succ, List.nil_append, List.cons_append]
                  refine wk_idxA k 4 rfl rfl rfl rfl ha7 rfl Try.underlying57 (by kernel_rfl) rfl (by omega) ?_
                  dsimp only [putL, setL, List.set_cons_zero, List.set_cons_succ, List.nil_append, List.cons_append]
                  refine wk_ldA rfl rfl rfl rfl (fun M' w' hm hst => old_range hr7 (rowL_ne (k := k) (by omega)) hst) (by omega) ?_
                  dsimp only [putL, setL, List.set_cons_zero, List.set_cons_succ, List.nil_append, List.cons_append]
                  refine wk_ldN 0 rfl rfl rfl rfl rfl ?_
                  dsimp only [putL, setL, List.set_cons_zero, List.set_cons_succ, List.nil_append, List.cons_append]
                  refine wk_call [(.int .i64 1), (numV (subM (modW 1) (ix xs k) (ix xs i)))] (numV ((subM (modW 1) (ix xs k) (ix xs i)) ^ (modW 1 - 2) % modW 1)) rfl rfl rfl (enters_of Try.func88 (by kernel_rfl) (by kernel_rfl)) rfl (rinv_ok 1 (subM (modW 1) (ix xs k) (ix xs i)) ok1 (Nat.lt_trans (Nat.mod_lt _ (modW_pos ok1)) (modW_lt 1))) ?_
                  dsimp only [putL, setL, List.set_cons_zero, List.set_cons_succ, List.nil_append, List.cons_append]
                  refine wk_call [(numV (ix xs k)), (numV ((subM (modW 1) (ix xs k) (ix xs i)) ^ (modW 1 - 2) % modW 1))] (numV ((ix xs k) * ((subM (modW 1) (ix xs k) (ix xs i)) ^ (modW 1 - 2) % modW 1) % modW 1)) rfl rfl rfl (enters_of Try.func86 (by kernel_rfl) (by kernel_rfl)) rfl (qmul_calls (ix xs k) ((subM (modW 1) (ix xs k) (ix xs i)) ^ (modW 1 - 2) % modW 1) (ix_lt hxs) (Nat.lt_trans (Nat.mod_lt _ (modW_pos ok1)) (modW_lt 1))) ?_
                  dsimp only [putL, setL, List.set_cons_zero, List.set_cons_succ, List.nil_append, List.cons_append]
                  refine wk_call [(numV y), (numV ((ix xs k) * ((subM (modW 1) (ix xs k) (ix xs i)) ^ (modW 1 - 2) % modW 1) % modW 1))] (numV (y * ((ix xs k) * ((subM (modW 1) (ix xs k) (ix xs i)) ^ (modW 1 - 2) % modW 1) % modW 1) % modW 1)) rfl rfl rfl (enters_of Try.func86 (by kernel_rfl) (by kernel_rfl)) rfl (qmul_calls y ((ix xs k) * ((subM (modW 1) (ix xs k) (ix xs i)) ^ (modW 1 - 2) % modW 1) % modW 1) hy (Nat.lt_trans (Nat.mod_lt _ (modW_pos ok1)) (modW_lt 1))) ?_
                  dsimp only [putL, setL, List.set_cons_zero, List.set_cons_succ, List.nil_append, List.cons_append]
                  refine wk_stN 1 (y * ((ix xs k) * ((subM (modW 1) (ix xs k) (ix xs i)) ^ (modW 1 - 2) % modW 1) % modW 1) % modW 1) rfl rfl rfl rfl rfl rfl ?_
                  dsimp only [putL, setL, List.set_cons_zero, List.set_cons_succ, List.nil_append, List.cons_append]
                  refine wk_nil ?_
                  refine sp_region (π := [0, 1, 2]) [] rfl rfl ?_
                  refine wk_move (.int .i64 (k : Int)) rfl rfl rfl rfl ?_
                  dsimp only [putL, setL, List.set_cons_zero, List.set_cons_succ, List.nil_append, List.cons_append]
                  refine wk_iop (.int .i64 ((k : Int) + 1)) rfl rfl rfl rfl rfl rfl (iop_add (by omega) (by omega)) ?_
                  dsimp only [putL, setL, List.set_cons_zero, List.set_cons_succ, List.nil_append, List.cons_append]
                  refine wk_assign (.int .i64 ((k : Int) + 1)) rfl rfl rfl rfl ?_
                  dsimp only [putL, setL, List.set_cons_zero, List.set_cons_succ, List.nil_append, List.cons_append]
                  refine wk_nil ?_
                  exact ⟨(β4, numO (y * ((ix xs k) * ((subM (modW 1) (ix xs k) (ix xs i)) ^ (modW 1 - 2) % modW 1) % modW 1) % modW 1)) :: S, _, by exact List.Sublist.cons _ <| List.Sublist.cons_cons _ <| List.Sublist.refl _, ⟨(k + 1), (y * ((ix xs k) * ((subM (modW 1) (ix xs k) (ix xs i)) ^ (modW 1 - 2) % modW 1) % modW 1) % modW 1), d2, d3, (.pointer (some ⟨β8, 0, none⟩)), (.int .i64 (k : Int)), (.slice a xs.length c), (.int .i64 ((xs.length : Nat) : Int)), (.bool true), (.int .i64 (k : Int)), (.int .i64 ((k : Int) + 1)), (.int .i64 (k : Int)), (.int .i64 (i : Int)), (.bool false), (.slice a xs.length c), (.int .i64 (k : Int)), (.pointer (some ⟨β7, o7 + k * 4, none⟩)), (numV (ix xs k)), (.slice a xs.length c), (.int .i64 (i : Int)), (.pointer (some ⟨β7, o7 + i * 4, none⟩)), (numV (ix xs i)), (numV (subM (modW 1) (ix xs k) (ix xs i))), (numV (subM (modW 1) (ix xs k) (ix xs i))), (numV 0), (.bool false), (numV y), (.slice a xs.length c), (.int .i64 (k : Int)), (.pointer (some ⟨β7, o7 + k * 4, none⟩)), (numV (ix xs k)), (numV (subM (modW 1) (ix xs k) (ix xs i))), (numV ((subM (modW 1) (ix xs k) (ix xs i)) ^ (modW 1 - 2) % modW 1)), (numV ((ix xs k) * ((subM (modW 1) (ix xs k) (ix xs i)) ^ (modW 1 - 2) % modW 1) % modW 1)), (numV (y * ((ix xs k) * ((subM (modW 1) (ix xs k) (ix xs i)) ^ (modW 1 - 2) % modW 1) % modW 1) % modW 1)), rfl, rfl, (by omega), (by rw [hg1, pageW_step (by omega)]), (row_succ hg2 (.inr hc9)), rfl⟩, (by omega)⟩
            · skip
              refine wk_iop (.bool false) rfl rfl rfl rfl rfl rfl (iop_lss_f hc5) ?_
              dsimp only [putL, setL, List.set_cons_zero, List.set_cons_succ, List.nil_append, List.cons_append]
              refine wk_nil ?_
              refine sp_false rfl rfl ?_
              refine sp_exit rfl ?_
              refine sp_region (π := [0, 1, 2, 3, 4]) [] rfl rfl ?_
              refine wk_move v rfl rfl rfl rfl ?_
              dsimp only [putL, setL, List.set_cons_zero, List.set_cons_succ, List.nil_append, List.cons_append]
              refine wk_ldN 0 rfl rfl rfl rfl rfl ?_
              dsimp only [putL, setL, List.set_cons_zero, List.set_cons_succ, List.nil_append, List.cons_append]
              refine wkf_make (z := rowO [y]) (mk := fun β => .slice (some ⟨β, 0, none⟩) 1 1) rfl rfl (fun w => by kernel_rfl) fun β10 => ?_
              dsimp only [putL, setL, List.set_cons_zero, List.set_cons_succ, List.nil_append, List.cons_append]
              refine wk_append (news := (rowL [y])) (F := [(β10, rowO [y]), (β4, numO y)]) rfl rfl rfl rfl rfl Try.underlying57 ninfo numBytes nzero rfl (by decide) hf2 (List.perm_append_comm (l₁ := [(β10, rowO [y]), (β4, numO y)]) (l₂ := S)) rfl (fun w' hst => row_holds (List.mem_of_getElem? (i := 0) rfl) hst) (rowL_one _) (by omega) (by omega) fun v11 S11 hO11 => ?_
              dsimp only [putL, setL, List.set_cons_zero, List.set_cons_succ, List.nil_append, List.cons_append]
              refine wk_assign v11 rfl rfl rfl rfl ?_
              dsimp only [putL, setL, List.set_cons_zero, List.set_cons_succ, List.nil_append, List.cons_append]
              refine wk_nil ?_
              refine sp_region (π := [0, 1, 2]) [] rfl rfl ?_
              refine wk_move (.int .i64 (i : Int)) rfl rfl rfl rfl ?_
              dsimp only [putL, setL, List.set_cons_zero, List.set_cons_succ, List.nil_append, List.cons_append]
              refine wk_iop (.int .i64 ((i : Int) + 1)) rfl rfl rfl rfl rfl rfl (iop_add (by omega) (by omega)) ?_
              dsimp only [putL, setL, List.set_cons_zero, List.set_cons_succ, List.nil_append, List.cons_append]
              refine wk_assign (.int .i64 ((i : Int) + 1)) rfl rfl rfl rfl ?_
              dsimp only [putL, setL, List.set_cons_zero, List.set_cons_succ, List.nil_append, List.cons_append]
              refine wk_nil ?_
              exact ⟨S11, _, by exact List.Sublist.cons _ <| List.Sublist.cons _ <| List.Sublist.refl _, ⟨(i + 1), v11, S11, d2, d3, (.pointer (some ⟨β4, 0, none⟩)), (.int .i64 (k : Int)), d8, (.int .i64 (i : Int)), (.slice a xs.length c), (.int .i64 ((xs.length : Nat) : Int)), (.bool true), (.int .i64 (i : Int)), (.int .i64 ((i : Int) + 1)), (numV 1), (.int .i64 (k : Int)), (.slice a xs.length c), (.int .i64 ((xs.length : Nat) : Int)), (.bool false), d28, d29, d30, d31, d32, d33, d34, d35, d36, d37, d38, d39, d40, d41, d42, d43, d44, d45, d46, d47, d48, d49, d50, d51, d52, d53, v, (numV y), (.slice (some ⟨β10, 0, none⟩) 1 1), v11, rfl, rfl, (by omega), (apart_succ hf1 (fun k' hk' hn => hg2 k' (by omega) hn)), (by have hkk : k = xs.length := (by omega); rw [weights_page]; rw [← hkk, ← hg1]; exact hO11), rfl⟩, (by omega)⟩
        · skip
          refine wk_iop (.bool false) rfl rfl rfl rfl rfl rfl (iop_lss_f hc3) ?_
          dsimp only [putL, setL, List.set_cons_zero, List.set_cons_succ, List.nil_append, List.cons_append]
          refine wk_nil ?_
          refine sp_false rfl rfl ?_
          refine sp_exit rfl ?_
          refine sp_seq rfl ?_
          refine sp_region (π := [0, 1, 2]) [] rfl rfl ?_
          refine wk_move v rfl rfl rfl rfl ?_
          dsimp only [putL, setL, List.set_cons_zero, List.set_cons_succ, List.nil_append, List.cons_append]
          refine wk_assign v rfl rfl rfl rfl ?_
          dsimp only [putL, setL, List.set_cons_zero, List.set_cons_succ, List.nil_append, List.cons_append]
          refine wk_assign (.int .i64 0) rfl rfl rfl rfl ?_
          dsimp only [putL, setL, List.set_cons_zero, List.set_cons_succ, List.nil_append, List.cons_append]
          refine wk_nil ?_
          refine sp_ret rfl ?_
          have hii : i = xs.length := by omega
          subst hii
          exact ret_tmps (v := .tuple #[v, .int .i64 0]) (fun w' => by kernel_rfl) fun w' hw => ⟨v, S, rfl, hf2, hw.below, fun p hp => ⟨hw.own p (by simp [hp]), (hw.free p (by simp [hp])).resolve_right id⟩⟩

set_option maxRecDepth 20000 in
set_option maxHeartbeats 400000 in
theorem rweights_no (xs : List Nat) (a : Option Addr) (c : Nat) (hxs : ∀ y ∈ xs, y < W256) (hn : xs.length ≤ 1099511627776) (hc : xs.length ≤ c) (hw0 : ¬ wrongI (modW 1) xs = 0) (w : World) (hH : Holds w a (rowL xs)) : Calls Try.prog 66 #[.slice a xs.length c] w (fun r w' => r = .returned (.tuple #[.slice none 0 0, .int .i64 (wrongI (modW 1) xs)]) ∧ Below w.heap.size w w') := by
  refine fn_calls (l0 := [(.slice a xs.length c), undef, undef, undef, undef, undef, undef, undef, undef, undef, undef, undef, undef, undef, undef, undef, undef, undef, undef, undef, undef, undef, undef, undef, undef, undef, undef, undef, undef, undef, undef, undef, undef, undef, undef, undef, undef, undef, undef, undef, undef, undef, undef, undef, undef, undef, undef, undef, undef, undef, undef, undef, undef, undef, undef, undef, undef, undef, undef]) Try.func66 rfl rfl [] (St.start w) ?_
  refine sp_seq rfl ?_
  refine sp_region (π := [0, 1]) [] rfl rfl ?_
  refine wk_assign (.slice none 0 0) rfl rfl rfl rfl ?_
  dsimp only [putL, setL, List.set_cons_zero, List.set_cons_succ, List.nil_append, List.cons_append]
  refine wk_assign (.int .i64 0) rfl rfl rfl rfl ?_
  dsimp only [putL, setL, List.set_cons_zero, List.set_cons_succ, List.nil_append, List.cons_append]
  refine wk_nil ?_
  refine sp_seq rfl ?_
  refine sp_seq rfl ?_
  refine sp_region (π := [0, 1, 2, 3, 4, 5, 6, 7]) [] rfl rfl ?_
  refine wk_move (.slice a xs.length c) rfl rfl rfl rfl ?_
  dsimp only [putL, setL, List.set_cons_zero, List.set_cons_succ, List.nil_append, List.cons_append]
  refine wk_lenA rfl rfl rfl rfl Try.underlying57 ?_
  dsimp only [putL, setL, List.set_cons_zero, List.set_cons_succ, List.nil_append, List.cons_append]
  by_cases hc1 : ((xs.length : Nat) : Int) < 1
  · skip
    refine wk_iop (.bool true) rfl rfl rfl rfl rfl rfl (iop_lss_t hc1) ?_
    dsimp only [putL, setL, List.set_cons_zero, List.set_cons_succ, List.nil_append, List.cons_append]
    refine wk_move (.bool true) rfl rfl rfl rfl ?_
    dsimp only [putL, setL, List.set_cons_zero, List.set_cons_succ, List.nil_append, List.cons_append]
    refine wk_skip rfl rfl (fun h => by cases h) ?_
    dsimp only [putL, setL, List.set_cons_zero, List.set_cons_succ, List.nil_append, List.cons_append]
    refine wk_skip rfl rfl (fun h => by cases h) ?_
    dsimp only [putL, setL, List.set_cons_zero, List.set_cons_succ, List.nil_append, List.cons_append]
    refine wk_skip rfl rfl (fun h => by cases h) ?_
    dsimp only [putL, setL, List.set_cons_zero, List.set_cons_succ, List.nil_append, List.cons_append]
    refine wk_pick true (.bool true) rfl rfl rfl rfl rfl ?_
    dsimp only [putL, setL, List.set_cons_zero, List.set_cons_succ, List.nil_append, List.cons_append]
    refine wk_nil ?_
    refine sp_true rfl rfl ?_
    refine sp_seq rfl ?_
    refine sp_region (π := [0, 1]) [] rfl rfl ?_
    refine wk_assign (.slice none 0 0) rfl rfl rfl rfl ?_
    dsimp only [putL, setL, List.set_cons_zero, List.set_cons_succ, List.nil_append, List.cons_append]
    refine wk_assign (.int .i64 4) rfl rfl rfl rfl ?_
    dsimp only [putL, setL, List.set_cons_zero, List.set_cons_succ, List.nil_append, List.cons_append]
    refine wk_nil ?_
    refine sp_ret rfl ?_
    exact ret_tmps (v := .tuple #[.slice none 0 0, .int .i64 (wrongI (modW 1) xs)]) (fun w' => by rw [wrongI_len (by omega)]; kernel_rfl) fun w' hw => ⟨rfl, hw.below⟩
  · skip
    refine wk_iop (.bool false) rfl rfl rfl rfl rfl rfl (iop_lss_f hc1) ?_
    dsimp only [putL, setL, List.set_cons_zero, List.set_cons_succ, List.nil_append, List.cons_append]
    refine wk_move (.bool false) rfl rfl rfl rfl ?_
    dsimp only [putL, setL, List.set_cons_zero, List.set_cons_succ, List.nil_append, List.cons_append]
    refine wk_move (.slice a xs.length c) rfl rfl rfl rfl ?_
    dsimp only [putL, setL, List.set_cons_zero, List.set_cons_succ, List.nil_append, List.cons_append]
    refine wk_lenA rfl rfl rfl rfl Try.underlying57 ?_
    dsimp only [putL, setL, List.set_cons_zero, List.set_cons_succ, List.nil_append, List.cons_append]
    by_cases hc2 : 64 < ((xs.length : Nat) : Int)
    · skip
      refine wk_iop (.bool true) rfl rfl rfl rfl rfl rfl (iop_gtr_t hc2) ?_
      dsimp only [putL, setL, List.set_cons_zero, List.set_cons_succ, List.nil_append, List.cons_append]
      refine wk_pick false (.bool true) rfl rfl rfl rfl rfl ?_
      dsimp only [putL, setL, List.set_cons_zero, List.set_cons_succ, List.nil_append, List.cons_append]
      refine wk_nil ?_
      refine sp_true rfl rfl ?_
      refine sp_seq rfl ?_
      refine sp_region (π := [0, 1]) [] rfl rfl ?_
      refine wk_assign (.slice none 0 0) rfl rfl rfl rfl ?_
      dsimp only [putL, setL, List.set_cons_zero, List.set_cons_succ, List.nil_append, List.cons_append]
      refine wk_assign (.int .i64 4) rfl rfl rfl rfl ?_
      dsimp only [putL, setL, List.set_cons_zero, List.set_cons_succ, List.nil_append, List.cons_append]
      refine wk_nil ?_
      refine sp_ret rfl ?_
      exact ret_tmps (v := .tuple #[.slice none 0 0, .int .i64 (wrongI (modW 1) xs)]) (fun w' => by rw [wrongI_len (by omega)]; kernel_rfl) fun w' hw => ⟨rfl, hw.below⟩
    · skip
      refine wk_iop (.bool false) rfl rfl rfl rfl rfl rfl (iop_gtr_f hc2) ?_
      dsimp only [putL, setL, List.set_cons_zero, List.set_cons_succ, List.nil_append, List.cons_append]
      refine wk_pick false (.bool false) rfl rfl rfl rfl rfl ?_
      dsimp only [putL, setL, List.set_cons_zero, List.set_cons_succ, List.nil_append, List.cons_append]
      refine wk_nil ?_
      refine sp_false rfl rfl ?_
      refine sp_skip rfl ?_
      refine sp_seq rfl ?_
      refine sp_region (π := [0]) [] rfl rfl ?_
      refine wk_assign (.slice none 0 0) rfl rfl rfl rfl ?_
      dsimp only [putL, setL, List.set_cons_zero, List.set_cons_succ, List.nil_append, List.cons_append]
      refine wk_nil ?_
      refine sp_seq rfl ?_
      refine sp_seq rfl ?_
      refine sp_region (π := [0]) [] rfl rfl ?_
      refine wk_assign (.int .i64 0) rfl rfl rfl rfl ?_
      dsimp only [putL, setL, List.set_cons_zero, List.set_cons_succ, List.nil_append, List.cons_append]
      refine wk_nil ?_
      refine sp_block rfl ?_
      refine sp_loopg rfl (fun n l M => ∃ i : Nat, ∃ v : Value, ∃ S : Mem, ∃ d2 : Value, ∃ d3 : Value, ∃ d6 : Value, ∃ d7 : Value, ∃ d8 : Value, ∃ d17 : Value, ∃ d18 : Value, ∃ d19 : Value, ∃ d20 : Value, ∃ d21 : Value, ∃ d22 : Value, ∃ d23 : Value, ∃ d24 : Value, ∃ d25 : Value, ∃ d26 : Value, ∃ d27 : Value, ∃ d28 : Value, ∃ d29 : Value, ∃ d30 : Value, ∃ d31 : Value, ∃ d32 : Value, ∃ d33 : Value, ∃ d34 : Value, ∃ d35 : Value, ∃ d36 : Value, ∃ d37 : Value, ∃ d38 : Value, ∃ d39 : Value, ∃ d40 : Value, ∃ d41 : Value, ∃ d42 : Value, ∃ d43 : Value, ∃ d44 : Value, ∃ d45 : Value, ∃ d46 : Value, ∃ d47 : Value, ∃ d48 : Value, ∃ d49 : Value, ∃ d50 : Value, ∃ d51 : Value, ∃ d52 : Value, ∃ d53 : Value, ∃ d54 : Value, ∃ d55 : Value, ∃ d56 : Value, ∃ d57 : Value, l = [(.slice a xs.length c), undef, d2, d3, v, (.int .i64 (i : Int)), d6, d7, d8, (.slice a xs.length c), (.int .i64 ((xs.length : Nat) : Int)), (.bool false), (.bool false), (.slice a xs.length c), (.int .i64 ((xs.length : Nat) : Int)), (.bool false), (.bool false), d17, d18, d19, d20, d21, d22, d23, d24, d25, d26, d27, d28, d29, d30, d31, d32, d33, d34, d35, d36, d37, d38, d39, d40, d41, d42, d43, d44, d45, d46, d47, d48, d49, d50, d51, d52, d53, d54, d55, d56, d57, undef] ∧ S = M ∧ (i ≤ xs.length) ∧ (Apart (modW 1) xs i) ∧ (OwnS 24 4 v i (rowL (weightsTo (modW 1) xs i)) S) ∧ n = xs.length - i) (xs.length - 0) ?_ ?_
      · exact ⟨0, (.slice none 0 0), [], (.slice none 0 0), (.int .i64 0), undef, undef, undef, undef, undef, undef, undef, undef, undef, undef, undef, undef, undef, undef, undef, undef, undef, undef, undef, undef, undef, undef, undef, undef, undef, undef, undef, undef, undef, undef, undef, undef, undef, undef, undef, undef, undef, undef, undef, undef, undef, undef, undef, undef, rfl, rfl, (Nat.zero_le _), (apart_zero _ _), (OwnS.nil _ _), rfl⟩
      · skip
        intro n l M
        refine exists_imp.2 fun i => ?_
        refine exists_imp.2 fun v => ?_
        refine exists_imp.2 fun S => ?_
        refine exists_imp.2 fun d2 => ?_
        refine exists_imp.2 fun d3 => ?_
        refine exists_imp.2 fun d6 => ?_
        refine exists_imp.2 fun d7 => ?_
        refine exists_imp.2 fun d8 => ?_
        refine exists_imp.2 fun d17 => ?_
        refine exists_imp.2 fun d18 => ?_
        refine exists_imp.2 fun d19 => ?_
        refine exists_imp.2 fun d20 => ?_
        refine exists_imp.2 fun d21 => ?_
        refine exists_imp.2 fun d22 => ?_
        refine exists_imp.2 fun d23 => ?_
        refine exists_imp.2 fun d24 => ?_
        refine exists_imp.2 fun d25 => ?_
        refine exists_imp.2 fun d26 => ?_
        refine exists_imp.2 fun d27 => ?_
        refine exists_imp.2 fun d28 => ?_
        refine exists_imp.2 fun d29 => ?_
        refine exists_imp.2 fun d30 => ?_
        refine exists_imp.2 fun d31 => ?_
        refine exists_imp.2 fun d32 => ?_
        refine exists_imp.2 fun d33 => ?_
        refine exists_imp.2 fun d34 => ?_
        refine exists_imp.2 fun d35 => ?_
        refine exists_imp.2 fun d36 => ?_
        refine exists_imp.2 fun d37 => ?_
        refine exists_imp.2 fun d38 => ?_
        refine exists_imp.2 fun d39 => ?_
        refine exists_imp.2 fun d40 => ?_
        refine exists_imp.2 fun d41 => ?_
        refine exists_imp.2 fun d42 => ?_
        refine exists_imp.2 fun d43 => ?_
        refine exists_imp.2 fun d44 => ?_
        refine exists_imp.2 fun d45 => ?_
        refine exists_imp.2 fun d46 => ?_
        refine exists_imp.2 fun d47 => ?_
        refine exists_imp.2 fun d48 => ?_
        refine exists_imp.2 fun d49 => ?_
        refine exists_imp.2 fun d50 => ?_
        refine exists_imp.2 fun d51 => ?_
        refine exists_imp.2 fun d52 => ?_
        refine exists_imp.2 fun d53 => ?_
        refine exists_imp.2 fun d54 => ?_
        refine exists_imp.2 fun d55 => ?_
        refine exists_imp.2 fun d56 => ?_
        refine exists_imp.2 fun d57 => ?_
        rintro ⟨rfl, rfl, hf0, hf1, hf2, rfl⟩
        refine sp_seq rfl ?_
        refine sp_seq rfl ?_
        refine sp_region (π := [0, 1, 2, 3]) [] rfl rfl ?_
        refine wk_move (.int .i64 (i : Int)) rfl rfl rfl rfl ?_
        dsimp only [putL, setL, List.set_cons_zero, List.set_cons_succ, List.nil_append, List.cons_append]
        refine wk_move (.slice a xs.length c) rfl rfl rfl rfl ?_
        dsimp only [putL, setL, List.set_cons_zero, List.set_cons_succ, List.nil_append, List.cons_append]
        refine wk_lenA rfl rfl rfl rfl Try.underlying57 ?_
        dsimp only [putL, setL, List.set_cons_zero, List.set_cons_succ, List.nil_append, List.cons_append]
        by_cases hc3 : (i : Int) < ((xs.length : Nat) : Int)
        · skip
          refine wk_iop (.bool true) rfl rfl rfl rfl rfl rfl (iop_lss_t hc3) ?_
          dsimp only [putL, setL, List.set_cons_zero, List.set_cons_succ, List.nil_append, List.cons_append]
          refine wk_nil ?_
          refine sp_true rfl rfl ?_
          refine sp_skip rfl ?_
          refine sp_seq rfl ?_
          refine sp_block rfl ?_
          refine sp_seq rfl ?_
          refine sp_region (π := [0, 1, 2]) [] rfl rfl ?_
          refine wk_val (numV 1) rfl rfl rfl (fun w => by kernel_rfl) ?_
          dsimp only [putL, setL, List.set_cons_zero, List.set_cons_succ, List.nil_append, List.cons_append]
          refine wkf_newN rfl rfl fun β4 => ?_
          dsimp only [putL, setL, List.set_cons_zero, List.set_cons_succ, List.nil_append, List.cons_append]
          refine wk_stN 0 1 rfl rfl rfl rfl rfl rfl ?_
          dsimp only [putL, setL, List.set_cons_zero, List.set_cons_succ, List.nil_append, List.cons_append]
          refine wk_nil ?_
          refine sp_seq rfl ?_
          refine sp_seq rfl ?_
          refine sp_region (π := [0]) [] rfl rfl ?_
          refine wk_assign (.int .i64 0) rfl rfl rfl rfl ?_
          dsimp only [putL, setL, List.set_cons_zero, List.set_cons_succ, List.nil_append, List.cons_append]
          refine wk_nil ?_
          refine sp_block rfl ?_
          refine sp_loopg rfl (fun n l M => ∃ k : Nat, ∃ y : Nat, ∃ d2 : Value, ∃ d3 : Value, ∃ d8 : Value, ∃ d24 : Value, ∃ d25 : Value, ∃ d26 : Value, ∃ d27 : Value, ∃ d28 : Value, ∃ d29 : Value, ∃ d30 : Value, ∃ d31 : Value, ∃ d32 : Value, ∃ d33 : Value, ∃ d34 : Value, ∃ d35 : Value, ∃ d36 : Value, ∃ d37 : Value, ∃ d38 : Value, ∃ d39 : Value, ∃ d40 : Value, ∃ d41 : Value, ∃ d42 : Value, ∃ d43 : Value, ∃ d44 : Value, ∃ d45 : Value, ∃ d46 : Value, ∃ d47 : Value, ∃ d48 : Value, ∃ d49 : Value, ∃ d50 : Value, ∃ d51 : Value, ∃ d52 : Value, ∃ d53 : Value, l = [(.slice a xs.length c), undef, d2, d3, v, (.int .i64 (i : Int)), (.pointer (some ⟨β4, 0, none⟩)), (.int .i64 (k : Int)), d8, (.slice a xs.length c), (.int .i64 ((xs.length : Nat) : Int)), (.bool false), (.bool false), (.slice a xs.length c), (.int .i64 ((xs.length : Nat) : Int)), (.bool false), (.bool false), (.int .i64 (i : Int)), (.slice a xs.length c), (.int .i64 ((xs.length : Nat) : Int)), (.bool true), d21, d22, (numV 1), d24, d25, d26, d27, d28, d29, d30, d31, d32, d33, d34, d35, d36, d37, d38, d39, d40, d41, d42, d43, d44, d45, d46, d47, d48, d49, d50, d51, d52, d53, d54, d55, d56, d57, undef] ∧ (β4, numO y) :: S = M ∧ (k ≤ xs.length) ∧ (y = pageW (modW 1) xs i k) ∧ (∀ k', k' < k → k' ≠ i → subM (modW 1) (ix xs k') (ix xs i) ≠ 0) ∧ n = xs.length - k) (xs.length - 0) ?_ ?_
          · exact ⟨0, 1, d2, d3, d8, d24, d25, d26, d27, d28, d29, d30, d31, d32, d33, d34, d35, d36, d37, d38, d39, d40, d41, d42, d43, d44, d45, d46, d47, d48, d49, d50, d51, d52, d53, rfl, rfl, (Nat.zero_le _), (pageW_zero (Nat.lt_trans (by decide) (modW_two ok1)) _ _), (fun k' hk' => by omega), rfl⟩
          · skip
            intro n l M
            refine exists_imp.2 fun k => ?_
            refine exists_imp.2 fun y => ?_
            refine exists_imp.2 fun d2 => ?_
            refine exists_imp.2 fun d3 => ?_
            refine exists_imp.2 fun d8 => ?_
            refine exists_imp.2 fun d24 => ?_
            refine exists_imp.2 fun d25 => ?_
            refine exists_imp.2 fun d26 => ?_
            refine exists_imp.2 fun d27 => ?_
            refine exists_imp.2 fun d28 => ?_
            refine exists_imp.2 fun d29 => ?_
            refine exists_imp.2 fun d30 => ?_
            refine exists_imp.2 fun d31 => ?_
            refine exists_imp.2 fun d32 => ?_
            refine exists_imp.2 fun d33 => ?_
            refine exists_imp.2 fun d34 => ?_
            refine exists_imp.2 fun d35 => ?_
            refine exists_imp.2 fun d36 => ?_
            refine exists_imp.2 fun d37 => ?_
            refine exists_imp.2 fun d38 => ?_
            refine exists_imp.2 fun d39 => ?_
            refine exists_imp.2 fun d40 => ?_
            refine exists_imp.2 fun d41 => ?_
            refine exists_imp.2 fun d42 => ?_
            refine exists_imp.2 fun d43 => ?_
            refine exists_imp.2 fun d44 => ?_
            refine exists_imp.2 fun d45 => ?_
            refine exists_imp.2 fun d46 => ?_
            refine exists_imp.2 fun d47 => ?_
            refine exists_imp.2 fun d48 => ?_
            refine exists_imp.2 fun d49 => ?_
            refine exists_imp.2 fun d50 => ?_
            refine exists_imp.2 fun d51 => ?_
            refine exists_imp.2 fun d52 => ?_
            refine exists_imp.2 fun d53 => ?_
            rintro ⟨rfl, rfl, hg0, hg1, hg2, rfl⟩
            have hy : y < W256 := by rw [hg1]; exact pageW_lt (modW_pos ok1) (modW_lt 1) _ _ _
            refine sp_seq rfl ?_
            refine sp_seq rfl ?_
            refine sp_region (π := [0, 1, 2, 3]) [] rfl rfl ?_
            refine wk_move (.int .i64 (k : Int)) rfl rfl rfl rfl ?_
            dsimp only [putL, setL, List.set_cons_zero, List.set_cons_succ, List.nil_append, List.cons_append]
            refine wk_move (.slice a xs.length c) rfl rfl rfl rfl ?_
            dsimp only [putL, setL, List.set_cons_zero, List.set_cons_succ, List.nil_append, List.cons_append]
            refine wk_lenA rfl rfl rfl rfl Try.underlying57 ?_
            dsimp only [putL, setL, List.set_cons_zero, List.set_cons_succ, List.nil_append, List.cons_append]
            by_cases hc5 : (k : Int) < ((xs.length : Nat) : Int)
            · skip
              refine wk_iop (.bool true) rfl rfl rfl rfl rfl rfl (iop_lss_t hc5) ?_
              dsimp only [putL, setL, List.set_cons_zero, List.set_cons_succ, List.nil_append, List.cons_append]
              refine wk_nil ?_
              refine sp_true rfl rfl ?_
              refine sp_skip rfl ?_
              refine sp_seq rfl ?_
              refine sp_block rfl ?_
              refine sp_seq rfl ?_
              refine sp_seq rfl ?_
              refine sp_region (π := [0, 1, 2]) [] rfl rfl ?_
              refine wk_move (.int .i64 (k : Int)) rfl rfl rfl rfl ?_
              dsimp only [putL, setL, List.set_cons_zero, List.set_cons_succ, List.nil_append, List.cons_append]
              refine wk_move (.int .i64 (i : Int)) rfl rfl rfl rfl ?_
              dsimp only [putL, setL, List.set_cons_zero, List.set_cons_succ, List.nil_append, List.cons_append]
              by_cases hc6 : (k : Int) = (i : Int)
              · skip
                refine wk_iop (.bool true) rfl rfl rfl rfl rfl rfl (iop_eql_t hc6) ?_
                dsimp only [putL, setL, List.set_cons_zero, List.set_cons_succ, List.nil_append, List.cons_append]
                refine wk_nil ?_
                refine sp_true rfl rfl ?_
                refine sp_exit rfl ?_
                refine sp_region (π := [0, 1, 2]) [] rfl rfl ?_
                refine wk_move (.int .i64 (k : Int)) rfl rfl rfl rfl ?_
                dsimp only [putL, setL, List.set_cons_zero, List.set_cons_succ, List.nil_append, List.cons_append]
                refine wk_iop (.int .i64 ((k : Int) + 1)) rfl rfl rfl rfl rfl rfl (iop_add (by omega) (by omega)) ?_
                dsimp only [putL, setL, List.set_cons_zero, List.set_cons_succ, List.nil_append, List.cons_append]
                refine wk_assign (.int .i64 ((k : Int) + 1)) rfl rfl rfl rfl ?_
                dsimp only [putL, setL, List.set_cons_zero, List.set_cons_succ, List.nil_append, List.cons_append]
                refine wk_nil ?_
                exact ⟨(β4, numO y) :: S, _, List.Sublist.refl _, ⟨(k + 1), y, d2, d3, d8, (.int .i64 (k : Int)), (.slice a xs.length c), (.int .i64 ((xs.length : Nat) : Int)), (.bool true), (.int .i64 (k : Int)), (.int .i64 ((k : Int) + 1)), (.int .i64 (k : Int)), (.int .i64 (i : Int)), (.bool true), d33, d34, d35, d36, d37, d38, d39, d40, d41, d42, d43, d44, d45, d46, d47, d48, d49, d50, d51, d52, d53, rfl, rfl, (by omega), (by rw [pageW_same (by omega)]; exact hg1), (row_succ hg2 (.inl (by omega))), rfl⟩, (by omega)⟩
              · skip
                refine wk_iop (.bool false) rfl rfl rfl rfl rfl rfl (iop_eql_f hc6) ?_
                dsimp only [putL, setL, List.set_cons_zero, List.set_cons_succ, List.nil_append, List.cons_append]
                refine wk_nil ?_
                refine sp_false rfl rfl ?_
                refine sp_skip rfl ?_
                refine sp_seq rfl ?_
                refine sp_draw [0, 1, 2, 3, 4, 5, 6, 7, 8, 9, 10] [] mixed rfl (by kernel_rfl) (by kernel_rfl) ?_
                refine wk_move (.slice a xs.length c) rfl rfl rfl rfl ?_
                dsimp only [putL, setL, List.set_cons_zero, List.set_cons_succ, List.nil_append, List.cons_append]
                refine wk_move (.int .i64 (k : Int)) rfl rfl rfl rfl ?_
                dsimp only [putL, setL, List.set_cons_zero, List.set_cons_succ, List.nil_append, List.cons_append]
                obtain ⟨β7, o7, ha7, hr7⟩ := hH.at_ (rowL_ne (k := k) (by omega))
                refine wk_idxA k 4 rfl rfl rfl rfl ha7 rfl Try.underlying57 (by kernel_rfl) rfl (by omega) ?_
                dsimp only [putL, setL, List.set_cons_zero, List.set_cons_succ, List.nil_append, List.cons_append]
                refine wk_ldA rfl rfl rfl rfl (fun M' w' hm hst => old_range hr7 (rowL_ne (k := k) (by omega)) hst) (by omega) ?_
                dsimp only [putL, setL, List.set_cons_zero, List.set_cons_succ, List.nil_append, List.cons_append]
                refine wk_move (.slice a xs.length c) rfl rfl rfl rfl ?_
                dsimp only [putL, setL, List.set_cons_zero, List.set_cons_succ, List.nil_append, List.cons_append]
                refine wk_move (.int .i64 (i : Int)) rfl rfl rfl rfl ?_
                dsimp only [putL, setL, List.set_cons_zero, List.set_cons_succ, List.nil_append, List.cons_append]
                refine wk_idxA i 4 rfl rfl rfl rfl ha7 rfl Try.underlying57 (by kernel_rfl) rfl (by omega) ?_
                dsimp only [putL, setL, List.set_cons_zero, List.set_cons_succ, List.nil_append, List.cons_append]
                refine wk_ldA rfl rfl rfl rfl (fun M' w' hm hst => old_range hr7 (rowL_ne (k := i) (by omega)) hst) (by omega) ?_
                dsimp only [putL, setL, List.set_cons_zero, List.set_cons_succ, List.nil_append, List.cons_append]
                refine wk_call [(numV (ix xs k)), (numV (ix xs i))] (numV (subM (modW 1) (ix xs k) (ix xs i))) rfl rfl rfl (enters_of Try.func87 (by kernel_rfl) (by kernel_rfl)) rfl (qsub_calls (ix xs k) (ix xs i) (ix_lt hxs) (ix_lt hxs)) ?_
                dsimp only [putL, setL, List.set_cons_zero, List.set_cons_succ, List.nil_append, List.cons_append]
                refine wkf_newN rfl rfl fun β8 => ?_
                dsimp only [putL, setL, List.set_cons_zero, List.set_cons_succ, List.nil_append, List.cons_append]
                refine wk_stN 0 (subM (modW 1) (ix xs k) (ix xs i)) rfl rfl rfl rfl rfl rfl ?_
                dsimp only [putL, setL, List.set_cons_zero, List.set_cons_succ, List.nil_append, List.cons_append]
                refine wk_nil ?_
                refine sp_seq rfl ?_
                refine sp_seq rfl ?_
                refine sp_region (π := [0, 1, 2]) [] rfl rfl ?_
                refine wk_ldN 0 rfl rfl rfl rfl rfl ?_
                dsimp only [putL, setL, List.set_cons_zero, List.set_cons_succ, List.nil_append, List.cons_append]
                refine wk_val (numV 0) rfl rfl rfl (fun w => by kernel_rfl) ?_
                dsimp only [putL, setL, List.set_cons_zero, List.set_cons_succ, List.nil_append, List.cons_append]
                by_cases hc9 : (subM (modW 1) (ix xs k) (ix xs i)) = 0
                · skip
                  refine wk_eqN true rfl rfl rfl rfl rfl (Nat.lt_trans (Nat.mod_lt _ (modW_pos ok1)) (modW_lt 1)) (by decide) (decide_eq_true hc9) ?_
                  dsimp only [putL, setL, List.set_cons_zero, List.set_cons_succ, List.nil_append, List.cons_append]
                  refine wk_nil ?_
                  refine sp_true rfl rfl ?_
                  refine sp_seq rfl ?_
                  refine sp_region (π := [0, 1]) [] rfl rfl ?_
                  refine wk_assign (.slice none 0 0) rfl rfl rfl rfl ?_
                  dsimp only [putL, setL, List.set_cons_zero, List.set_cons_succ, List.nil_append, List.cons_append]
                  refine wk_assign (.int .i64 6) rfl rfl rfl rfl ?_
                  dsimp only [putL, setL, List.set_cons_zero, List.set_cons_succ, List.nil_append, List.cons_append]
                  refine wk_nil ?_
                  refine sp_ret rfl ?_
                  exact ret_tmps (v := .tuple #[.slice none 0 0, .int .i64 (wrongI (modW 1) xs)]) (fun w' => by rw [wrongI_no (by omega) (fun hu => (unlike_ne (modW_pos ok1) hu (i := i) (k := k) (by omega) (by omega) (by omega) hc9))]; kernel_rfl) fun w' hw => ⟨rfl, hw.below⟩
                · skip
                  refine wk_eqN false rfl rfl rfl rfl rfl (Nat.lt_trans (Nat.mod_lt _ (modW_pos ok1)) (modW_lt 1)) (by decide) (decide_eq_false hc9) ?_
                  dsimp only [putL, setL, List.set_cons_zero, List.set_cons_succ, List.nil_append, List.cons_append]
                  refine wk_nil ?_
                  refine sp_false rfl rfl ?_
                  refine sp_skip rfl ?_
                  refine sp_draw [0, 1, 2, 3, 4, 5, 6, 7, 8, 9] [] mixed rfl (by kernel_rfl) (by kernel_rfl) ?_
                  refine wk_ldN 1 rfl rfl rfl rfl rfl ?_
                  dsimp only [putL, setL, List.set_cons_zero, List.set_cons_succ, List.nil_append, List.cons_append]
                  refine wk_move (.slice a xs.length c) rfl rfl rfl rfl ?_
                  dsimp only [putL, setL, List.set_cons_zero, List.set_cons_succ, List.nil_append, List.cons_append]
                  refine wk_move (.int .i64 (k : Int)) rfl rfl rfl rfl ?_
                  dsimp only [putL, setL, List.set_cons_zero, List.set_cons_succ, List.nil_append, List.cons_append]
                  refine wk_idxA k 4 rfl rfl rfl rfl ha7 rfl Try.underlying57 (by kernel_rfl) rfl (by omega) ?_
                  dsimp only [putL, setL, List.set_cons_zero, List.set_cons_succ, List.nil_append, List.cons_append]
                  refine wk_ldA rfl rfl rfl rfl (fun M' w' hm hst => old_range hr7 (rowL_ne (k := k) (by omega)) hst) (by omega) ?_
                  dsimp only [putL, setL, List.set_cons_zero, List.set_cons_succ, List.nil_append, List.cons_append]
                  refine wk_ldN 0 rfl rfl rfl rfl rfl ?_
                  dsimp only [putL, setL, List.set_cons_zero, List.set_cons_succ, List.nil_append, List.cons_append]
                  refine wk_call [(.int .i64 1), (numV (subM (modW 1) (ix xs k) (ix xs i)))] (numV ((subM (modW 1) (ix xs k) (ix xs i)) ^ (modW 1 - 2) % modW 1)) rfl rfl rfl (enters_of Try.func88 (by kernel_rfl) (by kernel_rfl)) rfl (rinv_ok 1 (subM (modW 1) (ix xs k) (ix xs i)) ok1 (Nat.lt_trans (Nat.mod_lt _ (modW_pos ok1)) (modW_lt 1))) ?_
                  dsimp only [putL, setL, List.set_cons_zero, List.set_cons_succ, List.nil_append, List.cons_append]
                  refine wk_call [(numV (ix xs k)), (numV ((subM (modW 1) (ix xs k) (ix xs i)) ^ (modW 1 - 2) % modW 1))] (numV ((ix xs k) * ((subM (modW 1) (ix xs k) (ix xs i)) ^ (modW 1 - 2) % modW 1) % modW 1)) rfl rfl rfl (enters_of Try.func86 (by kernel_rfl) (by kernel_rfl)) rfl (qmul_calls (ix xs k) ((subM (modW 1) (ix xs k) (ix xs i)) ^ (modW 1 - 2) % modW 1) (ix_lt hxs) (Nat.lt_trans (Nat.mod_lt _ (modW_pos ok1)) (modW_lt 1))) ?_
                  dsimp only [putL, setL, List.set_cons_zero, List.set_cons_succ, List.nil_append, List.cons_append]
                  refine wk_call [(numV y), (numV ((ix xs k) * ((subM (modW 1) (ix xs k) (ix xs i)) ^ (modW 1 - 2) % modW 1) % modW 1))] (numV (y * ((ix xs k) * ((subM (modW 1) (ix xs k) (ix xs i)) ^ (modW 1 - 2) % modW 1) % modW 1) % modW 1)) rfl rfl rfl (enters_of Try.func86 (by kernel_rfl) (by kernel_rfl)) rfl (qmul_calls y ((ix xs k) * ((subM (modW 1) (ix xs k) (ix xs i)) ^ (modW 1 - 2) % modW 1) % modW 1) hy (Nat.lt_trans (Nat.mod_lt _ (modW_pos ok1)) (modW_lt 1))) ?_
                  dsimp only [putL, setL, List.set_cons_zero, List.set_cons_succ, List.nil_append, List.cons_append]
                  refine wk_stN 1 (y * ((ix xs k) * ((subM (modW 1) (ix xs k) (ix xs i)) ^ (modW 1 - 2) % modW 1) % modW 1) % modW 1) rfl rfl rfl rfl rfl rfl ?_
                  dsimp only [putL, setL, List.set_cons_zero, List.set_cons_succ, List.nil_append, List.cons_append]
                  refine wk_nil ?_
                  refine sp_region (π := [0, 1, 2]) [] rfl rfl ?_
                  refine wk_move (.int .i64 (k : Int)) rfl rfl rfl rfl ?_
                  dsimp only [putL, setL, List.set_cons_zero, List.set_cons_succ, List.nil_append, List.cons_append]
                  refine wk_iop (.int .i64 ((k : Int) + 1)) rfl rfl rfl rfl rfl rfl (iop_add (by omega) (by omega)) ?_
                  dsimp only [putL, setL, List.set_cons_zero, List.set_cons_succ, List.nil_append, List.cons_append]
                  refine wk_assign (.int .i64 ((k : Int) + 1)) rfl rfl rfl rfl ?_
                  dsimp only [putL, setL, List.set_cons_zero, List.set_cons_succ, List.nil_append, List.cons_append]
                  refine wk_nil ?_
                  exact ⟨(β4, numO (y * ((ix xs k) * ((subM (modW 1) (ix xs k) (ix xs i)) ^ (modW 1 - 2) % modW 1) % modW 1) % modW 1)) :: S, _, by exact List.Sublist.cons _ <| List.Sublist.cons_cons _ <| List.Sublist.refl _, ⟨(k + 1), (y * ((ix xs k) * ((subM (modW 1) (ix xs k) (ix xs i)) ^ (modW 1 - 2) % modW 1) % modW 1) % modW 1), d2, d3, (.pointer (some ⟨β8, 0, none⟩)), (.int .i64 (k : Int)), (.slice a xs.length c), (.int .i64 ((xs.length : Nat) : Int)), (.bool true), (.int .i64 (k : Int)), (.int .i64 ((k : Int) + 1)), (.int .i64 (k : Int)), (.int .i64 (i : Int)), (.bool false), (.slice a xs.length c), (.int .i64 (k : Int)), (.pointer (some ⟨β7, o7 + k * 4, none⟩)), (numV (ix xs k)), (.slice a xs.length c), (.int .i64 (i : Int)), (.pointer (some ⟨β7, o7 + i * 4, none⟩)), (numV (ix xs i)), (numV (subM (modW 1) (ix xs k) (ix xs i))), (numV (subM (modW 1) (ix xs k) (ix xs i))), (numV 0), (.bool false), (numV y), (.slice a xs.length c), (.int .i64 (k : Int)), (.pointer (some ⟨β7, o7 + k * 4, none⟩)), (numV (ix xs k)), (numV (subM (modW 1) (ix xs k) (ix xs i))), (numV ((subM (modW 1) (ix xs k) (ix xs i)) ^ (modW 1 - 2) % modW 1)), (numV ((ix xs k) * ((subM (modW 1) (ix xs k) (ix xs i)) ^ (modW 1 - 2) % modW 1) % modW 1)), (numV (y * ((ix xs k) * ((subM (modW 1) (ix xs k) (ix xs i)) ^ (modW 1 - 2) % modW 1) % modW 1) % modW 1)), rfl, rfl, (by omega), (by rw [hg1, pageW_step (by omega)]), (row_succ hg2 (.inr hc9)), rfl⟩, (by omega)⟩
            · skip
              refine wk_iop (.bool false) rfl rfl rfl rfl rfl rfl (iop_lss_f hc5) ?_
              dsimp only [putL, setL, List.set_cons_zero, List.set_cons_succ, List.nil_append, List.cons_append]
              refine wk_nil ?_
              refine sp_false rfl rfl ?_
              refine sp_exit rfl ?_
              refine sp_region (π := [0, 1, 2, 3, 4]) [] rfl rfl ?_
              refine wk_move v rfl rfl rfl rfl ?_
              dsimp only [putL, setL, List.set_cons_zero, List.set_cons_succ, List.nil_append, List.cons_append]
              refine wk_ldN 0 rfl rfl rfl rfl rfl ?_
              dsimp only [putL, setL, List.set_cons_zero, List.set_cons_succ, List.nil_append, List.cons_append]
              refine wkf_make (z := rowO [y]) (mk := fun β => .slice (some ⟨β, 0, none⟩) 1 1) rfl rfl (fun w => by kernel_rfl) fun β10 => ?_
              dsimp only [putL, setL, List.set_cons_zero, List.set_cons_succ, List.nil_append, List.cons_append]
              refine wk_append (news := (rowL [y])) (F := [(β10, rowO [y]), (β4, numO y)]) rfl rfl rfl rfl rfl Try.underlying57 ninfo numBytes nzero rfl (by decide) hf2 (List.perm_append_comm (l₁ := [(β10, rowO [y]), (β4, numO y)]) (l₂ := S)) rfl (fun w' hst => row_holds (List.mem_of_getElem? (i := 0) rfl) hst) (rowL_one _) (by omega) (by omega) fun v11 S11 hO11 => ?_
              dsimp only [putL, setL, List.set_cons_zero, List.set_cons_succ, List.nil_append, List.cons_append]
              refine wk_assign v11 rfl rfl rfl rfl ?_
              dsimp only [putL, setL, List.set_cons_zero, List.set_cons_succ, List.nil_append, List.cons_append]
              refine wk_nil ?_
              refine sp_region (π := [0, 1, 2]) [] rfl rfl ?_
              refine wk_move (.int .i64 (i : Int)) rfl rfl rfl rfl ?_
              dsimp only [putL, setL, List.set_cons_zero, List.set_cons_succ, List.nil_append, List.cons_append]
              refine wk_iop (.int .i64 ((i : Int) + 1)) rfl rfl rfl rfl rfl rfl (iop_add (by omega) (by omega)) ?_
              dsimp only [putL, setL, List.set_cons_zero, List.set_cons_succ, List.nil_append, List.cons_append]
              refine wk_assign (.int .i64 ((i : Int) + 1)) rfl rfl rfl rfl ?_
              dsimp only [putL, setL, List.set_cons_zero, List.set_cons_succ, List.nil_append, List.cons_append]
              refine wk_nil ?_
              exact ⟨S11, _, by exact List.Sublist.cons _ <| List.Sublist.cons _ <| List.Sublist.refl _, ⟨(i + 1), v11, S11, d2, d3, (.pointer (some ⟨β4, 0, none⟩)), (.int .i64 (k : Int)), d8, (.int .i64 (i : Int)), (.slice a xs.length c), (.int .i64 ((xs.length : Nat) : Int)), (.bool true), (.int .i64 (i : Int)), (.int .i64 ((i : Int) + 1)), (numV 1), (.int .i64 (k : Int)), (.slice a xs.length c), (.int .i64 ((xs.length : Nat) : Int)), (.bool false), d28, d29, d30, d31, d32, d33, d34, d35, d36, d37, d38, d39, d40, d41, d42, d43, d44, d45, d46, d47, d48, d49, d50, d51, d52, d53, v, (numV y), (.slice (some ⟨β10, 0, none⟩) 1 1), v11, rfl, rfl, (by omega), (apart_succ hf1 (fun k' hk' hn => hg2 k' (by omega) hn)), (by have hkk : k = xs.length := (by omega); rw [weights_page]; rw [← hkk, ← hg1]; exact hO11), rfl⟩, (by omega)⟩
        · skip
          refine wk_iop (.bool false) rfl rfl rfl rfl rfl rfl (iop_lss_f hc3) ?_
          dsimp only [putL, setL, List.set_cons_zero, List.set_cons_succ, List.nil_append, List.cons_append]
          refine wk_nil ?_
          refine sp_false rfl rfl ?_
          refine sp_exit rfl ?_
          refine sp_seq rfl ?_
          refine sp_region (π := [0, 1, 2]) [] rfl rfl ?_
          refine wk_move v rfl rfl rfl rfl ?_
          dsimp only [putL, setL, List.set_cons_zero, List.set_cons_succ, List.nil_append, List.cons_append]
          refine wk_assign v rfl rfl rfl rfl ?_
          dsimp only [putL, setL, List.set_cons_zero, List.set_cons_succ, List.nil_append, List.cons_append]
          refine wk_assign (.int .i64 0) rfl rfl rfl rfl ?_
          dsimp only [putL, setL, List.set_cons_zero, List.set_cons_succ, List.nil_append, List.cons_append]
          refine wk_nil ?_
          refine sp_ret rfl ?_
          have hii : i = xs.length := by omega
          subst hii
          exact absurd (wrongI_ok (by omega) (apart_all (modW_pos ok1) hf1)) hw0

theorem rweights_ok' (xs : List Nat) (n : Nat) (a : Option Addr) (c : Nat) (hl : xs.length = n) (hxs : ∀ y ∈ xs, y < W256) (hn : n ≤ 1099511627776) (hc : n ≤ c) (hw0 : wrongI (modW 1) xs = 0) (w : World) (hH : Holds w a (rowL xs)) :
    Calls Try.prog 66 #[.slice a n c] w (NewS 24 4 (fun v => .tuple #[v, .int .i64 0]) n (rowL (weightsTo (modW 1) xs xs.length)) w) := by
  subst hl; exact rweights_ok xs a c hxs hn hc hw0 w hH

theorem rweights_no' (xs : List Nat) (n : Nat) (a : Option Addr) (c : Nat) (hl : xs.length = n) (hxs : ∀ y ∈ xs, y < W256) (hn : n ≤ 1099511627776) (hc : n ≤ c) (hw0 : ¬ wrongI (modW 1) xs = 0) (w : World) (hH : Holds w a (rowL xs)) :
    Calls Try.prog 66 #[.slice a n c] w (fun e w' => e = .returned (.tuple #[.slice none 0 0, .int .i64 (wrongI (modW 1) xs)]) ∧ Below w.heap.size w w') := by
  subst hl; exact rweights_no xs a c hxs hn hc hw0 w hH

set_option maxRecDepth 20000 in
set_option maxHeartbeats 400000 in
theorem rxsOf_calls (ss : List (Nat × Nat)) (nn : Nat) (a : Option Addr) (c : Nat) (hl : ss.length = nn) (hss : ShBound ss) (hn : nn ≤ 1099511627776) (w : World) (hH : Holds w a (shL ss)) : Calls Try.prog 89 #[.slice a nn c] w (NewS 24 4 (fun v => v) nn (rowL (xsS ss)) w) := by
  refine fn_calls (l0 := [(.slice a nn c), undef, undef, undef, undef, undef, undef, undef, undef, undef, undef, undef, undef, undef, undef, undef, undef, undef, undef, undef]) Try.func89 rfl rfl [] (St.start w) ?_
  refine sp_seq rfl ?_
  refine sp_region (π := [0]) [] rfl rfl ?_
  refine wk_assign (.slice none 0 0) rfl rfl rfl rfl ?_
  dsimp only [putL, setL, List.set_cons_zero, List.set_cons_succ, List.nil_append, List.cons_append]
  refine wk_nil ?_
  refine sp_seq rfl ?_
  refine sp_region (π := [0]) [] rfl rfl ?_
  refine wk_assign (.slice none 0 0) rfl rfl rfl rfl ?_
  dsimp only [putL, setL, List.set_cons_zero, List.set_cons_succ, List.nil_append, List.cons_append]
  refine wk_nil ?_
  refine sp_seq rfl ?_
  refine sp_seq rfl ?_
  refine sp_region (π := [0]) [] rfl rfl ?_
  refine wk_assign (.int .i64 0) rfl rfl rfl rfl ?_
  dsimp only [putL, setL, List.set_cons_zero, List.set_cons_succ, List.nil_append, List.cons_append]
  refine wk_nil ?_
  refine sp_block rfl ?_
  refine sp_loopg rfl (fun n l M => ∃ i : Nat, ∃ v : Value, ∃ S : Mem, ∃ d5 : Value, ∃ d6 : Value, ∃ d7 : Value, ∃ d8 : Value, ∃ d9 : Value, ∃ d10 : Value, ∃ d11 : Value, ∃ d12 : Value, ∃ d13 : Value, ∃ d14 : Value, ∃ d15 : Value, ∃ d16 : Value, ∃ d17 : Value, ∃ d18 : Value, l = [(.slice a nn c), undef, (.slice none 0 0), v, (.int .i64 (i : Int)), d5, d6, d7, d8, d9, d10, d11, d12, d13, d14, d15, d16, d17, d18, undef] ∧ S = M ∧ (i ≤ nn) ∧ (OwnS 24 4 v i (rowL (xsS (ss.take i))) S) ∧ n = nn - i) (nn - 0) ?_ ?_
  · exact ⟨0, (.slice none 0 0), [], undef, undef, undef, undef, undef, undef, undef, undef, undef, undef, undef, undef, undef, undef, rfl, rfl, (Nat.zero_le _), (OwnS.nil _ _), rfl⟩
  · skip
    intro n l M
    refine exists_imp.2 fun i => ?_
    refine exists_imp.2 fun v => ?_
    refine exists_imp.2 fun S => ?_
    refine exists_imp.2 fun d5 => ?_
    refine exists_imp.2 fun d6 => ?_
    refine exists_imp.2 fun d7 => ?_
    refine exists_imp.2 fun d8 => ?_
    refine exists_imp.2 fun d9 => ?_
    refine exists_imp.2 fun d10 => ?_
    refine exists_imp.2 fun d11 => ?_
    refine exists_imp.2 fun d12 => ?_
    refine exists_imp.2 fun d13 => ?_
    refine exists_imp.2 fun d14 => ?_
    refine exists_imp.2 fun d15 => ?_
    refine exists_imp.2 fun d16 => ?_
    refine exists_imp.2 fun d17 => ?_
    refine exists_imp.2 fun d18 => ?_
    rintro ⟨rfl, rfl, hf0, hf1, rfl⟩
    refine sp_seq rfl ?_
    refine sp_seq rfl ?_
    refine sp_region (π := [0, 1, 2, 3]) [] rfl rfl ?_
    refine wk_move (.int .i64 (i : Int)) rfl rfl rfl rfl ?_
    dsimp only [putL, setL, List.set_cons_zero, List.set_cons_succ, List.nil_append, List.cons_append]
    refine wk_move (.slice a nn c) rfl rfl rfl rfl ?_
    dsimp only [putL, setL, List.set_cons_zero, List.set_cons_succ, List.nil_append, List.cons_append]
    refine wk_lenA rfl rfl rfl rfl Try.underlying63 ?_
    dsimp only [putL, setL, List.set_cons_zero, List.set_cons_succ, List.nil_append, List.cons_append]
    by_cases hc1 : (i : Int) < ((nn : Nat) : Int)
    · skip
      refine wk_iop (.bool true) rfl rfl rfl rfl rfl rfl (iop_lss_t hc1) ?_
      dsimp only [putL, setL, List.set_cons_zero, List.set_cons_succ, List.nil_append, List.cons_append]
      refine wk_nil ?_
      refine sp_true rfl rfl ?_
      refine sp_skip rfl ?_
      refine sp_seq rfl ?_
      refine sp_block rfl ?_
      refine sp_region (π := [0, 1, 2, 3, 4, 5, 6, 7, 8]) [] rfl rfl ?_
      refine wk_move v rfl rfl rfl rfl ?_
      dsimp only [putL, setL, List.set_cons_zero, List.set_cons_succ, List.nil_append, List.cons_append]
      refine wk_move (.slice a nn c) rfl rfl rfl rfl ?_
      dsimp only [putL, setL, List.set_cons_zero, List.set_cons_succ, List.nil_append, List.cons_append]
      refine wk_move (.int .i64 (i : Int)) rfl rfl rfl rfl ?_
      dsimp only [putL, setL, List.set_cons_zero, List.set_cons_succ, List.nil_append, List.cons_append]
      obtain ⟨β2, o2, ha2, hr2⟩ := hH.at_ (shL_ne (k := i) (by have h0 := hl; omega))
      refine wk_idxA i 8 rfl rfl rfl rfl ha2 rfl Try.underlying63 (by kernel_rfl) rfl (by omega) ?_
      dsimp only [putL, setL, List.set_cons_zero, List.set_cons_succ, List.nil_append, List.cons_append]
      refine wk_val (.pointer (some ⟨β2, o2 + i * 8, none⟩)) rfl rfl rfl (fun w => by kernel_rfl) ?_
      dsimp only [putL, setL, List.set_cons_zero, List.set_cons_succ, List.nil_append, List.cons_append]
      refine wk_ldXA rfl rfl rfl rfl (fun M' w' hm hst => old_range hr2 (shL_ne (k := i) (by omega)) hst) (by have h0 := hl; omega) ?_
      dsimp only [putL, setL, List.set_cons_zero, List.set_cons_succ, List.nil_append, List.cons_append]
      refine wkf_make (z := rowO [(sx ss i).1]) (mk := fun β => .slice (some ⟨β, 0, none⟩) 1 1) rfl rfl (fun w => by kernel_rfl) fun β3 => ?_
      dsimp only [putL, setL, List.set_cons_zero, List.set_cons_succ, List.nil_append, List.cons_append]
      refine wk_append (news := (rowL [(sx ss i).1])) (F := [(β3, rowO [(sx ss i).1])]) rfl rfl rfl rfl rfl Try.underlying57 ninfo numBytes nzero rfl (by decide) hf1 (List.perm_append_comm (l₁ := [(β3, rowO [(sx ss i).1])]) (l₂ := S)) rfl (fun w' hst => row_holds (List.mem_of_getElem? (i := 0) rfl) hst) (rowL_one _) (by omega) (by omega) fun v4 S4 hO4 => ?_
      dsimp only [putL, setL, List.set_cons_zero, List.set_cons_succ, List.nil_append, List.cons_append]
      refine wk_assign v4 rfl rfl rfl rfl ?_
      dsimp only [putL, setL, List.set_cons_zero, List.set_cons_succ, List.nil_append, List.cons_append]
      refine wk_nil ?_
      refine sp_region (π := [0, 1, 2]) [] rfl rfl ?_
      refine wk_move (.int .i64 (i : Int)) rfl rfl rfl rfl ?_
      dsimp only [putL, setL, List.set_cons_zero, List.set_cons_succ, List.nil_append, List.cons_append]
      refine wk_iop (.int .i64 ((i : Int) + 1)) rfl rfl rfl rfl rfl rfl (iop_add (by omega) (by omega)) ?_
      dsimp only [putL, setL, List.set_cons_zero, List.set_cons_succ, List.nil_append, List.cons_append]
      refine wk_assign (.int .i64 ((i : Int) + 1)) rfl rfl rfl rfl ?_
      dsimp only [putL, setL, List.set_cons_zero, List.set_cons_succ, List.nil_append, List.cons_append]
      refine wk_nil ?_
      exact ⟨S4, _, by exact List.Sublist.cons _ <| List.Sublist.refl _, ⟨(i + 1), v4, S4, (.int .i64 (i : Int)), (.slice a nn c), (.int .i64 ((nn : Nat) : Int)), (.bool true), (.int .i64 (i : Int)), (.int .i64 ((i : Int) + 1)), v, (.slice a nn c), (.int .i64 (i : Int)), (.pointer (some ⟨β2, o2 + i * 8, none⟩)), (.pointer (some ⟨β2, o2 + i * 8, none⟩)), (numV (sx ss i).1), (.slice (some ⟨β3, 0, none⟩) 1 1), v4, rfl, rfl, (by omega), (by rw [places_row (by omega)]; exact hO4), rfl⟩, (by omega)⟩
    · skip
      refine wk_iop (.bool false) rfl rfl rfl rfl rfl rfl (iop_lss_f hc1) ?_
      dsimp only [putL, setL, List.set_cons_zero, List.set_cons_succ, List.nil_append, List.cons_append]
      refine wk_nil ?_
      refine sp_false rfl rfl ?_
      refine sp_exit rfl ?_
      refine sp_seq rfl ?_
      refine sp_region (π := [0, 1]) [] rfl rfl ?_
      refine wk_move v rfl rfl rfl rfl ?_
      dsimp only [putL, setL, List.set_cons_zero, List.set_cons_succ, List.nil_append, List.cons_append]
      refine wk_assign v rfl rfl rfl rfl ?_
      dsimp only [putL, setL, List.set_cons_zero, List.set_cons_succ, List.nil_append, List.cons_append]
      refine wk_nil ?_
      refine sp_ret rfl ?_
      have hii : i = ss.length := by omega
      rw [hii, List.take_length, hl] at hf1
      exact ret_tmps (v := v) (fun w' => by kernel_rfl) fun w' hw => ⟨v, S, rfl, hf1, hw.below, fun p hp => ⟨hw.own p (by simp [hp]), (hw.free p (by simp [hp])).resolve_right id⟩⟩

set_option maxRecDepth 20000 in
set_option maxHeartbeats 400000 in
theorem rzero_ok (ss : List (Nat × Nat)) (nn : Nat) (a : Option Addr) (c : Nat) (hl : ss.length = nn) (hss : ShBound ss) (hn : nn ≤ 1099511627776) (hc : nn ≤ c) (hw0 : wrongI (modW 1) (xsS ss) = 0) (w : World) (hH : Holds w a (shL ss)) : Calls Try.prog 67 #[.slice a nn c] w (fun e w' => e = .returned (.tuple #[numV (zeroTo (modW 1) (weightsTo (modW 1) (xsS ss) (xsS ss).length) ss ss.length), .int .i64 0]) ∧ Below w.heap.size w w') := by
  refine fn_calls (l0 := [(.slice a nn c), undef, undef, undef, undef, undef, undef, undef, undef, undef, undef, undef, undef, undef, undef, undef, undef, undef, undef, undef, undef, undef, undef, undef, undef, undef, undef, undef, undef, undef, undef, undef, undef, undef, undef, undef, undef]) Try.func67 rfl rfl [] (St.start w) ?_
  refine sp_seq rfl ?_
  refine sp_region (π := [0, 1]) [] rfl rfl ?_
  refine wkf_newN rfl rfl fun β1 => ?_
  dsimp only [putL, setL, List.set_cons_zero, List.set_cons_succ, List.nil_append, List.cons_append]
  refine wk_assign (.int .i64 0) rfl rfl rfl rfl ?_
  dsimp only [putL, setL, List.set_cons_zero, List.set_cons_succ, List.nil_append, List.cons_append]
  refine wk_nil ?_
  refine sp_seq rfl ?_
  refine sp_region (π := [0, 1, 2, 3, 4, 5, 6, 7]) [] rfl rfl ?_
  refine wk_move (.slice a nn c) rfl rfl rfl rfl ?_
  dsimp only [putL, setL, List.set_cons_zero, List.set_cons_succ, List.nil_append, List.cons_append]
  refine wk_callS (e := 24) (size := 4) (n := nn) (cs := (rowL (xsS ss))) [(.slice a nn c)] (fun v => v) rfl rfl rfl (enters_of Try.func89 (by kernel_rfl) (by kernel_rfl)) rfl (xsS_row hl) (by simp only [maxLen]; omega) (fun M' w' hm hst => rxsOf_calls ss nn _ _ hl hss (by omega) w' (hH.old hst)) fun v2 S2 hO2 => ?_
  dsimp only [putL, setL, List.set_cons_zero, List.set_cons_succ, List.nil_append, List.cons_append]
  obtain ⟨a3, cp3, hv3, hcp3, hsh3⟩ := hO2.reads
  subst hv3
  refine wk_callS (e := 24) (size := 4) (n := nn) (cs := (rowL (weightsTo (modW 1) (xsS ss) (xsS ss).length))) [(.slice a3 nn cp3)] (fun v => .tuple #[v, .int .i64 0]) rfl rfl rfl (enters_of Try.func66 (by kernel_rfl) (by kernel_rfl)) rfl (weightsTo_row ((xsS_len ss).trans hl)) (by simp only [maxLen]; omega) (fun M' w' hm hst => rweights_ok' (xsS ss) nn _ _ ((xsS_len ss).trans hl) (xsS_bound hss) (by omega) hcp3 hw0 w' (hsh3.holds hst (fun p hp => hm p (by simp [hp])))) fun v4 S4 hO4 => ?_
  dsimp only [putL, setL, List.set_cons_zero, List.set_cons_succ, List.nil_append, List.cons_append]
  try simp only [List.append_assoc]
  obtain ⟨a5, cp5, hv5, hcp5, hsh5⟩ := hO4.reads
  subst hv5
  refine wk_move (.tuple #[(.slice a5 nn cp5), (.int .i64 0)]) rfl rfl rfl rfl ?_
  dsimp only [putL, setL, List.set_cons_zero, List.set_cons_succ, List.nil_append, List.cons_append]
  refine wk_ext (.slice a5 nn cp5) rfl rfl rfl rfl rfl ?_
  dsimp only [putL, setL, List.set_cons_zero, List.set_cons_succ, List.nil_append, List.cons_append]
  refine wk_ext (.int .i64 0) rfl rfl rfl rfl rfl ?_
  dsimp only [putL, setL, List.set_cons_zero, List.set_cons_succ, List.nil_append, List.cons_append]
  refine wk_assign (.slice a5 nn cp5) rfl rfl rfl rfl ?_
  dsimp only [putL, setL, List.set_cons_zero, List.set_cons_succ, List.nil_append, List.cons_append]
  refine wk_assign (.int .i64 0) rfl rfl rfl rfl ?_
  dsimp only [putL, setL, List.set_cons_zero, List.set_cons_succ, List.nil_append, List.cons_append]
  refine wk_nil ?_
  refine sp_seq rfl ?_
  refine sp_seq rfl ?_
  refine sp_region (π := [0, 1]) [] rfl rfl ?_
  refine wk_move (.int .i64 0) rfl rfl rfl rfl ?_
  dsimp only [putL, setL, List.set_cons_zero, List.set_cons_succ, List.nil_append, List.cons_append]
  refine wk_iop (.bool false) rfl rfl rfl rfl rfl rfl (iop_neq_f (by decide)) ?_
  dsimp only [putL, setL, List.set_cons_zero, List.set_cons_succ, List.nil_append, List.cons_append]
  refine wk_nil ?_
  refine sp_false rfl rfl ?_
  refine sp_skip rfl ?_
  refine sp_seq rfl ?_
  refine sp_region (π := [0]) [] rfl rfl ?_
  refine wkf_newN rfl rfl fun β6 => ?_
  dsimp only [putL, setL, List.set_cons_zero, List.set_cons_succ, List.nil_append, List.cons_append]
  refine wk_nil ?_
  refine sp_seq rfl ?_
  refine sp_seq rfl ?_
  refine sp_region (π := [0]) [] rfl rfl ?_
  refine wk_assign (.int .i64 0) rfl rfl rfl rfl ?_
  dsimp only [putL, setL, List.set_cons_zero, List.set_cons_succ, List.nil_append, List.cons_append]
  refine wk_nil ?_
  refine sp_block rfl ?_
  refine sp_loopg rfl (fun n l M => ∃ i : Nat, ∃ y : Nat, ∃ d18 : Value, ∃ d19 : Value, ∃ d20 : Value, ∃ d21 : Value, ∃ d22 : Value, ∃ d23 : Value, ∃ d24 : Value, ∃ d25 : Value, ∃ d26 : Value, ∃ d27 : Value, ∃ d28 : Value, ∃ d29 : Value, ∃ d30 : Value, ∃ d31 : Value, ∃ d32 : Value, ∃ d33 : Value, ∃ d34 : Value, ∃ d35 : Value, l = [(.slice a nn c), undef, (.pointer (some ⟨β1, 0, none⟩)), (.int .i64 0), (.slice a5 nn cp5), (.int .i64 0), (.pointer (some ⟨β6, 0, none⟩)), (.int .i64 (i : Int)), (.tuple #[(.slice a5 nn cp5), (.int .i64 0)]), (.slice a nn c), (.slice a3 nn cp3), (.tuple #[(.slice a5 nn cp5), (.int .i64 0)]), (.slice a5 nn cp5), (.int .i64 0), (.int .i64 0), (.bool false), undef, undef, d18, d19, d20, d21, d22, d23, d24, d25, d26, d27, d28, d29, d30, d31, d32, d33, d34, d35, undef] ∧ (β6, numO y) :: (β1, numO 0) :: (S2 ++ S4) = M ∧ (i ≤ nn) ∧ (y = zeroTo (modW 1) (weightsTo (modW 1) (xsS ss) (xsS ss).length) ss i) ∧ n = nn - i) (nn - 0) ?_ ?_
  · exact ⟨0, 0, undef, undef, undef, undef, undef, undef, undef, undef, undef, undef, undef, undef, undef, undef, undef, undef, undef, undef, rfl, rfl, (Nat.zero_le _), rfl, rfl⟩
  · skip
    intro n l M
    refine exists_imp.2 fun i => ?_
    refine exists_imp.2 fun y => ?_
    refine exists_imp.2 fun d18 => ?_
    refine exists_imp.2 fun d19 => ?_
    refine exists_imp.2 fun d20 => ?_
    refine exists_imp.2 fun d21 => ?_
    refine exists_imp.2 fun d22 => ?_
    refine exists_imp.2 fun d23 => ?_
    refine exists_imp.2 fun d24 => ?_
    refine exists_imp.2 fun d25 => ?_
    refine exists_imp.2 fun d26 => ?_
    refine exists_imp.2 fun d27 => ?_
    refine exists_imp.2 fun d28 => ?_
    refine exists_imp.2 fun d29 => ?_
    refine exists_imp.2 fun d30 => ?_
    refine exists_imp.2 fun d31 => ?_
    refine exists_imp.2 fun d32 => ?_
    refine exists_imp.2 fun d33 => ?_
    refine exists_imp.2 fun d34 => ?_
    refine exists_imp.2 fun d35 => ?_
    rintro ⟨rfl, rfl, hf0, hf1, rfl⟩
    have hy : y < W256 := by rw [hf1]; exact zeroTo_lt (modW_pos ok1) (modW_lt 1) _ _ _
    refine sp_seq rfl ?_
    refine sp_seq rfl ?_
    refine sp_region (π := [0, 1, 2, 3]) [] rfl rfl ?_
    refine wk_move (.int .i64 (i : Int)) rfl rfl rfl rfl ?_
    dsimp only [putL, setL, List.set_cons_zero, List.set_cons_succ, List.nil_append, List.cons_append]
    refine wk_move (.slice a nn c) rfl rfl rfl rfl ?_
    dsimp only [putL, setL, List.set_cons_zero, List.set_cons_succ, List.nil_append, List.cons_append]
    refine wk_lenA rfl rfl rfl rfl Try.underlying63 ?_
    dsimp only [putL, setL, List.set_cons_zero, List.set_cons_succ, List.nil_append, List.cons_append]
    by_cases hc7 : (i : Int) < ((nn : Nat) : Int)
    · skip
      refine wk_iop (.bool true) rfl rfl rfl rfl rfl rfl (iop_lss_t hc7) ?_
      dsimp only [putL, setL, List.set_cons_zero, List.set_cons_succ, List.nil_append, List.cons_append]
      refine wk_nil ?_
      refine sp_true rfl rfl ?_
      refine sp_skip rfl ?_
      refine sp_seq rfl ?_
      refine sp_block rfl ?_
      refine sp_draw [0, 1, 2, 3, 4, 5, 6, 7, 8, 9, 10, 11, 12] [] mixed rfl (by kernel_rfl) (by kernel_rfl) ?_
      refine wk_ldN 0 rfl rfl rfl rfl rfl ?_
      dsimp only [putL, setL, List.set_cons_zero, List.set_cons_succ, List.nil_append, List.cons_append]
      refine wk_move (.slice a nn c) rfl rfl rfl rfl ?_
      dsimp only [putL, setL, List.set_cons_zero, List.set_cons_succ, List.nil_append, List.cons_append]
      refine wk_move (.int .i64 (i : Int)) rfl rfl rfl rfl ?_
      dsimp only [putL, setL, List.set_cons_zero, List.set_cons_succ, List.nil_append, List.cons_append]
      obtain ⟨β8, o8, ha8, hr8⟩ := hH.at_ (shL_ne (k := i) (by have h0 := hl; omega))
      refine wk_idxA i 8 rfl rfl rfl rfl ha8 rfl Try.underlying63 (by kernel_rfl) rfl (by omega) ?_
      dsimp only [putL, setL, List.set_cons_zero, List.set_cons_succ, List.nil_append, List.cons_append]
      refine wk_val (.pointer (some ⟨β8, o8 + i * 8 + 4, none⟩)) rfl rfl rfl (fun w => by kernel_rfl) ?_
      dsimp only [putL, setL, List.set_cons_zero, List.set_cons_succ, List.nil_append, List.cons_append]
      refine wk_ldYA rfl rfl rfl rfl (fun M' w' hm hst => old_range hr8 (shL_ne (k := i) (by omega)) hst) (by have h0 := hl; omega) ?_
      dsimp only [putL, setL, List.set_cons_zero, List.set_cons_succ, List.nil_append, List.cons_append]
      refine wk_move (.slice a5 nn cp5) rfl rfl rfl rfl ?_
      dsimp only [putL, setL, List.set_cons_zero, List.set_cons_succ, List.nil_append, List.cons_append]
      refine wk_move (.int .i64 (i : Int)) rfl rfl rfl rfl ?_
      dsimp only [putL, setL, List.set_cons_zero, List.set_cons_succ, List.nil_append, List.cons_append]
      obtain ⟨β9, ha9, hr9⟩ := hsh5.at_ (rowL_ne (k := i) (by have h0 := ((weightsTo_len (modW 1) (xsS ss) (xsS ss).length).trans ((xsS_len ss).trans hl)); omega))
      refine wk_idxA i 4 rfl rfl rfl rfl ha9 rfl Try.underlying57 (by kernel_rfl) rfl (by omega) ?_
      dsimp only [putL, setL, List.set_cons_zero, List.set_cons_succ, List.nil_append, List.cons_append]
      refine wk_ldA rfl rfl rfl rfl (fun M' w' hm hst => hr9 w' (fun p hp => hst.own p (hm p (by simp [hp])))) (by have h0 := ((weightsTo_len (modW 1) (xsS ss) (xsS ss).length).trans ((xsS_len ss).trans hl)); omega) ?_
      dsimp only [putL, setL, List.set_cons_zero, List.set_cons_succ, List.nil_append, List.cons_append]
      refine wk_call [(numV (sx ss i).2), (numV (ix (weightsTo (modW 1) (xsS ss) (xsS ss).length) i))] (numV ((sx ss i).2 * (ix (weightsTo (modW 1) (xsS ss) (xsS ss).length) i) % modW 1)) rfl rfl rfl (enters_of Try.func86 (by kernel_rfl) (by kernel_rfl)) rfl (qmul_calls (sx ss i).2 (ix (weightsTo (modW 1) (xsS ss) (xsS ss).length) i) (sx_lt2 hss) (ix_lt (weightsTo_lt ok1 _ _))) ?_
      dsimp only [putL, setL, List.set_cons_zero, List.set_cons_succ, List.nil_append, List.cons_append]
      refine wk_call [(numV y), (numV ((sx ss i).2 * (ix (weightsTo (modW 1) (xsS ss) (xsS ss).length) i) % modW 1))] (numV ((y + ((sx ss i).2 * (ix (weightsTo (modW 1) (xsS ss) (xsS ss).length) i) % modW 1)) % modW 1)) rfl rfl rfl (enters_of Try.func85 (by kernel_rfl) (by kernel_rfl)) rfl (qadd_calls y ((sx ss i).2 * (ix (weightsTo (modW 1) (xsS ss) (xsS ss).length) i) % modW 1) hy (Nat.lt_trans (Nat.mod_lt _ (modW_pos ok1)) (modW_lt 1))) ?_
      dsimp only [putL, setL, List.set_cons_zero, List.set_cons_succ, List.nil_append, List.cons_append]
      refine wk_stN 0 ((y + ((sx ss i).2 * (ix (weightsTo (modW 1) (xsS ss) (xsS ss).length) i) % modW 1)) % modW 1) rfl rfl rfl rfl rfl rfl ?_
      dsimp only [putL, setL, List.set_cons_zero, List.set_cons_succ, List.nil_append, List.cons_append]
      refine wk_nil ?_
      refine sp_region (π := [0, 1, 2]) [] rfl rfl ?_
      refine wk_move (.int .i64 (i : Int)) rfl rfl rfl rfl ?_
      dsimp only [putL, setL, List.set_cons_zero, List.set_cons_succ, List.nil_append, List.cons_append]
      refine wk_iop (.int .i64 ((i : Int) + 1)) rfl rfl rfl rfl rfl rfl (iop_add (by omega) (by omega)) ?_
      dsimp only [putL, setL, List.set_cons_zero, List.set_cons_succ, List.nil_append, List.cons_append]
      refine wk_assign (.int .i64 ((i : Int) + 1)) rfl rfl rfl rfl ?_
      dsimp only [putL, setL, List.set_cons_zero, List.set_cons_succ, List.nil_append, List.cons_append]
      refine wk_nil ?_
      exact ⟨(β6, numO ((y + ((sx ss i).2 * (ix (weightsTo (modW 1) (xsS ss) (xsS ss).length) i) % modW 1)) % modW 1)) :: (β1, numO 0) :: (S2 ++ S4), _, List.Sublist.refl _, ⟨(i + 1), ((y + ((sx ss i).2 * (ix (weightsTo (modW 1) (xsS ss) (xsS ss).length) i) % modW 1)) % modW 1), (.int .i64 (i : Int)), (.slice a nn c), (.int .i64 ((nn : Nat) : Int)), (.bool true), (.int .i64 (i : Int)), (.int .i64 ((i : Int) + 1)), (numV y), (.slice a nn c), (.int .i64 (i : Int)), (.pointer (some ⟨β8, o8 + i * 8, none⟩)), (.pointer (some ⟨β8, o8 + i * 8 + 4, none⟩)), (numV (sx ss i).2), (.slice a5 nn cp5), (.int .i64 (i : Int)), (.pointer (some ⟨β9, 0 + i * 4, none⟩)), (numV (ix (weightsTo (modW 1) (xsS ss) (xsS ss).length) i)), (numV ((sx ss i).2 * (ix (weightsTo (modW 1) (xsS ss) (xsS ss).length) i) % modW 1)), (numV ((y + ((sx ss i).2 * (ix (weightsTo (modW 1) (xsS ss) (xsS ss).length) i) % modW 1)) % modW 1)), rfl, rfl, (by omega), (by rw [zeroTo, hf1, Nat.mul_comm (ix _ i)]), rfl⟩, (by omega)⟩
    · skip
      refine wk_iop (.bool false) rfl rfl rfl rfl rfl rfl (iop_lss_f hc7) ?_
      dsimp only [putL, setL, List.set_cons_zero, List.set_cons_succ, List.nil_append, List.cons_append]
      refine wk_nil ?_
      refine sp_false rfl rfl ?_
      refine sp_exit rfl ?_
      refine sp_seq rfl ?_
      refine sp_region (π := [0, 1, 2]) [] rfl rfl ?_
      refine wk_ldN 0 rfl rfl rfl rfl rfl ?_
      dsimp only [putL, setL, List.set_cons_zero, List.set_cons_succ, List.nil_append, List.cons_append]
      refine wk_stN 1 y rfl rfl rfl rfl rfl rfl ?_
      dsimp only [putL, setL, List.set_cons_zero, List.set_cons_succ, List.nil_append, List.cons_append]
      refine wk_assign (.int .i64 0) rfl rfl rfl rfl ?_
      dsimp only [putL, setL, List.set_cons_zero, List.set_cons_succ, List.nil_append, List.cons_append]
      refine wk_nil ?_
      refine sp_ret rfl ?_
      exact ret_numCT 1 rfl rfl rfl rfl fun w' hw => ⟨by rw [hf1, show i = ss.length by omega]; rfl, hw.below⟩

set_option maxRecDepth 20000 in
set_option maxHeartbeats 400000 in
theorem rzero_no (ss : List (Nat × Nat)) (nn : Nat) (a : Option Addr) (c : Nat) (hl : ss.length = nn) (hss : ShBound ss) (hn : nn ≤ 1099511627776) (hc : nn ≤ c) (hw0 : ¬ wrongI (modW 1) (xsS ss) = 0) (w : World) (hH : Holds w a (shL ss)) : Calls Try.prog 67 #[.slice a nn c] w (fun e w' => e = .returned (.tuple #[numV 0, .int .i64 (wrongI (modW 1) (xsS ss))]) ∧ Below w.heap.size w w') := by
  refine fn_calls (l0 := [(.slice a nn c), undef, undef, undef, undef, undef, undef, undef, undef, undef, undef, undef, undef, undef, undef, undef, undef, undef, undef, undef, undef, undef, undef, undef, undef, undef, undef, undef, undef, undef, undef, undef, undef, undef, undef, undef, undef]) Try.func67 rfl rfl [] (St.start w) ?_
  refine sp_seq rfl ?_
  refine sp_region (π := [0, 1]) [] rfl rfl ?_
  refine wkf_newN rfl rfl fun β1 => ?_
  dsimp only [putL, setL, List.set_cons_zero, List.set_cons_succ, List.nil_append, List.cons_append]
  refine wk_assign (.int .i64 0) rfl rfl rfl rfl ?_
  dsimp only [putL, setL, List.set_cons_zero, List.set_cons_succ, List.nil_append, List.cons_append]
  refine wk_nil ?_
  refine sp_seq rfl ?_
  refine sp_region (π := [0, 1, 2, 3, 4, 5, 6, 7]) [] rfl rfl ?_
  refine wk_move (.slice a nn c) rfl rfl rfl rfl ?_
  dsimp only [putL, setL, List.set_cons_zero, List.set_cons_succ, List.nil_append, List.cons_append]
  refine wk_callS (e := 24) (size := 4) (n := nn) (cs := (rowL (xsS ss))) [(.slice a nn c)] (fun v => v) rfl rfl rfl (enters_of Try.func89 (by kernel_rfl) (by kernel_rfl)) rfl (xsS_row hl) (by simp only [maxLen]; omega) (fun M' w' hm hst => rxsOf_calls ss nn _ _ hl hss (by omega) w' (hH.old hst)) fun v2 S2 hO2 => ?_
  dsimp only [putL, setL, List.set_cons_zero, List.set_cons_succ, List.nil_append, List.cons_append]
  obtain ⟨a3, cp3, hv3, hcp3, hsh3⟩ := hO2.reads
  subst hv3
  refine wk_callW [(.slice a3 nn cp3)] (.tuple #[(.slice none 0 0), (.int .i64 (wrongI (modW 1) (xsS ss)))]) rfl rfl rfl (enters_of Try.func66 (by kernel_rfl) (by kernel_rfl)) rfl (fun M' w' hm hst => rweights_no' (xsS ss) nn _ _ ((xsS_len ss).trans hl) (xsS_bound hss) (by omega) hcp3 hw0 w' (hsh3.holds hst (fun p hp => hm p (by simp [hp])))) ?_
  dsimp only [putL, setL, List.set_cons_zero, List.set_cons_succ, List.nil_append, List.cons_append]
  refine wk_move (.tuple #[(.slice none 0 0), (.int .i64 (wrongI (modW 1) (xsS ss)))]) rfl rfl rfl rfl ?_
  dsimp only [putL, setL, List.set_cons_zero, List.set_cons_succ, List.nil_append, List.cons_append]
  refine wk_ext (.slice none 0 0) rfl rfl rfl rfl rfl ?_
  dsimp only [putL, setL, List.set_cons_zero, List.set_cons_succ, List.nil_append, List.cons_append]
  refine wk_ext (.int .i64 (wrongI (modW 1) (xsS ss))) rfl rfl rfl rfl rfl ?_
  dsimp only [putL, setL, List.set_cons_zero, List.set_cons_succ, List.nil_append, List.cons_append]
  refine wk_assign (.slice none 0 0) rfl rfl rfl rfl ?_
  dsimp only [putL, setL, List.set_cons_zero, List.set_cons_succ, List.nil_append, List.cons_append]
  refine wk_assign (.int .i64 (wrongI (modW 1) (xsS ss))) rfl rfl rfl rfl ?_
  dsimp only [putL, setL, List.set_cons_zero, List.set_cons_succ, List.nil_append, List.cons_append]
  refine wk_nil ?_
  refine sp_seq rfl ?_
  refine sp_seq rfl ?_
  refine sp_region (π := [0, 1]) [] rfl rfl ?_
  refine wk_move (.int .i64 (wrongI (modW 1) (xsS ss))) rfl rfl rfl rfl ?_
  dsimp only [putL, setL, List.set_cons_zero, List.set_cons_succ, List.nil_append, List.cons_append]
  refine wk_iop (.bool true) rfl rfl rfl rfl rfl rfl (iop_neq_t hw0) ?_
  dsimp only [putL, setL, List.set_cons_zero, List.set_cons_succ, List.nil_append, List.cons_append]
  refine wk_nil ?_
  refine sp_true rfl rfl ?_
  refine sp_seq rfl ?_
  refine sp_region (π := [0, 1, 2, 3]) [] rfl rfl ?_
  refine wk_val (numV 0) rfl rfl rfl (fun w => by kernel_rfl) ?_
  dsimp only [putL, setL, List.set_cons_zero, List.set_cons_succ, List.nil_append, List.cons_append]
  refine wk_move (.int .i64 (wrongI (modW 1) (xsS ss))) rfl rfl rfl rfl ?_
  dsimp only [putL, setL, List.set_cons_zero, List.set_cons_succ, List.nil_append, List.cons_append]
  refine wk_stN 0 0 rfl rfl rfl rfl rfl rfl ?_
  dsimp only [putL, setL, List.set_cons_zero, List.set_cons_succ, List.nil_append, List.cons_append]
  refine wk_assign (.int .i64 (wrongI (modW 1) (xsS ss))) rfl rfl rfl rfl ?_
  dsimp only [putL, setL, List.set_cons_zero, List.set_cons_succ, List.nil_append, List.cons_append]
  refine wk_nil ?_
  refine sp_ret rfl ?_
  exact ret_numCT 0 rfl rfl rfl rfl fun w' hw => ⟨rfl, hw.below⟩

end Go.Proofs.Ytmecomgifmkkfaa
