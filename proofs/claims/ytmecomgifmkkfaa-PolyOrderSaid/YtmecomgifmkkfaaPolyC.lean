/- What is wrong with places: what the call answers. -/
import Derived.Test.YtmecomgifmkkfaaPolyB
import Derived.Test.YtmecomgifmkkfaaSymF
namespace Go.Proofs.Ytmecomgifmkkfaa
set_option linter.unusedVariables false
set_option linter.unusedSimpArgs false
open Go.RowKit

/-- Places are unlike, modulo n. -/
def Unlike (m : Nat) (xs : List Nat) (n : Nat) : Prop := ∀ i, i < n → ∀ k, k < i → subM m (ix xs i) (ix xs k) ≠ 0
open Classical in
/-- What is wrong with places. -/
noncomputable def wrongI (m : Nat) (xs : List Nat) : Int := if xs.length = 0 ∨ 64 < xs.length then 4 else if Unlike m xs xs.length then 0 else 6
theorem wrongI_len {m : Nat} {xs : List Nat} (h : xs.length = 0 ∨ 64 < xs.length) : wrongI m xs = 4 := by unfold wrongI; rw [if_pos h]
theorem wrongI_ok {m : Nat} {xs : List Nat} (h : ¬ (xs.length = 0 ∨ 64 < xs.length)) (hu : Unlike m xs xs.length) : wrongI m xs = 0 := by unfold wrongI; rw [if_neg h, if_pos hu]
theorem wrongI_no {m : Nat} {xs : List Nat} (h : ¬ (xs.length = 0 ∨ 64 < xs.length)) (hu : ¬ Unlike m xs xs.length) : wrongI m xs = 6 := by unfold wrongI; rw [if_neg h, if_neg hu]
theorem unlike_zero (m : Nat) (xs : List Nat) : Unlike m xs 0 := fun i h => by omega
theorem unlike_succ {m : Nat} {xs : List Nat} {i : Nat} (h : Unlike m xs i) (hk : ∀ k, k < i → subM m (ix xs i) (ix xs k) ≠ 0) : Unlike m xs (i + 1) := by
  intro j hj k hk'
  rcases Nat.lt_or_ge j i with h1 | h1
  · exact h j h1 k hk'
  · obtain rfl : j = i := by omega
    exact hk k hk'
theorem all_succ {m : Nat} {xs : List Nat} {i k : Nat} (h : ∀ k', k' < k → subM m (ix xs i) (ix xs k') ≠ 0) (hk : ¬ subM m (ix xs i) (ix xs k) = 0) : ∀ k', k' < k + 1 → subM m (ix xs i) (ix xs k') ≠ 0 := by
  intro k' hk'
  rcases Nat.lt_or_ge k' k with h1 | h1
  · exact h k' h1
  · obtain rfl : k' = k := by omega
    exact hk

set_option maxRecDepth 20000 in
set_option maxHeartbeats 400000 in
theorem wrong_calls (xs : List Nat) (a : Option Addr) (c : Nat) (hxs : ∀ y ∈ xs, y < W256) (hn : xs.length ≤ 4611686018427387904) (hc : xs.length ≤ c) (w : World) (hH : Holds w a (rowL xs)): Calls Try.prog 81 #[.slice a xs.length c] w fun r w' => r = .returned (.int .i64 (wrongI (modW 1) xs)) ∧ Below w.heap.size w w' := by
  refine fn_calls (l0 := [(.slice a xs.length c), undef, undef, undef, undef, undef, undef, undef, undef, undef, undef, undef, undef, undef, undef, undef, undef, undef, undef, undef, undef, undef, undef, undef, undef, undef, undef, undef, undef, undef, undef, undef, undef, undef, undef, undef, undef]) Try.func81 rfl rfl [] (St.start w) ?_
  refine sp_seq rfl ?_
  refine sp_region (π := [0]) [] rfl rfl ?_
  refine wk_assign (.int .i64 0) rfl rfl rfl rfl ?_
  dsimp only [putL, setL, List.set_cons_zero, List.set_cons_succ, List.nil_append, List.cons_append]
  refine wk_nil ?_
  refine sp_seq rfl ?_
  refine sp_seq rfl ?_
  refine sp_region (π := [0, 1, 2, 3, 4, 5, 6, 7]) [] rfl rfl ?_
  refine wk_move (.slice a xs.length c) rfl rfl rfl rfl ?_
  dsimp only [putL, setL, List.set_cons_zero, List.set_cons_succ, List.nil_append, List.cons_append]
  refine wk_lenA rfl rfl rfl rfl Try.underlying57 ?_
  dsimp only [putL, setL, List.set_cons_zero, List.set_cons_succ, List.nil_append, List.cons_append]
  by_cases hc1 : ((xs.length : Nat) : Int) = 0
  · skip
    refine wk_iop (.bool true) rfl rfl rfl rfl rfl rfl (iop_eql_t hc1) ?_
    dsimp only [putL, setL, List.set_cons_zero, List.set_cons_succ, List.nil_append, List.cons_append]
    refine wk_move (.bool true) rfl rfl rfl rfl ?_
    dsimp only [putL, setL, List.set_cons_zero, List.set_cons_succ, List.nil_append, List.cons_append]
    refine wk_skip rfl rfl (fun h => by cases h) ?_
    dsimp only [putL, setL, List.set_cons_zero, List.set_cons_succ, List.nil_append, List.cons_append]
    refine wk_skip rfl rfl (fun h => by cases h) ?_
    dsimp only [putL, setL, List.set_cons_zero, List.set_cons_succ, List.nil_append, List.cons_append]
    refine wk_skip rfl rfl (fun h => by cases h) ?_
    dsimp only [putL, setL, List.set_cons_zero, List.set_cons_succ, List.nil_append, List.cons_append]
    refine wk_pick true (.bool true) rfl rfl rfl rfl rfl ?_
    dsimp only [putL, setL, List.set_cons_zero, List.set_cons_succ, List.nil_append, List.cons_append]
    refine wk_nil ?_
    refine sp_true rfl rfl ?_
    refine sp_seq rfl ?_
    refine sp_region (π := [0]) [] rfl rfl ?_
    refine wk_assign (.int .i64 4) rfl rfl rfl rfl ?_
    dsimp only [putL, setL, List.set_cons_zero, List.set_cons_succ, List.nil_append, List.cons_append]
    refine wk_nil ?_
    refine sp_ret rfl ?_
    exact ret_tmps (v := .int .i64 (wrongI (modW 1) xs)) (fun w' => by rw [wrongI_len (by omega)]; kernel_rfl) fun w' hw => ⟨rfl, hw.below⟩
  · skip
    refine wk_iop (.bool false) rfl rfl rfl rfl rfl rfl (iop_eql_f hc1) ?_
    dsimp only [putL, setL, List.set_cons_zero, List.set_cons_succ, List.nil_append, List.cons_append]
    refine wk_move (.bool false) rfl rfl rfl rfl ?_
    dsimp only [putL, setL, List.set_cons_zero, List.set_cons_succ, List.nil_append, List.cons_append]
    refine wk_move (.slice a xs.length c) rfl rfl rfl rfl ?_
    dsimp only [putL, setL, List.set_cons_zero, List.set_cons_succ, List.nil_append, List.cons_append]
    refine wk_lenA rfl rfl rfl rfl Try.underlying57 ?_
    dsimp only [putL, setL, List.set_cons_zero, List.set_cons_succ, List.nil_append, List.cons_append]
    by_cases hc2 : 64 < ((xs.length : Nat) : Int)
    · skip
      refine wk_iop (.bool true) rfl rfl rfl rfl rfl rfl (iop_gtr_t hc2) ?_
      dsimp only [putL, setL, List.set_cons_zero, List.set_cons_succ, List.nil_append, List.cons_append]
      refine wk_pick false (.bool true) rfl rfl rfl rfl rfl ?_
      dsimp only [putL, setL, List.set_cons_zero, List.set_cons_succ, List.nil_append, List.cons_append]
      refine wk_nil ?_
      refine sp_true rfl rfl ?_
      refine sp_seq rfl ?_
      refine sp_region (π := [0]) [] rfl rfl ?_
      refine wk_assign (.int .i64 4) rfl rfl rfl rfl ?_
      dsimp only [putL, setL, List.set_cons_zero, List.set_cons_succ, List.nil_append, List.cons_append]
      refine wk_nil ?_
      refine sp_ret rfl ?_
      exact ret_tmps (v := .int .i64 (wrongI (modW 1) xs)) (fun w' => by rw [wrongI_len (by omega)]; kernel_rfl) fun w' hw => ⟨rfl, hw.below⟩
    · skip
      refine wk_iop (.bool false) rfl rfl rfl rfl rfl rfl (iop_gtr_f hc2) ?_
      dsimp only [putL, setL, List.set_cons_zero, List.set_cons_succ, List.nil_append, List.cons_append]
      refine wk_pick false (.bool false) rfl rfl rfl rfl rfl ?_
      dsimp only [putL, setL, List.set_cons_zero, List.set_cons_succ, List.nil_append, List.cons_append]
      refine wk_nil ?_
      refine sp_false rfl rfl ?_
      refine sp_skip rfl ?_
      refine sp_seq rfl ?_
      refine sp_seq rfl ?_
      refine sp_region (π := [0, 1, 2]) [] rfl rfl ?_
      refine wk_move (.slice a xs.length c) rfl rfl rfl rfl ?_
      dsimp only [putL, setL, List.set_cons_zero, List.set_cons_succ, List.nil_append, List.cons_append]
      refine wk_lenA rfl rfl rfl rfl Try.underlying57 ?_
      dsimp only [putL, setL, List.set_cons_zero, List.set_cons_succ, List.nil_append, List.cons_append]
      refine wk_move (.int .i64 0) rfl rfl rfl rfl ?_
      dsimp only [putL, setL, List.set_cons_zero, List.set_cons_succ, List.nil_append, List.cons_append]
      refine wk_nil ?_
      refine sp_block rfl ?_
      refine sp_loopg rfl (fun n l M => ∃ i : Nat, ∃ d2 : Value, ∃ d3 : Value, ∃ d4 : Value, ∃ d6 : Value, ∃ d18 : Value, ∃ d19 : Value, ∃ d20 : Value, ∃ d21 : Value, ∃ d22 : Value, ∃ d23 : Value, ∃ d24 : Value, ∃ d25 : Value, ∃ d26 : Value, ∃ d27 : Value, ∃ d28 : Value, ∃ d29 : Value, ∃ d30 : Value, ∃ d31 : Value, ∃ d32 : Value, ∃ d33 : Value, ∃ d34 : Value, ∃ d35 : Value, ∃ d36 : Value, l = [(.slice a xs.length c), undef, d2, d3, d4, undef, d6, (.slice a xs.length c), (.int .i64 ((xs.length : Nat) : Int)), (.bool false), (.bool false), (.slice a xs.length c), (.int .i64 ((xs.length : Nat) : Int)), (.bool false), (.bool false), (.slice a xs.length c), (.int .i64 ((xs.length : Nat) : Int)), (.int .i64 (i : Int)), d18, d19, d20, d21, d22, d23, d24, d25, d26, d27, d28, d29, d30, d31, d32, d33, d34, d35, d36] ∧ M = [] ∧ (i ≤ xs.length) ∧ (Unlike (modW 1) xs i) ∧ n = xs.length - i) (xs.length - 0) ?_ ?_
      · exact ⟨0, (.int .i64 0), undef, undef, undef, undef, undef, undef, undef, undef, undef, undef, undef, undef, undef, undef, undef, undef, undef, undef, undef, undef, undef, undef, rfl, rfl, (Nat.zero_le _), (unlike_zero _ _), rfl⟩
      · skip
        rintro n l M ⟨i, d2, d3, d4, d6, d18, d19, d20, d21, d22, d23, d24, d25, d26, d27, d28, d29, d30, d31, d32, d33, d34, d35, d36, rfl, rfl, hf0, hf1, rfl⟩
        refine sp_seq rfl ?_
        refine sp_region (π := [0]) [] rfl rfl ?_
        by_cases hc3 : (i : Int) < ((xs.length : Nat) : Int)
        · skip
          refine wk_iop (.bool true) rfl rfl rfl rfl rfl rfl (iop_lss_t hc3) ?_
          dsimp only [putL, setL, List.set_cons_zero, List.set_cons_succ, List.nil_append, List.cons_append]
          refine wk_nil ?_
          refine sp_seq rfl ?_
          refine sp_true rfl rfl ?_
          refine sp_skip rfl ?_
          refine sp_seq rfl ?_
          refine sp_block rfl ?_
          refine sp_seq rfl ?_
          refine sp_region (π := [0, 1, 2, 3, 4, 5]) [] rfl rfl ?_
          refine wk_move (.int .i64 (i : Int)) rfl rfl rfl rfl ?_
          dsimp only [putL, setL, List.set_cons_zero, List.set_cons_succ, List.nil_append, List.cons_append]
          obtain ⟨β4, o4, ha4, hr4⟩ := hH.at_ (rowL_ne (k := i) (by omega))
          refine wk_idxA i 4 rfl rfl rfl rfl ha4 rfl Try.underlying57 (by kernel_rfl) rfl (by omega) ?_
          dsimp only [putL, setL, List.set_cons_zero, List.set_cons_succ, List.nil_append, List.cons_append]
          refine wk_ldA rfl rfl rfl rfl (fun M' w' hm hst => old_range hr4 (rowL_ne (k := i) (by omega)) hst) (by omega) ?_
          dsimp only [putL, setL, List.set_cons_zero, List.set_cons_succ, List.nil_append, List.cons_append]
          refine wk_newN rfl rfl fun β5 => ?_
          dsimp only [putL, setL, List.set_cons_zero, List.set_cons_succ, List.nil_append, List.cons_append]
          refine wk_assign (.int .i64 (i : Int)) rfl rfl rfl rfl ?_
          dsimp only [putL, setL, List.set_cons_zero, List.set_cons_succ, List.nil_append, List.cons_append]
          refine wk_stN 0 (ix xs i) rfl rfl rfl rfl rfl rfl ?_
          dsimp only [putL, setL, List.set_cons_zero, List.set_cons_succ, List.nil_append, List.cons_append]
          refine wk_nil ?_
          refine sp_seq rfl ?_
          refine sp_region (π := [0, 1, 2, 3, 4]) [] rfl rfl ?_
          refine wk_move (.slice a xs.length c) rfl rfl rfl rfl ?_
          dsimp only [putL, setL, List.set_cons_zero, List.set_cons_succ, List.nil_append, List.cons_append]
          refine wk_move (.int .i64 (i : Int)) rfl rfl rfl rfl ?_
          dsimp only [putL, setL, List.set_cons_zero, List.set_cons_succ, List.nil_append, List.cons_append]
          refine wk_sliceHi i rfl rfl rfl rfl rfl Try.underlying57 (by kernel_rfl) rfl (by omega) ?_
          dsimp only [putL, setL, List.set_cons_zero, List.set_cons_succ, List.nil_append, List.cons_append]
          refine wk_lenA rfl rfl rfl rfl Try.underlying57 ?_
          dsimp only [putL, setL, List.set_cons_zero, List.set_cons_succ, List.nil_append, List.cons_append]
          refine wk_move (.int .i64 0) rfl rfl rfl rfl ?_
          dsimp only [putL, setL, List.set_cons_zero, List.set_cons_succ, List.nil_append, List.cons_append]
          refine wk_nil ?_
          refine sp_block rfl ?_
          refine sp_loopg rfl (fun n l M => ∃ k : Nat, ∃ d2 : Value, ∃ d6 : Value, ∃ d27 : Value, ∃ d28 : Value, ∃ d29 : Value, ∃ d30 : Value, ∃ d31 : Value, ∃ d32 : Value, ∃ d33 : Value, ∃ d34 : Value, ∃ d35 : Value, l = [(.slice a xs.length c), undef, d2, (.int .i64 (i : Int)), (.pointer (some ⟨β5, 0, none⟩)), undef, d6, (.slice a xs.length c), (.int .i64 ((xs.length : Nat) : Int)), (.bool false), (.bool false), (.slice a xs.length c), (.int .i64 ((xs.length : Nat) : Int)), (.bool false), (.bool false), (.slice a xs.length c), (.int .i64 ((xs.length : Nat) : Int)), (.int .i64 (i : Int)), (.bool true), (.int .i64 (i : Int)), (.pointer (some ⟨β4, o4 + i * 4, none⟩)), (numV (ix xs i)), (.slice a xs.length c), (.int .i64 (i : Int)), (.slice a i c), (.int .i64 ((i : Nat) : Int)), (.int .i64 (k : Int)), d27, d28, d29, d30, d31, d32, d33, d34, d35, d36] ∧ M = [(β5, numO (ix xs i))] ∧ (k ≤ i) ∧ (∀ k', k' < k → subM (modW 1) (ix xs i) (ix xs k') ≠ 0) ∧ n = i - k) (i - 0) ?_ ?_
          · exact ⟨0, d2, d6, d27, d28, d29, d30, d31, d32, d33, d34, d35, rfl, rfl, (Nat.zero_le _), (fun k' hk' => by omega), rfl⟩
          · skip
            rintro n l M ⟨k, d2, d6, d27, d28, d29, d30, d31, d32, d33, d34, d35, rfl, rfl, hg0, hg1, rfl⟩
            refine sp_seq rfl ?_
            refine sp_region (π := [0]) [] rfl rfl ?_
            by_cases hc6 : (k : Int) < ((i : Nat) : Int)
            · skip
              refine wk_iop (.bool true) rfl rfl rfl rfl rfl rfl (iop_lss_t hc6) ?_
              dsimp only [putL, setL, List.set_cons_zero, List.set_cons_succ, List.nil_append, List.cons_append]
              refine wk_nil ?_
              refine sp_seq rfl ?_
              refine sp_true rfl rfl ?_
              refine sp_skip rfl ?_
              refine sp_seq rfl ?_
              refine sp_block rfl ?_
              refine sp_seq rfl ?_
              refine sp_region (π := [0, 1, 2, 3]) [] rfl rfl ?_
              refine wk_idxA k 4 rfl rfl rfl rfl ha4 rfl Try.underlying57 (by kernel_rfl) rfl (by omega) ?_
              dsimp only [putL, setL, List.set_cons_zero, List.set_cons_succ, List.nil_append, List.cons_append]
              refine wk_ldA rfl rfl rfl rfl (fun M' w' hm hst => old_range hr4 (rowL_ne (k := k) (by omega)) hst) (by omega) ?_
              dsimp only [putL, setL, List.set_cons_zero, List.set_cons_succ, List.nil_append, List.cons_append]
              refine wk_newN rfl rfl fun β7 => ?_
              dsimp only [putL, setL, List.set_cons_zero, List.set_cons_succ, List.nil_append, List.cons_append]
              refine wk_stN 1 (ix xs k) rfl rfl rfl rfl rfl rfl ?_
              dsimp only [putL, setL, List.set_cons_zero, List.set_cons_succ, List.nil_append, List.cons_append]
              refine wk_nil ?_
              refine sp_seq rfl ?_
              refine sp_region (π := [0, 1, 2, 3, 4]) [] rfl rfl ?_
              refine wk_ldN 0 rfl rfl rfl rfl rfl ?_
              dsimp only [putL, setL, List.set_cons_zero, List.set_cons_succ, List.nil_append, List.cons_append]
              refine wk_ldN 1 rfl rfl rfl rfl rfl ?_
              dsimp only [putL, setL, List.set_cons_zero, List.set_cons_succ, List.nil_append, List.cons_append]
              refine wk_call [(numV (ix xs i)), (numV (ix xs k))] (numV (subM (modW 1) (ix xs i) (ix xs k))) rfl rfl rfl (enters_of Try.func82 (by kernel_rfl) (by kernel_rfl)) rfl (psub_calls (ix xs i) (ix xs k) (ix_lt hxs) (ix_lt hxs)) ?_
              dsimp only [putL, setL, List.set_cons_zero, List.set_cons_succ, List.nil_append, List.cons_append]
              refine wk_val (numV 0) rfl rfl rfl (fun w => by kernel_rfl) ?_
              dsimp only [putL, setL, List.set_cons_zero, List.set_cons_succ, List.nil_append, List.cons_append]
              by_cases hc8 : (subM (modW 1) (ix xs i) (ix xs k)) = 0
              · skip
                refine wk_eqN true rfl rfl rfl rfl rfl (Nat.lt_trans (Nat.mod_lt _ (modW_pos ok1)) (modW_lt 1)) (by decide) (decide_eq_true hc8) ?_
                dsimp only [putL, setL, List.set_cons_zero, List.set_cons_succ, List.nil_append, List.cons_append]
                refine wk_nil ?_
                refine sp_true rfl rfl ?_
                refine sp_seq rfl ?_
                refine sp_region (π := [0]) [] rfl rfl ?_
                refine wk_assign (.int .i64 6) rfl rfl rfl rfl ?_
                dsimp only [putL, setL, List.set_cons_zero, List.set_cons_succ, List.nil_append, List.cons_append]
                refine wk_nil ?_
                refine sp_ret rfl ?_
                exact ret_tmps (v := .int .i64 (wrongI (modW 1) xs)) (fun w' => by rw [wrongI_no (by omega) (fun hu => hu i (by omega) k (by omega) hc8)]; kernel_rfl) fun w' hw => ⟨rfl, hw.below⟩
              · skip
                refine wk_eqN false rfl rfl rfl rfl rfl (Nat.lt_trans (Nat.mod_lt _ (modW_pos ok1)) (modW_lt 1)) (by decide) (decide_eq_false hc8) ?_
                dsimp only [putL, setL, List.set_cons_zero, List.set_cons_succ, List.nil_append, List.cons_append]
                refine wk_nil ?_
                refine sp_false rfl rfl ?_
                refine sp_skip rfl ?_
                refine sp_region (π := [0, 1]) [] rfl rfl ?_
                refine wk_iop (.int .i64 ((k : Int) + 1)) rfl rfl rfl rfl rfl rfl (iop_add (by omega) (by omega)) ?_
                dsimp only [putL, setL, List.set_cons_zero, List.set_cons_succ, List.nil_append, List.cons_append]
                refine wk_move (.int .i64 ((k : Int) + 1)) rfl rfl rfl rfl ?_
                dsimp only [putL, setL, List.set_cons_zero, List.set_cons_succ, List.nil_append, List.cons_append]
                refine wk_nil ?_
                exact ⟨[(β5, numO (ix xs i))], _, by exact List.Sublist.cons_cons _ <| List.Sublist.cons _ <| List.Sublist.slnil, ⟨(k + 1), d2, (.pointer (some ⟨β7, 0, none⟩)), (.bool true), (.pointer (some ⟨β4, o4 + k * 4, none⟩)), (numV (ix xs k)), (numV (ix xs i)), (numV (ix xs k)), (numV (subM (modW 1) (ix xs i) (ix xs k))), (numV 0), (.bool false), (.int .i64 ((k : Int) + 1)), rfl, rfl, (by omega), (all_succ hg1 hc8), rfl⟩, (by omega)⟩
            · skip
              refine wk_iop (.bool false) rfl rfl rfl rfl rfl rfl (iop_lss_f hc6) ?_
              dsimp only [putL, setL, List.set_cons_zero, List.set_cons_succ, List.nil_append, List.cons_append]
              refine wk_nil ?_
              refine sp_seq rfl ?_
              refine sp_false rfl rfl ?_
              refine sp_exit rfl ?_
              refine sp_region (π := [0, 1]) [] rfl rfl ?_
              refine wk_iop (.int .i64 ((i : Int) + 1)) rfl rfl rfl rfl rfl rfl (iop_add (by omega) (by omega)) ?_
              dsimp only [putL, setL, List.set_cons_zero, List.set_cons_succ, List.nil_append, List.cons_append]
              refine wk_move (.int .i64 ((i : Int) + 1)) rfl rfl rfl rfl ?_
              dsimp only [putL, setL, List.set_cons_zero, List.set_cons_succ, List.nil_append, List.cons_append]
              refine wk_nil ?_
              exact ⟨[], _, by exact List.Sublist.cons _ <| List.Sublist.slnil, ⟨(i + 1), d2, (.int .i64 (i : Int)), (.pointer (some ⟨β5, 0, none⟩)), d6, (.bool true), (.int .i64 (i : Int)), (.pointer (some ⟨β4, o4 + i * 4, none⟩)), (numV (ix xs i)), (.slice a xs.length c), (.int .i64 (i : Int)), (.slice a i c), (.int .i64 ((i : Nat) : Int)), (.int .i64 (k : Int)), (.bool false), d28, d29, d30, d31, d32, d33, d34, d35, (.int .i64 ((i : Int) + 1)), rfl, rfl, (by omega), (unlike_succ hf1 (fun k' hk' => hg1 k' (by omega))), rfl⟩, (by omega)⟩
        · skip
          refine wk_iop (.bool false) rfl rfl rfl rfl rfl rfl (iop_lss_f hc3) ?_
          dsimp only [putL, setL, List.set_cons_zero, List.set_cons_succ, List.nil_append, List.cons_append]
          refine wk_nil ?_
          refine sp_seq rfl ?_
          refine sp_false rfl rfl ?_
          refine sp_exit rfl ?_
          refine sp_seq rfl ?_
          refine sp_region (π := [0]) [] rfl rfl ?_
          refine wk_assign (.int .i64 0) rfl rfl rfl rfl ?_
          dsimp only [putL, setL, List.set_cons_zero, List.set_cons_succ, List.nil_append, List.cons_append]
          refine wk_nil ?_
          refine sp_ret rfl ?_
          exact ret_tmps (v := .int .i64 (wrongI (modW 1) xs)) (fun w' => by rw [wrongI_ok (by omega) (by rw [show xs.length = i by omega]; exact hf1)]; kernel_rfl) fun w' hw => ⟨rfl, hw.below⟩

end Go.Proofs.Ytmecomgifmkkfaa
