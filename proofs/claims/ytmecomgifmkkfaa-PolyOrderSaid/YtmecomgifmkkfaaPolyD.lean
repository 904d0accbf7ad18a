/- Weights: how much each place's worth counts at 0, in poly: what the call answers. -/
import Derived.Test.YtmecomgifmkkfaaPolyC
namespace Go.Proofs.Ytmecomgifmkkfaa
set_option linter.unusedVariables false
set_option linter.unusedSimpArgs false
open Go.RowKit

/-- The product of all places but the i-th, up to the k-th. -/
def overL (m : Nat) (xs : List Nat) (i : Nat) : Nat → Nat
  | 0 => 1
  | k + 1 => if k = i then overL m xs i k else overL m xs i k * ix xs k % m
/-- The product of all differences of places from the i-th one. -/
def underL (m : Nat) (xs : List Nat) (i : Nat) : Nat → Nat
  | 0 => 1
  | k + 1 => if k = i then underL m xs i k else underL m xs i k * subM m (ix xs k) (ix xs i) % m
def weightAt (m : Nat) (xs : List Nat) (i : Nat) : Nat := overL m xs i xs.length * (underL m xs i xs.length ^ (m - 2) % m) % m
def weightsTo (m : Nat) (xs : List Nat) : Nat → List Nat
  | 0 => []
  | i + 1 => weightsTo m xs i ++ [weightAt m xs i]
theorem weightsTo_len (m : Nat) (xs : List Nat) : ∀ i, (weightsTo m xs i).length = i
  | 0 => rfl
  | i + 1 => by rw [weightsTo, List.length_append, weightsTo_len m xs i]; rfl
theorem overL_lt {m : Nat} (hm : 2 < m) (hW : m < W256) (xs : List Nat) (i : Nat) : ∀ k, overL m xs i k < W256
  | 0 => by show 1 < W256; decide
  | k + 1 => by
    unfold overL
    split
    · exact overL_lt hm hW xs i k
    · exact Nat.lt_trans (Nat.mod_lt _ (by omega)) hW
theorem underL_lt {m : Nat} (hm : 2 < m) (hW : m < W256) (xs : List Nat) (i : Nat) : ∀ k, underL m xs i k < W256
  | 0 => by show 1 < W256; decide
  | k + 1 => by
    unfold underL
    split
    · exact underL_lt hm hW xs i k
    · exact Nat.lt_trans (Nat.mod_lt _ (by omega)) hW
theorem weights_row (m : Nat) (xs : List Nat) (i : Nat) : rowL (weightsTo m xs (i + 1)) = rowL (weightsTo m xs i) ++ rowL [weightAt m xs i] := by rw [weightsTo, rowL_append]

set_option maxRecDepth 20000 in
set_option maxHeartbeats 400000 in
theorem weights_ok (xs : List Nat) (a : Option Addr) (c : Nat) (hxs : ∀ y ∈ xs, y < W256) (hn : xs.length ≤ 1099511627776) (hc : xs.length ≤ c) (hw0 : wrongI (modW 1) xs = 0) (w : World) (hH : Holds w a (rowL xs)) : Calls Try.prog 60 #[.slice a xs.length c] w (NewS 24 4 (fun v => .tuple #[v, .int .i64 0]) xs.length (rowL (weightsTo (modW 1) xs xs.length)) w) := by
  refine fn_calls (l0 := [(.slice a xs.length c), undef, undef, undef, undef, undef, undef, undef, undef, undef, undef, undef, undef, undef, undef, undef, undef, undef, undef, undef, undef, undef, undef, undef, undef, undef, undef, undef, undef, undef, undef, undef, undef, undef, undef, undef, undef, undef, undef, undef, undef, undef, undef, undef, undef, undef, undef, undef, undef, undef, undef, undef, undef]) Try.func60 rfl rfl [] (St.start w) ?_
  refine sp_seq rfl ?_
  refine sp_region (π := [0, 1]) [] rfl rfl ?_
  refine wk_assign (.slice none 0 0) rfl rfl rfl rfl ?_
  dsimp only [putL, setL, List.set_cons_zero, List.set_cons_succ, List.nil_append, List.cons_append]
  refine wk_assign (.int .i64 0) rfl rfl rfl rfl ?_
  dsimp only [putL, setL, List.set_cons_zero, List.set_cons_succ, List.nil_append, List.cons_append]
  refine wk_nil ?_
  refine sp_seq rfl ?_
  refine sp_region (π := [0, 1, 2]) [] rfl rfl ?_
  refine wk_move (.slice a xs.length c) rfl rfl rfl rfl ?_
  dsimp only [putL, setL, List.set_cons_zero, List.set_cons_succ, List.nil_append, List.cons_append]
  refine wk_callW [(.slice a xs.length c)] (.int .i64 (wrongI (modW 1) xs)) rfl rfl rfl (enters_of Try.func81 (by kernel_rfl) (by kernel_rfl)) rfl (fun M' w' hm hst => wrong_calls xs a c hxs (by omega) hc w' (hH.old hst)) ?_
  dsimp only [putL, setL, List.set_cons_zero, List.set_cons_succ, List.nil_append, List.cons_append]
  refine wk_assign (.int .i64 (wrongI (modW 1) xs)) rfl rfl rfl rfl ?_
  dsimp only [putL, setL, List.set_cons_zero, List.set_cons_succ, List.nil_append, List.cons_append]
  refine wk_nil ?_
  refine sp_seq rfl ?_
  refine sp_seq rfl ?_
  refine sp_region (π := [0, 1]) [] rfl rfl ?_
  refine wk_move (.int .i64 (wrongI (modW 1) xs)) rfl rfl rfl rfl ?_
  dsimp only [putL, setL, List.set_cons_zero, List.set_cons_succ, List.nil_append, List.cons_append]
  refine wk_iop (.bool false) rfl rfl rfl rfl rfl rfl (iop_neq_f hw0) ?_
  dsimp only [putL, setL, List.set_cons_zero, List.set_cons_succ, List.nil_append, List.cons_append]
  refine wk_nil ?_
  refine sp_false rfl rfl ?_
  refine sp_skip rfl ?_
  refine sp_seq rfl ?_
  refine sp_region (π := [0]) [] rfl rfl ?_
  refine wk_assign (.slice none 0 0) rfl rfl rfl rfl ?_
  dsimp only [putL, setL, List.set_cons_zero, List.set_cons_succ, List.nil_append, List.cons_append]
  refine wk_nil ?_
  refine sp_seq rfl ?_
  refine sp_seq rfl ?_
  refine sp_region (π := [0, 1, 2]) [] rfl rfl ?_
  refine wk_move (.slice a xs.length c) rfl rfl rfl rfl ?_
  dsimp only [putL, setL, List.set_cons_zero, List.set_cons_succ, List.nil_append, List.cons_append]
  refine wk_lenA rfl rfl rfl rfl Try.underlying57 ?_
  dsimp only [putL, setL, List.set_cons_zero, List.set_cons_succ, List.nil_append, List.cons_append]
  refine wk_move (.int .i64 0) rfl rfl rfl rfl ?_
  dsimp only [putL, setL, List.set_cons_zero, List.set_cons_succ, List.nil_append, List.cons_append]
  refine wk_nil ?_
  refine sp_block rfl ?_
  refine sp_loopg rfl (fun n l M => ∃ i : Nat, ∃ v : Value, ∃ S : Mem, ∃ d6 : Value, ∃ d7 : Value, ∃ d8 : Value, ∃ d9 : Value, ∃ d10 : Value, ∃ d11 : Value, ∃ d20 : Value, ∃ d21 : Value, ∃ d22 : Value, ∃ d23 : Value, ∃ d24 : Value, ∃ d25 : Value, ∃ d26 : Value, ∃ d27 : Value, ∃ d28 : Value, ∃ d29 : Value, ∃ d30 : Value, ∃ d31 : Value, ∃ d32 : Value, ∃ d33 : Value, ∃ d34 : Value, ∃ d35 : Value, ∃ d36 : Value, ∃ d37 : Value, ∃ d38 : Value, ∃ d39 : Value, ∃ d40 : Value, ∃ d41 : Value, ∃ d42 : Value, ∃ d43 : Value, ∃ d44 : Value, ∃ d45 : Value, ∃ d46 : Value, ∃ d47 : Value, ∃ d48 : Value, ∃ d49 : Value, ∃ d50 : Value, ∃ d51 : Value, l = [(.slice a xs.length c), undef, (.slice none 0 0), (.int .i64 0), (.int .i64 (wrongI (modW 1) xs)), v, d6, d7, d8, d9, d10, d11, (.slice a xs.length c), (.int .i64 (wrongI (modW 1) xs)), (.int .i64 (wrongI (modW 1) xs)), (.bool false), undef, (.slice a xs.length c), (.int .i64 ((xs.length : Nat) : Int)), (.int .i64 (i : Int)), d20, d21, d22, d23, d24, d25, d26, d27, d28, d29, d30, d31, d32, d33, d34, d35, d36, d37, d38, d39, d40, d41, d42, d43, d44, d45, d46, d47, d48, d49, d50, d51, undef] ∧ S = M ∧ (i ≤ xs.length) ∧ (OwnS 24 4 v i (rowL (weightsTo (modW 1) xs i)) S) ∧ n = xs.length - i) (xs.length - 0) ?_ ?_
  · exact ⟨0, (.slice none 0 0), [], undef, undef, undef, undef, undef, undef, undef, undef, undef, undef, undef, undef, undef, undef, undef, undef, undef, undef, undef, undef, undef, undef, undef, undef, undef, undef, undef, undef, undef, undef, undef, undef, undef, undef, undef, undef, undef, undef, rfl, rfl, (Nat.zero_le _), (OwnS.nil _ _), rfl⟩
  · skip
    rintro n l M ⟨i, v, S, d6, d7, d8, d9, d10, d11, d20, d21, d22, d23, d24, d25, d26, d27, d28, d29, d30, d31, d32, d33, d34, d35, d36, d37, d38, d39, d40, d41, d42, d43, d44, d45, d46, d47, d48, d49, d50, d51, rfl, rfl, hf0, hf1, rfl⟩
    refine sp_seq rfl ?_
    refine sp_region (π := [0]) [] rfl rfl ?_
    by_cases hc1 : (i : Int) < ((xs.length : Nat) : Int)
    · skip
      refine wk_iop (.bool true) rfl rfl rfl rfl rfl rfl (iop_lss_t hc1) ?_
      dsimp only [putL, setL, List.set_cons_zero, List.set_cons_succ, List.nil_append, List.cons_append]
      refine wk_nil ?_
      refine sp_seq rfl ?_
      refine sp_true rfl rfl ?_
      refine sp_skip rfl ?_
      refine sp_seq rfl ?_
      refine sp_block rfl ?_
      refine sp_seq rfl ?_
      refine sp_region (π := [0, 1, 2, 3, 4, 5]) [] rfl rfl ?_
      refine wk_move (.int .i64 (i : Int)) rfl rfl rfl rfl ?_
      dsimp only [putL, setL, List.set_cons_zero, List.set_cons_succ, List.nil_append, List.cons_append]
      obtain ⟨β2, o2, ha2, hr2⟩ := hH.at_ (rowL_ne (k := i) (by omega))
      refine wk_idxA i 4 rfl rfl rfl rfl ha2 rfl Try.underlying57 (by kernel_rfl) rfl (by omega) ?_
      dsimp only [putL, setL, List.set_cons_zero, List.set_cons_succ, List.nil_append, List.cons_append]
      refine wk_ldA rfl rfl rfl rfl (fun M' w' hm hst => old_range hr2 (rowL_ne (k := i) (by omega)) hst) (by omega) ?_
      dsimp only [putL, setL, List.set_cons_zero, List.set_cons_succ, List.nil_append, List.cons_append]
      refine wkf_newN rfl rfl fun β3 => ?_
      dsimp only [putL, setL, List.set_cons_zero, List.set_cons_succ, List.nil_append, List.cons_append]
      refine wk_assign (.int .i64 (i : Int)) rfl rfl rfl rfl ?_
      dsimp only [putL, setL, List.set_cons_zero, List.set_cons_succ, List.nil_append, List.cons_append]
      refine wk_stN 0 (ix xs i) rfl rfl rfl rfl rfl rfl ?_
      dsimp only [putL, setL, List.set_cons_zero, List.set_cons_succ, List.nil_append, List.cons_append]
      refine wk_nil ?_
      refine sp_seq rfl ?_
      refine sp_region (π := [0, 1, 2, 3, 4, 5]) [] rfl rfl ?_
      refine wk_val (numV 1) rfl rfl rfl (fun w => by kernel_rfl) ?_
      dsimp only [putL, setL, List.set_cons_zero, List.set_cons_succ, List.nil_append, List.cons_append]
      refine wk_val (numV 1) rfl rfl rfl (fun w => by kernel_rfl) ?_
      dsimp only [putL, setL, List.set_cons_zero, List.set_cons_succ, List.nil_append, List.cons_append]
      refine wkf_newN rfl rfl fun β4 => ?_
      dsimp only [putL, setL, List.set_cons_zero, List.set_cons_succ, List.nil_append, List.cons_append]
      refine wkf_newN rfl rfl fun β5 => ?_
      dsimp only [putL, setL, List.set_cons_zero, List.set_cons_succ, List.nil_append, List.cons_append]
      refine wk_stN 1 1 rfl rfl rfl rfl rfl rfl ?_
      dsimp only [putL, setL, List.set_cons_zero, List.set_cons_succ, List.nil_append, List.cons_append]
      refine wk_stN 0 1 rfl rfl rfl rfl rfl rfl ?_
      dsimp only [putL, setL, List.set_cons_zero, List.set_cons_succ, List.nil_append, List.cons_append]
      refine wk_nil ?_
      refine sp_seq rfl ?_
      refine sp_seq rfl ?_
      refine sp_region (π := [0, 1, 2]) [] rfl rfl ?_
      refine wk_move (.slice a xs.length c) rfl rfl rfl rfl ?_
      dsimp only [putL, setL, List.set_cons_zero, List.set_cons_succ, List.nil_append, List.cons_append]
      refine wk_lenA rfl rfl rfl rfl Try.underlying57 ?_
      dsimp only [putL, setL, List.set_cons_zero, List.set_cons_succ, List.nil_append, List.cons_append]
      refine wk_move (.int .i64 0) rfl rfl rfl rfl ?_
      dsimp only [putL, setL, List.set_cons_zero, List.set_cons_succ, List.nil_append, List.cons_append]
      refine wk_nil ?_
      refine sp_block rfl ?_
      refine sp_loopg rfl (fun n l M => ∃ k : Nat, ∃ y : Nat, ∃ z : Nat, ∃ d10 : Value, ∃ d11 : Value, ∃ d29 : Value, ∃ d30 : Value, ∃ d31 : Value, ∃ d32 : Value, ∃ d33 : Value, ∃ d34 : Value, ∃ d35 : Value, ∃ d36 : Value, ∃ d37 : Value, ∃ d38 : Value, ∃ d39 : Value, ∃ d40 : Value, ∃ d41 : Value, ∃ d42 : Value, ∃ d43 : Value, ∃ d44 : Value, l = [(.slice a xs.length c), undef, (.slice none 0 0), (.int .i64 0), (.int .i64 (wrongI (modW 1) xs)), v, (.int .i64 (i : Int)), (.pointer (some ⟨β3, 0, none⟩)), (.pointer (some ⟨β4, 0, none⟩)), (.pointer (some ⟨β5, 0, none⟩)), d10, d11, (.slice a xs.length c), (.int .i64 (wrongI (modW 1) xs)), (.int .i64 (wrongI (modW 1) xs)), (.bool false), undef, (.slice a xs.length c), (.int .i64 ((xs.length : Nat) : Int)), (.int .i64 (i : Int)), (.bool true), (.int .i64 (i : Int)), (.pointer (some ⟨β2, o2 + i * 4, none⟩)), (numV (ix xs i)), (numV 1), (numV 1), (.slice a xs.length c), (.int .i64 ((xs.length : Nat) : Int)), (.int .i64 (k : Int)), d29, d30, d31, d32, d33, d34, d35, d36, d37, d38, d39, d40, d41, d42, d43, d44, d45, d46, d47, d48, d49, d50, d51, undef] ∧ (β5, numO z) :: (β4, numO y) :: (β3, numO (ix xs i)) :: S = M ∧ (k ≤ xs.length) ∧ (y = overL (modW 1) xs i k) ∧ (z = underL (modW 1) xs i k) ∧ n = xs.length - k) (xs.length - 0) ?_ ?_
      · exact ⟨0, 1, 1, d10, d11, d29, d30, d31, d32, d33, d34, d35, d36, d37, d38, d39, d40, d41, d42, d43, d44, rfl, rfl, (Nat.zero_le _), rfl, rfl, rfl⟩
      · skip
        rintro n l M ⟨k, y, z, d10, d11, d29, d30, d31, d32, d33, d34, d35, d36, d37, d38, d39, d40, d41, d42, d43, d44, rfl, rfl, hg0, hg1, hg2, rfl⟩
        have hy : y < W256 := by rw [hg1]; exact overL_lt (modW_two ok1) (modW_lt 1) _ _ _
        have hz : z < W256 := by rw [hg2]; exact underL_lt (modW_two ok1) (modW_lt 1) _ _ _
        refine sp_seq rfl ?_
        refine sp_region (π := [0]) [] rfl rfl ?_
        by_cases hc6 : (k : Int) < ((xs.length : Nat) : Int)
        · skip
          refine wk_iop (.bool true) rfl rfl rfl rfl rfl rfl (iop_lss_t hc6) ?_
          dsimp only [putL, setL, List.set_cons_zero, List.set_cons_succ, List.nil_append, List.cons_append]
          refine wk_nil ?_
          refine sp_seq rfl ?_
          refine sp_true rfl rfl ?_
          refine sp_skip rfl ?_
          refine sp_seq rfl ?_
          refine sp_block rfl ?_
          refine sp_seq rfl ?_
          refine sp_region (π := [0, 1, 2, 3, 4, 5]) [] rfl rfl ?_
          refine wk_move (.int .i64 (k : Int)) rfl rfl rfl rfl ?_
          dsimp only [putL, setL, List.set_cons_zero, List.set_cons_succ, List.nil_append, List.cons_append]
          refine wk_idxA k 4 rfl rfl rfl rfl ha2 rfl Try.underlying57 (by kernel_rfl) rfl (by omega) ?_
          dsimp only [putL, setL, List.set_cons_zero, List.set_cons_succ, List.nil_append, List.cons_append]
          refine wk_ldA rfl rfl rfl rfl (fun M' w' hm hst => old_range hr2 (rowL_ne (k := k) (by omega)) hst) (by omega) ?_
          dsimp only [putL, setL, List.set_cons_zero, List.set_cons_succ, List.nil_append, List.cons_append]
          refine wkf_newN rfl rfl fun β7 => ?_
          dsimp only [putL, setL, List.set_cons_zero, List.set_cons_succ, List.nil_append, List.cons_append]
          refine wk_assign (.int .i64 (k : Int)) rfl rfl rfl rfl ?_
          dsimp only [putL, setL, List.set_cons_zero, List.set_cons_succ, List.nil_append, List.cons_append]
          refine wk_stN 0 (ix xs k) rfl rfl rfl rfl rfl rfl ?_
          dsimp only [putL, setL, List.set_cons_zero, List.set_cons_succ, List.nil_append, List.cons_append]
          refine wk_nil ?_
          refine sp_seq rfl ?_
          refine sp_region (π := [0, 1, 2]) [] rfl rfl ?_
          refine wk_move (.int .i64 (k : Int)) rfl rfl rfl rfl ?_
          dsimp only [putL, setL, List.set_cons_zero, List.set_cons_succ, List.nil_append, List.cons_append]
          refine wk_move (.int .i64 (i : Int)) rfl rfl rfl rfl ?_
          dsimp only [putL, setL, List.set_cons_zero, List.set_cons_succ, List.nil_append, List.cons_append]
          by_cases hc8 : (k : Int) = (i : Int)
          · skip
            refine wk_iop (.bool false) rfl rfl rfl rfl rfl rfl (iop_neq_f hc8) ?_
            dsimp only [putL, setL, List.set_cons_zero, List.set_cons_succ, List.nil_append, List.cons_append]
            refine wk_nil ?_
            refine sp_false rfl rfl ?_
            refine sp_skip rfl ?_
            refine sp_region (π := [0, 1]) [] rfl rfl ?_
            refine wk_iop (.int .i64 ((k : Int) + 1)) rfl rfl rfl rfl rfl rfl (iop_add (by omega) (by omega)) ?_
            dsimp only [putL, setL, List.set_cons_zero, List.set_cons_succ, List.nil_append, List.cons_append]
            refine wk_move (.int .i64 ((k : Int) + 1)) rfl rfl rfl rfl ?_
            dsimp only [putL, setL, List.set_cons_zero, List.set_cons_succ, List.nil_append, List.cons_append]
            refine wk_nil ?_
            exact ⟨(β5, numO z) :: (β4, numO y) :: (β3, numO (ix xs i)) :: S, _, by exact List.Sublist.cons _ <| List.Sublist.cons_cons _ <| List.Sublist.cons_cons _ <| List.Sublist.cons_cons _ <| List.Sublist.refl _, ⟨(k + 1), y, z, (.int .i64 (k : Int)), (.pointer (some ⟨β7, 0, none⟩)), (.bool true), (.int .i64 (k : Int)), (.pointer (some ⟨β2, o2 + k * 4, none⟩)), (numV (ix xs k)), (.int .i64 (k : Int)), (.int .i64 (i : Int)), (.bool false), d36, d37, d38, d39, d40, d41, d42, d43, (.int .i64 ((k : Int) + 1)), rfl, rfl, (by omega), (by rw [overL, if_pos (by omega)]; exact hg1), (by rw [underL, if_pos (by omega)]; exact hg2), rfl⟩, (by omega)⟩
          · skip
            refine wk_iop (.bool true) rfl rfl rfl rfl rfl rfl (iop_neq_t hc8) ?_
            dsimp only [putL, setL, List.set_cons_zero, List.set_cons_succ, List.nil_append, List.cons_append]
            refine wk_nil ?_
            refine sp_true rfl rfl ?_
            refine sp_draw [0, 1, 3, 4, 5, 2, 6, 7, 8, 9] [] mixed rfl (by kernel_rfl) (by kernel_rfl) ?_
            refine wk_ldN 2 rfl rfl rfl rfl rfl ?_
            dsimp only [putL, setL, List.set_cons_zero, List.set_cons_succ, List.nil_append, List.cons_append]
            refine wk_ldN 0 rfl rfl rfl rfl rfl ?_
            dsimp only [putL, setL, List.set_cons_zero, List.set_cons_succ, List.nil_append, List.cons_append]
            refine wk_ldN 1 rfl rfl rfl rfl rfl ?_
            dsimp only [putL, setL, List.set_cons_zero, List.set_cons_succ, List.nil_append, List.cons_append]
            refine wk_ldN 0 rfl rfl rfl rfl rfl ?_
            dsimp only [putL, setL, List.set_cons_zero, List.set_cons_succ, List.nil_append, List.cons_append]
            refine wk_ldN 3 rfl rfl rfl rfl rfl ?_
            dsimp only [putL, setL, List.set_cons_zero, List.set_cons_succ, List.nil_append, List.cons_append]
            refine wk_call [(numV y), (numV (ix xs k))] (numV (y * (ix xs k) % modW 1)) rfl rfl rfl (enters_of Try.func80 (by kernel_rfl) (by kernel_rfl)) rfl (pmul_calls y (ix xs k) hy (ix_lt hxs)) ?_
            dsimp only [putL, setL, List.set_cons_zero, List.set_cons_succ, List.nil_append, List.cons_append]
            refine wk_call [(numV (ix xs k)), (numV (ix xs i))] (numV (subM (modW 1) (ix xs k) (ix xs i))) rfl rfl rfl (enters_of Try.func82 (by kernel_rfl) (by kernel_rfl)) rfl (psub_calls (ix xs k) (ix xs i) (ix_lt hxs) (ix_lt hxs)) ?_
            dsimp only [putL, setL, List.set_cons_zero, List.set_cons_succ, List.nil_append, List.cons_append]
            refine wk_call [(numV z), (numV (subM (modW 1) (ix xs k) (ix xs i)))] (numV (z * (subM (modW 1) (ix xs k) (ix xs i)) % modW 1)) rfl rfl rfl (enters_of Try.func80 (by kernel_rfl) (by kernel_rfl)) rfl (pmul_calls z (subM (modW 1) (ix xs k) (ix xs i)) hz (Nat.lt_trans (Nat.mod_lt _ (modW_pos ok1)) (modW_lt 1))) ?_
            dsimp only [putL, setL, List.set_cons_zero, List.set_cons_succ, List.nil_append, List.cons_append]
            refine wk_stN 2 (y * (ix xs k) % modW 1) rfl rfl rfl rfl rfl rfl ?_
            dsimp only [putL, setL, List.set_cons_zero, List.set_cons_succ, List.nil_append, List.cons_append]
            refine wk_stN 1 (z * (subM (modW 1) (ix xs k) (ix xs i)) % modW 1) rfl rfl rfl rfl rfl rfl ?_
            dsimp only [putL, setL, List.set_cons_zero, List.set_cons_succ, List.nil_append, List.cons_append]
            refine wk_nil ?_
            refine sp_region (π := [0, 1]) [] rfl rfl ?_
            refine wk_iop (.int .i64 ((k : Int) + 1)) rfl rfl rfl rfl rfl rfl (iop_add (by omega) (by omega)) ?_
            dsimp only [putL, setL, List.set_cons_zero, List.set_cons_succ, List.nil_append, List.cons_append]
            refine wk_move (.int .i64 ((k : Int) + 1)) rfl rfl rfl rfl ?_
            dsimp only [putL, setL, List.set_cons_zero, List.set_cons_succ, List.nil_append, List.cons_append]
            refine wk_nil ?_
            exact ⟨(β5, numO (z * (subM (modW 1) (ix xs k) (ix xs i)) % modW 1)) :: (β4, numO (y * (ix xs k) % modW 1)) :: (β3, numO (ix xs i)) :: S, _, by exact List.Sublist.cons _ <| List.Sublist.cons_cons _ <| List.Sublist.cons_cons _ <| List.Sublist.cons_cons _ <| List.Sublist.refl _, ⟨(k + 1), (y * (ix xs k) % modW 1), (z * (subM (modW 1) (ix xs k) (ix xs i)) % modW 1), (.int .i64 (k : Int)), (.pointer (some ⟨β7, 0, none⟩)), (.bool true), (.int .i64 (k : Int)), (.pointer (some ⟨β2, o2 + k * 4, none⟩)), (numV (ix xs k)), (.int .i64 (k : Int)), (.int .i64 (i : Int)), (.bool true), (numV y), (numV (ix xs k)), (numV (y * (ix xs k) % modW 1)), (numV z), (numV (ix xs k)), (numV (ix xs i)), (numV (subM (modW 1) (ix xs k) (ix xs i))), (numV (z * (subM (modW 1) (ix xs k) (ix xs i)) % modW 1)), (.int .i64 ((k : Int) + 1)), rfl, rfl, (by omega), (by rw [overL, if_neg (by omega), hg1]), (by rw [underL, if_neg (by omega), hg2]), rfl⟩, (by omega)⟩
        · skip
          refine wk_iop (.bool false) rfl rfl rfl rfl rfl rfl (iop_lss_f hc6) ?_
          dsimp only [putL, setL, List.set_cons_zero, List.set_cons_succ, List.nil_append, List.cons_append]
          refine wk_nil ?_
          refine sp_seq rfl ?_
          refine sp_false rfl rfl ?_
          refine sp_exit rfl ?_
          refine sp_region (π := [0, 1, 2, 3, 4, 5, 6]) [] rfl rfl ?_
          refine wk_move v rfl rfl rfl rfl ?_
          dsimp only [putL, setL, List.set_cons_zero, List.set_cons_succ, List.nil_append, List.cons_append]
          refine wk_ldN 1 rfl rfl rfl rfl rfl ?_
          dsimp only [putL, setL, List.set_cons_zero, List.set_cons_succ, List.nil_append, List.cons_append]
          refine wk_ldN 0 rfl rfl rfl rfl rfl ?_
          dsimp only [putL, setL, List.set_cons_zero, List.set_cons_succ, List.nil_append, List.cons_append]
          refine wk_call [(numV y), (numV z)] (numV (y * (z ^ (modW 1 - 2) % modW 1) % modW 1)) rfl rfl rfl (enters_of Try.func83 (by kernel_rfl) (by kernel_rfl)) rfl (pdiv_calls y z hy hz) ?_
          dsimp only [putL, setL, List.set_cons_zero, List.set_cons_succ, List.nil_append, List.cons_append]
          refine wkf_make (z := rowO [(y * (z ^ (modW 1 - 2) % modW 1) % modW 1)]) (mk := fun β => .slice (some ⟨β, 0, none⟩) 1 1) rfl rfl (fun w => by kernel_rfl) fun β9 => ?_
          dsimp only [putL, setL, List.set_cons_zero, List.set_cons_succ, List.nil_append, List.cons_append]
          refine wk_append (news := (rowL [(y * (z ^ (modW 1 - 2) % modW 1) % modW 1)])) (F := [(β9, rowO [(y * (z ^ (modW 1 - 2) % modW 1) % modW 1)]), (β5, numO z), (β4, numO y), (β3, numO (ix xs i))]) rfl rfl rfl rfl rfl Try.underlying57 ninfo numBytes nzero rfl (by decide) hf1 (List.perm_append_comm (l₁ := [(β9, rowO [(y * (z ^ (modW 1 - 2) % modW 1) % modW 1)]), (β5, numO z), (β4, numO y), (β3, numO (ix xs i))]) (l₂ := S)) rfl (fun w' hst => row_holds (List.mem_of_getElem? (i := 0) rfl) hst) (rowL_one _) (by omega) (by omega) fun v10 S10 hO10 => ?_
          dsimp only [putL, setL, List.set_cons_zero, List.set_cons_succ, List.nil_append, List.cons_append]
          refine wk_assign v10 rfl rfl rfl rfl ?_
          dsimp only [putL, setL, List.set_cons_zero, List.set_cons_succ, List.nil_append, List.cons_append]
          refine wk_nil ?_
          refine sp_region (π := [0, 1]) [] rfl rfl ?_
          refine wk_iop (.int .i64 ((i : Int) + 1)) rfl rfl rfl rfl rfl rfl (iop_add (by omega) (by omega)) ?_
          dsimp only [putL, setL, List.set_cons_zero, List.set_cons_succ, List.nil_append, List.cons_append]
          refine wk_move (.int .i64 ((i : Int) + 1)) rfl rfl rfl rfl ?_
          dsimp only [putL, setL, List.set_cons_zero, List.set_cons_succ, List.nil_append, List.cons_append]
          refine wk_nil ?_
          exact ⟨S10, _, by exact List.Sublist.cons _ <| List.Sublist.cons _ <| List.Sublist.cons _ <| List.Sublist.cons _ <| List.Sublist.refl _, ⟨(i + 1), v10, S10, (.int .i64 (i : Int)), (.pointer (some ⟨β3, 0, none⟩)), (.pointer (some ⟨β4, 0, none⟩)), (.pointer (some ⟨β5, 0, none⟩)), d10, d11, (.bool true), (.int .i64 (i : Int)), (.pointer (some ⟨β2, o2 + i * 4, none⟩)), (numV (ix xs i)), (numV 1), (numV 1), (.slice a xs.length c), (.int .i64 ((xs.length : Nat) : Int)), (.int .i64 (k : Int)), (.bool false), d30, d31, d32, d33, d34, d35, d36, d37, d38, d39, d40, d41, d42, d43, d44, v, (numV y), (numV z), (numV (y * (z ^ (modW 1 - 2) % modW 1) % modW 1)), (.slice (some ⟨β9, 0, none⟩) 1 1), v10, (.int .i64 ((i : Int) + 1)), rfl, rfl, (by omega), (by have hkk : k = xs.length := (by omega); subst hkk; rw [weights_row, weightAt, ← hg1, ← hg2]; exact hO10), rfl⟩, (by omega)⟩
    · skip
      refine wk_iop (.bool false) rfl rfl rfl rfl rfl rfl (iop_lss_f hc1) ?_
      dsimp only [putL, setL, List.set_cons_zero, List.set_cons_succ, List.nil_append, List.cons_append]
      refine wk_nil ?_
      refine sp_seq rfl ?_
      refine sp_false rfl rfl ?_
      refine sp_exit rfl ?_
      refine sp_seq rfl ?_
      refine sp_region (π := [0, 1, 2]) [] rfl rfl ?_
      refine wk_move v rfl rfl rfl rfl ?_
      dsimp only [putL, setL, List.set_cons_zero, List.set_cons_succ, List.nil_append, List.cons_append]
      refine wk_assign v rfl rfl rfl rfl ?_
      dsimp only [putL, setL, List.set_cons_zero, List.set_cons_succ, List.nil_append, List.cons_append]
      refine wk_assign (.int .i64 0) rfl rfl rfl rfl ?_
      dsimp only [putL, setL, List.set_cons_zero, List.set_cons_succ, List.nil_append, List.cons_append]
      refine wk_nil ?_
      refine sp_ret rfl ?_
      have hii : i = xs.length := by omega
      subst hii
      exact ret_tmps (v := .tuple #[v, .int .i64 0]) (fun w' => by kernel_rfl) fun w' hw => ⟨v, S, rfl, hf1, hw.below, fun p hp => ⟨hw.own p (by simp [hp]), (hw.free p (by simp [hp])).resolve_right id⟩⟩

set_option maxRecDepth 20000 in
set_option maxHeartbeats 400000 in
theorem weights_no (xs : List Nat) (a : Option Addr) (c : Nat) (hxs : ∀ y ∈ xs, y < W256) (hn : xs.length ≤ 1099511627776) (hc : xs.length ≤ c) (hw0 : ¬ wrongI (modW 1) xs = 0) (w : World) (hH : Holds w a (rowL xs)) : Calls Try.prog 60 #[.slice a xs.length c] w (fun r w' => r = .returned (.tuple #[.slice none 0 0, .int .i64 (wrongI (modW 1) xs)]) ∧ Below w.heap.size w w') := by
  refine fn_calls (l0 := [(.slice a xs.length c), undef, undef, undef, undef, undef, undef, undef, undef, undef, undef, undef, undef, undef, undef, undef, undef, undef, undef, undef, undef, undef, undef, undef, undef, undef, undef, undef, undef, undef, undef, undef, undef, undef, undef, undef, undef, undef, undef, undef, undef, undef, undef, undef, undef, undef, undef, undef, undef, undef, undef, undef, undef]) Try.func60 rfl rfl [] (St.start w) ?_
  refine sp_seq rfl ?_
  refine sp_region (π := [0, 1]) [] rfl rfl ?_
  refine wk_assign (.slice none 0 0) rfl rfl rfl rfl ?_
  dsimp only [putL, setL, List.set_cons_zero, List.set_cons_succ, List.nil_append, List.cons_append]
  refine wk_assign (.int .i64 0) rfl rfl rfl rfl ?_
  dsimp only [putL, setL, List.set_cons_zero, List.set_cons_succ, List.nil_append, List.cons_append]
  refine wk_nil ?_
  refine sp_seq rfl ?_
  refine sp_region (π := [0, 1, 2]) [] rfl rfl ?_
  refine wk_move (.slice a xs.length c) rfl rfl rfl rfl ?_
  dsimp only [putL, setL, List.set_cons_zero, List.set_cons_succ, List.nil_append, List.cons_append]
  refine wk_callW [(.slice a xs.length c)] (.int .i64 (wrongI (modW 1) xs)) rfl rfl rfl (enters_of Try.func81 (by kernel_rfl) (by kernel_rfl)) rfl (fun M' w' hm hst => wrong_calls xs a c hxs (by omega) hc w' (hH.old hst)) ?_
  dsimp only [putL, setL, List.set_cons_zero, List.set_cons_succ, List.nil_append, List.cons_append]
  refine wk_assign (.int .i64 (wrongI (modW 1) xs)) rfl rfl rfl rfl ?_
  dsimp only [putL, setL, List.set_cons_zero, List.set_cons_succ, List.nil_append, List.cons_append]
  refine wk_nil ?_
  refine sp_seq rfl ?_
  refine sp_seq rfl ?_
  refine sp_region (π := [0, 1]) [] rfl rfl ?_
  refine wk_move (.int .i64 (wrongI (modW 1) xs)) rfl rfl rfl rfl ?_
  dsimp only [putL, setL, List.set_cons_zero, List.set_cons_succ, List.nil_append, List.cons_append]
  refine wk_iop (.bool true) rfl rfl rfl rfl rfl rfl (iop_neq_t hw0) ?_
  dsimp only [putL, setL, List.set_cons_zero, List.set_cons_succ, List.nil_append, List.cons_append]
  refine wk_nil ?_
  refine sp_true rfl rfl ?_
  refine sp_seq rfl ?_
  refine sp_region (π := [0, 1, 2]) [] rfl rfl ?_
  refine wk_move (.int .i64 (wrongI (modW 1) xs)) rfl rfl rfl rfl ?_
  dsimp only [putL, setL, List.set_cons_zero, List.set_cons_succ, List.nil_append, List.cons_append]
  refine wk_assign (.slice none 0 0) rfl rfl rfl rfl ?_
  dsimp only [putL, setL, List.set_cons_zero, List.set_cons_succ, List.nil_append, List.cons_append]
  refine wk_assign (.int .i64 (wrongI (modW 1) xs)) rfl rfl rfl rfl ?_
  dsimp only [putL, setL, List.set_cons_zero, List.set_cons_succ, List.nil_append, List.cons_append]
  refine wk_nil ?_
  refine sp_ret rfl ?_
  exact ret_tmps (v := .tuple #[.slice none 0 0, .int .i64 (wrongI (modW 1) xs)]) (fun w' => by kernel_rfl) fun w' hw => ⟨rfl, hw.below⟩

end Go.Proofs.Ytmecomgifmkkfaa
