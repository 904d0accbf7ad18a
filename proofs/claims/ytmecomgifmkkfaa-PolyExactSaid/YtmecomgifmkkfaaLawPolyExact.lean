/- PolyExact: what any polynomial is worth anywhere, weights, what shares tell at 0, the polynomial through them, are the page's; for every input, no condition. -/
import Derived.Test.YtmecomgifmkkfaaPolyK
import Derived.Test.YtmecomgifmkkfaaOpenS
import Derived.Test.YtmecomgifmkkfaaSymB
import Derived.Test.YtmecomgifmkkfaaFieldD
import Derived.Test.YtmecomgifmkkfaaRefB
import Derived.Test.YtmecomgifmkkfaaLimbM
import Derived.Test.YtmecomgifmkkfaaLimbG
import Derived.Test.YtmecomgifmkkfaaLimbB
import Derived.Test.YtmecomgifmkkfaaRows
import Derived.Test.YtmecomgifmkkfaaOpen
import Derived.Test.YtmecomgifmkkfaaFieldL
import Derived.ProofKit
import Derived.OpenShut
namespace Go.Proofs.Ytmecomgifmkkfaa
set_option linter.unusedVariables false
set_option linter.unusedSimpArgs false
open Go.ChangeShapes Go.WideShapes Go.ChangeAt Go.RowKit

theorem gL_xrow (f : Nat → Nat × Nat) (i : Nat) : rowL (xsS (gL f (i + 1))) = rowL (xsS (gL f i)) ++ rowL [(f i).1] := by
  rw [gL, ← rowL_append]
  unfold xsS
  rw [List.map_append]; rfl
theorem nums_same' (xs : List Nat) (nn : Nat) (a : Option Addr) (c : Nat) (hl : xs.length = nn) (hxs : ∀ y ∈ xs, y < W256) (hn : nn ≤ 1099511627776) (b : Option Addr) (mm d : Nat) (hm : mm = nn) (w : World) (hH : Holds w a (rowL xs)) (hG : Holds w b (rowL xs)) :
    Calls Try.prog 65 #[.slice a nn c, .slice b mm d] w fun r w' => r = .returned (.bool true) ∧ Below w.heap.size w w' := by
  subst hm; exact nums_same xs mm a c hl hxs hn b d w hH hG

set_option maxRecDepth 20000 in
set_option maxHeartbeats 2000000 in
theorem polyExact_walk (c : List (Nat)) (a_c : Option Addr) (c_c : Nat) (x : Nat) (ls : List (Nat × Nat)) (a_ls : Option Addr) (c_ls : Nat) (w_c : ∀ x ∈ c, x < W256) (hc_c : c.length ≤ c_c) (w_x : x < W256) (w_ls : ShBound ls) (hc_ls : ls.length ≤ c_ls) (w : World) (hH_c : Holds w a_c (rowL c)) (hH_ls : Holds w a_ls (shL ls)) :
    Calls Try.prog 21 #[.slice a_c c.length c_c, numV x, .slice a_ls ls.length c_ls] w fun e w' => e = .returned (.bool true) ∧ Below w.heap.size w w' := by
  refine fn_calls (l0 := [(.slice a_c c.length c_c), (numV x), (.slice a_ls ls.length c_ls), undef, undef, undef, undef, undef, undef, undef, undef, undef, undef, undef, undef, undef, undef, undef, undef, undef, undef, undef, undef, undef, undef, undef, undef, undef, undef, undef, undef, undef, undef, undef, undef, undef, undef, undef, undef, undef, undef, undef, undef, undef, undef, undef, undef, undef, undef, undef, undef, undef, undef, undef, undef, undef, undef, undef, undef, undef, undef, undef, undef, undef, undef, undef, undef, undef, undef, undef, undef, undef, undef, undef, undef, undef, undef, undef, undef, undef, undef, undef, undef, undef, undef, undef, undef, undef, undef, undef, undef, undef, undef, undef, undef, undef, undef, undef, undef, undef, undef, undef, undef, undef, undef, undef, undef, undef, undef, undef, undef, undef, undef, undef, undef, undef, undef, undef, undef, undef, undef, undef, undef, undef, undef, undef, undef, undef, undef, undef, undef, undef, undef, undef, undef, undef, undef, undef, undef, undef, undef, undef, undef, undef, undef, undef, undef, undef, undef, undef, undef, undef, undef, undef, undef, undef, undef, undef, undef, undef, undef, undef, undef, undef, undef, undef, undef, undef, undef, undef, undef]) Try.func21 rfl rfl [] (St.start w) ?_
  refine sp_seq rfl ?_
  refine sp_region (π := [0, 1]) [] rfl rfl ?_
  refine wkf_boxN x rfl rfl rfl fun β1 => ?_
  dsimp only [putL, setL, List.set_cons_zero, List.set_cons_succ, List.nil_append, List.cons_append]
  refine wk_assign (.bool false) rfl rfl rfl rfl ?_
  dsimp only [putL, setL, List.set_cons_zero, List.set_cons_succ, List.nil_append, List.cons_append]
  refine wk_nil ?_
  refine sp_seq rfl ?_
  refine sp_seq rfl ?_
  refine sp_region (π := [0, 1, 2, 3, 4, 5, 6, 7]) [] rfl rfl ?_
  refine wk_move (.slice a_c c.length c_c) rfl rfl rfl rfl ?_
  dsimp only [putL, setL, List.set_cons_zero, List.set_cons_succ, List.nil_append, List.cons_append]
  refine wk_lenA rfl rfl rfl rfl Try.underlying57 ?_
  dsimp only [putL, setL, List.set_cons_zero, List.set_cons_succ, List.nil_append, List.cons_append]
  by_cases hc2 : 70 < ((c.length : Nat) : Int)
  · skip
    refine wk_iop (.bool true) rfl rfl rfl rfl rfl rfl (iop_gtr_t hc2) ?_
    dsimp only [putL, setL, List.set_cons_zero, List.set_cons_succ, List.nil_append, List.cons_append]
    refine wk_move (.bool true) rfl rfl rfl rfl ?_
    dsimp only [putL, setL, List.set_cons_zero, List.set_cons_succ, List.nil_append, List.cons_append]
    refine wk_skip rfl rfl (fun h => by cases h) ?_
    dsimp only [putL, setL, List.set_cons_zero, List.set_cons_succ, List.nil_append, List.cons_append]
    refine wk_skip rfl rfl (fun h => by cases h) ?_
    dsimp only [putL, setL, List.set_cons_zero, List.set_cons_succ, List.nil_append, List.cons_append]
    refine wk_skip rfl rfl (fun h => by cases h) ?_
    dsimp only [putL, setL, List.set_cons_zero, List.set_cons_succ, List.nil_append, List.cons_append]
    refine wk_pick true (.bool true) rfl rfl rfl rfl rfl ?_
    dsimp only [putL, setL, List.set_cons_zero, List.set_cons_succ, List.nil_append, List.cons_append]
    refine wk_nil ?_
    refine sp_true rfl rfl ?_
    refine sp_seq rfl ?_
    refine sp_region (π := [0]) [] rfl rfl ?_
    refine wk_assign (.bool true) rfl rfl rfl rfl ?_
    dsimp only [putL, setL, List.set_cons_zero, List.set_cons_succ, List.nil_append, List.cons_append]
    refine wk_nil ?_
    refine sp_ret rfl ?_
    exact ret_tmps (v := .bool true) (fun w' => by kernel_rfl) fun w' hw => ⟨rfl, hw.below⟩
  · skip
    refine wk_iop (.bool false) rfl rfl rfl rfl rfl rfl (iop_gtr_f hc2) ?_
    dsimp only [putL, setL, List.set_cons_zero, List.set_cons_succ, List.nil_append, List.cons_append]
    refine wk_move (.bool false) rfl rfl rfl rfl ?_
    dsimp only [putL, setL, List.set_cons_zero, List.set_cons_succ, List.nil_append, List.cons_append]
    refine wk_move (.slice a_ls ls.length c_ls) rfl rfl rfl rfl ?_
    dsimp only [putL, setL, List.set_cons_zero, List.set_cons_succ, List.nil_append, List.cons_append]
    refine wk_lenA rfl rfl rfl rfl Try.underlying63 ?_
    dsimp only [putL, setL, List.set_cons_zero, List.set_cons_succ, List.nil_append, List.cons_append]
    by_cases hc3 : 12 < ((ls.length : Nat) : Int)
    · skip
      refine wk_iop (.bool true) rfl rfl rfl rfl rfl rfl (iop_gtr_t hc3) ?_
      dsimp only [putL, setL, List.set_cons_zero, List.set_cons_succ, List.nil_append, List.cons_append]
      refine wk_pick false (.bool true) rfl rfl rfl rfl rfl ?_
      dsimp only [putL, setL, List.set_cons_zero, List.set_cons_succ, List.nil_append, List.cons_append]
      refine wk_nil ?_
      refine sp_true rfl rfl ?_
      refine sp_seq rfl ?_
      refine sp_region (π := [0]) [] rfl rfl ?_
      refine wk_assign (.bool true) rfl rfl rfl rfl ?_
      dsimp only [putL, setL, List.set_cons_zero, List.set_cons_succ, List.nil_append, List.cons_append]
      refine wk_nil ?_
      refine sp_ret rfl ?_
      exact ret_tmps (v := .bool true) (fun w' => by kernel_rfl) fun w' hw => ⟨rfl, hw.below⟩
    · skip
      refine wk_iop (.bool false) rfl rfl rfl rfl rfl rfl (iop_gtr_f hc3) ?_
      dsimp only [putL, setL, List.set_cons_zero, List.set_cons_succ, List.nil_append, List.cons_append]
      refine wk_pick false (.bool false) rfl rfl rfl rfl rfl ?_
      dsimp only [putL, setL, List.set_cons_zero, List.set_cons_succ, List.nil_append, List.cons_append]
      refine wk_nil ?_
      refine sp_false rfl rfl ?_
      refine sp_skip rfl ?_
      refine sp_seq rfl ?_
      refine sp_region (π := [0, 1, 2]) [] rfl rfl ?_
      refine wk_move (.slice a_c c.length c_c) rfl rfl rfl rfl ?_
      dsimp only [putL, setL, List.set_cons_zero, List.set_cons_succ, List.nil_append, List.cons_append]
      refine wk_callS (e := 24) (size := 4) (n := c.length) (cs := (rowL c)) [(.slice a_c c.length c_c)] (fun v => v) rfl rfl rfl (enters_of Try.func63 (by kernel_rfl) (by kernel_rfl)) rfl (by rw [rowL_len, Nat.mul_comm]) (by simp only [maxLen]; omega) (fun M' w' hm hst => twin_calls c c.length _ _ rfl w_c (by omega) w' (hH_c.old hst)) fun v4 S4 hO4 => ?_
      dsimp only [putL, setL, List.set_cons_zero, List.set_cons_succ, List.nil_append, List.cons_append]
      obtain ⟨a5, cp5, hv5, hcp5, hsh5⟩ := hO4.reads
      subst hv5
      refine wk_assign (.slice a5 c.length cp5) rfl rfl rfl rfl ?_
      dsimp only [putL, setL, List.set_cons_zero, List.set_cons_succ, List.nil_append, List.cons_append]
      refine wk_nil ?_
      refine sp_seq rfl ?_
      refine sp_region (π := [0]) [] rfl rfl ?_
      refine wk_assign (.slice none 0 0) rfl rfl rfl rfl ?_
      dsimp only [putL, setL, List.set_cons_zero, List.set_cons_succ, List.nil_append, List.cons_append]
      refine wk_nil ?_
      refine sp_seq rfl ?_
      refine sp_region (π := [0]) [] rfl rfl ?_
      refine wk_assign (.slice none 0 0) rfl rfl rfl rfl ?_
      dsimp only [putL, setL, List.set_cons_zero, List.set_cons_succ, List.nil_append, List.cons_append]
      refine wk_nil ?_
      refine sp_seq rfl ?_
      refine sp_seq rfl ?_
      refine sp_region (π := [0]) [] rfl rfl ?_
      refine wk_assign (.int .i64 0) rfl rfl rfl rfl ?_
      dsimp only [putL, setL, List.set_cons_zero, List.set_cons_succ, List.nil_append, List.cons_append]
      refine wk_nil ?_
      refine sp_block rfl ?_
      refine sp_loopg rfl (fun n l M => ∃ i : Nat, ∃ v : Value, ∃ S : Mem, ∃ u : Value, ∃ T : Mem, ∃ d34 : Value, ∃ d35 : Value, ∃ d36 : Value, ∃ d37 : Value, ∃ d38 : Value, ∃ d39 : Value, ∃ d40 : Value, ∃ d41 : Value, ∃ d42 : Value, ∃ d43 : Value, ∃ d44 : Value, ∃ d45 : Value, ∃ d46 : Value, ∃ d47 : Value, ∃ d48 : Value, ∃ d49 : Value, ∃ d50 : Value, ∃ d51 : Value, ∃ d52 : Value, ∃ d53 : Value, ∃ d54 : Value, l = [(.slice a_c c.length c_c), (numV x), (.slice a_ls ls.length c_ls), undef, (.pointer (some ⟨β1, 0, none⟩)), undef, (.bool false), (.slice a5 c.length cp5), v, u, (.int .i64 (i : Int)), undef, undef, undef, undef, undef, undef, undef, undef, undef, undef, undef, undef, undef, (.slice a_c c.length c_c), (.int .i64 ((c.length : Nat) : Int)), (.bool false), (.bool false), (.slice a_ls ls.length c_ls), (.int .i64 ((ls.length : Nat) : Int)), (.bool false), (.bool false), (.slice a_c c.length c_c), (.slice a5 c.length cp5), d34, d35, d36, d37, d38, d39, d40, d41, d42, d43, d44, d45, d46, d47, d48, d49, d50, d51, d52, d53, d54, undef, undef, undef, undef, undef, undef, undef, undef, undef, undef, undef, undef, undef, undef, undef, undef, undef, undef, undef, undef, undef, undef, undef, undef, undef, undef, undef, undef, undef, undef, undef, undef, undef, undef, undef, undef, undef, undef, undef, undef, undef, undef, undef, undef, undef, undef, undef, undef, undef, undef, undef, undef, undef, undef, undef, undef, undef, undef, undef, undef, undef, undef, undef, undef, undef, undef, undef, undef, undef, undef, undef, undef, undef, undef, undef, undef, undef, undef, undef, undef, undef, undef, undef, undef, undef, undef, undef, undef, undef, undef, undef, undef, undef, undef, undef, undef, undef, undef, undef, undef, undef, undef, undef, undef, undef, undef, undef, undef, undef, undef, undef, undef, undef, undef, undef, undef] ∧ (β1, numO x) :: (S4 ++ (S ++ T)) = M ∧ (i ≤ ls.length) ∧ (OwnS 65 8 v i (shL (gL (sx ls) i)) S) ∧ (OwnS 24 4 u i (rowL (xsS (gL (sx ls) i))) T) ∧ n = ls.length - i) (ls.length - 0) ?_ ?_
      · exact ⟨0, (.slice none 0 0), [], (.slice none 0 0), [], undef, undef, undef, undef, undef, undef, undef, undef, undef, undef, undef, undef, undef, undef, undef, undef, undef, undef, undef, undef, undef, rfl, (by simp), (Nat.zero_le _), (OwnS.nil _ _), (OwnS.nil _ _), rfl⟩
      · skip
        intro n l M
        refine exists_imp.2 fun i => ?_
        refine exists_imp.2 fun v => ?_
        refine exists_imp.2 fun S => ?_
        refine exists_imp.2 fun u => ?_
        refine exists_imp.2 fun T => ?_
        refine exists_imp.2 fun d34 => ?_
        refine exists_imp.2 fun d35 => ?_
        refine exists_imp.2 fun d36 => ?_
        refine exists_imp.2 fun d37 => ?_
        refine exists_imp.2 fun d38 => ?_
        refine exists_imp.2 fun d39 => ?_
        refine exists_imp.2 fun d40 => ?_
        refine exists_imp.2 fun d41 => ?_
        refine exists_imp.2 fun d42 => ?_
        refine exists_imp.2 fun d43 => ?_
        refine exists_imp.2 fun d44 => ?_
        refine exists_imp.2 fun d45 => ?_
        refine exists_imp.2 fun d46 => ?_
        refine exists_imp.2 fun d47 => ?_
        refine exists_imp.2 fun d48 => ?_
        refine exists_imp.2 fun d49 => ?_
        refine exists_imp.2 fun d50 => ?_
        refine exists_imp.2 fun d51 => ?_
        refine exists_imp.2 fun d52 => ?_
        refine exists_imp.2 fun d53 => ?_
        refine exists_imp.2 fun d54 => ?_
        rintro ⟨rfl, rfl, hf0, hf1, hf2, rfl⟩
        refine sp_seq rfl ?_
        refine sp_seq rfl ?_
        refine sp_region (π := [0, 1, 2, 3]) [] rfl rfl ?_
        refine wk_move (.int .i64 (i : Int)) rfl rfl rfl rfl ?_
        dsimp only [putL, setL, List.set_cons_zero, List.set_cons_succ, List.nil_append, List.cons_append]
        refine wk_move (.slice a_ls ls.length c_ls) rfl rfl rfl rfl ?_
        dsimp only [putL, setL, List.set_cons_zero, List.set_cons_succ, List.nil_append, List.cons_append]
        refine wk_lenA rfl rfl rfl rfl Try.underlying63 ?_
        dsimp only [putL, setL, List.set_cons_zero, List.set_cons_succ, List.nil_append, List.cons_append]
        by_cases hc6 : (i : Int) < ((ls.length : Nat) : Int)
        · skip
          refine wk_iop (.bool true) rfl rfl rfl rfl rfl rfl (iop_lss_t hc6) ?_
          dsimp only [putL, setL, List.set_cons_zero, List.set_cons_succ, List.nil_append, List.cons_append]
          refine wk_nil ?_
          refine sp_true rfl rfl ?_
          refine sp_skip rfl ?_
          refine sp_seq rfl ?_
          refine sp_block rfl ?_
          refine sp_draw [0, 1, 2, 3, 4, 7, 8, 9, 10, 11, 12, 5, 6, 13, 14, 15, 16] [(4, .O), (12, .O), (6, .V), (14, .V)] mixed rfl (by kernel_rfl) (by kernel_rfl) ?_
          refine wk_move v rfl rfl rfl rfl ?_
          dsimp only [putL, setL, List.set_cons_zero, List.set_cons_succ, List.nil_append, List.cons_append]
          refine wk_move (.slice a_ls ls.length c_ls) rfl rfl rfl rfl ?_
          dsimp only [putL, setL, List.set_cons_zero, List.set_cons_succ, List.nil_append, List.cons_append]
          refine wk_move (.int .i64 (i : Int)) rfl rfl rfl rfl ?_
          dsimp only [putL, setL, List.set_cons_zero, List.set_cons_succ, List.nil_append, List.cons_append]
          obtain ⟨β7, o7, ha7, hr7⟩ := hH_ls.at_ (shL_ne (k := i) (by omega))
          refine wk_idxA i 8 rfl rfl rfl rfl ha7 rfl Try.underlying63 (by kernel_rfl) rfl (by omega) ?_
          dsimp only [putL, setL, List.set_cons_zero, List.set_cons_succ, List.nil_append, List.cons_append]
          refine wk_ldSO rfl rfl rfl rfl (fun M' w' hst => old_range hr7 (shL_ne (k := i) (by omega)) hst) (by omega) ?_
          dsimp only [putL, setL, List.set_cons_zero, List.set_cons_succ, List.nil_append, List.cons_append]
          refine wk_move u rfl rfl rfl rfl ?_
          dsimp only [putL, setL, List.set_cons_zero, List.set_cons_succ, List.nil_append, List.cons_append]
          refine wk_move (.slice a_ls ls.length c_ls) rfl rfl rfl rfl ?_
          dsimp only [putL, setL, List.set_cons_zero, List.set_cons_succ, List.nil_append, List.cons_append]
          refine wk_move (.int .i64 (i : Int)) rfl rfl rfl rfl ?_
          dsimp only [putL, setL, List.set_cons_zero, List.set_cons_succ, List.nil_append, List.cons_append]
          refine wk_idxA i 8 rfl rfl rfl rfl ha7 rfl Try.underlying63 (by kernel_rfl) rfl (by omega) ?_
          dsimp only [putL, setL, List.set_cons_zero, List.set_cons_succ, List.nil_append, List.cons_append]
          refine wk_val (.pointer (some ⟨β7, o7 + i * 8, none⟩)) rfl rfl rfl (fun w => by kernel_rfl) ?_
          dsimp only [putL, setL, List.set_cons_zero, List.set_cons_succ, List.nil_append, List.cons_append]
          refine wk_ldXO rfl rfl rfl rfl (fun M' w' hst => old_range hr7 (shL_ne (k := i) (by omega)) hst) (by omega) ?_
          dsimp only [putL, setL, List.set_cons_zero, List.set_cons_succ, List.nil_append, List.cons_append]
          refine wkf_make (z := shsO [(sx ls i)]) (mk := fun β => .slice (some ⟨β, 0, none⟩) 1 1) rfl rfl (fun w => by kernel_rfl) fun β8 => ?_
          dsimp only [putL, setL, List.set_cons_zero, List.set_cons_succ, List.nil_append, List.cons_append]
          refine wk_appendV (news := (shL [(sx ls i)])) (F := ((β8, shsO [(sx ls i)]) :: (β1, numO x) :: S4 ++ T)) rfl rfl rfl rfl rfl Try.underlying63 shInfo shBytes shZero rfl (by decide) hf1 (perm_mid ((β8, shsO [(sx ls i)]) :: (β1, numO x) :: S4) S T) (by simp only [maxLen]; omega) rfl (fun w' hst => shs_holds (List.mem_of_getElem? (i := 0) rfl) hst) (shL_one _) (by omega) (by omega) fun v9 S9 hO9 => ?_
          dsimp only [putL, setL, List.set_cons_zero, List.set_cons_succ, List.nil_append, List.cons_append]
          try simp only [List.append_assoc]
          refine wkf_make (z := rowO [(sx ls i).1]) (mk := fun β => .slice (some ⟨β, 0, none⟩) 1 1) rfl rfl (fun w => by kernel_rfl) fun β10 => ?_
          dsimp only [putL, setL, List.set_cons_zero, List.set_cons_succ, List.nil_append, List.cons_append]
          refine wk_appendV (news := (rowL [(sx ls i).1])) (F := ((β10, rowO [(sx ls i).1]) :: (β8, shsO [(sx ls i)]) :: (β1, numO x) :: S4 ++ S9)) rfl rfl rfl rfl rfl Try.underlying57 ninfo numBytes nzero rfl (by decide) hf2 (perm_mid ((β10, rowO [(sx ls i).1]) :: (β8, shsO [(sx ls i)]) :: (β1, numO x) :: S4) T S9) (by simp only [maxLen]; omega) rfl (fun w' hst => row_holds (List.mem_of_getElem? (i := 0) rfl) hst) (rowL_one _) (by omega) (by omega) fun v11 S11 hO11 => ?_
          dsimp only [putL, setL, List.set_cons_zero, List.set_cons_succ, List.nil_append, List.cons_append]
          try simp only [List.append_assoc]
          refine wk_assign v9 rfl rfl rfl rfl ?_
          dsimp only [putL, setL, List.set_cons_zero, List.set_cons_succ, List.nil_append, List.cons_append]
          refine wk_assign v11 rfl rfl rfl rfl ?_
          dsimp only [putL, setL, List.set_cons_zero, List.set_cons_succ, List.nil_append, List.cons_append]
          refine wk_nil ?_
          refine sp_region (π := [0, 1, 2]) [] rfl rfl ?_
          refine wk_move (.int .i64 (i : Int)) rfl rfl rfl rfl ?_
          dsimp only [putL, setL, List.set_cons_zero, List.set_cons_succ, List.nil_append, List.cons_append]
          refine wk_iop (.int .i64 ((i : Int) + 1)) rfl rfl rfl rfl rfl rfl (iop_add (by omega) (by omega)) ?_
          dsimp only [putL, setL, List.set_cons_zero, List.set_cons_succ, List.nil_append, List.cons_append]
          refine wk_assign (.int .i64 ((i : Int) + 1)) rfl rfl rfl rfl ?_
          dsimp only [putL, setL, List.set_cons_zero, List.set_cons_succ, List.nil_append, List.cons_append]
          refine wk_nil ?_
          exact ⟨(β1, numO x) :: (S4 ++ (S9 ++ S11)), _, by exact List.Sublist.cons _ <| List.Sublist.cons _ <| List.Sublist.cons_cons _ <| List.Sublist.refl _, ⟨(i + 1), v9, S9, v11, S11, (.int .i64 (i : Int)), (.slice a_ls ls.length c_ls), (.int .i64 ((ls.length : Nat) : Int)), (.bool true), (.int .i64 (i : Int)), (.int .i64 ((i : Int) + 1)), v, (.slice a_ls ls.length c_ls), (.int .i64 (i : Int)), (.pointer (some ⟨β7, o7 + i * 8, none⟩)), (shV (sx ls i)), (.slice (some ⟨β8, 0, none⟩) 1 1), v9, u, (.slice a_ls ls.length c_ls), (.int .i64 (i : Int)), (.pointer (some ⟨β7, o7 + i * 8, none⟩)), (.pointer (some ⟨β7, o7 + i * 8, none⟩)), (numV (sx ls i).1), (.slice (some ⟨β10, 0, none⟩) 1 1), v11, rfl, rfl, (by omega), (by rw [gL_row]; exact hO9), (by rw [gL_xrow]; exact hO11), rfl⟩, (by omega)⟩
        · skip
          refine wk_iop (.bool false) rfl rfl rfl rfl rfl rfl (iop_lss_f hc6) ?_
          dsimp only [putL, setL, List.set_cons_zero, List.set_cons_succ, List.nil_append, List.cons_append]
          refine wk_nil ?_
          refine sp_false rfl rfl ?_
          refine sp_exit rfl ?_
          refine sp_seq rfl ?_
          refine sp_seq rfl ?_
          refine sp_draw [0, 1, 3, 4, 2, 5, 6, 7, 8, 9, 10, 11, 12] [] mixed rfl (by kernel_rfl) (by kernel_rfl) ?_
          refine wk_move (.slice a5 c.length cp5) rfl rfl rfl rfl ?_
          dsimp only [putL, setL, List.set_cons_zero, List.set_cons_succ, List.nil_append, List.cons_append]
          refine wk_ldN 0 rfl rfl rfl rfl rfl ?_
          dsimp only [putL, setL, List.set_cons_zero, List.set_cons_succ, List.nil_append, List.cons_append]
          refine wk_move (.slice a_c c.length c_c) rfl rfl rfl rfl ?_
          dsimp only [putL, setL, List.set_cons_zero, List.set_cons_succ, List.nil_append, List.cons_append]
          refine wk_ldN 0 rfl rfl rfl rfl rfl ?_
          dsimp only [putL, setL, List.set_cons_zero, List.set_cons_succ, List.nil_append, List.cons_append]
          refine wk_callW [(.slice a5 c.length cp5), (numV x)] (numV (evalL (modW 1) c x)) rfl rfl rfl (enters_of Try.func59 (by kernel_rfl) (by kernel_rfl)) rfl (fun M' w' hm hst => eval_calls' c c.length _ _ rfl w_c (by omega) x w_x w' (hsh5.holds hst (fun p hp => hm p (by simp [hp])))) ?_
          dsimp only [putL, setL, List.set_cons_zero, List.set_cons_succ, List.nil_append, List.cons_append]
          refine wk_callW [(.slice a_c c.length c_c), (numV x)] (numV (evalL (modW 1) c x)) rfl rfl rfl (enters_of Try.func64 (by kernel_rfl) (by kernel_rfl)) rfl (fun M' w' hm hst => reval_calls' c c.length _ _ rfl w_c (by omega) x w_x w' (hH_c.old hst)) ?_
          dsimp only [putL, setL, List.set_cons_zero, List.set_cons_succ, List.nil_append, List.cons_append]
          refine wk_neN false rfl rfl rfl rfl rfl (evalL_lt (modW_pos ok1) (modW_lt 1) _ _) (evalL_lt (modW_pos ok1) (modW_lt 1) _ _) (decide_eq_true rfl) ?_
          dsimp only [putL, setL, List.set_cons_zero, List.set_cons_succ, List.nil_append, List.cons_append]
          refine wk_move (.bool false) rfl rfl rfl rfl ?_
          dsimp only [putL, setL, List.set_cons_zero, List.set_cons_succ, List.nil_append, List.cons_append]
          refine wk_move (.slice a5 c.length cp5) rfl rfl rfl rfl ?_
          dsimp only [putL, setL, List.set_cons_zero, List.set_cons_succ, List.nil_append, List.cons_append]
          refine wk_move (.slice a_c c.length c_c) rfl rfl rfl rfl ?_
          dsimp only [putL, setL, List.set_cons_zero, List.set_cons_succ, List.nil_append, List.cons_append]
          refine wk_callW [(.slice a5 c.length cp5), (.slice a_c c.length c_c)] (.bool true) rfl rfl rfl (enters_of Try.func65 (by kernel_rfl) (by kernel_rfl)) rfl (fun M' w' hm hst => nums_same' c c.length _ _ rfl w_c (by omega) _ c.length _ (by omega) w' (hsh5.holds hst (fun p hp => hm p (by simp [hp]))) (hH_c.old hst)) ?_
          dsimp only [putL, setL, List.set_cons_zero, List.set_cons_succ, List.nil_append, List.cons_append]
          refine wk_not true rfl rfl rfl rfl ?_
          dsimp only [putL, setL, List.set_cons_zero, List.set_cons_succ, List.nil_append, List.cons_append]
          refine wk_pick false (.bool false) rfl rfl rfl rfl rfl ?_
          dsimp only [putL, setL, List.set_cons_zero, List.set_cons_succ, List.nil_append, List.cons_append]
          refine wk_nil ?_
          refine sp_false rfl rfl ?_
          refine sp_skip rfl ?_
          refine sp_seq rfl ?_
          refine sp_region (π := [0, 1, 2, 3, 4, 5, 6]) [] rfl rfl ?_
          refine wk_move u rfl rfl rfl rfl ?_
          dsimp only [putL, setL, List.set_cons_zero, List.set_cons_succ, List.nil_append, List.cons_append]
          obtain ⟨a12, cp12, hv12, hcp12, hsh12⟩ := hf1.reads
          subst hv12
          rw [show i = ls.length by omega, gL_all] at hsh12
          obtain ⟨a13, cp13, hv13, hcp13, hsh13⟩ := hf2.reads
          subst hv13
          rw [show i = ls.length by omega, gL_all] at hsh13
          by_cases hw0 : (wrongI (modW 1) (xsS ls)) = 0
          · skip
            refine wk_callS (e := 24) (size := 4) (n := i) (cs := (rowL (weightsTo (modW 1) (xsS ls) (xsS ls).length))) [(.slice a13 i cp13)] (fun v => .tuple #[v, .int .i64 0]) rfl rfl rfl (enters_of Try.func60 (by kernel_rfl) (by kernel_rfl)) rfl (weightsTo_row ((xsS_len ls).trans (show ls.length = i by omega))) (by simp only [maxLen]; omega) (fun M' w' hm hst => weights_ok' (xsS ls) i _ _ ((xsS_len ls).trans (show ls.length = i by omega)) (xsS_bound w_ls) (by omega) hcp13 hw0 w' (hsh13.holds hst (fun p hp => hm p (by simp [hp])))) fun v14 S14 hO14 => ?_
            dsimp only [putL, setL, List.set_cons_zero, List.set_cons_succ, List.nil_append, List.cons_append]
            try simp only [List.append_assoc]
            obtain ⟨a15, cp15, hv15, hcp15, hsh15⟩ := hO14.reads
            subst hv15
            refine wk_move (.tuple #[(.slice a15 i cp15), (.int .i64 0)]) rfl rfl rfl rfl ?_
            dsimp only [putL, setL, List.set_cons_zero, List.set_cons_succ, List.nil_append, List.cons_append]
            refine wk_ext (.slice a15 i cp15) rfl rfl rfl rfl rfl ?_
            dsimp only [putL, setL, List.set_cons_zero, List.set_cons_succ, List.nil_append, List.cons_append]
            refine wk_ext (.int .i64 0) rfl rfl rfl rfl rfl ?_
            dsimp only [putL, setL, List.set_cons_zero, List.set_cons_succ, List.nil_append, List.cons_append]
            refine wk_assign (.slice a15 i cp15) rfl rfl rfl rfl ?_
            dsimp only [putL, setL, List.set_cons_zero, List.set_cons_succ, List.nil_append, List.cons_append]
            refine wk_assign (.int .i64 0) rfl rfl rfl rfl ?_
            dsimp only [putL, setL, List.set_cons_zero, List.set_cons_succ, List.nil_append, List.cons_append]
            refine wk_nil ?_
            refine sp_seq rfl ?_
            refine sp_region (π := [0, 1, 2, 3, 4, 5, 6]) [] rfl rfl ?_
            refine wk_move (.slice a13 i cp13) rfl rfl rfl rfl ?_
            dsimp only [putL, setL, List.set_cons_zero, List.set_cons_succ, List.nil_append, List.cons_append]
            refine wk_callS (e := 24) (size := 4) (n := i) (cs := (rowL (weightsTo (modW 1) (xsS ls) (xsS ls).length))) [(.slice a13 i cp13)] (fun v => .tuple #[v, .int .i64 0]) rfl rfl rfl (enters_of Try.func66 (by kernel_rfl) (by kernel_rfl)) rfl (weightsTo_row ((xsS_len ls).trans (show ls.length = i by omega))) (by simp only [maxLen]; omega) (fun M' w' hm hst => rweights_ok' (xsS ls) i _ _ ((xsS_len ls).trans (show ls.length = i by omega)) (xsS_bound w_ls) (by omega) hcp13 hw0 w' (hsh13.holds hst (fun p hp => hm p (by simp [hp])))) fun v16 S16 hO16 => ?_
            dsimp only [putL, setL, List.set_cons_zero, List.set_cons_succ, List.nil_append, List.cons_append]
            try simp only [List.append_assoc]
            obtain ⟨a17, cp17, hv17, hcp17, hsh17⟩ := hO16.reads
            subst hv17
            refine wk_move (.tuple #[(.slice a17 i cp17), (.int .i64 0)]) rfl rfl rfl rfl ?_
            dsimp only [putL, setL, List.set_cons_zero, List.set_cons_succ, List.nil_append, List.cons_append]
            refine wk_ext (.slice a17 i cp17) rfl rfl rfl rfl rfl ?_
            dsimp only [putL, setL, List.set_cons_zero, List.set_cons_succ, List.nil_append, List.cons_append]
            refine wk_ext (.int .i64 0) rfl rfl rfl rfl rfl ?_
            dsimp only [putL, setL, List.set_cons_zero, List.set_cons_succ, List.nil_append, List.cons_append]
            refine wk_assign (.slice a17 i cp17) rfl rfl rfl rfl ?_
            dsimp only [putL, setL, List.set_cons_zero, List.set_cons_succ, List.nil_append, List.cons_append]
            refine wk_assign (.int .i64 0) rfl rfl rfl rfl ?_
            dsimp only [putL, setL, List.set_cons_zero, List.set_cons_succ, List.nil_append, List.cons_append]
            refine wk_nil ?_
            refine sp_seq rfl ?_
            refine sp_region (π := [0, 1, 2, 3, 4, 5, 6, 7]) [] rfl rfl ?_
            refine wk_move (.slice a12 i cp12) rfl rfl rfl rfl ?_
            dsimp only [putL, setL, List.set_cons_zero, List.set_cons_succ, List.nil_append, List.cons_append]
            refine wk_callW [(.slice a12 i cp12)] (.tuple #[(numV (zeroTo (modW 1) (weightsTo (modW 1) (xsS ls) (xsS ls).length) ls ls.length)), (.int .i64 0)]) rfl rfl rfl (enters_of Try.func62 (by kernel_rfl) (by kernel_rfl)) rfl (fun M' w' hm hst => zero_ok ls i _ _ (show ls.length = i by omega) w_ls (by omega) hcp12 hw0 w' (hsh12.holds hst (fun p hp => hm p (by simp [hp])))) ?_
            dsimp only [putL, setL, List.set_cons_zero, List.set_cons_succ, List.nil_append, List.cons_append]
            refine wk_move (.tuple #[(numV (zeroTo (modW 1) (weightsTo (modW 1) (xsS ls) (xsS ls).length) ls ls.length)), (.int .i64 0)]) rfl rfl rfl rfl ?_
            dsimp only [putL, setL, List.set_cons_zero, List.set_cons_succ, List.nil_append, List.cons_append]
            refine wk_ext (numV (zeroTo (modW 1) (weightsTo (modW 1) (xsS ls) (xsS ls).length) ls ls.length)) rfl rfl rfl rfl rfl ?_
            dsimp only [putL, setL, List.set_cons_zero, List.set_cons_succ, List.nil_append, List.cons_append]
            refine wk_ext (.int .i64 0) rfl rfl rfl rfl rfl ?_
            dsimp only [putL, setL, List.set_cons_zero, List.set_cons_succ, List.nil_append, List.cons_append]
            refine wkf_newN rfl rfl fun β18 => ?_
            dsimp only [putL, setL, List.set_cons_zero, List.set_cons_succ, List.nil_append, List.cons_append]
            refine wk_stN 0 (zeroTo (modW 1) (weightsTo (modW 1) (xsS ls) (xsS ls).length) ls ls.length) rfl rfl rfl rfl rfl rfl ?_
            dsimp only [putL, setL, List.set_cons_zero, List.set_cons_succ, List.nil_append, List.cons_append]
            refine wk_assign (.int .i64 0) rfl rfl rfl rfl ?_
            dsimp only [putL, setL, List.set_cons_zero, List.set_cons_succ, List.nil_append, List.cons_append]
            refine wk_nil ?_
            refine sp_seq rfl ?_
            refine sp_region (π := [0, 1, 2, 3, 4, 5, 6, 7]) [] rfl rfl ?_
            refine wk_move (.slice a_ls ls.length c_ls) rfl rfl rfl rfl ?_
            dsimp only [putL, setL, List.set_cons_zero, List.set_cons_succ, List.nil_append, List.cons_append]
            refine wk_callW [(.slice a_ls ls.length c_ls)] (.tuple #[(numV (zeroTo (modW 1) (weightsTo (modW 1) (xsS ls) (xsS ls).length) ls ls.length)), (.int .i64 0)]) rfl rfl rfl (enters_of Try.func67 (by kernel_rfl) (by kernel_rfl)) rfl (fun M' w' hm hst => rzero_ok ls ls.length _ _ rfl w_ls (by omega) hc_ls hw0 w' (hH_ls.old hst)) ?_
            dsimp only [putL, setL, List.set_cons_zero, List.set_cons_succ, List.nil_append, List.cons_append]
            refine wk_move (.tuple #[(numV (zeroTo (modW 1) (weightsTo (modW 1) (xsS ls) (xsS ls).length) ls ls.length)), (.int .i64 0)]) rfl rfl rfl rfl ?_
            dsimp only [putL, setL, List.set_cons_zero, List.set_cons_succ, List.nil_append, List.cons_append]
            refine wk_ext (numV (zeroTo (modW 1) (weightsTo (modW 1) (xsS ls) (xsS ls).length) ls ls.length)) rfl rfl rfl rfl rfl ?_
            dsimp only [putL, setL, List.set_cons_zero, List.set_cons_succ, List.nil_append, List.cons_append]
            refine wk_ext (.int .i64 0) rfl rfl rfl rfl rfl ?_
            dsimp only [putL, setL, List.set_cons_zero, List.set_cons_succ, List.nil_append, List.cons_append]
            refine wkf_newN rfl rfl fun β19 => ?_
            dsimp only [putL, setL, List.set_cons_zero, List.set_cons_succ, List.nil_append, List.cons_append]
            refine wk_stN 0 (zeroTo (modW 1) (weightsTo (modW 1) (xsS ls) (xsS ls).length) ls ls.length) rfl rfl rfl rfl rfl rfl ?_
            dsimp only [putL, setL, List.set_cons_zero, List.set_cons_succ, List.nil_append, List.cons_append]
            refine wk_assign (.int .i64 0) rfl rfl rfl rfl ?_
            dsimp only [putL, setL, List.set_cons_zero, List.set_cons_succ, List.nil_append, List.cons_append]
            refine wk_nil ?_
            refine sp_seq rfl ?_
            refine sp_region (π := [0, 1, 2, 3, 4, 5, 6]) [] rfl rfl ?_
            refine wk_move (.slice a12 i cp12) rfl rfl rfl rfl ?_
            dsimp only [putL, setL, List.set_cons_zero, List.set_cons_succ, List.nil_append, List.cons_append]
            refine wk_callS (e := 24) (size := 4) (n := i) (cs := (rowL (thruL (modW 1) ls))) [(.slice a12 i cp12)] (fun v => .tuple #[v, .int .i64 0]) rfl rfl rfl (enters_of Try.func68 (by kernel_rfl) (by kernel_rfl)) rfl (th_row hw0 (show ls.length = i by omega)) (by simp only [maxLen]; omega) (fun M' w' hm hst => through_ok ls i _ _ (show ls.length = i by omega) w_ls (by omega) hw0 w' (hsh12.holds hst (fun p hp => hm p (by simp [hp])))) fun v20 S20 hO20 => ?_
            dsimp only [putL, setL, List.set_cons_zero, List.set_cons_succ, List.nil_append, List.cons_append]
            try simp only [List.append_assoc]
            obtain ⟨a21, cp21, hv21, hcp21, hsh21⟩ := hO20.reads
            subst hv21
            refine wk_move (.tuple #[(.slice a21 i cp21), (.int .i64 0)]) rfl rfl rfl rfl ?_
            dsimp only [putL, setL, List.set_cons_zero, List.set_cons_succ, List.nil_append, List.cons_append]
            refine wk_ext (.slice a21 i cp21) rfl rfl rfl rfl rfl ?_
            dsimp only [putL, setL, List.set_cons_zero, List.set_cons_succ, List.nil_append, List.cons_append]
            refine wk_ext (.int .i64 0) rfl rfl rfl rfl rfl ?_
            dsimp only [putL, setL, List.set_cons_zero, List.set_cons_succ, List.nil_append, List.cons_append]
            refine wk_assign (.slice a21 i cp21) rfl rfl rfl rfl ?_
            dsimp only [putL, setL, List.set_cons_zero, List.set_cons_succ, List.nil_append, List.cons_append]
            refine wk_assign (.int .i64 0) rfl rfl rfl rfl ?_
            dsimp only [putL, setL, List.set_cons_zero, List.set_cons_succ, List.nil_append, List.cons_append]
            refine wk_nil ?_
            refine sp_seq rfl ?_
            refine sp_region (π := [0, 1, 2, 3, 4, 5, 6]) [] rfl rfl ?_
            refine wk_move (.slice a_ls ls.length c_ls) rfl rfl rfl rfl ?_
            dsimp only [putL, setL, List.set_cons_zero, List.set_cons_succ, List.nil_append, List.cons_append]
            refine wk_callS (e := 24) (size := 4) (n := ls.length) (cs := (rowL (thruL (modW 1) ls))) [(.slice a_ls ls.length c_ls)] (fun v => .tuple #[v, .int .i64 0]) rfl rfl rfl (enters_of Try.func69 (by kernel_rfl) (by kernel_rfl)) rfl (th_row hw0 rfl) (by simp only [maxLen]; omega) (fun M' w' hm hst => rthrough_ok ls ls.length _ _ rfl w_ls (by omega) hw0 w' (hH_ls.old hst)) fun v22 S22 hO22 => ?_
            dsimp only [putL, setL, List.set_cons_zero, List.set_cons_succ, List.nil_append, List.cons_append]
            try simp only [List.append_assoc]
            obtain ⟨a23, cp23, hv23, hcp23, hsh23⟩ := hO22.reads
            subst hv23
            refine wk_move (.tuple #[(.slice a23 ls.length cp23), (.int .i64 0)]) rfl rfl rfl rfl ?_
            dsimp only [putL, setL, List.set_cons_zero, List.set_cons_succ, List.nil_append, List.cons_append]
            refine wk_ext (.slice a23 ls.length cp23) rfl rfl rfl rfl rfl ?_
            dsimp only [putL, setL, List.set_cons_zero, List.set_cons_succ, List.nil_append, List.cons_append]
            refine wk_ext (.int .i64 0) rfl rfl rfl rfl rfl ?_
            dsimp only [putL, setL, List.set_cons_zero, List.set_cons_succ, List.nil_append, List.cons_append]
            refine wk_assign (.slice a23 ls.length cp23) rfl rfl rfl rfl ?_
            dsimp only [putL, setL, List.set_cons_zero, List.set_cons_succ, List.nil_append, List.cons_append]
            refine wk_assign (.int .i64 0) rfl rfl rfl rfl ?_
            dsimp only [putL, setL, List.set_cons_zero, List.set_cons_succ, List.nil_append, List.cons_append]
            refine wk_nil ?_
            refine sp_seq rfl ?_
            refine sp_seq rfl ?_
            refine sp_region (π := [0, 1, 2, 3, 4, 5, 6, 7, 8, 9, 10, 11, 12, 13, 14, 15, 16, 17, 18, 19, 20, 21, 22, 23, 24, 25, 26, 27, 28, 29]) [] rfl rfl ?_
            refine wk_move (.slice a15 i cp15) rfl rfl rfl rfl ?_
            dsimp only [putL, setL, List.set_cons_zero, List.set_cons_succ, List.nil_append, List.cons_append]
            refine wk_move (.slice a17 i cp17) rfl rfl rfl rfl ?_
            dsimp only [putL, setL, List.set_cons_zero, List.set_cons_succ, List.nil_append, List.cons_append]
            refine wk_callW [(.slice a15 i cp15), (.slice a17 i cp17)] (.bool true) rfl rfl rfl (enters_of Try.func65 (by kernel_rfl) (by kernel_rfl)) rfl (fun M' w' hm hst => nums_same' (weightsTo (modW 1) (xsS ls) (xsS ls).length) i _ _ ((weightsTo_len (modW 1) (xsS ls) (xsS ls).length).trans ((xsS_len ls).trans (show ls.length = i by omega))) (weightsTo_lt ok1 _ _) (by omega) _ i _ (by omega) w' (hsh15.holds hst (fun p hp => hm p (by simp [hp]))) (hsh17.holds hst (fun p hp => hm p (by simp [hp])))) ?_
            dsimp only [putL, setL, List.set_cons_zero, List.set_cons_succ, List.nil_append, List.cons_append]
            refine wk_not true rfl rfl rfl rfl ?_
            dsimp only [putL, setL, List.set_cons_zero, List.set_cons_succ, List.nil_append, List.cons_append]
            refine wk_move (.bool false) rfl rfl rfl rfl ?_
            dsimp only [putL, setL, List.set_cons_zero, List.set_cons_succ, List.nil_append, List.cons_append]
            refine wk_move (.int .i64 0) rfl rfl rfl rfl ?_
            dsimp only [putL, setL, List.set_cons_zero, List.set_cons_succ, List.nil_append, List.cons_append]
            refine wk_move (.int .i64 0) rfl rfl rfl rfl ?_
            dsimp only [putL, setL, List.set_cons_zero, List.set_cons_succ, List.nil_append, List.cons_append]
            refine wk_iop (.bool false) rfl rfl rfl rfl rfl rfl (iop_neq_f (by decide)) ?_
            dsimp only [putL, setL, List.set_cons_zero, List.set_cons_succ, List.nil_append, List.cons_append]
            refine wk_pick false (.bool false) rfl rfl rfl rfl rfl ?_
            dsimp only [putL, setL, List.set_cons_zero, List.set_cons_succ, List.nil_append, List.cons_append]
            refine wk_move (.bool false) rfl rfl rfl rfl ?_
            dsimp only [putL, setL, List.set_cons_zero, List.set_cons_succ, List.nil_append, List.cons_append]
            refine wk_ldN 1 rfl rfl rfl rfl rfl ?_
            dsimp only [putL, setL, List.set_cons_zero, List.set_cons_succ, List.nil_append, List.cons_append]
            refine wk_ldN 0 rfl rfl rfl rfl rfl ?_
            dsimp only [putL, setL, List.set_cons_zero, List.set_cons_succ, List.nil_append, List.cons_append]
            refine wk_neN false rfl rfl rfl rfl rfl (zeroTo_lt (modW_pos ok1) (modW_lt 1) _ _ _) (zeroTo_lt (modW_pos ok1) (modW_lt 1) _ _ _) (decide_eq_true rfl) ?_
            dsimp only [putL, setL, List.set_cons_zero, List.set_cons_succ, List.nil_append, List.cons_append]
            refine wk_pick false (.bool false) rfl rfl rfl rfl rfl ?_
            dsimp only [putL, setL, List.set_cons_zero, List.set_cons_succ, List.nil_append, List.cons_append]
            refine wk_move (.bool false) rfl rfl rfl rfl ?_
            dsimp only [putL, setL, List.set_cons_zero, List.set_cons_succ, List.nil_append, List.cons_append]
            refine wk_move (.int .i64 0) rfl rfl rfl rfl ?_
            dsimp only [putL, setL, List.set_cons_zero, List.set_cons_succ, List.nil_append, List.cons_append]
            refine wk_move (.int .i64 0) rfl rfl rfl rfl ?_
            dsimp only [putL, setL, List.set_cons_zero, List.set_cons_succ, List.nil_append, List.cons_append]
            refine wk_iop (.bool false) rfl rfl rfl rfl rfl rfl (iop_neq_f (by decide)) ?_
            dsimp only [putL, setL, List.set_cons_zero, List.set_cons_succ, List.nil_append, List.cons_append]
            refine wk_pick false (.bool false) rfl rfl rfl rfl rfl ?_
            dsimp only [putL, setL, List.set_cons_zero, List.set_cons_succ, List.nil_append, List.cons_append]
            refine wk_move (.bool false) rfl rfl rfl rfl ?_
            dsimp only [putL, setL, List.set_cons_zero, List.set_cons_succ, List.nil_append, List.cons_append]
            refine wk_move (.slice a21 i cp21) rfl rfl rfl rfl ?_
            dsimp only [putL, setL, List.set_cons_zero, List.set_cons_succ, List.nil_append, List.cons_append]
            refine wk_move (.slice a23 ls.length cp23) rfl rfl rfl rfl ?_
            dsimp only [putL, setL, List.set_cons_zero, List.set_cons_succ, List.nil_append, List.cons_append]
            refine wk_callW [(.slice a21 i cp21), (.slice a23 ls.length cp23)] (.bool true) rfl rfl rfl (enters_of Try.func65 (by kernel_rfl) (by kernel_rfl)) rfl (fun M' w' hm hst => nums_same' (thruL (modW 1) ls) i _ _ ((th_len hw0).trans (show ls.length = i by omega)) (th_lt hw0) (by omega) _ ls.length _ (by omega) w' (hsh21.holds hst (fun p hp => hm p (by simp [hp]))) (hsh23.holds hst (fun p hp => hm p (by simp [hp])))) ?_
            dsimp only [putL, setL, List.set_cons_zero, List.set_cons_succ, List.nil_append, List.cons_append]
            refine wk_not true rfl rfl rfl rfl ?_
            dsimp only [putL, setL, List.set_cons_zero, List.set_cons_succ, List.nil_append, List.cons_append]
            refine wk_pick false (.bool false) rfl rfl rfl rfl rfl ?_
            dsimp only [putL, setL, List.set_cons_zero, List.set_cons_succ, List.nil_append, List.cons_append]
            refine wk_move (.bool false) rfl rfl rfl rfl ?_
            dsimp only [putL, setL, List.set_cons_zero, List.set_cons_succ, List.nil_append, List.cons_append]
            refine wk_move (.int .i64 0) rfl rfl rfl rfl ?_
            dsimp only [putL, setL, List.set_cons_zero, List.set_cons_succ, List.nil_append, List.cons_append]
            refine wk_move (.int .i64 0) rfl rfl rfl rfl ?_
            dsimp only [putL, setL, List.set_cons_zero, List.set_cons_succ, List.nil_append, List.cons_append]
            refine wk_iop (.bool false) rfl rfl rfl rfl rfl rfl (iop_neq_f (by decide)) ?_
            dsimp only [putL, setL, List.set_cons_zero, List.set_cons_succ, List.nil_append, List.cons_append]
            refine wk_pick false (.bool false) rfl rfl rfl rfl rfl ?_
            dsimp only [putL, setL, List.set_cons_zero, List.set_cons_succ, List.nil_append, List.cons_append]
            refine wk_nil ?_
            refine sp_false rfl rfl ?_
            refine sp_skip rfl ?_
            refine sp_seq rfl ?_
            refine sp_seq rfl ?_
            refine sp_region (π := [0]) [] rfl rfl ?_
            refine wk_assign (.int .i64 0) rfl rfl rfl rfl ?_
            dsimp only [putL, setL, List.set_cons_zero, List.set_cons_succ, List.nil_append, List.cons_append]
            refine wk_nil ?_
            refine sp_block rfl ?_
            refine sp_loopg rfl (fun n l M => ∃ k : Nat, ∃ d6 : Value, ∃ d128 : Value, ∃ d129 : Value, ∃ d130 : Value, ∃ d131 : Value, ∃ d132 : Value, ∃ d133 : Value, ∃ d134 : Value, ∃ d135 : Value, ∃ d136 : Value, ∃ d137 : Value, ∃ d138 : Value, ∃ d139 : Value, ∃ d140 : Value, ∃ d141 : Value, ∃ d142 : Value, ∃ d143 : Value, ∃ d144 : Value, ∃ d145 : Value, ∃ d146 : Value, ∃ d147 : Value, ∃ d148 : Value, ∃ d149 : Value, ∃ d150 : Value, ∃ d151 : Value, ∃ d152 : Value, ∃ d153 : Value, ∃ d154 : Value, ∃ d155 : Value, ∃ d156 : Value, ∃ d157 : Value, ∃ d158 : Value, ∃ d159 : Value, ∃ d160 : Value, ∃ d161 : Value, ∃ d162 : Value, ∃ d163 : Value, ∃ d164 : Value, ∃ d165 : Value, ∃ d166 : Value, ∃ d167 : Value, ∃ d168 : Value, ∃ d169 : Value, l = [(.slice a_c c.length c_c), (numV x), (.slice a_ls ls.length c_ls), undef, (.pointer (some ⟨β1, 0, none⟩)), undef, d6, (.slice a5 c.length cp5), (.slice a12 i cp12), (.slice a13 i cp13), (.int .i64 (i : Int)), (.slice a15 i cp15), (.int .i64 0), (.slice a17 i cp17), (.int .i64 0), (.pointer (some ⟨β18, 0, none⟩)), (.int .i64 0), (.pointer (some ⟨β19, 0, none⟩)), (.int .i64 0), (.slice a21 i cp21), (.int .i64 0), (.slice a23 ls.length cp23), (.int .i64 0), (.int .i64 (k : Int)), (.slice a_c c.length c_c), (.int .i64 ((c.length : Nat) : Int)), (.bool false), (.bool false), (.slice a_ls ls.length c_ls), (.int .i64 ((ls.length : Nat) : Int)), (.bool false), (.bool false), (.slice a_c c.length c_c), (.slice a5 c.length cp5), (.int .i64 (i : Int)), (.slice a_ls ls.length c_ls), (.int .i64 ((ls.length : Nat) : Int)), (.bool false), d38, d39, d40, d41, d42, d43, d44, d45, d46, d47, d48, d49, d50, d51, d52, d53, d54, (.slice a5 c.length cp5), (numV x), (numV (evalL (modW 1) c x)), (.slice a_c c.length c_c), (numV x), (numV (evalL (modW 1) c x)), (.bool false), (.bool false), (.slice a5 c.length cp5), (.slice a_c c.length c_c), (.bool true), (.bool false), (.bool false), (.tuple #[(.slice a15 i cp15), (.int .i64 0)]), (.slice a13 i cp13), (.tuple #[(.slice a15 i cp15), (.int .i64 0)]), (.slice a15 i cp15), (.int .i64 0), (.tuple #[(.slice a17 i cp17), (.int .i64 0)]), (.slice a13 i cp13), (.tuple #[(.slice a17 i cp17), (.int .i64 0)]), (.slice a17 i cp17), (.int .i64 0), (.tuple #[(numV (zeroTo (modW 1) (weightsTo (modW 1) (xsS ls) (xsS ls).length) ls ls.length)), (.int .i64 0)]), (.slice a12 i cp12), (.tuple #[(numV (zeroTo (modW 1) (weightsTo (modW 1) (xsS ls) (xsS ls).length) ls ls.length)), (.int .i64 0)]), (numV (zeroTo (modW 1) (weightsTo (modW 1) (xsS ls) (xsS ls).length) ls ls.length)), (.int .i64 0), (.tuple #[(numV (zeroTo (modW 1) (weightsTo (modW 1) (xsS ls) (xsS ls).length) ls ls.length)), (.int .i64 0)]), (.slice a_ls ls.length c_ls), (.tuple #[(numV (zeroTo (modW 1) (weightsTo (modW 1) (xsS ls) (xsS ls).length) ls ls.length)), (.int .i64 0)]), (numV (zeroTo (modW 1) (weightsTo (modW 1) (xsS ls) (xsS ls).length) ls ls.length)), (.int .i64 0), (.tuple #[(.slice a21 i cp21), (.int .i64 0)]), (.slice a12 i cp12), (.tuple #[(.slice a21 i cp21), (.int .i64 0)]), (.slice a21 i cp21), (.int .i64 0), (.tuple #[(.slice a23 ls.length cp23), (.int .i64 0)]), (.slice a_ls ls.length c_ls), (.tuple #[(.slice a23 ls.length cp23), (.int .i64 0)]), (.slice a23 ls.length cp23), (.int .i64 0), (.slice a15 i cp15), (.slice a17 i cp17), (.bool true), (.bool false), (.bool false), (.int .i64 0), (.int .i64 0), (.bool false), (.bool false), (.bool false), (numV (zeroTo (modW 1) (weightsTo (modW 1) (xsS ls) (xsS ls).length) ls ls.length)), (numV (zeroTo (modW 1) (weightsTo (modW 1) (xsS ls) (xsS ls).length) ls ls.length)), (.bool false), (.bool false), (.bool false), (.int .i64 0), (.int .i64 0), (.bool false), (.bool false), (.bool false), (.slice a21 i cp21), (.slice a23 ls.length cp23), (.bool true), (.bool false), (.bool false), (.bool false), (.int .i64 0), (.int .i64 0), (.bool false), (.bool false), d128, d129, d130, d131, d132, d133, d134, d135, d136, d137, d138, d139, d140, d141, d142, d143, d144, d145, d146, d147, d148, d149, d150, d151, d152, d153, d154, d155, d156, d157, d158, d159, d160, d161, d162, d163, d164, d165, d166, d167, d168, d169, undef] ∧ (β19, numO (zeroTo (modW 1) (weightsTo (modW 1) (xsS ls) (xsS ls).length) ls ls.length)) :: (β18, numO (zeroTo (modW 1) (weightsTo (modW 1) (xsS ls) (xsS ls).length) ls ls.length)) :: (β1, numO x) :: (S4 ++ (S ++ (T ++ (S14 ++ (S16 ++ (S20 ++ S22)))))) = M ∧ (k ≤ ls.length) ∧ n = ls.length - k) (ls.length - 0) ?_ ?_
            · exact ⟨0, (.bool false), undef, undef, undef, undef, undef, undef, undef, undef, undef, undef, undef, undef, undef, undef, undef, undef, undef, undef, undef, undef, undef, undef, undef, undef, undef, undef, undef, undef, undef, undef, undef, undef, undef, undef, undef, undef, undef, undef, undef, undef, undef, undef, rfl, rfl, (Nat.zero_le _), rfl⟩
            · skip
              intro n l M
              refine exists_imp.2 fun k => ?_
              refine exists_imp.2 fun d6 => ?_
              refine exists_imp.2 fun d128 => ?_
              refine exists_imp.2 fun d129 => ?_
              refine exists_imp.2 fun d130 => ?_
              refine exists_imp.2 fun d131 => ?_
              refine exists_imp.2 fun d132 => ?_
              refine exists_imp.2 fun d133 => ?_
              refine exists_imp.2 fun d134 => ?_
              refine exists_imp.2 fun d135 => ?_
              refine exists_imp.2 fun d136 => ?_
              refine exists_imp.2 fun d137 => ?_
              refine exists_imp.2 fun d138 => ?_
              refine exists_imp.2 fun d139 => ?_
              refine exists_imp.2 fun d140 => ?_
              refine exists_imp.2 fun d141 => ?_
              refine exists_imp.2 fun d142 => ?_
              refine exists_imp.2 fun d143 => ?_
              refine exists_imp.2 fun d144 => ?_
              refine exists_imp.2 fun d145 => ?_
              refine exists_imp.2 fun d146 => ?_
              refine exists_imp.2 fun d147 => ?_
              refine exists_imp.2 fun d148 => ?_
              refine exists_imp.2 fun d149 => ?_
              refine exists_imp.2 fun d150 => ?_
              refine exists_imp.2 fun d151 => ?_
              refine exists_imp.2 fun d152 => ?_
              refine exists_imp.2 fun d153 => ?_
              refine exists_imp.2 fun d154 => ?_
              refine exists_imp.2 fun d155 => ?_
              refine exists_imp.2 fun d156 => ?_
              refine exists_imp.2 fun d157 => ?_
              refine exists_imp.2 fun d158 => ?_
              refine exists_imp.2 fun d159 => ?_
              refine exists_imp.2 fun d160 => ?_
              refine exists_imp.2 fun d161 => ?_
              refine exists_imp.2 fun d162 => ?_
              refine exists_imp.2 fun d163 => ?_
              refine exists_imp.2 fun d164 => ?_
              refine exists_imp.2 fun d165 => ?_
              refine exists_imp.2 fun d166 => ?_
              refine exists_imp.2 fun d167 => ?_
              refine exists_imp.2 fun d168 => ?_
              refine exists_imp.2 fun d169 => ?_
              rintro ⟨rfl, rfl, hg0, rfl⟩
              refine sp_seq rfl ?_
              refine sp_seq rfl ?_
              refine sp_region (π := [0, 1, 2, 3]) [] rfl rfl ?_
              refine wk_move (.int .i64 (k : Int)) rfl rfl rfl rfl ?_
              dsimp only [putL, setL, List.set_cons_zero, List.set_cons_succ, List.nil_append, List.cons_append]
              refine wk_move (.slice a_ls ls.length c_ls) rfl rfl rfl rfl ?_
              dsimp only [putL, setL, List.set_cons_zero, List.set_cons_succ, List.nil_append, List.cons_append]
              refine wk_lenA rfl rfl rfl rfl Try.underlying63 ?_
              dsimp only [putL, setL, List.set_cons_zero, List.set_cons_succ, List.nil_append, List.cons_append]
              by_cases hc24 : (k : Int) < ((ls.length : Nat) : Int)
              · skip
                refine wk_iop (.bool true) rfl rfl rfl rfl rfl rfl (iop_lss_t hc24) ?_
                dsimp only [putL, setL, List.set_cons_zero, List.set_cons_succ, List.nil_append, List.cons_append]
                refine wk_nil ?_
                refine sp_true rfl rfl ?_
                refine sp_skip rfl ?_
                refine sp_seq rfl ?_
                refine sp_block rfl ?_
                refine sp_seq rfl ?_
                refine sp_draw [0, 1, 2, 3, 4, 5, 6, 7, 8, 9, 10, 11, 12, 13, 14, 15, 16, 17, 18, 19, 20, 21, 22, 23, 24, 25, 26, 27, 28, 29, 30, 31, 32, 33, 34, 35] [] mixed rfl (by kernel_rfl) (by kernel_rfl) ?_
                refine wk_move (.slice a12 i cp12) rfl rfl rfl rfl ?_
                dsimp only [putL, setL, List.set_cons_zero, List.set_cons_succ, List.nil_append, List.cons_append]
                refine wk_move (.int .i64 (k : Int)) rfl rfl rfl rfl ?_
                dsimp only [putL, setL, List.set_cons_zero, List.set_cons_succ, List.nil_append, List.cons_append]
                obtain ⟨β25, ha25, hr25⟩ := hsh12.at_ (shL_ne (k := k) (by have h0 := (show ls.length = i by omega); omega))
                refine wk_idxA k 8 rfl rfl rfl rfl ha25 rfl Try.underlying63 (by kernel_rfl) rfl (by omega) ?_
                dsimp only [putL, setL, List.set_cons_zero, List.set_cons_succ, List.nil_append, List.cons_append]
                refine wk_val (.pointer (some ⟨β25, 0 + k * 8, none⟩)) rfl rfl rfl (fun w => by kernel_rfl) ?_
                dsimp only [putL, setL, List.set_cons_zero, List.set_cons_succ, List.nil_append, List.cons_append]
                refine wk_ldXA rfl rfl rfl rfl (fun M' w' hm hst => hr25 w' (fun p hp => hst.own p (hm p (by simp [hp])))) (by have h0 := (show ls.length = i by omega); omega) ?_
                dsimp only [putL, setL, List.set_cons_zero, List.set_cons_succ, List.nil_append, List.cons_append]
                refine wk_move (.slice a_ls ls.length c_ls) rfl rfl rfl rfl ?_
                dsimp only [putL, setL, List.set_cons_zero, List.set_cons_succ, List.nil_append, List.cons_append]
                refine wk_move (.int .i64 (k : Int)) rfl rfl rfl rfl ?_
                dsimp only [putL, setL, List.set_cons_zero, List.set_cons_succ, List.nil_append, List.cons_append]
                obtain ⟨β26, o26, ha26, hr26⟩ := hH_ls.at_ (shL_ne (k := k) (by omega))
                refine wk_idxA k 8 rfl rfl rfl rfl ha26 rfl Try.underlying63 (by kernel_rfl) rfl (by omega) ?_
                dsimp only [putL, setL, List.set_cons_zero, List.set_cons_succ, List.nil_append, List.cons_append]
                refine wk_val (.pointer (some ⟨β26, o26 + k * 8, none⟩)) rfl rfl rfl (fun w => by kernel_rfl) ?_
                dsimp only [putL, setL, List.set_cons_zero, List.set_cons_succ, List.nil_append, List.cons_append]
                refine wk_ldXA rfl rfl rfl rfl (fun M' w' hm hst => old_range hr26 (shL_ne (k := k) (by omega)) hst) (by omega) ?_
                dsimp only [putL, setL, List.set_cons_zero, List.set_cons_succ, List.nil_append, List.cons_append]
                refine wk_neN false rfl rfl rfl rfl rfl (sx_lt1 w_ls) (sx_lt1 w_ls) (decide_eq_true rfl) ?_
                dsimp only [putL, setL, List.set_cons_zero, List.set_cons_succ, List.nil_append, List.cons_append]
                refine wk_move (.bool false) rfl rfl rfl rfl ?_
                dsimp only [putL, setL, List.set_cons_zero, List.set_cons_succ, List.nil_append, List.cons_append]
                refine wk_move (.slice a12 i cp12) rfl rfl rfl rfl ?_
                dsimp only [putL, setL, List.set_cons_zero, List.set_cons_succ, List.nil_append, List.cons_append]
                refine wk_move (.int .i64 (k : Int)) rfl rfl rfl rfl ?_
                dsimp only [putL, setL, List.set_cons_zero, List.set_cons_succ, List.nil_append, List.cons_append]
                refine wk_idxA k 8 rfl rfl rfl rfl ha25 rfl Try.underlying63 (by kernel_rfl) rfl (by omega) ?_
                dsimp only [putL, setL, List.set_cons_zero, List.set_cons_succ, List.nil_append, List.cons_append]
                refine wk_val (.pointer (some ⟨β25, 0 + k * 8 + 4, none⟩)) rfl rfl rfl (fun w => by kernel_rfl) ?_
                dsimp only [putL, setL, List.set_cons_zero, List.set_cons_succ, List.nil_append, List.cons_append]
                refine wk_ldYA rfl rfl rfl rfl (fun M' w' hm hst => hr25 w' (fun p hp => hst.own p (hm p (by simp [hp])))) (by have h0 := (show ls.length = i by omega); omega) ?_
                dsimp only [putL, setL, List.set_cons_zero, List.set_cons_succ, List.nil_append, List.cons_append]
                refine wk_move (.slice a_ls ls.length c_ls) rfl rfl rfl rfl ?_
                dsimp only [putL, setL, List.set_cons_zero, List.set_cons_succ, List.nil_append, List.cons_append]
                refine wk_move (.int .i64 (k : Int)) rfl rfl rfl rfl ?_
                dsimp only [putL, setL, List.set_cons_zero, List.set_cons_succ, List.nil_append, List.cons_append]
                refine wk_idxA k 8 rfl rfl rfl rfl ha26 rfl Try.underlying63 (by kernel_rfl) rfl (by omega) ?_
                dsimp only [putL, setL, List.set_cons_zero, List.set_cons_succ, List.nil_append, List.cons_append]
                refine wk_val (.pointer (some ⟨β26, o26 + k * 8 + 4, none⟩)) rfl rfl rfl (fun w => by kernel_rfl) ?_
                dsimp only [putL, setL, List.set_cons_zero, List.set_cons_succ, List.nil_append, List.cons_append]
                refine wk_ldYA rfl rfl rfl rfl (fun M' w' hm hst => old_range hr26 (shL_ne (k := k) (by omega)) hst) (by omega) ?_
                dsimp only [putL, setL, List.set_cons_zero, List.set_cons_succ, List.nil_append, List.cons_append]
                refine wk_neN false rfl rfl rfl rfl rfl (sx_lt2 w_ls) (sx_lt2 w_ls) (decide_eq_true rfl) ?_
                dsimp only [putL, setL, List.set_cons_zero, List.set_cons_succ, List.nil_append, List.cons_append]
                refine wk_pick false (.bool false) rfl rfl rfl rfl rfl ?_
                dsimp only [putL, setL, List.set_cons_zero, List.set_cons_succ, List.nil_append, List.cons_append]
                refine wk_move (.bool false) rfl rfl rfl rfl ?_
                dsimp only [putL, setL, List.set_cons_zero, List.set_cons_succ, List.nil_append, List.cons_append]
                refine wk_move (.slice a13 i cp13) rfl rfl rfl rfl ?_
                dsimp only [putL, setL, List.set_cons_zero, List.set_cons_succ, List.nil_append, List.cons_append]
                refine wk_move (.int .i64 (k : Int)) rfl rfl rfl rfl ?_
                dsimp only [putL, setL, List.set_cons_zero, List.set_cons_succ, List.nil_append, List.cons_append]
                obtain ⟨β27, ha27, hr27⟩ := hsh13.at_ (rowL_ne (k := k) (by have h0 := ((xsS_len ls).trans (show ls.length = i by omega)); omega))
                refine wk_idxA k 4 rfl rfl rfl rfl ha27 rfl Try.underlying57 (by kernel_rfl) rfl (by omega) ?_
                dsimp only [putL, setL, List.set_cons_zero, List.set_cons_succ, List.nil_append, List.cons_append]
                refine wk_ldA rfl rfl rfl rfl (fun M' w' hm hst => hr27 w' (fun p hp => hst.own p (hm p (by simp [hp])))) (by have h0 := ((xsS_len ls).trans (show ls.length = i by omega)); omega) ?_
                dsimp only [putL, setL, List.set_cons_zero, List.set_cons_succ, List.nil_append, List.cons_append]
                refine wk_move (.slice a_ls ls.length c_ls) rfl rfl rfl rfl ?_
                dsimp only [putL, setL, List.set_cons_zero, List.set_cons_succ, List.nil_append, List.cons_append]
                refine wk_move (.int .i64 (k : Int)) rfl rfl rfl rfl ?_
                dsimp only [putL, setL, List.set_cons_zero, List.set_cons_succ, List.nil_append, List.cons_append]
                refine wk_idxA k 8 rfl rfl rfl rfl ha26 rfl Try.underlying63 (by kernel_rfl) rfl (by omega) ?_
                dsimp only [putL, setL, List.set_cons_zero, List.set_cons_succ, List.nil_append, List.cons_append]
                refine wk_val (.pointer (some ⟨β26, o26 + k * 8, none⟩)) rfl rfl rfl (fun w => by kernel_rfl) ?_
                dsimp only [putL, setL, List.set_cons_zero, List.set_cons_succ, List.nil_append, List.cons_append]
                refine wk_ldXA rfl rfl rfl rfl (fun M' w' hm hst => old_range hr26 (shL_ne (k := k) (by omega)) hst) (by omega) ?_
                dsimp only [putL, setL, List.set_cons_zero, List.set_cons_succ, List.nil_append, List.cons_append]
                refine wk_neN false rfl rfl rfl rfl rfl (ix_lt (xsS_bound w_ls)) (sx_lt1 w_ls) (decide_eq_true (xsS_ix (by omega))) ?_
                dsimp only [putL, setL, List.set_cons_zero, List.set_cons_succ, List.nil_append, List.cons_append]
                refine wk_pick false (.bool false) rfl rfl rfl rfl rfl ?_
                dsimp only [putL, setL, List.set_cons_zero, List.set_cons_succ, List.nil_append, List.cons_append]
                refine wk_nil ?_
                refine sp_false rfl rfl ?_
                refine sp_skip rfl ?_
                refine sp_region (π := [0, 1, 2]) [] rfl rfl ?_
                refine wk_move (.int .i64 (k : Int)) rfl rfl rfl rfl ?_
                dsimp only [putL, setL, List.set_cons_zero, List.set_cons_succ, List.nil_append, List.cons_append]
                refine wk_iop (.int .i64 ((k : Int) + 1)) rfl rfl rfl rfl rfl rfl (iop_add (by omega) (by omega)) ?_
                dsimp only [putL, setL, List.set_cons_zero, List.set_cons_succ, List.nil_append, List.cons_append]
                refine wk_assign (.int .i64 ((k : Int) + 1)) rfl rfl rfl rfl ?_
                dsimp only [putL, setL, List.set_cons_zero, List.set_cons_succ, List.nil_append, List.cons_append]
                refine wk_nil ?_
                exact ⟨(β19, numO (zeroTo (modW 1) (weightsTo (modW 1) (xsS ls) (xsS ls).length) ls ls.length)) :: (β18, numO (zeroTo (modW 1) (weightsTo (modW 1) (xsS ls) (xsS ls).length) ls ls.length)) :: (β1, numO x) :: (S4 ++ (S ++ (T ++ (S14 ++ (S16 ++ (S20 ++ S22)))))), _, List.Sublist.refl _, ⟨(k + 1), d6, (.int .i64 (k : Int)), (.slice a_ls ls.length c_ls), (.int .i64 ((ls.length : Nat) : Int)), (.bool true), (.int .i64 (k : Int)), (.int .i64 ((k : Int) + 1)), (.slice a12 i cp12), (.int .i64 (k : Int)), (.pointer (some ⟨β25, 0 + k * 8, none⟩)), (.pointer (some ⟨β25, 0 + k * 8, none⟩)), (numV (sx ls k).1), (.slice a_ls ls.length c_ls), (.int .i64 (k : Int)), (.pointer (some ⟨β26, o26 + k * 8, none⟩)), (.pointer (some ⟨β26, o26 + k * 8, none⟩)), (numV (sx ls k).1), (.bool false), (.bool false), (.slice a12 i cp12), (.int .i64 (k : Int)), (.pointer (some ⟨β25, 0 + k * 8, none⟩)), (.pointer (some ⟨β25, 0 + k * 8 + 4, none⟩)), (numV (sx ls k).2), (.slice a_ls ls.length c_ls), (.int .i64 (k : Int)), (.pointer (some ⟨β26, o26 + k * 8, none⟩)), (.pointer (some ⟨β26, o26 + k * 8 + 4, none⟩)), (numV (sx ls k).2), (.bool false), (.bool false), (.bool false), (.slice a13 i cp13), (.int .i64 (k : Int)), (.pointer (some ⟨β27, 0 + k * 4, none⟩)), (numV (ix (xsS ls) k)), (.slice a_ls ls.length c_ls), (.int .i64 (k : Int)), (.pointer (some ⟨β26, o26 + k * 8, none⟩)), (.pointer (some ⟨β26, o26 + k * 8, none⟩)), (numV (sx ls k).1), (.bool false), (.bool false), rfl, rfl, (by omega), rfl⟩, (by omega)⟩
              · skip
                refine wk_iop (.bool false) rfl rfl rfl rfl rfl rfl (iop_lss_f hc24) ?_
                dsimp only [putL, setL, List.set_cons_zero, List.set_cons_succ, List.nil_append, List.cons_append]
                refine wk_nil ?_
                refine sp_false rfl rfl ?_
                refine sp_exit rfl ?_
                refine sp_seq rfl ?_
                refine sp_region (π := [0, 1]) [] rfl rfl ?_
                refine wk_call [] (.bool true) rfl rfl rfl (enters_of Try.func61 (by kernel_rfl) (by kernel_rfl)) rfl wakes6_calls ?_
                dsimp only [putL, setL, List.set_cons_zero, List.set_cons_succ, List.nil_append, List.cons_append]
                refine wk_assign (.bool true) rfl rfl rfl rfl ?_
                dsimp only [putL, setL, List.set_cons_zero, List.set_cons_succ, List.nil_append, List.cons_append]
                refine wk_nil ?_
                refine sp_ret rfl ?_
                exact ret_tmps (v := .bool true) (fun w' => by kernel_rfl) fun w' hw => ⟨rfl, hw.below⟩
          · skip
            refine wk_callW [(.slice a13 i cp13)] (.tuple #[(.slice none 0 0), (.int .i64 (wrongI (modW 1) (xsS ls)))]) rfl rfl rfl (enters_of Try.func60 (by kernel_rfl) (by kernel_rfl)) rfl (fun M' w' hm hst => weights_no' (xsS ls) i _ _ ((xsS_len ls).trans (show ls.length = i by omega)) (xsS_bound w_ls) (by omega) hcp13 hw0 w' (hsh13.holds hst (fun p hp => hm p (by simp [hp])))) ?_
            dsimp only [putL, setL, List.set_cons_zero, List.set_cons_succ, List.nil_append, List.cons_append]
            refine wk_move (.tuple #[(.slice none 0 0), (.int .i64 (wrongI (modW 1) (xsS ls)))]) rfl rfl rfl rfl ?_
            dsimp only [putL, setL, List.set_cons_zero, List.set_cons_succ, List.nil_append, List.cons_append]
            refine wk_ext (.slice none 0 0) rfl rfl rfl rfl rfl ?_
            dsimp only [putL, setL, List.set_cons_zero, List.set_cons_succ, List.nil_append, List.cons_append]
            refine wk_ext (.int .i64 (wrongI (modW 1) (xsS ls))) rfl rfl rfl rfl rfl ?_
            dsimp only [putL, setL, List.set_cons_zero, List.set_cons_succ, List.nil_append, List.cons_append]
            refine wk_assign (.slice none 0 0) rfl rfl rfl rfl ?_
            dsimp only [putL, setL, List.set_cons_zero, List.set_cons_succ, List.nil_append, List.cons_append]
            refine wk_assign (.int .i64 (wrongI (modW 1) (xsS ls))) rfl rfl rfl rfl ?_
            dsimp only [putL, setL, List.set_cons_zero, List.set_cons_succ, List.nil_append, List.cons_append]
            refine wk_nil ?_
            refine sp_seq rfl ?_
            refine sp_region (π := [0, 1, 2, 3, 4, 5, 6]) [] rfl rfl ?_
            refine wk_move (.slice a13 i cp13) rfl rfl rfl rfl ?_
            dsimp only [putL, setL, List.set_cons_zero, List.set_cons_succ, List.nil_append, List.cons_append]
            refine wk_callW [(.slice a13 i cp13)] (.tuple #[(.slice none 0 0), (.int .i64 (wrongI (modW 1) (xsS ls)))]) rfl rfl rfl (enters_of Try.func66 (by kernel_rfl) (by kernel_rfl)) rfl (fun M' w' hm hst => rweights_no' (xsS ls) i _ _ ((xsS_len ls).trans (show ls.length = i by omega)) (xsS_bound w_ls) (by omega) hcp13 hw0 w' (hsh13.holds hst (fun p hp => hm p (by simp [hp])))) ?_
            dsimp only [putL, setL, List.set_cons_zero, List.set_cons_succ, List.nil_append, List.cons_append]
            refine wk_move (.tuple #[(.slice none 0 0), (.int .i64 (wrongI (modW 1) (xsS ls)))]) rfl rfl rfl rfl ?_
            dsimp only [putL, setL, List.set_cons_zero, List.set_cons_succ, List.nil_append, List.cons_append]
            refine wk_ext (.slice none 0 0) rfl rfl rfl rfl rfl ?_
            dsimp only [putL, setL, List.set_cons_zero, List.set_cons_succ, List.nil_append, List.cons_append]
            refine wk_ext (.int .i64 (wrongI (modW 1) (xsS ls))) rfl rfl rfl rfl rfl ?_
            dsimp only [putL, setL, List.set_cons_zero, List.set_cons_succ, List.nil_append, List.cons_append]
            refine wk_assign (.slice none 0 0) rfl rfl rfl rfl ?_
            dsimp only [putL, setL, List.set_cons_zero, List.set_cons_succ, List.nil_append, List.cons_append]
            refine wk_assign (.int .i64 (wrongI (modW 1) (xsS ls))) rfl rfl rfl rfl ?_
            dsimp only [putL, setL, List.set_cons_zero, List.set_cons_succ, List.nil_append, List.cons_append]
            refine wk_nil ?_
            refine sp_seq rfl ?_
            refine sp_region (π := [0, 1, 2, 3, 4, 5, 6, 7]) [] rfl rfl ?_
            refine wk_move (.slice a12 i cp12) rfl rfl rfl rfl ?_
            dsimp only [putL, setL, List.set_cons_zero, List.set_cons_succ, List.nil_append, List.cons_append]
            refine wk_callW [(.slice a12 i cp12)] (.tuple #[(numV 0), (.int .i64 (wrongI (modW 1) (xsS ls)))]) rfl rfl rfl (enters_of Try.func62 (by kernel_rfl) (by kernel_rfl)) rfl (fun M' w' hm hst => zero_no ls i _ _ (show ls.length = i by omega) w_ls (by omega) hcp12 hw0 w' (hsh12.holds hst (fun p hp => hm p (by simp [hp])))) ?_
            dsimp only [putL, setL, List.set_cons_zero, List.set_cons_succ, List.nil_append, List.cons_append]
            refine wk_move (.tuple #[(numV 0), (.int .i64 (wrongI (modW 1) (xsS ls)))]) rfl rfl rfl rfl ?_
            dsimp only [putL, setL, List.set_cons_zero, List.set_cons_succ, List.nil_append, List.cons_append]
            refine wk_ext (numV 0) rfl rfl rfl rfl rfl ?_
            dsimp only [putL, setL, List.set_cons_zero, List.set_cons_succ, List.nil_append, List.cons_append]
            refine wk_ext (.int .i64 (wrongI (modW 1) (xsS ls))) rfl rfl rfl rfl rfl ?_
            dsimp only [putL, setL, List.set_cons_zero, List.set_cons_succ, List.nil_append, List.cons_append]
            refine wkf_newN rfl rfl fun β28 => ?_
            dsimp only [putL, setL, List.set_cons_zero, List.set_cons_succ, List.nil_append, List.cons_append]
            refine wk_stN 0 0 rfl rfl rfl rfl rfl rfl ?_
            dsimp only [putL, setL, List.set_cons_zero, List.set_cons_succ, List.nil_append, List.cons_append]
            refine wk_assign (.int .i64 (wrongI (modW 1) (xsS ls))) rfl rfl rfl rfl ?_
            dsimp only [putL, setL, List.set_cons_zero, List.set_cons_succ, List.nil_append, List.cons_append]
            refine wk_nil ?_
            refine sp_seq rfl ?_
            refine sp_region (π := [0, 1, 2, 3, 4, 5, 6, 7]) [] rfl rfl ?_
            refine wk_move (.slice a_ls ls.length c_ls) rfl rfl rfl rfl ?_
            dsimp only [putL, setL, List.set_cons_zero, List.set_cons_succ, List.nil_append, List.cons_append]
            refine wk_callW [(.slice a_ls ls.length c_ls)] (.tuple #[(numV 0), (.int .i64 (wrongI (modW 1) (xsS ls)))]) rfl rfl rfl (enters_of Try.func67 (by kernel_rfl) (by kernel_rfl)) rfl (fun M' w' hm hst => rzero_no ls ls.length _ _ rfl w_ls (by omega) hc_ls hw0 w' (hH_ls.old hst)) ?_
            dsimp only [putL, setL, List.set_cons_zero, List.set_cons_succ, List.nil_append, List.cons_append]
            refine wk_move (.tuple #[(numV 0), (.int .i64 (wrongI (modW 1) (xsS ls)))]) rfl rfl rfl rfl ?_
            dsimp only [putL, setL, List.set_cons_zero, List.set_cons_succ, List.nil_append, List.cons_append]
            refine wk_ext (numV 0) rfl rfl rfl rfl rfl ?_
            dsimp only [putL, setL, List.set_cons_zero, List.set_cons_succ, List.nil_append, List.cons_append]
            refine wk_ext (.int .i64 (wrongI (modW 1) (xsS ls))) rfl rfl rfl rfl rfl ?_
            dsimp only [putL, setL, List.set_cons_zero, List.set_cons_succ, List.nil_append, List.cons_append]
            refine wkf_newN rfl rfl fun β29 => ?_
            dsimp only [putL, setL, List.set_cons_zero, List.set_cons_succ, List.nil_append, List.cons_append]
            refine wk_stN 0 0 rfl rfl rfl rfl rfl rfl ?_
            dsimp only [putL, setL, List.set_cons_zero, List.set_cons_succ, List.nil_append, List.cons_append]
            refine wk_assign (.int .i64 (wrongI (modW 1) (xsS ls))) rfl rfl rfl rfl ?_
            dsimp only [putL, setL, List.set_cons_zero, List.set_cons_succ, List.nil_append, List.cons_append]
            refine wk_nil ?_
            refine sp_seq rfl ?_
            refine sp_region (π := [0, 1, 2, 3, 4, 5, 6]) [] rfl rfl ?_
            refine wk_move (.slice a12 i cp12) rfl rfl rfl rfl ?_
            dsimp only [putL, setL, List.set_cons_zero, List.set_cons_succ, List.nil_append, List.cons_append]
            refine wk_callW [(.slice a12 i cp12)] (.tuple #[(.slice none 0 0), (.int .i64 (wrongI (modW 1) (xsS ls)))]) rfl rfl rfl (enters_of Try.func68 (by kernel_rfl) (by kernel_rfl)) rfl (fun M' w' hm hst => through_no ls i _ _ (show ls.length = i by omega) w_ls (by omega) hw0 w' (hsh12.holds hst (fun p hp => hm p (by simp [hp])))) ?_
            dsimp only [putL, setL, List.set_cons_zero, List.set_cons_succ, List.nil_append, List.cons_append]
            refine wk_move (.tuple #[(.slice none 0 0), (.int .i64 (wrongI (modW 1) (xsS ls)))]) rfl rfl rfl rfl ?_
            dsimp only [putL, setL, List.set_cons_zero, List.set_cons_succ, List.nil_append, List.cons_append]
            refine wk_ext (.slice none 0 0) rfl rfl rfl rfl rfl ?_
            dsimp only [putL, setL, List.set_cons_zero, List.set_cons_succ, List.nil_append, List.cons_append]
            refine wk_ext (.int .i64 (wrongI (modW 1) (xsS ls))) rfl rfl rfl rfl rfl ?_
            dsimp only [putL, setL, List.set_cons_zero, List.set_cons_succ, List.nil_append, List.cons_append]
            refine wk_assign (.slice none 0 0) rfl rfl rfl rfl ?_
            dsimp only [putL, setL, List.set_cons_zero, List.set_cons_succ, List.nil_append, List.cons_append]
            refine wk_assign (.int .i64 (wrongI (modW 1) (xsS ls))) rfl rfl rfl rfl ?_
            dsimp only [putL, setL, List.set_cons_zero, List.set_cons_succ, List.nil_append, List.cons_append]
            refine wk_nil ?_
            refine sp_seq rfl ?_
            refine sp_region (π := [0, 1, 2, 3, 4, 5, 6]) [] rfl rfl ?_
            refine wk_move (.slice a_ls ls.length c_ls) rfl rfl rfl rfl ?_
            dsimp only [putL, setL, List.set_cons_zero, List.set_cons_succ, List.nil_append, List.cons_append]
            refine wk_callW [(.slice a_ls ls.length c_ls)] (.tuple #[(.slice none 0 0), (.int .i64 (wrongI (modW 1) (xsS ls)))]) rfl rfl rfl (enters_of Try.func69 (by kernel_rfl) (by kernel_rfl)) rfl (fun M' w' hm hst => rthrough_no ls ls.length _ _ rfl w_ls (by omega) hw0 w' (hH_ls.old hst)) ?_
            dsimp only [putL, setL, List.set_cons_zero, List.set_cons_succ, List.nil_append, List.cons_append]
            refine wk_move (.tuple #[(.slice none 0 0), (.int .i64 (wrongI (modW 1) (xsS ls)))]) rfl rfl rfl rfl ?_
            dsimp only [putL, setL, List.set_cons_zero, List.set_cons_succ, List.nil_append, List.cons_append]
            refine wk_ext (.slice none 0 0) rfl rfl rfl rfl rfl ?_
            dsimp only [putL, setL, List.set_cons_zero, List.set_cons_succ, List.nil_append, List.cons_append]
            refine wk_ext (.int .i64 (wrongI (modW 1) (xsS ls))) rfl rfl rfl rfl rfl ?_
            dsimp only [putL, setL, List.set_cons_zero, List.set_cons_succ, List.nil_append, List.cons_append]
            refine wk_assign (.slice none 0 0) rfl rfl rfl rfl ?_
            dsimp only [putL, setL, List.set_cons_zero, List.set_cons_succ, List.nil_append, List.cons_append]
            refine wk_assign (.int .i64 (wrongI (modW 1) (xsS ls))) rfl rfl rfl rfl ?_
            dsimp only [putL, setL, List.set_cons_zero, List.set_cons_succ, List.nil_append, List.cons_append]
            refine wk_nil ?_
            refine sp_seq rfl ?_
            refine sp_seq rfl ?_
            refine sp_region (π := [0, 1, 2, 3, 4, 5, 6, 7, 8, 9, 10, 11, 12, 13, 14, 15, 16, 17, 18, 19, 20, 21, 22, 23, 24, 25, 26, 27, 28, 29]) [] rfl rfl ?_
            refine wk_move (.slice none 0 0) rfl rfl rfl rfl ?_
            dsimp only [putL, setL, List.set_cons_zero, List.set_cons_succ, List.nil_append, List.cons_append]
            refine wk_move (.slice none 0 0) rfl rfl rfl rfl ?_
            dsimp only [putL, setL, List.set_cons_zero, List.set_cons_succ, List.nil_append, List.cons_append]
            refine wk_callW [(.slice none 0 0), (.slice none 0 0)] (.bool true) rfl rfl rfl (enters_of Try.func65 (by kernel_rfl) (by kernel_rfl)) rfl (fun M' w' hm hst => nums_same [] 0 none 0 rfl (fun y hy => by cases hy) (by omega) none 0 w' (Holds.nil _ _) (Holds.nil _ _)) ?_
            dsimp only [putL, setL, List.set_cons_zero, List.set_cons_succ, List.nil_append, List.cons_append]
            refine wk_not true rfl rfl rfl rfl ?_
            dsimp only [putL, setL, List.set_cons_zero, List.set_cons_succ, List.nil_append, List.cons_append]
            refine wk_move (.bool false) rfl rfl rfl rfl ?_
            dsimp only [putL, setL, List.set_cons_zero, List.set_cons_succ, List.nil_append, List.cons_append]
            refine wk_move (.int .i64 (wrongI (modW 1) (xsS ls))) rfl rfl rfl rfl ?_
            dsimp only [putL, setL, List.set_cons_zero, List.set_cons_succ, List.nil_append, List.cons_append]
            refine wk_move (.int .i64 (wrongI (modW 1) (xsS ls))) rfl rfl rfl rfl ?_
            dsimp only [putL, setL, List.set_cons_zero, List.set_cons_succ, List.nil_append, List.cons_append]
            refine wk_iop (.bool false) rfl rfl rfl rfl rfl rfl (iop_neq_f rfl) ?_
            dsimp only [putL, setL, List.set_cons_zero, List.set_cons_succ, List.nil_append, List.cons_append]
            refine wk_pick false (.bool false) rfl rfl rfl rfl rfl ?_
            dsimp only [putL, setL, List.set_cons_zero, List.set_cons_succ, List.nil_append, List.cons_append]
            refine wk_move (.bool false) rfl rfl rfl rfl ?_
            dsimp only [putL, setL, List.set_cons_zero, List.set_cons_succ, List.nil_append, List.cons_append]
            refine wk_ldN 1 rfl rfl rfl rfl rfl ?_
            dsimp only [putL, setL, List.set_cons_zero, List.set_cons_succ, List.nil_append, List.cons_append]
            refine wk_ldN 0 rfl rfl rfl rfl rfl ?_
            dsimp only [putL, setL, List.set_cons_zero, List.set_cons_succ, List.nil_append, List.cons_append]
            refine wk_neN false rfl rfl rfl rfl rfl W256_pos W256_pos (decide_eq_true rfl) ?_
            dsimp only [putL, setL, List.set_cons_zero, List.set_cons_succ, List.nil_append, List.cons_append]
            refine wk_pick false (.bool false) rfl rfl rfl rfl rfl ?_
            dsimp only [putL, setL, List.set_cons_zero, List.set_cons_succ, List.nil_append, List.cons_append]
            refine wk_move (.bool false) rfl rfl rfl rfl ?_
            dsimp only [putL, setL, List.set_cons_zero, List.set_cons_succ, List.nil_append, List.cons_append]
            refine wk_move (.int .i64 (wrongI (modW 1) (xsS ls))) rfl rfl rfl rfl ?_
            dsimp only [putL, setL, List.set_cons_zero, List.set_cons_succ, List.nil_append, List.cons_append]
            refine wk_move (.int .i64 (wrongI (modW 1) (xsS ls))) rfl rfl rfl rfl ?_
            dsimp only [putL, setL, List.set_cons_zero, List.set_cons_succ, List.nil_append, List.cons_append]
            refine wk_iop (.bool false) rfl rfl rfl rfl rfl rfl (iop_neq_f rfl) ?_
            dsimp only [putL, setL, List.set_cons_zero, List.set_cons_succ, List.nil_append, List.cons_append]
            refine wk_pick false (.bool false) rfl rfl rfl rfl rfl ?_
            dsimp only [putL, setL, List.set_cons_zero, List.set_cons_succ, List.nil_append, List.cons_append]
            refine wk_move (.bool false) rfl rfl rfl rfl ?_
            dsimp only [putL, setL, List.set_cons_zero, List.set_cons_succ, List.nil_append, List.cons_append]
            refine wk_move (.slice none 0 0) rfl rfl rfl rfl ?_
            dsimp only [putL, setL, List.set_cons_zero, List.set_cons_succ, List.nil_append, List.cons_append]
            refine wk_move (.slice none 0 0) rfl rfl rfl rfl ?_
            dsimp only [putL, setL, List.set_cons_zero, List.set_cons_succ, List.nil_append, List.cons_append]
            refine wk_callW [(.slice none 0 0), (.slice none 0 0)] (.bool true) rfl rfl rfl (enters_of Try.func65 (by kernel_rfl) (by kernel_rfl)) rfl (fun M' w' hm hst => nums_same [] 0 none 0 rfl (fun y hy => by cases hy) (by omega) none 0 w' (Holds.nil _ _) (Holds.nil _ _)) ?_
            dsimp only [putL, setL, List.set_cons_zero, List.set_cons_succ, List.nil_append, List.cons_append]
            refine wk_not true rfl rfl rfl rfl ?_
            dsimp only [putL, setL, List.set_cons_zero, List.set_cons_succ, List.nil_append, List.cons_append]
            refine wk_pick false (.bool false) rfl rfl rfl rfl rfl ?_
            dsimp only [putL, setL, List.set_cons_zero, List.set_cons_succ, List.nil_append, List.cons_append]
            refine wk_move (.bool false) rfl rfl rfl rfl ?_
            dsimp only [putL, setL, List.set_cons_zero, List.set_cons_succ, List.nil_append, List.cons_append]
            refine wk_move (.int .i64 (wrongI (modW 1) (xsS ls))) rfl rfl rfl rfl ?_
            dsimp only [putL, setL, List.set_cons_zero, List.set_cons_succ, List.nil_append, List.cons_append]
            refine wk_move (.int .i64 (wrongI (modW 1) (xsS ls))) rfl rfl rfl rfl ?_
            dsimp only [putL, setL, List.set_cons_zero, List.set_cons_succ, List.nil_append, List.cons_append]
            refine wk_iop (.bool false) rfl rfl rfl rfl rfl rfl (iop_neq_f rfl) ?_
            dsimp only [putL, setL, List.set_cons_zero, List.set_cons_succ, List.nil_append, List.cons_append]
            refine wk_pick false (.bool false) rfl rfl rfl rfl rfl ?_
            dsimp only [putL, setL, List.set_cons_zero, List.set_cons_succ, List.nil_append, List.cons_append]
            refine wk_nil ?_
            refine sp_false rfl rfl ?_
            refine sp_skip rfl ?_
            refine sp_seq rfl ?_
            refine sp_seq rfl ?_
            refine sp_region (π := [0]) [] rfl rfl ?_
            refine wk_assign (.int .i64 0) rfl rfl rfl rfl ?_
            dsimp only [putL, setL, List.set_cons_zero, List.set_cons_succ, List.nil_append, List.cons_append]
            refine wk_nil ?_
            refine sp_block rfl ?_
            refine sp_loopg rfl (fun n l M => ∃ k : Nat, ∃ d6 : Value, ∃ d128 : Value, ∃ d129 : Value, ∃ d130 : Value, ∃ d131 : Value, ∃ d132 : Value, ∃ d133 : Value, ∃ d134 : Value, ∃ d135 : Value, ∃ d136 : Value, ∃ d137 : Value, ∃ d138 : Value, ∃ d139 : Value, ∃ d140 : Value, ∃ d141 : Value, ∃ d142 : Value, ∃ d143 : Value, ∃ d144 : Value, ∃ d145 : Value, ∃ d146 : Value, ∃ d147 : Value, ∃ d148 : Value, ∃ d149 : Value, ∃ d150 : Value, ∃ d151 : Value, ∃ d152 : Value, ∃ d153 : Value, ∃ d154 : Value, ∃ d155 : Value, ∃ d156 : Value, ∃ d157 : Value, ∃ d158 : Value, ∃ d159 : Value, ∃ d160 : Value, ∃ d161 : Value, ∃ d162 : Value, ∃ d163 : Value, ∃ d164 : Value, ∃ d165 : Value, ∃ d166 : Value, ∃ d167 : Value, ∃ d168 : Value, ∃ d169 : Value, l = [(.slice a_c c.length c_c), (numV x), (.slice a_ls ls.length c_ls), undef, (.pointer (some ⟨β1, 0, none⟩)), undef, d6, (.slice a5 c.length cp5), (.slice a12 i cp12), (.slice a13 i cp13), (.int .i64 (i : Int)), (.slice none 0 0), (.int .i64 (wrongI (modW 1) (xsS ls))), (.slice none 0 0), (.int .i64 (wrongI (modW 1) (xsS ls))), (.pointer (some ⟨β28, 0, none⟩)), (.int .i64 (wrongI (modW 1) (xsS ls))), (.pointer (some ⟨β29, 0, none⟩)), (.int .i64 (wrongI (modW 1) (xsS ls))), (.slice none 0 0), (.int .i64 (wrongI (modW 1) (xsS ls))), (.slice none 0 0), (.int .i64 (wrongI (modW 1) (xsS ls))), (.int .i64 (k : Int)), (.slice a_c c.length c_c), (.int .i64 ((c.length : Nat) : Int)), (.bool false), (.bool false), (.slice a_ls ls.length c_ls), (.int .i64 ((ls.length : Nat) : Int)), (.bool false), (.bool false), (.slice a_c c.length c_c), (.slice a5 c.length cp5), (.int .i64 (i : Int)), (.slice a_ls ls.length c_ls), (.int .i64 ((ls.length : Nat) : Int)), (.bool false), d38, d39, d40, d41, d42, d43, d44, d45, d46, d47, d48, d49, d50, d51, d52, d53, d54, (.slice a5 c.length cp5), (numV x), (numV (evalL (modW 1) c x)), (.slice a_c c.length c_c), (numV x), (numV (evalL (modW 1) c x)), (.bool false), (.bool false), (.slice a5 c.length cp5), (.slice a_c c.length c_c), (.bool true), (.bool false), (.bool false), (.tuple #[(.slice none 0 0), (.int .i64 (wrongI (modW 1) (xsS ls)))]), (.slice a13 i cp13), (.tuple #[(.slice none 0 0), (.int .i64 (wrongI (modW 1) (xsS ls)))]), (.slice none 0 0), (.int .i64 (wrongI (modW 1) (xsS ls))), (.tuple #[(.slice none 0 0), (.int .i64 (wrongI (modW 1) (xsS ls)))]), (.slice a13 i cp13), (.tuple #[(.slice none 0 0), (.int .i64 (wrongI (modW 1) (xsS ls)))]), (.slice none 0 0), (.int .i64 (wrongI (modW 1) (xsS ls))), (.tuple #[(numV 0), (.int .i64 (wrongI (modW 1) (xsS ls)))]), (.slice a12 i cp12), (.tuple #[(numV 0), (.int .i64 (wrongI (modW 1) (xsS ls)))]), (numV 0), (.int .i64 (wrongI (modW 1) (xsS ls))), (.tuple #[(numV 0), (.int .i64 (wrongI (modW 1) (xsS ls)))]), (.slice a_ls ls.length c_ls), (.tuple #[(numV 0), (.int .i64 (wrongI (modW 1) (xsS ls)))]), (numV 0), (.int .i64 (wrongI (modW 1) (xsS ls))), (.tuple #[(.slice none 0 0), (.int .i64 (wrongI (modW 1) (xsS ls)))]), (.slice a12 i cp12), (.tuple #[(.slice none 0 0), (.int .i64 (wrongI (modW 1) (xsS ls)))]), (.slice none 0 0), (.int .i64 (wrongI (modW 1) (xsS ls))), (.tuple #[(.slice none 0 0), (.int .i64 (wrongI (modW 1) (xsS ls)))]), (.slice a_ls ls.length c_ls), (.tuple #[(.slice none 0 0), (.int .i64 (wrongI (modW 1) (xsS ls)))]), (.slice none 0 0), (.int .i64 (wrongI (modW 1) (xsS ls))), (.slice none 0 0), (.slice none 0 0), (.bool true), (.bool false), (.bool false), (.int .i64 (wrongI (modW 1) (xsS ls))), (.int .i64 (wrongI (modW 1) (xsS ls))), (.bool false), (.bool false), (.bool false), (numV 0), (numV 0), (.bool false), (.bool false), (.bool false), (.int .i64 (wrongI (modW 1) (xsS ls))), (.int .i64 (wrongI (modW 1) (xsS ls))), (.bool false), (.bool false), (.bool false), (.slice none 0 0), (.slice none 0 0), (.bool true), (.bool false), (.bool false), (.bool false), (.int .i64 (wrongI (modW 1) (xsS ls))), (.int .i64 (wrongI (modW 1) (xsS ls))), (.bool false), (.bool false), d128, d129, d130, d131, d132, d133, d134, d135, d136, d137, d138, d139, d140, d141, d142, d143, d144, d145, d146, d147, d148, d149, d150, d151, d152, d153, d154, d155, d156, d157, d158, d159, d160, d161, d162, d163, d164, d165, d166, d167, d168, d169, undef] ∧ (β29, numO 0) :: (β28, numO 0) :: (β1, numO x) :: (S4 ++ (S ++ T)) = M ∧ (k ≤ ls.length) ∧ n = ls.length - k) (ls.length - 0) ?_ ?_
            · exact ⟨0, (.bool false), undef, undef, undef, undef, undef, undef, undef, undef, undef, undef, undef, undef, undef, undef, undef, undef, undef, undef, undef, undef, undef, undef, undef, undef, undef, undef, undef, undef, undef, undef, undef, undef, undef, undef, undef, undef, undef, undef, undef, undef, undef, undef, rfl, rfl, (Nat.zero_le _), rfl⟩
            · skip
              intro n l M
              refine exists_imp.2 fun k => ?_
              refine exists_imp.2 fun d6 => ?_
              refine exists_imp.2 fun d128 => ?_
              refine exists_imp.2 fun d129 => ?_
              refine exists_imp.2 fun d130 => ?_
              refine exists_imp.2 fun d131 => ?_
              refine exists_imp.2 fun d132 => ?_
              refine exists_imp.2 fun d133 => ?_
              refine exists_imp.2 fun d134 => ?_
              refine exists_imp.2 fun d135 => ?_
              refine exists_imp.2 fun d136 => ?_
              refine exists_imp.2 fun d137 => ?_
              refine exists_imp.2 fun d138 => ?_
              refine exists_imp.2 fun d139 => ?_
              refine exists_imp.2 fun d140 => ?_
              refine exists_imp.2 fun d141 => ?_
              refine exists_imp.2 fun d142 => ?_
              refine exists_imp.2 fun d143 => ?_
              refine exists_imp.2 fun d144 => ?_
              refine exists_imp.2 fun d145 => ?_
              refine exists_imp.2 fun d146 => ?_
              refine exists_imp.2 fun d147 => ?_
              refine exists_imp.2 fun d148 => ?_
              refine exists_imp.2 fun d149 => ?_
              refine exists_imp.2 fun d150 => ?_
              refine exists_imp.2 fun d151 => ?_
              refine exists_imp.2 fun d152 => ?_
              refine exists_imp.2 fun d153 => ?_
              refine exists_imp.2 fun d154 => ?_
              refine exists_imp.2 fun d155 => ?_
              refine exists_imp.2 fun d156 => ?_
              refine exists_imp.2 fun d157 => ?_
              refine exists_imp.2 fun d158 => ?_
              refine exists_imp.2 fun d159 => ?_
              refine exists_imp.2 fun d160 => ?_
              refine exists_imp.2 fun d161 => ?_
              refine exists_imp.2 fun d162 => ?_
              refine exists_imp.2 fun d163 => ?_
              refine exists_imp.2 fun d164 => ?_
              refine exists_imp.2 fun d165 => ?_
              refine exists_imp.2 fun d166 => ?_
              refine exists_imp.2 fun d167 => ?_
              refine exists_imp.2 fun d168 => ?_
              refine exists_imp.2 fun d169 => ?_
              rintro ⟨rfl, rfl, hg0, rfl⟩
              refine sp_seq rfl ?_
              refine sp_seq rfl ?_
              refine sp_region (π := [0, 1, 2, 3]) [] rfl rfl ?_
              refine wk_move (.int .i64 (k : Int)) rfl rfl rfl rfl ?_
              dsimp only [putL, setL, List.set_cons_zero, List.set_cons_succ, List.nil_append, List.cons_append]
              refine wk_move (.slice a_ls ls.length c_ls) rfl rfl rfl rfl ?_
              dsimp only [putL, setL, List.set_cons_zero, List.set_cons_succ, List.nil_append, List.cons_append]
              refine wk_lenA rfl rfl rfl rfl Try.underlying63 ?_
              dsimp only [putL, setL, List.set_cons_zero, List.set_cons_succ, List.nil_append, List.cons_append]
              by_cases hc30 : (k : Int) < ((ls.length : Nat) : Int)
              · skip
                refine wk_iop (.bool true) rfl rfl rfl rfl rfl rfl (iop_lss_t hc30) ?_
                dsimp only [putL, setL, List.set_cons_zero, List.set_cons_succ, List.nil_append, List.cons_append]
                refine wk_nil ?_
                refine sp_true rfl rfl ?_
                refine sp_skip rfl ?_
                refine sp_seq rfl ?_
                refine sp_block rfl ?_
                refine sp_seq rfl ?_
                refine sp_draw [0, 1, 2, 3, 4, 5, 6, 7, 8, 9, 10, 11, 12, 13, 14, 15, 16, 17, 18, 19, 20, 21, 22, 23, 24, 25, 26, 27, 28, 29, 30, 31, 32, 33, 34, 35] [] mixed rfl (by kernel_rfl) (by kernel_rfl) ?_
                refine wk_move (.slice a12 i cp12) rfl rfl rfl rfl ?_
                dsimp only [putL, setL, List.set_cons_zero, List.set_cons_succ, List.nil_append, List.cons_append]
                refine wk_move (.int .i64 (k : Int)) rfl rfl rfl rfl ?_
                dsimp only [putL, setL, List.set_cons_zero, List.set_cons_succ, List.nil_append, List.cons_append]
                obtain ⟨β31, ha31, hr31⟩ := hsh12.at_ (shL_ne (k := k) (by have h0 := (show ls.length = i by omega); omega))
                refine wk_idxA k 8 rfl rfl rfl rfl ha31 rfl Try.underlying63 (by kernel_rfl) rfl (by omega) ?_
                dsimp only [putL, setL, List.set_cons_zero, List.set_cons_succ, List.nil_append, List.cons_append]
                refine wk_val (.pointer (some ⟨β31, 0 + k * 8, none⟩)) rfl rfl rfl (fun w => by kernel_rfl) ?_
                dsimp only [putL, setL, List.set_cons_zero, List.set_cons_succ, List.nil_append, List.cons_append]
                refine wk_ldXA rfl rfl rfl rfl (fun M' w' hm hst => hr31 w' (fun p hp => hst.own p (hm p (by simp [hp])))) (by have h0 := (show ls.length = i by omega); omega) ?_
                dsimp only [putL, setL, List.set_cons_zero, List.set_cons_succ, List.nil_append, List.cons_append]
                refine wk_move (.slice a_ls ls.length c_ls) rfl rfl rfl rfl ?_
                dsimp only [putL, setL, List.set_cons_zero, List.set_cons_succ, List.nil_append, List.cons_append]
                refine wk_move (.int .i64 (k : Int)) rfl rfl rfl rfl ?_
                dsimp only [putL, setL, List.set_cons_zero, List.set_cons_succ, List.nil_append, List.cons_append]
                obtain ⟨β32, o32, ha32, hr32⟩ := hH_ls.at_ (shL_ne (k := k) (by omega))
                refine wk_idxA k 8 rfl rfl rfl rfl ha32 rfl Try.underlying63 (by kernel_rfl) rfl (by omega) ?_
                dsimp only [putL, setL, List.set_cons_zero, List.set_cons_succ, List.nil_append, List.cons_append]
                refine wk_val (.pointer (some ⟨β32, o32 + k * 8, none⟩)) rfl rfl rfl (fun w => by kernel_rfl) ?_
                dsimp only [putL, setL, List.set_cons_zero, List.set_cons_succ, List.nil_append, List.cons_append]
                refine wk_ldXA rfl rfl rfl rfl (fun M' w' hm hst => old_range hr32 (shL_ne (k := k) (by omega)) hst) (by omega) ?_
                dsimp only [putL, setL, List.set_cons_zero, List.set_cons_succ, List.nil_append, List.cons_append]
                refine wk_neN false rfl rfl rfl rfl rfl (sx_lt1 w_ls) (sx_lt1 w_ls) (decide_eq_true rfl) ?_
                dsimp only [putL, setL, List.set_cons_zero, List.set_cons_succ, List.nil_append, List.cons_append]
                refine wk_move (.bool false) rfl rfl rfl rfl ?_
                dsimp only [putL, setL, List.set_cons_zero, List.set_cons_succ, List.nil_append, List.cons_append]
                refine wk_move (.slice a12 i cp12) rfl rfl rfl rfl ?_
                dsimp only [putL, setL, List.set_cons_zero, List.set_cons_succ, List.nil_append, List.cons_append]
                refine wk_move (.int .i64 (k : Int)) rfl rfl rfl rfl ?_
                dsimp only [putL, setL, List.set_cons_zero, List.set_cons_succ, List.nil_append, List.cons_append]
                refine wk_idxA k 8 rfl rfl rfl rfl ha31 rfl Try.underlying63 (by kernel_rfl) rfl (by omega) ?_
                dsimp only [putL, setL, List.set_cons_zero, List.set_cons_succ, List.nil_append, List.cons_append]
                refine wk_val (.pointer (some ⟨β31, 0 + k * 8 + 4, none⟩)) rfl rfl rfl (fun w => by kernel_rfl) ?_
                dsimp only [putL, setL, List.set_cons_zero, List.set_cons_succ, List.nil_append, List.cons_append]
                refine wk_ldYA rfl rfl rfl rfl (fun M' w' hm hst => hr31 w' (fun p hp => hst.own p (hm p (by simp [hp])))) (by have h0 := (show ls.length = i by omega); omega) ?_
                dsimp only [putL, setL, List.set_cons_zero, List.set_cons_succ, List.nil_append, List.cons_append]
                refine wk_move (.slice a_ls ls.length c_ls) rfl rfl rfl rfl ?_
                dsimp only [putL, setL, List.set_cons_zero, List.set_cons_succ, List.nil_append, List.cons_append]
                refine wk_move (.int .i64 (k : Int)) rfl rfl rfl rfl ?_
                dsimp only [putL, setL, List.set_cons_zero, List.set_cons_succ, List.nil_append, List.cons_append]
                refine wk_idxA k 8 rfl rfl rfl rfl ha32 rfl Try.underlying63 (by kernel_rfl) rfl (by omega) ?_
                dsimp only [putL, setL, List.set_cons_zero, List.set_cons_succ, List.nil_append, List.cons_append]
                refine wk_val (.pointer (some ⟨β32, o32 + k * 8 + 4, none⟩)) rfl rfl rfl (fun w => by kernel_rfl) ?_
                dsimp only [putL, setL, List.set_cons_zero, List.set_cons_succ, List.nil_append, List.cons_append]
                refine wk_ldYA rfl rfl rfl rfl (fun M' w' hm hst => old_range hr32 (shL_ne (k := k) (by omega)) hst) (by omega) ?_
                dsimp only [putL, setL, List.set_cons_zero, List.set_cons_succ, List.nil_append, List.cons_append]
                refine wk_neN false rfl rfl rfl rfl rfl (sx_lt2 w_ls) (sx_lt2 w_ls) (decide_eq_true rfl) ?_
                dsimp only [putL, setL, List.set_cons_zero, List.set_cons_succ, List.nil_append, List.cons_append]
                refine wk_pick false (.bool false) rfl rfl rfl rfl rfl ?_
                dsimp only [putL, setL, List.set_cons_zero, List.set_cons_succ, List.nil_append, List.cons_append]
                refine wk_move (.bool false) rfl rfl rfl rfl ?_
                dsimp only [putL, setL, List.set_cons_zero, List.set_cons_succ, List.nil_append, List.cons_append]
                refine wk_move (.slice a13 i cp13) rfl rfl rfl rfl ?_
                dsimp only [putL, setL, List.set_cons_zero, List.set_cons_succ, List.nil_append, List.cons_append]
                refine wk_move (.int .i64 (k : Int)) rfl rfl rfl rfl ?_
                dsimp only [putL, setL, List.set_cons_zero, List.set_cons_succ, List.nil_append, List.cons_append]
                obtain ⟨β33, ha33, hr33⟩ := hsh13.at_ (rowL_ne (k := k) (by have h0 := ((xsS_len ls).trans (show ls.length = i by omega)); omega))
                refine wk_idxA k 4 rfl rfl rfl rfl ha33 rfl Try.underlying57 (by kernel_rfl) rfl (by omega) ?_
                dsimp only [putL, setL, List.set_cons_zero, List.set_cons_succ, List.nil_append, List.cons_append]
                refine wk_ldA rfl rfl rfl rfl (fun M' w' hm hst => hr33 w' (fun p hp => hst.own p (hm p (by simp [hp])))) (by have h0 := ((xsS_len ls).trans (show ls.length = i by omega)); omega) ?_
                dsimp only [putL, setL, List.set_cons_zero, List.set_cons_succ, List.nil_append, List.cons_append]
                refine wk_move (.slice a_ls ls.length c_ls) rfl rfl rfl rfl ?_
                dsimp only [putL, setL, List.set_cons_zero, List.set_cons_succ, List.nil_append, List.cons_append]
                refine wk_move (.int .i64 (k : Int)) rfl rfl rfl rfl ?_
                dsimp only [putL, setL, List.set_cons_zero, List.set_cons_succ, List.nil_append, List.cons_append]
                refine wk_idxA k 8 rfl rfl rfl rfl ha32 rfl Try.underlying63 (by kernel_rfl) rfl (by omega) ?_
                dsimp only [putL, setL, List.set_cons_zero, List.set_cons_succ, List.nil_append, List.cons_append]
                refine wk_val (.pointer (some ⟨β32, o32 + k * 8, none⟩)) rfl rfl rfl (fun w => by kernel_rfl) ?_
                dsimp only [putL, setL, List.set_cons_zero, List.set_cons_succ, List.nil_append, List.cons_append]
                refine wk_ldXA rfl rfl rfl rfl (fun M' w' hm hst => old_range hr32 (shL_ne (k := k) (by omega)) hst) (by omega) ?_
                dsimp only [putL, setL, List.set_cons_zero, List.set_cons_succ, List.nil_append, List.cons_append]
                refine wk_neN false rfl rfl rfl rfl rfl (ix_lt (xsS_bound w_ls)) (sx_lt1 w_ls) (decide_eq_true (xsS_ix (by omega))) ?_
                dsimp only [putL, setL, List.set_cons_zero, List.set_cons_succ, List.nil_append, List.cons_append]
                refine wk_pick false (.bool false) rfl rfl rfl rfl rfl ?_
                dsimp only [putL, setL, List.set_cons_zero, List.set_cons_succ, List.nil_append, List.cons_append]
                refine wk_nil ?_
                refine sp_false rfl rfl ?_
                refine sp_skip rfl ?_
                refine sp_region (π := [0, 1, 2]) [] rfl rfl ?_
                refine wk_move (.int .i64 (k : Int)) rfl rfl rfl rfl ?_
                dsimp only [putL, setL, List.set_cons_zero, List.set_cons_succ, List.nil_append, List.cons_append]
                refine wk_iop (.int .i64 ((k : Int) + 1)) rfl rfl rfl rfl rfl rfl (iop_add (by omega) (by omega)) ?_
                dsimp only [putL, setL, List.set_cons_zero, List.set_cons_succ, List.nil_append, List.cons_append]
                refine wk_assign (.int .i64 ((k : Int) + 1)) rfl rfl rfl rfl ?_
                dsimp only [putL, setL, List.set_cons_zero, List.set_cons_succ, List.nil_append, List.cons_append]
                refine wk_nil ?_
                exact ⟨(β29, numO 0) :: (β28, numO 0) :: (β1, numO x) :: (S4 ++ (S ++ T)), _, List.Sublist.refl _, ⟨(k + 1), d6, (.int .i64 (k : Int)), (.slice a_ls ls.length c_ls), (.int .i64 ((ls.length : Nat) : Int)), (.bool true), (.int .i64 (k : Int)), (.int .i64 ((k : Int) + 1)), (.slice a12 i cp12), (.int .i64 (k : Int)), (.pointer (some ⟨β31, 0 + k * 8, none⟩)), (.pointer (some ⟨β31, 0 + k * 8, none⟩)), (numV (sx ls k).1), (.slice a_ls ls.length c_ls), (.int .i64 (k : Int)), (.pointer (some ⟨β32, o32 + k * 8, none⟩)), (.pointer (some ⟨β32, o32 + k * 8, none⟩)), (numV (sx ls k).1), (.bool false), (.bool false), (.slice a12 i cp12), (.int .i64 (k : Int)), (.pointer (some ⟨β31, 0 + k * 8, none⟩)), (.pointer (some ⟨β31, 0 + k * 8 + 4, none⟩)), (numV (sx ls k).2), (.slice a_ls ls.length c_ls), (.int .i64 (k : Int)), (.pointer (some ⟨β32, o32 + k * 8, none⟩)), (.pointer (some ⟨β32, o32 + k * 8 + 4, none⟩)), (numV (sx ls k).2), (.bool false), (.bool false), (.bool false), (.slice a13 i cp13), (.int .i64 (k : Int)), (.pointer (some ⟨β33, 0 + k * 4, none⟩)), (numV (ix (xsS ls) k)), (.slice a_ls ls.length c_ls), (.int .i64 (k : Int)), (.pointer (some ⟨β32, o32 + k * 8, none⟩)), (.pointer (some ⟨β32, o32 + k * 8, none⟩)), (numV (sx ls k).1), (.bool false), (.bool false), rfl, rfl, (by omega), rfl⟩, (by omega)⟩
              · skip
                refine wk_iop (.bool false) rfl rfl rfl rfl rfl rfl (iop_lss_f hc30) ?_
                dsimp only [putL, setL, List.set_cons_zero, List.set_cons_succ, List.nil_append, List.cons_append]
                refine wk_nil ?_
                refine sp_false rfl rfl ?_
                refine sp_exit rfl ?_
                refine sp_seq rfl ?_
                refine sp_region (π := [0, 1]) [] rfl rfl ?_
                refine wk_call [] (.bool true) rfl rfl rfl (enters_of Try.func61 (by kernel_rfl) (by kernel_rfl)) rfl wakes6_calls ?_
                dsimp only [putL, setL, List.set_cons_zero, List.set_cons_succ, List.nil_append, List.cons_append]
                refine wk_assign (.bool true) rfl rfl rfl rfl ?_
                dsimp only [putL, setL, List.set_cons_zero, List.set_cons_succ, List.nil_append, List.cons_append]
                refine wk_nil ?_
                refine sp_ret rfl ?_
                exact ret_tmps (v := .bool true) (fun w' => by kernel_rfl) fun w' hw => ⟨rfl, hw.below⟩

set_option maxRecDepth 100000 in
theorem polyExact_lifted (os : Os) (started : os.Started) (H : Type) (enc : TypeId × Value → H) :
    ReturnsInHanded {} Try.checked os 21 .any (Rows.polyExactSpec.pre6 enc Try.prog Try.f21 Rows.polyExactRow.domain false) (Rows.polyExactSpec.post enc Try.prog Try.f21 false true false false) := by
  refine returnsInHanded_of_change (C := Try.checked) own started (by kernel_rfl) Try.func21
    (ChangeSpec.witness6 (enc := enc) (C := Try.checked) false ⟨#[], #[.slice none 0 0, .agg #[.int .u64 0, .int .u64 0, .int .u64 0, .int .u64 0], .slice none 0 0], []⟩ 8 (by kernel_rfl) (by kernel_rfl) (by kernel_rfl) (by kernel_rfl)) ?_
  intro W base args ds gs before hval0 hW hcnd _
  have hval : ∀ (j : Nat) t v, Try.f21.params[j]? = some t → args[j]? = some v → Value.okWide Try.prog W .any base t v := hval0
  have hW' := hW
  obtain ⟨p, q, hA0, hV, rfl, hfz, hnd⟩ := hW
  have hA : DataW.TrodAll enc Try.prog W 0 (fun _ => true) true Try.f21.params.toList args.toList ds p := hA0
  rw [Try.params21] at hA hval
  obtain ⟨v0, vs0, d0, ds0, p0, q0, hargs, rfl, rfl, h0, r0⟩ := trodAll_cons hA
  obtain ⟨v1, vs1, d1, ds1, p1, q1, rfl, rfl, rfl, h1, r1⟩ := trodAll_cons r0
  obtain ⟨v2, vs2, d2, ds2, p2, q2, rfl, rfl, rfl, h2, r2⟩ := trodAll_cons r1
  obtain ⟨rfl, rfl, rfl⟩ := trodAll_nil r2
  obtain rfl : args = #[v0, v1, v2] := by cases args; simp_all
  obtain ⟨rfl, rfl⟩ := trodVars_none hV
  have k0 := h0
  have lt0 : ∀ x ∈ p0, x.block < W.heap.size := by obtain ⟨m, hm⟩ := k0; exact DataW.trod_lt m _ _ _ hm
  have k1 := h1
  have lt1 : ∀ x ∈ p1, x.block < W.heap.size := by obtain ⟨m, hm⟩ := k1; exact DataW.trod_lt m _ _ _ hm
  have k2 := h2
  have lt2 : ∀ x ∈ p2, x.block < W.heap.size := by obtain ⟨m, hm⟩ := k2; exact DataW.trod_lt m _ _ _ hm
  obtain ⟨a_c, c, c_c, rfl, w_c, hc_c, _, hH_c⟩ := open_nums (hval 0 57 v0 rfl rfl) h0
  obtain ⟨x, w_x, rfl⟩ := open_num (hval 1 24 v1 rfl rfl) h1
  obtain ⟨a_ls, ls, c_ls, rfl, w_ls, hc_ls, _, hH_ls⟩ := open_shares (hval 2 63 v2 rfl rfl) h2
  clear hA0 hval0
  refine (polyExact_walk c a_c c_c x ls a_ls c_ls w_c hc_c w_x w_ls hc_ls W hH_c hH_ls).mono fun e W' ⟨he, bel⟩ => ?_
  subst he
  exact ⟨_, rfl, _, _, _, [], _, [], hW', trodAll_mk1 (shut_bool Try.underlying4 _), (trodAll_cons_mk (Below.trod laidOut (by kernel_rfl) (of_decide_eq_true (by kernel_rfl)) k0 bel lt0) (trodAll_cons_mk (Below.trod laidOut (by kernel_rfl) (of_decide_eq_true (by kernel_rfl)) k1 bel lt1) (trodAll_cons_mk (Below.trod laidOut (by kernel_rfl) (of_decide_eq_true (by kernel_rfl)) k2 bel lt2) trodAll_mk0))), rfl, bel.frame _, fun h => by cases h⟩

theorem polyExact_holds : Rows.PolyExactSaid :=
  OpenClaim.holds_of_wide 21 Try.f21 rfl rfl rfl rfl rfl rfl rfl ⟨rfl, rfl, rfl, rfl, rfl⟩ rfl rfl rfl rfl rfl (by kernel_rfl) Try.func21 (by kernel_rfl)
    (of_decide_eq_true (by kernel_rfl)) (by unfold Func.isWrapper; first | (rw [if_pos (by decide +kernel)]; kernel_rfl) | (rw [if_neg (by decide +kernel)]; exact ⟨rfl, rfl⟩))
    (fun os started H enc _ => polyExact_lifted os started H enc)

end Go.Proofs.Ytmecomgifmkkfaa
