/- The polynomial through shares, in poly: what the call answers. -/
import Derived.Test.YtmecomgifmkkfaaPolyM
namespace Go.Proofs.Ytmecomgifmkkfaa
set_option linter.unusedVariables false
set_option linter.unusedSimpArgs false
open Go.RowKit

set_option maxRecDepth 20000 in
set_option maxHeartbeats 1000000 in
theorem through_ok (ss : List (Nat × Nat)) (nn : Nat) (a : Option Addr) (c : Nat) (hl : ss.length = nn) (hss : ShBound ss) (hn : nn ≤ 1099511627776) (hw0 : wrongI (modW 1) (xsS ss) = 0) (w : World) (hH : Holds w a (shL ss)) : Calls Try.prog 68 #[.slice a nn c] w (NewS 24 4 (fun v => .tuple #[v, .int .i64 0]) nn (rowL (thruL (modW 1) ss)) w) := by
  refine fn_calls (l0 := [(.slice a nn c), undef, undef, undef, undef, undef, undef, undef, undef, undef, undef, undef, undef, undef, undef, undef, undef, undef, undef, undef, undef, undef, undef, undef, undef, undef, undef, undef, undef, undef, undef, undef, undef, undef, undef, undef, undef, undef, undef, undef, undef, undef, undef, undef, undef, undef, undef, undef, undef, undef, undef, undef, undef, undef, undef, undef, undef, undef, undef, undef, undef, undef, undef, undef, undef, undef, undef, undef, undef, undef, undef, undef, undef, undef, undef, undef, undef, undef, undef, undef, undef, undef, undef, undef, undef, undef, undef, undef, undef, undef, undef, undef, undef, undef, undef, undef]) Try.func68 rfl rfl [] (St.start w) ?_
  refine sp_seq rfl ?_
  refine sp_region (π := [0, 1]) [] rfl rfl ?_
  refine wk_assign (.slice none 0 0) rfl rfl rfl rfl ?_
  dsimp only [putL, setL, List.set_cons_zero, List.set_cons_succ, List.nil_append, List.cons_append]
  refine wk_assign (.int .i64 0) rfl rfl rfl rfl ?_
  dsimp only [putL, setL, List.set_cons_zero, List.set_cons_succ, List.nil_append, List.cons_append]
  refine wk_nil ?_
  refine sp_seq rfl ?_
  refine sp_region (π := [0, 1, 2, 3]) [] rfl rfl ?_
  refine wk_move (.slice a nn c) rfl rfl rfl rfl ?_
  dsimp only [putL, setL, List.set_cons_zero, List.set_cons_succ, List.nil_append, List.cons_append]
  refine wk_callS (e := 24) (size := 4) (n := nn) (cs := (rowL (xsS ss))) [(.slice a nn c)] (fun v => v) rfl rfl rfl (enters_of Try.func84 (by kernel_rfl) (by kernel_rfl)) rfl (xsS_row hl) (by simp only [maxLen]; omega) (fun M' w' hm hst => places_calls ss nn _ _ hl hss (by omega) w' (hH.old hst)) fun v1 S1 hO1 => ?_
  dsimp only [putL, setL, List.set_cons_zero, List.set_cons_succ, List.nil_append, List.cons_append]
  obtain ⟨a2, cp2, hv2, hcp2, hsh2⟩ := hO1.reads
  subst hv2
  refine wk_callW [(.slice a2 nn cp2)] (.int .i64 (wrongI (modW 1) (xsS ss))) rfl rfl rfl (enters_of Try.func81 (by kernel_rfl) (by kernel_rfl)) rfl (fun M' w' hm hst => wrong_calls' (xsS ss) nn _ _ ((xsS_len ss).trans hl) (xsS_bound hss) (by omega) hcp2 w' (hsh2.holds hst (fun p hp => hm p (by simp [hp])))) ?_
  dsimp only [putL, setL, List.set_cons_zero, List.set_cons_succ, List.nil_append, List.cons_append]
  refine wk_assign (.int .i64 (wrongI (modW 1) (xsS ss))) rfl rfl rfl rfl ?_
  dsimp only [putL, setL, List.set_cons_zero, List.set_cons_succ, List.nil_append, List.cons_append]
  refine wk_nil ?_
  refine sp_seq rfl ?_
  refine sp_seq rfl ?_
  refine sp_region (π := [0, 1]) [] rfl rfl ?_
  refine wk_move (.int .i64 (wrongI (modW 1) (xsS ss))) rfl rfl rfl rfl ?_
  dsimp only [putL, setL, List.set_cons_zero, List.set_cons_succ, List.nil_append, List.cons_append]
  refine wk_iop (.bool false) rfl rfl rfl rfl rfl rfl (iop_neq_f hw0) ?_
  dsimp only [putL, setL, List.set_cons_zero, List.set_cons_succ, List.nil_append, List.cons_append]
  refine wk_nil ?_
  refine sp_false rfl rfl ?_
  refine sp_skip rfl ?_
  refine sp_seq rfl ?_
  refine sp_draw [0, 1, 2, 3, 4, 5, 6, 7, 8] [] mixed rfl (by kernel_rfl) (by kernel_rfl) ?_
  refine wk_move (.slice a nn c) rfl rfl rfl rfl ?_
  dsimp only [putL, setL, List.set_cons_zero, List.set_cons_succ, List.nil_append, List.cons_append]
  refine wk_lenA rfl rfl rfl rfl Try.underlying63 ?_
  dsimp only [putL, setL, List.set_cons_zero, List.set_cons_succ, List.nil_append, List.cons_append]
  refine wkf_makeN (n := nn) rfl rfl rfl rfl Try.underlying57 rfl rfl (by omega) fun β3 => ?_
  dsimp only [putL, setL, List.set_cons_zero, List.set_cons_succ, List.nil_append, List.cons_append]
  refine wk_move (.slice a nn c) rfl rfl rfl rfl ?_
  dsimp only [putL, setL, List.set_cons_zero, List.set_cons_succ, List.nil_append, List.cons_append]
  refine wk_lenA rfl rfl rfl rfl Try.underlying63 ?_
  dsimp only [putL, setL, List.set_cons_zero, List.set_cons_succ, List.nil_append, List.cons_append]
  refine wk_iop (.int .i64 (((nn : Nat) : Int) + 1)) rfl rfl rfl rfl rfl rfl (iop_add (by omega) (by omega)) ?_
  dsimp only [putL, setL, List.set_cons_zero, List.set_cons_succ, List.nil_append, List.cons_append]
  refine wkf_makeN (n := (nn + 1)) rfl rfl rfl rfl Try.underlying57 (by omega) (by omega) (by omega) fun β4 => ?_
  dsimp only [putL, setL, List.set_cons_zero, List.set_cons_succ, List.nil_append, List.cons_append]
  refine wk_assign (.slice (some ⟨β3, 0, none⟩) nn nn) rfl rfl rfl rfl ?_
  dsimp only [putL, setL, List.set_cons_zero, List.set_cons_succ, List.nil_append, List.cons_append]
  refine wk_assign (.slice (some ⟨β4, 0, none⟩) (nn + 1) (nn + 1)) rfl rfl rfl rfl ?_
  dsimp only [putL, setL, List.set_cons_zero, List.set_cons_succ, List.nil_append, List.cons_append]
  refine wk_nil ?_
  refine sp_seq rfl ?_
  refine sp_region (π := [0, 1, 2, 3]) [] rfl rfl ?_
  refine wk_move (.slice (some ⟨β4, 0, none⟩) (nn + 1) (nn + 1)) rfl rfl rfl rfl ?_
  dsimp only [putL, setL, List.set_cons_zero, List.set_cons_succ, List.nil_append, List.cons_append]
  refine wk_val (numV 1) rfl rfl rfl (fun w => by kernel_rfl) ?_
  dsimp only [putL, setL, List.set_cons_zero, List.set_cons_succ, List.nil_append, List.cons_append]
  refine wk_idxS 0 4 rfl rfl rfl rfl rfl Try.underlying57 (by kernel_rfl) rfl (by omega) ?_
  dsimp only [putL, setL, List.set_cons_zero, List.set_cons_succ, List.nil_append, List.cons_append]
  refine wk_stRow 0 rfl rfl rfl rfl rfl rfl (by have h0 := (zeros_len (nn + 1)); omega) ?_
  dsimp only [putL, setL, List.set_cons_zero, List.set_cons_succ, List.nil_append, List.cons_append]
  refine wk_nil ?_
  refine sp_seq rfl ?_
  refine sp_seq rfl ?_
  refine sp_region (π := [0, 1, 2]) [] rfl rfl ?_
  refine wk_move (.slice a nn c) rfl rfl rfl rfl ?_
  dsimp only [putL, setL, List.set_cons_zero, List.set_cons_succ, List.nil_append, List.cons_append]
  refine wk_lenA rfl rfl rfl rfl Try.underlying63 ?_
  dsimp only [putL, setL, List.set_cons_zero, List.set_cons_succ, List.nil_append, List.cons_append]
  refine wk_move (.int .i64 0) rfl rfl rfl rfl ?_
  dsimp only [putL, setL, List.set_cons_zero, List.set_cons_succ, List.nil_append, List.cons_append]
  refine wk_nil ?_
  refine sp_block rfl ?_
  refine sp_loopg rfl (fun n l M => ∃ i : Nat, ∃ os : List Nat, ∃ al : List Nat, ∃ d7 : Value, ∃ d8 : Value, ∃ d9 : Value, ∃ d10 : Value, ∃ d11 : Value, ∃ d12 : Value, ∃ d32 : Value, ∃ d33 : Value, ∃ d34 : Value, ∃ d35 : Value, ∃ d36 : Value, ∃ d37 : Value, ∃ d38 : Value, ∃ d39 : Value, ∃ d40 : Value, ∃ d41 : Value, ∃ d42 : Value, ∃ d43 : Value, ∃ d44 : Value, ∃ d45 : Value, ∃ d46 : Value, ∃ d47 : Value, ∃ d48 : Value, ∃ d49 : Value, ∃ d50 : Value, ∃ d51 : Value, ∃ d52 : Value, ∃ d53 : Value, ∃ d54 : Value, ∃ d55 : Value, ∃ d56 : Value, ∃ d57 : Value, ∃ d58 : Value, ∃ d59 : Value, ∃ d60 : Value, ∃ d61 : Value, ∃ d62 : Value, ∃ d63 : Value, ∃ d64 : Value, ∃ d65 : Value, ∃ d66 : Value, ∃ d67 : Value, ∃ d68 : Value, ∃ d69 : Value, ∃ d70 : Value, ∃ d71 : Value, ∃ d72 : Value, ∃ d73 : Value, ∃ d74 : Value, ∃ d75 : Value, ∃ d76 : Value, ∃ d77 : Value, ∃ d78 : Value, ∃ d79 : Value, ∃ d80 : Value, ∃ d81 : Value, ∃ d82 : Value, ∃ d83 : Value, ∃ d84 : Value, ∃ d85 : Value, ∃ d86 : Value, ∃ d87 : Value, ∃ d88 : Value, ∃ d89 : Value, ∃ d90 : Value, ∃ d91 : Value, ∃ d92 : Value, ∃ d93 : Value, ∃ d94 : Value, l = [(.slice a nn c), undef, (.slice none 0 0), (.int .i64 0), (.int .i64 (wrongI (modW 1) (xsS ss))), (.slice (some ⟨β3, 0, none⟩) nn nn), (.slice (some ⟨β4, 0, none⟩) (nn + 1) (nn + 1)), d7, d8, d9, d10, d11, d12, (.slice a nn c), (.slice a2 nn cp2), (.int .i64 (wrongI (modW 1) (xsS ss))), (.int .i64 (wrongI (modW 1) (xsS ss))), (.bool false), undef, (.slice a nn c), (.int .i64 ((nn : Nat) : Int)), (.slice (some ⟨β3, 0, none⟩) nn nn), (.slice a nn c), (.int .i64 ((nn : Nat) : Int)), (.int .i64 (((nn : Nat) : Int) + 1)), (.slice (some ⟨β4, 0, none⟩) (nn + 1) (nn + 1)), (.slice (some ⟨β4, 0, none⟩) (nn + 1) (nn + 1)), (numV 1), (.pointer (some ⟨β4, 0 + 0 * 4, none⟩)), (.slice a nn c), (.int .i64 ((nn : Nat) : Int)), (.int .i64 (i : Int)), d32, d33, d34, d35, d36, d37, d38, d39, d40, d41, d42, d43, d44, d45, d46, d47, d48, d49, d50, d51, d52, d53, d54, d55, d56, d57, d58, d59, d60, d61, d62, d63, d64, d65, d66, d67, d68, d69, d70, d71, d72, d73, d74, d75, d76, d77, d78, d79, d80, d81, d82, d83, d84, d85, d86, d87, d88, d89, d90, d91, d92, d93, d94, undef] ∧ (β4, rowO al) :: (β3, rowO os) :: S1 = M ∧ (i ≤ nn) ∧ (Newton (modW 1) ss i os al) ∧ n = nn - i) (nn - 0) ?_ ?_
  · exact ⟨0, (List.replicate nn 0), ((List.replicate (nn + 1) 0).set 0 1), undef, undef, undef, undef, undef, undef, undef, undef, undef, undef, undef, undef, undef, undef, undef, undef, undef, undef, undef, undef, undef, undef, undef, undef, undef, undef, undef, undef, undef, undef, undef, undef, undef, undef, undef, undef, undef, undef, undef, undef, undef, undef, undef, undef, undef, undef, undef, undef, undef, undef, undef, undef, undef, undef, undef, undef, undef, undef, undef, undef, undef, undef, undef, undef, undef, undef, undef, undef, undef, rfl, rfl, (Nat.zero_le _), (by subst hl; exact Newton.start (modW_prime ok1) ss), rfl⟩
  · skip
    intro n l M
    refine exists_imp.2 fun i => ?_
    refine exists_imp.2 fun os => ?_
    refine exists_imp.2 fun al => ?_
    refine exists_imp.2 fun d7 => ?_
    refine exists_imp.2 fun d8 => ?_
    refine exists_imp.2 fun d9 => ?_
    refine exists_imp.2 fun d10 => ?_
    refine exists_imp.2 fun d11 => ?_
    refine exists_imp.2 fun d12 => ?_
    refine exists_imp.2 fun d32 => ?_
    refine exists_imp.2 fun d33 => ?_
    refine exists_imp.2 fun d34 => ?_
    refine exists_imp.2 fun d35 => ?_
    refine exists_imp.2 fun d36 => ?_
    refine exists_imp.2 fun d37 => ?_
    refine exists_imp.2 fun d38 => ?_
    refine exists_imp.2 fun d39 => ?_
    refine exists_imp.2 fun d40 => ?_
    refine exists_imp.2 fun d41 => ?_
    refine exists_imp.2 fun d42 => ?_
    refine exists_imp.2 fun d43 => ?_
    refine exists_imp.2 fun d44 => ?_
    refine exists_imp.2 fun d45 => ?_
    refine exists_imp.2 fun d46 => ?_
    refine exists_imp.2 fun d47 => ?_
    refine exists_imp.2 fun d48 => ?_
    refine exists_imp.2 fun d49 => ?_
    refine exists_imp.2 fun d50 => ?_
    refine exists_imp.2 fun d51 => ?_
    refine exists_imp.2 fun d52 => ?_
    refine exists_imp.2 fun d53 => ?_
    refine exists_imp.2 fun d54 => ?_
    refine exists_imp.2 fun d55 => ?_
    refine exists_imp.2 fun d56 => ?_
    refine exists_imp.2 fun d57 => ?_
    refine exists_imp.2 fun d58 => ?_
    refine exists_imp.2 fun d59 => ?_
    refine exists_imp.2 fun d60 => ?_
    refine exists_imp.2 fun d61 => ?_
    refine exists_imp.2 fun d62 => ?_
    refine exists_imp.2 fun d63 => ?_
    refine exists_imp.2 fun d64 => ?_
    refine exists_imp.2 fun d65 => ?_
    refine exists_imp.2 fun d66 => ?_
    refine exists_imp.2 fun d67 => ?_
    refine exists_imp.2 fun d68 => ?_
    refine exists_imp.2 fun d69 => ?_
    refine exists_imp.2 fun d70 => ?_
    refine exists_imp.2 fun d71 => ?_
    refine exists_imp.2 fun d72 => ?_
    refine exists_imp.2 fun d73 => ?_
    refine exists_imp.2 fun d74 => ?_
    refine exists_imp.2 fun d75 => ?_
    refine exists_imp.2 fun d76 => ?_
    refine exists_imp.2 fun d77 => ?_
    refine exists_imp.2 fun d78 => ?_
    refine exists_imp.2 fun d79 => ?_
    refine exists_imp.2 fun d80 => ?_
    refine exists_imp.2 fun d81 => ?_
    refine exists_imp.2 fun d82 => ?_
    refine exists_imp.2 fun d83 => ?_
    refine exists_imp.2 fun d84 => ?_
    refine exists_imp.2 fun d85 => ?_
    refine exists_imp.2 fun d86 => ?_
    refine exists_imp.2 fun d87 => ?_
    refine exists_imp.2 fun d88 => ?_
    refine exists_imp.2 fun d89 => ?_
    refine exists_imp.2 fun d90 => ?_
    refine exists_imp.2 fun d91 => ?_
    refine exists_imp.2 fun d92 => ?_
    refine exists_imp.2 fun d93 => ?_
    refine exists_imp.2 fun d94 => ?_
    rintro ⟨rfl, rfl, hf0, hf1, rfl⟩
    have hlo : os.length = nn := hf1.lo.trans hl
    have hla : al.length = nn + 1 := hf1.la.trans (by rw [hl])
    refine sp_seq rfl ?_
    refine sp_region (π := [0]) [] rfl rfl ?_
    by_cases hc5 : (i : Int) < ((nn : Nat) : Int)
    · skip
      refine wk_iop (.bool true) rfl rfl rfl rfl rfl rfl (iop_lss_t hc5) ?_
      dsimp only [putL, setL, List.set_cons_zero, List.set_cons_succ, List.nil_append, List.cons_append]
      refine wk_nil ?_
      refine sp_seq rfl ?_
      refine sp_true rfl rfl ?_
      refine sp_skip rfl ?_
      refine sp_seq rfl ?_
      refine sp_block rfl ?_
      refine sp_seq rfl ?_
      refine sp_region (π := [0, 1, 2, 3, 4, 5]) [] rfl rfl ?_
      refine wk_move (.int .i64 (i : Int)) rfl rfl rfl rfl ?_
      dsimp only [putL, setL, List.set_cons_zero, List.set_cons_succ, List.nil_append, List.cons_append]
      obtain ⟨β6, o6, ha6, hr6⟩ := hH.at_ (shL_ne (k := i) (by have h0 := hl; omega))
      refine wk_idxA i 8 rfl rfl rfl rfl ha6 rfl Try.underlying63 (by kernel_rfl) rfl (by omega) ?_
      dsimp only [putL, setL, List.set_cons_zero, List.set_cons_succ, List.nil_append, List.cons_append]
      refine wk_ldSA rfl rfl rfl rfl (fun M' w' hm hst => old_range hr6 (shL_ne (k := i) (by omega)) hst) (by have h0 := hl; omega) ?_
      dsimp only [putL, setL, List.set_cons_zero, List.set_cons_succ, List.nil_append, List.cons_append]
      refine wkf_newS rfl rfl fun β7 => ?_
      dsimp only [putL, setL, List.set_cons_zero, List.set_cons_succ, List.nil_append, List.cons_append]
      refine wk_assign (.int .i64 (i : Int)) rfl rfl rfl rfl ?_
      dsimp only [putL, setL, List.set_cons_zero, List.set_cons_succ, List.nil_append, List.cons_append]
      refine wk_stS 0 (sx ss i) rfl rfl rfl rfl rfl rfl ?_
      dsimp only [putL, setL, List.set_cons_zero, List.set_cons_succ, List.nil_append, List.cons_append]
      refine wk_nil ?_
      refine sp_seq rfl ?_
      refine sp_draw [0, 1, 2, 3, 4, 7, 8, 9, 5, 6, 10, 11, 12, 13] [] mixed rfl (by kernel_rfl) (by kernel_rfl) ?_
      refine wk_val (.pointer (some ⟨β7, 4, none⟩)) rfl rfl rfl (fun w => by kernel_rfl) ?_
      dsimp only [putL, setL, List.set_cons_zero, List.set_cons_succ, List.nil_append, List.cons_append]
      refine wk_ldY 0 rfl rfl rfl rfl rfl ?_
      dsimp only [putL, setL, List.set_cons_zero, List.set_cons_succ, List.nil_append, List.cons_append]
      refine wk_move (.slice (some ⟨β3, 0, none⟩) nn nn) rfl rfl rfl rfl ?_
      dsimp only [putL, setL, List.set_cons_zero, List.set_cons_succ, List.nil_append, List.cons_append]
      refine wk_val (.pointer (some ⟨β7, 0, none⟩)) rfl rfl rfl (fun w => by kernel_rfl) ?_
      dsimp only [putL, setL, List.set_cons_zero, List.set_cons_succ, List.nil_append, List.cons_append]
      refine wk_ldX 0 rfl rfl rfl rfl rfl ?_
      dsimp only [putL, setL, List.set_cons_zero, List.set_cons_succ, List.nil_append, List.cons_append]
      refine wk_move (.slice (some ⟨β4, 0, none⟩) (nn + 1) (nn + 1)) rfl rfl rfl rfl ?_
      dsimp only [putL, setL, List.set_cons_zero, List.set_cons_succ, List.nil_append, List.cons_append]
      refine wk_val (.pointer (some ⟨β7, 0, none⟩)) rfl rfl rfl (fun w => by kernel_rfl) ?_
      dsimp only [putL, setL, List.set_cons_zero, List.set_cons_succ, List.nil_append, List.cons_append]
      refine wk_ldX 0 rfl rfl rfl rfl rfl ?_
      dsimp only [putL, setL, List.set_cons_zero, List.set_cons_succ, List.nil_append, List.cons_append]
      refine wk_callW [(.slice (some ⟨β3, 0, none⟩) nn nn), (numV (sx ss i).1)] (numV (evalL (modW 1) os (sx ss i).1)) rfl rfl rfl (enters_of Try.func59 (by kernel_rfl) (by kernel_rfl)) rfl (fun M' w' hm hst => eval_calls' os nn _ _ hlo (fun c hc => Nat.lt_trans (hf1.bo c hc) (modW_lt 1)) (by omega) (sx ss i).1 (sx_lt1 hss) w' (row_holds (hm _ (List.mem_of_getElem? (i := 2) rfl)) hst)) ?_
      dsimp only [putL, setL, List.set_cons_zero, List.set_cons_succ, List.nil_append, List.cons_append]
      refine wk_call [(numV (sx ss i).2), (numV (evalL (modW 1) os (sx ss i).1))] (numV (subM (modW 1) (sx ss i).2 (evalL (modW 1) os (sx ss i).1))) rfl rfl rfl (enters_of Try.func82 (by kernel_rfl) (by kernel_rfl)) rfl (psub_calls (sx ss i).2 (evalL (modW 1) os (sx ss i).1) (sx_lt2 hss) (evalL_lt (modW_pos ok1) (modW_lt 1) _ _)) ?_
      dsimp only [putL, setL, List.set_cons_zero, List.set_cons_succ, List.nil_append, List.cons_append]
      refine wk_callW [(.slice (some ⟨β4, 0, none⟩) (nn + 1) (nn + 1)), (numV (sx ss i).1)] (numV (evalL (modW 1) al (sx ss i).1)) rfl rfl rfl (enters_of Try.func59 (by kernel_rfl) (by kernel_rfl)) rfl (fun M' w' hm hst => eval_calls' al (nn + 1) _ _ hla (fun c hc => Nat.lt_trans (hf1.ba c hc) (modW_lt 1)) (by omega) (sx ss i).1 (sx_lt1 hss) w' (row_holds (hm _ (List.mem_of_getElem? (i := 1) rfl)) hst)) ?_
      dsimp only [putL, setL, List.set_cons_zero, List.set_cons_succ, List.nil_append, List.cons_append]
      refine wk_call [(numV (subM (modW 1) (sx ss i).2 (evalL (modW 1) os (sx ss i).1))), (numV (evalL (modW 1) al (sx ss i).1))] (numV ((subM (modW 1) (sx ss i).2 (evalL (modW 1) os (sx ss i).1)) * ((evalL (modW 1) al (sx ss i).1) ^ (modW 1 - 2) % modW 1) % modW 1)) rfl rfl rfl (enters_of Try.func83 (by kernel_rfl) (by kernel_rfl)) rfl (pdiv_calls (subM (modW 1) (sx ss i).2 (evalL (modW 1) os (sx ss i).1)) (evalL (modW 1) al (sx ss i).1) (Nat.lt_trans (Nat.mod_lt _ (modW_pos ok1)) (modW_lt 1)) (evalL_lt (modW_pos ok1) (modW_lt 1) _ _)) ?_
      dsimp only [putL, setL, List.set_cons_zero, List.set_cons_succ, List.nil_append, List.cons_append]
      refine wkf_newN rfl rfl fun β8 => ?_
      dsimp only [putL, setL, List.set_cons_zero, List.set_cons_succ, List.nil_append, List.cons_append]
      refine wk_stN 0 ((subM (modW 1) (sx ss i).2 (evalL (modW 1) os (sx ss i).1)) * ((evalL (modW 1) al (sx ss i).1) ^ (modW 1 - 2) % modW 1) % modW 1) rfl rfl rfl rfl rfl rfl ?_
      dsimp only [putL, setL, List.set_cons_zero, List.set_cons_succ, List.nil_append, List.cons_append]
      refine wk_nil ?_
      refine sp_seq rfl ?_
      refine sp_seq rfl ?_
      refine sp_region (π := [0, 1, 2]) [] rfl rfl ?_
      refine wk_move (.int .i64 (i : Int)) rfl rfl rfl rfl ?_
      dsimp only [putL, setL, List.set_cons_zero, List.set_cons_succ, List.nil_append, List.cons_append]
      refine wk_iop (.int .i64 ((i : Int) + 1)) rfl rfl rfl rfl rfl rfl (iop_add (by omega) (by omega)) ?_
      dsimp only [putL, setL, List.set_cons_zero, List.set_cons_succ, List.nil_append, List.cons_append]
      refine wk_move (.int .i64 0) rfl rfl rfl rfl ?_
      dsimp only [putL, setL, List.set_cons_zero, List.set_cons_succ, List.nil_append, List.cons_append]
      refine wk_nil ?_
      refine sp_block rfl ?_
      refine sp_loopg rfl (fun n l M => ∃ k : Nat, ∃ qs : List Nat, ∃ d10 : Value, ∃ d51 : Value, ∃ d52 : Value, ∃ d53 : Value, ∃ d54 : Value, ∃ d55 : Value, ∃ d56 : Value, ∃ d57 : Value, ∃ d58 : Value, ∃ d59 : Value, ∃ d60 : Value, ∃ d61 : Value, ∃ d62 : Value, ∃ d63 : Value, ∃ d64 : Value, ∃ d65 : Value, ∃ d66 : Value, ∃ d67 : Value, l = [(.slice a nn c), undef, (.slice none 0 0), (.int .i64 0), (.int .i64 (wrongI (modW 1) (xsS ss))), (.slice (some ⟨β3, 0, none⟩) nn nn), (.slice (some ⟨β4, 0, none⟩) (nn + 1) (nn + 1)), (.int .i64 (i : Int)), (.pointer (some ⟨β7, 0, none⟩)), (.pointer (some ⟨β8, 0, none⟩)), d10, d11, d12, (.slice a nn c), (.slice a2 nn cp2), (.int .i64 (wrongI (modW 1) (xsS ss))), (.int .i64 (wrongI (modW 1) (xsS ss))), (.bool false), undef, (.slice a nn c), (.int .i64 ((nn : Nat) : Int)), (.slice (some ⟨β3, 0, none⟩) nn nn), (.slice a nn c), (.int .i64 ((nn : Nat) : Int)), (.int .i64 (((nn : Nat) : Int) + 1)), (.slice (some ⟨β4, 0, none⟩) (nn + 1) (nn + 1)), (.slice (some ⟨β4, 0, none⟩) (nn + 1) (nn + 1)), (numV 1), (.pointer (some ⟨β4, 0 + 0 * 4, none⟩)), (.slice a nn c), (.int .i64 ((nn : Nat) : Int)), (.int .i64 (i : Int)), (.bool true), (.int .i64 (i : Int)), (.pointer (some ⟨β6, o6 + i * 8, none⟩)), (shV (sx ss i)), (.pointer (some ⟨β7, 4, none⟩)), (numV (sx ss i).2), (.slice (some ⟨β3, 0, none⟩) nn nn), (.pointer (some ⟨β7, 0, none⟩)), (numV (sx ss i).1), (numV (evalL (modW 1) os (sx ss i).1)), (numV (subM (modW 1) (sx ss i).2 (evalL (modW 1) os (sx ss i).1))), (.slice (some ⟨β4, 0, none⟩) (nn + 1) (nn + 1)), (.pointer (some ⟨β7, 0, none⟩)), (numV (sx ss i).1), (numV (evalL (modW 1) al (sx ss i).1)), (numV ((subM (modW 1) (sx ss i).2 (evalL (modW 1) os (sx ss i).1)) * ((evalL (modW 1) al (sx ss i).1) ^ (modW 1 - 2) % modW 1) % modW 1)), (.int .i64 (i : Int)), (.int .i64 ((i : Int) + 1)), (.int .i64 (k : Int)), d51, d52, d53, d54, d55, d56, d57, d58, d59, d60, d61, d62, d63, d64, d65, d66, d67, d68, d69, d70, d71, d72, d73, d74, d75, d76, d77, d78, d79, d80, d81, d82, d83, d84, d85, d86, d87, d88, d89, d90, d91, d92, d93, d94, undef] ∧ (β8, numO ((subM (modW 1) (sx ss i).2 (evalL (modW 1) os (sx ss i).1)) * ((evalL (modW 1) al (sx ss i).1) ^ (modW 1 - 2) % modW 1) % modW 1)) :: (β7, shO (sx ss i)) :: (β4, rowO al) :: (β3, rowO qs) :: S1 = M ∧ (k ≤ i + 1) ∧ (Mid1 (modW 1) os al ((subM (modW 1) (sx ss i).2 (evalL (modW 1) os (sx ss i).1)) * ((evalL (modW 1) al (sx ss i).1) ^ (modW 1 - 2) % modW 1) % modW 1) k qs) ∧ n = i + 1 - k) (i + 1 - 0) ?_ ?_
      · exact ⟨0, os, d10, d51, d52, d53, d54, d55, d56, d57, d58, d59, d60, d61, d62, d63, d64, d65, d66, d67, rfl, rfl, (Nat.zero_le _), (Mid1.start hf1.bo), rfl⟩
      · skip
        intro n l M
        refine exists_imp.2 fun k => ?_
        refine exists_imp.2 fun qs => ?_
        refine exists_imp.2 fun d10 => ?_
        refine exists_imp.2 fun d51 => ?_
        refine exists_imp.2 fun d52 => ?_
        refine exists_imp.2 fun d53 => ?_
        refine exists_imp.2 fun d54 => ?_
        refine exists_imp.2 fun d55 => ?_
        refine exists_imp.2 fun d56 => ?_
        refine exists_imp.2 fun d57 => ?_
        refine exists_imp.2 fun d58 => ?_
        refine exists_imp.2 fun d59 => ?_
        refine exists_imp.2 fun d60 => ?_
        refine exists_imp.2 fun d61 => ?_
        refine exists_imp.2 fun d62 => ?_
        refine exists_imp.2 fun d63 => ?_
        refine exists_imp.2 fun d64 => ?_
        refine exists_imp.2 fun d65 => ?_
        refine exists_imp.2 fun d66 => ?_
        refine exists_imp.2 fun d67 => ?_
        rintro ⟨rfl, rfl, hg0, hg1, rfl⟩
        have hlq : qs.length = nn := hg1.len.trans hlo
        refine sp_seq rfl ?_
        refine sp_region (π := [0]) [] rfl rfl ?_
        by_cases hc9 : (k : Int) < ((i : Int) + 1)
        · skip
          refine wk_iop (.bool true) rfl rfl rfl rfl rfl rfl (iop_lss_t hc9) ?_
          dsimp only [putL, setL, List.set_cons_zero, List.set_cons_succ, List.nil_append, List.cons_append]
          refine wk_nil ?_
          refine sp_seq rfl ?_
          refine sp_true rfl rfl ?_
          refine sp_skip rfl ?_
          refine sp_seq rfl ?_
          refine sp_block rfl ?_
          refine sp_seq rfl ?_
          refine sp_region (π := [0, 1]) [] rfl rfl ?_
          refine wk_move (.int .i64 (k : Int)) rfl rfl rfl rfl ?_
          dsimp only [putL, setL, List.set_cons_zero, List.set_cons_succ, List.nil_append, List.cons_append]
          refine wk_assign (.int .i64 (k : Int)) rfl rfl rfl rfl ?_
          dsimp only [putL, setL, List.set_cons_zero, List.set_cons_succ, List.nil_append, List.cons_append]
          refine wk_nil ?_
          refine sp_draw [0, 1, 2, 3, 4, 5, 6, 7, 8, 9, 10, 11, 12, 13, 14] [] mixed rfl (by kernel_rfl) (by kernel_rfl) ?_
          refine wk_move (.slice (some ⟨β3, 0, none⟩) nn nn) rfl rfl rfl rfl ?_
          dsimp only [putL, setL, List.set_cons_zero, List.set_cons_succ, List.nil_append, List.cons_append]
          refine wk_move (.int .i64 (k : Int)) rfl rfl rfl rfl ?_
          dsimp only [putL, setL, List.set_cons_zero, List.set_cons_succ, List.nil_append, List.cons_append]
          refine wk_move (.slice (some ⟨β3, 0, none⟩) nn nn) rfl rfl rfl rfl ?_
          dsimp only [putL, setL, List.set_cons_zero, List.set_cons_succ, List.nil_append, List.cons_append]
          refine wk_move (.int .i64 (k : Int)) rfl rfl rfl rfl ?_
          dsimp only [putL, setL, List.set_cons_zero, List.set_cons_succ, List.nil_append, List.cons_append]
          refine wk_idxS k 4 rfl rfl rfl rfl rfl Try.underlying57 (by kernel_rfl) rfl (by omega) ?_
          dsimp only [putL, setL, List.set_cons_zero, List.set_cons_succ, List.nil_append, List.cons_append]
          refine wk_ldRow 3 rfl rfl rfl rfl rfl (by have h0 := hlq; omega) ?_
          dsimp only [putL, setL, List.set_cons_zero, List.set_cons_succ, List.nil_append, List.cons_append]
          refine wk_ldN 0 rfl rfl rfl rfl rfl ?_
          dsimp only [putL, setL, List.set_cons_zero, List.set_cons_succ, List.nil_append, List.cons_append]
          refine wk_move (.slice (some ⟨β4, 0, none⟩) (nn + 1) (nn + 1)) rfl rfl rfl rfl ?_
          dsimp only [putL, setL, List.set_cons_zero, List.set_cons_succ, List.nil_append, List.cons_append]
          refine wk_move (.int .i64 (k : Int)) rfl rfl rfl rfl ?_
          dsimp only [putL, setL, List.set_cons_zero, List.set_cons_succ, List.nil_append, List.cons_append]
          refine wk_idxS k 4 rfl rfl rfl rfl rfl Try.underlying57 (by kernel_rfl) rfl (by omega) ?_
          dsimp only [putL, setL, List.set_cons_zero, List.set_cons_succ, List.nil_append, List.cons_append]
          refine wk_ldRow 2 rfl rfl rfl rfl rfl (by have h0 := hla; omega) ?_
          dsimp only [putL, setL, List.set_cons_zero, List.set_cons_succ, List.nil_append, List.cons_append]
          refine wk_call [(numV ((subM (modW 1) (sx ss i).2 (evalL (modW 1) os (sx ss i).1)) * ((evalL (modW 1) al (sx ss i).1) ^ (modW 1 - 2) % modW 1) % modW 1)), (numV (ix al k))] (numV (((subM (modW 1) (sx ss i).2 (evalL (modW 1) os (sx ss i).1)) * ((evalL (modW 1) al (sx ss i).1) ^ (modW 1 - 2) % modW 1) % modW 1) * (ix al k) % modW 1)) rfl rfl rfl (enters_of Try.func80 (by kernel_rfl) (by kernel_rfl)) rfl (pmul_calls ((subM (modW 1) (sx ss i).2 (evalL (modW 1) os (sx ss i).1)) * ((evalL (modW 1) al (sx ss i).1) ^ (modW 1 - 2) % modW 1) % modW 1) (ix al k) (Nat.lt_trans (Nat.mod_lt _ (modW_pos ok1)) (modW_lt 1)) (ix_lt (fun c hc => Nat.lt_trans (hf1.ba c hc) (modW_lt 1)))) ?_
          dsimp only [putL, setL, List.set_cons_zero, List.set_cons_succ, List.nil_append, List.cons_append]
          refine wk_call [(numV (ix qs k)), (numV (((subM (modW 1) (sx ss i).2 (evalL (modW 1) os (sx ss i).1)) * ((evalL (modW 1) al (sx ss i).1) ^ (modW 1 - 2) % modW 1) % modW 1) * (ix al k) % modW 1))] (numV (((ix qs k) + (((subM (modW 1) (sx ss i).2 (evalL (modW 1) os (sx ss i).1)) * ((evalL (modW 1) al (sx ss i).1) ^ (modW 1 - 2) % modW 1) % modW 1) * (ix al k) % modW 1)) % modW 1)) rfl rfl rfl (enters_of Try.func79 (by kernel_rfl) (by kernel_rfl)) rfl (padd_calls (ix qs k) (((subM (modW 1) (sx ss i).2 (evalL (modW 1) os (sx ss i).1)) * ((evalL (modW 1) al (sx ss i).1) ^ (modW 1 - 2) % modW 1) % modW 1) * (ix al k) % modW 1) (ix_lt (fun c hc => Nat.lt_trans (hg1.bd c hc) (modW_lt 1))) (Nat.lt_trans (Nat.mod_lt _ (modW_pos ok1)) (modW_lt 1))) ?_
          dsimp only [putL, setL, List.set_cons_zero, List.set_cons_succ, List.nil_append, List.cons_append]
          refine wk_idxS k 4 rfl rfl rfl rfl rfl Try.underlying57 (by kernel_rfl) rfl (by omega) ?_
          dsimp only [putL, setL, List.set_cons_zero, List.set_cons_succ, List.nil_append, List.cons_append]
          refine wk_stRow 3 rfl rfl rfl rfl rfl rfl (by have h0 := hlq; omega) ?_
          dsimp only [putL, setL, List.set_cons_zero, List.set_cons_succ, List.nil_append, List.cons_append]
          refine wk_nil ?_
          refine sp_region (π := [0, 1]) [] rfl rfl ?_
          refine wk_iop (.int .i64 ((k : Int) + 1)) rfl rfl rfl rfl rfl rfl (iop_add (by omega) (by omega)) ?_
          dsimp only [putL, setL, List.set_cons_zero, List.set_cons_succ, List.nil_append, List.cons_append]
          refine wk_move (.int .i64 ((k : Int) + 1)) rfl rfl rfl rfl ?_
          dsimp only [putL, setL, List.set_cons_zero, List.set_cons_succ, List.nil_append, List.cons_append]
          refine wk_nil ?_
          exact ⟨(β8, numO ((subM (modW 1) (sx ss i).2 (evalL (modW 1) os (sx ss i).1)) * ((evalL (modW 1) al (sx ss i).1) ^ (modW 1 - 2) % modW 1) % modW 1)) :: (β7, shO (sx ss i)) :: (β4, rowO al) :: (β3, rowO (qs.set k (((ix qs k) + (((subM (modW 1) (sx ss i).2 (evalL (modW 1) os (sx ss i).1)) * ((evalL (modW 1) al (sx ss i).1) ^ (modW 1 - 2) % modW 1) % modW 1) * (ix al k) % modW 1)) % modW 1))) :: S1, _, List.Sublist.refl _, ⟨(k + 1), (qs.set k (((ix qs k) + (((subM (modW 1) (sx ss i).2 (evalL (modW 1) os (sx ss i).1)) * ((evalL (modW 1) al (sx ss i).1) ^ (modW 1 - 2) % modW 1) % modW 1) * (ix al k) % modW 1)) % modW 1)), (.int .i64 (k : Int)), (.bool true), (.int .i64 (k : Int)), (.slice (some ⟨β3, 0, none⟩) nn nn), (.int .i64 (k : Int)), (.slice (some ⟨β3, 0, none⟩) nn nn), (.int .i64 (k : Int)), (.pointer (some ⟨β3, 0 + k * 4, none⟩)), (numV (ix qs k)), (numV ((subM (modW 1) (sx ss i).2 (evalL (modW 1) os (sx ss i).1)) * ((evalL (modW 1) al (sx ss i).1) ^ (modW 1 - 2) % modW 1) % modW 1)), (.slice (some ⟨β4, 0, none⟩) (nn + 1) (nn + 1)), (.int .i64 (k : Int)), (.pointer (some ⟨β4, 0 + k * 4, none⟩)), (numV (ix al k)), (numV (((subM (modW 1) (sx ss i).2 (evalL (modW 1) os (sx ss i).1)) * ((evalL (modW 1) al (sx ss i).1) ^ (modW 1 - 2) % modW 1) % modW 1) * (ix al k) % modW 1)), (numV (((ix qs k) + (((subM (modW 1) (sx ss i).2 (evalL (modW 1) os (sx ss i).1)) * ((evalL (modW 1) al (sx ss i).1) ^ (modW 1 - 2) % modW 1) % modW 1) * (ix al k) % modW 1)) % modW 1)), (.pointer (some ⟨β3, 0 + k * 4, none⟩)), (.int .i64 ((k : Int) + 1)), rfl, rfl, (by omega), (hg1.step (modW_pos ok1) (by omega)), rfl⟩, (by omega)⟩
        · skip
          refine wk_iop (.bool false) rfl rfl rfl rfl rfl rfl (iop_lss_f hc9) ?_
          dsimp only [putL, setL, List.set_cons_zero, List.set_cons_succ, List.nil_append, List.cons_append]
          refine wk_nil ?_
          refine sp_seq rfl ?_
          refine sp_false rfl rfl ?_
          refine sp_exit rfl ?_
          refine sp_seq rfl ?_
          refine sp_region (π := [0, 1, 2]) [] rfl rfl ?_
          refine wk_move (.int .i64 (i : Int)) rfl rfl rfl rfl ?_
          dsimp only [putL, setL, List.set_cons_zero, List.set_cons_succ, List.nil_append, List.cons_append]
          refine wk_iop (.int .i64 ((i : Int) + 1)) rfl rfl rfl rfl rfl rfl (iop_add (by omega) (by omega)) ?_
          dsimp only [putL, setL, List.set_cons_zero, List.set_cons_succ, List.nil_append, List.cons_append]
          refine wk_assign (.int .i64 ((i : Int) + 1)) rfl rfl rfl rfl ?_
          dsimp only [putL, setL, List.set_cons_zero, List.set_cons_succ, List.nil_append, List.cons_append]
          refine wk_nil ?_
          refine sp_block rfl ?_
          refine sp_loopg rfl (fun n l M => ∃ j : Int, ∃ J : Nat, ∃ bs : List Nat, ∃ d12 : Value, ∃ d70 : Value, ∃ d71 : Value, ∃ d72 : Value, ∃ d73 : Value, ∃ d74 : Value, ∃ d75 : Value, ∃ d76 : Value, ∃ d77 : Value, ∃ d78 : Value, ∃ d79 : Value, ∃ d80 : Value, ∃ d81 : Value, ∃ d82 : Value, ∃ d83 : Value, ∃ d84 : Value, ∃ d85 : Value, ∃ d86 : Value, ∃ d87 : Value, ∃ d88 : Value, ∃ d89 : Value, ∃ d90 : Value, ∃ d91 : Value, ∃ d92 : Value, ∃ d93 : Value, l = [(.slice a nn c), undef, (.slice none 0 0), (.int .i64 0), (.int .i64 (wrongI (modW 1) (xsS ss))), (.slice (some ⟨β3, 0, none⟩) nn nn), (.slice (some ⟨β4, 0, none⟩) (nn + 1) (nn + 1)), (.int .i64 (i : Int)), (.pointer (some ⟨β7, 0, none⟩)), (.pointer (some ⟨β8, 0, none⟩)), d10, (.int .i64 j), d12, (.slice a nn c), (.slice a2 nn cp2), (.int .i64 (wrongI (modW 1) (xsS ss))), (.int .i64 (wrongI (modW 1) (xsS ss))), (.bool false), undef, (.slice a nn c), (.int .i64 ((nn : Nat) : Int)), (.slice (some ⟨β3, 0, none⟩) nn nn), (.slice a nn c), (.int .i64 ((nn : Nat) : Int)), (.int .i64 (((nn : Nat) : Int) + 1)), (.slice (some ⟨β4, 0, none⟩) (nn + 1) (nn + 1)), (.slice (some ⟨β4, 0, none⟩) (nn + 1) (nn + 1)), (numV 1), (.pointer (some ⟨β4, 0 + 0 * 4, none⟩)), (.slice a nn c), (.int .i64 ((nn : Nat) : Int)), (.int .i64 (i : Int)), (.bool true), (.int .i64 (i : Int)), (.pointer (some ⟨β6, o6 + i * 8, none⟩)), (shV (sx ss i)), (.pointer (some ⟨β7, 4, none⟩)), (numV (sx ss i).2), (.slice (some ⟨β3, 0, none⟩) nn nn), (.pointer (some ⟨β7, 0, none⟩)), (numV (sx ss i).1), (numV (evalL (modW 1) os (sx ss i).1)), (numV (subM (modW 1) (sx ss i).2 (evalL (modW 1) os (sx ss i).1))), (.slice (some ⟨β4, 0, none⟩) (nn + 1) (nn + 1)), (.pointer (some ⟨β7, 0, none⟩)), (numV (sx ss i).1), (numV (evalL (modW 1) al (sx ss i).1)), (numV ((subM (modW 1) (sx ss i).2 (evalL (modW 1) os (sx ss i).1)) * ((evalL (modW 1) al (sx ss i).1) ^ (modW 1 - 2) % modW 1) % modW 1)), (.int .i64 (i : Int)), (.int .i64 ((i : Int) + 1)), (.int .i64 (k : Int)), (.bool false), d52, d53, d54, d55, d56, d57, d58, d59, d60, d61, d62, d63, d64, d65, d66, d67, (.int .i64 (i : Int)), (.int .i64 ((i : Int) + 1)), d70, d71, d72, d73, d74, d75, d76, d77, d78, d79, d80, d81, d82, d83, d84, d85, d86, d87, d88, d89, d90, d91, d92, d93, d94, undef] ∧ (β8, numO ((subM (modW 1) (sx ss i).2 (evalL (modW 1) os (sx ss i).1)) * ((evalL (modW 1) al (sx ss i).1) ^ (modW 1 - 2) % modW 1) % modW 1)) :: (β7, shO (sx ss i)) :: (β4, rowO bs) :: (β3, rowO qs) :: S1 = M ∧ (j = (J : Int) - 1) ∧ (J ≤ i + 2) ∧ (Mid2 (modW 1) al (sx ss i).1 i J bs) ∧ n = (j + 1).toNat) ((((i : Int) + 1) + 1).toNat) ?_ ?_
          · exact ⟨((i : Int) + 1), (i + 2), al, d12, d70, d71, d72, d73, d74, d75, d76, d77, d78, d79, d80, d81, d82, d83, d84, d85, d86, d87, d88, d89, d90, d91, d92, d93, rfl, rfl, (by omega), (Nat.le_refl _), (Mid2.start hf1.ba), rfl⟩
          · skip
            intro n l M
            refine exists_imp.2 fun j => ?_
            refine exists_imp.2 fun J => ?_
            refine exists_imp.2 fun bs => ?_
            refine exists_imp.2 fun d12 => ?_
            refine exists_imp.2 fun d70 => ?_
            refine exists_imp.2 fun d71 => ?_
            refine exists_imp.2 fun d72 => ?_
            refine exists_imp.2 fun d73 => ?_
            refine exists_imp.2 fun d74 => ?_
            refine exists_imp.2 fun d75 => ?_
            refine exists_imp.2 fun d76 => ?_
            refine exists_imp.2 fun d77 => ?_
            refine exists_imp.2 fun d78 => ?_
            refine exists_imp.2 fun d79 => ?_
            refine exists_imp.2 fun d80 => ?_
            refine exists_imp.2 fun d81 => ?_
            refine exists_imp.2 fun d82 => ?_
            refine exists_imp.2 fun d83 => ?_
            refine exists_imp.2 fun d84 => ?_
            refine exists_imp.2 fun d85 => ?_
            refine exists_imp.2 fun d86 => ?_
            refine exists_imp.2 fun d87 => ?_
            refine exists_imp.2 fun d88 => ?_
            refine exists_imp.2 fun d89 => ?_
            refine exists_imp.2 fun d90 => ?_
            refine exists_imp.2 fun d91 => ?_
            refine exists_imp.2 fun d92 => ?_
            refine exists_imp.2 fun d93 => ?_
            rintro ⟨rfl, rfl, hh0, hh1, hh2, rfl⟩
            have hlb : bs.length = nn + 1 := hh2.len.trans hla
            refine sp_seq rfl ?_
            refine sp_seq rfl ?_
            refine sp_region (π := [0, 1]) [] rfl rfl ?_
            refine wk_move (.int .i64 j) rfl rfl rfl rfl ?_
            dsimp only [putL, setL, List.set_cons_zero, List.set_cons_succ, List.nil_append, List.cons_append]
            by_cases hc10 : 0 ≤ j
            · skip
              refine wk_iop (.bool true) rfl rfl rfl rfl rfl rfl (iop_geq_t hc10) ?_
              dsimp only [putL, setL, List.set_cons_zero, List.set_cons_succ, List.nil_append, List.cons_append]
              refine wk_nil ?_
              refine sp_true rfl rfl ?_
              refine sp_skip rfl ?_
              refine sp_seq rfl ?_
              refine sp_block rfl ?_
              refine sp_seq rfl ?_
              refine sp_region (π := [0, 1, 2]) [] rfl rfl ?_
              refine wk_val (numV 0) rfl rfl rfl (fun w => by kernel_rfl) ?_
              dsimp only [putL, setL, List.set_cons_zero, List.set_cons_succ, List.nil_append, List.cons_append]
              refine wkf_newN rfl rfl fun β11 => ?_
              dsimp only [putL, setL, List.set_cons_zero, List.set_cons_succ, List.nil_append, List.cons_append]
              refine wk_stN 0 0 rfl rfl rfl rfl rfl rfl ?_
              dsimp only [putL, setL, List.set_cons_zero, List.set_cons_succ, List.nil_append, List.cons_append]
              refine wk_nil ?_
              refine sp_seq rfl ?_
              refine sp_seq rfl ?_
              refine sp_region (π := [0, 1]) [] rfl rfl ?_
              refine wk_move (.int .i64 j) rfl rfl rfl rfl ?_
              dsimp only [putL, setL, List.set_cons_zero, List.set_cons_succ, List.nil_append, List.cons_append]
              by_cases hc12 : 0 < j
              · skip
                refine wk_iop (.bool true) rfl rfl rfl rfl rfl rfl (iop_gtr_t hc12) ?_
                dsimp only [putL, setL, List.set_cons_zero, List.set_cons_succ, List.nil_append, List.cons_append]
                refine wk_nil ?_
                refine sp_true rfl rfl ?_
                refine sp_region (π := [0, 1, 2, 3, 4, 5]) [] rfl rfl ?_
                refine wk_move (.slice (some ⟨β4, 0, none⟩) (nn + 1) (nn + 1)) rfl rfl rfl rfl ?_
                dsimp only [putL, setL, List.set_cons_zero, List.set_cons_succ, List.nil_append, List.cons_append]
                refine wk_move (.int .i64 j) rfl rfl rfl rfl ?_
                dsimp only [putL, setL, List.set_cons_zero, List.set_cons_succ, List.nil_append, List.cons_append]
                refine wk_iop (.int .i64 (j - 1)) rfl rfl rfl rfl rfl rfl (iop_sub (by omega) (by omega)) ?_
                dsimp only [putL, setL, List.set_cons_zero, List.set_cons_succ, List.nil_append, List.cons_append]
                refine wk_idxS (J - 2) 4 rfl rfl rfl rfl rfl Try.underlying57 (by kernel_rfl) (by omega) (by omega) ?_
                dsimp only [putL, setL, List.set_cons_zero, List.set_cons_succ, List.nil_append, List.cons_append]
                refine wk_ldRow 3 rfl rfl rfl rfl rfl (by have h0 := hlb; omega) ?_
                dsimp only [putL, setL, List.set_cons_zero, List.set_cons_succ, List.nil_append, List.cons_append]
                refine wk_stN 0 (ix bs (J - 2)) rfl rfl rfl rfl rfl rfl ?_
                dsimp only [putL, setL, List.set_cons_zero, List.set_cons_succ, List.nil_append, List.cons_append]
                refine wk_nil ?_
                refine sp_draw [0, 1, 2, 3, 4, 5, 6, 7, 8, 9, 10, 11, 12] [] mixed rfl (by kernel_rfl) (by kernel_rfl) ?_
                refine wk_move (.slice (some ⟨β4, 0, none⟩) (nn + 1) (nn + 1)) rfl rfl rfl rfl ?_
                dsimp only [putL, setL, List.set_cons_zero, List.set_cons_succ, List.nil_append, List.cons_append]
                refine wk_move (.int .i64 j) rfl rfl rfl rfl ?_
                dsimp only [putL, setL, List.set_cons_zero, List.set_cons_succ, List.nil_append, List.cons_append]
                refine wk_ldN 0 rfl rfl rfl rfl rfl ?_
                dsimp only [putL, setL, List.set_cons_zero, List.set_cons_succ, List.nil_append, List.cons_append]
                refine wk_move (.slice (some ⟨β4, 0, none⟩) (nn + 1) (nn + 1)) rfl rfl rfl rfl ?_
                dsimp only [putL, setL, List.set_cons_zero, List.set_cons_succ, List.nil_append, List.cons_append]
                refine wk_move (.int .i64 j) rfl rfl rfl rfl ?_
                dsimp only [putL, setL, List.set_cons_zero, List.set_cons_succ, List.nil_append, List.cons_append]
                refine wk_idxS (J - 1) 4 rfl rfl rfl rfl rfl Try.underlying57 (by kernel_rfl) (by omega) (by omega) ?_
                dsimp only [putL, setL, List.set_cons_zero, List.set_cons_succ, List.nil_append, List.cons_append]
                refine wk_ldRow 3 rfl rfl rfl rfl rfl (by have h0 := hlb; omega) ?_
                dsimp only [putL, setL, List.set_cons_zero, List.set_cons_succ, List.nil_append, List.cons_append]
                refine wk_val (.pointer (some ⟨β7, 0, none⟩)) rfl rfl rfl (fun w => by kernel_rfl) ?_
                dsimp only [putL, setL, List.set_cons_zero, List.set_cons_succ, List.nil_append, List.cons_append]
                refine wk_ldX 2 rfl rfl rfl rfl rfl ?_
                dsimp only [putL, setL, List.set_cons_zero, List.set_cons_succ, List.nil_append, List.cons_append]
                refine wk_call [(numV (ix bs (J - 1))), (numV (sx ss i).1)] (numV ((ix bs (J - 1)) * (sx ss i).1 % modW 1)) rfl rfl rfl (enters_of Try.func80 (by kernel_rfl) (by kernel_rfl)) rfl (pmul_calls (ix bs (J - 1)) (sx ss i).1 (ix_lt (fun c hc => Nat.lt_trans (hh2.bd c hc) (modW_lt 1))) (sx_lt1 hss)) ?_
                dsimp only [putL, setL, List.set_cons_zero, List.set_cons_succ, List.nil_append, List.cons_append]
                refine wk_call [(numV (ix bs (J - 2))), (numV ((ix bs (J - 1)) * (sx ss i).1 % modW 1))] (numV (subM (modW 1) (ix bs (J - 2)) ((ix bs (J - 1)) * (sx ss i).1 % modW 1))) rfl rfl rfl (enters_of Try.func82 (by kernel_rfl) (by kernel_rfl)) rfl (psub_calls (ix bs (J - 2)) ((ix bs (J - 1)) * (sx ss i).1 % modW 1) (ix_lt (fun c hc => Nat.lt_trans (hh2.bd c hc) (modW_lt 1))) (Nat.lt_trans (Nat.mod_lt _ (modW_pos ok1)) (modW_lt 1))) ?_
                dsimp only [putL, setL, List.set_cons_zero, List.set_cons_succ, List.nil_append, List.cons_append]
                refine wk_idxS (J - 1) 4 rfl rfl rfl rfl rfl Try.underlying57 (by kernel_rfl) (by omega) (by omega) ?_
                dsimp only [putL, setL, List.set_cons_zero, List.set_cons_succ, List.nil_append, List.cons_append]
                refine wk_stRow 3 rfl rfl rfl rfl rfl rfl (by have h0 := hlb; omega) ?_
                dsimp only [putL, setL, List.set_cons_zero, List.set_cons_succ, List.nil_append, List.cons_append]
                refine wk_nil ?_
                refine sp_region (π := [0, 1, 2]) [] rfl rfl ?_
                refine wk_move (.int .i64 j) rfl rfl rfl rfl ?_
                dsimp only [putL, setL, List.set_cons_zero, List.set_cons_succ, List.nil_append, List.cons_append]
                refine wk_iop (.int .i64 (j - 1)) rfl rfl rfl rfl rfl rfl (iop_sub (by omega) (by omega)) ?_
                dsimp only [putL, setL, List.set_cons_zero, List.set_cons_succ, List.nil_append, List.cons_append]
                refine wk_assign (.int .i64 (j - 1)) rfl rfl rfl rfl ?_
                dsimp only [putL, setL, List.set_cons_zero, List.set_cons_succ, List.nil_append, List.cons_append]
                refine wk_nil ?_
                exact ⟨(β8, numO ((subM (modW 1) (sx ss i).2 (evalL (modW 1) os (sx ss i).1)) * ((evalL (modW 1) al (sx ss i).1) ^ (modW 1 - 2) % modW 1) % modW 1)) :: (β7, shO (sx ss i)) :: (β4, rowO (bs.set (J - 1) (subM (modW 1) (ix bs (J - 2)) ((ix bs (J - 1)) * (sx ss i).1 % modW 1)))) :: (β3, rowO qs) :: S1, _, by exact List.Sublist.cons _ <| List.Sublist.cons_cons _ <| List.Sublist.cons_cons _ <| List.Sublist.cons_cons _ <| List.Sublist.cons_cons _ <| List.Sublist.refl _, ⟨(j - 1), (J - 1), (bs.set (J - 1) (subM (modW 1) (ix bs (J - 2)) ((ix bs (J - 1)) * (sx ss i).1 % modW 1))), (.pointer (some ⟨β11, 0, none⟩)), (.int .i64 j), (.bool true), (.int .i64 j), (.int .i64 (j - 1)), (numV 0), (.int .i64 j), (.bool true), (.slice (some ⟨β4, 0, none⟩) (nn + 1) (nn + 1)), (.int .i64 j), (.int .i64 (j - 1)), (.pointer (some ⟨β4, 0 + (J - 2) * 4, none⟩)), (numV (ix bs (J - 2))), (.slice (some ⟨β4, 0, none⟩) (nn + 1) (nn + 1)), (.int .i64 j), (numV (ix bs (J - 2))), (.slice (some ⟨β4, 0, none⟩) (nn + 1) (nn + 1)), (.int .i64 j), (.pointer (some ⟨β4, 0 + (J - 1) * 4, none⟩)), (numV (ix bs (J - 1))), (.pointer (some ⟨β7, 0, none⟩)), (numV (sx ss i).1), (numV ((ix bs (J - 1)) * (sx ss i).1 % modW 1)), (numV (subM (modW 1) (ix bs (J - 2)) ((ix bs (J - 1)) * (sx ss i).1 % modW 1))), (.pointer (some ⟨β4, 0 + (J - 1) * 4, none⟩)), rfl, rfl, (by omega), (by omega), (Mid2.step (modW_pos ok1) (j := J - 1) (by rw [show J - 1 + 1 = J by omega]; exact hh2) (by omega) (by omega) (by rw [if_neg (by omega)]; rfl)), rfl⟩, (by omega)⟩
              · skip
                refine wk_iop (.bool false) rfl rfl rfl rfl rfl rfl (iop_gtr_f hc12) ?_
                dsimp only [putL, setL, List.set_cons_zero, List.set_cons_succ, List.nil_append, List.cons_append]
                refine wk_nil ?_
                refine sp_false rfl rfl ?_
                refine sp_skip rfl ?_
                refine sp_draw [0, 1, 2, 3, 4, 5, 6, 7, 8, 9, 10, 11, 12] [] mixed rfl (by kernel_rfl) (by kernel_rfl) ?_
                refine wk_move (.slice (some ⟨β4, 0, none⟩) (nn + 1) (nn + 1)) rfl rfl rfl rfl ?_
                dsimp only [putL, setL, List.set_cons_zero, List.set_cons_succ, List.nil_append, List.cons_append]
                refine wk_move (.int .i64 j) rfl rfl rfl rfl ?_
                dsimp only [putL, setL, List.set_cons_zero, List.set_cons_succ, List.nil_append, List.cons_append]
                refine wk_ldN 0 rfl rfl rfl rfl rfl ?_
                dsimp only [putL, setL, List.set_cons_zero, List.set_cons_succ, List.nil_append, List.cons_append]
                refine wk_move (.slice (some ⟨β4, 0, none⟩) (nn + 1) (nn + 1)) rfl rfl rfl rfl ?_
                dsimp only [putL, setL, List.set_cons_zero, List.set_cons_succ, List.nil_append, List.cons_append]
                refine wk_move (.int .i64 j) rfl rfl rfl rfl ?_
                dsimp only [putL, setL, List.set_cons_zero, List.set_cons_succ, List.nil_append, List.cons_append]
                refine wk_idxS (J - 1) 4 rfl rfl rfl rfl rfl Try.underlying57 (by kernel_rfl) (by omega) (by omega) ?_
                dsimp only [putL, setL, List.set_cons_zero, List.set_cons_succ, List.nil_append, List.cons_append]
                refine wk_ldRow 3 rfl rfl rfl rfl rfl (by have h0 := hlb; omega) ?_
                dsimp only [putL, setL, List.set_cons_zero, List.set_cons_succ, List.nil_append, List.cons_append]
                refine wk_val (.pointer (some ⟨β7, 0, none⟩)) rfl rfl rfl (fun w => by kernel_rfl) ?_
                dsimp only [putL, setL, List.set_cons_zero, List.set_cons_succ, List.nil_append, List.cons_append]
                refine wk_ldX 2 rfl rfl rfl rfl rfl ?_
                dsimp only [putL, setL, List.set_cons_zero, List.set_cons_succ, List.nil_append, List.cons_append]
                refine wk_call [(numV (ix bs (J - 1))), (numV (sx ss i).1)] (numV ((ix bs (J - 1)) * (sx ss i).1 % modW 1)) rfl rfl rfl (enters_of Try.func80 (by kernel_rfl) (by kernel_rfl)) rfl (pmul_calls (ix bs (J - 1)) (sx ss i).1 (ix_lt (fun c hc => Nat.lt_trans (hh2.bd c hc) (modW_lt 1))) (sx_lt1 hss)) ?_
                dsimp only [putL, setL, List.set_cons_zero, List.set_cons_succ, List.nil_append, List.cons_append]
                refine wk_call [(numV 0), (numV ((ix bs (J - 1)) * (sx ss i).1 % modW 1))] (numV (subM (modW 1) 0 ((ix bs (J - 1)) * (sx ss i).1 % modW 1))) rfl rfl rfl (enters_of Try.func82 (by kernel_rfl) (by kernel_rfl)) rfl (psub_calls 0 ((ix bs (J - 1)) * (sx ss i).1 % modW 1) (by decide) (Nat.lt_trans (Nat.mod_lt _ (modW_pos ok1)) (modW_lt 1))) ?_
                dsimp only [putL, setL, List.set_cons_zero, List.set_cons_succ, List.nil_append, List.cons_append]
                refine wk_idxS (J - 1) 4 rfl rfl rfl rfl rfl Try.underlying57 (by kernel_rfl) (by omega) (by omega) ?_
                dsimp only [putL, setL, List.set_cons_zero, List.set_cons_succ, List.nil_append, List.cons_append]
                refine wk_stRow 3 rfl rfl rfl rfl rfl rfl (by have h0 := hlb; omega) ?_
                dsimp only [putL, setL, List.set_cons_zero, List.set_cons_succ, List.nil_append, List.cons_append]
                refine wk_nil ?_
                refine sp_region (π := [0, 1, 2]) [] rfl rfl ?_
                refine wk_move (.int .i64 j) rfl rfl rfl rfl ?_
                dsimp only [putL, setL, List.set_cons_zero, List.set_cons_succ, List.nil_append, List.cons_append]
                refine wk_iop (.int .i64 (j - 1)) rfl rfl rfl rfl rfl rfl (iop_sub (by omega) (by omega)) ?_
                dsimp only [putL, setL, List.set_cons_zero, List.set_cons_succ, List.nil_append, List.cons_append]
                refine wk_assign (.int .i64 (j - 1)) rfl rfl rfl rfl ?_
                dsimp only [putL, setL, List.set_cons_zero, List.set_cons_succ, List.nil_append, List.cons_append]
                refine wk_nil ?_
                exact ⟨(β8, numO ((subM (modW 1) (sx ss i).2 (evalL (modW 1) os (sx ss i).1)) * ((evalL (modW 1) al (sx ss i).1) ^ (modW 1 - 2) % modW 1) % modW 1)) :: (β7, shO (sx ss i)) :: (β4, rowO (bs.set (J - 1) (subM (modW 1) 0 ((ix bs (J - 1)) * (sx ss i).1 % modW 1)))) :: (β3, rowO qs) :: S1, _, by exact List.Sublist.cons _ <| List.Sublist.cons_cons _ <| List.Sublist.cons_cons _ <| List.Sublist.cons_cons _ <| List.Sublist.cons_cons _ <| List.Sublist.refl _, ⟨(j - 1), (J - 1), (bs.set (J - 1) (subM (modW 1) 0 ((ix bs (J - 1)) * (sx ss i).1 % modW 1))), (.pointer (some ⟨β11, 0, none⟩)), (.int .i64 j), (.bool true), (.int .i64 j), (.int .i64 (j - 1)), (numV 0), (.int .i64 j), (.bool false), d77, d78, d79, d80, d81, (.slice (some ⟨β4, 0, none⟩) (nn + 1) (nn + 1)), (.int .i64 j), (numV 0), (.slice (some ⟨β4, 0, none⟩) (nn + 1) (nn + 1)), (.int .i64 j), (.pointer (some ⟨β4, 0 + (J - 1) * 4, none⟩)), (numV (ix bs (J - 1))), (.pointer (some ⟨β7, 0, none⟩)), (numV (sx ss i).1), (numV ((ix bs (J - 1)) * (sx ss i).1 % modW 1)), (numV (subM (modW 1) 0 ((ix bs (J - 1)) * (sx ss i).1 % modW 1))), (.pointer (some ⟨β4, 0 + (J - 1) * 4, none⟩)), rfl, rfl, (by omega), (by omega), (Mid2.step (modW_pos ok1) (j := J - 1) (by rw [show J - 1 + 1 = J by omega]; exact hh2) (by omega) (by omega) (by rw [if_pos (by omega)])), rfl⟩, (by omega)⟩
            · skip
              refine wk_iop (.bool false) rfl rfl rfl rfl rfl rfl (iop_geq_f hc10) ?_
              dsimp only [putL, setL, List.set_cons_zero, List.set_cons_succ, List.nil_append, List.cons_append]
              refine wk_nil ?_
              refine sp_false rfl rfl ?_
              refine sp_exit rfl ?_
              refine sp_region (π := [0, 1]) [] rfl rfl ?_
              refine wk_iop (.int .i64 ((i : Int) + 1)) rfl rfl rfl rfl rfl rfl (iop_add (by omega) (by omega)) ?_
              dsimp only [putL, setL, List.set_cons_zero, List.set_cons_succ, List.nil_append, List.cons_append]
              refine wk_move (.int .i64 ((i : Int) + 1)) rfl rfl rfl rfl ?_
              dsimp only [putL, setL, List.set_cons_zero, List.set_cons_succ, List.nil_append, List.cons_append]
              refine wk_nil ?_
              exact ⟨(β4, rowO bs) :: (β3, rowO qs) :: S1, _, by exact List.Sublist.cons _ <| List.Sublist.cons _ <| List.Sublist.cons_cons _ <| List.Sublist.cons_cons _ <| List.Sublist.refl _, ⟨(i + 1), qs, bs, (.int .i64 (i : Int)), (.pointer (some ⟨β7, 0, none⟩)), (.pointer (some ⟨β8, 0, none⟩)), d10, (.int .i64 j), d12, (.bool true), (.int .i64 (i : Int)), (.pointer (some ⟨β6, o6 + i * 8, none⟩)), (shV (sx ss i)), (.pointer (some ⟨β7, 4, none⟩)), (numV (sx ss i).2), (.slice (some ⟨β3, 0, none⟩) nn nn), (.pointer (some ⟨β7, 0, none⟩)), (numV (sx ss i).1), (numV (evalL (modW 1) os (sx ss i).1)), (numV (subM (modW 1) (sx ss i).2 (evalL (modW 1) os (sx ss i).1))), (.slice (some ⟨β4, 0, none⟩) (nn + 1) (nn + 1)), (.pointer (some ⟨β7, 0, none⟩)), (numV (sx ss i).1), (numV (evalL (modW 1) al (sx ss i).1)), (numV ((subM (modW 1) (sx ss i).2 (evalL (modW 1) os (sx ss i).1)) * ((evalL (modW 1) al (sx ss i).1) ^ (modW 1 - 2) % modW 1) % modW 1)), (.int .i64 (i : Int)), (.int .i64 ((i : Int) + 1)), (.int .i64 (k : Int)), (.bool false), d52, d53, d54, d55, d56, d57, d58, d59, d60, d61, d62, d63, d64, d65, d66, d67, (.int .i64 (i : Int)), (.int .i64 ((i : Int) + 1)), (.int .i64 j), (.bool false), d72, d73, d74, d75, d76, d77, d78, d79, d80, d81, d82, d83, d84, d85, d86, d87, d88, d89, d90, d91, d92, d93, (.int .i64 ((i : Int) + 1)), rfl, rfl, (by omega), (by have hk : k = i + 1 := (by omega); have hJ : J = 0 := (by omega); subst hk; subst hJ; exact Newton.step (modW_prime ok1) (wrongI_zero hw0).2 hf1 (by omega) hg1 hh2), rfl⟩, (by omega)⟩
    · skip
      refine wk_iop (.bool false) rfl rfl rfl rfl rfl rfl (iop_lss_f hc5) ?_
      dsimp only [putL, setL, List.set_cons_zero, List.set_cons_succ, List.nil_append, List.cons_append]
      refine wk_nil ?_
      refine sp_seq rfl ?_
      refine sp_false rfl rfl ?_
      refine sp_exit rfl ?_
      refine sp_seq rfl ?_
      refine sp_region (π := [0, 1, 2]) [] rfl rfl ?_
      refine wk_move (.slice (some ⟨β3, 0, none⟩) nn nn) rfl rfl rfl rfl ?_
      dsimp only [putL, setL, List.set_cons_zero, List.set_cons_succ, List.nil_append, List.cons_append]
      refine wk_assign (.slice (some ⟨β3, 0, none⟩) nn nn) rfl rfl rfl rfl ?_
      dsimp only [putL, setL, List.set_cons_zero, List.set_cons_succ, List.nil_append, List.cons_append]
      refine wk_assign (.int .i64 0) rfl rfl rfl rfl ?_
      dsimp only [putL, setL, List.set_cons_zero, List.set_cons_succ, List.nil_append, List.cons_append]
      refine wk_nil ?_
      refine sp_ret rfl ?_
      have he : os = thruL (modW 1) ss := thru_eq (modW_prime ok1) (wrongI_zero hw0).2 (by have hi : i = ss.length := (by omega); subst hi; exact hf1.done)
      exact ret_tmps (v := .tuple #[(.slice (some ⟨β3, 0, none⟩) nn nn), .int .i64 0]) (fun w' => by kernel_rfl) fun w' hw => ⟨(.slice (some ⟨β3, 0, none⟩) nn nn), [(β3, rowO os)], rfl, (by rw [← he]; exact own_row hlo (by simp only [maxLen]; omega)), hw.below, fun p hp => by obtain rfl := List.mem_singleton.1 hp; exact ⟨hw.own _ (List.mem_of_getElem? (i := 1) rfl), (hw.free _ (List.mem_of_getElem? (i := 1) rfl)).resolve_right id⟩⟩

set_option maxRecDepth 20000 in
set_option maxHeartbeats 1000000 in
theorem through_no (ss : List (Nat × Nat)) (nn : Nat) (a : Option Addr) (c : Nat) (hl : ss.length = nn) (hss : ShBound ss) (hn : nn ≤ 1099511627776) (hw0 : ¬ wrongI (modW 1) (xsS ss) = 0) (w : World) (hH : Holds w a (shL ss)) : Calls Try.prog 68 #[.slice a nn c] w (fun e w' => e = .returned (.tuple #[.slice none 0 0, .int .i64 (wrongI (modW 1) (xsS ss))]) ∧ Below w.heap.size w w') := by
  refine fn_calls (l0 := [(.slice a nn c), undef, undef, undef, undef, undef, undef, undef, undef, undef, undef, undef, undef, undef, undef, undef, undef, undef, undef, undef, undef, undef, undef, undef, undef, undef, undef, undef, undef, undef, undef, undef, undef, undef, undef, undef, undef, undef, undef, undef, undef, undef, undef, undef, undef, undef, undef, undef, undef, undef, undef, undef, undef, undef, undef, undef, undef, undef, undef, undef, undef, undef, undef, undef, undef, undef, undef, undef, undef, undef, undef, undef, undef, undef, undef, undef, undef, undef, undef, undef, undef, undef, undef, undef, undef, undef, undef, undef, undef, undef, undef, undef, undef, undef, undef, undef]) Try.func68 rfl rfl [] (St.start w) ?_
  refine sp_seq rfl ?_
  refine sp_region (π := [0, 1]) [] rfl rfl ?_
  refine wk_assign (.slice none 0 0) rfl rfl rfl rfl ?_
  dsimp only [putL, setL, List.set_cons_zero, List.set_cons_succ, List.nil_append, List.cons_append]
  refine wk_assign (.int .i64 0) rfl rfl rfl rfl ?_
  dsimp only [putL, setL, List.set_cons_zero, List.set_cons_succ, List.nil_append, List.cons_append]
  refine wk_nil ?_
  refine sp_seq rfl ?_
  refine sp_region (π := [0, 1, 2, 3]) [] rfl rfl ?_
  refine wk_move (.slice a nn c) rfl rfl rfl rfl ?_
  dsimp only [putL, setL, List.set_cons_zero, List.set_cons_succ, List.nil_append, List.cons_append]
  refine wk_callS (e := 24) (size := 4) (n := nn) (cs := (rowL (xsS ss))) [(.slice a nn c)] (fun v => v) rfl rfl rfl (enters_of Try.func84 (by kernel_rfl) (by kernel_rfl)) rfl (xsS_row hl) (by simp only [maxLen]; omega) (fun M' w' hm hst => places_calls ss nn _ _ hl hss (by omega) w' (hH.old hst)) fun v1 S1 hO1 => ?_
  dsimp only [putL, setL, List.set_cons_zero, List.set_cons_succ, List.nil_append, List.cons_append]
  obtain ⟨a2, cp2, hv2, hcp2, hsh2⟩ := hO1.reads
  subst hv2
  refine wk_callW [(.slice a2 nn cp2)] (.int .i64 (wrongI (modW 1) (xsS ss))) rfl rfl rfl (enters_of Try.func81 (by kernel_rfl) (by kernel_rfl)) rfl (fun M' w' hm hst => wrong_calls' (xsS ss) nn _ _ ((xsS_len ss).trans hl) (xsS_bound hss) (by omega) hcp2 w' (hsh2.holds hst (fun p hp => hm p (by simp [hp])))) ?_
  dsimp only [putL, setL, List.set_cons_zero, List.set_cons_succ, List.nil_append, List.cons_append]
  refine wk_assign (.int .i64 (wrongI (modW 1) (xsS ss))) rfl rfl rfl rfl ?_
  dsimp only [putL, setL, List.set_cons_zero, List.set_cons_succ, List.nil_append, List.cons_append]
  refine wk_nil ?_
  refine sp_seq rfl ?_
  refine sp_seq rfl ?_
  refine sp_region (π := [0, 1]) [] rfl rfl ?_
  refine wk_move (.int .i64 (wrongI (modW 1) (xsS ss))) rfl rfl rfl rfl ?_
  dsimp only [putL, setL, List.set_cons_zero, List.set_cons_succ, List.nil_append, List.cons_append]
  refine wk_iop (.bool true) rfl rfl rfl rfl rfl rfl (iop_neq_t hw0) ?_
  dsimp only [putL, setL, List.set_cons_zero, List.set_cons_succ, List.nil_append, List.cons_append]
  refine wk_nil ?_
  refine sp_true rfl rfl ?_
  refine sp_seq rfl ?_
  refine sp_region (π := [0, 1, 2]) [] rfl rfl ?_
  refine wk_move (.int .i64 (wrongI (modW 1) (xsS ss))) rfl rfl rfl rfl ?_
  dsimp only [putL, setL, List.set_cons_zero, List.set_cons_succ, List.nil_append, List.cons_append]
  refine wk_assign (.slice none 0 0) rfl rfl rfl rfl ?_
  dsimp only [putL, setL, List.set_cons_zero, List.set_cons_succ, List.nil_append, List.cons_append]
  refine wk_assign (.int .i64 (wrongI (modW 1) (xsS ss))) rfl rfl rfl rfl ?_
  dsimp only [putL, setL, List.set_cons_zero, List.set_cons_succ, List.nil_append, List.cons_append]
  refine wk_nil ?_
  refine sp_ret rfl ?_
  exact ret_tmps (v := .tuple #[.slice none 0 0, .int .i64 (wrongI (modW 1) (xsS ss))]) (fun w' => by kernel_rfl) fun w' hw => ⟨rfl, hw.below⟩

end Go.Proofs.Ytmecomgifmkkfaa
