/- The polynomial through shares, the page's: what the call answers. -/
import Derived.Test.YtmecomgifmkkfaaPolyU
namespace Go.Proofs.Ytmecomgifmkkfaa
set_option linter.unusedVariables false
set_option linter.unusedSimpArgs false
open Go.RowKit

set_option maxRecDepth 20000 in
set_option maxHeartbeats 1000000 in
theorem rthrough_ok (ss : List (Nat × Nat)) (nn : Nat) (a : Option Addr) (c : Nat) (hl : ss.length = nn) (hss : ShBound ss) (hn : nn ≤ 1099511627776) (hw0 : wrongI (modW 1) (xsS ss) = 0) (w : World) (hH : Holds w a (shL ss)) : Calls Try.prog 69 #[.slice a nn c] w (NewS 24 4 (fun v => .tuple #[v, .int .i64 0]) nn (rowL (thruL (modW 1) ss)) w) := by
  refine fn_calls (l0 := [(.slice a nn c), undef, undef, undef, undef, undef, undef, undef, undef, undef, undef, undef, undef, undef, undef, undef, undef, undef, undef, undef, undef, undef, undef, undef, undef, undef, undef, undef, undef, undef, undef, undef, undef, undef, undef, undef, undef, undef, undef, undef, undef, undef, undef, undef, undef, undef, undef, undef, undef, undef, undef, undef, undef, undef, undef, undef, undef, undef, undef, undef, undef, undef, undef, undef, undef, undef, undef, undef, undef, undef, undef, undef, undef, undef, undef, undef, undef, undef, undef, undef, undef, undef, undef, undef, undef, undef, undef, undef, undef, undef, undef, undef, undef, undef, undef, undef, undef, undef, undef, undef, undef, undef, undef, undef, undef, undef, undef, undef, undef, undef, undef, undef, undef, undef, undef, undef, undef, undef, undef, undef, undef, undef, undef, undef, undef, undef, undef, undef, undef, undef]) Try.func69 rfl rfl [] (St.start w) ?_
  refine sp_seq rfl ?_
  refine sp_region (π := [0, 1]) [] rfl rfl ?_
  refine wk_assign (.slice none 0 0) rfl rfl rfl rfl ?_
  dsimp only [putL, setL, List.set_cons_zero, List.set_cons_succ, List.nil_append, List.cons_append]
  refine wk_assign (.int .i64 0) rfl rfl rfl rfl ?_
  dsimp only [putL, setL, List.set_cons_zero, List.set_cons_succ, List.nil_append, List.cons_append]
  refine wk_nil ?_
  refine sp_seq rfl ?_
  refine sp_seq rfl ?_
  refine sp_region (π := [0, 1, 2, 3, 4, 5, 6, 7]) [] rfl rfl ?_
  refine wk_move (.slice a nn c) rfl rfl rfl rfl ?_
  dsimp only [putL, setL, List.set_cons_zero, List.set_cons_succ, List.nil_append, List.cons_append]
  refine wk_callS (e := 24) (size := 4) (n := nn) (cs := (rowL (xsS ss))) [(.slice a nn c)] (fun v => v) rfl rfl rfl (enters_of Try.func89 (by kernel_rfl) (by kernel_rfl)) rfl (xsS_row hl) (by simp only [maxLen]; omega) (fun M' w' hm hst => rxsOf_calls ss nn _ _ hl hss (by omega) w' (hH.old hst)) fun v1 S1 hO1 => ?_
  dsimp only [putL, setL, List.set_cons_zero, List.set_cons_succ, List.nil_append, List.cons_append]
  obtain ⟨a2, cp2, hv2, hcp2, hsh2⟩ := hO1.reads
  subst hv2
  refine wk_callS (e := 24) (size := 4) (n := nn) (cs := (rowL (weightsTo (modW 1) (xsS ss) (xsS ss).length))) [(.slice a2 nn cp2)] (fun v => .tuple #[v, .int .i64 0]) rfl rfl rfl (enters_of Try.func66 (by kernel_rfl) (by kernel_rfl)) rfl (weightsTo_row ((xsS_len ss).trans hl)) (by simp only [maxLen]; omega) (fun M' w' hm hst => rweights_ok' (xsS ss) nn _ _ ((xsS_len ss).trans hl) (xsS_bound hss) (by omega) hcp2 hw0 w' (hsh2.holds hst (fun p hp => hm p (by simp [hp])))) fun v3 S3 hO3 => ?_
  dsimp only [putL, setL, List.set_cons_zero, List.set_cons_succ, List.nil_append, List.cons_append]
  try simp only [List.append_assoc]
  obtain ⟨a4, cp4, hv4, hcp4, hsh4⟩ := hO3.reads
  subst hv4
  refine wk_move (.tuple #[(.slice a4 nn cp4), (.int .i64 0)]) rfl rfl rfl rfl ?_
  dsimp only [putL, setL, List.set_cons_zero, List.set_cons_succ, List.nil_append, List.cons_append]
  refine wk_ext (.slice a4 nn cp4) rfl rfl rfl rfl rfl ?_
  dsimp only [putL, setL, List.set_cons_zero, List.set_cons_succ, List.nil_append, List.cons_append]
  refine wk_ext (.int .i64 0) rfl rfl rfl rfl rfl ?_
  dsimp only [putL, setL, List.set_cons_zero, List.set_cons_succ, List.nil_append, List.cons_append]
  refine wk_assign (.slice a4 nn cp4) rfl rfl rfl rfl ?_
  dsimp only [putL, setL, List.set_cons_zero, List.set_cons_succ, List.nil_append, List.cons_append]
  refine wk_assign (.int .i64 0) rfl rfl rfl rfl ?_
  dsimp only [putL, setL, List.set_cons_zero, List.set_cons_succ, List.nil_append, List.cons_append]
  refine wk_nil ?_
  refine sp_seq rfl ?_
  refine sp_region (π := [0, 1]) [] rfl rfl ?_
  refine wk_move (.int .i64 0) rfl rfl rfl rfl ?_
  dsimp only [putL, setL, List.set_cons_zero, List.set_cons_succ, List.nil_append, List.cons_append]
  refine wk_iop (.bool false) rfl rfl rfl rfl rfl rfl (iop_neq_f (by decide)) ?_
  dsimp only [putL, setL, List.set_cons_zero, List.set_cons_succ, List.nil_append, List.cons_append]
  refine wk_nil ?_
  refine sp_false rfl rfl ?_
  refine sp_skip rfl ?_
  refine sp_seq rfl ?_
  refine sp_region (π := [0, 1, 2, 3]) [] rfl rfl ?_
  refine wk_move (.slice a nn c) rfl rfl rfl rfl ?_
  dsimp only [putL, setL, List.set_cons_zero, List.set_cons_succ, List.nil_append, List.cons_append]
  refine wk_lenA rfl rfl rfl rfl Try.underlying63 ?_
  dsimp only [putL, setL, List.set_cons_zero, List.set_cons_succ, List.nil_append, List.cons_append]
  refine wkf_makeN (n := nn) rfl rfl rfl rfl Try.underlying57 rfl rfl (by omega) fun β5 => ?_
  dsimp only [putL, setL, List.set_cons_zero, List.set_cons_succ, List.nil_append, List.cons_append]
  refine wk_assign (.slice (some ⟨β5, 0, none⟩) nn nn) rfl rfl rfl rfl ?_
  dsimp only [putL, setL, List.set_cons_zero, List.set_cons_succ, List.nil_append, List.cons_append]
  refine wk_nil ?_
  refine sp_seq rfl ?_
  refine sp_seq rfl ?_
  refine sp_region (π := [0]) [] rfl rfl ?_
  refine wk_assign (.int .i64 0) rfl rfl rfl rfl ?_
  dsimp only [putL, setL, List.set_cons_zero, List.set_cons_succ, List.nil_append, List.cons_append]
  refine wk_nil ?_
  refine sp_block rfl ?_
  refine sp_loopg rfl (fun n l M => ∃ i : Nat, ∃ os : List Nat, ∃ d8 : Value, ∃ d9 : Value, ∃ d10 : Value, ∃ d11 : Value, ∃ d12 : Value, ∃ d13 : Value, ∃ d14 : Value, ∃ d27 : Value, ∃ d28 : Value, ∃ d29 : Value, ∃ d30 : Value, ∃ d31 : Value, ∃ d32 : Value, ∃ d33 : Value, ∃ d34 : Value, ∃ d35 : Value, ∃ d36 : Value, ∃ d37 : Value, ∃ d38 : Value, ∃ d39 : Value, ∃ d40 : Value, ∃ d41 : Value, ∃ d42 : Value, ∃ d43 : Value, ∃ d44 : Value, ∃ d45 : Value, ∃ d46 : Value, ∃ d47 : Value, ∃ d48 : Value, ∃ d49 : Value, ∃ d50 : Value, ∃ d51 : Value, ∃ d52 : Value, ∃ d53 : Value, ∃ d54 : Value, ∃ d55 : Value, ∃ d56 : Value, ∃ d57 : Value, ∃ d58 : Value, ∃ d59 : Value, ∃ d60 : Value, ∃ d61 : Value, ∃ d62 : Value, ∃ d63 : Value, ∃ d64 : Value, ∃ d65 : Value, ∃ d66 : Value, ∃ d67 : Value, ∃ d68 : Value, ∃ d69 : Value, ∃ d70 : Value, ∃ d71 : Value, ∃ d72 : Value, ∃ d73 : Value, ∃ d74 : Value, ∃ d75 : Value, ∃ d76 : Value, ∃ d77 : Value, ∃ d78 : Value, ∃ d79 : Value, ∃ d80 : Value, ∃ d81 : Value, ∃ d82 : Value, ∃ d83 : Value, ∃ d84 : Value, ∃ d85 : Value, ∃ d86 : Value, ∃ d87 : Value, ∃ d88 : Value, ∃ d89 : Value, ∃ d90 : Value, ∃ d91 : Value, ∃ d92 : Value, ∃ d93 : Value, ∃ d94 : Value, ∃ d95 : Value, ∃ d96 : Value, ∃ d97 : Value, ∃ d98 : Value, ∃ d99 : Value, ∃ d100 : Value, ∃ d101 : Value, ∃ d102 : Value, ∃ d103 : Value, ∃ d104 : Value, ∃ d105 : Value, ∃ d106 : Value, ∃ d107 : Value, ∃ d108 : Value, ∃ d109 : Value, ∃ d110 : Value, ∃ d111 : Value, ∃ d112 : Value, ∃ d113 : Value, ∃ d114 : Value, ∃ d115 : Value, ∃ d116 : Value, ∃ d117 : Value, ∃ d118 : Value, ∃ d119 : Value, ∃ d120 : Value, ∃ d121 : Value, ∃ d122 : Value, ∃ d123 : Value, ∃ d124 : Value, ∃ d125 : Value, ∃ d126 : Value, ∃ d127 : Value, ∃ d128 : Value, l = [(.slice a nn c), undef, (.slice none 0 0), (.int .i64 0), (.slice a4 nn cp4), (.int .i64 0), (.slice (some ⟨β5, 0, none⟩) nn nn), (.int .i64 (i : Int)), d8, d9, d10, d11, d12, d13, d14, (.tuple #[(.slice a4 nn cp4), (.int .i64 0)]), (.slice a nn c), (.slice a2 nn cp2), (.tuple #[(.slice a4 nn cp4), (.int .i64 0)]), (.slice a4 nn cp4), (.int .i64 0), (.int .i64 0), (.bool false), undef, (.slice a nn c), (.int .i64 ((nn : Nat) : Int)), (.slice (some ⟨β5, 0, none⟩) nn nn), d27, d28, d29, d30, d31, d32, d33, d34, d35, d36, d37, d38, d39, d40, d41, d42, d43, d44, d45, d46, d47, d48, d49, d50, d51, d52, d53, d54, d55, d56, d57, d58, d59, d60, d61, d62, d63, d64, d65, d66, d67, d68, d69, d70, d71, d72, d73, d74, d75, d76, d77, d78, d79, d80, d81, d82, d83, d84, d85, d86, d87, d88, d89, d90, d91, d92, d93, d94, d95, d96, d97, d98, d99, d100, d101, d102, d103, d104, d105, d106, d107, d108, d109, d110, d111, d112, d113, d114, d115, d116, d117, d118, d119, d120, d121, d122, d123, d124, d125, d126, d127, d128, undef] ∧ (β5, rowO os) :: (S1 ++ S3) = M ∧ (i ≤ nn) ∧ (PSum (modW 1) ss i os) ∧ n = nn - i) (nn - 0) ?_ ?_
  · exact ⟨0, (List.replicate nn 0), undef, undef, undef, undef, undef, undef, undef, undef, undef, undef, undef, undef, undef, undef, undef, undef, undef, undef, undef, undef, undef, undef, undef, undef, undef, undef, undef, undef, undef, undef, undef, undef, undef, undef, undef, undef, undef, undef, undef, undef, undef, undef, undef, undef, undef, undef, undef, undef, undef, undef, undef, undef, undef, undef, undef, undef, undef, undef, undef, undef, undef, undef, undef, undef, undef, undef, undef, undef, undef, undef, undef, undef, undef, undef, undef, undef, undef, undef, undef, undef, undef, undef, undef, undef, undef, undef, undef, undef, undef, undef, undef, undef, undef, undef, undef, undef, undef, undef, undef, undef, undef, undef, undef, undef, undef, undef, undef, undef, undef, rfl, rfl, (Nat.zero_le _), (by subst hl; exact PSum.start (modW_pos ok1) ss), rfl⟩
  · skip
    intro n l M
    refine exists_imp.2 fun i => ?_
    refine exists_imp.2 fun os => ?_
    refine exists_imp.2 fun d8 => ?_
    refine exists_imp.2 fun d9 => ?_
    refine exists_imp.2 fun d10 => ?_
    refine exists_imp.2 fun d11 => ?_
    refine exists_imp.2 fun d12 => ?_
    refine exists_imp.2 fun d13 => ?_
    refine exists_imp.2 fun d14 => ?_
    refine exists_imp.2 fun d27 => ?_
    refine exists_imp.2 fun d28 => ?_
    refine exists_imp.2 fun d29 => ?_
    refine exists_imp.2 fun d30 => ?_
    refine exists_imp.2 fun d31 => ?_
    refine exists_imp.2 fun d32 => ?_
    refine exists_imp.2 fun d33 => ?_
    refine exists_imp.2 fun d34 => ?_
    refine exists_imp.2 fun d35 => ?_
    refine exists_imp.2 fun d36 => ?_
    refine exists_imp.2 fun d37 => ?_
    refine exists_imp.2 fun d38 => ?_
    refine exists_imp.2 fun d39 => ?_
    refine exists_imp.2 fun d40 => ?_
    refine exists_imp.2 fun d41 => ?_
    refine exists_imp.2 fun d42 => ?_
    refine exists_imp.2 fun d43 => ?_
    refine exists_imp.2 fun d44 => ?_
    refine exists_imp.2 fun d45 => ?_
    refine exists_imp.2 fun d46 => ?_
    refine exists_imp.2 fun d47 => ?_
    refine exists_imp.2 fun d48 => ?_
    refine exists_imp.2 fun d49 => ?_
    refine exists_imp.2 fun d50 => ?_
    refine exists_imp.2 fun d51 => ?_
    refine exists_imp.2 fun d52 => ?_
    refine exists_imp.2 fun d53 => ?_
    refine exists_imp.2 fun d54 => ?_
    refine exists_imp.2 fun d55 => ?_
    refine exists_imp.2 fun d56 => ?_
    refine exists_imp.2 fun d57 => ?_
    refine exists_imp.2 fun d58 => ?_
    refine exists_imp.2 fun d59 => ?_
    refine exists_imp.2 fun d60 => ?_
    refine exists_imp.2 fun d61 => ?_
    refine exists_imp.2 fun d62 => ?_
    refine exists_imp.2 fun d63 => ?_
    refine exists_imp.2 fun d64 => ?_
    refine exists_imp.2 fun d65 => ?_
    refine exists_imp.2 fun d66 => ?_
    refine exists_imp.2 fun d67 => ?_
    refine exists_imp.2 fun d68 => ?_
    refine exists_imp.2 fun d69 => ?_
    refine exists_imp.2 fun d70 => ?_
    refine exists_imp.2 fun d71 => ?_
    refine exists_imp.2 fun d72 => ?_
    refine exists_imp.2 fun d73 => ?_
    refine exists_imp.2 fun d74 => ?_
    refine exists_imp.2 fun d75 => ?_
    refine exists_imp.2 fun d76 => ?_
    refine exists_imp.2 fun d77 => ?_
    refine exists_imp.2 fun d78 => ?_
    refine exists_imp.2 fun d79 => ?_
    refine exists_imp.2 fun d80 => ?_
    refine exists_imp.2 fun d81 => ?_
    refine exists_imp.2 fun d82 => ?_
    refine exists_imp.2 fun d83 => ?_
    refine exists_imp.2 fun d84 => ?_
    refine exists_imp.2 fun d85 => ?_
    refine exists_imp.2 fun d86 => ?_
    refine exists_imp.2 fun d87 => ?_
    refine exists_imp.2 fun d88 => ?_
    refine exists_imp.2 fun d89 => ?_
    refine exists_imp.2 fun d90 => ?_
    refine exists_imp.2 fun d91 => ?_
    refine exists_imp.2 fun d92 => ?_
    refine exists_imp.2 fun d93 => ?_
    refine exists_imp.2 fun d94 => ?_
    refine exists_imp.2 fun d95 => ?_
    refine exists_imp.2 fun d96 => ?_
    refine exists_imp.2 fun d97 => ?_
    refine exists_imp.2 fun d98 => ?_
    refine exists_imp.2 fun d99 => ?_
    refine exists_imp.2 fun d100 => ?_
    refine exists_imp.2 fun d101 => ?_
    refine exists_imp.2 fun d102 => ?_
    refine exists_imp.2 fun d103 => ?_
    refine exists_imp.2 fun d104 => ?_
    refine exists_imp.2 fun d105 => ?_
    refine exists_imp.2 fun d106 => ?_
    refine exists_imp.2 fun d107 => ?_
    refine exists_imp.2 fun d108 => ?_
    refine exists_imp.2 fun d109 => ?_
    refine exists_imp.2 fun d110 => ?_
    refine exists_imp.2 fun d111 => ?_
    refine exists_imp.2 fun d112 => ?_
    refine exists_imp.2 fun d113 => ?_
    refine exists_imp.2 fun d114 => ?_
    refine exists_imp.2 fun d115 => ?_
    refine exists_imp.2 fun d116 => ?_
    refine exists_imp.2 fun d117 => ?_
    refine exists_imp.2 fun d118 => ?_
    refine exists_imp.2 fun d119 => ?_
    refine exists_imp.2 fun d120 => ?_
    refine exists_imp.2 fun d121 => ?_
    refine exists_imp.2 fun d122 => ?_
    refine exists_imp.2 fun d123 => ?_
    refine exists_imp.2 fun d124 => ?_
    refine exists_imp.2 fun d125 => ?_
    refine exists_imp.2 fun d126 => ?_
    refine exists_imp.2 fun d127 => ?_
    refine exists_imp.2 fun d128 => ?_
    rintro ⟨rfl, rfl, hf0, hf1, rfl⟩
    have hlo : os.length = nn := hf1.len.trans hl
    refine sp_seq rfl ?_
    refine sp_seq rfl ?_
    refine sp_region (π := [0, 1, 2, 3]) [] rfl rfl ?_
    refine wk_move (.int .i64 (i : Int)) rfl rfl rfl rfl ?_
    dsimp only [putL, setL, List.set_cons_zero, List.set_cons_succ, List.nil_append, List.cons_append]
    refine wk_move (.slice a nn c) rfl rfl rfl rfl ?_
    dsimp only [putL, setL, List.set_cons_zero, List.set_cons_succ, List.nil_append, List.cons_append]
    refine wk_lenA rfl rfl rfl rfl Try.underlying63 ?_
    dsimp only [putL, setL, List.set_cons_zero, List.set_cons_succ, List.nil_append, List.cons_append]
    by_cases hc6 : (i : Int) < ((nn : Nat) : Int)
    · skip
      refine wk_iop (.bool true) rfl rfl rfl rfl rfl rfl (iop_lss_t hc6) ?_
      dsimp only [putL, setL, List.set_cons_zero, List.set_cons_succ, List.nil_append, List.cons_append]
      refine wk_nil ?_
      refine sp_true rfl rfl ?_
      refine sp_skip rfl ?_
      refine sp_seq rfl ?_
      refine sp_block rfl ?_
      refine sp_seq rfl ?_
      refine sp_region (π := [0, 1, 2]) [] rfl rfl ?_
      refine wk_val (numV 1) rfl rfl rfl (fun w => by kernel_rfl) ?_
      dsimp only [putL, setL, List.set_cons_zero, List.set_cons_succ, List.nil_append, List.cons_append]
      refine wkf_make (z := rowO [1]) (mk := fun β => .slice (some ⟨β, 0, none⟩) 1 1) rfl rfl (fun w => by kernel_rfl) fun β7 => ?_
      dsimp only [putL, setL, List.set_cons_zero, List.set_cons_succ, List.nil_append, List.cons_append]
      refine wk_assign (.slice (some ⟨β7, 0, none⟩) 1 1) rfl rfl rfl rfl ?_
      dsimp only [putL, setL, List.set_cons_zero, List.set_cons_succ, List.nil_append, List.cons_append]
      refine wk_nil ?_
      refine sp_seq rfl ?_
      refine sp_region (π := [0, 1, 2]) [] rfl rfl ?_
      refine wk_val (numV 1) rfl rfl rfl (fun w => by kernel_rfl) ?_
      dsimp only [putL, setL, List.set_cons_zero, List.set_cons_succ, List.nil_append, List.cons_append]
      refine wkf_newN rfl rfl fun β8 => ?_
      dsimp only [putL, setL, List.set_cons_zero, List.set_cons_succ, List.nil_append, List.cons_append]
      refine wk_stN 0 1 rfl rfl rfl rfl rfl rfl ?_
      dsimp only [putL, setL, List.set_cons_zero, List.set_cons_succ, List.nil_append, List.cons_append]
      refine wk_nil ?_
      refine sp_seq rfl ?_
      refine sp_seq rfl ?_
      refine sp_region (π := [0]) [] rfl rfl ?_
      refine wk_assign (.int .i64 0) rfl rfl rfl rfl ?_
      dsimp only [putL, setL, List.set_cons_zero, List.set_cons_succ, List.nil_append, List.cons_append]
      refine wk_nil ?_
      refine sp_block rfl ?_
      refine sp_perm (List.Perm.swap _ _ _) ?_
      refine sp_loopg rfl (fun n l M => ∃ j : Nat, ∃ cs : List Nat, ∃ d : Nat, ∃ bc : Nat, ∃ cn : Nat, ∃ d11 : Value, ∃ d12 : Value, ∃ d36 : Value, ∃ d37 : Value, ∃ d38 : Value, ∃ d39 : Value, ∃ d40 : Value, ∃ d41 : Value, ∃ d42 : Value, ∃ d43 : Value, ∃ d44 : Value, ∃ d45 : Value, ∃ d46 : Value, ∃ d47 : Value, ∃ d48 : Value, ∃ d49 : Value, ∃ d50 : Value, ∃ d51 : Value, ∃ d52 : Value, ∃ d53 : Value, ∃ d54 : Value, ∃ d55 : Value, ∃ d56 : Value, ∃ d57 : Value, ∃ d58 : Value, ∃ d59 : Value, ∃ d60 : Value, ∃ d61 : Value, ∃ d62 : Value, ∃ d63 : Value, ∃ d64 : Value, ∃ d65 : Value, ∃ d66 : Value, ∃ d67 : Value, ∃ d68 : Value, ∃ d69 : Value, ∃ d70 : Value, ∃ d71 : Value, ∃ d72 : Value, ∃ d73 : Value, ∃ d74 : Value, ∃ d75 : Value, ∃ d76 : Value, ∃ d77 : Value, ∃ d78 : Value, ∃ d79 : Value, ∃ d80 : Value, ∃ d81 : Value, ∃ d82 : Value, ∃ d83 : Value, ∃ d84 : Value, ∃ d85 : Value, ∃ d86 : Value, ∃ d87 : Value, ∃ d88 : Value, ∃ d89 : Value, ∃ d90 : Value, ∃ d91 : Value, ∃ d92 : Value, ∃ d93 : Value, ∃ d94 : Value, ∃ d95 : Value, ∃ d96 : Value, ∃ d97 : Value, ∃ d98 : Value, ∃ d99 : Value, ∃ d100 : Value, l = [(.slice a nn c), undef, (.slice none 0 0), (.int .i64 0), (.slice a4 nn cp4), (.int .i64 0), (.slice (some ⟨β5, 0, none⟩) nn nn), (.int .i64 (i : Int)), (.slice (some ⟨bc, 0, none⟩) cn cn), (.pointer (some ⟨β8, 0, none⟩)), (.int .i64 (j : Int)), d11, d12, d13, d14, (.tuple #[(.slice a4 nn cp4), (.int .i64 0)]), (.slice a nn c), (.slice a2 nn cp2), (.tuple #[(.slice a4 nn cp4), (.int .i64 0)]), (.slice a4 nn cp4), (.int .i64 0), (.int .i64 0), (.bool false), undef, (.slice a nn c), (.int .i64 ((nn : Nat) : Int)), (.slice (some ⟨β5, 0, none⟩) nn nn), (.int .i64 (i : Int)), (.slice a nn c), (.int .i64 ((nn : Nat) : Int)), (.bool true), d31, d32, (numV 1), (.slice (some ⟨β7, 0, none⟩) 1 1), (numV 1), d36, d37, d38, d39, d40, d41, d42, d43, d44, d45, d46, d47, d48, d49, d50, d51, d52, d53, d54, d55, d56, d57, d58, d59, d60, d61, d62, d63, d64, d65, d66, d67, d68, d69, d70, d71, d72, d73, d74, d75, d76, d77, d78, d79, d80, d81, d82, d83, d84, d85, d86, d87, d88, d89, d90, d91, d92, d93, d94, d95, d96, d97, d98, d99, d100, d101, d102, d103, d104, d105, d106, d107, d108, d109, d110, d111, d112, d113, d114, d115, d116, d117, d118, d119, d120, d121, d122, d123, d124, d125, d126, d127, d128, undef] ∧ (bc, rowO cs) :: (β8, numO d) :: (β5, rowO os) :: (S1 ++ S3) = M ∧ (j ≤ nn) ∧ (Lag (modW 1) ss i j cs d) ∧ (cs.length = cn) ∧ n = nn - j) (nn - 0) ?_ ?_
      · exact ⟨0, [1], 1, β7, 1, d11, d12, d36, d37, d38, d39, d40, d41, d42, d43, d44, d45, d46, d47, d48, d49, d50, d51, d52, d53, d54, d55, d56, d57, d58, d59, d60, d61, d62, d63, d64, d65, d66, d67, d68, d69, d70, d71, d72, d73, d74, d75, d76, d77, d78, d79, d80, d81, d82, d83, d84, d85, d86, d87, d88, d89, d90, d91, d92, d93, d94, d95, d96, d97, d98, d99, d100, rfl, rfl, (Nat.zero_le _), (Lag.start (Nat.lt_trans (by decide) (modW_two ok1)) ss i), rfl, rfl⟩
      · skip
        intro n l M
        refine exists_imp.2 fun j => ?_
        refine exists_imp.2 fun cs => ?_
        refine exists_imp.2 fun d => ?_
        refine exists_imp.2 fun bc => ?_
        refine exists_imp.2 fun cn => ?_
        refine exists_imp.2 fun d11 => ?_
        refine exists_imp.2 fun d12 => ?_
        refine exists_imp.2 fun d36 => ?_
        refine exists_imp.2 fun d37 => ?_
        refine exists_imp.2 fun d38 => ?_
        refine exists_imp.2 fun d39 => ?_
        refine exists_imp.2 fun d40 => ?_
        refine exists_imp.2 fun d41 => ?_
        refine exists_imp.2 fun d42 => ?_
        refine exists_imp.2 fun d43 => ?_
        refine exists_imp.2 fun d44 => ?_
        refine exists_imp.2 fun d45 => ?_
        refine exists_imp.2 fun d46 => ?_
        refine exists_imp.2 fun d47 => ?_
        refine exists_imp.2 fun d48 => ?_
        refine exists_imp.2 fun d49 => ?_
        refine exists_imp.2 fun d50 => ?_
        refine exists_imp.2 fun d51 => ?_
        refine exists_imp.2 fun d52 => ?_
        refine exists_imp.2 fun d53 => ?_
        refine exists_imp.2 fun d54 => ?_
        refine exists_imp.2 fun d55 => ?_
        refine exists_imp.2 fun d56 => ?_
        refine exists_imp.2 fun d57 => ?_
        refine exists_imp.2 fun d58 => ?_
        refine exists_imp.2 fun d59 => ?_
        refine exists_imp.2 fun d60 => ?_
        refine exists_imp.2 fun d61 => ?_
        refine exists_imp.2 fun d62 => ?_
        refine exists_imp.2 fun d63 => ?_
        refine exists_imp.2 fun d64 => ?_
        refine exists_imp.2 fun d65 => ?_
        refine exists_imp.2 fun d66 => ?_
        refine exists_imp.2 fun d67 => ?_
        refine exists_imp.2 fun d68 => ?_
        refine exists_imp.2 fun d69 => ?_
        refine exists_imp.2 fun d70 => ?_
        refine exists_imp.2 fun d71 => ?_
        refine exists_imp.2 fun d72 => ?_
        refine exists_imp.2 fun d73 => ?_
        refine exists_imp.2 fun d74 => ?_
        refine exists_imp.2 fun d75 => ?_
        refine exists_imp.2 fun d76 => ?_
        refine exists_imp.2 fun d77 => ?_
        refine exists_imp.2 fun d78 => ?_
        refine exists_imp.2 fun d79 => ?_
        refine exists_imp.2 fun d80 => ?_
        refine exists_imp.2 fun d81 => ?_
        refine exists_imp.2 fun d82 => ?_
        refine exists_imp.2 fun d83 => ?_
        refine exists_imp.2 fun d84 => ?_
        refine exists_imp.2 fun d85 => ?_
        refine exists_imp.2 fun d86 => ?_
        refine exists_imp.2 fun d87 => ?_
        refine exists_imp.2 fun d88 => ?_
        refine exists_imp.2 fun d89 => ?_
        refine exists_imp.2 fun d90 => ?_
        refine exists_imp.2 fun d91 => ?_
        refine exists_imp.2 fun d92 => ?_
        refine exists_imp.2 fun d93 => ?_
        refine exists_imp.2 fun d94 => ?_
        refine exists_imp.2 fun d95 => ?_
        refine exists_imp.2 fun d96 => ?_
        refine exists_imp.2 fun d97 => ?_
        refine exists_imp.2 fun d98 => ?_
        refine exists_imp.2 fun d99 => ?_
        refine exists_imp.2 fun d100 => ?_
        rintro ⟨rfl, rfl, hg0, hg1, hg2, rfl⟩
        have hd : d < W256 := Nat.lt_trans hg1.dlt (modW_lt 1)
        have hcn : cn ≤ nn + 1 := by have h := hg1.len; (repeat' split at h) <;> omega
        refine sp_seq rfl ?_
        refine sp_seq rfl ?_
        refine sp_region (π := [0, 1, 2, 3]) [] rfl rfl ?_
        refine wk_move (.int .i64 (j : Int)) rfl rfl rfl rfl ?_
        dsimp only [putL, setL, List.set_cons_zero, List.set_cons_succ, List.nil_append, List.cons_append]
        refine wk_move (.slice a nn c) rfl rfl rfl rfl ?_
        dsimp only [putL, setL, List.set_cons_zero, List.set_cons_succ, List.nil_append, List.cons_append]
        refine wk_lenA rfl rfl rfl rfl Try.underlying63 ?_
        dsimp only [putL, setL, List.set_cons_zero, List.set_cons_succ, List.nil_append, List.cons_append]
        by_cases hc9 : (j : Int) < ((nn : Nat) : Int)
        · skip
          refine wk_iop (.bool true) rfl rfl rfl rfl rfl rfl (iop_lss_t hc9) ?_
          dsimp only [putL, setL, List.set_cons_zero, List.set_cons_succ, List.nil_append, List.cons_append]
          refine wk_nil ?_
          refine sp_true rfl rfl ?_
          refine sp_skip rfl ?_
          refine sp_seq rfl ?_
          refine sp_block rfl ?_
          refine sp_seq rfl ?_
          refine sp_seq rfl ?_
          refine sp_region (π := [0, 1, 2]) [] rfl rfl ?_
          refine wk_move (.int .i64 (j : Int)) rfl rfl rfl rfl ?_
          dsimp only [putL, setL, List.set_cons_zero, List.set_cons_succ, List.nil_append, List.cons_append]
          refine wk_move (.int .i64 (i : Int)) rfl rfl rfl rfl ?_
          dsimp only [putL, setL, List.set_cons_zero, List.set_cons_succ, List.nil_append, List.cons_append]
          by_cases hc10 : (j : Int) = (i : Int)
          · skip
            refine wk_iop (.bool true) rfl rfl rfl rfl rfl rfl (iop_eql_t hc10) ?_
            dsimp only [putL, setL, List.set_cons_zero, List.set_cons_succ, List.nil_append, List.cons_append]
            refine wk_nil ?_
            refine sp_true rfl rfl ?_
            refine sp_exit rfl ?_
            refine sp_region (π := [0, 1, 2]) [] rfl rfl ?_
            refine wk_move (.int .i64 (j : Int)) rfl rfl rfl rfl ?_
            dsimp only [putL, setL, List.set_cons_zero, List.set_cons_succ, List.nil_append, List.cons_append]
            refine wk_iop (.int .i64 ((j : Int) + 1)) rfl rfl rfl rfl rfl rfl (iop_add (by omega) (by omega)) ?_
            dsimp only [putL, setL, List.set_cons_zero, List.set_cons_succ, List.nil_append, List.cons_append]
            refine wk_assign (.int .i64 ((j : Int) + 1)) rfl rfl rfl rfl ?_
            dsimp only [putL, setL, List.set_cons_zero, List.set_cons_succ, List.nil_append, List.cons_append]
            refine wk_nil ?_
            exact ⟨(bc, rowO cs) :: (β8, numO d) :: (β5, rowO os) :: (S1 ++ S3), _, List.Sublist.refl _, ⟨(j + 1), cs, d, bc, cn, d11, d12, (.int .i64 (j : Int)), (.slice a nn c), (.int .i64 ((nn : Nat) : Int)), (.bool true), (.int .i64 (j : Int)), (.int .i64 ((j : Int) + 1)), (.int .i64 (j : Int)), (.int .i64 (i : Int)), (.bool true), d45, d46, d47, d48, d49, d50, d51, d52, d53, d54, d55, d56, d57, d58, d59, d60, d61, d62, d63, d64, d65, d66, d67, d68, d69, d70, d71, d72, d73, d74, d75, d76, d77, d78, d79, d80, d81, d82, d83, d84, d85, d86, d87, d88, d89, d90, d91, d92, d93, d94, d95, d96, d97, d98, d99, d100, rfl, rfl, (by omega), (hg1.same (by omega)), hg2, rfl⟩, (by omega)⟩
          · skip
            refine wk_iop (.bool false) rfl rfl rfl rfl rfl rfl (iop_eql_f hc10) ?_
            dsimp only [putL, setL, List.set_cons_zero, List.set_cons_succ, List.nil_append, List.cons_append]
            refine wk_nil ?_
            refine sp_false rfl rfl ?_
            refine sp_skip rfl ?_
            refine sp_seq rfl ?_
            refine sp_region (π := [0, 1, 2, 3, 4]) [] rfl rfl ?_
            refine wk_move (.slice (some ⟨bc, 0, none⟩) cn cn) rfl rfl rfl rfl ?_
            dsimp only [putL, setL, List.set_cons_zero, List.set_cons_succ, List.nil_append, List.cons_append]
            refine wk_len rfl rfl rfl rfl Try.underlying57 ?_
            dsimp only [putL, setL, List.set_cons_zero, List.set_cons_succ, List.nil_append, List.cons_append]
            refine wk_iop (.int .i64 (((cn : Nat) : Int) + 1)) rfl rfl rfl rfl rfl rfl (iop_add (by omega) (by omega)) ?_
            dsimp only [putL, setL, List.set_cons_zero, List.set_cons_succ, List.nil_append, List.cons_append]
            refine wkf_makeN (n := (cn + 1)) rfl rfl rfl rfl Try.underlying57 (by omega) (by omega) (by omega) fun β11 => ?_
            dsimp only [putL, setL, List.set_cons_zero, List.set_cons_succ, List.nil_append, List.cons_append]
            refine wk_assign (.slice (some ⟨β11, 0, none⟩) (cn + 1) (cn + 1)) rfl rfl rfl rfl ?_
            dsimp only [putL, setL, List.set_cons_zero, List.set_cons_succ, List.nil_append, List.cons_append]
            refine wk_nil ?_
            refine sp_seq rfl ?_
            refine sp_seq rfl ?_
            refine sp_region (π := [0]) [] rfl rfl ?_
            refine wk_assign (.int .i64 0) rfl rfl rfl rfl ?_
            dsimp only [putL, setL, List.set_cons_zero, List.set_cons_succ, List.nil_append, List.cons_append]
            refine wk_nil ?_
            refine sp_block rfl ?_
            refine sp_loopg rfl (fun n l M => ∃ t : Nat, ∃ ns : List Nat, ∃ d49 : Value, ∃ d50 : Value, ∃ d51 : Value, ∃ d52 : Value, ∃ d53 : Value, ∃ d54 : Value, ∃ d55 : Value, ∃ d56 : Value, ∃ d57 : Value, ∃ d58 : Value, ∃ d59 : Value, ∃ d60 : Value, ∃ d61 : Value, ∃ d62 : Value, ∃ d63 : Value, ∃ d64 : Value, ∃ d65 : Value, ∃ d66 : Value, ∃ d67 : Value, ∃ d68 : Value, ∃ d69 : Value, ∃ d70 : Value, ∃ d71 : Value, ∃ d72 : Value, ∃ d73 : Value, ∃ d74 : Value, ∃ d75 : Value, ∃ d76 : Value, ∃ d77 : Value, ∃ d78 : Value, ∃ d79 : Value, ∃ d80 : Value, ∃ d81 : Value, ∃ d82 : Value, ∃ d83 : Value, ∃ d84 : Value, ∃ d85 : Value, ∃ d86 : Value, l = [(.slice a nn c), undef, (.slice none 0 0), (.int .i64 0), (.slice a4 nn cp4), (.int .i64 0), (.slice (some ⟨β5, 0, none⟩) nn nn), (.int .i64 (i : Int)), (.slice (some ⟨bc, 0, none⟩) cn cn), (.pointer (some ⟨β8, 0, none⟩)), (.int .i64 (j : Int)), (.slice (some ⟨β11, 0, none⟩) (cn + 1) (cn + 1)), (.int .i64 (t : Int)), d13, d14, (.tuple #[(.slice a4 nn cp4), (.int .i64 0)]), (.slice a nn c), (.slice a2 nn cp2), (.tuple #[(.slice a4 nn cp4), (.int .i64 0)]), (.slice a4 nn cp4), (.int .i64 0), (.int .i64 0), (.bool false), undef, (.slice a nn c), (.int .i64 ((nn : Nat) : Int)), (.slice (some ⟨β5, 0, none⟩) nn nn), (.int .i64 (i : Int)), (.slice a nn c), (.int .i64 ((nn : Nat) : Int)), (.bool true), d31, d32, (numV 1), (.slice (some ⟨β7, 0, none⟩) 1 1), (numV 1), (.int .i64 (j : Int)), (.slice a nn c), (.int .i64 ((nn : Nat) : Int)), (.bool true), d40, d41, (.int .i64 (j : Int)), (.int .i64 (i : Int)), (.bool false), (.slice (some ⟨bc, 0, none⟩) cn cn), (.int .i64 ((cn : Nat) : Int)), (.int .i64 (((cn : Nat) : Int) + 1)), (.slice (some ⟨β11, 0, none⟩) (cn + 1) (cn + 1)), d49, d50, d51, d52, d53, d54, d55, d56, d57, d58, d59, d60, d61, d62, d63, d64, d65, d66, d67, d68, d69, d70, d71, d72, d73, d74, d75, d76, d77, d78, d79, d80, d81, d82, d83, d84, d85, d86, d87, d88, d89, d90, d91, d92, d93, d94, d95, d96, d97, d98, d99, d100, d101, d102, d103, d104, d105, d106, d107, d108, d109, d110, d111, d112, d113, d114, d115, d116, d117, d118, d119, d120, d121, d122, d123, d124, d125, d126, d127, d128, undef] ∧ (β11, rowO ns) :: (bc, rowO cs) :: (β8, numO d) :: (β5, rowO os) :: (S1 ++ S3) = M ∧ (t ≤ cn) ∧ (Mid3 (modW 1) cs (sx ss j).1 t ns) ∧ n = cn - t) (cn - 0) ?_ ?_
            · exact ⟨0, (List.replicate (cn + 1) 0), d49, d50, d51, d52, d53, d54, d55, d56, d57, d58, d59, d60, d61, d62, d63, d64, d65, d66, d67, d68, d69, d70, d71, d72, d73, d74, d75, d76, d77, d78, d79, d80, d81, d82, d83, d84, d85, d86, rfl, rfl, (Nat.zero_le _), (Mid3.start (modW_pos ok1) cs _ _ hg2), rfl⟩
            · skip
              intro n l M
              refine exists_imp.2 fun t => ?_
              refine exists_imp.2 fun ns => ?_
              refine exists_imp.2 fun d49 => ?_
              refine exists_imp.2 fun d50 => ?_
              refine exists_imp.2 fun d51 => ?_
              refine exists_imp.2 fun d52 => ?_
              refine exists_imp.2 fun d53 => ?_
              refine exists_imp.2 fun d54 => ?_
              refine exists_imp.2 fun d55 => ?_
              refine exists_imp.2 fun d56 => ?_
              refine exists_imp.2 fun d57 => ?_
              refine exists_imp.2 fun d58 => ?_
              refine exists_imp.2 fun d59 => ?_
              refine exists_imp.2 fun d60 => ?_
              refine exists_imp.2 fun d61 => ?_
              refine exists_imp.2 fun d62 => ?_
              refine exists_imp.2 fun d63 => ?_
              refine exists_imp.2 fun d64 => ?_
              refine exists_imp.2 fun d65 => ?_
              refine exists_imp.2 fun d66 => ?_
              refine exists_imp.2 fun d67 => ?_
              refine exists_imp.2 fun d68 => ?_
              refine exists_imp.2 fun d69 => ?_
              refine exists_imp.2 fun d70 => ?_
              refine exists_imp.2 fun d71 => ?_
              refine exists_imp.2 fun d72 => ?_
              refine exists_imp.2 fun d73 => ?_
              refine exists_imp.2 fun d74 => ?_
              refine exists_imp.2 fun d75 => ?_
              refine exists_imp.2 fun d76 => ?_
              refine exists_imp.2 fun d77 => ?_
              refine exists_imp.2 fun d78 => ?_
              refine exists_imp.2 fun d79 => ?_
              refine exists_imp.2 fun d80 => ?_
              refine exists_imp.2 fun d81 => ?_
              refine exists_imp.2 fun d82 => ?_
              refine exists_imp.2 fun d83 => ?_
              refine exists_imp.2 fun d84 => ?_
              refine exists_imp.2 fun d85 => ?_
              refine exists_imp.2 fun d86 => ?_
              rintro ⟨rfl, rfl, hh0, hh1, rfl⟩
              have hln : ns.length = cn + 1 := hh1.len.trans (by rw [hg2])
              refine sp_seq rfl ?_
              refine sp_seq rfl ?_
              refine sp_region (π := [0, 1, 2, 3]) [] rfl rfl ?_
              refine wk_move (.int .i64 (t : Int)) rfl rfl rfl rfl ?_
              dsimp only [putL, setL, List.set_cons_zero, List.set_cons_succ, List.nil_append, List.cons_append]
              refine wk_move (.slice (some ⟨bc, 0, none⟩) cn cn) rfl rfl rfl rfl ?_
              dsimp only [putL, setL, List.set_cons_zero, List.set_cons_succ, List.nil_append, List.cons_append]
              refine wk_len rfl rfl rfl rfl Try.underlying57 ?_
              dsimp only [putL, setL, List.set_cons_zero, List.set_cons_succ, List.nil_append, List.cons_append]
              by_cases hc12 : (t : Int) < ((cn : Nat) : Int)
              · skip
                refine wk_iop (.bool true) rfl rfl rfl rfl rfl rfl (iop_lss_t hc12) ?_
                dsimp only [putL, setL, List.set_cons_zero, List.set_cons_succ, List.nil_append, List.cons_append]
                refine wk_nil ?_
                refine sp_true rfl rfl ?_
                refine sp_skip rfl ?_
                refine sp_seq rfl ?_
                refine sp_block rfl ?_
                refine sp_seq rfl ?_
                refine sp_draw [0, 1, 2, 3, 4, 5, 6, 7, 8, 9, 10, 11, 12, 13, 14] [] mixed rfl (by kernel_rfl) (by kernel_rfl) ?_
                refine wk_move (.slice (some ⟨β11, 0, none⟩) (cn + 1) (cn + 1)) rfl rfl rfl rfl ?_
                dsimp only [putL, setL, List.set_cons_zero, List.set_cons_succ, List.nil_append, List.cons_append]
                refine wk_move (.int .i64 (t : Int)) rfl rfl rfl rfl ?_
                dsimp only [putL, setL, List.set_cons_zero, List.set_cons_succ, List.nil_append, List.cons_append]
                refine wk_iop (.int .i64 ((t : Int) + 1)) rfl rfl rfl rfl rfl rfl (iop_add (by omega) (by omega)) ?_
                dsimp only [putL, setL, List.set_cons_zero, List.set_cons_succ, List.nil_append, List.cons_append]
                refine wk_move (.slice (some ⟨β11, 0, none⟩) (cn + 1) (cn + 1)) rfl rfl rfl rfl ?_
                dsimp only [putL, setL, List.set_cons_zero, List.set_cons_succ, List.nil_append, List.cons_append]
                refine wk_move (.int .i64 (t : Int)) rfl rfl rfl rfl ?_
                dsimp only [putL, setL, List.set_cons_zero, List.set_cons_succ, List.nil_append, List.cons_append]
                refine wk_iop (.int .i64 ((t : Int) + 1)) rfl rfl rfl rfl rfl rfl (iop_add (by omega) (by omega)) ?_
                dsimp only [putL, setL, List.set_cons_zero, List.set_cons_succ, List.nil_append, List.cons_append]
                refine wk_idxS (t + 1) 4 rfl rfl rfl rfl rfl Try.underlying57 (by kernel_rfl) (by omega) (by omega) ?_
                dsimp only [putL, setL, List.set_cons_zero, List.set_cons_succ, List.nil_append, List.cons_append]
                refine wk_ldRow 0 rfl rfl rfl rfl rfl (by have h0 := hln; omega) ?_
                dsimp only [putL, setL, List.set_cons_zero, List.set_cons_succ, List.nil_append, List.cons_append]
                refine wk_move (.slice (some ⟨bc, 0, none⟩) cn cn) rfl rfl rfl rfl ?_
                dsimp only [putL, setL, List.set_cons_zero, List.set_cons_succ, List.nil_append, List.cons_append]
                refine wk_move (.int .i64 (t : Int)) rfl rfl rfl rfl ?_
                dsimp only [putL, setL, List.set_cons_zero, List.set_cons_succ, List.nil_append, List.cons_append]
                refine wk_idxS t 4 rfl rfl rfl rfl rfl Try.underlying57 (by kernel_rfl) rfl (by omega) ?_
                dsimp only [putL, setL, List.set_cons_zero, List.set_cons_succ, List.nil_append, List.cons_append]
                refine wk_ldRow 1 rfl rfl rfl rfl rfl (by have h0 := hg2; omega) ?_
                dsimp only [putL, setL, List.set_cons_zero, List.set_cons_succ, List.nil_append, List.cons_append]
                refine wk_call [(numV (ix ns (t + 1))), (numV (ix cs t))] (numV (((ix ns (t + 1)) + (ix cs t)) % modW 1)) rfl rfl rfl (enters_of Try.func85 (by kernel_rfl) (by kernel_rfl)) rfl (qadd_calls (ix ns (t + 1)) (ix cs t) (ix_lt (fun c hc => Nat.lt_trans (hh1.bd c hc) (modW_lt 1))) (ix_lt (fun c hc => Nat.lt_trans (hg1.bd c hc) (modW_lt 1)))) ?_
                dsimp only [putL, setL, List.set_cons_zero, List.set_cons_succ, List.nil_append, List.cons_append]
                refine wk_idxS (t + 1) 4 rfl rfl rfl rfl rfl Try.underlying57 (by kernel_rfl) (by omega) (by omega) ?_
                dsimp only [putL, setL, List.set_cons_zero, List.set_cons_succ, List.nil_append, List.cons_append]
                refine wk_stRow 0 rfl rfl rfl rfl rfl rfl (by have h0 := hln; omega) ?_
                dsimp only [putL, setL, List.set_cons_zero, List.set_cons_succ, List.nil_append, List.cons_append]
                refine wk_nil ?_
                refine sp_draw [0, 1, 2, 3, 4, 5, 6, 7, 8, 9, 10, 11, 12, 13, 14, 15, 16, 17, 18] [] mixed rfl (by kernel_rfl) (by kernel_rfl) ?_
                refine wk_move (.slice (some ⟨β11, 0, none⟩) (cn + 1) (cn + 1)) rfl rfl rfl rfl ?_
                dsimp only [putL, setL, List.set_cons_zero, List.set_cons_succ, List.nil_append, List.cons_append]
                refine wk_move (.int .i64 (t : Int)) rfl rfl rfl rfl ?_
                dsimp only [putL, setL, List.set_cons_zero, List.set_cons_succ, List.nil_append, List.cons_append]
                refine wk_move (.slice (some ⟨β11, 0, none⟩) (cn + 1) (cn + 1)) rfl rfl rfl rfl ?_
                dsimp only [putL, setL, List.set_cons_zero, List.set_cons_succ, List.nil_append, List.cons_append]
                refine wk_move (.int .i64 (t : Int)) rfl rfl rfl rfl ?_
                dsimp only [putL, setL, List.set_cons_zero, List.set_cons_succ, List.nil_append, List.cons_append]
                refine wk_idxS t 4 rfl rfl rfl rfl rfl Try.underlying57 (by kernel_rfl) rfl (by omega) ?_
                dsimp only [putL, setL, List.set_cons_zero, List.set_cons_succ, List.nil_append, List.cons_append]
                refine wk_ldRow 0 rfl rfl rfl rfl rfl (by have h0 := (set_len (t + 1) (((ix ns (t + 1)) + (ix cs t)) % modW 1) hln); omega) ?_
                dsimp only [putL, setL, List.set_cons_zero, List.set_cons_succ, List.nil_append, List.cons_append]
                refine wk_move (.slice (some ⟨bc, 0, none⟩) cn cn) rfl rfl rfl rfl ?_
                dsimp only [putL, setL, List.set_cons_zero, List.set_cons_succ, List.nil_append, List.cons_append]
                refine wk_move (.int .i64 (t : Int)) rfl rfl rfl rfl ?_
                dsimp only [putL, setL, List.set_cons_zero, List.set_cons_succ, List.nil_append, List.cons_append]
                refine wk_idxS t 4 rfl rfl rfl rfl rfl Try.underlying57 (by kernel_rfl) rfl (by omega) ?_
                dsimp only [putL, setL, List.set_cons_zero, List.set_cons_succ, List.nil_append, List.cons_append]
                refine wk_ldRow 1 rfl rfl rfl rfl rfl (by have h0 := hg2; omega) ?_
                dsimp only [putL, setL, List.set_cons_zero, List.set_cons_succ, List.nil_append, List.cons_append]
                refine wk_move (.slice a nn c) rfl rfl rfl rfl ?_
                dsimp only [putL, setL, List.set_cons_zero, List.set_cons_succ, List.nil_append, List.cons_append]
                refine wk_move (.int .i64 (j : Int)) rfl rfl rfl rfl ?_
                dsimp only [putL, setL, List.set_cons_zero, List.set_cons_succ, List.nil_append, List.cons_append]
                obtain ⟨β13, o13, ha13, hr13⟩ := hH.at_ (shL_ne (k := j) (by have h0 := hl; omega))
                refine wk_idxA j 8 rfl rfl rfl rfl ha13 rfl Try.underlying63 (by kernel_rfl) rfl (by omega) ?_
                dsimp only [putL, setL, List.set_cons_zero, List.set_cons_succ, List.nil_append, List.cons_append]
                refine wk_val (.pointer (some ⟨β13, o13 + j * 8, none⟩)) rfl rfl rfl (fun w => by kernel_rfl) ?_
                dsimp only [putL, setL, List.set_cons_zero, List.set_cons_succ, List.nil_append, List.cons_append]
                refine wk_ldXA rfl rfl rfl rfl (fun M' w' hm hst => old_range hr13 (shL_ne (k := j) (by omega)) hst) (by have h0 := hl; omega) ?_
                dsimp only [putL, setL, List.set_cons_zero, List.set_cons_succ, List.nil_append, List.cons_append]
                refine wk_call [(numV (ix cs t)), (numV (sx ss j).1)] (numV ((ix cs t) * (sx ss j).1 % modW 1)) rfl rfl rfl (enters_of Try.func86 (by kernel_rfl) (by kernel_rfl)) rfl (qmul_calls (ix cs t) (sx ss j).1 (ix_lt (fun c hc => Nat.lt_trans (hg1.bd c hc) (modW_lt 1))) (sx_lt1 hss)) ?_
                dsimp only [putL, setL, List.set_cons_zero, List.set_cons_succ, List.nil_append, List.cons_append]
                refine wk_call [(numV (ix (ns.set (t + 1) (((ix ns (t + 1)) + (ix cs t)) % modW 1)) t)), (numV ((ix cs t) * (sx ss j).1 % modW 1))] (numV (subM (modW 1) (ix (ns.set (t + 1) (((ix ns (t + 1)) + (ix cs t)) % modW 1)) t) ((ix cs t) * (sx ss j).1 % modW 1))) rfl rfl rfl (enters_of Try.func87 (by kernel_rfl) (by kernel_rfl)) rfl (qsub_calls (ix (ns.set (t + 1) (((ix ns (t + 1)) + (ix cs t)) % modW 1)) t) ((ix cs t) * (sx ss j).1 % modW 1) (ix_lt (set_lt (fun c hc => Nat.lt_trans (hh1.bd c hc) (modW_lt 1)) (Nat.lt_trans (Nat.mod_lt _ (modW_pos ok1)) (modW_lt 1)))) (Nat.lt_trans (Nat.mod_lt _ (modW_pos ok1)) (modW_lt 1))) ?_
                dsimp only [putL, setL, List.set_cons_zero, List.set_cons_succ, List.nil_append, List.cons_append]
                refine wk_idxS t 4 rfl rfl rfl rfl rfl Try.underlying57 (by kernel_rfl) rfl (by omega) ?_
                dsimp only [putL, setL, List.set_cons_zero, List.set_cons_succ, List.nil_append, List.cons_append]
                refine wk_stRow 0 rfl rfl rfl rfl rfl rfl (by have h0 := (set_len (t + 1) (((ix ns (t + 1)) + (ix cs t)) % modW 1) hln); omega) ?_
                dsimp only [putL, setL, List.set_cons_zero, List.set_cons_succ, List.nil_append, List.cons_append]
                refine wk_nil ?_
                refine sp_region (π := [0, 1, 2]) [] rfl rfl ?_
                refine wk_move (.int .i64 (t : Int)) rfl rfl rfl rfl ?_
                dsimp only [putL, setL, List.set_cons_zero, List.set_cons_succ, List.nil_append, List.cons_append]
                refine wk_iop (.int .i64 ((t : Int) + 1)) rfl rfl rfl rfl rfl rfl (iop_add (by omega) (by omega)) ?_
                dsimp only [putL, setL, List.set_cons_zero, List.set_cons_succ, List.nil_append, List.cons_append]
                refine wk_assign (.int .i64 ((t : Int) + 1)) rfl rfl rfl rfl ?_
                dsimp only [putL, setL, List.set_cons_zero, List.set_cons_succ, List.nil_append, List.cons_append]
                refine wk_nil ?_
                exact ⟨(β11, rowO ((ns.set (t + 1) (((ix ns (t + 1)) + (ix cs t)) % modW 1)).set t (subM (modW 1) (ix (ns.set (t + 1) (((ix ns (t + 1)) + (ix cs t)) % modW 1)) t) ((ix cs t) * (sx ss j).1 % modW 1)))) :: (bc, rowO cs) :: (β8, numO d) :: (β5, rowO os) :: (S1 ++ S3), _, List.Sublist.refl _, ⟨(t + 1), ((ns.set (t + 1) (((ix ns (t + 1)) + (ix cs t)) % modW 1)).set t (subM (modW 1) (ix (ns.set (t + 1) (((ix ns (t + 1)) + (ix cs t)) % modW 1)) t) ((ix cs t) * (sx ss j).1 % modW 1))), (.int .i64 (t : Int)), (.slice (some ⟨bc, 0, none⟩) cn cn), (.int .i64 ((cn : Nat) : Int)), (.bool true), (.int .i64 (t : Int)), (.int .i64 ((t : Int) + 1)), (.slice (some ⟨β11, 0, none⟩) (cn + 1) (cn + 1)), (.int .i64 (t : Int)), (.int .i64 ((t : Int) + 1)), (.slice (some ⟨β11, 0, none⟩) (cn + 1) (cn + 1)), (.int .i64 (t : Int)), (.int .i64 ((t : Int) + 1)), (.pointer (some ⟨β11, 0 + (t + 1) * 4, none⟩)), (numV (ix ns (t + 1))), (.slice (some ⟨bc, 0, none⟩) cn cn), (.int .i64 (t : Int)), (.pointer (some ⟨bc, 0 + t * 4, none⟩)), (numV (ix cs t)), (numV (((ix ns (t + 1)) + (ix cs t)) % modW 1)), (.pointer (some ⟨β11, 0 + (t + 1) * 4, none⟩)), (.slice (some ⟨β11, 0, none⟩) (cn + 1) (cn + 1)), (.int .i64 (t : Int)), (.slice (some ⟨β11, 0, none⟩) (cn + 1) (cn + 1)), (.int .i64 (t : Int)), (.pointer (some ⟨β11, 0 + t * 4, none⟩)), (numV (ix (ns.set (t + 1) (((ix ns (t + 1)) + (ix cs t)) % modW 1)) t)), (.slice (some ⟨bc, 0, none⟩) cn cn), (.int .i64 (t : Int)), (.pointer (some ⟨bc, 0 + t * 4, none⟩)), (numV (ix cs t)), (.slice a nn c), (.int .i64 (j : Int)), (.pointer (some ⟨β13, o13 + j * 8, none⟩)), (.pointer (some ⟨β13, o13 + j * 8, none⟩)), (numV (sx ss j).1), (numV ((ix cs t) * (sx ss j).1 % modW 1)), (numV (subM (modW 1) (ix (ns.set (t + 1) (((ix ns (t + 1)) + (ix cs t)) % modW 1)) t) ((ix cs t) * (sx ss j).1 % modW 1))), (.pointer (some ⟨β11, 0 + t * 4, none⟩)), rfl, rfl, (by omega), (hh1.step (modW_pos ok1) hg1.bd (by omega)), rfl⟩, (by omega)⟩
              · skip
                refine wk_iop (.bool false) rfl rfl rfl rfl rfl rfl (iop_lss_f hc12) ?_
                dsimp only [putL, setL, List.set_cons_zero, List.set_cons_succ, List.nil_append, List.cons_append]
                refine wk_nil ?_
                refine sp_false rfl rfl ?_
                refine sp_exit rfl ?_
                refine sp_seq rfl ?_
                refine sp_region (π := [0, 1]) [] rfl rfl ?_
                refine wk_move (.slice (some ⟨β11, 0, none⟩) (cn + 1) (cn + 1)) rfl rfl rfl rfl ?_
                dsimp only [putL, setL, List.set_cons_zero, List.set_cons_succ, List.nil_append, List.cons_append]
                refine wk_assign (.slice (some ⟨β11, 0, none⟩) (cn + 1) (cn + 1)) rfl rfl rfl rfl ?_
                dsimp only [putL, setL, List.set_cons_zero, List.set_cons_succ, List.nil_append, List.cons_append]
                refine wk_nil ?_
                refine sp_draw [0, 1, 2, 3, 4, 5, 6, 7, 8, 9, 10, 11, 12, 13] [] mixed rfl (by kernel_rfl) (by kernel_rfl) ?_
                refine wk_ldN 2 rfl rfl rfl rfl rfl ?_
                dsimp only [putL, setL, List.set_cons_zero, List.set_cons_succ, List.nil_append, List.cons_append]
                refine wk_move (.slice a nn c) rfl rfl rfl rfl ?_
                dsimp only [putL, setL, List.set_cons_zero, List.set_cons_succ, List.nil_append, List.cons_append]
                refine wk_move (.int .i64 (i : Int)) rfl rfl rfl rfl ?_
                dsimp only [putL, setL, List.set_cons_zero, List.set_cons_succ, List.nil_append, List.cons_append]
                obtain ⟨β14, o14, ha14, hr14⟩ := hH.at_ (shL_ne (k := i) (by have h0 := hl; omega))
                refine wk_idxA i 8 rfl rfl rfl rfl ha14 rfl Try.underlying63 (by kernel_rfl) rfl (by omega) ?_
                dsimp only [putL, setL, List.set_cons_zero, List.set_cons_succ, List.nil_append, List.cons_append]
                refine wk_val (.pointer (some ⟨β14, o14 + i * 8, none⟩)) rfl rfl rfl (fun w => by kernel_rfl) ?_
                dsimp only [putL, setL, List.set_cons_zero, List.set_cons_succ, List.nil_append, List.cons_append]
                refine wk_ldXA rfl rfl rfl rfl (fun M' w' hm hst => old_range hr14 (shL_ne (k := i) (by omega)) hst) (by have h0 := hl; omega) ?_
                dsimp only [putL, setL, List.set_cons_zero, List.set_cons_succ, List.nil_append, List.cons_append]
                refine wk_move (.slice a nn c) rfl rfl rfl rfl ?_
                dsimp only [putL, setL, List.set_cons_zero, List.set_cons_succ, List.nil_append, List.cons_append]
                refine wk_move (.int .i64 (j : Int)) rfl rfl rfl rfl ?_
                dsimp only [putL, setL, List.set_cons_zero, List.set_cons_succ, List.nil_append, List.cons_append]
                refine wk_idxA j 8 rfl rfl rfl rfl ha14 rfl Try.underlying63 (by kernel_rfl) rfl (by omega) ?_
                dsimp only [putL, setL, List.set_cons_zero, List.set_cons_succ, List.nil_append, List.cons_append]
                refine wk_val (.pointer (some ⟨β14, o14 + j * 8, none⟩)) rfl rfl rfl (fun w => by kernel_rfl) ?_
                dsimp only [putL, setL, List.set_cons_zero, List.set_cons_succ, List.nil_append, List.cons_append]
                refine wk_ldXA rfl rfl rfl rfl (fun M' w' hm hst => old_range hr14 (shL_ne (k := j) (by omega)) hst) (by have h0 := hl; omega) ?_
                dsimp only [putL, setL, List.set_cons_zero, List.set_cons_succ, List.nil_append, List.cons_append]
                refine wk_call [(numV (sx ss i).1), (numV (sx ss j).1)] (numV (subM (modW 1) (sx ss i).1 (sx ss j).1)) rfl rfl rfl (enters_of Try.func87 (by kernel_rfl) (by kernel_rfl)) rfl (qsub_calls (sx ss i).1 (sx ss j).1 (sx_lt1 hss) (sx_lt1 hss)) ?_
                dsimp only [putL, setL, List.set_cons_zero, List.set_cons_succ, List.nil_append, List.cons_append]
                refine wk_call [(numV d), (numV (subM (modW 1) (sx ss i).1 (sx ss j).1))] (numV (d * (subM (modW 1) (sx ss i).1 (sx ss j).1) % modW 1)) rfl rfl rfl (enters_of Try.func86 (by kernel_rfl) (by kernel_rfl)) rfl (qmul_calls d (subM (modW 1) (sx ss i).1 (sx ss j).1) hd (Nat.lt_trans (Nat.mod_lt _ (modW_pos ok1)) (modW_lt 1))) ?_
                dsimp only [putL, setL, List.set_cons_zero, List.set_cons_succ, List.nil_append, List.cons_append]
                refine wk_stN 2 (d * (subM (modW 1) (sx ss i).1 (sx ss j).1) % modW 1) rfl rfl rfl rfl rfl rfl ?_
                dsimp only [putL, setL, List.set_cons_zero, List.set_cons_succ, List.nil_append, List.cons_append]
                refine wk_nil ?_
                refine sp_region (π := [0, 1, 2]) [] rfl rfl ?_
                refine wk_move (.int .i64 (j : Int)) rfl rfl rfl rfl ?_
                dsimp only [putL, setL, List.set_cons_zero, List.set_cons_succ, List.nil_append, List.cons_append]
                refine wk_iop (.int .i64 ((j : Int) + 1)) rfl rfl rfl rfl rfl rfl (iop_add (by omega) (by omega)) ?_
                dsimp only [putL, setL, List.set_cons_zero, List.set_cons_succ, List.nil_append, List.cons_append]
                refine wk_assign (.int .i64 ((j : Int) + 1)) rfl rfl rfl rfl ?_
                dsimp only [putL, setL, List.set_cons_zero, List.set_cons_succ, List.nil_append, List.cons_append]
                refine wk_nil ?_
                exact ⟨(β11, rowO ns) :: (β8, numO (d * (subM (modW 1) (sx ss i).1 (sx ss j).1) % modW 1)) :: (β5, rowO os) :: (S1 ++ S3), _, by exact List.Sublist.cons_cons _ <| List.Sublist.cons _ <| List.Sublist.cons_cons _ <| List.Sublist.cons_cons _ <| List.Sublist.refl _, ⟨(j + 1), ns, (d * (subM (modW 1) (sx ss i).1 (sx ss j).1) % modW 1), β11, (cn + 1), (.slice (some ⟨β11, 0, none⟩) (cn + 1) (cn + 1)), (.int .i64 (t : Int)), (.int .i64 (j : Int)), (.slice a nn c), (.int .i64 ((nn : Nat) : Int)), (.bool true), (.int .i64 (j : Int)), (.int .i64 ((j : Int) + 1)), (.int .i64 (j : Int)), (.int .i64 (i : Int)), (.bool false), (.slice (some ⟨bc, 0, none⟩) cn cn), (.int .i64 ((cn : Nat) : Int)), (.int .i64 (((cn : Nat) : Int) + 1)), (.slice (some ⟨β11, 0, none⟩) (cn + 1) (cn + 1)), (.int .i64 (t : Int)), (.slice (some ⟨bc, 0, none⟩) cn cn), (.int .i64 ((cn : Nat) : Int)), (.bool false), d53, d54, d55, d56, d57, d58, d59, d60, d61, d62, d63, d64, d65, d66, d67, d68, d69, d70, d71, d72, d73, d74, d75, d76, d77, d78, d79, d80, d81, d82, d83, d84, d85, d86, (.slice (some ⟨β11, 0, none⟩) (cn + 1) (cn + 1)), (numV d), (.slice a nn c), (.int .i64 (i : Int)), (.pointer (some ⟨β14, o14 + i * 8, none⟩)), (.pointer (some ⟨β14, o14 + i * 8, none⟩)), (numV (sx ss i).1), (.slice a nn c), (.int .i64 (j : Int)), (.pointer (some ⟨β14, o14 + j * 8, none⟩)), (.pointer (some ⟨β14, o14 + j * 8, none⟩)), (numV (sx ss j).1), (numV (subM (modW 1) (sx ss i).1 (sx ss j).1)), (numV (d * (subM (modW 1) (sx ss i).1 (sx ss j).1) % modW 1)), rfl, rfl, (by omega), (by have ht : t = cs.length := (by omega); subst ht; exact hg1.step (modW_prime ok1) (wrongI_zero hw0).2 (by omega) (by omega) (by omega) hh1), hln, rfl⟩, (by omega)⟩
        · skip
          refine wk_iop (.bool false) rfl rfl rfl rfl rfl rfl (iop_lss_f hc9) ?_
          dsimp only [putL, setL, List.set_cons_zero, List.set_cons_succ, List.nil_append, List.cons_append]
          refine wk_nil ?_
          refine sp_false rfl rfl ?_
          refine sp_exit rfl ?_
          refine sp_seq rfl ?_
          refine sp_draw [0, 1, 2, 3, 4, 5, 6, 7, 8, 9] [] mixed rfl (by kernel_rfl) (by kernel_rfl) ?_
          refine wk_move (.slice a nn c) rfl rfl rfl rfl ?_
          dsimp only [putL, setL, List.set_cons_zero, List.set_cons_succ, List.nil_append, List.cons_append]
          refine wk_move (.int .i64 (i : Int)) rfl rfl rfl rfl ?_
          dsimp only [putL, setL, List.set_cons_zero, List.set_cons_succ, List.nil_append, List.cons_append]
          obtain ⟨β15, o15, ha15, hr15⟩ := hH.at_ (shL_ne (k := i) (by have h0 := hl; omega))
          refine wk_idxA i 8 rfl rfl rfl rfl ha15 rfl Try.underlying63 (by kernel_rfl) rfl (by omega) ?_
          dsimp only [putL, setL, List.set_cons_zero, List.set_cons_succ, List.nil_append, List.cons_append]
          refine wk_val (.pointer (some ⟨β15, o15 + i * 8 + 4, none⟩)) rfl rfl rfl (fun w => by kernel_rfl) ?_
          dsimp only [putL, setL, List.set_cons_zero, List.set_cons_succ, List.nil_append, List.cons_append]
          refine wk_ldYA rfl rfl rfl rfl (fun M' w' hm hst => old_range hr15 (shL_ne (k := i) (by omega)) hst) (by have h0 := hl; omega) ?_
          dsimp only [putL, setL, List.set_cons_zero, List.set_cons_succ, List.nil_append, List.cons_append]
          refine wk_ldN 1 rfl rfl rfl rfl rfl ?_
          dsimp only [putL, setL, List.set_cons_zero, List.set_cons_succ, List.nil_append, List.cons_append]
          refine wk_call [(.int .i64 1), (numV d)] (numV (d ^ (modW 1 - 2) % modW 1)) rfl rfl rfl (enters_of Try.func88 (by kernel_rfl) (by kernel_rfl)) rfl (rinv_ok 1 d ok1 hd) ?_
          dsimp only [putL, setL, List.set_cons_zero, List.set_cons_succ, List.nil_append, List.cons_append]
          refine wk_call [(numV (sx ss i).2), (numV (d ^ (modW 1 - 2) % modW 1))] (numV ((sx ss i).2 * (d ^ (modW 1 - 2) % modW 1) % modW 1)) rfl rfl rfl (enters_of Try.func86 (by kernel_rfl) (by kernel_rfl)) rfl (qmul_calls (sx ss i).2 (d ^ (modW 1 - 2) % modW 1) (sx_lt2 hss) (Nat.lt_trans (Nat.mod_lt _ (modW_pos ok1)) (modW_lt 1))) ?_
          dsimp only [putL, setL, List.set_cons_zero, List.set_cons_succ, List.nil_append, List.cons_append]
          refine wkf_newN rfl rfl fun β16 => ?_
          dsimp only [putL, setL, List.set_cons_zero, List.set_cons_succ, List.nil_append, List.cons_append]
          refine wk_stN 0 ((sx ss i).2 * (d ^ (modW 1 - 2) % modW 1) % modW 1) rfl rfl rfl rfl rfl rfl ?_
          dsimp only [putL, setL, List.set_cons_zero, List.set_cons_succ, List.nil_append, List.cons_append]
          refine wk_nil ?_
          refine sp_seq rfl ?_
          refine sp_region (π := [0]) [] rfl rfl ?_
          refine wk_assign (.int .i64 0) rfl rfl rfl rfl ?_
          dsimp only [putL, setL, List.set_cons_zero, List.set_cons_succ, List.nil_append, List.cons_append]
          refine wk_nil ?_
          refine sp_block rfl ?_
          have hcn2 : cn = nn := by have h := hg1.len; (repeat' split at h) <;> omega
          refine sp_loopg rfl (fun n l M => ∃ t : Nat, ∃ qs : List Nat, ∃ d109 : Value, ∃ d110 : Value, ∃ d111 : Value, ∃ d112 : Value, ∃ d113 : Value, ∃ d114 : Value, ∃ d115 : Value, ∃ d116 : Value, ∃ d117 : Value, ∃ d118 : Value, ∃ d119 : Value, ∃ d120 : Value, ∃ d121 : Value, ∃ d122 : Value, ∃ d123 : Value, ∃ d124 : Value, ∃ d125 : Value, ∃ d126 : Value, ∃ d127 : Value, ∃ d128 : Value, l = [(.slice a nn c), undef, (.slice none 0 0), (.int .i64 0), (.slice a4 nn cp4), (.int .i64 0), (.slice (some ⟨β5, 0, none⟩) nn nn), (.int .i64 (i : Int)), (.slice (some ⟨bc, 0, none⟩) cn cn), (.pointer (some ⟨β8, 0, none⟩)), (.int .i64 (j : Int)), d11, d12, (.pointer (some ⟨β16, 0, none⟩)), (.int .i64 (t : Int)), (.tuple #[(.slice a4 nn cp4), (.int .i64 0)]), (.slice a nn c), (.slice a2 nn cp2), (.tuple #[(.slice a4 nn cp4), (.int .i64 0)]), (.slice a4 nn cp4), (.int .i64 0), (.int .i64 0), (.bool false), undef, (.slice a nn c), (.int .i64 ((nn : Nat) : Int)), (.slice (some ⟨β5, 0, none⟩) nn nn), (.int .i64 (i : Int)), (.slice a nn c), (.int .i64 ((nn : Nat) : Int)), (.bool true), d31, d32, (numV 1), (.slice (some ⟨β7, 0, none⟩) 1 1), (numV 1), (.int .i64 (j : Int)), (.slice a nn c), (.int .i64 ((nn : Nat) : Int)), (.bool false), d40, d41, d42, d43, d44, d45, d46, d47, d48, d49, d50, d51, d52, d53, d54, d55, d56, d57, d58, d59, d60, d61, d62, d63, d64, d65, d66, d67, d68, d69, d70, d71, d72, d73, d74, d75, d76, d77, d78, d79, d80, d81, d82, d83, d84, d85, d86, d87, d88, d89, d90, d91, d92, d93, d94, d95, d96, d97, d98, d99, d100, (.slice a nn c), (.int .i64 (i : Int)), (.pointer (some ⟨β15, o15 + i * 8, none⟩)), (.pointer (some ⟨β15, o15 + i * 8 + 4, none⟩)), (numV (sx ss i).2), (numV d), (numV (d ^ (modW 1 - 2) % modW 1)), (numV ((sx ss i).2 * (d ^ (modW 1 - 2) % modW 1) % modW 1)), d109, d110, d111, d112, d113, d114, d115, d116, d117, d118, d119, d120, d121, d122, d123, d124, d125, d126, d127, d128, undef] ∧ (β16, numO ((sx ss i).2 * (d ^ (modW 1 - 2) % modW 1) % modW 1)) :: (bc, rowO cs) :: (β8, numO d) :: (β5, rowO qs) :: (S1 ++ S3) = M ∧ (t ≤ cn) ∧ (Mid1 (modW 1) os cs ((sx ss i).2 * (d ^ (modW 1 - 2) % modW 1) % modW 1) t qs) ∧ n = cn - t) (cn - 0) ?_ ?_
          · exact ⟨0, os, d109, d110, d111, d112, d113, d114, d115, d116, d117, d118, d119, d120, d121, d122, d123, d124, d125, d126, d127, d128, rfl, rfl, (Nat.zero_le _), (Mid1.start hf1.bd), rfl⟩
          · skip
            intro n l M
            refine exists_imp.2 fun t => ?_
            refine exists_imp.2 fun qs => ?_
            refine exists_imp.2 fun d109 => ?_
            refine exists_imp.2 fun d110 => ?_
            refine exists_imp.2 fun d111 => ?_
            refine exists_imp.2 fun d112 => ?_
            refine exists_imp.2 fun d113 => ?_
            refine exists_imp.2 fun d114 => ?_
            refine exists_imp.2 fun d115 => ?_
            refine exists_imp.2 fun d116 => ?_
            refine exists_imp.2 fun d117 => ?_
            refine exists_imp.2 fun d118 => ?_
            refine exists_imp.2 fun d119 => ?_
            refine exists_imp.2 fun d120 => ?_
            refine exists_imp.2 fun d121 => ?_
            refine exists_imp.2 fun d122 => ?_
            refine exists_imp.2 fun d123 => ?_
            refine exists_imp.2 fun d124 => ?_
            refine exists_imp.2 fun d125 => ?_
            refine exists_imp.2 fun d126 => ?_
            refine exists_imp.2 fun d127 => ?_
            refine exists_imp.2 fun d128 => ?_
            rintro ⟨rfl, rfl, hk0, hk1, rfl⟩
            have hlq : qs.length = nn := hk1.len.trans hlo
            refine sp_seq rfl ?_
            refine sp_seq rfl ?_
            refine sp_region (π := [0, 1, 2, 3]) [] rfl rfl ?_
            refine wk_move (.int .i64 (t : Int)) rfl rfl rfl rfl ?_
            dsimp only [putL, setL, List.set_cons_zero, List.set_cons_succ, List.nil_append, List.cons_append]
            refine wk_move (.slice (some ⟨bc, 0, none⟩) cn cn) rfl rfl rfl rfl ?_
            dsimp only [putL, setL, List.set_cons_zero, List.set_cons_succ, List.nil_append, List.cons_append]
            refine wk_len rfl rfl rfl rfl Try.underlying57 ?_
            dsimp only [putL, setL, List.set_cons_zero, List.set_cons_succ, List.nil_append, List.cons_append]
            by_cases hc17 : (t : Int) < ((cn : Nat) : Int)
            · skip
              refine wk_iop (.bool true) rfl rfl rfl rfl rfl rfl (iop_lss_t hc17) ?_
              dsimp only [putL, setL, List.set_cons_zero, List.set_cons_succ, List.nil_append, List.cons_append]
              refine wk_nil ?_
              refine sp_true rfl rfl ?_
              refine sp_skip rfl ?_
              refine sp_seq rfl ?_
              refine sp_block rfl ?_
              refine sp_draw [0, 1, 2, 3, 4, 5, 6, 7, 8, 9, 10, 11, 12, 13, 14] [] mixed rfl (by kernel_rfl) (by kernel_rfl) ?_
              refine wk_move (.slice (some ⟨β5, 0, none⟩) nn nn) rfl rfl rfl rfl ?_
              dsimp only [putL, setL, List.set_cons_zero, List.set_cons_succ, List.nil_append, List.cons_append]
              refine wk_move (.int .i64 (t : Int)) rfl rfl rfl rfl ?_
              dsimp only [putL, setL, List.set_cons_zero, List.set_cons_succ, List.nil_append, List.cons_append]
              refine wk_move (.slice (some ⟨β5, 0, none⟩) nn nn) rfl rfl rfl rfl ?_
              dsimp only [putL, setL, List.set_cons_zero, List.set_cons_succ, List.nil_append, List.cons_append]
              refine wk_move (.int .i64 (t : Int)) rfl rfl rfl rfl ?_
              dsimp only [putL, setL, List.set_cons_zero, List.set_cons_succ, List.nil_append, List.cons_append]
              refine wk_idxS t 4 rfl rfl rfl rfl rfl Try.underlying57 (by kernel_rfl) rfl (by omega) ?_
              dsimp only [putL, setL, List.set_cons_zero, List.set_cons_succ, List.nil_append, List.cons_append]
              refine wk_ldRow 3 rfl rfl rfl rfl rfl (by have h0 := hlq; omega) ?_
              dsimp only [putL, setL, List.set_cons_zero, List.set_cons_succ, List.nil_append, List.cons_append]
              refine wk_move (.slice (some ⟨bc, 0, none⟩) cn cn) rfl rfl rfl rfl ?_
              dsimp only [putL, setL, List.set_cons_zero, List.set_cons_succ, List.nil_append, List.cons_append]
              refine wk_move (.int .i64 (t : Int)) rfl rfl rfl rfl ?_
              dsimp only [putL, setL, List.set_cons_zero, List.set_cons_succ, List.nil_append, List.cons_append]
              refine wk_idxS t 4 rfl rfl rfl rfl rfl Try.underlying57 (by kernel_rfl) rfl (by omega) ?_
              dsimp only [putL, setL, List.set_cons_zero, List.set_cons_succ, List.nil_append, List.cons_append]
              refine wk_ldRow 1 rfl rfl rfl rfl rfl (by have h0 := hg2; omega) ?_
              dsimp only [putL, setL, List.set_cons_zero, List.set_cons_succ, List.nil_append, List.cons_append]
              refine wk_ldN 0 rfl rfl rfl rfl rfl ?_
              dsimp only [putL, setL, List.set_cons_zero, List.set_cons_succ, List.nil_append, List.cons_append]
              refine wk_call [(numV (ix cs t)), (numV ((sx ss i).2 * (d ^ (modW 1 - 2) % modW 1) % modW 1))] (numV ((ix cs t) * ((sx ss i).2 * (d ^ (modW 1 - 2) % modW 1) % modW 1) % modW 1)) rfl rfl rfl (enters_of Try.func86 (by kernel_rfl) (by kernel_rfl)) rfl (qmul_calls (ix cs t) ((sx ss i).2 * (d ^ (modW 1 - 2) % modW 1) % modW 1) (ix_lt (fun c hc => Nat.lt_trans (hg1.bd c hc) (modW_lt 1))) (Nat.lt_trans (Nat.mod_lt _ (modW_pos ok1)) (modW_lt 1))) ?_
              dsimp only [putL, setL, List.set_cons_zero, List.set_cons_succ, List.nil_append, List.cons_append]
              refine wk_call [(numV (ix qs t)), (numV ((ix cs t) * ((sx ss i).2 * (d ^ (modW 1 - 2) % modW 1) % modW 1) % modW 1))] (numV (((ix qs t) + ((ix cs t) * ((sx ss i).2 * (d ^ (modW 1 - 2) % modW 1) % modW 1) % modW 1)) % modW 1)) rfl rfl rfl (enters_of Try.func85 (by kernel_rfl) (by kernel_rfl)) rfl (qadd_calls (ix qs t) ((ix cs t) * ((sx ss i).2 * (d ^ (modW 1 - 2) % modW 1) % modW 1) % modW 1) (ix_lt (fun c hc => Nat.lt_trans (hk1.bd c hc) (modW_lt 1))) (Nat.lt_trans (Nat.mod_lt _ (modW_pos ok1)) (modW_lt 1))) ?_
              dsimp only [putL, setL, List.set_cons_zero, List.set_cons_succ, List.nil_append, List.cons_append]
              refine wk_idxS t 4 rfl rfl rfl rfl rfl Try.underlying57 (by kernel_rfl) rfl (by omega) ?_
              dsimp only [putL, setL, List.set_cons_zero, List.set_cons_succ, List.nil_append, List.cons_append]
              refine wk_stRow 3 rfl rfl rfl rfl rfl rfl (by have h0 := hlq; omega) ?_
              dsimp only [putL, setL, List.set_cons_zero, List.set_cons_succ, List.nil_append, List.cons_append]
              refine wk_nil ?_
              refine sp_region (π := [0, 1, 2]) [] rfl rfl ?_
              refine wk_move (.int .i64 (t : Int)) rfl rfl rfl rfl ?_
              dsimp only [putL, setL, List.set_cons_zero, List.set_cons_succ, List.nil_append, List.cons_append]
              refine wk_iop (.int .i64 ((t : Int) + 1)) rfl rfl rfl rfl rfl rfl (iop_add (by omega) (by omega)) ?_
              dsimp only [putL, setL, List.set_cons_zero, List.set_cons_succ, List.nil_append, List.cons_append]
              refine wk_assign (.int .i64 ((t : Int) + 1)) rfl rfl rfl rfl ?_
              dsimp only [putL, setL, List.set_cons_zero, List.set_cons_succ, List.nil_append, List.cons_append]
              refine wk_nil ?_
              exact ⟨(β16, numO ((sx ss i).2 * (d ^ (modW 1 - 2) % modW 1) % modW 1)) :: (bc, rowO cs) :: (β8, numO d) :: (β5, rowO (qs.set t (((ix qs t) + ((ix cs t) * ((sx ss i).2 * (d ^ (modW 1 - 2) % modW 1) % modW 1) % modW 1)) % modW 1))) :: (S1 ++ S3), _, List.Sublist.refl _, ⟨(t + 1), (qs.set t (((ix qs t) + ((ix cs t) * ((sx ss i).2 * (d ^ (modW 1 - 2) % modW 1) % modW 1) % modW 1)) % modW 1)), (.int .i64 (t : Int)), (.slice (some ⟨bc, 0, none⟩) cn cn), (.int .i64 ((cn : Nat) : Int)), (.bool true), (.int .i64 (t : Int)), (.int .i64 ((t : Int) + 1)), (.slice (some ⟨β5, 0, none⟩) nn nn), (.int .i64 (t : Int)), (.slice (some ⟨β5, 0, none⟩) nn nn), (.int .i64 (t : Int)), (.pointer (some ⟨β5, 0 + t * 4, none⟩)), (numV (ix qs t)), (.slice (some ⟨bc, 0, none⟩) cn cn), (.int .i64 (t : Int)), (.pointer (some ⟨bc, 0 + t * 4, none⟩)), (numV (ix cs t)), (numV ((sx ss i).2 * (d ^ (modW 1 - 2) % modW 1) % modW 1)), (numV ((ix cs t) * ((sx ss i).2 * (d ^ (modW 1 - 2) % modW 1) % modW 1) % modW 1)), (numV (((ix qs t) + ((ix cs t) * ((sx ss i).2 * (d ^ (modW 1 - 2) % modW 1) % modW 1) % modW 1)) % modW 1)), (.pointer (some ⟨β5, 0 + t * 4, none⟩)), rfl, rfl, (by omega), (by have h := hk1.step (modW_pos ok1) (j := t) (by omega); rw [Nat.mul_comm _ (ix cs t)] at h; exact h), rfl⟩, (by omega)⟩
            · skip
              refine wk_iop (.bool false) rfl rfl rfl rfl rfl rfl (iop_lss_f hc17) ?_
              dsimp only [putL, setL, List.set_cons_zero, List.set_cons_succ, List.nil_append, List.cons_append]
              refine wk_nil ?_
              refine sp_false rfl rfl ?_
              refine sp_exit rfl ?_
              refine sp_region (π := [0, 1, 2]) [] rfl rfl ?_
              refine wk_move (.int .i64 (i : Int)) rfl rfl rfl rfl ?_
              dsimp only [putL, setL, List.set_cons_zero, List.set_cons_succ, List.nil_append, List.cons_append]
              refine wk_iop (.int .i64 ((i : Int) + 1)) rfl rfl rfl rfl rfl rfl (iop_add (by omega) (by omega)) ?_
              dsimp only [putL, setL, List.set_cons_zero, List.set_cons_succ, List.nil_append, List.cons_append]
              refine wk_assign (.int .i64 ((i : Int) + 1)) rfl rfl rfl rfl ?_
              dsimp only [putL, setL, List.set_cons_zero, List.set_cons_succ, List.nil_append, List.cons_append]
              refine wk_nil ?_
              exact ⟨(β5, rowO qs) :: (S1 ++ S3), _, by exact List.Sublist.cons _ <| List.Sublist.cons _ <| List.Sublist.cons _ <| List.Sublist.cons_cons _ <| List.Sublist.refl _, ⟨(i + 1), qs, (.slice (some ⟨bc, 0, none⟩) cn cn), (.pointer (some ⟨β8, 0, none⟩)), (.int .i64 (j : Int)), d11, d12, (.pointer (some ⟨β16, 0, none⟩)), (.int .i64 (t : Int)), (.int .i64 (i : Int)), (.slice a nn c), (.int .i64 ((nn : Nat) : Int)), (.bool true), (.int .i64 (i : Int)), (.int .i64 ((i : Int) + 1)), (numV 1), (.slice (some ⟨β7, 0, none⟩) 1 1), (numV 1), (.int .i64 (j : Int)), (.slice a nn c), (.int .i64 ((nn : Nat) : Int)), (.bool false), d40, d41, d42, d43, d44, d45, d46, d47, d48, d49, d50, d51, d52, d53, d54, d55, d56, d57, d58, d59, d60, d61, d62, d63, d64, d65, d66, d67, d68, d69, d70, d71, d72, d73, d74, d75, d76, d77, d78, d79, d80, d81, d82, d83, d84, d85, d86, d87, d88, d89, d90, d91, d92, d93, d94, d95, d96, d97, d98, d99, d100, (.slice a nn c), (.int .i64 (i : Int)), (.pointer (some ⟨β15, o15 + i * 8, none⟩)), (.pointer (some ⟨β15, o15 + i * 8 + 4, none⟩)), (numV (sx ss i).2), (numV d), (numV (d ^ (modW 1 - 2) % modW 1)), (numV ((sx ss i).2 * (d ^ (modW 1 - 2) % modW 1) % modW 1)), (.int .i64 (t : Int)), (.slice (some ⟨bc, 0, none⟩) cn cn), (.int .i64 ((cn : Nat) : Int)), (.bool false), d113, d114, d115, d116, d117, d118, d119, d120, d121, d122, d123, d124, d125, d126, d127, d128, rfl, rfl, (by omega), (by have hj : j = ss.length := (by omega); have ht : t = cs.length := (by omega); subst hj; subst ht; exact PSum.step (modW_prime ok1) hf1 (by omega) hg1 hk1), rfl⟩, (by omega)⟩
    · skip
      refine wk_iop (.bool false) rfl rfl rfl rfl rfl rfl (iop_lss_f hc6) ?_
      dsimp only [putL, setL, List.set_cons_zero, List.set_cons_succ, List.nil_append, List.cons_append]
      refine wk_nil ?_
      refine sp_false rfl rfl ?_
      refine sp_exit rfl ?_
      refine sp_seq rfl ?_
      refine sp_region (π := [0, 1, 2]) [] rfl rfl ?_
      refine wk_move (.slice (some ⟨β5, 0, none⟩) nn nn) rfl rfl rfl rfl ?_
      dsimp only [putL, setL, List.set_cons_zero, List.set_cons_succ, List.nil_append, List.cons_append]
      refine wk_assign (.slice (some ⟨β5, 0, none⟩) nn nn) rfl rfl rfl rfl ?_
      dsimp only [putL, setL, List.set_cons_zero, List.set_cons_succ, List.nil_append, List.cons_append]
      refine wk_assign (.int .i64 0) rfl rfl rfl rfl ?_
      dsimp only [putL, setL, List.set_cons_zero, List.set_cons_succ, List.nil_append, List.cons_append]
      refine wk_nil ?_
      refine sp_ret rfl ?_
      have he : os = thruL (modW 1) ss := thru_eq (modW_prime ok1) (wrongI_zero hw0).2 (by have hi : i = ss.length := (by omega); subst hi; exact hf1.done)
      exact ret_tmps (v := .tuple #[(.slice (some ⟨β5, 0, none⟩) nn nn), .int .i64 0]) (fun w' => by kernel_rfl) fun w' hw => ⟨(.slice (some ⟨β5, 0, none⟩) nn nn), [(β5, rowO os)], rfl, (by rw [← he]; exact own_row hlo (by simp only [maxLen]; omega)), hw.below, fun p hp => by obtain rfl := List.mem_singleton.1 hp; exact ⟨hw.own _ (List.mem_of_getElem? (i := 0) rfl), (hw.free _ (List.mem_of_getElem? (i := 0) rfl)).resolve_right id⟩⟩

set_option maxRecDepth 20000 in
set_option maxHeartbeats 1000000 in
theorem rthrough_no (ss : List (Nat × Nat)) (nn : Nat) (a : Option Addr) (c : Nat) (hl : ss.length = nn) (hss : ShBound ss) (hn : nn ≤ 1099511627776) (hw0 : ¬ wrongI (modW 1) (xsS ss) = 0) (w : World) (hH : Holds w a (shL ss)) : Calls Try.prog 69 #[.slice a nn c] w (fun e w' => e = .returned (.tuple #[.slice none 0 0, .int .i64 (wrongI (modW 1) (xsS ss))]) ∧ Below w.heap.size w w') := by
  refine fn_calls (l0 := [(.slice a nn c), undef, undef, undef, undef, undef, undef, undef, undef, undef, undef, undef, undef, undef, undef, undef, undef, undef, undef, undef, undef, undef, undef, undef, undef, undef, undef, undef, undef, undef, undef, undef, undef, undef, undef, undef, undef, undef, undef, undef, undef, undef, undef, undef, undef, undef, undef, undef, undef, undef, undef, undef, undef, undef, undef, undef, undef, undef, undef, undef, undef, undef, undef, undef, undef, undef, undef, undef, undef, undef, undef, undef, undef, undef, undef, undef, undef, undef, undef, undef, undef, undef, undef, undef, undef, undef, undef, undef, undef, undef, undef, undef, undef, undef, undef, undef, undef, undef, undef, undef, undef, undef, undef, undef, undef, undef, undef, undef, undef, undef, undef, undef, undef, undef, undef, undef, undef, undef, undef, undef, undef, undef, undef, undef, undef, undef, undef, undef, undef, undef]) Try.func69 rfl rfl [] (St.start w) ?_
  refine sp_seq rfl ?_
  refine sp_region (π := [0, 1]) [] rfl rfl ?_
  refine wk_assign (.slice none 0 0) rfl rfl rfl rfl ?_
  dsimp only [putL, setL, List.set_cons_zero, List.set_cons_succ, List.nil_append, List.cons_append]
  refine wk_assign (.int .i64 0) rfl rfl rfl rfl ?_
  dsimp only [putL, setL, List.set_cons_zero, List.set_cons_succ, List.nil_append, List.cons_append]
  refine wk_nil ?_
  refine sp_seq rfl ?_
  refine sp_seq rfl ?_
  refine sp_region (π := [0, 1, 2, 3, 4, 5, 6, 7]) [] rfl rfl ?_
  refine wk_move (.slice a nn c) rfl rfl rfl rfl ?_
  dsimp only [putL, setL, List.set_cons_zero, List.set_cons_succ, List.nil_append, List.cons_append]
  refine wk_callS (e := 24) (size := 4) (n := nn) (cs := (rowL (xsS ss))) [(.slice a nn c)] (fun v => v) rfl rfl rfl (enters_of Try.func89 (by kernel_rfl) (by kernel_rfl)) rfl (xsS_row hl) (by simp only [maxLen]; omega) (fun M' w' hm hst => rxsOf_calls ss nn _ _ hl hss (by omega) w' (hH.old hst)) fun v1 S1 hO1 => ?_
  dsimp only [putL, setL, List.set_cons_zero, List.set_cons_succ, List.nil_append, List.cons_append]
  obtain ⟨a2, cp2, hv2, hcp2, hsh2⟩ := hO1.reads
  subst hv2
  refine wk_callW [(.slice a2 nn cp2)] (.tuple #[(.slice none 0 0), (.int .i64 (wrongI (modW 1) (xsS ss)))]) rfl rfl rfl (enters_of Try.func66 (by kernel_rfl) (by kernel_rfl)) rfl (fun M' w' hm hst => rweights_no' (xsS ss) nn _ _ ((xsS_len ss).trans hl) (xsS_bound hss) (by omega) hcp2 hw0 w' (hsh2.holds hst (fun p hp => hm p (by simp [hp])))) ?_
  dsimp only [putL, setL, List.set_cons_zero, List.set_cons_succ, List.nil_append, List.cons_append]
  refine wk_move (.tuple #[(.slice none 0 0), (.int .i64 (wrongI (modW 1) (xsS ss)))]) rfl rfl rfl rfl ?_
  dsimp only [putL, setL, List.set_cons_zero, List.set_cons_succ, List.nil_append, List.cons_append]
  refine wk_ext (.slice none 0 0) rfl rfl rfl rfl rfl ?_
  dsimp only [putL, setL, List.set_cons_zero, List.set_cons_succ, List.nil_append, List.cons_append]
  refine wk_ext (.int .i64 (wrongI (modW 1) (xsS ss))) rfl rfl rfl rfl rfl ?_
  dsimp only [putL, setL, List.set_cons_zero, List.set_cons_succ, List.nil_append, List.cons_append]
  refine wk_assign (.slice none 0 0) rfl rfl rfl rfl ?_
  dsimp only [putL, setL, List.set_cons_zero, List.set_cons_succ, List.nil_append, List.cons_append]
  refine wk_assign (.int .i64 (wrongI (modW 1) (xsS ss))) rfl rfl rfl rfl ?_
  dsimp only [putL, setL, List.set_cons_zero, List.set_cons_succ, List.nil_append, List.cons_append]
  refine wk_nil ?_
  refine sp_seq rfl ?_
  refine sp_region (π := [0, 1]) [] rfl rfl ?_
  refine wk_move (.int .i64 (wrongI (modW 1) (xsS ss))) rfl rfl rfl rfl ?_
  dsimp only [putL, setL, List.set_cons_zero, List.set_cons_succ, List.nil_append, List.cons_append]
  refine wk_iop (.bool true) rfl rfl rfl rfl rfl rfl (iop_neq_t hw0) ?_
  dsimp only [putL, setL, List.set_cons_zero, List.set_cons_succ, List.nil_append, List.cons_append]
  refine wk_nil ?_
  refine sp_true rfl rfl ?_
  refine sp_seq rfl ?_
  refine sp_region (π := [0, 1, 2]) [] rfl rfl ?_
  refine wk_move (.int .i64 (wrongI (modW 1) (xsS ss))) rfl rfl rfl rfl ?_
  dsimp only [putL, setL, List.set_cons_zero, List.set_cons_succ, List.nil_append, List.cons_append]
  refine wk_assign (.slice none 0 0) rfl rfl rfl rfl ?_
  dsimp only [putL, setL, List.set_cons_zero, List.set_cons_succ, List.nil_append, List.cons_append]
  refine wk_assign (.int .i64 (wrongI (modW 1) (xsS ss))) rfl rfl rfl rfl ?_
  dsimp only [putL, setL, List.set_cons_zero, List.set_cons_succ, List.nil_append, List.cons_append]
  refine wk_nil ?_
  refine sp_ret rfl ?_
  exact ret_tmps (v := .tuple #[.slice none 0 0, .int .i64 (wrongI (modW 1) (xsS ss))]) (fun w' => by kernel_rfl) fun w' hw => ⟨rfl, hw.below⟩

end Go.Proofs.Ytmecomgifmkkfaa
