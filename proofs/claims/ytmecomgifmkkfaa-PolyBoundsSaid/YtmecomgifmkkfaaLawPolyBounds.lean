/- PolyBounds. -/
import Derived.Test.YtmecomgifmkkfaaPolyI
import Derived.Test.YtmecomgifmkkfaaSymB
import Derived.Test.YtmecomgifmkkfaaFieldD
import Derived.Test.YtmecomgifmkkfaaRefB
import Derived.Test.YtmecomgifmkkfaaLimbM
import Derived.Test.YtmecomgifmkkfaaLimbG
import Derived.Test.YtmecomgifmkkfaaLimbB
import Derived.Test.YtmecomgifmkkfaaRows
import Derived.Test.YtmecomgifmkkfaaOpen
import Derived.Test.YtmecomgifmkkfaaFieldL
import Derived.ProofKit
import Derived.OpenShut
namespace Go.Proofs.Ytmecomgifmkkfaa
set_option linter.unusedVariables false
set_option linter.unusedSimpArgs false
open Go.ChangeShapes Go.WideShapes Go.ChangeAt Go.RowKit

set_option maxRecDepth 20000 in
set_option maxHeartbeats 2000000 in
theorem polyBounds_walk (q : Int) (x : Nat) (ov : Bool) (w_q : -9223372036854775808 ≤ q ∧ q ≤ 9223372036854775807) (w_x : x < W256) (w : World) :
    Calls Try.prog 23 #[.int .i64 q, numV x, .bool ov] w fun e w' => e = .returned (.bool true) ∧ Below w.heap.size w w' := by
  refine fn_calls (l0 := [(.int .i64 q), (numV x), (.bool ov), undef, undef, undef, undef, undef, undef, undef, undef, undef, undef, undef, undef, undef, undef, undef, undef, undef, undef, undef, undef, undef, undef, undef, undef, undef, undef, undef, undef, undef, undef, undef, undef, undef, undef, undef, undef, undef, undef, undef, undef, undef, undef, undef, undef, undef, undef, undef, undef, undef, undef, undef, undef, undef, undef, undef, undef, undef, undef, undef, undef, undef, undef, undef, undef, undef, undef, undef, undef, undef, undef, undef, undef, undef, undef, undef, undef, undef, undef, undef, undef, undef, undef, undef, undef, undef, undef, undef, undef, undef, undef, undef, undef, undef, undef, undef, undef, undef, undef, undef, undef, undef, undef, undef, undef, undef, undef, undef, undef, undef, undef, undef, undef, undef, undef, undef, undef, undef, undef, undef, undef, undef, undef]) Try.func23 rfl rfl [] (St.start w) ?_
  refine sp_seq rfl ?_
  refine sp_region (π := [0, 1]) [] rfl rfl ?_
  refine wkf_boxN x rfl rfl rfl fun β1 => ?_
  dsimp only [putL, setL, List.set_cons_zero, List.set_cons_succ, List.nil_append, List.cons_append]
  refine wk_assign (.bool false) rfl rfl rfl rfl ?_
  dsimp only [putL, setL, List.set_cons_zero, List.set_cons_succ, List.nil_append, List.cons_append]
  refine wk_nil ?_
  refine sp_seq rfl ?_
  refine sp_seq rfl ?_
  refine sp_region (π := [0, 1, 2, 3, 4, 5]) [] rfl rfl ?_
  refine wk_move (.int .i64 q) rfl rfl rfl rfl ?_
  dsimp only [putL, setL, List.set_cons_zero, List.set_cons_succ, List.nil_append, List.cons_append]
  by_cases hc2 : q < 0
  · skip
    refine wk_iop (.bool true) rfl rfl rfl rfl rfl rfl (iop_lss_t hc2) ?_
    dsimp only [putL, setL, List.set_cons_zero, List.set_cons_succ, List.nil_append, List.cons_append]
    refine wk_move (.bool true) rfl rfl rfl rfl ?_
    dsimp only [putL, setL, List.set_cons_zero, List.set_cons_succ, List.nil_append, List.cons_append]
    refine wk_skip rfl rfl (fun h => by cases h) ?_
    dsimp only [putL, setL, List.set_cons_zero, List.set_cons_succ, List.nil_append, List.cons_append]
    refine wk_skip rfl rfl (fun h => by cases h) ?_
    dsimp only [putL, setL, List.set_cons_zero, List.set_cons_succ, List.nil_append, List.cons_append]
    refine wk_pick true (.bool true) rfl rfl rfl rfl rfl ?_
    dsimp only [putL, setL, List.set_cons_zero, List.set_cons_succ, List.nil_append, List.cons_append]
    refine wk_nil ?_
    refine sp_true rfl rfl ?_
    refine sp_seq rfl ?_
    refine sp_region (π := [0]) [] rfl rfl ?_
    refine wk_assign (.bool true) rfl rfl rfl rfl ?_
    dsimp only [putL, setL, List.set_cons_zero, List.set_cons_succ, List.nil_append, List.cons_append]
    refine wk_nil ?_
    refine sp_ret rfl ?_
    exact ret_tmps (v := .bool true) (fun w' => by kernel_rfl) fun w' hw => ⟨rfl, hw.below⟩
  · skip
    refine wk_iop (.bool false) rfl rfl rfl rfl rfl rfl (iop_lss_f hc2) ?_
    dsimp only [putL, setL, List.set_cons_zero, List.set_cons_succ, List.nil_append, List.cons_append]
    refine wk_move (.bool false) rfl rfl rfl rfl ?_
    dsimp only [putL, setL, List.set_cons_zero, List.set_cons_succ, List.nil_append, List.cons_append]
    refine wk_move (.int .i64 q) rfl rfl rfl rfl ?_
    dsimp only [putL, setL, List.set_cons_zero, List.set_cons_succ, List.nil_append, List.cons_append]
    by_cases hc3 : 67 < q
    · skip
      refine wk_iop (.bool true) rfl rfl rfl rfl rfl rfl (iop_gtr_t hc3) ?_
      dsimp only [putL, setL, List.set_cons_zero, List.set_cons_succ, List.nil_append, List.cons_append]
      refine wk_pick false (.bool true) rfl rfl rfl rfl rfl ?_
      dsimp only [putL, setL, List.set_cons_zero, List.set_cons_succ, List.nil_append, List.cons_append]
      refine wk_nil ?_
      refine sp_true rfl rfl ?_
      refine sp_seq rfl ?_
      refine sp_region (π := [0]) [] rfl rfl ?_
      refine wk_assign (.bool true) rfl rfl rfl rfl ?_
      dsimp only [putL, setL, List.set_cons_zero, List.set_cons_succ, List.nil_append, List.cons_append]
      refine wk_nil ?_
      refine sp_ret rfl ?_
      exact ret_tmps (v := .bool true) (fun w' => by kernel_rfl) fun w' hw => ⟨rfl, hw.below⟩
    · skip
      refine wk_iop (.bool false) rfl rfl rfl rfl rfl rfl (iop_gtr_f hc3) ?_
      dsimp only [putL, setL, List.set_cons_zero, List.set_cons_succ, List.nil_append, List.cons_append]
      refine wk_pick false (.bool false) rfl rfl rfl rfl rfl ?_
      dsimp only [putL, setL, List.set_cons_zero, List.set_cons_succ, List.nil_append, List.cons_append]
      refine wk_nil ?_
      refine sp_false rfl rfl ?_
      refine sp_skip rfl ?_
      refine sp_seq rfl ?_
      refine sp_region (π := [0]) [] rfl rfl ?_
      refine wk_assign (.slice none 0 0) rfl rfl rfl rfl ?_
      dsimp only [putL, setL, List.set_cons_zero, List.set_cons_succ, List.nil_append, List.cons_append]
      refine wk_nil ?_
      refine sp_seq rfl ?_
      refine sp_seq rfl ?_
      refine sp_region (π := [0]) [] rfl rfl ?_
      refine wk_assign (.int .i64 0) rfl rfl rfl rfl ?_
      dsimp only [putL, setL, List.set_cons_zero, List.set_cons_succ, List.nil_append, List.cons_append]
      refine wk_nil ?_
      refine sp_block rfl ?_
      refine sp_loopg rfl (fun n l M => ∃ i : Nat, ∃ v : Value, ∃ S : Mem, ∃ d21 : Value, ∃ d22 : Value, ∃ d23 : Value, ∃ d24 : Value, ∃ d25 : Value, ∃ d26 : Value, ∃ d27 : Value, ∃ d28 : Value, ∃ d29 : Value, ∃ d30 : Value, ∃ d31 : Value, ∃ d32 : Value, ∃ d33 : Value, ∃ d34 : Value, l = [(.int .i64 q), (numV x), (.bool ov), undef, (.pointer (some ⟨β1, 0, none⟩)), undef, (.bool false), v, (.int .i64 (i : Int)), undef, undef, undef, undef, undef, undef, (.int .i64 q), (.bool false), (.bool false), (.int .i64 q), (.bool false), (.bool false), d21, d22, d23, d24, d25, d26, d27, d28, d29, d30, d31, d32, d33, d34, undef, undef, undef, undef, undef, undef, undef, undef, undef, undef, undef, undef, undef, undef, undef, undef, undef, undef, undef, undef, undef, undef, undef, undef, undef, undef, undef, undef, undef, undef, undef, undef, undef, undef, undef, undef, undef, undef, undef, undef, undef, undef, undef, undef, undef, undef, undef, undef, undef, undef, undef, undef, undef, undef, undef, undef, undef, undef, undef, undef, undef, undef, undef, undef, undef, undef, undef, undef, undef, undef, undef, undef, undef, undef, undef, undef, undef, undef, undef, undef, undef, undef, undef, undef, undef, undef, undef, undef, undef, undef] ∧ (β1, numO x) :: S = M ∧ ((i : Int) ≤ q) ∧ (OwnS 65 8 v i (shL (bS x i)) S) ∧ n = q.toNat - i) (q.toNat - 0) ?_ ?_
      · exact ⟨0, (.slice none 0 0), [], undef, undef, undef, undef, undef, undef, undef, undef, undef, undef, undef, undef, undef, undef, rfl, rfl, (by omega), (OwnS.nil _ _), rfl⟩
      · skip
        intro n l M
        refine exists_imp.2 fun i => ?_
        refine exists_imp.2 fun v => ?_
        refine exists_imp.2 fun S => ?_
        refine exists_imp.2 fun d21 => ?_
        refine exists_imp.2 fun d22 => ?_
        refine exists_imp.2 fun d23 => ?_
        refine exists_imp.2 fun d24 => ?_
        refine exists_imp.2 fun d25 => ?_
        refine exists_imp.2 fun d26 => ?_
        refine exists_imp.2 fun d27 => ?_
        refine exists_imp.2 fun d28 => ?_
        refine exists_imp.2 fun d29 => ?_
        refine exists_imp.2 fun d30 => ?_
        refine exists_imp.2 fun d31 => ?_
        refine exists_imp.2 fun d32 => ?_
        refine exists_imp.2 fun d33 => ?_
        refine exists_imp.2 fun d34 => ?_
        rintro ⟨rfl, rfl, hf0, hf1, rfl⟩
        refine sp_seq rfl ?_
        refine sp_seq rfl ?_
        refine sp_region (π := [0, 1, 2]) [] rfl rfl ?_
        refine wk_move (.int .i64 (i : Int)) rfl rfl rfl rfl ?_
        dsimp only [putL, setL, List.set_cons_zero, List.set_cons_succ, List.nil_append, List.cons_append]
        refine wk_move (.int .i64 q) rfl rfl rfl rfl ?_
        dsimp only [putL, setL, List.set_cons_zero, List.set_cons_succ, List.nil_append, List.cons_append]
        by_cases hc4 : (i : Int) < q
        · skip
          refine wk_iop (.bool true) rfl rfl rfl rfl rfl rfl (iop_lss_t hc4) ?_
          dsimp only [putL, setL, List.set_cons_zero, List.set_cons_succ, List.nil_append, List.cons_append]
          refine wk_nil ?_
          refine sp_true rfl rfl ?_
          refine sp_skip rfl ?_
          refine sp_seq rfl ?_
          refine sp_block rfl ?_
          refine sp_region (π := [0, 1, 2, 3, 4, 5, 6, 7, 8, 9]) [] rfl rfl ?_
          refine wk_move v rfl rfl rfl rfl ?_
          dsimp only [putL, setL, List.set_cons_zero, List.set_cons_succ, List.nil_append, List.cons_append]
          refine wk_move (.int .i64 (i : Int)) rfl rfl rfl rfl ?_
          dsimp only [putL, setL, List.set_cons_zero, List.set_cons_succ, List.nil_append, List.cons_append]
          refine wk_val (.int .u64 (IntKind.u64.wrap (i : Int))) rfl rfl rfl (fun w => by kernel_rfl) ?_
          dsimp only [putL, setL, List.set_cons_zero, List.set_cons_succ, List.nil_append, List.cons_append]
          refine wk_iop (.int .u64 ((i + 1 : Nat) : Int)) rfl rfl rfl rfl rfl rfl (iop_wrap_succ (by omega)) ?_
          dsimp only [putL, setL, List.set_cons_zero, List.set_cons_succ, List.nil_append, List.cons_append]
          refine wk_val (numV (i + 1)) rfl rfl rfl (fun w => by rw [← one_digit (show i + 1 < 18446744073709551616 by omega)]; kernel_rfl) ?_
          dsimp only [putL, setL, List.set_cons_zero, List.set_cons_succ, List.nil_append, List.cons_append]
          refine wk_ldN 0 rfl rfl rfl rfl rfl ?_
          dsimp only [putL, setL, List.set_cons_zero, List.set_cons_succ, List.nil_append, List.cons_append]
          refine wk_val (shV ((i + 1), x)) rfl rfl rfl (fun w => by kernel_rfl) ?_
          dsimp only [putL, setL, List.set_cons_zero, List.set_cons_succ, List.nil_append, List.cons_append]
          refine wkf_make (z := shsO [((i + 1), x)]) (mk := fun β => .slice (some ⟨β, 0, none⟩) 1 1) rfl rfl (fun w => by kernel_rfl) fun β5 => ?_
          dsimp only [putL, setL, List.set_cons_zero, List.set_cons_succ, List.nil_append, List.cons_append]
          refine wk_append (news := (shL [((i + 1), x)])) (F := [(β5, shsO [((i + 1), x)]), (β1, numO x)]) rfl rfl rfl rfl rfl Try.underlying63 shInfo shBytes shZero rfl (by decide) hf1 (List.perm_append_comm (l₁ := [(β5, shsO [((i + 1), x)]), (β1, numO x)]) (l₂ := S)) rfl (fun w' hst => shs_holds (List.mem_of_getElem? (i := 0) rfl) hst) (shL_one _) (by omega) (by omega) fun v6 S6 hO6 => ?_
          dsimp only [putL, setL, List.set_cons_zero, List.set_cons_succ, List.nil_append, List.cons_append]
          refine wk_assign v6 rfl rfl rfl rfl ?_
          dsimp only [putL, setL, List.set_cons_zero, List.set_cons_succ, List.nil_append, List.cons_append]
          refine wk_nil ?_
          refine sp_region (π := [0, 1, 2]) [] rfl rfl ?_
          refine wk_move (.int .i64 (i : Int)) rfl rfl rfl rfl ?_
          dsimp only [putL, setL, List.set_cons_zero, List.set_cons_succ, List.nil_append, List.cons_append]
          refine wk_iop (.int .i64 ((i : Int) + 1)) rfl rfl rfl rfl rfl rfl (iop_add (by omega) (by omega)) ?_
          dsimp only [putL, setL, List.set_cons_zero, List.set_cons_succ, List.nil_append, List.cons_append]
          refine wk_assign (.int .i64 ((i : Int) + 1)) rfl rfl rfl rfl ?_
          dsimp only [putL, setL, List.set_cons_zero, List.set_cons_succ, List.nil_append, List.cons_append]
          refine wk_nil ?_
          exact ⟨(β1, numO x) :: S6, _, by exact List.Sublist.cons _ <| List.Sublist.cons_cons _ <| List.Sublist.refl _, ⟨(i + 1), v6, S6, (.int .i64 (i : Int)), (.int .i64 q), (.bool true), (.int .i64 (i : Int)), (.int .i64 ((i : Int) + 1)), v, (.int .i64 (i : Int)), (.int .u64 (IntKind.u64.wrap (i : Int))), (.int .u64 ((i + 1 : Nat) : Int)), (numV (i + 1)), (numV x), (shV ((i + 1), x)), (.slice (some ⟨β5, 0, none⟩) 1 1), v6, rfl, rfl, (by omega), (by rw [bS_row]; exact hO6), rfl⟩, (by omega)⟩
        · skip
          refine wk_iop (.bool false) rfl rfl rfl rfl rfl rfl (iop_lss_f hc4) ?_
          dsimp only [putL, setL, List.set_cons_zero, List.set_cons_succ, List.nil_append, List.cons_append]
          refine wk_nil ?_
          refine sp_false rfl rfl ?_
          refine sp_exit rfl ?_
          refine sp_seq rfl ?_
          refine sp_region (π := [0, 1, 2, 3, 4, 5, 6, 7]) [] rfl rfl ?_
          refine wk_move v rfl rfl rfl rfl ?_
          dsimp only [putL, setL, List.set_cons_zero, List.set_cons_succ, List.nil_append, List.cons_append]
          have hi67 : i ≤ 67 := by omega
          obtain ⟨a7, cp7, hv7, hcp7, hsh7⟩ := hf1.reads
          subst hv7
          by_cases hbad : i = 0 ∨ 64 < i
          · skip
            refine wk_callW [(.slice a7 i cp7)] (.tuple #[(numV 0), (.int .i64 4)]) rfl rfl rfl (enters_of Try.func62 (by kernel_rfl) (by kernel_rfl)) rfl (fun M' w' hm hst => (conv_post (by rw [bS_bad x hbad]) (zero_no (bS x i) i _ _ (bS_len x i) (bS_bound w_x i (by omega)) (by omega) hcp7 (by rw [bS_bad x hbad]; decide) w' (hsh7.holds hst (fun p hp => hm p (by simp [hp])))))) ?_
            dsimp only [putL, setL, List.set_cons_zero, List.set_cons_succ, List.nil_append, List.cons_append]
            refine wk_move (.tuple #[(numV 0), (.int .i64 4)]) rfl rfl rfl rfl ?_
            dsimp only [putL, setL, List.set_cons_zero, List.set_cons_succ, List.nil_append, List.cons_append]
            refine wk_ext (numV 0) rfl rfl rfl rfl rfl ?_
            dsimp only [putL, setL, List.set_cons_zero, List.set_cons_succ, List.nil_append, List.cons_append]
            refine wk_ext (.int .i64 4) rfl rfl rfl rfl rfl ?_
            dsimp only [putL, setL, List.set_cons_zero, List.set_cons_succ, List.nil_append, List.cons_append]
            refine wkf_newN rfl rfl fun β8 => ?_
            dsimp only [putL, setL, List.set_cons_zero, List.set_cons_succ, List.nil_append, List.cons_append]
            refine wk_stN 0 0 rfl rfl rfl rfl rfl rfl ?_
            dsimp only [putL, setL, List.set_cons_zero, List.set_cons_succ, List.nil_append, List.cons_append]
            refine wk_assign (.int .i64 4) rfl rfl rfl rfl ?_
            dsimp only [putL, setL, List.set_cons_zero, List.set_cons_succ, List.nil_append, List.cons_append]
            refine wk_nil ?_
            refine sp_seq rfl ?_
            refine sp_region (π := [0, 1, 2, 3, 4, 5, 6]) [] rfl rfl ?_
            refine wk_move (.slice a7 i cp7) rfl rfl rfl rfl ?_
            dsimp only [putL, setL, List.set_cons_zero, List.set_cons_succ, List.nil_append, List.cons_append]
            refine wk_callW [(.slice a7 i cp7)] (.tuple #[(.slice none 0 0), (.int .i64 4)]) rfl rfl rfl (enters_of Try.func68 (by kernel_rfl) (by kernel_rfl)) rfl (fun M' w' hm hst => (conv_post (by rw [bS_bad x hbad]) (through_no (bS x i) i _ _ (bS_len x i) (bS_bound w_x i (by omega)) (by omega) (by rw [bS_bad x hbad]; decide) w' (hsh7.holds hst (fun p hp => hm p (by simp [hp])))))) ?_
            dsimp only [putL, setL, List.set_cons_zero, List.set_cons_succ, List.nil_append, List.cons_append]
            refine wk_move (.tuple #[(.slice none 0 0), (.int .i64 4)]) rfl rfl rfl rfl ?_
            dsimp only [putL, setL, List.set_cons_zero, List.set_cons_succ, List.nil_append, List.cons_append]
            refine wk_ext (.slice none 0 0) rfl rfl rfl rfl rfl ?_
            dsimp only [putL, setL, List.set_cons_zero, List.set_cons_succ, List.nil_append, List.cons_append]
            refine wk_ext (.int .i64 4) rfl rfl rfl rfl rfl ?_
            dsimp only [putL, setL, List.set_cons_zero, List.set_cons_succ, List.nil_append, List.cons_append]
            refine wk_assign (.slice none 0 0) rfl rfl rfl rfl ?_
            dsimp only [putL, setL, List.set_cons_zero, List.set_cons_succ, List.nil_append, List.cons_append]
            refine wk_assign (.int .i64 4) rfl rfl rfl rfl ?_
            dsimp only [putL, setL, List.set_cons_zero, List.set_cons_succ, List.nil_append, List.cons_append]
            refine wk_nil ?_
            refine sp_seq rfl ?_
            refine sp_seq rfl ?_
            refine sp_region (π := [0, 1, 2, 3, 4, 5]) [] rfl rfl ?_
            refine wk_move (.int .i64 q) rfl rfl rfl rfl ?_
            dsimp only [putL, setL, List.set_cons_zero, List.set_cons_succ, List.nil_append, List.cons_append]
            by_cases hc9 : q < 1
            · skip
              refine wk_iop (.bool true) rfl rfl rfl rfl rfl rfl (iop_lss_t hc9) ?_
              dsimp only [putL, setL, List.set_cons_zero, List.set_cons_succ, List.nil_append, List.cons_append]
              refine wk_move (.bool true) rfl rfl rfl rfl ?_
              dsimp only [putL, setL, List.set_cons_zero, List.set_cons_succ, List.nil_append, List.cons_append]
              refine wk_skip rfl rfl (fun h => by cases h) ?_
              dsimp only [putL, setL, List.set_cons_zero, List.set_cons_succ, List.nil_append, List.cons_append]
              refine wk_skip rfl rfl (fun h => by cases h) ?_
              dsimp only [putL, setL, List.set_cons_zero, List.set_cons_succ, List.nil_append, List.cons_append]
              refine wk_pick true (.bool true) rfl rfl rfl rfl rfl ?_
              dsimp only [putL, setL, List.set_cons_zero, List.set_cons_succ, List.nil_append, List.cons_append]
              refine wk_nil ?_
              refine sp_true rfl rfl ?_
              refine sp_seq rfl ?_
              refine sp_region (π := [0, 1, 2, 3, 4, 5, 6, 7, 8, 9, 10, 11, 12, 13, 14]) [] rfl rfl ?_
              refine wk_move (.int .i64 4) rfl rfl rfl rfl ?_
              dsimp only [putL, setL, List.set_cons_zero, List.set_cons_succ, List.nil_append, List.cons_append]
              refine wk_iop (.bool true) rfl rfl rfl rfl rfl rfl (iop_eql_t (by decide)) ?_
              dsimp only [putL, setL, List.set_cons_zero, List.set_cons_succ, List.nil_append, List.cons_append]
              refine wk_move (.bool true) rfl rfl rfl rfl ?_
              dsimp only [putL, setL, List.set_cons_zero, List.set_cons_succ, List.nil_append, List.cons_append]
              refine wk_move (.int .i64 4) rfl rfl rfl rfl ?_
              dsimp only [putL, setL, List.set_cons_zero, List.set_cons_succ, List.nil_append, List.cons_append]
              refine wk_iop (.bool true) rfl rfl rfl rfl rfl rfl (iop_eql_t (by decide)) ?_
              dsimp only [putL, setL, List.set_cons_zero, List.set_cons_succ, List.nil_append, List.cons_append]
              refine wk_pick true (.bool true) rfl rfl rfl rfl rfl ?_
              dsimp only [putL, setL, List.set_cons_zero, List.set_cons_succ, List.nil_append, List.cons_append]
              refine wk_move (.bool true) rfl rfl rfl rfl ?_
              dsimp only [putL, setL, List.set_cons_zero, List.set_cons_succ, List.nil_append, List.cons_append]
              refine wk_move (.slice none 0 0) rfl rfl rfl rfl ?_
              dsimp only [putL, setL, List.set_cons_zero, List.set_cons_succ, List.nil_append, List.cons_append]
              refine wk_lenA rfl rfl rfl rfl Try.underlying57 ?_
              dsimp only [putL, setL, List.set_cons_zero, List.set_cons_succ, List.nil_append, List.cons_append]
              refine wk_iop (.bool true) rfl rfl rfl rfl rfl rfl (iop_eql_t (by decide)) ?_
              dsimp only [putL, setL, List.set_cons_zero, List.set_cons_succ, List.nil_append, List.cons_append]
              refine wk_pick true (.bool true) rfl rfl rfl rfl rfl ?_
              dsimp only [putL, setL, List.set_cons_zero, List.set_cons_succ, List.nil_append, List.cons_append]
              refine wk_move (.bool true) rfl rfl rfl rfl ?_
              dsimp only [putL, setL, List.set_cons_zero, List.set_cons_succ, List.nil_append, List.cons_append]
              refine wk_call [] (.bool true) rfl rfl rfl (enters_of Try.func61 (by kernel_rfl) (by kernel_rfl)) rfl wakes6_calls ?_
              dsimp only [putL, setL, List.set_cons_zero, List.set_cons_succ, List.nil_append, List.cons_append]
              refine wk_pick true (.bool true) rfl rfl rfl rfl rfl ?_
              dsimp only [putL, setL, List.set_cons_zero, List.set_cons_succ, List.nil_append, List.cons_append]
              refine wk_assign (.bool true) rfl rfl rfl rfl ?_
              dsimp only [putL, setL, List.set_cons_zero, List.set_cons_succ, List.nil_append, List.cons_append]
              refine wk_nil ?_
              refine sp_ret rfl ?_
              exact ret_tmps (v := .bool true) (fun w' => by kernel_rfl) fun w' hw => ⟨rfl, hw.below⟩
            · skip
              refine wk_iop (.bool false) rfl rfl rfl rfl rfl rfl (iop_lss_f hc9) ?_
              dsimp only [putL, setL, List.set_cons_zero, List.set_cons_succ, List.nil_append, List.cons_append]
              refine wk_move (.bool false) rfl rfl rfl rfl ?_
              dsimp only [putL, setL, List.set_cons_zero, List.set_cons_succ, List.nil_append, List.cons_append]
              refine wk_move (.int .i64 q) rfl rfl rfl rfl ?_
              dsimp only [putL, setL, List.set_cons_zero, List.set_cons_succ, List.nil_append, List.cons_append]
              by_cases hc10 : 64 < q
              · skip
                refine wk_iop (.bool true) rfl rfl rfl rfl rfl rfl (iop_gtr_t hc10) ?_
                dsimp only [putL, setL, List.set_cons_zero, List.set_cons_succ, List.nil_append, List.cons_append]
                refine wk_pick false (.bool true) rfl rfl rfl rfl rfl ?_
                dsimp only [putL, setL, List.set_cons_zero, List.set_cons_succ, List.nil_append, List.cons_append]
                refine wk_nil ?_
                refine sp_true rfl rfl ?_
                refine sp_seq rfl ?_
                refine sp_region (π := [0, 1, 2, 3, 4, 5, 6, 7, 8, 9, 10, 11, 12, 13, 14]) [] rfl rfl ?_
                refine wk_move (.int .i64 4) rfl rfl rfl rfl ?_
                dsimp only [putL, setL, List.set_cons_zero, List.set_cons_succ, List.nil_append, List.cons_append]
                refine wk_iop (.bool true) rfl rfl rfl rfl rfl rfl (iop_eql_t (by decide)) ?_
                dsimp only [putL, setL, List.set_cons_zero, List.set_cons_succ, List.nil_append, List.cons_append]
                refine wk_move (.bool true) rfl rfl rfl rfl ?_
                dsimp only [putL, setL, List.set_cons_zero, List.set_cons_succ, List.nil_append, List.cons_append]
                refine wk_move (.int .i64 4) rfl rfl rfl rfl ?_
                dsimp only [putL, setL, List.set_cons_zero, List.set_cons_succ, List.nil_append, List.cons_append]
                refine wk_iop (.bool true) rfl rfl rfl rfl rfl rfl (iop_eql_t (by decide)) ?_
                dsimp only [putL, setL, List.set_cons_zero, List.set_cons_succ, List.nil_append, List.cons_append]
                refine wk_pick true (.bool true) rfl rfl rfl rfl rfl ?_
                dsimp only [putL, setL, List.set_cons_zero, List.set_cons_succ, List.nil_append, List.cons_append]
                refine wk_move (.bool true) rfl rfl rfl rfl ?_
                dsimp only [putL, setL, List.set_cons_zero, List.set_cons_succ, List.nil_append, List.cons_append]
                refine wk_move (.slice none 0 0) rfl rfl rfl rfl ?_
                dsimp only [putL, setL, List.set_cons_zero, List.set_cons_succ, List.nil_append, List.cons_append]
                refine wk_lenA rfl rfl rfl rfl Try.underlying57 ?_
                dsimp only [putL, setL, List.set_cons_zero, List.set_cons_succ, List.nil_append, List.cons_append]
                refine wk_iop (.bool true) rfl rfl rfl rfl rfl rfl (iop_eql_t (by decide)) ?_
                dsimp only [putL, setL, List.set_cons_zero, List.set_cons_succ, List.nil_append, List.cons_append]
                refine wk_pick true (.bool true) rfl rfl rfl rfl rfl ?_
                dsimp only [putL, setL, List.set_cons_zero, List.set_cons_succ, List.nil_append, List.cons_append]
                refine wk_move (.bool true) rfl rfl rfl rfl ?_
                dsimp only [putL, setL, List.set_cons_zero, List.set_cons_succ, List.nil_append, List.cons_append]
                refine wk_call [] (.bool true) rfl rfl rfl (enters_of Try.func61 (by kernel_rfl) (by kernel_rfl)) rfl wakes6_calls ?_
                dsimp only [putL, setL, List.set_cons_zero, List.set_cons_succ, List.nil_append, List.cons_append]
                refine wk_pick true (.bool true) rfl rfl rfl rfl rfl ?_
                dsimp only [putL, setL, List.set_cons_zero, List.set_cons_succ, List.nil_append, List.cons_append]
                refine wk_assign (.bool true) rfl rfl rfl rfl ?_
                dsimp only [putL, setL, List.set_cons_zero, List.set_cons_succ, List.nil_append, List.cons_append]
                refine wk_nil ?_
                refine sp_ret rfl ?_
                exact ret_tmps (v := .bool true) (fun w' => by kernel_rfl) fun w' hw => ⟨rfl, hw.below⟩
              · skip
                refine wk_iop (.bool false) rfl rfl rfl rfl rfl rfl (iop_gtr_f hc10) ?_
                dsimp only [putL, setL, List.set_cons_zero, List.set_cons_succ, List.nil_append, List.cons_append]
                refine wk_pick false (.bool false) rfl rfl rfl rfl rfl ?_
                dsimp only [putL, setL, List.set_cons_zero, List.set_cons_succ, List.nil_append, List.cons_append]
                refine wk_nil ?_
                refine sp_false rfl rfl ?_
                refine sp_skip rfl ?_
                refine sp_seq rfl ?_
                refine sp_seq rfl ?_
                refine sp_draw [0, 1, 2, 3, 4, 5, 6, 7, 8, 9, 10, 11, 12, 13, 14, 15, 16, 17, 18, 19] [] mixed rfl (by kernel_rfl) (by kernel_rfl) ?_
                refine wk_move (.int .i64 4) rfl rfl rfl rfl ?_
                dsimp only [putL, setL, List.set_cons_zero, List.set_cons_succ, List.nil_append, List.cons_append]
                refine wk_iop (.bool true) rfl rfl rfl rfl rfl rfl (iop_neq_t (by decide)) ?_
                dsimp only [putL, setL, List.set_cons_zero, List.set_cons_succ, List.nil_append, List.cons_append]
                refine wk_move (.bool true) rfl rfl rfl rfl ?_
                dsimp only [putL, setL, List.set_cons_zero, List.set_cons_succ, List.nil_append, List.cons_append]
                refine wk_skip rfl rfl (fun h => by cases h) ?_
                dsimp only [putL, setL, List.set_cons_zero, List.set_cons_succ, List.nil_append, List.cons_append]
                refine wk_skip rfl rfl (fun h => by cases h) ?_
                dsimp only [putL, setL, List.set_cons_zero, List.set_cons_succ, List.nil_append, List.cons_append]
                refine wk_pick true (.bool true) rfl rfl rfl rfl rfl ?_
                dsimp only [putL, setL, List.set_cons_zero, List.set_cons_succ, List.nil_append, List.cons_append]
                refine wk_move (.bool true) rfl rfl rfl rfl ?_
                dsimp only [putL, setL, List.set_cons_zero, List.set_cons_succ, List.nil_append, List.cons_append]
                refine wk_skip rfl rfl (fun h => by cases h) ?_
                dsimp only [putL, setL, List.set_cons_zero, List.set_cons_succ, List.nil_append, List.cons_append]
                refine wk_skip rfl rfl (fun h => by cases h) ?_
                dsimp only [putL, setL, List.set_cons_zero, List.set_cons_succ, List.nil_append, List.cons_append]
                refine wk_skip rfl rfl (fun h => by cases h) ?_
                dsimp only [putL, setL, List.set_cons_zero, List.set_cons_succ, List.nil_append, List.cons_append]
                refine wk_skip rfl rfl (fun h => by cases h) ?_
                dsimp only [putL, setL, List.set_cons_zero, List.set_cons_succ, List.nil_append, List.cons_append]
                refine wk_pick true (.bool true) rfl rfl rfl rfl rfl ?_
                dsimp only [putL, setL, List.set_cons_zero, List.set_cons_succ, List.nil_append, List.cons_append]
                refine wk_move (.bool true) rfl rfl rfl rfl ?_
                dsimp only [putL, setL, List.set_cons_zero, List.set_cons_succ, List.nil_append, List.cons_append]
                refine wk_skip rfl rfl (fun h => by cases h) ?_
                dsimp only [putL, setL, List.set_cons_zero, List.set_cons_succ, List.nil_append, List.cons_append]
                refine wk_skip rfl rfl (fun h => by cases h) ?_
                dsimp only [putL, setL, List.set_cons_zero, List.set_cons_succ, List.nil_append, List.cons_append]
                refine wk_skip rfl rfl (fun h => by cases h) ?_
                dsimp only [putL, setL, List.set_cons_zero, List.set_cons_succ, List.nil_append, List.cons_append]
                refine wk_skip rfl rfl (fun h => by cases h) ?_
                dsimp only [putL, setL, List.set_cons_zero, List.set_cons_succ, List.nil_append, List.cons_append]
                refine wk_skip rfl rfl (fun h => by cases h) ?_
                dsimp only [putL, setL, List.set_cons_zero, List.set_cons_succ, List.nil_append, List.cons_append]
                refine wk_skip rfl rfl (fun h => by cases h) ?_
                dsimp only [putL, setL, List.set_cons_zero, List.set_cons_succ, List.nil_append, List.cons_append]
                refine wk_pick true (.bool true) rfl rfl rfl rfl rfl ?_
                dsimp only [putL, setL, List.set_cons_zero, List.set_cons_succ, List.nil_append, List.cons_append]
                refine wk_nil ?_
                refine sp_true rfl rfl ?_
                refine sp_seq rfl ?_
                refine sp_region (π := [0]) [] rfl rfl ?_
                refine wk_assign (.bool false) rfl rfl rfl rfl ?_
                dsimp only [putL, setL, List.set_cons_zero, List.set_cons_succ, List.nil_append, List.cons_append]
                refine wk_nil ?_
                refine sp_ret rfl ?_
                exact False.elim (by omega)
          · skip
            refine wk_callW [(.slice a7 i cp7)] (.tuple #[(numV (x % modW 1)), (.int .i64 0)]) rfl rfl rfl (enters_of Try.func62 (by kernel_rfl) (by kernel_rfl)) rfl (fun M' w' hm hst => (conv_post (by rw [bS_zero x hbad]) (zero_ok (bS x i) i _ _ (bS_len x i) (bS_bound w_x i (by omega)) (by omega) hcp7 (bS_ok x hbad) w' (hsh7.holds hst (fun p hp => hm p (by simp [hp])))))) ?_
            dsimp only [putL, setL, List.set_cons_zero, List.set_cons_succ, List.nil_append, List.cons_append]
            refine wk_move (.tuple #[(numV (x % modW 1)), (.int .i64 0)]) rfl rfl rfl rfl ?_
            dsimp only [putL, setL, List.set_cons_zero, List.set_cons_succ, List.nil_append, List.cons_append]
            refine wk_ext (numV (x % modW 1)) rfl rfl rfl rfl rfl ?_
            dsimp only [putL, setL, List.set_cons_zero, List.set_cons_succ, List.nil_append, List.cons_append]
            refine wk_ext (.int .i64 0) rfl rfl rfl rfl rfl ?_
            dsimp only [putL, setL, List.set_cons_zero, List.set_cons_succ, List.nil_append, List.cons_append]
            refine wkf_newN rfl rfl fun β11 => ?_
            dsimp only [putL, setL, List.set_cons_zero, List.set_cons_succ, List.nil_append, List.cons_append]
            refine wk_stN 0 (x % modW 1) rfl rfl rfl rfl rfl rfl ?_
            dsimp only [putL, setL, List.set_cons_zero, List.set_cons_succ, List.nil_append, List.cons_append]
            refine wk_assign (.int .i64 0) rfl rfl rfl rfl ?_
            dsimp only [putL, setL, List.set_cons_zero, List.set_cons_succ, List.nil_append, List.cons_append]
            refine wk_nil ?_
            refine sp_seq rfl ?_
            refine sp_region (π := [0, 1, 2, 3, 4, 5, 6]) [] rfl rfl ?_
            refine wk_move (.slice a7 i cp7) rfl rfl rfl rfl ?_
            dsimp only [putL, setL, List.set_cons_zero, List.set_cons_succ, List.nil_append, List.cons_append]
            refine wk_callS (e := 24) (size := 4) (n := i) (cs := (rowL (thruL (modW 1) (bS x i)))) [(.slice a7 i cp7)] (fun v => .tuple #[v, .int .i64 0]) rfl rfl rfl (enters_of Try.func68 (by kernel_rfl) (by kernel_rfl)) rfl (bS_trow x hbad) (by simp only [maxLen]; omega) (fun M' w' hm hst => through_ok (bS x i) i _ _ (bS_len x i) (bS_bound w_x i (by omega)) (by omega) (bS_ok x hbad) w' (hsh7.holds hst (fun p hp => hm p (by simp [hp])))) fun v12 S12 hO12 => ?_
            dsimp only [putL, setL, List.set_cons_zero, List.set_cons_succ, List.nil_append, List.cons_append]
            try simp only [List.append_assoc]
            obtain ⟨a13, cp13, hv13, hcp13, hsh13⟩ := hO12.reads
            subst hv13
            refine wk_move (.tuple #[(.slice a13 i cp13), (.int .i64 0)]) rfl rfl rfl rfl ?_
            dsimp only [putL, setL, List.set_cons_zero, List.set_cons_succ, List.nil_append, List.cons_append]
            refine wk_ext (.slice a13 i cp13) rfl rfl rfl rfl rfl ?_
            dsimp only [putL, setL, List.set_cons_zero, List.set_cons_succ, List.nil_append, List.cons_append]
            refine wk_ext (.int .i64 0) rfl rfl rfl rfl rfl ?_
            dsimp only [putL, setL, List.set_cons_zero, List.set_cons_succ, List.nil_append, List.cons_append]
            refine wk_assign (.slice a13 i cp13) rfl rfl rfl rfl ?_
            dsimp only [putL, setL, List.set_cons_zero, List.set_cons_succ, List.nil_append, List.cons_append]
            refine wk_assign (.int .i64 0) rfl rfl rfl rfl ?_
            dsimp only [putL, setL, List.set_cons_zero, List.set_cons_succ, List.nil_append, List.cons_append]
            refine wk_nil ?_
            refine sp_seq rfl ?_
            refine sp_seq rfl ?_
            refine sp_region (π := [0, 1, 2, 3, 4, 5]) [] rfl rfl ?_
            refine wk_move (.int .i64 q) rfl rfl rfl rfl ?_
            dsimp only [putL, setL, List.set_cons_zero, List.set_cons_succ, List.nil_append, List.cons_append]
            by_cases hc14 : q < 1
            · skip
              refine wk_iop (.bool true) rfl rfl rfl rfl rfl rfl (iop_lss_t hc14) ?_
              dsimp only [putL, setL, List.set_cons_zero, List.set_cons_succ, List.nil_append, List.cons_append]
              refine wk_move (.bool true) rfl rfl rfl rfl ?_
              dsimp only [putL, setL, List.set_cons_zero, List.set_cons_succ, List.nil_append, List.cons_append]
              refine wk_skip rfl rfl (fun h => by cases h) ?_
              dsimp only [putL, setL, List.set_cons_zero, List.set_cons_succ, List.nil_append, List.cons_append]
              refine wk_skip rfl rfl (fun h => by cases h) ?_
              dsimp only [putL, setL, List.set_cons_zero, List.set_cons_succ, List.nil_append, List.cons_append]
              refine wk_pick true (.bool true) rfl rfl rfl rfl rfl ?_
              dsimp only [putL, setL, List.set_cons_zero, List.set_cons_succ, List.nil_append, List.cons_append]
              refine wk_nil ?_
              refine sp_true rfl rfl ?_
              refine sp_seq rfl ?_
              refine sp_region (π := [0, 1, 2, 3, 4, 5, 6, 7, 8, 9, 10, 11, 12, 13, 14]) [] rfl rfl ?_
              refine wk_move (.int .i64 0) rfl rfl rfl rfl ?_
              dsimp only [putL, setL, List.set_cons_zero, List.set_cons_succ, List.nil_append, List.cons_append]
              refine wk_iop (.bool false) rfl rfl rfl rfl rfl rfl (iop_eql_f (by decide)) ?_
              dsimp only [putL, setL, List.set_cons_zero, List.set_cons_succ, List.nil_append, List.cons_append]
              refine wk_move (.bool false) rfl rfl rfl rfl ?_
              dsimp only [putL, setL, List.set_cons_zero, List.set_cons_succ, List.nil_append, List.cons_append]
              refine wk_skip rfl rfl (fun h => by cases h) ?_
              dsimp only [putL, setL, List.set_cons_zero, List.set_cons_succ, List.nil_append, List.cons_append]
              refine wk_skip rfl rfl (fun h => by cases h) ?_
              dsimp only [putL, setL, List.set_cons_zero, List.set_cons_succ, List.nil_append, List.cons_append]
              refine wk_pick false (.bool false) rfl rfl rfl rfl rfl ?_
              dsimp only [putL, setL, List.set_cons_zero, List.set_cons_succ, List.nil_append, List.cons_append]
              refine wk_move (.bool false) rfl rfl rfl rfl ?_
              dsimp only [putL, setL, List.set_cons_zero, List.set_cons_succ, List.nil_append, List.cons_append]
              refine wk_skip rfl rfl (fun h => by cases h) ?_
              dsimp only [putL, setL, List.set_cons_zero, List.set_cons_succ, List.nil_append, List.cons_append]
              refine wk_skip rfl rfl (fun h => by cases h) ?_
              dsimp only [putL, setL, List.set_cons_zero, List.set_cons_succ, List.nil_append, List.cons_append]
              refine wk_skip rfl rfl (fun h => by cases h) ?_
              dsimp only [putL, setL, List.set_cons_zero, List.set_cons_succ, List.nil_append, List.cons_append]
              refine wk_pick false (.bool false) rfl rfl rfl rfl rfl ?_
              dsimp only [putL, setL, List.set_cons_zero, List.set_cons_succ, List.nil_append, List.cons_append]
              refine wk_move (.bool false) rfl rfl rfl rfl ?_
              dsimp only [putL, setL, List.set_cons_zero, List.set_cons_succ, List.nil_append, List.cons_append]
              refine wk_skip rfl rfl (fun h => by cases h) ?_
              dsimp only [putL, setL, List.set_cons_zero, List.set_cons_succ, List.nil_append, List.cons_append]
              refine wk_pick false (.bool false) rfl rfl rfl rfl rfl ?_
              dsimp only [putL, setL, List.set_cons_zero, List.set_cons_succ, List.nil_append, List.cons_append]
              refine wk_assign (.bool false) rfl rfl rfl rfl ?_
              dsimp only [putL, setL, List.set_cons_zero, List.set_cons_succ, List.nil_append, List.cons_append]
              refine wk_nil ?_
              refine sp_ret rfl ?_
              exact False.elim (by omega)
            · skip
              refine wk_iop (.bool false) rfl rfl rfl rfl rfl rfl (iop_lss_f hc14) ?_
              dsimp only [putL, setL, List.set_cons_zero, List.set_cons_succ, List.nil_append, List.cons_append]
              refine wk_move (.bool false) rfl rfl rfl rfl ?_
              dsimp only [putL, setL, List.set_cons_zero, List.set_cons_succ, List.nil_append, List.cons_append]
              refine wk_move (.int .i64 q) rfl rfl rfl rfl ?_
              dsimp only [putL, setL, List.set_cons_zero, List.set_cons_succ, List.nil_append, List.cons_append]
              by_cases hc15 : 64 < q
              · skip
                refine wk_iop (.bool true) rfl rfl rfl rfl rfl rfl (iop_gtr_t hc15) ?_
                dsimp only [putL, setL, List.set_cons_zero, List.set_cons_succ, List.nil_append, List.cons_append]
                refine wk_pick false (.bool true) rfl rfl rfl rfl rfl ?_
                dsimp only [putL, setL, List.set_cons_zero, List.set_cons_succ, List.nil_append, List.cons_append]
                refine wk_nil ?_
                refine sp_true rfl rfl ?_
                refine sp_seq rfl ?_
                refine sp_region (π := [0, 1, 2, 3, 4, 5, 6, 7, 8, 9, 10, 11, 12, 13, 14]) [] rfl rfl ?_
                refine wk_move (.int .i64 0) rfl rfl rfl rfl ?_
                dsimp only [putL, setL, List.set_cons_zero, List.set_cons_succ, List.nil_append, List.cons_append]
                refine wk_iop (.bool false) rfl rfl rfl rfl rfl rfl (iop_eql_f (by decide)) ?_
                dsimp only [putL, setL, List.set_cons_zero, List.set_cons_succ, List.nil_append, List.cons_append]
                refine wk_move (.bool false) rfl rfl rfl rfl ?_
                dsimp only [putL, setL, List.set_cons_zero, List.set_cons_succ, List.nil_append, List.cons_append]
                refine wk_skip rfl rfl (fun h => by cases h) ?_
                dsimp only [putL, setL, List.set_cons_zero, List.set_cons_succ, List.nil_append, List.cons_append]
                refine wk_skip rfl rfl (fun h => by cases h) ?_
                dsimp only [putL, setL, List.set_cons_zero, List.set_cons_succ, List.nil_append, List.cons_append]
                refine wk_pick false (.bool false) rfl rfl rfl rfl rfl ?_
                dsimp only [putL, setL, List.set_cons_zero, List.set_cons_succ, List.nil_append, List.cons_append]
                refine wk_move (.bool false) rfl rfl rfl rfl ?_
                dsimp only [putL, setL, List.set_cons_zero, List.set_cons_succ, List.nil_append, List.cons_append]
                refine wk_skip rfl rfl (fun h => by cases h) ?_
                dsimp only [putL, setL, List.set_cons_zero, List.set_cons_succ, List.nil_append, List.cons_append]
                refine wk_skip rfl rfl (fun h => by cases h) ?_
                dsimp only [putL, setL, List.set_cons_zero, List.set_cons_succ, List.nil_append, List.cons_append]
                refine wk_skip rfl rfl (fun h => by cases h) ?_
                dsimp only [putL, setL, List.set_cons_zero, List.set_cons_succ, List.nil_append, List.cons_append]
                refine wk_pick false (.bool false) rfl rfl rfl rfl rfl ?_
                dsimp only [putL, setL, List.set_cons_zero, List.set_cons_succ, List.nil_append, List.cons_append]
                refine wk_move (.bool false) rfl rfl rfl rfl ?_
                dsimp only [putL, setL, List.set_cons_zero, List.set_cons_succ, List.nil_append, List.cons_append]
                refine wk_skip rfl rfl (fun h => by cases h) ?_
                dsimp only [putL, setL, List.set_cons_zero, List.set_cons_succ, List.nil_append, List.cons_append]
                refine wk_pick false (.bool false) rfl rfl rfl rfl rfl ?_
                dsimp only [putL, setL, List.set_cons_zero, List.set_cons_succ, List.nil_append, List.cons_append]
                refine wk_assign (.bool false) rfl rfl rfl rfl ?_
                dsimp only [putL, setL, List.set_cons_zero, List.set_cons_succ, List.nil_append, List.cons_append]
                refine wk_nil ?_
                refine sp_ret rfl ?_
                exact False.elim (by omega)
              · skip
                refine wk_iop (.bool false) rfl rfl rfl rfl rfl rfl (iop_gtr_f hc15) ?_
                dsimp only [putL, setL, List.set_cons_zero, List.set_cons_succ, List.nil_append, List.cons_append]
                refine wk_pick false (.bool false) rfl rfl rfl rfl rfl ?_
                dsimp only [putL, setL, List.set_cons_zero, List.set_cons_succ, List.nil_append, List.cons_append]
                refine wk_nil ?_
                refine sp_false rfl rfl ?_
                refine sp_skip rfl ?_
                refine sp_seq rfl ?_
                refine sp_seq rfl ?_
                refine sp_draw [0, 1, 2, 3, 4, 5, 6, 7, 8, 9, 10, 11, 12, 13, 14, 15, 16, 17, 18, 19] [] mixed rfl (by kernel_rfl) (by kernel_rfl) ?_
                refine wk_move (.int .i64 0) rfl rfl rfl rfl ?_
                dsimp only [putL, setL, List.set_cons_zero, List.set_cons_succ, List.nil_append, List.cons_append]
                refine wk_iop (.bool false) rfl rfl rfl rfl rfl rfl (iop_neq_f (by decide)) ?_
                dsimp only [putL, setL, List.set_cons_zero, List.set_cons_succ, List.nil_append, List.cons_append]
                refine wk_move (.bool false) rfl rfl rfl rfl ?_
                dsimp only [putL, setL, List.set_cons_zero, List.set_cons_succ, List.nil_append, List.cons_append]
                refine wk_move (.int .i64 0) rfl rfl rfl rfl ?_
                dsimp only [putL, setL, List.set_cons_zero, List.set_cons_succ, List.nil_append, List.cons_append]
                refine wk_iop (.bool false) rfl rfl rfl rfl rfl rfl (iop_neq_f (by decide)) ?_
                dsimp only [putL, setL, List.set_cons_zero, List.set_cons_succ, List.nil_append, List.cons_append]
                refine wk_pick false (.bool false) rfl rfl rfl rfl rfl ?_
                dsimp only [putL, setL, List.set_cons_zero, List.set_cons_succ, List.nil_append, List.cons_append]
                refine wk_move (.bool false) rfl rfl rfl rfl ?_
                dsimp only [putL, setL, List.set_cons_zero, List.set_cons_succ, List.nil_append, List.cons_append]
                refine wk_move (.slice a13 i cp13) rfl rfl rfl rfl ?_
                dsimp only [putL, setL, List.set_cons_zero, List.set_cons_succ, List.nil_append, List.cons_append]
                refine wk_lenA rfl rfl rfl rfl Try.underlying57 ?_
                dsimp only [putL, setL, List.set_cons_zero, List.set_cons_succ, List.nil_append, List.cons_append]
                refine wk_move (.int .i64 q) rfl rfl rfl rfl ?_
                dsimp only [putL, setL, List.set_cons_zero, List.set_cons_succ, List.nil_append, List.cons_append]
                refine wk_iop (.bool false) rfl rfl rfl rfl rfl rfl (iop_neq_f (by omega)) ?_
                dsimp only [putL, setL, List.set_cons_zero, List.set_cons_succ, List.nil_append, List.cons_append]
                refine wk_pick false (.bool false) rfl rfl rfl rfl rfl ?_
                dsimp only [putL, setL, List.set_cons_zero, List.set_cons_succ, List.nil_append, List.cons_append]
                refine wk_move (.bool false) rfl rfl rfl rfl ?_
                dsimp only [putL, setL, List.set_cons_zero, List.set_cons_succ, List.nil_append, List.cons_append]
                refine wk_move (.slice a13 i cp13) rfl rfl rfl rfl ?_
                dsimp only [putL, setL, List.set_cons_zero, List.set_cons_succ, List.nil_append, List.cons_append]
                obtain ⟨β16, ha16, hr16⟩ := hsh13.at_ (rowL_ne (k := 0) (by have h0 := (bS_tint x hbad); omega))
                refine wk_idxA 0 4 rfl rfl rfl rfl ha16 rfl Try.underlying57 (by kernel_rfl) rfl (by omega) ?_
                dsimp only [putL, setL, List.set_cons_zero, List.set_cons_succ, List.nil_append, List.cons_append]
                refine wk_ldA rfl rfl rfl rfl (fun M' w' hm hst => hr16 w' (fun p hp => hst.own p (hm p (by simp [hp])))) (by have h0 := (bS_tint x hbad); omega) ?_
                dsimp only [putL, setL, List.set_cons_zero, List.set_cons_succ, List.nil_append, List.cons_append]
                refine wk_ldN 1 rfl rfl rfl rfl rfl ?_
                dsimp only [putL, setL, List.set_cons_zero, List.set_cons_succ, List.nil_append, List.cons_append]
                refine wk_call [(.int .i64 1), (numV x)] (numV (x % modW 1)) rfl rfl rfl (enters_of Try.func45 (by kernel_rfl) (by kernel_rfl)) rfl (red_ok 1 x ok1 w_x) ?_
                dsimp only [putL, setL, List.set_cons_zero, List.set_cons_succ, List.nil_append, List.cons_append]
                refine wk_neN false rfl rfl rfl rfl rfl (ix_lt (bS_tlt x hbad)) (Nat.lt_trans (Nat.mod_lt _ (modW_pos ok1)) (modW_lt 1)) (decide_eq_true (bS_c0 x hbad)) ?_
                dsimp only [putL, setL, List.set_cons_zero, List.set_cons_succ, List.nil_append, List.cons_append]
                refine wk_pick false (.bool false) rfl rfl rfl rfl rfl ?_
                dsimp only [putL, setL, List.set_cons_zero, List.set_cons_succ, List.nil_append, List.cons_append]
                refine wk_nil ?_
                refine sp_false rfl rfl ?_
                refine sp_skip rfl ?_
                refine sp_seq rfl ?_
                refine sp_seq rfl ?_
                refine sp_region (π := [0]) [] rfl rfl ?_
                refine wk_assign (.int .i64 1) rfl rfl rfl rfl ?_
                dsimp only [putL, setL, List.set_cons_zero, List.set_cons_succ, List.nil_append, List.cons_append]
                refine wk_nil ?_
                refine sp_block rfl ?_
                refine sp_loopg rfl (fun n l M => ∃ k : Nat, ∃ d6 : Value, ∃ d85 : Value, ∃ d86 : Value, ∃ d87 : Value, ∃ d88 : Value, ∃ d89 : Value, ∃ d90 : Value, ∃ d91 : Value, ∃ d92 : Value, ∃ d93 : Value, ∃ d94 : Value, ∃ d95 : Value, l = [(.int .i64 q), (numV x), (.bool ov), undef, (.pointer (some ⟨β1, 0, none⟩)), undef, d6, (.slice a7 i cp7), (.int .i64 (i : Int)), (.pointer (some ⟨β11, 0, none⟩)), (.int .i64 0), (.slice a13 i cp13), (.int .i64 0), (.int .i64 (k : Int)), undef, (.int .i64 q), (.bool false), (.bool false), (.int .i64 q), (.bool false), (.bool false), (.int .i64 (i : Int)), (.int .i64 q), (.bool false), d24, d25, d26, d27, d28, d29, d30, d31, d32, d33, d34, (.tuple #[(numV (x % modW 1)), (.int .i64 0)]), (.slice a7 i cp7), (.tuple #[(numV (x % modW 1)), (.int .i64 0)]), (numV (x % modW 1)), (.int .i64 0), (.tuple #[(.slice a13 i cp13), (.int .i64 0)]), (.slice a7 i cp7), (.tuple #[(.slice a13 i cp13), (.int .i64 0)]), (.slice a13 i cp13), (.int .i64 0), (.int .i64 q), (.bool false), (.bool false), (.int .i64 q), (.bool false), (.bool false), undef, undef, undef, undef, undef, undef, undef, undef, undef, undef, undef, undef, undef, undef, (.int .i64 0), (.bool false), (.bool false), (.int .i64 0), (.bool false), (.bool false), (.bool false), (.slice a13 i cp13), (.int .i64 ((i : Nat) : Int)), (.int .i64 q), (.bool false), (.bool false), (.bool false), (.slice a13 i cp13), (.pointer (some ⟨β16, 0 + 0 * 4, none⟩)), (numV (ix (thruL (modW 1) (bS x i)) 0)), (numV x), (numV (x % modW 1)), (.bool false), (.bool false), d85, d86, d87, d88, d89, d90, d91, d92, d93, d94, d95, undef, undef, undef, undef, undef, undef, undef, undef, undef, undef, undef, undef, undef, undef, undef, undef, undef, undef, undef, undef, undef, undef, undef, undef, undef, undef, undef, undef, undef] ∧ (β11, numO (x % modW 1)) :: (β1, numO x) :: (S ++ S12) = M ∧ (1 ≤ k) ∧ ((k : Int) ≤ q) ∧ n = q.toNat - k) (q.toNat - 1) ?_ ?_
                · exact ⟨1, (.bool false), undef, undef, undef, undef, undef, undef, undef, undef, undef, undef, undef, rfl, rfl, (by omega), (by omega), rfl⟩
                · skip
                  intro n l M
                  refine exists_imp.2 fun k => ?_
                  refine exists_imp.2 fun d6 => ?_
                  refine exists_imp.2 fun d85 => ?_
                  refine exists_imp.2 fun d86 => ?_
                  refine exists_imp.2 fun d87 => ?_
                  refine exists_imp.2 fun d88 => ?_
                  refine exists_imp.2 fun d89 => ?_
                  refine exists_imp.2 fun d90 => ?_
                  refine exists_imp.2 fun d91 => ?_
                  refine exists_imp.2 fun d92 => ?_
                  refine exists_imp.2 fun d93 => ?_
                  refine exists_imp.2 fun d94 => ?_
                  refine exists_imp.2 fun d95 => ?_
                  rintro ⟨rfl, rfl, hg0, hg1, rfl⟩
                  refine sp_seq rfl ?_
                  refine sp_seq rfl ?_
                  refine sp_region (π := [0, 1, 2]) [] rfl rfl ?_
                  refine wk_move (.int .i64 (k : Int)) rfl rfl rfl rfl ?_
                  dsimp only [putL, setL, List.set_cons_zero, List.set_cons_succ, List.nil_append, List.cons_append]
                  refine wk_move (.int .i64 q) rfl rfl rfl rfl ?_
                  dsimp only [putL, setL, List.set_cons_zero, List.set_cons_succ, List.nil_append, List.cons_append]
                  by_cases hc17 : (k : Int) < q
                  · skip
                    refine wk_iop (.bool true) rfl rfl rfl rfl rfl rfl (iop_lss_t hc17) ?_
                    dsimp only [putL, setL, List.set_cons_zero, List.set_cons_succ, List.nil_append, List.cons_append]
                    refine wk_nil ?_
                    refine sp_true rfl rfl ?_
                    refine sp_skip rfl ?_
                    refine sp_seq rfl ?_
                    refine sp_block rfl ?_
                    refine sp_seq rfl ?_
                    refine sp_region (π := [0, 1, 2, 3, 4, 5]) [] rfl rfl ?_
                    refine wk_move (.slice a13 i cp13) rfl rfl rfl rfl ?_
                    dsimp only [putL, setL, List.set_cons_zero, List.set_cons_succ, List.nil_append, List.cons_append]
                    refine wk_move (.int .i64 (k : Int)) rfl rfl rfl rfl ?_
                    dsimp only [putL, setL, List.set_cons_zero, List.set_cons_succ, List.nil_append, List.cons_append]
                    refine wk_idxA k 4 rfl rfl rfl rfl ha16 rfl Try.underlying57 (by kernel_rfl) rfl (by omega) ?_
                    dsimp only [putL, setL, List.set_cons_zero, List.set_cons_succ, List.nil_append, List.cons_append]
                    refine wk_ldA rfl rfl rfl rfl (fun M' w' hm hst => hr16 w' (fun p hp => hst.own p (hm p (by simp [hp])))) (by have h0 := (bS_tint x hbad); omega) ?_
                    dsimp only [putL, setL, List.set_cons_zero, List.set_cons_succ, List.nil_append, List.cons_append]
                    refine wk_val (numV 0) rfl rfl rfl (fun w => by kernel_rfl) ?_
                    dsimp only [putL, setL, List.set_cons_zero, List.set_cons_succ, List.nil_append, List.cons_append]
                    refine wk_neN false rfl rfl rfl rfl rfl (ix_lt (bS_tlt x hbad)) (by decide) (decide_eq_true (bS_ck x hbad (by omega))) ?_
                    dsimp only [putL, setL, List.set_cons_zero, List.set_cons_succ, List.nil_append, List.cons_append]
                    refine wk_nil ?_
                    refine sp_false rfl rfl ?_
                    refine sp_skip rfl ?_
                    refine sp_region (π := [0, 1, 2]) [] rfl rfl ?_
                    refine wk_move (.int .i64 (k : Int)) rfl rfl rfl rfl ?_
                    dsimp only [putL, setL, List.set_cons_zero, List.set_cons_succ, List.nil_append, List.cons_append]
                    refine wk_iop (.int .i64 ((k : Int) + 1)) rfl rfl rfl rfl rfl rfl (iop_add (by omega) (by omega)) ?_
                    dsimp only [putL, setL, List.set_cons_zero, List.set_cons_succ, List.nil_append, List.cons_append]
                    refine wk_assign (.int .i64 ((k : Int) + 1)) rfl rfl rfl rfl ?_
                    dsimp only [putL, setL, List.set_cons_zero, List.set_cons_succ, List.nil_append, List.cons_append]
                    refine wk_nil ?_
                    exact ⟨(β11, numO (x % modW 1)) :: (β1, numO x) :: (S ++ S12), _, List.Sublist.refl _, ⟨(k + 1), d6, (.int .i64 (k : Int)), (.int .i64 q), (.bool true), (.int .i64 (k : Int)), (.int .i64 ((k : Int) + 1)), (.slice a13 i cp13), (.int .i64 (k : Int)), (.pointer (some ⟨β16, 0 + k * 4, none⟩)), (numV (ix (thruL (modW 1) (bS x i)) k)), (numV 0), (.bool false), rfl, rfl, (by omega), (by omega), rfl⟩, (by omega)⟩
                  · skip
                    refine wk_iop (.bool false) rfl rfl rfl rfl rfl rfl (iop_lss_f hc17) ?_
                    dsimp only [putL, setL, List.set_cons_zero, List.set_cons_succ, List.nil_append, List.cons_append]
                    refine wk_nil ?_
                    refine sp_false rfl rfl ?_
                    refine sp_exit rfl ?_
                    refine sp_seq rfl ?_
                    refine sp_seq rfl ?_
                    refine sp_region (π := [0, 1]) [] rfl rfl ?_
                    refine wk_move (.int .i64 q) rfl rfl rfl rfl ?_
                    dsimp only [putL, setL, List.set_cons_zero, List.set_cons_succ, List.nil_append, List.cons_append]
                    by_cases hc18 : q = 64
                    · skip
                      refine wk_iop (.bool true) rfl rfl rfl rfl rfl rfl (iop_eql_t hc18) ?_
                      dsimp only [putL, setL, List.set_cons_zero, List.set_cons_succ, List.nil_append, List.cons_append]
                      refine wk_nil ?_
                      refine sp_true rfl rfl ?_
                      refine sp_seq rfl ?_
                      refine sp_region (π := [0, 1]) [] rfl rfl ?_
                      refine wk_call [] (.bool true) rfl rfl rfl (enters_of Try.func61 (by kernel_rfl) (by kernel_rfl)) rfl wakes6_calls ?_
                      dsimp only [putL, setL, List.set_cons_zero, List.set_cons_succ, List.nil_append, List.cons_append]
                      refine wk_assign (.bool true) rfl rfl rfl rfl ?_
                      dsimp only [putL, setL, List.set_cons_zero, List.set_cons_succ, List.nil_append, List.cons_append]
                      refine wk_nil ?_
                      refine sp_ret rfl ?_
                      exact ret_tmps (v := .bool true) (fun w' => by kernel_rfl) fun w' hw => ⟨rfl, hw.below⟩
                    · skip
                      refine wk_iop (.bool false) rfl rfl rfl rfl rfl rfl (iop_eql_f hc18) ?_
                      dsimp only [putL, setL, List.set_cons_zero, List.set_cons_succ, List.nil_append, List.cons_append]
                      refine wk_nil ?_
                      refine sp_false rfl rfl ?_
                      refine sp_skip rfl ?_
                      refine sp_seq rfl ?_
                      refine sp_region (π := [0, 1, 2, 3, 4]) [] rfl rfl ?_
                      refine wk_move (.slice a7 i cp7) rfl rfl rfl rfl ?_
                      dsimp only [putL, setL, List.set_cons_zero, List.set_cons_succ, List.nil_append, List.cons_append]
                      obtain ⟨β19, ha19, hr19⟩ := hsh7.at_ (shL_ne (k := 0) (by have h0 := (bS_len x i); omega))
                      refine wk_idxA 0 8 rfl rfl rfl rfl ha19 rfl Try.underlying63 (by kernel_rfl) rfl (by omega) ?_
                      dsimp only [putL, setL, List.set_cons_zero, List.set_cons_succ, List.nil_append, List.cons_append]
                      refine wk_ldSA rfl rfl rfl rfl (fun M' w' hm hst => hr19 w' (fun p hp => hst.own p (hm p (by simp [hp])))) (by have h0 := (bS_len x i); omega) ?_
                      dsimp only [putL, setL, List.set_cons_zero, List.set_cons_succ, List.nil_append, List.cons_append]
                      refine wkf_newS rfl rfl fun β20 => ?_
                      dsimp only [putL, setL, List.set_cons_zero, List.set_cons_succ, List.nil_append, List.cons_append]
                      refine wk_stS 0 (sx (bS x i) 0) rfl rfl rfl rfl rfl rfl ?_
                      dsimp only [putL, setL, List.set_cons_zero, List.set_cons_succ, List.nil_append, List.cons_append]
                      refine wk_nil ?_
                      refine sp_seq rfl ?_
                      refine sp_seq rfl ?_
                      refine sp_region (π := [0]) [] rfl rfl ?_
                      refine wk_move (.bool ov) rfl rfl rfl rfl ?_
                      dsimp only [putL, setL, List.set_cons_zero, List.set_cons_succ, List.nil_append, List.cons_append]
                      refine wk_nil ?_
                      cases hc21 : ov
                      · skip
                        refine sp_false rfl (by first | rfl | (rw [hc21]; rfl)) ?_
                        refine sp_skip rfl ?_
                        refine sp_seq rfl ?_
                        refine sp_region (π := [0, 1, 2, 3, 4]) [] rfl rfl ?_
                        refine wk_move (.slice a7 i cp7) rfl rfl rfl rfl ?_
                        dsimp only [putL, setL, List.set_cons_zero, List.set_cons_succ, List.nil_append, List.cons_append]
                        refine wk_ldS 0 rfl rfl rfl rfl rfl ?_
                        dsimp only [putL, setL, List.set_cons_zero, List.set_cons_succ, List.nil_append, List.cons_append]
                        refine wkf_make (z := shsO [(sx (bS x i) 0)]) (mk := fun β => .slice (some ⟨β, 0, none⟩) 1 1) rfl rfl (fun w => by kernel_rfl) fun β22 => ?_
                        dsimp only [putL, setL, List.set_cons_zero, List.set_cons_succ, List.nil_append, List.cons_append]
                        refine wk_append (news := (shL [(sx (bS x i) 0)])) (F := ([(β22, shsO [(sx (bS x i) 0)]), (β20, shO (sx (bS x i) 0)), (β11, numO (x % modW 1)), (β1, numO x)] ++ S12)) rfl rfl rfl rfl rfl Try.underlying63 shInfo shBytes shZero rfl (by decide) hf1 (perm_mid ([(β22, shsO [(sx (bS x i) 0)]), (β20, shO (sx (bS x i) 0)), (β11, numO (x % modW 1)), (β1, numO x)]) S S12) rfl (fun w' hst => shs_holds (List.mem_of_getElem? (i := 0) rfl) hst) (shL_one _) (by omega) (by omega) fun v23 S23 hO23 => ?_
                        dsimp only [putL, setL, List.set_cons_zero, List.set_cons_succ, List.nil_append, List.cons_append]
                        try simp only [List.append_assoc]
                        refine wk_assign v23 rfl rfl rfl rfl ?_
                        dsimp only [putL, setL, List.set_cons_zero, List.set_cons_succ, List.nil_append, List.cons_append]
                        refine wk_nil ?_
                        refine sp_seq rfl ?_
                        refine sp_region (π := [0, 1, 2, 3, 4, 5]) [] rfl rfl ?_
                        refine wk_move v23 rfl rfl rfl rfl ?_
                        dsimp only [putL, setL, List.set_cons_zero, List.set_cons_succ, List.nil_append, List.cons_append]
                        obtain ⟨a24, cp24, hv24, hcp24, hsh24⟩ := hO23.reads
                        subst hv24
                        rw [← shL_append] at hsh24
                        have tw_eq := bS_twice x hbad (show i ≠ 64 by omega) (p := (sx (bS x i) 0)) (bS_first x hbad)
                        have tw_ne : ¬ wrongI (modW 1) (xsS (bS x i ++ [(sx (bS x i) 0)])) = 0 := by rw [tw_eq]; decide
                        refine wk_callW [(.slice a24 (i + 1) cp24)] (.tuple #[(numV 0), (.int .i64 6)]) rfl rfl rfl (enters_of Try.func62 (by kernel_rfl) (by kernel_rfl)) rfl (fun M' w' hm hst => (conv_post (by rw [tw_eq]) (zero_no (bS x i ++ [(sx (bS x i) 0)]) (i + 1) _ _ (tw_len x i (sx (bS x i) 0)) (tw_bound (bS_bound w_x i (by omega)) (sx_lt1 (bS_bound w_x i (by omega))) (sx_lt2 (bS_bound w_x i (by omega)))) (by omega) hcp24 tw_ne w' (hsh24.holds hst (fun p hp => hm p (by simp [hp])))))) ?_
                        dsimp only [putL, setL, List.set_cons_zero, List.set_cons_succ, List.nil_append, List.cons_append]
                        refine wk_move (.tuple #[(numV 0), (.int .i64 6)]) rfl rfl rfl rfl ?_
                        dsimp only [putL, setL, List.set_cons_zero, List.set_cons_succ, List.nil_append, List.cons_append]
                        refine wk_ext (numV 0) rfl rfl rfl rfl rfl ?_
                        dsimp only [putL, setL, List.set_cons_zero, List.set_cons_succ, List.nil_append, List.cons_append]
                        refine wk_ext (.int .i64 6) rfl rfl rfl rfl rfl ?_
                        dsimp only [putL, setL, List.set_cons_zero, List.set_cons_succ, List.nil_append, List.cons_append]
                        refine wk_assign (.int .i64 6) rfl rfl rfl rfl ?_
                        dsimp only [putL, setL, List.set_cons_zero, List.set_cons_succ, List.nil_append, List.cons_append]
                        refine wk_nil ?_
                        refine sp_seq rfl ?_
                        refine sp_region (π := [0, 1, 2, 3, 4, 5]) [] rfl rfl ?_
                        refine wk_move (.int .i64 6) rfl rfl rfl rfl ?_
                        dsimp only [putL, setL, List.set_cons_zero, List.set_cons_succ, List.nil_append, List.cons_append]
                        refine wk_iop (.bool true) rfl rfl rfl rfl rfl rfl (iop_eql_t (by decide)) ?_
                        dsimp only [putL, setL, List.set_cons_zero, List.set_cons_succ, List.nil_append, List.cons_append]
                        refine wk_move (.bool true) rfl rfl rfl rfl ?_
                        dsimp only [putL, setL, List.set_cons_zero, List.set_cons_succ, List.nil_append, List.cons_append]
                        refine wk_call [] (.bool true) rfl rfl rfl (enters_of Try.func61 (by kernel_rfl) (by kernel_rfl)) rfl wakes6_calls ?_
                        dsimp only [putL, setL, List.set_cons_zero, List.set_cons_succ, List.nil_append, List.cons_append]
                        refine wk_pick true (.bool true) rfl rfl rfl rfl rfl ?_
                        dsimp only [putL, setL, List.set_cons_zero, List.set_cons_succ, List.nil_append, List.cons_append]
                        refine wk_assign (.bool true) rfl rfl rfl rfl ?_
                        dsimp only [putL, setL, List.set_cons_zero, List.set_cons_succ, List.nil_append, List.cons_append]
                        refine wk_nil ?_
                        refine sp_ret rfl ?_
                        exact ret_tmps (v := .bool true) (fun w' => by kernel_rfl) fun w' hw => ⟨rfl, hw.below⟩
                      · skip
                        refine sp_true rfl (by first | rfl | (rw [hc21]; rfl)) ?_
                        refine sp_seq rfl ?_
                        refine sp_region (π := [0, 1, 2]) [] rfl rfl ?_
                        refine wk_call [(.int .i64 1)] (numV 115792089237316195423570985008687907852837564279074904382605163141518161494337) rfl rfl rfl (enters_of Try.func43 (by kernel_rfl) (by kernel_rfl)) rfl (conv rfl (prime_ok 1 ok1)) ?_
                        dsimp only [putL, setL, List.set_cons_zero, List.set_cons_succ, List.nil_append, List.cons_append]
                        refine wk_val (.pointer (some ⟨β20, 0, none⟩)) rfl rfl rfl (fun w => by kernel_rfl) ?_
                        dsimp only [putL, setL, List.set_cons_zero, List.set_cons_succ, List.nil_append, List.cons_append]
                        refine wk_stX 0 rfl rfl rfl rfl rfl rfl ?_
                        dsimp only [putL, setL, List.set_cons_zero, List.set_cons_succ, List.nil_append, List.cons_append]
                        refine wk_nil ?_
                        refine sp_region (π := [0, 1, 2, 3, 4, 5, 6]) [] rfl rfl ?_
                        refine wk_val (.pointer (some ⟨β20, 0, none⟩)) rfl rfl rfl (fun w => by kernel_rfl) ?_
                        dsimp only [putL, setL, List.set_cons_zero, List.set_cons_succ, List.nil_append, List.cons_append]
                        refine wk_idx 0 1 rfl rfl rfl rfl rfl nunder (by kernel_rfl) rfl (by decide) ?_
                        dsimp only [putL, setL, List.set_cons_zero, List.set_cons_succ, List.nil_append, List.cons_append]
                        refine wk_ldDX 0 0 13822214165235122497 (by decide) (show ((dg 115792089237316195423570985008687907852837564279074904382605163141518161494337 0 : Nat) : Int) = 13822214165235122497 by kernel_rfl) rfl rfl rfl rfl rfl ?_
                        dsimp only [putL, setL, List.set_cons_zero, List.set_cons_succ, List.nil_append, List.cons_append]
                        refine wk_iop (.int .u64 13822214165235122498) rfl rfl rfl rfl rfl rfl (by kernel_rfl) ?_
                        dsimp only [putL, setL, List.set_cons_zero, List.set_cons_succ, List.nil_append, List.cons_append]
                        refine wk_val (.pointer (some ⟨β20, 0, none⟩)) rfl rfl rfl (fun w => by kernel_rfl) ?_
                        dsimp only [putL, setL, List.set_cons_zero, List.set_cons_succ, List.nil_append, List.cons_append]
                        refine wk_idx 0 1 rfl rfl rfl rfl rfl nunder (by kernel_rfl) rfl (by decide) ?_
                        dsimp only [putL, setL, List.set_cons_zero, List.set_cons_succ, List.nil_append, List.cons_append]
                        refine wk_stDX 0 0 115792089237316195423570985008687907852837564279074904382605163141518161494338 rfl rfl rfl rfl rfl rfl (shC_set0 (n := 115792089237316195423570985008687907852837564279074904382605163141518161494337) (m := 115792089237316195423570985008687907852837564279074904382605163141518161494338) (by kernel_rfl) (by kernel_rfl) (by kernel_rfl) (by kernel_rfl)) (by decide) ?_
                        dsimp only [putL, setL, List.set_cons_zero, List.set_cons_succ, List.nil_append, List.cons_append]
                        refine wk_nil ?_
                        refine sp_seq rfl ?_
                        refine sp_region (π := [0, 1, 2, 3, 4]) [] rfl rfl ?_
                        refine wk_move (.slice a7 i cp7) rfl rfl rfl rfl ?_
                        dsimp only [putL, setL, List.set_cons_zero, List.set_cons_succ, List.nil_append, List.cons_append]
                        refine wk_ldS 0 rfl rfl rfl rfl rfl ?_
                        dsimp only [putL, setL, List.set_cons_zero, List.set_cons_succ, List.nil_append, List.cons_append]
                        refine wkf_make (z := shsO [(115792089237316195423570985008687907852837564279074904382605163141518161494338, (sx (bS x i) 0).2)]) (mk := fun β => .slice (some ⟨β, 0, none⟩) 1 1) rfl rfl (fun w => by kernel_rfl) fun β25 => ?_
                        dsimp only [putL, setL, List.set_cons_zero, List.set_cons_succ, List.nil_append, List.cons_append]
                        refine wk_append (news := (shL [(115792089237316195423570985008687907852837564279074904382605163141518161494338, (sx (bS x i) 0).2)])) (F := ([(β25, shsO [(115792089237316195423570985008687907852837564279074904382605163141518161494338, (sx (bS x i) 0).2)]), (β20, shO (115792089237316195423570985008687907852837564279074904382605163141518161494338, (sx (bS x i) 0).2)), (β11, numO (x % modW 1)), (β1, numO x)] ++ S12)) rfl rfl rfl rfl rfl Try.underlying63 shInfo shBytes shZero rfl (by decide) hf1 (perm_mid ([(β25, shsO [(115792089237316195423570985008687907852837564279074904382605163141518161494338, (sx (bS x i) 0).2)]), (β20, shO (115792089237316195423570985008687907852837564279074904382605163141518161494338, (sx (bS x i) 0).2)), (β11, numO (x % modW 1)), (β1, numO x)]) S S12) rfl (fun w' hst => shs_holds (List.mem_of_getElem? (i := 0) rfl) hst) (shL_one _) (by omega) (by omega) fun v26 S26 hO26 => ?_
                        dsimp only [putL, setL, List.set_cons_zero, List.set_cons_succ, List.nil_append, List.cons_append]
                        try simp only [List.append_assoc]
                        refine wk_assign v26 rfl rfl rfl rfl ?_
                        dsimp only [putL, setL, List.set_cons_zero, List.set_cons_succ, List.nil_append, List.cons_append]
                        refine wk_nil ?_
                        refine sp_seq rfl ?_
                        refine sp_region (π := [0, 1, 2, 3, 4, 5]) [] rfl rfl ?_
                        refine wk_move v26 rfl rfl rfl rfl ?_
                        dsimp only [putL, setL, List.set_cons_zero, List.set_cons_succ, List.nil_append, List.cons_append]
                        obtain ⟨a27, cp27, hv27, hcp27, hsh27⟩ := hO26.reads
                        subst hv27
                        rw [← shL_append] at hsh27
                        have tw_eq := bS_twice x hbad (show i ≠ 64 by omega) (p := (115792089237316195423570985008687907852837564279074904382605163141518161494338, (sx (bS x i) 0).2)) (show 115792089237316195423570985008687907852837564279074904382605163141518161494338 % modW 1 = 1 by decide)
                        have tw_ne : ¬ wrongI (modW 1) (xsS (bS x i ++ [(115792089237316195423570985008687907852837564279074904382605163141518161494338, (sx (bS x i) 0).2)])) = 0 := by rw [tw_eq]; decide
                        refine wk_callW [(.slice a27 (i + 1) cp27)] (.tuple #[(numV 0), (.int .i64 6)]) rfl rfl rfl (enters_of Try.func62 (by kernel_rfl) (by kernel_rfl)) rfl (fun M' w' hm hst => (conv_post (by rw [tw_eq]) (zero_no (bS x i ++ [(115792089237316195423570985008687907852837564279074904382605163141518161494338, (sx (bS x i) 0).2)]) (i + 1) _ _ (tw_len x i (115792089237316195423570985008687907852837564279074904382605163141518161494338, (sx (bS x i) 0).2)) (tw_bound (bS_bound w_x i (by omega)) (show 115792089237316195423570985008687907852837564279074904382605163141518161494338 < W256 by decide) (sx_lt2 (bS_bound w_x i (by omega)))) (by omega) hcp27 tw_ne w' (hsh27.holds hst (fun p hp => hm p (by simp [hp])))))) ?_
                        dsimp only [putL, setL, List.set_cons_zero, List.set_cons_succ, List.nil_append, List.cons_append]
                        refine wk_move (.tuple #[(numV 0), (.int .i64 6)]) rfl rfl rfl rfl ?_
                        dsimp only [putL, setL, List.set_cons_zero, List.set_cons_succ, List.nil_append, List.cons_append]
                        refine wk_ext (numV 0) rfl rfl rfl rfl rfl ?_
                        dsimp only [putL, setL, List.set_cons_zero, List.set_cons_succ, List.nil_append, List.cons_append]
                        refine wk_ext (.int .i64 6) rfl rfl rfl rfl rfl ?_
                        dsimp only [putL, setL, List.set_cons_zero, List.set_cons_succ, List.nil_append, List.cons_append]
                        refine wk_assign (.int .i64 6) rfl rfl rfl rfl ?_
                        dsimp only [putL, setL, List.set_cons_zero, List.set_cons_succ, List.nil_append, List.cons_append]
                        refine wk_nil ?_
                        refine sp_seq rfl ?_
                        refine sp_region (π := [0, 1, 2, 3, 4, 5]) [] rfl rfl ?_
                        refine wk_move (.int .i64 6) rfl rfl rfl rfl ?_
                        dsimp only [putL, setL, List.set_cons_zero, List.set_cons_succ, List.nil_append, List.cons_append]
                        refine wk_iop (.bool true) rfl rfl rfl rfl rfl rfl (iop_eql_t (by decide)) ?_
                        dsimp only [putL, setL, List.set_cons_zero, List.set_cons_succ, List.nil_append, List.cons_append]
                        refine wk_move (.bool true) rfl rfl rfl rfl ?_
                        dsimp only [putL, setL, List.set_cons_zero, List.set_cons_succ, List.nil_append, List.cons_append]
                        refine wk_call [] (.bool true) rfl rfl rfl (enters_of Try.func61 (by kernel_rfl) (by kernel_rfl)) rfl wakes6_calls ?_
                        dsimp only [putL, setL, List.set_cons_zero, List.set_cons_succ, List.nil_append, List.cons_append]
                        refine wk_pick true (.bool true) rfl rfl rfl rfl rfl ?_
                        dsimp only [putL, setL, List.set_cons_zero, List.set_cons_succ, List.nil_append, List.cons_append]
                        refine wk_assign (.bool true) rfl rfl rfl rfl ?_
                        dsimp only [putL, setL, List.set_cons_zero, List.set_cons_succ, List.nil_append, List.cons_append]
                        refine wk_nil ?_
                        refine sp_ret rfl ?_
                        exact ret_tmps (v := .bool true) (fun w' => by kernel_rfl) fun w' hw => ⟨rfl, hw.below⟩

set_option maxRecDepth 100000 in
theorem polyBounds_lifted (os : Os) (started : os.Started) (H : Type) (enc : TypeId × Value → H) :
    ReturnsInHanded {} Try.checked os 23 .any (Rows.polyBoundsSpec.pre6 enc Try.prog Try.f23 Rows.polyBoundsRow.domain false) (Rows.polyBoundsSpec.post enc Try.prog Try.f23 false true false false) := by
  refine returnsInHanded_of_change (C := Try.checked) own started (by kernel_rfl) Try.func23
    (ChangeSpec.witness6 (enc := enc) (C := Try.checked) false ⟨#[], #[.int .i64 0, .agg #[.int .u64 0, .int .u64 0, .int .u64 0, .int .u64 0], .bool false], []⟩ 8 (by kernel_rfl) (by kernel_rfl) (by kernel_rfl) (by kernel_rfl)) ?_
  intro W base args ds gs before hval0 hW hcnd _
  have hval : ∀ (j : Nat) t v, Try.f23.params[j]? = some t → args[j]? = some v → Value.okWide Try.prog W .any base t v := hval0
  have hW' := hW
  obtain ⟨p, q, hA0, hV, rfl, hfz, hnd⟩ := hW
  have hA : DataW.TrodAll enc Try.prog W 0 (fun _ => true) true Try.f23.params.toList args.toList ds p := hA0
  rw [Try.params23] at hA hval
  obtain ⟨v0, vs0, d0, ds0, p0, q0, hargs, rfl, rfl, h0, r0⟩ := trodAll_cons hA
  obtain ⟨v1, vs1, d1, ds1, p1, q1, rfl, rfl, rfl, h1, r1⟩ := trodAll_cons r0
  obtain ⟨v2, vs2, d2, ds2, p2, q2, rfl, rfl, rfl, h2, r2⟩ := trodAll_cons r1
  obtain ⟨rfl, rfl, rfl⟩ := trodAll_nil r2
  obtain rfl : args = #[v0, v1, v2] := by cases args; simp_all
  obtain ⟨rfl, rfl⟩ := trodVars_none hV
  have k0 := h0
  have lt0 : ∀ x ∈ p0, x.block < W.heap.size := by obtain ⟨m, hm⟩ := k0; exact DataW.trod_lt m _ _ _ hm
  have k1 := h1
  have lt1 : ∀ x ∈ p1, x.block < W.heap.size := by obtain ⟨m, hm⟩ := k1; exact DataW.trod_lt m _ _ _ hm
  have k2 := h2
  have lt2 : ∀ x ∈ p2, x.block < W.heap.size := by obtain ⟨m, hm⟩ := k2; exact DataW.trod_lt m _ _ _ hm
  obtain ⟨q, rfl, rfl, rfl, w_q0⟩ := open_int Try.underlying3 (hval 0 3 v0 rfl rfl) h0; have w_q := wf_i64 w_q0
  obtain ⟨x, w_x, rfl⟩ := open_num (hval 1 24 v1 rfl rfl) h1
  obtain ⟨ov, rfl⟩ := okWide_bool Try.underlying4 (hval 2 4 v2 rfl rfl)
  clear hA0 hval0
  refine (polyBounds_walk q x ov w_q w_x W).mono fun e W' ⟨he, bel⟩ => ?_
  subst he
  exact ⟨_, rfl, _, _, _, [], _, [], hW', trodAll_mk1 (shut_bool Try.underlying4 _), (trodAll_cons_mk (Below.trod laidOut (by kernel_rfl) (of_decide_eq_true (by kernel_rfl)) k0 bel lt0) (trodAll_cons_mk (Below.trod laidOut (by kernel_rfl) (of_decide_eq_true (by kernel_rfl)) k1 bel lt1) (trodAll_cons_mk (Below.trod laidOut (by kernel_rfl) (of_decide_eq_true (by kernel_rfl)) k2 bel lt2) trodAll_mk0))), rfl, bel.frame _, fun h => by cases h⟩

theorem polyBounds_holds : Rows.PolyBoundsSaid :=
  OpenClaim.holds_of_wide 23 Try.f23 rfl rfl rfl rfl rfl rfl rfl ⟨rfl, rfl, rfl, rfl, rfl⟩ rfl rfl rfl rfl rfl (by kernel_rfl) Try.func23 (by kernel_rfl)
    (of_decide_eq_true (by kernel_rfl)) (by unfold Func.isWrapper; first | (rw [if_pos (by decide +kernel)]; kernel_rfl) | (rw [if_neg (by decide +kernel)]; exact ⟨rfl, rfl⟩))
    (fun os started H enc _ => polyBounds_lifted os started H enc)

end Go.Proofs.Ytmecomgifmkkfaa
