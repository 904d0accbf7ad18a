/- PolyThrough: the polynomial through any shares at unlike places is worth at each of them what it should be, and at 0 what they tell; for every input, no condition. -/
import Derived.Test.YtmecomgifmkkfaaPolyK
import Derived.Test.YtmecomgifmkkfaaOpenS
import Derived.Test.YtmecomgifmkkfaaSymB
import Derived.Test.YtmecomgifmkkfaaFieldD
import Derived.Test.YtmecomgifmkkfaaRefB
import Derived.Test.YtmecomgifmkkfaaLimbM
import Derived.Test.YtmecomgifmkkfaaLimbG
import Derived.Test.YtmecomgifmkkfaaLimbB
import Derived.Test.YtmecomgifmkkfaaRows
import Derived.Test.YtmecomgifmkkfaaOpen
import Derived.Test.YtmecomgifmkkfaaFieldL
import Derived.ProofKit
import Derived.OpenShut
namespace Go.Proofs.Ytmecomgifmkkfaa
set_option linter.unusedVariables false
set_option linter.unusedSimpArgs false
open Go.ChangeShapes Go.WideShapes Go.ChangeAt Go.RowKit

theorem wrap_nat {n : Nat} (h : n < 18446744073709551616) : IntKind.u64.wrap (n : Int) = n := by show (n : Int) % 18446744073709551616 = n; omega
theorem iop_add_nat {a b : Nat} (h : a + b < 18446744073709551616) : iop .add .u64 (a : Int) (b : Int) = some (.int .u64 ((a + b : Nat) : Int)) := by
  have e : IntKind.u64.wrap ((a : Int) + b) = ((a + b : Nat) : Int) := by show ((a : Int) + b) % 18446744073709551616 = _; omega
  simp only [iop, e]
theorem iop_wrap_mul {i c : Nat} (hi : i < 18446744073709551616) (h : i * c < 18446744073709551616) : iop .mul .u64 (IntKind.u64.wrap (i : Int)) (c : Int) = some (.int .u64 ((i * c : Nat) : Int)) := by
  have e : IntKind.u64.wrap ((i : Int) * c) = ((i * c : Nat) : Int) := by rw [← Int.natCast_mul]; exact wrap_nat h
  rw [wrap_nat hi]
  simp only [iop, e]
/-- A whole number, as one of 64 bits, and what is left of it. -/
def leftN (x : Int) (m : Nat) : Nat := ((IntKind.u64.wrap x).tmod m).toNat
theorem wrap_pos (x : Int) : 0 ≤ IntKind.u64.wrap x := by show 0 ≤ x % 18446744073709551616; omega
theorem leftN_eq (x : Int) (m : Nat) : (IntKind.u64.wrap x).tmod m = (leftN x m : Nat) := by
  have := wrap_pos x
  unfold leftN
  rw [Int.toNat_of_nonneg (Int.tmod_nonneg _ this)]
theorem leftN_lt (x : Int) {m : Nat} (h : 0 < m) : leftN x m < m := by
  have h1 := leftN_eq x m
  have h2 := Int.tmod_lt_of_pos (IntKind.u64.wrap x) (b := (m : Int)) (by omega)
  omega

/-- The k-th share. -/
def tS (first : Int) (ys : List Nat) (k : Nat) : Nat × Nat := (leftN first 1000 + k * 7, ix ys k)
theorem tS_bound {first : Int} {ys : List Nat} (h : ∀ x ∈ ys, x < W256) {i : Nat} (hi : i < 1000) : ShBound (gL (tS first ys) i) := gL_bound fun k hk => by
  have h1 := leftN_lt first (m := 1000) (by decide)
  refine ⟨?_, ix_lt h⟩
  show leftN first 1000 + k * 7 < W256
  unfold W256
  omega
theorem tS_ok {first : Int} {ys : List Nat} {i : Nat} (h0 : 0 < i) (h8 : i ≤ 8) : wrongI (modW 1) (xsS (gL (tS first ys) i)) = 0 := gL_ok (modW_pos ok1) h0 (by omega) fun a ha b hb => by
  have h1 := leftN_lt first (m := 1000) (by decide)
  have hm : 100000 < modW 1 := by decide
  show (leftN first 1000 + a * 7) % modW 1 ≠ (leftN first 1000 + b * 7) % modW 1
  rw [Nat.mod_eq_of_lt (by omega), Nat.mod_eq_of_lt (by omega)]
  omega
theorem tS_at {first : Int} {ys : List Nat} {i k : Nat} (hok : wrongI (modW 1) (xsS (gL (tS first ys) i)) = 0) (hk : k < i) :
    evalL (modW 1) (thruL (modW 1) (gL (tS first ys) i)) (sx (gL (tS first ys) i) k).1 = ix ys k % modW 1 := by
  rw [th_at hok (by rw [gL_len]; exact hk), gL_at _ _ _ hk]; rfl

set_option maxRecDepth 20000 in
set_option maxHeartbeats 2000000 in
theorem polyThrough_walk (ys : List (Nat)) (a_ys : Option Addr) (c_ys : Nat) (first : Int) (w_ys : ∀ x ∈ ys, x < W256) (hc_ys : ys.length ≤ c_ys) (w_first : -9223372036854775808 ≤ first ∧ first ≤ 9223372036854775807) (w : World) (hH_ys : Holds w a_ys (rowL ys)) :
    Calls Try.prog 24 #[.slice a_ys ys.length c_ys, .int .i64 first] w fun e w' => e = .returned (.bool true) ∧ Below w.heap.size w w' := by
  refine fn_calls (l0 := [(.slice a_ys ys.length c_ys), (.int .i64 first), undef, undef, undef, undef, undef, undef, undef, undef, undef, undef, undef, undef, undef, undef, undef, undef, undef, undef, undef, undef, undef, undef, undef, undef, undef, undef, undef, undef, undef, undef, undef, undef, undef, undef, undef, undef, undef, undef, undef, undef, undef, undef, undef, undef, undef, undef, undef, undef, undef, undef, undef, undef, undef, undef, undef, undef, undef, undef, undef, undef, undef, undef, undef, undef, undef, undef, undef, undef, undef, undef, undef, undef, undef, undef, undef, undef, undef, undef, undef, undef, undef, undef, undef, undef, undef, undef, undef, undef, undef, undef, undef, undef, undef, undef, undef, undef, undef]) Try.func24 rfl rfl [] (St.start w) ?_
  refine sp_seq rfl ?_
  refine sp_region (π := [0]) [] rfl rfl ?_
  refine wk_assign (.bool false) rfl rfl rfl rfl ?_
  dsimp only [putL, setL, List.set_cons_zero, List.set_cons_succ, List.nil_append, List.cons_append]
  refine wk_nil ?_
  refine sp_seq rfl ?_
  refine sp_seq rfl ?_
  refine sp_region (π := [0, 1, 2, 3, 4, 5, 6, 7]) [] rfl rfl ?_
  refine wk_move (.slice a_ys ys.length c_ys) rfl rfl rfl rfl ?_
  dsimp only [putL, setL, List.set_cons_zero, List.set_cons_succ, List.nil_append, List.cons_append]
  refine wk_lenA rfl rfl rfl rfl Try.underlying57 ?_
  dsimp only [putL, setL, List.set_cons_zero, List.set_cons_succ, List.nil_append, List.cons_append]
  by_cases hc1 : ((ys.length : Nat) : Int) < 1
  · skip
    refine wk_iop (.bool true) rfl rfl rfl rfl rfl rfl (iop_lss_t hc1) ?_
    dsimp only [putL, setL, List.set_cons_zero, List.set_cons_succ, List.nil_append, List.cons_append]
    refine wk_move (.bool true) rfl rfl rfl rfl ?_
    dsimp only [putL, setL, List.set_cons_zero, List.set_cons_succ, List.nil_append, List.cons_append]
    refine wk_skip rfl rfl (fun h => by cases h) ?_
    dsimp only [putL, setL, List.set_cons_zero, List.set_cons_succ, List.nil_append, List.cons_append]
    refine wk_skip rfl rfl (fun h => by cases h) ?_
    dsimp only [putL, setL, List.set_cons_zero, List.set_cons_succ, List.nil_append, List.cons_append]
    refine wk_skip rfl rfl (fun h => by cases h) ?_
    dsimp only [putL, setL, List.set_cons_zero, List.set_cons_succ, List.nil_append, List.cons_append]
    refine wk_pick true (.bool true) rfl rfl rfl rfl rfl ?_
    dsimp only [putL, setL, List.set_cons_zero, List.set_cons_succ, List.nil_append, List.cons_append]
    refine wk_nil ?_
    refine sp_true rfl rfl ?_
    refine sp_seq rfl ?_
    refine sp_region (π := [0]) [] rfl rfl ?_
    refine wk_assign (.bool true) rfl rfl rfl rfl ?_
    dsimp only [putL, setL, List.set_cons_zero, List.set_cons_succ, List.nil_append, List.cons_append]
    refine wk_nil ?_
    refine sp_ret rfl ?_
    exact ret_tmps (v := .bool true) (fun w' => by kernel_rfl) fun w' hw => ⟨rfl, hw.below⟩
  · skip
    refine wk_iop (.bool false) rfl rfl rfl rfl rfl rfl (iop_lss_f hc1) ?_
    dsimp only [putL, setL, List.set_cons_zero, List.set_cons_succ, List.nil_append, List.cons_append]
    refine wk_move (.bool false) rfl rfl rfl rfl ?_
    dsimp only [putL, setL, List.set_cons_zero, List.set_cons_succ, List.nil_append, List.cons_append]
    refine wk_move (.slice a_ys ys.length c_ys) rfl rfl rfl rfl ?_
    dsimp only [putL, setL, List.set_cons_zero, List.set_cons_succ, List.nil_append, List.cons_append]
    refine wk_lenA rfl rfl rfl rfl Try.underlying57 ?_
    dsimp only [putL, setL, List.set_cons_zero, List.set_cons_succ, List.nil_append, List.cons_append]
    by_cases hc2 : 8 < ((ys.length : Nat) : Int)
    · skip
      refine wk_iop (.bool true) rfl rfl rfl rfl rfl rfl (iop_gtr_t hc2) ?_
      dsimp only [putL, setL, List.set_cons_zero, List.set_cons_succ, List.nil_append, List.cons_append]
      refine wk_pick false (.bool true) rfl rfl rfl rfl rfl ?_
      dsimp only [putL, setL, List.set_cons_zero, List.set_cons_succ, List.nil_append, List.cons_append]
      refine wk_nil ?_
      refine sp_true rfl rfl ?_
      refine sp_seq rfl ?_
      refine sp_region (π := [0]) [] rfl rfl ?_
      refine wk_assign (.bool true) rfl rfl rfl rfl ?_
      dsimp only [putL, setL, List.set_cons_zero, List.set_cons_succ, List.nil_append, List.cons_append]
      refine wk_nil ?_
      refine sp_ret rfl ?_
      exact ret_tmps (v := .bool true) (fun w' => by kernel_rfl) fun w' hw => ⟨rfl, hw.below⟩
    · skip
      refine wk_iop (.bool false) rfl rfl rfl rfl rfl rfl (iop_gtr_f hc2) ?_
      dsimp only [putL, setL, List.set_cons_zero, List.set_cons_succ, List.nil_append, List.cons_append]
      refine wk_pick false (.bool false) rfl rfl rfl rfl rfl ?_
      dsimp only [putL, setL, List.set_cons_zero, List.set_cons_succ, List.nil_append, List.cons_append]
      refine wk_nil ?_
      refine sp_false rfl rfl ?_
      refine sp_skip rfl ?_
      refine sp_seq rfl ?_
      refine sp_region (π := [0]) [] rfl rfl ?_
      refine wk_assign (.slice none 0 0) rfl rfl rfl rfl ?_
      dsimp only [putL, setL, List.set_cons_zero, List.set_cons_succ, List.nil_append, List.cons_append]
      refine wk_nil ?_
      refine sp_seq rfl ?_
      refine sp_seq rfl ?_
      refine sp_region (π := [0]) [] rfl rfl ?_
      refine wk_assign (.int .i64 0) rfl rfl rfl rfl ?_
      dsimp only [putL, setL, List.set_cons_zero, List.set_cons_succ, List.nil_append, List.cons_append]
      refine wk_nil ?_
      refine sp_block rfl ?_
      refine sp_loopg rfl (fun n l M => ∃ i : Nat, ∃ v : Value, ∃ S : Mem, ∃ d20 : Value, ∃ d21 : Value, ∃ d22 : Value, ∃ d23 : Value, ∃ d24 : Value, ∃ d25 : Value, ∃ d26 : Value, ∃ d27 : Value, ∃ d28 : Value, ∃ d29 : Value, ∃ d30 : Value, ∃ d31 : Value, ∃ d32 : Value, ∃ d33 : Value, ∃ d34 : Value, ∃ d35 : Value, ∃ d36 : Value, ∃ d37 : Value, ∃ d38 : Value, ∃ d39 : Value, ∃ d40 : Value, ∃ d41 : Value, l = [(.slice a_ys ys.length c_ys), (.int .i64 first), undef, undef, (.bool false), v, (.int .i64 (i : Int)), undef, undef, undef, undef, undef, (.slice a_ys ys.length c_ys), (.int .i64 ((ys.length : Nat) : Int)), (.bool false), (.bool false), (.slice a_ys ys.length c_ys), (.int .i64 ((ys.length : Nat) : Int)), (.bool false), (.bool false), d20, d21, d22, d23, d24, d25, d26, d27, d28, d29, d30, d31, d32, d33, d34, d35, d36, d37, d38, d39, d40, d41, undef, undef, undef, undef, undef, undef, undef, undef, undef, undef, undef, undef, undef, undef, undef, undef, undef, undef, undef, undef, undef, undef, undef, undef, undef, undef, undef, undef, undef, undef, undef, undef, undef, undef, undef, undef, undef, undef, undef, undef, undef, undef, undef, undef, undef, undef, undef, undef, undef, undef, undef, undef, undef, undef, undef, undef, undef] ∧ S = M ∧ (i ≤ ys.length) ∧ (OwnS 65 8 v i (shL (gL (tS first ys) i)) S) ∧ n = ys.length - i) (ys.length - 0) ?_ ?_
      · exact ⟨0, (.slice none 0 0), [], undef, undef, undef, undef, undef, undef, undef, undef, undef, undef, undef, undef, undef, undef, undef, undef, undef, undef, undef, undef, undef, undef, rfl, rfl, (Nat.zero_le _), (OwnS.nil _ _), rfl⟩
      · skip
        intro n l M
        refine exists_imp.2 fun i => ?_
        refine exists_imp.2 fun v => ?_
        refine exists_imp.2 fun S => ?_
        refine exists_imp.2 fun d20 => ?_
        refine exists_imp.2 fun d21 => ?_
        refine exists_imp.2 fun d22 => ?_
        refine exists_imp.2 fun d23 => ?_
        refine exists_imp.2 fun d24 => ?_
        refine exists_imp.2 fun d25 => ?_
        refine exists_imp.2 fun d26 => ?_
        refine exists_imp.2 fun d27 => ?_
        refine exists_imp.2 fun d28 => ?_
        refine exists_imp.2 fun d29 => ?_
        refine exists_imp.2 fun d30 => ?_
        refine exists_imp.2 fun d31 => ?_
        refine exists_imp.2 fun d32 => ?_
        refine exists_imp.2 fun d33 => ?_
        refine exists_imp.2 fun d34 => ?_
        refine exists_imp.2 fun d35 => ?_
        refine exists_imp.2 fun d36 => ?_
        refine exists_imp.2 fun d37 => ?_
        refine exists_imp.2 fun d38 => ?_
        refine exists_imp.2 fun d39 => ?_
        refine exists_imp.2 fun d40 => ?_
        refine exists_imp.2 fun d41 => ?_
        rintro ⟨rfl, rfl, hf0, hf1, rfl⟩
        refine sp_seq rfl ?_
        refine sp_seq rfl ?_
        refine sp_region (π := [0, 1, 2, 3]) [] rfl rfl ?_
        refine wk_move (.int .i64 (i : Int)) rfl rfl rfl rfl ?_
        dsimp only [putL, setL, List.set_cons_zero, List.set_cons_succ, List.nil_append, List.cons_append]
        refine wk_move (.slice a_ys ys.length c_ys) rfl rfl rfl rfl ?_
        dsimp only [putL, setL, List.set_cons_zero, List.set_cons_succ, List.nil_append, List.cons_append]
        refine wk_lenA rfl rfl rfl rfl Try.underlying57 ?_
        dsimp only [putL, setL, List.set_cons_zero, List.set_cons_succ, List.nil_append, List.cons_append]
        by_cases hc3 : (i : Int) < ((ys.length : Nat) : Int)
        · skip
          refine wk_iop (.bool true) rfl rfl rfl rfl rfl rfl (iop_lss_t hc3) ?_
          dsimp only [putL, setL, List.set_cons_zero, List.set_cons_succ, List.nil_append, List.cons_append]
          refine wk_nil ?_
          refine sp_true rfl rfl ?_
          refine sp_skip rfl ?_
          refine sp_seq rfl ?_
          refine sp_block rfl ?_
          refine sp_region (π := [0, 1, 2, 3, 4, 5, 6, 7, 8, 9, 10, 11, 12, 13, 14, 15, 16]) [] rfl rfl ?_
          refine wk_move v rfl rfl rfl rfl ?_
          dsimp only [putL, setL, List.set_cons_zero, List.set_cons_succ, List.nil_append, List.cons_append]
          refine wk_move (.int .i64 first) rfl rfl rfl rfl ?_
          dsimp only [putL, setL, List.set_cons_zero, List.set_cons_succ, List.nil_append, List.cons_append]
          refine wk_val (.int .u64 (IntKind.u64.wrap first)) rfl rfl rfl (fun w => by kernel_rfl) ?_
          dsimp only [putL, setL, List.set_cons_zero, List.set_cons_succ, List.nil_append, List.cons_append]
          refine wk_iop (.int .u64 ((leftN first 1000 : Nat) : Int)) rfl rfl rfl rfl rfl rfl (congrArg (fun z => some (Value.int .u64 z)) (leftN_eq first 1000)) ?_
          dsimp only [putL, setL, List.set_cons_zero, List.set_cons_succ, List.nil_append, List.cons_append]
          refine wk_move (.int .i64 (i : Int)) rfl rfl rfl rfl ?_
          dsimp only [putL, setL, List.set_cons_zero, List.set_cons_succ, List.nil_append, List.cons_append]
          refine wk_val (.int .u64 (IntKind.u64.wrap (i : Int))) rfl rfl rfl (fun w => by kernel_rfl) ?_
          dsimp only [putL, setL, List.set_cons_zero, List.set_cons_succ, List.nil_append, List.cons_append]
          refine wk_iop (.int .u64 ((i * 7 : Nat) : Int)) rfl rfl rfl rfl rfl rfl (iop_wrap_mul (c := 7) (by omega) (by omega)) ?_
          dsimp only [putL, setL, List.set_cons_zero, List.set_cons_succ, List.nil_append, List.cons_append]
          refine wk_iop (.int .u64 ((leftN first 1000 + i * 7 : Nat) : Int)) rfl rfl rfl rfl rfl rfl (iop_add_nat (by have := leftN_lt first (m := 1000) (by decide); omega)) ?_
          dsimp only [putL, setL, List.set_cons_zero, List.set_cons_succ, List.nil_append, List.cons_append]
          refine wk_val (numV (leftN first 1000 + i * 7)) rfl rfl rfl (fun w => by rw [← one_digit (show leftN first 1000 + i * 7 < 18446744073709551616 by have := leftN_lt first (m := 1000) (by decide); omega)]; kernel_rfl) ?_
          dsimp only [putL, setL, List.set_cons_zero, List.set_cons_succ, List.nil_append, List.cons_append]
          refine wk_move (.slice a_ys ys.length c_ys) rfl rfl rfl rfl ?_
          dsimp only [putL, setL, List.set_cons_zero, List.set_cons_succ, List.nil_append, List.cons_append]
          refine wk_move (.int .i64 (i : Int)) rfl rfl rfl rfl ?_
          dsimp only [putL, setL, List.set_cons_zero, List.set_cons_succ, List.nil_append, List.cons_append]
          obtain ⟨β4, o4, ha4, hr4⟩ := hH_ys.at_ (rowL_ne (k := i) (by omega))
          refine wk_idxA i 4 rfl rfl rfl rfl ha4 rfl Try.underlying57 (by kernel_rfl) rfl (by omega) ?_
          dsimp only [putL, setL, List.set_cons_zero, List.set_cons_succ, List.nil_append, List.cons_append]
          refine wk_ldA rfl rfl rfl rfl (fun M' w' hm hst => old_range hr4 (rowL_ne (k := i) (by omega)) hst) (by omega) ?_
          dsimp only [putL, setL, List.set_cons_zero, List.set_cons_succ, List.nil_append, List.cons_append]
          refine wk_val (shV ((leftN first 1000 + i * 7), (ix ys i))) rfl rfl rfl (fun w => by kernel_rfl) ?_
          dsimp only [putL, setL, List.set_cons_zero, List.set_cons_succ, List.nil_append, List.cons_append]
          refine wkf_make (z := shsO [((leftN first 1000 + i * 7), (ix ys i))]) (mk := fun β => .slice (some ⟨β, 0, none⟩) 1 1) rfl rfl (fun w => by kernel_rfl) fun β5 => ?_
          dsimp only [putL, setL, List.set_cons_zero, List.set_cons_succ, List.nil_append, List.cons_append]
          refine wk_append (news := (shL [((leftN first 1000 + i * 7), (ix ys i))])) (F := [(β5, shsO [((leftN first 1000 + i * 7), (ix ys i))])]) rfl rfl rfl rfl rfl Try.underlying63 shInfo shBytes shZero rfl (by decide) hf1 (List.perm_append_comm (l₁ := [(β5, shsO [((leftN first 1000 + i * 7), (ix ys i))])]) (l₂ := S)) rfl (fun w' hst => shs_holds (List.mem_of_getElem? (i := 0) rfl) hst) (shL_one _) (by omega) (by omega) fun v6 S6 hO6 => ?_
          dsimp only [putL, setL, List.set_cons_zero, List.set_cons_succ, List.nil_append, List.cons_append]
          refine wk_assign v6 rfl rfl rfl rfl ?_
          dsimp only [putL, setL, List.set_cons_zero, List.set_cons_succ, List.nil_append, List.cons_append]
          refine wk_nil ?_
          refine sp_region (π := [0, 1, 2]) [] rfl rfl ?_
          refine wk_move (.int .i64 (i : Int)) rfl rfl rfl rfl ?_
          dsimp only [putL, setL, List.set_cons_zero, List.set_cons_succ, List.nil_append, List.cons_append]
          refine wk_iop (.int .i64 ((i : Int) + 1)) rfl rfl rfl rfl rfl rfl (iop_add (by omega) (by omega)) ?_
          dsimp only [putL, setL, List.set_cons_zero, List.set_cons_succ, List.nil_append, List.cons_append]
          refine wk_assign (.int .i64 ((i : Int) + 1)) rfl rfl rfl rfl ?_
          dsimp only [putL, setL, List.set_cons_zero, List.set_cons_succ, List.nil_append, List.cons_append]
          refine wk_nil ?_
          exact ⟨S6, _, by exact List.Sublist.cons _ <| List.Sublist.refl _, ⟨(i + 1), v6, S6, (.int .i64 (i : Int)), (.slice a_ys ys.length c_ys), (.int .i64 ((ys.length : Nat) : Int)), (.bool true), (.int .i64 (i : Int)), (.int .i64 ((i : Int) + 1)), v, (.int .i64 first), (.int .u64 (IntKind.u64.wrap first)), (.int .u64 ((leftN first 1000 : Nat) : Int)), (.int .i64 (i : Int)), (.int .u64 (IntKind.u64.wrap (i : Int))), (.int .u64 ((i * 7 : Nat) : Int)), (.int .u64 ((leftN first 1000 + i * 7 : Nat) : Int)), (numV (leftN first 1000 + i * 7)), (.slice a_ys ys.length c_ys), (.int .i64 (i : Int)), (.pointer (some ⟨β4, o4 + i * 4, none⟩)), (numV (ix ys i)), (shV ((leftN first 1000 + i * 7), (ix ys i))), (.slice (some ⟨β5, 0, none⟩) 1 1), v6, rfl, rfl, (by omega), (by rw [gL_row]; exact hO6), rfl⟩, (by omega)⟩
        · skip
          refine wk_iop (.bool false) rfl rfl rfl rfl rfl rfl (iop_lss_f hc3) ?_
          dsimp only [putL, setL, List.set_cons_zero, List.set_cons_succ, List.nil_append, List.cons_append]
          refine wk_nil ?_
          refine sp_false rfl rfl ?_
          refine sp_exit rfl ?_
          refine sp_seq rfl ?_
          refine sp_region (π := [0, 1, 2, 3, 4, 5, 6]) [] rfl rfl ?_
          refine wk_move v rfl rfl rfl rfl ?_
          dsimp only [putL, setL, List.set_cons_zero, List.set_cons_succ, List.nil_append, List.cons_append]
          have hok : wrongI (modW 1) (xsS (gL (tS first ys) i)) = 0 := tS_ok (by omega) (by omega)
          obtain ⟨a7, cp7, hv7, hcp7, hsh7⟩ := hf1.reads
          subst hv7
          refine wk_callS (e := 24) (size := 4) (n := i) (cs := (rowL (thruL (modW 1) (gL (tS first ys) i)))) [(.slice a7 i cp7)] (fun v => .tuple #[v, .int .i64 0]) rfl rfl rfl (enters_of Try.func68 (by kernel_rfl) (by kernel_rfl)) rfl (th_row hok (gL_len _ _)) (by simp only [maxLen]; omega) (fun M' w' hm hst => through_ok (gL (tS first ys) i) i _ _ (gL_len (tS first ys) i) (tS_bound w_ys (by omega)) (by omega) hok w' (hsh7.holds hst (fun p hp => hm p (by simp [hp])))) fun v8 S8 hO8 => ?_
          dsimp only [putL, setL, List.set_cons_zero, List.set_cons_succ, List.nil_append, List.cons_append]
          try simp only [List.append_assoc]
          obtain ⟨a9, cp9, hv9, hcp9, hsh9⟩ := hO8.reads
          subst hv9
          refine wk_move (.tuple #[(.slice a9 i cp9), (.int .i64 0)]) rfl rfl rfl rfl ?_
          dsimp only [putL, setL, List.set_cons_zero, List.set_cons_succ, List.nil_append, List.cons_append]
          refine wk_ext (.slice a9 i cp9) rfl rfl rfl rfl rfl ?_
          dsimp only [putL, setL, List.set_cons_zero, List.set_cons_succ, List.nil_append, List.cons_append]
          refine wk_ext (.int .i64 0) rfl rfl rfl rfl rfl ?_
          dsimp only [putL, setL, List.set_cons_zero, List.set_cons_succ, List.nil_append, List.cons_append]
          refine wk_assign (.slice a9 i cp9) rfl rfl rfl rfl ?_
          dsimp only [putL, setL, List.set_cons_zero, List.set_cons_succ, List.nil_append, List.cons_append]
          refine wk_assign (.int .i64 0) rfl rfl rfl rfl ?_
          dsimp only [putL, setL, List.set_cons_zero, List.set_cons_succ, List.nil_append, List.cons_append]
          refine wk_nil ?_
          refine sp_seq rfl ?_
          refine sp_region (π := [0, 1, 2, 3, 4, 5, 6, 7]) [] rfl rfl ?_
          refine wk_move (.slice a7 i cp7) rfl rfl rfl rfl ?_
          dsimp only [putL, setL, List.set_cons_zero, List.set_cons_succ, List.nil_append, List.cons_append]
          refine wk_callW [(.slice a7 i cp7)] (.tuple #[(numV (ix (thruL (modW 1) (gL (tS first ys) i)) 0)), (.int .i64 0)]) rfl rfl rfl (enters_of Try.func62 (by kernel_rfl) (by kernel_rfl)) rfl (fun M' w' hm hst => (conv_post (by rw [th_zero hok]) (zero_ok (gL (tS first ys) i) i _ _ (gL_len (tS first ys) i) (tS_bound w_ys (by omega)) (by omega) hcp7 hok w' (hsh7.holds hst (fun p hp => hm p (by simp [hp])))))) ?_
          dsimp only [putL, setL, List.set_cons_zero, List.set_cons_succ, List.nil_append, List.cons_append]
          refine wk_move (.tuple #[(numV (ix (thruL (modW 1) (gL (tS first ys) i)) 0)), (.int .i64 0)]) rfl rfl rfl rfl ?_
          dsimp only [putL, setL, List.set_cons_zero, List.set_cons_succ, List.nil_append, List.cons_append]
          refine wk_ext (numV (ix (thruL (modW 1) (gL (tS first ys) i)) 0)) rfl rfl rfl rfl rfl ?_
          dsimp only [putL, setL, List.set_cons_zero, List.set_cons_succ, List.nil_append, List.cons_append]
          refine wk_ext (.int .i64 0) rfl rfl rfl rfl rfl ?_
          dsimp only [putL, setL, List.set_cons_zero, List.set_cons_succ, List.nil_append, List.cons_append]
          refine wkf_newN rfl rfl fun β10 => ?_
          dsimp only [putL, setL, List.set_cons_zero, List.set_cons_succ, List.nil_append, List.cons_append]
          refine wk_stN 0 (ix (thruL (modW 1) (gL (tS first ys) i)) 0) rfl rfl rfl rfl rfl rfl ?_
          dsimp only [putL, setL, List.set_cons_zero, List.set_cons_succ, List.nil_append, List.cons_append]
          refine wk_assign (.int .i64 0) rfl rfl rfl rfl ?_
          dsimp only [putL, setL, List.set_cons_zero, List.set_cons_succ, List.nil_append, List.cons_append]
          refine wk_nil ?_
          refine sp_seq rfl ?_
          refine sp_seq rfl ?_
          refine sp_draw [0, 1, 2, 3, 4, 5, 6, 7, 8, 9, 10, 11, 12, 13, 14, 15, 17, 16, 18, 19, 20, 21, 22, 23, 24, 25, 26] [] mixed rfl (by kernel_rfl) (by kernel_rfl) ?_
          refine wk_move (.int .i64 0) rfl rfl rfl rfl ?_
          dsimp only [putL, setL, List.set_cons_zero, List.set_cons_succ, List.nil_append, List.cons_append]
          refine wk_iop (.bool false) rfl rfl rfl rfl rfl rfl (iop_neq_f (by decide)) ?_
          dsimp only [putL, setL, List.set_cons_zero, List.set_cons_succ, List.nil_append, List.cons_append]
          refine wk_move (.bool false) rfl rfl rfl rfl ?_
          dsimp only [putL, setL, List.set_cons_zero, List.set_cons_succ, List.nil_append, List.cons_append]
          refine wk_move (.int .i64 0) rfl rfl rfl rfl ?_
          dsimp only [putL, setL, List.set_cons_zero, List.set_cons_succ, List.nil_append, List.cons_append]
          refine wk_iop (.bool false) rfl rfl rfl rfl rfl rfl (iop_neq_f (by decide)) ?_
          dsimp only [putL, setL, List.set_cons_zero, List.set_cons_succ, List.nil_append, List.cons_append]
          refine wk_pick false (.bool false) rfl rfl rfl rfl rfl ?_
          dsimp only [putL, setL, List.set_cons_zero, List.set_cons_succ, List.nil_append, List.cons_append]
          refine wk_move (.bool false) rfl rfl rfl rfl ?_
          dsimp only [putL, setL, List.set_cons_zero, List.set_cons_succ, List.nil_append, List.cons_append]
          refine wk_move (.slice a9 i cp9) rfl rfl rfl rfl ?_
          dsimp only [putL, setL, List.set_cons_zero, List.set_cons_succ, List.nil_append, List.cons_append]
          refine wk_lenA rfl rfl rfl rfl Try.underlying57 ?_
          dsimp only [putL, setL, List.set_cons_zero, List.set_cons_succ, List.nil_append, List.cons_append]
          refine wk_move (.slice a7 i cp7) rfl rfl rfl rfl ?_
          dsimp only [putL, setL, List.set_cons_zero, List.set_cons_succ, List.nil_append, List.cons_append]
          refine wk_lenA rfl rfl rfl rfl Try.underlying63 ?_
          dsimp only [putL, setL, List.set_cons_zero, List.set_cons_succ, List.nil_append, List.cons_append]
          refine wk_iop (.bool false) rfl rfl rfl rfl rfl rfl (iop_neq_f rfl) ?_
          dsimp only [putL, setL, List.set_cons_zero, List.set_cons_succ, List.nil_append, List.cons_append]
          refine wk_pick false (.bool false) rfl rfl rfl rfl rfl ?_
          dsimp only [putL, setL, List.set_cons_zero, List.set_cons_succ, List.nil_append, List.cons_append]
          refine wk_move (.bool false) rfl rfl rfl rfl ?_
          dsimp only [putL, setL, List.set_cons_zero, List.set_cons_succ, List.nil_append, List.cons_append]
          refine wk_move (.slice a9 i cp9) rfl rfl rfl rfl ?_
          dsimp only [putL, setL, List.set_cons_zero, List.set_cons_succ, List.nil_append, List.cons_append]
          refine wk_val (numV 0) rfl rfl rfl (fun w => by kernel_rfl) ?_
          dsimp only [putL, setL, List.set_cons_zero, List.set_cons_succ, List.nil_append, List.cons_append]
          refine wk_ldN 0 rfl rfl rfl rfl rfl ?_
          dsimp only [putL, setL, List.set_cons_zero, List.set_cons_succ, List.nil_append, List.cons_append]
          refine wk_callW [(.slice a9 i cp9), (numV 0)] (numV (evalL (modW 1) (thruL (modW 1) (gL (tS first ys) i)) 0)) rfl rfl rfl (enters_of Try.func59 (by kernel_rfl) (by kernel_rfl)) rfl (fun M' w' hm hst => eval_calls' (thruL (modW 1) (gL (tS first ys) i)) i _ _ ((th_len hok).trans (gL_len _ _)) (th_lt hok) (by omega) 0 (by decide) w' (hsh9.holds hst (fun p hp => hm p (by simp [hp])))) ?_
          dsimp only [putL, setL, List.set_cons_zero, List.set_cons_succ, List.nil_append, List.cons_append]
          refine wk_neN false rfl rfl rfl rfl rfl (evalL_lt (modW_pos ok1) (modW_lt 1) _ _) (ix_lt (th_lt hok)) (decide_eq_true (th_eval0 hok)) ?_
          dsimp only [putL, setL, List.set_cons_zero, List.set_cons_succ, List.nil_append, List.cons_append]
          refine wk_pick false (.bool false) rfl rfl rfl rfl rfl ?_
          dsimp only [putL, setL, List.set_cons_zero, List.set_cons_succ, List.nil_append, List.cons_append]
          refine wk_move (.bool false) rfl rfl rfl rfl ?_
          dsimp only [putL, setL, List.set_cons_zero, List.set_cons_succ, List.nil_append, List.cons_append]
          refine wk_move (.slice a9 i cp9) rfl rfl rfl rfl ?_
          dsimp only [putL, setL, List.set_cons_zero, List.set_cons_succ, List.nil_append, List.cons_append]
          obtain ⟨β11, ha11, hr11⟩ := hsh9.at_ (rowL_ne (k := 0) (by have h0 := ((th_len hok).trans (gL_len _ _)); omega))
          refine wk_idxA 0 4 rfl rfl rfl rfl ha11 rfl Try.underlying57 (by kernel_rfl) rfl (by omega) ?_
          dsimp only [putL, setL, List.set_cons_zero, List.set_cons_succ, List.nil_append, List.cons_append]
          refine wk_ldA rfl rfl rfl rfl (fun M' w' hm hst => hr11 w' (fun p hp => hst.own p (hm p (by simp [hp])))) (by have h0 := ((th_len hok).trans (gL_len _ _)); omega) ?_
          dsimp only [putL, setL, List.set_cons_zero, List.set_cons_succ, List.nil_append, List.cons_append]
          refine wk_ldN 0 rfl rfl rfl rfl rfl ?_
          dsimp only [putL, setL, List.set_cons_zero, List.set_cons_succ, List.nil_append, List.cons_append]
          refine wk_neN false rfl rfl rfl rfl rfl (ix_lt (th_lt hok)) (ix_lt (th_lt hok)) (decide_eq_true rfl) ?_
          dsimp only [putL, setL, List.set_cons_zero, List.set_cons_succ, List.nil_append, List.cons_append]
          refine wk_pick false (.bool false) rfl rfl rfl rfl rfl ?_
          dsimp only [putL, setL, List.set_cons_zero, List.set_cons_succ, List.nil_append, List.cons_append]
          refine wk_nil ?_
          refine sp_false rfl rfl ?_
          refine sp_skip rfl ?_
          refine sp_seq rfl ?_
          refine sp_seq rfl ?_
          refine sp_region (π := [0]) [] rfl rfl ?_
          refine wk_assign (.int .i64 0) rfl rfl rfl rfl ?_
          dsimp only [putL, setL, List.set_cons_zero, List.set_cons_succ, List.nil_append, List.cons_append]
          refine wk_nil ?_
          refine sp_block rfl ?_
          refine sp_loopg rfl (fun n l M => ∃ k : Nat, ∃ d4 : Value, ∃ d79 : Value, ∃ d80 : Value, ∃ d81 : Value, ∃ d82 : Value, ∃ d83 : Value, ∃ d84 : Value, ∃ d85 : Value, ∃ d86 : Value, ∃ d87 : Value, ∃ d88 : Value, ∃ d89 : Value, ∃ d90 : Value, ∃ d91 : Value, ∃ d92 : Value, ∃ d93 : Value, ∃ d94 : Value, ∃ d95 : Value, ∃ d96 : Value, ∃ d97 : Value, l = [(.slice a_ys ys.length c_ys), (.int .i64 first), undef, undef, d4, (.slice a7 i cp7), (.int .i64 (i : Int)), (.slice a9 i cp9), (.int .i64 0), (.pointer (some ⟨β10, 0, none⟩)), (.int .i64 0), (.int .i64 (k : Int)), (.slice a_ys ys.length c_ys), (.int .i64 ((ys.length : Nat) : Int)), (.bool false), (.bool false), (.slice a_ys ys.length c_ys), (.int .i64 ((ys.length : Nat) : Int)), (.bool false), (.bool false), (.int .i64 (i : Int)), (.slice a_ys ys.length c_ys), (.int .i64 ((ys.length : Nat) : Int)), (.bool false), d24, d25, d26, d27, d28, d29, d30, d31, d32, d33, d34, d35, d36, d37, d38, d39, d40, d41, (.tuple #[(.slice a9 i cp9), (.int .i64 0)]), (.slice a7 i cp7), (.tuple #[(.slice a9 i cp9), (.int .i64 0)]), (.slice a9 i cp9), (.int .i64 0), (.tuple #[(numV (ix (thruL (modW 1) (gL (tS first ys) i)) 0)), (.int .i64 0)]), (.slice a7 i cp7), (.tuple #[(numV (ix (thruL (modW 1) (gL (tS first ys) i)) 0)), (.int .i64 0)]), (numV (ix (thruL (modW 1) (gL (tS first ys) i)) 0)), (.int .i64 0), (.int .i64 0), (.bool false), (.bool false), (.int .i64 0), (.bool false), (.bool false), (.bool false), (.slice a9 i cp9), (.int .i64 ((i : Nat) : Int)), (.slice a7 i cp7), (.int .i64 ((i : Nat) : Int)), (.bool false), (.bool false), (.bool false), (.slice a9 i cp9), (numV 0), (numV (evalL (modW 1) (thruL (modW 1) (gL (tS first ys) i)) 0)), (numV (ix (thruL (modW 1) (gL (tS first ys) i)) 0)), (.bool false), (.bool false), (.bool false), (.slice a9 i cp9), (.pointer (some ⟨β11, 0 + 0 * 4, none⟩)), (numV (ix (thruL (modW 1) (gL (tS first ys) i)) 0)), (numV (ix (thruL (modW 1) (gL (tS first ys) i)) 0)), (.bool false), (.bool false), d79, d80, d81, d82, d83, d84, d85, d86, d87, d88, d89, d90, d91, d92, d93, d94, d95, d96, d97, undef] ∧ (β10, numO (ix (thruL (modW 1) (gL (tS first ys) i)) 0)) :: (S ++ S8) = M ∧ (k ≤ i) ∧ n = i - k) (i - 0) ?_ ?_
          · exact ⟨0, (.bool false), undef, undef, undef, undef, undef, undef, undef, undef, undef, undef, undef, undef, undef, undef, undef, undef, undef, undef, undef, rfl, rfl, (Nat.zero_le _), rfl⟩
          · skip
            intro n l M
            refine exists_imp.2 fun k => ?_
            refine exists_imp.2 fun d4 => ?_
            refine exists_imp.2 fun d79 => ?_
            refine exists_imp.2 fun d80 => ?_
            refine exists_imp.2 fun d81 => ?_
            refine exists_imp.2 fun d82 => ?_
            refine exists_imp.2 fun d83 => ?_
            refine exists_imp.2 fun d84 => ?_
            refine exists_imp.2 fun d85 => ?_
            refine exists_imp.2 fun d86 => ?_
            refine exists_imp.2 fun d87 => ?_
            refine exists_imp.2 fun d88 => ?_
            refine exists_imp.2 fun d89 => ?_
            refine exists_imp.2 fun d90 => ?_
            refine exists_imp.2 fun d91 => ?_
            refine exists_imp.2 fun d92 => ?_
            refine exists_imp.2 fun d93 => ?_
            refine exists_imp.2 fun d94 => ?_
            refine exists_imp.2 fun d95 => ?_
            refine exists_imp.2 fun d96 => ?_
            refine exists_imp.2 fun d97 => ?_
            rintro ⟨rfl, rfl, hg0, rfl⟩
            refine sp_seq rfl ?_
            refine sp_seq rfl ?_
            refine sp_region (π := [0, 1, 2, 3]) [] rfl rfl ?_
            refine wk_move (.int .i64 (k : Int)) rfl rfl rfl rfl ?_
            dsimp only [putL, setL, List.set_cons_zero, List.set_cons_succ, List.nil_append, List.cons_append]
            refine wk_move (.slice a7 i cp7) rfl rfl rfl rfl ?_
            dsimp only [putL, setL, List.set_cons_zero, List.set_cons_succ, List.nil_append, List.cons_append]
            refine wk_lenA rfl rfl rfl rfl Try.underlying63 ?_
            dsimp only [putL, setL, List.set_cons_zero, List.set_cons_succ, List.nil_append, List.cons_append]
            by_cases hc12 : (k : Int) < ((i : Nat) : Int)
            · skip
              refine wk_iop (.bool true) rfl rfl rfl rfl rfl rfl (iop_lss_t hc12) ?_
              dsimp only [putL, setL, List.set_cons_zero, List.set_cons_succ, List.nil_append, List.cons_append]
              refine wk_nil ?_
              refine sp_true rfl rfl ?_
              refine sp_skip rfl ?_
              refine sp_seq rfl ?_
              refine sp_block rfl ?_
              refine sp_seq rfl ?_
              refine sp_draw [0, 1, 2, 3, 4, 5, 7, 8, 9, 10, 6, 11, 12] [] mixed rfl (by kernel_rfl) (by kernel_rfl) ?_
              refine wk_move (.slice a9 i cp9) rfl rfl rfl rfl ?_
              dsimp only [putL, setL, List.set_cons_zero, List.set_cons_succ, List.nil_append, List.cons_append]
              refine wk_move (.slice a7 i cp7) rfl rfl rfl rfl ?_
              dsimp only [putL, setL, List.set_cons_zero, List.set_cons_succ, List.nil_append, List.cons_append]
              refine wk_move (.int .i64 (k : Int)) rfl rfl rfl rfl ?_
              dsimp only [putL, setL, List.set_cons_zero, List.set_cons_succ, List.nil_append, List.cons_append]
              obtain ⟨β13, ha13, hr13⟩ := hsh7.at_ (shL_ne (k := k) (by have h0 := (gL_len (tS first ys) i); omega))
              refine wk_idxA k 8 rfl rfl rfl rfl ha13 rfl Try.underlying63 (by kernel_rfl) rfl (by omega) ?_
              dsimp only [putL, setL, List.set_cons_zero, List.set_cons_succ, List.nil_append, List.cons_append]
              refine wk_val (.pointer (some ⟨β13, 0 + k * 8, none⟩)) rfl rfl rfl (fun w => by kernel_rfl) ?_
              dsimp only [putL, setL, List.set_cons_zero, List.set_cons_succ, List.nil_append, List.cons_append]
              refine wk_ldXA rfl rfl rfl rfl (fun M' w' hm hst => hr13 w' (fun p hp => hst.own p (hm p (by simp [hp])))) (by have h0 := (gL_len (tS first ys) i); omega) ?_
              dsimp only [putL, setL, List.set_cons_zero, List.set_cons_succ, List.nil_append, List.cons_append]
              refine wk_move (.slice a_ys ys.length c_ys) rfl rfl rfl rfl ?_
              dsimp only [putL, setL, List.set_cons_zero, List.set_cons_succ, List.nil_append, List.cons_append]
              refine wk_move (.int .i64 (k : Int)) rfl rfl rfl rfl ?_
              dsimp only [putL, setL, List.set_cons_zero, List.set_cons_succ, List.nil_append, List.cons_append]
              obtain ⟨β14, o14, ha14, hr14⟩ := hH_ys.at_ (rowL_ne (k := k) (by omega))
              refine wk_idxA k 4 rfl rfl rfl rfl ha14 rfl Try.underlying57 (by kernel_rfl) rfl (by omega) ?_
              dsimp only [putL, setL, List.set_cons_zero, List.set_cons_succ, List.nil_append, List.cons_append]
              refine wk_ldA rfl rfl rfl rfl (fun M' w' hm hst => old_range hr14 (rowL_ne (k := k) (by omega)) hst) (by omega) ?_
              dsimp only [putL, setL, List.set_cons_zero, List.set_cons_succ, List.nil_append, List.cons_append]
              refine wk_callW [(.slice a9 i cp9), (numV (sx (gL (tS first ys) i) k).1)] (numV (evalL (modW 1) (thruL (modW 1) (gL (tS first ys) i)) (sx (gL (tS first ys) i) k).1)) rfl rfl rfl (enters_of Try.func59 (by kernel_rfl) (by kernel_rfl)) rfl (fun M' w' hm hst => eval_calls' (thruL (modW 1) (gL (tS first ys) i)) i _ _ ((th_len hok).trans (gL_len _ _)) (th_lt hok) (by omega) (sx (gL (tS first ys) i) k).1 (sx_lt1 (tS_bound w_ys (by omega))) w' (hsh9.holds hst (fun p hp => hm p (by simp [hp])))) ?_
              dsimp only [putL, setL, List.set_cons_zero, List.set_cons_succ, List.nil_append, List.cons_append]
              refine wk_call [(.int .i64 1), (numV (ix ys k))] (numV ((ix ys k) % modW 1)) rfl rfl rfl (enters_of Try.func45 (by kernel_rfl) (by kernel_rfl)) rfl (red_ok 1 (ix ys k) ok1 (ix_lt w_ys)) ?_
              dsimp only [putL, setL, List.set_cons_zero, List.set_cons_succ, List.nil_append, List.cons_append]
              refine wk_neN false rfl rfl rfl rfl rfl (evalL_lt (modW_pos ok1) (modW_lt 1) _ _) (Nat.lt_trans (Nat.mod_lt _ (modW_pos ok1)) (modW_lt 1)) (decide_eq_true (tS_at hok (by omega))) ?_
              dsimp only [putL, setL, List.set_cons_zero, List.set_cons_succ, List.nil_append, List.cons_append]
              refine wk_nil ?_
              refine sp_false rfl rfl ?_
              refine sp_skip rfl ?_
              refine sp_region (π := [0, 1, 2]) [] rfl rfl ?_
              refine wk_move (.int .i64 (k : Int)) rfl rfl rfl rfl ?_
              dsimp only [putL, setL, List.set_cons_zero, List.set_cons_succ, List.nil_append, List.cons_append]
              refine wk_iop (.int .i64 ((k : Int) + 1)) rfl rfl rfl rfl rfl rfl (iop_add (by omega) (by omega)) ?_
              dsimp only [putL, setL, List.set_cons_zero, List.set_cons_succ, List.nil_append, List.cons_append]
              refine wk_assign (.int .i64 ((k : Int) + 1)) rfl rfl rfl rfl ?_
              dsimp only [putL, setL, List.set_cons_zero, List.set_cons_succ, List.nil_append, List.cons_append]
              refine wk_nil ?_
              exact ⟨(β10, numO (ix (thruL (modW 1) (gL (tS first ys) i)) 0)) :: (S ++ S8), _, List.Sublist.refl _, ⟨(k + 1), d4, (.int .i64 (k : Int)), (.slice a7 i cp7), (.int .i64 ((i : Nat) : Int)), (.bool true), (.int .i64 (k : Int)), (.int .i64 ((k : Int) + 1)), (.slice a9 i cp9), (.slice a7 i cp7), (.int .i64 (k : Int)), (.pointer (some ⟨β13, 0 + k * 8, none⟩)), (.pointer (some ⟨β13, 0 + k * 8, none⟩)), (numV (sx (gL (tS first ys) i) k).1), (numV (evalL (modW 1) (thruL (modW 1) (gL (tS first ys) i)) (sx (gL (tS first ys) i) k).1)), (.slice a_ys ys.length c_ys), (.int .i64 (k : Int)), (.pointer (some ⟨β14, o14 + k * 4, none⟩)), (numV (ix ys k)), (numV ((ix ys k) % modW 1)), (.bool false), rfl, rfl, (by omega), rfl⟩, (by omega)⟩
            · skip
              refine wk_iop (.bool false) rfl rfl rfl rfl rfl rfl (iop_lss_f hc12) ?_
              dsimp only [putL, setL, List.set_cons_zero, List.set_cons_succ, List.nil_append, List.cons_append]
              refine wk_nil ?_
              refine sp_false rfl rfl ?_
              refine sp_exit rfl ?_
              refine sp_seq rfl ?_
              refine sp_region (π := [0, 1]) [] rfl rfl ?_
              refine wk_call [] (.bool true) rfl rfl rfl (enters_of Try.func61 (by kernel_rfl) (by kernel_rfl)) rfl wakes6_calls ?_
              dsimp only [putL, setL, List.set_cons_zero, List.set_cons_succ, List.nil_append, List.cons_append]
              refine wk_assign (.bool true) rfl rfl rfl rfl ?_
              dsimp only [putL, setL, List.set_cons_zero, List.set_cons_succ, List.nil_append, List.cons_append]
              refine wk_nil ?_
              refine sp_ret rfl ?_
              exact ret_tmps (v := .bool true) (fun w' => by kernel_rfl) fun w' hw => ⟨rfl, hw.below⟩

set_option maxRecDepth 100000 in
theorem polyThrough_lifted (os : Os) (started : os.Started) (H : Type) (enc : TypeId × Value → H) :
    ReturnsInHanded {} Try.checked os 24 .any (Rows.polyThroughSpec.pre6 enc Try.prog Try.f24 Rows.polyThroughRow.domain false) (Rows.polyThroughSpec.post enc Try.prog Try.f24 false true false false) := by
  refine returnsInHanded_of_change (C := Try.checked) own started (by kernel_rfl) Try.func24
    (ChangeSpec.witness6 (enc := enc) (C := Try.checked) false ⟨#[], #[.slice none 0 0, .int .i64 0], []⟩ 8 (by kernel_rfl) (by kernel_rfl) (by kernel_rfl) (by kernel_rfl)) ?_
  intro W base args ds gs before hval0 hW hcnd _
  have hval : ∀ (j : Nat) t v, Try.f24.params[j]? = some t → args[j]? = some v → Value.okWide Try.prog W .any base t v := hval0
  have hW' := hW
  obtain ⟨p, q, hA0, hV, rfl, hfz, hnd⟩ := hW
  have hA : DataW.TrodAll enc Try.prog W 0 (fun _ => true) true Try.f24.params.toList args.toList ds p := hA0
  rw [Try.params24] at hA hval
  obtain ⟨v0, vs0, d0, ds0, p0, q0, hargs, rfl, rfl, h0, r0⟩ := trodAll_cons hA
  obtain ⟨v1, vs1, d1, ds1, p1, q1, rfl, rfl, rfl, h1, r1⟩ := trodAll_cons r0
  obtain ⟨rfl, rfl, rfl⟩ := trodAll_nil r1
  obtain rfl : args = #[v0, v1] := by cases args; simp_all
  obtain ⟨rfl, rfl⟩ := trodVars_none hV
  have k0 := h0
  have lt0 : ∀ x ∈ p0, x.block < W.heap.size := by obtain ⟨m, hm⟩ := k0; exact DataW.trod_lt m _ _ _ hm
  have k1 := h1
  have lt1 : ∀ x ∈ p1, x.block < W.heap.size := by obtain ⟨m, hm⟩ := k1; exact DataW.trod_lt m _ _ _ hm
  obtain ⟨a_ys, ys, c_ys, rfl, w_ys, hc_ys, _, hH_ys⟩ := open_nums (hval 0 57 v0 rfl rfl) h0
  obtain ⟨first, rfl, rfl, rfl, w_first0⟩ := open_int Try.underlying3 (hval 1 3 v1 rfl rfl) h1; have w_first := wf_i64 w_first0
  clear hA0 hval0
  refine (polyThrough_walk ys a_ys c_ys first w_ys hc_ys w_first W hH_ys).mono fun e W' ⟨he, bel⟩ => ?_
  subst he
  exact ⟨_, rfl, _, _, _, [], _, [], hW', trodAll_mk1 (shut_bool Try.underlying4 _), (trodAll_cons_mk (Below.trod laidOut (by kernel_rfl) (of_decide_eq_true (by kernel_rfl)) k0 bel lt0) (trodAll_cons_mk (Below.trod laidOut (by kernel_rfl) (of_decide_eq_true (by kernel_rfl)) k1 bel lt1) trodAll_mk0)), rfl, bel.frame _, fun h => by cases h⟩

theorem polyThrough_holds : Rows.PolyThroughSaid :=
  OpenClaim.holds_of_wide 24 Try.f24 rfl rfl rfl rfl rfl rfl rfl ⟨rfl, rfl, rfl, rfl, rfl⟩ rfl rfl rfl rfl rfl (by kernel_rfl) Try.func24 (by kernel_rfl)
    (of_decide_eq_true (by kernel_rfl)) (by unfold Func.isWrapper; first | (rw [if_pos (by decide +kernel)]; kernel_rfl) | (rw [if_neg (by decide +kernel)]; exact ⟨rfl, rfl⟩))
    (fun os started H enc _ => polyThrough_lifted os started H enc)

end Go.Proofs.Ytmecomgifmkkfaa
