/- PolySums: sums of polynomials are worth the sums of what they are worth; weights add up to 1; for every input, no condition. -/
import Derived.Test.YtmecomgifmkkfaaPolyK
import Derived.Test.YtmecomgifmkkfaaOpenS
import Derived.Test.YtmecomgifmkkfaaSymB
import Derived.Test.YtmecomgifmkkfaaFieldD
import Derived.Test.YtmecomgifmkkfaaRefB
import Derived.Test.YtmecomgifmkkfaaLimbM
import Derived.Test.YtmecomgifmkkfaaLimbG
import Derived.Test.YtmecomgifmkkfaaLimbB
import Derived.Test.YtmecomgifmkkfaaRows
import Derived.Test.YtmecomgifmkkfaaOpen
import Derived.Test.YtmecomgifmkkfaaFieldL
import Derived.ProofKit
import Derived.OpenShut
namespace Go.Proofs.Ytmecomgifmkkfaa
set_option linter.unusedVariables false
set_option linter.unusedSimpArgs false
open Go.ChangeShapes Go.WideShapes Go.ChangeAt Go.RowKit

theorem wrap_nat {n : Nat} (h : n < 18446744073709551616) : IntKind.u64.wrap (n : Int) = n := by show (n : Int) % 18446744073709551616 = n; omega
theorem iop_add_nat {a b : Nat} (h : a + b < 18446744073709551616) : iop .add .u64 (a : Int) (b : Int) = some (.int .u64 ((a + b : Nat) : Int)) := by
  have e : IntKind.u64.wrap ((a : Int) + b) = ((a + b : Nat) : Int) := by show ((a : Int) + b) % 18446744073709551616 = _; omega
  simp only [iop, e]
theorem iop_wrap_mul {i c : Nat} (hi : i < 18446744073709551616) (h : i * c < 18446744073709551616) : iop .mul .u64 (IntKind.u64.wrap (i : Int)) (c : Int) = some (.int .u64 ((i * c : Nat) : Int)) := by
  have e : IntKind.u64.wrap ((i : Int) * c) = ((i * c : Nat) : Int) := by rw [← Int.natCast_mul]; exact wrap_nat h
  rw [wrap_nat hi]
  simp only [iop, e]
/-- A whole number, as one of 64 bits, and what is left of it. -/
def leftN (x : Int) (m : Nat) : Nat := ((IntKind.u64.wrap x).tmod m).toNat
theorem wrap_pos (x : Int) : 0 ≤ IntKind.u64.wrap x := by show 0 ≤ x % 18446744073709551616; omega
theorem leftN_eq (x : Int) (m : Nat) : (IntKind.u64.wrap x).tmod m = (leftN x m : Nat) := by
  have := wrap_pos x
  unfold leftN
  rw [Int.toNat_of_nonneg (Int.tmod_nonneg _ this)]
theorem leftN_lt (x : Int) {m : Nat} (h : 0 < m) : leftN x m < m := by
  have h1 := leftN_eq x m
  have h2 := Int.tmod_lt_of_pos (IntKind.u64.wrap x) (b := (m : Int)) (by omega)
  omega

theorem iop_one_add {b : Nat} (h : b < 1000) : iop .add .u64 1 (b : Int) = some (.int .u64 ((1 + b : Nat) : Int)) := iop_add_nat (a := 1) (by omega)
theorem ix_none {xs : List Nat} {k : Nat} (h : xs.length ≤ k) : ix xs k = 0 := by unfold ix; rw [nthO_eq, List.getElem?_eq_none h]; rfl
theorem ix_append_left {a b : List Nat} {k : Nat} (h : k < a.length) : ix (a ++ b) k = ix a k := by
  rw [ix_eq (by rw [List.length_append]; omega), ix_eq h, List.getElem_append_left h]
theorem ix_append_right {a : List Nat} {s k : Nat} (h : k = a.length) : ix (a ++ [s]) k = s := by
  subst h
  rw [ix_eq (by rw [List.length_append]; exact Nat.lt_succ_self _), List.getElem_append_right (Nat.le_refl _)]
  simp
/-- The sums, place by place. -/
def sumL (a b : List Nat) : Nat → List Nat
  | 0 => []
  | i + 1 => sumL a b i ++ [(ix a i + ix b i) % modW 1]
theorem sumL_len (a b : List Nat) : ∀ i, (sumL a b i).length = i
  | 0 => rfl
  | i + 1 => by rw [sumL, List.length_append, sumL_len a b i]; rfl
theorem sumL_row (a b : List Nat) (i : Nat) : rowL (sumL a b (i + 1)) = rowL (sumL a b i) ++ rowL [(ix a i + ix b i) % modW 1] := by rw [sumL, rowL_append]
theorem sumL_lt (a b : List Nat) : ∀ i, ∀ y ∈ sumL a b i, y < W256
  | 0 => by intro y hy; cases hy
  | i + 1 => by
    intro y hy
    rcases List.mem_append.1 hy with h | h
    · exact sumL_lt a b i y h
    · obtain rfl := List.mem_singleton.1 h
      exact Nat.lt_trans (Nat.mod_lt _ (modW_pos ok1)) (modW_lt 1)
theorem ix_sumL (a b : List Nat) : ∀ i k, k < i → ix (sumL a b i) k = (ix a k + ix b k) % modW 1
  | 0, k, h => by omega
  | i + 1, k, h => by
    have hl := sumL_len a b i
    rw [sumL]
    rcases Nat.lt_or_ge k i with h1 | h1
    · rw [ix_append_left (by omega)]; exact ix_sumL a b i k h1
    · rw [ix_append_right (by omega), show k = i by omega]
theorem sum_eval {a b : List Nat} {i : Nat} (x : Nat) (ha : a.length ≤ i) (hb : b.length ≤ i) : evalL (modW 1) (sumL a b i) x = (evalL (modW 1) a x + evalL (modW 1) b x) % modW 1 := by
  have hm := modW_pos ok1
  have h1 := evalL_ev hm x (sumL a b i)
  have h2 : Cg (modW 1) (pv (ints (sumL a b i)) x) (pv (addp (ints a) (ints b)) x) := pv_cg (fun t => by
    rw [co_addp, co_ints, co_ints, co_ints]
    rcases Nat.lt_or_ge t i with h | h
    · rw [ix_sumL a b i t h, ← Int.natCast_add]; exact Cg.mod _
    · rw [ix_none (by rw [sumL_len]; exact h), ix_none (Nat.le_trans ha h), ix_none (Nat.le_trans hb h)]; exact Cg.refl _) x
  rw [pv_addp] at h2
  have h3 := ((evalL_ev hm x a).add (evalL_ev hm x b)).symm
  have h4 := (h1.trans h2).trans h3
  rw [← Int.natCast_add] at h4
  exact (h4.trans (Cg.mod _).symm).eq (evalL_ltm hm _ _) (Nat.mod_lt _ hm)
/-- j numbers, small and unlike. -/
structure PN (ns : List Nat) (j : Nat) : Prop where
  len : ns.length = j
  pl : ∀ k, k < j → ix ns k < 100
  ne : ∀ a, a < j → ∀ b, b < a → ix ns a ≠ ix ns b
theorem PN.nil : PN [] 0 := ⟨rfl, fun k h => by omega, fun a h => by omega⟩
theorem PN.step {ns : List Nat} {j x : Nat} (h : PN ns j) (hx : x < 100) (hn : ∀ b, b < j → ix ns b ≠ x) : PN (ns ++ [x]) (j + 1) := by
  have hl := h.len
  have at0 : ∀ k, k < j → ix (ns ++ [x]) k = ix ns k := fun k hk => ix_append_left (by omega)
  have at1 : ix (ns ++ [x]) j = x := ix_append_right hl.symm
  refine ⟨by rw [List.length_append, hl]; rfl, fun k hk => ?_, fun a ha b hb => ?_⟩
  · rcases Nat.lt_or_ge k j with h1 | h1
    · rw [at0 k h1]; exact h.pl k h1
    · rw [show k = j by omega, at1]; exact hx
  · rcases Nat.lt_or_ge a j with h1 | h1
    · rw [at0 a h1, at0 b (by omega)]; exact h.ne a h1 b hb
    · rw [show a = j by omega, at1, at0 b (by omega)]; exact fun e => hn b (by omega) e.symm
theorem PN.ok {ns : List Nat} {j : Nat} (h : PN ns j) (h0 : 0 < j) (h64 : j ≤ 64) : wrongI (modW 1) ns = 0 :=
  wrongI_ok (by rw [h.len]; omega) (fun a ha b hb h0 => by
    have hm : 100000 < modW 1 := by decide
    have ha' : a < j := by rw [← h.len]; exact ha
    have h1 := h.pl a ha'
    have h2 := h.pl b (by omega)
    have h3 := (subM_zero (modW_pos ok1)).1 h0
    rw [Nat.mod_eq_of_lt (by omega), Nat.mod_eq_of_lt (by omega)] at h3
    exact h.ne a ha' b hb h3)
theorem PN.none {ns : List Nat} {j : Nat} (h : PN ns j) (h0 : j = 0) : wrongI (modW 1) ns = 4 := wrongI_len (by rw [h.len]; exact .inl h0)
theorem PN.bound {ns : List Nat} {j : Nat} (h : PN ns j) : ∀ y ∈ ns, y < W256 := fun s hs => by
  obtain ⟨k, hk, rfl⟩ := List.getElem_of_mem hs
  have h1 := h.pl k (by rw [← h.len]; exact hk)
  rw [ix_eq hk] at h1
  unfold W256; omega
/-- What weights add up to. -/
def accL (m : Nat) (ws : List Nat) : Nat → Nat
  | 0 => 0
  | k + 1 => (accL m ws k + ix ws k) % m
theorem accL_lt (ws : List Nat) (k : Nat) : accL (modW 1) ws k < W256 := by
  cases k with
  | zero => exact W256_pos
  | succ k => exact Nat.lt_trans (Nat.mod_lt _ (modW_pos ok1)) (modW_lt 1)
theorem acc_zero {m : Nat} (ws ns : List Nat) : ∀ k, k ≤ ns.length → accL m ws k = zeroTo m ws (ns.map fun x => (x, 1)) k
  | 0, _ => rfl
  | k + 1, h => by
    have hs : sx (ns.map fun x => (x, 1)) k = (ns[k], 1) := by rw [sx_eq (by rw [List.length_map]; omega)]; simp
    rw [accL, zeroTo, acc_zero ws ns k (by omega), hs, Nat.mul_one, Nat.add_mod_mod]
theorem acc_one {ns : List Nat} (h : wrongI (modW 1) ns = 0) {j : Nat} (hl : ns.length = j) : accL (modW 1) (weightsTo (modW 1) ns ns.length) j = 1 := by
  have e : xsS (ns.map fun x => (x, 1)) = ns := by unfold xsS; rw [List.map_map]; exact (List.map_congr_left (fun _ _ => rfl)).trans (List.map_id _)
  have e2 : (ns.map fun x => (x, 1)).length = ns.length := List.length_map ..
  have hw := wrongI_zero h
  have hz := zero_nat (modW_prime ok1) (ss := ns.map fun x => (x, 1)) (by rw [e]; exact hw.2) (cs := [1]) (by rw [e2]; simp only [List.length_cons, List.length_nil]; omega) (fun k hk => by
    rw [e2] at hk
    have hs : sx (ns.map fun x => (x, 1)) k = (ns[k], 1) := by rw [sx_eq (by simpa using hk)]; simp
    rw [hs]
    simp only [evalL, Nat.zero_mul, Nat.zero_mod, Nat.zero_add])
  rw [e, e2] at hz
  rw [← hl, acc_zero _ ns _ (Nat.le_refl _), hz]
  decide

set_option maxRecDepth 20000 in
set_option maxHeartbeats 2000000 in
theorem polySums_walk (a : List (Nat)) (a_a : Option Addr) (c_a : Nat) (b : List (Nat)) (a_b : Option Addr) (c_b : Nat) (x : Nat) (xs : List (Int)) (a_xs : Option Addr) (c_xs : Nat) (w_a : ∀ x ∈ a, x < W256) (hc_a : a.length ≤ c_a) (w_b : ∀ x ∈ b, x < W256) (hc_b : b.length ≤ c_b) (w_x : x < W256) (w_xs : ∀ x ∈ xs, -9223372036854775808 ≤ x ∧ x ≤ 9223372036854775807) (hc_xs : xs.length ≤ c_xs) (w : World) (hH_a : Holds w a_a (rowL a)) (hH_b : Holds w a_b (rowL b)) (hH_xs : Holds w a_xs (intL xs)) :
    Calls Try.prog 19 #[.slice a_a a.length c_a, .slice a_b b.length c_b, numV x, .slice a_xs xs.length c_xs] w fun e w' => e = .returned (.bool true) ∧ Below w.heap.size w w' := by
  refine fn_calls (l0 := [(.slice a_a a.length c_a), (.slice a_b b.length c_b), (numV x), (.slice a_xs xs.length c_xs), undef, undef, undef, undef, undef, undef, undef, undef, undef, undef, undef, undef, undef, undef, undef, undef, undef, undef, undef, undef, undef, undef, undef, undef, undef, undef, undef, undef, undef, undef, undef, undef, undef, undef, undef, undef, undef, undef, undef, undef, undef, undef, undef, undef, undef, undef, undef, undef, undef, undef, undef, undef, undef, undef, undef, undef, undef, undef, undef, undef, undef, undef, undef, undef, undef, undef, undef, undef, undef, undef, undef, undef, undef, undef, undef, undef, undef, undef, undef, undef, undef, undef, undef, undef, undef, undef, undef, undef, undef, undef, undef, undef, undef, undef, undef, undef, undef, undef, undef, undef, undef, undef, undef, undef, undef, undef, undef, undef, undef, undef, undef, undef, undef, undef, undef, undef, undef, undef, undef, undef, undef, undef, undef, undef, undef, undef, undef, undef, undef, undef, undef, undef, undef, undef, undef, undef, undef, undef, undef, undef, undef, undef, undef, undef, undef, undef, undef, undef, undef, undef, undef, undef, undef, undef, undef, undef, undef, undef]) Try.func19 rfl rfl [] (St.start w) ?_
  refine sp_seq rfl ?_
  refine sp_region (π := [0, 1]) [] rfl rfl ?_
  refine wkf_boxN x rfl rfl rfl fun β1 => ?_
  dsimp only [putL, setL, List.set_cons_zero, List.set_cons_succ, List.nil_append, List.cons_append]
  refine wk_assign (.bool false) rfl rfl rfl rfl ?_
  dsimp only [putL, setL, List.set_cons_zero, List.set_cons_succ, List.nil_append, List.cons_append]
  refine wk_nil ?_
  refine sp_seq rfl ?_
  refine sp_seq rfl ?_
  refine sp_region (π := [0, 1, 2, 3, 4, 5, 6, 7, 8, 9, 10, 11, 12]) [] rfl rfl ?_
  refine wk_move (.slice a_a a.length c_a) rfl rfl rfl rfl ?_
  dsimp only [putL, setL, List.set_cons_zero, List.set_cons_succ, List.nil_append, List.cons_append]
  refine wk_lenA rfl rfl rfl rfl Try.underlying57 ?_
  dsimp only [putL, setL, List.set_cons_zero, List.set_cons_succ, List.nil_append, List.cons_append]
  by_cases hc2 : 20 < ((a.length : Nat) : Int)
  · skip
    refine wk_iop (.bool true) rfl rfl rfl rfl rfl rfl (iop_gtr_t hc2) ?_
    dsimp only [putL, setL, List.set_cons_zero, List.set_cons_succ, List.nil_append, List.cons_append]
    refine wk_move (.bool true) rfl rfl rfl rfl ?_
    dsimp only [putL, setL, List.set_cons_zero, List.set_cons_succ, List.nil_append, List.cons_append]
    refine wk_skip rfl rfl (fun h => by cases h) ?_
    dsimp only [putL, setL, List.set_cons_zero, List.set_cons_succ, List.nil_append, List.cons_append]
    refine wk_skip rfl rfl (fun h => by cases h) ?_
    dsimp only [putL, setL, List.set_cons_zero, List.set_cons_succ, List.nil_append, List.cons_append]
    refine wk_skip rfl rfl (fun h => by cases h) ?_
    dsimp only [putL, setL, List.set_cons_zero, List.set_cons_succ, List.nil_append, List.cons_append]
    refine wk_pick true (.bool true) rfl rfl rfl rfl rfl ?_
    dsimp only [putL, setL, List.set_cons_zero, List.set_cons_succ, List.nil_append, List.cons_append]
    refine wk_move (.bool true) rfl rfl rfl rfl ?_
    dsimp only [putL, setL, List.set_cons_zero, List.set_cons_succ, List.nil_append, List.cons_append]
    refine wk_skip rfl rfl (fun h => by cases h) ?_
    dsimp only [putL, setL, List.set_cons_zero, List.set_cons_succ, List.nil_append, List.cons_append]
    refine wk_skip rfl rfl (fun h => by cases h) ?_
    dsimp only [putL, setL, List.set_cons_zero, List.set_cons_succ, List.nil_append, List.cons_append]
    refine wk_skip rfl rfl (fun h => by cases h) ?_
    dsimp only [putL, setL, List.set_cons_zero, List.set_cons_succ, List.nil_append, List.cons_append]
    refine wk_pick true (.bool true) rfl rfl rfl rfl rfl ?_
    dsimp only [putL, setL, List.set_cons_zero, List.set_cons_succ, List.nil_append, List.cons_append]
    refine wk_nil ?_
    refine sp_true rfl rfl ?_
    refine sp_seq rfl ?_
    refine sp_region (π := [0]) [] rfl rfl ?_
    refine wk_assign (.bool true) rfl rfl rfl rfl ?_
    dsimp only [putL, setL, List.set_cons_zero, List.set_cons_succ, List.nil_append, List.cons_append]
    refine wk_nil ?_
    refine sp_ret rfl ?_
    exact ret_tmps (v := .bool true) (fun w' => by kernel_rfl) fun w' hw => ⟨rfl, hw.below⟩
  · skip
    refine wk_iop (.bool false) rfl rfl rfl rfl rfl rfl (iop_gtr_f hc2) ?_
    dsimp only [putL, setL, List.set_cons_zero, List.set_cons_succ, List.nil_append, List.cons_append]
    refine wk_move (.bool false) rfl rfl rfl rfl ?_
    dsimp only [putL, setL, List.set_cons_zero, List.set_cons_succ, List.nil_append, List.cons_append]
    refine wk_move (.slice a_b b.length c_b) rfl rfl rfl rfl ?_
    dsimp only [putL, setL, List.set_cons_zero, List.set_cons_succ, List.nil_append, List.cons_append]
    refine wk_lenA rfl rfl rfl rfl Try.underlying57 ?_
    dsimp only [putL, setL, List.set_cons_zero, List.set_cons_succ, List.nil_append, List.cons_append]
    by_cases hc3 : 20 < ((b.length : Nat) : Int)
    · skip
      refine wk_iop (.bool true) rfl rfl rfl rfl rfl rfl (iop_gtr_t hc3) ?_
      dsimp only [putL, setL, List.set_cons_zero, List.set_cons_succ, List.nil_append, List.cons_append]
      refine wk_pick false (.bool true) rfl rfl rfl rfl rfl ?_
      dsimp only [putL, setL, List.set_cons_zero, List.set_cons_succ, List.nil_append, List.cons_append]
      refine wk_move (.bool true) rfl rfl rfl rfl ?_
      dsimp only [putL, setL, List.set_cons_zero, List.set_cons_succ, List.nil_append, List.cons_append]
      refine wk_skip rfl rfl (fun h => by cases h) ?_
      dsimp only [putL, setL, List.set_cons_zero, List.set_cons_succ, List.nil_append, List.cons_append]
      refine wk_skip rfl rfl (fun h => by cases h) ?_
      dsimp only [putL, setL, List.set_cons_zero, List.set_cons_succ, List.nil_append, List.cons_append]
      refine wk_skip rfl rfl (fun h => by cases h) ?_
      dsimp only [putL, setL, List.set_cons_zero, List.set_cons_succ, List.nil_append, List.cons_append]
      refine wk_pick true (.bool true) rfl rfl rfl rfl rfl ?_
      dsimp only [putL, setL, List.set_cons_zero, List.set_cons_succ, List.nil_append, List.cons_append]
      refine wk_nil ?_
      refine sp_true rfl rfl ?_
      refine sp_seq rfl ?_
      refine sp_region (π := [0]) [] rfl rfl ?_
      refine wk_assign (.bool true) rfl rfl rfl rfl ?_
      dsimp only [putL, setL, List.set_cons_zero, List.set_cons_succ, List.nil_append, List.cons_append]
      refine wk_nil ?_
      refine sp_ret rfl ?_
      exact ret_tmps (v := .bool true) (fun w' => by kernel_rfl) fun w' hw => ⟨rfl, hw.below⟩
    · skip
      refine wk_iop (.bool false) rfl rfl rfl rfl rfl rfl (iop_gtr_f hc3) ?_
      dsimp only [putL, setL, List.set_cons_zero, List.set_cons_succ, List.nil_append, List.cons_append]
      refine wk_pick false (.bool false) rfl rfl rfl rfl rfl ?_
      dsimp only [putL, setL, List.set_cons_zero, List.set_cons_succ, List.nil_append, List.cons_append]
      refine wk_move (.bool false) rfl rfl rfl rfl ?_
      dsimp only [putL, setL, List.set_cons_zero, List.set_cons_succ, List.nil_append, List.cons_append]
      refine wk_move (.slice a_xs xs.length c_xs) rfl rfl rfl rfl ?_
      dsimp only [putL, setL, List.set_cons_zero, List.set_cons_succ, List.nil_append, List.cons_append]
      refine wk_lenA rfl rfl rfl rfl Try.underlying58 ?_
      dsimp only [putL, setL, List.set_cons_zero, List.set_cons_succ, List.nil_append, List.cons_append]
      by_cases hc4 : 8 < ((xs.length : Nat) : Int)
      · skip
        refine wk_iop (.bool true) rfl rfl rfl rfl rfl rfl (iop_gtr_t hc4) ?_
        dsimp only [putL, setL, List.set_cons_zero, List.set_cons_succ, List.nil_append, List.cons_append]
        refine wk_pick false (.bool true) rfl rfl rfl rfl rfl ?_
        dsimp only [putL, setL, List.set_cons_zero, List.set_cons_succ, List.nil_append, List.cons_append]
        refine wk_nil ?_
        refine sp_true rfl rfl ?_
        refine sp_seq rfl ?_
        refine sp_region (π := [0]) [] rfl rfl ?_
        refine wk_assign (.bool true) rfl rfl rfl rfl ?_
        dsimp only [putL, setL, List.set_cons_zero, List.set_cons_succ, List.nil_append, List.cons_append]
        refine wk_nil ?_
        refine sp_ret rfl ?_
        exact ret_tmps (v := .bool true) (fun w' => by kernel_rfl) fun w' hw => ⟨rfl, hw.below⟩
      · skip
        refine wk_iop (.bool false) rfl rfl rfl rfl rfl rfl (iop_gtr_f hc4) ?_
        dsimp only [putL, setL, List.set_cons_zero, List.set_cons_succ, List.nil_append, List.cons_append]
        refine wk_pick false (.bool false) rfl rfl rfl rfl rfl ?_
        dsimp only [putL, setL, List.set_cons_zero, List.set_cons_succ, List.nil_append, List.cons_append]
        refine wk_nil ?_
        refine sp_false rfl rfl ?_
        refine sp_skip rfl ?_
        refine sp_seq rfl ?_
        refine sp_region (π := [0]) [] rfl rfl ?_
        refine wk_assign (.slice none 0 0) rfl rfl rfl rfl ?_
        dsimp only [putL, setL, List.set_cons_zero, List.set_cons_succ, List.nil_append, List.cons_append]
        refine wk_nil ?_
        refine sp_seq rfl ?_
        refine sp_seq rfl ?_
        refine sp_region (π := [0]) [] rfl rfl ?_
        refine wk_assign (.int .i64 0) rfl rfl rfl rfl ?_
        dsimp only [putL, setL, List.set_cons_zero, List.set_cons_succ, List.nil_append, List.cons_append]
        refine wk_nil ?_
        refine sp_block rfl ?_
        refine sp_loopg rfl (fun n l M => ∃ i : Nat, ∃ v : Value, ∃ S : Mem, ∃ d11 : Value, ∃ d12 : Value, ∃ d35 : Value, ∃ d36 : Value, ∃ d37 : Value, ∃ d38 : Value, ∃ d39 : Value, ∃ d40 : Value, ∃ d41 : Value, ∃ d42 : Value, ∃ d43 : Value, ∃ d44 : Value, ∃ d45 : Value, ∃ d46 : Value, ∃ d47 : Value, ∃ d48 : Value, ∃ d49 : Value, ∃ d50 : Value, ∃ d51 : Value, ∃ d52 : Value, ∃ d53 : Value, ∃ d54 : Value, ∃ d55 : Value, ∃ d56 : Value, ∃ d57 : Value, ∃ d58 : Value, ∃ d59 : Value, ∃ d60 : Value, ∃ d61 : Value, ∃ d62 : Value, ∃ d63 : Value, ∃ d64 : Value, ∃ d65 : Value, ∃ d66 : Value, ∃ d67 : Value, ∃ d68 : Value, l = [(.slice a_a a.length c_a), (.slice a_b b.length c_b), (numV x), (.slice a_xs xs.length c_xs), undef, undef, (.pointer (some ⟨β1, 0, none⟩)), undef, (.bool false), v, (.int .i64 (i : Int)), d11, d12, undef, undef, undef, undef, undef, undef, undef, undef, undef, (.slice a_a a.length c_a), (.int .i64 ((a.length : Nat) : Int)), (.bool false), (.bool false), (.slice a_b b.length c_b), (.int .i64 ((b.length : Nat) : Int)), (.bool false), (.bool false), (.bool false), (.slice a_xs xs.length c_xs), (.int .i64 ((xs.length : Nat) : Int)), (.bool false), (.bool false), d35, d36, d37, d38, d39, d40, d41, d42, d43, d44, d45, d46, d47, d48, d49, d50, d51, d52, d53, d54, d55, d56, d57, d58, d59, d60, d61, d62, d63, d64, d65, d66, d67, d68, undef, undef, undef, undef, undef, undef, undef, undef, undef, undef, undef, undef, undef, undef, undef, undef, undef, undef, undef, undef, undef, undef, undef, undef, undef, undef, undef, undef, undef, undef, undef, undef, undef, undef, undef, undef, undef, undef, undef, undef, undef, undef, undef, undef, undef, undef, undef, undef, undef, undef, undef, undef, undef, undef, undef, undef, undef, undef, undef, undef, undef, undef, undef, undef, undef, undef, undef, undef, undef, undef, undef, undef, undef, undef, undef, undef, undef, undef, undef, undef, undef, undef, undef, undef, undef, undef, undef, undef, undef, undef, undef, undef, undef] ∧ (β1, numO x) :: S = M ∧ (i ≤ a.length ∨ i ≤ b.length) ∧ (OwnS 24 4 v i (rowL (sumL a b i)) S) ∧ n = a.length + b.length - i) (a.length + b.length - 0) ?_ ?_
        · exact ⟨0, (.slice none 0 0), [], undef, undef, undef, undef, undef, undef, undef, undef, undef, undef, undef, undef, undef, undef, undef, undef, undef, undef, undef, undef, undef, undef, undef, undef, undef, undef, undef, undef, undef, undef, undef, undef, undef, undef, undef, undef, rfl, rfl, (.inl (Nat.zero_le _)), (OwnS.nil _ _), rfl⟩
        · skip
          intro n l M
          refine exists_imp.2 fun i => ?_
          refine exists_imp.2 fun v => ?_
          refine exists_imp.2 fun S => ?_
          refine exists_imp.2 fun d11 => ?_
          refine exists_imp.2 fun d12 => ?_
          refine exists_imp.2 fun d35 => ?_
          refine exists_imp.2 fun d36 => ?_
          refine exists_imp.2 fun d37 => ?_
          refine exists_imp.2 fun d38 => ?_
          refine exists_imp.2 fun d39 => ?_
          refine exists_imp.2 fun d40 => ?_
          refine exists_imp.2 fun d41 => ?_
          refine exists_imp.2 fun d42 => ?_
          refine exists_imp.2 fun d43 => ?_
          refine exists_imp.2 fun d44 => ?_
          refine exists_imp.2 fun d45 => ?_
          refine exists_imp.2 fun d46 => ?_
          refine exists_imp.2 fun d47 => ?_
          refine exists_imp.2 fun d48 => ?_
          refine exists_imp.2 fun d49 => ?_
          refine exists_imp.2 fun d50 => ?_
          refine exists_imp.2 fun d51 => ?_
          refine exists_imp.2 fun d52 => ?_
          refine exists_imp.2 fun d53 => ?_
          refine exists_imp.2 fun d54 => ?_
          refine exists_imp.2 fun d55 => ?_
          refine exists_imp.2 fun d56 => ?_
          refine exists_imp.2 fun d57 => ?_
          refine exists_imp.2 fun d58 => ?_
          refine exists_imp.2 fun d59 => ?_
          refine exists_imp.2 fun d60 => ?_
          refine exists_imp.2 fun d61 => ?_
          refine exists_imp.2 fun d62 => ?_
          refine exists_imp.2 fun d63 => ?_
          refine exists_imp.2 fun d64 => ?_
          refine exists_imp.2 fun d65 => ?_
          refine exists_imp.2 fun d66 => ?_
          refine exists_imp.2 fun d67 => ?_
          refine exists_imp.2 fun d68 => ?_
          rintro ⟨rfl, rfl, hf0, hf1, rfl⟩
          refine sp_seq rfl ?_
          refine sp_seq rfl ?_
          refine sp_region (π := [0, 1, 2, 3, 4, 5, 6, 7, 8, 9]) [] rfl rfl ?_
          refine wk_move (.int .i64 (i : Int)) rfl rfl rfl rfl ?_
          dsimp only [putL, setL, List.set_cons_zero, List.set_cons_succ, List.nil_append, List.cons_append]
          refine wk_move (.slice a_a a.length c_a) rfl rfl rfl rfl ?_
          dsimp only [putL, setL, List.set_cons_zero, List.set_cons_succ, List.nil_append, List.cons_append]
          refine wk_lenA rfl rfl rfl rfl Try.underlying57 ?_
          dsimp only [putL, setL, List.set_cons_zero, List.set_cons_succ, List.nil_append, List.cons_append]
          by_cases hc5 : (i : Int) < ((a.length : Nat) : Int)
          · skip
            refine wk_iop (.bool true) rfl rfl rfl rfl rfl rfl (iop_lss_t hc5) ?_
            dsimp only [putL, setL, List.set_cons_zero, List.set_cons_succ, List.nil_append, List.cons_append]
            refine wk_move (.bool true) rfl rfl rfl rfl ?_
            dsimp only [putL, setL, List.set_cons_zero, List.set_cons_succ, List.nil_append, List.cons_append]
            refine wk_skip rfl rfl (fun h => by cases h) ?_
            dsimp only [putL, setL, List.set_cons_zero, List.set_cons_succ, List.nil_append, List.cons_append]
            refine wk_skip rfl rfl (fun h => by cases h) ?_
            dsimp only [putL, setL, List.set_cons_zero, List.set_cons_succ, List.nil_append, List.cons_append]
            refine wk_skip rfl rfl (fun h => by cases h) ?_
            dsimp only [putL, setL, List.set_cons_zero, List.set_cons_succ, List.nil_append, List.cons_append]
            refine wk_skip rfl rfl (fun h => by cases h) ?_
            dsimp only [putL, setL, List.set_cons_zero, List.set_cons_succ, List.nil_append, List.cons_append]
            refine wk_pick true (.bool true) rfl rfl rfl rfl rfl ?_
            dsimp only [putL, setL, List.set_cons_zero, List.set_cons_succ, List.nil_append, List.cons_append]
            refine wk_nil ?_
            refine sp_true rfl rfl ?_
            refine sp_skip rfl ?_
            refine sp_seq rfl ?_
            refine sp_block rfl ?_
            refine sp_seq rfl ?_
            refine sp_region (π := [0, 1]) [] rfl rfl ?_
            refine wkf_newN rfl rfl fun β6 => ?_
            dsimp only [putL, setL, List.set_cons_zero, List.set_cons_succ, List.nil_append, List.cons_append]
            refine wkf_newN rfl rfl fun β7 => ?_
            dsimp only [putL, setL, List.set_cons_zero, List.set_cons_succ, List.nil_append, List.cons_append]
            refine wk_nil ?_
            refine sp_seq rfl ?_
            refine sp_seq rfl ?_
            refine sp_region (π := [0, 1, 2, 3]) [] rfl rfl ?_
            refine wk_move (.int .i64 (i : Int)) rfl rfl rfl rfl ?_
            dsimp only [putL, setL, List.set_cons_zero, List.set_cons_succ, List.nil_append, List.cons_append]
            refine wk_move (.slice a_a a.length c_a) rfl rfl rfl rfl ?_
            dsimp only [putL, setL, List.set_cons_zero, List.set_cons_succ, List.nil_append, List.cons_append]
            refine wk_lenA rfl rfl rfl rfl Try.underlying57 ?_
            dsimp only [putL, setL, List.set_cons_zero, List.set_cons_succ, List.nil_append, List.cons_append]
            refine wk_iop (.bool true) rfl rfl rfl rfl rfl rfl (iop_lss_t hc5) ?_
            dsimp only [putL, setL, List.set_cons_zero, List.set_cons_succ, List.nil_append, List.cons_append]
            refine wk_nil ?_
            refine sp_true rfl rfl ?_
            refine sp_region (π := [0, 1, 2, 3, 4]) [] rfl rfl ?_
            refine wk_move (.slice a_a a.length c_a) rfl rfl rfl rfl ?_
            dsimp only [putL, setL, List.set_cons_zero, List.set_cons_succ, List.nil_append, List.cons_append]
            refine wk_move (.int .i64 (i : Int)) rfl rfl rfl rfl ?_
            dsimp only [putL, setL, List.set_cons_zero, List.set_cons_succ, List.nil_append, List.cons_append]
            obtain ⟨β8, o8, ha8, hr8⟩ := hH_a.at_ (rowL_ne (k := i) (by omega))
            refine wk_idxA i 4 rfl rfl rfl rfl ha8 rfl Try.underlying57 (by kernel_rfl) rfl (by omega) ?_
            dsimp only [putL, setL, List.set_cons_zero, List.set_cons_succ, List.nil_append, List.cons_append]
            refine wk_ldA rfl rfl rfl rfl (fun M' w' hm hst => old_range hr8 (rowL_ne (k := i) (by omega)) hst) (by omega) ?_
            dsimp only [putL, setL, List.set_cons_zero, List.set_cons_succ, List.nil_append, List.cons_append]
            refine wk_stN 1 (ix a i) rfl rfl rfl rfl rfl rfl ?_
            dsimp only [putL, setL, List.set_cons_zero, List.set_cons_succ, List.nil_append, List.cons_append]
            refine wk_nil ?_
            refine sp_seq rfl ?_
            refine sp_seq rfl ?_
            refine sp_region (π := [0, 1, 2, 3]) [] rfl rfl ?_
            refine wk_move (.int .i64 (i : Int)) rfl rfl rfl rfl ?_
            dsimp only [putL, setL, List.set_cons_zero, List.set_cons_succ, List.nil_append, List.cons_append]
            refine wk_move (.slice a_b b.length c_b) rfl rfl rfl rfl ?_
            dsimp only [putL, setL, List.set_cons_zero, List.set_cons_succ, List.nil_append, List.cons_append]
            refine wk_lenA rfl rfl rfl rfl Try.underlying57 ?_
            dsimp only [putL, setL, List.set_cons_zero, List.set_cons_succ, List.nil_append, List.cons_append]
            by_cases hc9 : (i : Int) < ((b.length : Nat) : Int)
            · skip
              refine wk_iop (.bool true) rfl rfl rfl rfl rfl rfl (iop_lss_t hc9) ?_
              dsimp only [putL, setL, List.set_cons_zero, List.set_cons_succ, List.nil_append, List.cons_append]
              refine wk_nil ?_
              refine sp_true rfl rfl ?_
              refine sp_region (π := [0, 1, 2, 3, 4]) [] rfl rfl ?_
              refine wk_move (.slice a_b b.length c_b) rfl rfl rfl rfl ?_
              dsimp only [putL, setL, List.set_cons_zero, List.set_cons_succ, List.nil_append, List.cons_append]
              refine wk_move (.int .i64 (i : Int)) rfl rfl rfl rfl ?_
              dsimp only [putL, setL, List.set_cons_zero, List.set_cons_succ, List.nil_append, List.cons_append]
              obtain ⟨β10, o10, ha10, hr10⟩ := hH_b.at_ (rowL_ne (k := i) (by omega))
              refine wk_idxA i 4 rfl rfl rfl rfl ha10 rfl Try.underlying57 (by kernel_rfl) rfl (by omega) ?_
              dsimp only [putL, setL, List.set_cons_zero, List.set_cons_succ, List.nil_append, List.cons_append]
              refine wk_ldA rfl rfl rfl rfl (fun M' w' hm hst => old_range hr10 (rowL_ne (k := i) (by omega)) hst) (by omega) ?_
              dsimp only [putL, setL, List.set_cons_zero, List.set_cons_succ, List.nil_append, List.cons_append]
              refine wk_stN 0 (ix b i) rfl rfl rfl rfl rfl rfl ?_
              dsimp only [putL, setL, List.set_cons_zero, List.set_cons_succ, List.nil_append, List.cons_append]
              refine wk_nil ?_
              refine sp_region (π := [0, 1, 2, 3, 4, 5, 6]) [] rfl rfl ?_
              refine wk_move v rfl rfl rfl rfl ?_
              dsimp only [putL, setL, List.set_cons_zero, List.set_cons_succ, List.nil_append, List.cons_append]
              refine wk_ldN 1 rfl rfl rfl rfl rfl ?_
              dsimp only [putL, setL, List.set_cons_zero, List.set_cons_succ, List.nil_append, List.cons_append]
              refine wk_ldN 0 rfl rfl rfl rfl rfl ?_
              dsimp only [putL, setL, List.set_cons_zero, List.set_cons_succ, List.nil_append, List.cons_append]
              refine wk_call [(.int .i64 1), (numV (ix a i)), (numV (ix b i))] (numV (((ix a i) + (ix b i)) % modW 1)) rfl rfl rfl (enters_of Try.func47 (by kernel_rfl) (by kernel_rfl)) rfl (fadd_ok 1 (ix a i) (ix b i) ok1 (ix_lt w_a) (ix_lt w_b)) ?_
              dsimp only [putL, setL, List.set_cons_zero, List.set_cons_succ, List.nil_append, List.cons_append]
              refine wkf_make (z := rowO [(((ix a i) + (ix b i)) % modW 1)]) (mk := fun β => .slice (some ⟨β, 0, none⟩) 1 1) rfl rfl (fun w => by kernel_rfl) fun β11 => ?_
              dsimp only [putL, setL, List.set_cons_zero, List.set_cons_succ, List.nil_append, List.cons_append]
              refine wk_append (news := (rowL [(((ix a i) + (ix b i)) % modW 1)])) (F := [(β11, rowO [(((ix a i) + (ix b i)) % modW 1)]), (β7, numO (ix b i)), (β6, numO (ix a i)), (β1, numO x)]) rfl rfl rfl rfl rfl Try.underlying57 ninfo numBytes nzero rfl (by decide) hf1 (List.perm_append_comm (l₁ := [(β11, rowO [(((ix a i) + (ix b i)) % modW 1)]), (β7, numO (ix b i)), (β6, numO (ix a i)), (β1, numO x)]) (l₂ := S)) rfl (fun w' hst => row_holds (List.mem_of_getElem? (i := 0) rfl) hst) (rowL_one _) (by omega) (by omega) fun v12 S12 hO12 => ?_
              dsimp only [putL, setL, List.set_cons_zero, List.set_cons_succ, List.nil_append, List.cons_append]
              refine wk_assign v12 rfl rfl rfl rfl ?_
              dsimp only [putL, setL, List.set_cons_zero, List.set_cons_succ, List.nil_append, List.cons_append]
              refine wk_nil ?_
              refine sp_region (π := [0, 1, 2]) [] rfl rfl ?_
              refine wk_move (.int .i64 (i : Int)) rfl rfl rfl rfl ?_
              dsimp only [putL, setL, List.set_cons_zero, List.set_cons_succ, List.nil_append, List.cons_append]
              refine wk_iop (.int .i64 ((i : Int) + 1)) rfl rfl rfl rfl rfl rfl (iop_add (by omega) (by omega)) ?_
              dsimp only [putL, setL, List.set_cons_zero, List.set_cons_succ, List.nil_append, List.cons_append]
              refine wk_assign (.int .i64 ((i : Int) + 1)) rfl rfl rfl rfl ?_
              dsimp only [putL, setL, List.set_cons_zero, List.set_cons_succ, List.nil_append, List.cons_append]
              refine wk_nil ?_
              exact ⟨(β1, numO x) :: S12, _, by exact List.Sublist.cons _ <| List.Sublist.cons _ <| List.Sublist.cons _ <| List.Sublist.cons_cons _ <| List.Sublist.refl _, ⟨(i + 1), v12, S12, (.pointer (some ⟨β6, 0, none⟩)), (.pointer (some ⟨β7, 0, none⟩)), (.int .i64 (i : Int)), (.slice a_a a.length c_a), (.int .i64 ((a.length : Nat) : Int)), (.bool true), (.bool true), undef, undef, undef, undef, (.bool true), (.int .i64 (i : Int)), (.int .i64 ((i : Int) + 1)), (.int .i64 (i : Int)), (.slice a_a a.length c_a), (.int .i64 ((a.length : Nat) : Int)), (.bool true), (.slice a_a a.length c_a), (.int .i64 (i : Int)), (.pointer (some ⟨β8, o8 + i * 4, none⟩)), (numV (ix a i)), (.int .i64 (i : Int)), (.slice a_b b.length c_b), (.int .i64 ((b.length : Nat) : Int)), (.bool true), (.slice a_b b.length c_b), (.int .i64 (i : Int)), (.pointer (some ⟨β10, o10 + i * 4, none⟩)), (numV (ix b i)), v, (numV (ix a i)), (numV (ix b i)), (numV (((ix a i) + (ix b i)) % modW 1)), (.slice (some ⟨β11, 0, none⟩) 1 1), v12, rfl, rfl, (by omega), (by rw [sumL_row]; exact hO12), rfl⟩, (by omega)⟩
            · skip
              refine wk_iop (.bool false) rfl rfl rfl rfl rfl rfl (iop_lss_f hc9) ?_
              dsimp only [putL, setL, List.set_cons_zero, List.set_cons_succ, List.nil_append, List.cons_append]
              refine wk_nil ?_
              refine sp_false rfl rfl ?_
              refine sp_skip rfl ?_
              refine sp_region (π := [0, 1, 2, 3, 4, 5, 6]) [] rfl rfl ?_
              refine wk_move v rfl rfl rfl rfl ?_
              dsimp only [putL, setL, List.set_cons_zero, List.set_cons_succ, List.nil_append, List.cons_append]
              refine wk_ldN 1 rfl rfl rfl rfl rfl ?_
              dsimp only [putL, setL, List.set_cons_zero, List.set_cons_succ, List.nil_append, List.cons_append]
              refine wk_ldN 0 rfl rfl rfl rfl rfl ?_
              dsimp only [putL, setL, List.set_cons_zero, List.set_cons_succ, List.nil_append, List.cons_append]
              refine wk_call [(.int .i64 1), (numV (ix a i)), (numV 0)] (numV (((ix a i) + 0) % modW 1)) rfl rfl rfl (enters_of Try.func47 (by kernel_rfl) (by kernel_rfl)) rfl (fadd_ok 1 (ix a i) 0 ok1 (ix_lt w_a) W256_pos) ?_
              dsimp only [putL, setL, List.set_cons_zero, List.set_cons_succ, List.nil_append, List.cons_append]
              refine wkf_make (z := rowO [(((ix a i) + 0) % modW 1)]) (mk := fun β => .slice (some ⟨β, 0, none⟩) 1 1) rfl rfl (fun w => by kernel_rfl) fun β13 => ?_
              dsimp only [putL, setL, List.set_cons_zero, List.set_cons_succ, List.nil_append, List.cons_append]
              refine wk_append (news := (rowL [(((ix a i) + 0) % modW 1)])) (F := [(β13, rowO [(((ix a i) + 0) % modW 1)]), (β7, numO 0), (β6, numO (ix a i)), (β1, numO x)]) rfl rfl rfl rfl rfl Try.underlying57 ninfo numBytes nzero rfl (by decide) hf1 (List.perm_append_comm (l₁ := [(β13, rowO [(((ix a i) + 0) % modW 1)]), (β7, numO 0), (β6, numO (ix a i)), (β1, numO x)]) (l₂ := S)) rfl (fun w' hst => row_holds (List.mem_of_getElem? (i := 0) rfl) hst) (rowL_one _) (by omega) (by omega) fun v14 S14 hO14 => ?_
              dsimp only [putL, setL, List.set_cons_zero, List.set_cons_succ, List.nil_append, List.cons_append]
              refine wk_assign v14 rfl rfl rfl rfl ?_
              dsimp only [putL, setL, List.set_cons_zero, List.set_cons_succ, List.nil_append, List.cons_append]
              refine wk_nil ?_
              refine sp_region (π := [0, 1, 2]) [] rfl rfl ?_
              refine wk_move (.int .i64 (i : Int)) rfl rfl rfl rfl ?_
              dsimp only [putL, setL, List.set_cons_zero, List.set_cons_succ, List.nil_append, List.cons_append]
              refine wk_iop (.int .i64 ((i : Int) + 1)) rfl rfl rfl rfl rfl rfl (iop_add (by omega) (by omega)) ?_
              dsimp only [putL, setL, List.set_cons_zero, List.set_cons_succ, List.nil_append, List.cons_append]
              refine wk_assign (.int .i64 ((i : Int) + 1)) rfl rfl rfl rfl ?_
              dsimp only [putL, setL, List.set_cons_zero, List.set_cons_succ, List.nil_append, List.cons_append]
              refine wk_nil ?_
              exact ⟨(β1, numO x) :: S14, _, by exact List.Sublist.cons _ <| List.Sublist.cons _ <| List.Sublist.cons _ <| List.Sublist.cons_cons _ <| List.Sublist.refl _, ⟨(i + 1), v14, S14, (.pointer (some ⟨β6, 0, none⟩)), (.pointer (some ⟨β7, 0, none⟩)), (.int .i64 (i : Int)), (.slice a_a a.length c_a), (.int .i64 ((a.length : Nat) : Int)), (.bool true), (.bool true), undef, undef, undef, undef, (.bool true), (.int .i64 (i : Int)), (.int .i64 ((i : Int) + 1)), (.int .i64 (i : Int)), (.slice a_a a.length c_a), (.int .i64 ((a.length : Nat) : Int)), (.bool true), (.slice a_a a.length c_a), (.int .i64 (i : Int)), (.pointer (some ⟨β8, o8 + i * 4, none⟩)), (numV (ix a i)), (.int .i64 (i : Int)), (.slice a_b b.length c_b), (.int .i64 ((b.length : Nat) : Int)), (.bool false), d59, d60, d61, d62, v, (numV (ix a i)), (numV 0), (numV (((ix a i) + 0) % modW 1)), (.slice (some ⟨β13, 0, none⟩) 1 1), v14, rfl, rfl, (by omega), (by rw [sumL_row, ix_none (xs := b) (by omega)]; exact hO14), rfl⟩, (by omega)⟩
          · skip
            refine wk_iop (.bool false) rfl rfl rfl rfl rfl rfl (iop_lss_f hc5) ?_
            dsimp only [putL, setL, List.set_cons_zero, List.set_cons_succ, List.nil_append, List.cons_append]
            refine wk_move (.bool false) rfl rfl rfl rfl ?_
            dsimp only [putL, setL, List.set_cons_zero, List.set_cons_succ, List.nil_append, List.cons_append]
            refine wk_move (.int .i64 (i : Int)) rfl rfl rfl rfl ?_
            dsimp only [putL, setL, List.set_cons_zero, List.set_cons_succ, List.nil_append, List.cons_append]
            refine wk_move (.slice a_b b.length c_b) rfl rfl rfl rfl ?_
            dsimp only [putL, setL, List.set_cons_zero, List.set_cons_succ, List.nil_append, List.cons_append]
            refine wk_lenA rfl rfl rfl rfl Try.underlying57 ?_
            dsimp only [putL, setL, List.set_cons_zero, List.set_cons_succ, List.nil_append, List.cons_append]
            by_cases hc15 : (i : Int) < ((b.length : Nat) : Int)
            · skip
              refine wk_iop (.bool true) rfl rfl rfl rfl rfl rfl (iop_lss_t hc15) ?_
              dsimp only [putL, setL, List.set_cons_zero, List.set_cons_succ, List.nil_append, List.cons_append]
              refine wk_pick false (.bool true) rfl rfl rfl rfl rfl ?_
              dsimp only [putL, setL, List.set_cons_zero, List.set_cons_succ, List.nil_append, List.cons_append]
              refine wk_nil ?_
              refine sp_true rfl rfl ?_
              refine sp_skip rfl ?_
              refine sp_seq rfl ?_
              refine sp_block rfl ?_
              refine sp_seq rfl ?_
              refine sp_region (π := [0, 1]) [] rfl rfl ?_
              refine wkf_newN rfl rfl fun β16 => ?_
              dsimp only [putL, setL, List.set_cons_zero, List.set_cons_succ, List.nil_append, List.cons_append]
              refine wkf_newN rfl rfl fun β17 => ?_
              dsimp only [putL, setL, List.set_cons_zero, List.set_cons_succ, List.nil_append, List.cons_append]
              refine wk_nil ?_
              refine sp_seq rfl ?_
              refine sp_seq rfl ?_
              refine sp_region (π := [0, 1, 2, 3]) [] rfl rfl ?_
              refine wk_move (.int .i64 (i : Int)) rfl rfl rfl rfl ?_
              dsimp only [putL, setL, List.set_cons_zero, List.set_cons_succ, List.nil_append, List.cons_append]
              refine wk_move (.slice a_a a.length c_a) rfl rfl rfl rfl ?_
              dsimp only [putL, setL, List.set_cons_zero, List.set_cons_succ, List.nil_append, List.cons_append]
              refine wk_lenA rfl rfl rfl rfl Try.underlying57 ?_
              dsimp only [putL, setL, List.set_cons_zero, List.set_cons_succ, List.nil_append, List.cons_append]
              refine wk_iop (.bool false) rfl rfl rfl rfl rfl rfl (iop_lss_f hc5) ?_
              dsimp only [putL, setL, List.set_cons_zero, List.set_cons_succ, List.nil_append, List.cons_append]
              refine wk_nil ?_
              refine sp_false rfl rfl ?_
              refine sp_skip rfl ?_
              refine sp_seq rfl ?_
              refine sp_seq rfl ?_
              refine sp_region (π := [0, 1, 2, 3]) [] rfl rfl ?_
              refine wk_move (.int .i64 (i : Int)) rfl rfl rfl rfl ?_
              dsimp only [putL, setL, List.set_cons_zero, List.set_cons_succ, List.nil_append, List.cons_append]
              refine wk_move (.slice a_b b.length c_b) rfl rfl rfl rfl ?_
              dsimp only [putL, setL, List.set_cons_zero, List.set_cons_succ, List.nil_append, List.cons_append]
              refine wk_lenA rfl rfl rfl rfl Try.underlying57 ?_
              dsimp only [putL, setL, List.set_cons_zero, List.set_cons_succ, List.nil_append, List.cons_append]
              refine wk_iop (.bool true) rfl rfl rfl rfl rfl rfl (iop_lss_t hc15) ?_
              dsimp only [putL, setL, List.set_cons_zero, List.set_cons_succ, List.nil_append, List.cons_append]
              refine wk_nil ?_
              refine sp_true rfl rfl ?_
              refine sp_region (π := [0, 1, 2, 3, 4]) [] rfl rfl ?_
              refine wk_move (.slice a_b b.length c_b) rfl rfl rfl rfl ?_
              dsimp only [putL, setL, List.set_cons_zero, List.set_cons_succ, List.nil_append, List.cons_append]
              refine wk_move (.int .i64 (i : Int)) rfl rfl rfl rfl ?_
              dsimp only [putL, setL, List.set_cons_zero, List.set_cons_succ, List.nil_append, List.cons_append]
              obtain ⟨β18, o18, ha18, hr18⟩ := hH_b.at_ (rowL_ne (k := i) (by omega))
              refine wk_idxA i 4 rfl rfl rfl rfl ha18 rfl Try.underlying57 (by kernel_rfl) rfl (by omega) ?_
              dsimp only [putL, setL, List.set_cons_zero, List.set_cons_succ, List.nil_append, List.cons_append]
              refine wk_ldA rfl rfl rfl rfl (fun M' w' hm hst => old_range hr18 (rowL_ne (k := i) (by omega)) hst) (by omega) ?_
              dsimp only [putL, setL, List.set_cons_zero, List.set_cons_succ, List.nil_append, List.cons_append]
              refine wk_stN 0 (ix b i) rfl rfl rfl rfl rfl rfl ?_
              dsimp only [putL, setL, List.set_cons_zero, List.set_cons_succ, List.nil_append, List.cons_append]
              refine wk_nil ?_
              refine sp_region (π := [0, 1, 2, 3, 4, 5, 6]) [] rfl rfl ?_
              refine wk_move v rfl rfl rfl rfl ?_
              dsimp only [putL, setL, List.set_cons_zero, List.set_cons_succ, List.nil_append, List.cons_append]
              refine wk_ldN 1 rfl rfl rfl rfl rfl ?_
              dsimp only [putL, setL, List.set_cons_zero, List.set_cons_succ, List.nil_append, List.cons_append]
              refine wk_ldN 0 rfl rfl rfl rfl rfl ?_
              dsimp only [putL, setL, List.set_cons_zero, List.set_cons_succ, List.nil_append, List.cons_append]
              refine wk_call [(.int .i64 1), (numV 0), (numV (ix b i))] (numV ((0 + (ix b i)) % modW 1)) rfl rfl rfl (enters_of Try.func47 (by kernel_rfl) (by kernel_rfl)) rfl (fadd_ok 1 0 (ix b i) ok1 W256_pos (ix_lt w_b)) ?_
              dsimp only [putL, setL, List.set_cons_zero, List.set_cons_succ, List.nil_append, List.cons_append]
              refine wkf_make (z := rowO [((0 + (ix b i)) % modW 1)]) (mk := fun β => .slice (some ⟨β, 0, none⟩) 1 1) rfl rfl (fun w => by kernel_rfl) fun β19 => ?_
              dsimp only [putL, setL, List.set_cons_zero, List.set_cons_succ, List.nil_append, List.cons_append]
              refine wk_append (news := (rowL [((0 + (ix b i)) % modW 1)])) (F := [(β19, rowO [((0 + (ix b i)) % modW 1)]), (β17, numO (ix b i)), (β16, numO 0), (β1, numO x)]) rfl rfl rfl rfl rfl Try.underlying57 ninfo numBytes nzero rfl (by decide) hf1 (List.perm_append_comm (l₁ := [(β19, rowO [((0 + (ix b i)) % modW 1)]), (β17, numO (ix b i)), (β16, numO 0), (β1, numO x)]) (l₂ := S)) rfl (fun w' hst => row_holds (List.mem_of_getElem? (i := 0) rfl) hst) (rowL_one _) (by omega) (by omega) fun v20 S20 hO20 => ?_
              dsimp only [putL, setL, List.set_cons_zero, List.set_cons_succ, List.nil_append, List.cons_append]
              refine wk_assign v20 rfl rfl rfl rfl ?_
              dsimp only [putL, setL, List.set_cons_zero, List.set_cons_succ, List.nil_append, List.cons_append]
              refine wk_nil ?_
              refine sp_region (π := [0, 1, 2]) [] rfl rfl ?_
              refine wk_move (.int .i64 (i : Int)) rfl rfl rfl rfl ?_
              dsimp only [putL, setL, List.set_cons_zero, List.set_cons_succ, List.nil_append, List.cons_append]
              refine wk_iop (.int .i64 ((i : Int) + 1)) rfl rfl rfl rfl rfl rfl (iop_add (by omega) (by omega)) ?_
              dsimp only [putL, setL, List.set_cons_zero, List.set_cons_succ, List.nil_append, List.cons_append]
              refine wk_assign (.int .i64 ((i : Int) + 1)) rfl rfl rfl rfl ?_
              dsimp only [putL, setL, List.set_cons_zero, List.set_cons_succ, List.nil_append, List.cons_append]
              refine wk_nil ?_
              exact ⟨(β1, numO x) :: S20, _, by exact List.Sublist.cons _ <| List.Sublist.cons _ <| List.Sublist.cons _ <| List.Sublist.cons_cons _ <| List.Sublist.refl _, ⟨(i + 1), v20, S20, (.pointer (some ⟨β16, 0, none⟩)), (.pointer (some ⟨β17, 0, none⟩)), (.int .i64 (i : Int)), (.slice a_a a.length c_a), (.int .i64 ((a.length : Nat) : Int)), (.bool false), (.bool false), (.int .i64 (i : Int)), (.slice a_b b.length c_b), (.int .i64 ((b.length : Nat) : Int)), (.bool true), (.bool true), (.int .i64 (i : Int)), (.int .i64 ((i : Int) + 1)), (.int .i64 (i : Int)), (.slice a_a a.length c_a), (.int .i64 ((a.length : Nat) : Int)), (.bool false), d51, d52, d53, d54, (.int .i64 (i : Int)), (.slice a_b b.length c_b), (.int .i64 ((b.length : Nat) : Int)), (.bool true), (.slice a_b b.length c_b), (.int .i64 (i : Int)), (.pointer (some ⟨β18, o18 + i * 4, none⟩)), (numV (ix b i)), v, (numV 0), (numV (ix b i)), (numV ((0 + (ix b i)) % modW 1)), (.slice (some ⟨β19, 0, none⟩) 1 1), v20, rfl, rfl, (by omega), (by rw [sumL_row, ix_none (xs := a) (by omega)]; exact hO20), rfl⟩, (by omega)⟩
            · skip
              refine wk_iop (.bool false) rfl rfl rfl rfl rfl rfl (iop_lss_f hc15) ?_
              dsimp only [putL, setL, List.set_cons_zero, List.set_cons_succ, List.nil_append, List.cons_append]
              refine wk_pick false (.bool false) rfl rfl rfl rfl rfl ?_
              dsimp only [putL, setL, List.set_cons_zero, List.set_cons_succ, List.nil_append, List.cons_append]
              refine wk_nil ?_
              refine sp_false rfl rfl ?_
              refine sp_exit rfl ?_
              refine sp_seq rfl ?_
              refine sp_seq rfl ?_
              refine sp_draw [0, 1, 3, 4, 6, 7, 2, 5, 8, 9, 10] [] mixed rfl (by kernel_rfl) (by kernel_rfl) ?_
              refine wk_move v rfl rfl rfl rfl ?_
              dsimp only [putL, setL, List.set_cons_zero, List.set_cons_succ, List.nil_append, List.cons_append]
              refine wk_ldN 0 rfl rfl rfl rfl rfl ?_
              dsimp only [putL, setL, List.set_cons_zero, List.set_cons_succ, List.nil_append, List.cons_append]
              refine wk_move (.slice a_a a.length c_a) rfl rfl rfl rfl ?_
              dsimp only [putL, setL, List.set_cons_zero, List.set_cons_succ, List.nil_append, List.cons_append]
              refine wk_ldN 0 rfl rfl rfl rfl rfl ?_
              dsimp only [putL, setL, List.set_cons_zero, List.set_cons_succ, List.nil_append, List.cons_append]
              refine wk_move (.slice a_b b.length c_b) rfl rfl rfl rfl ?_
              dsimp only [putL, setL, List.set_cons_zero, List.set_cons_succ, List.nil_append, List.cons_append]
              refine wk_ldN 0 rfl rfl rfl rfl rfl ?_
              dsimp only [putL, setL, List.set_cons_zero, List.set_cons_succ, List.nil_append, List.cons_append]
              obtain ⟨a21, cp21, hv21, hcp21, hsh21⟩ := hf1.reads
              subst hv21
              refine wk_callW [(.slice a21 i cp21), (numV x)] (numV (evalL (modW 1) (sumL a b i) x)) rfl rfl rfl (enters_of Try.func59 (by kernel_rfl) (by kernel_rfl)) rfl (fun M' w' hm hst => eval_calls' (sumL a b i) i _ _ (sumL_len a b i) (sumL_lt a b i) (by omega) x w_x w' (hsh21.holds hst (fun p hp => hm p (by simp [hp])))) ?_
              dsimp only [putL, setL, List.set_cons_zero, List.set_cons_succ, List.nil_append, List.cons_append]
              refine wk_callW [(.slice a_a a.length c_a), (numV x)] (numV (evalL (modW 1) a x)) rfl rfl rfl (enters_of Try.func59 (by kernel_rfl) (by kernel_rfl)) rfl (fun M' w' hm hst => eval_calls' a a.length _ _ rfl w_a (by omega) x w_x w' (hH_a.old hst)) ?_
              dsimp only [putL, setL, List.set_cons_zero, List.set_cons_succ, List.nil_append, List.cons_append]
              refine wk_callW [(.slice a_b b.length c_b), (numV x)] (numV (evalL (modW 1) b x)) rfl rfl rfl (enters_of Try.func59 (by kernel_rfl) (by kernel_rfl)) rfl (fun M' w' hm hst => eval_calls' b b.length _ _ rfl w_b (by omega) x w_x w' (hH_b.old hst)) ?_
              dsimp only [putL, setL, List.set_cons_zero, List.set_cons_succ, List.nil_append, List.cons_append]
              refine wk_call [(.int .i64 1), (numV (evalL (modW 1) a x)), (numV (evalL (modW 1) b x))] (numV (((evalL (modW 1) a x) + (evalL (modW 1) b x)) % modW 1)) rfl rfl rfl (enters_of Try.func47 (by kernel_rfl) (by kernel_rfl)) rfl (fadd_ok 1 (evalL (modW 1) a x) (evalL (modW 1) b x) ok1 (evalL_lt (modW_pos ok1) (modW_lt 1) _ _) (evalL_lt (modW_pos ok1) (modW_lt 1) _ _)) ?_
              dsimp only [putL, setL, List.set_cons_zero, List.set_cons_succ, List.nil_append, List.cons_append]
              refine wk_neN false rfl rfl rfl rfl rfl (evalL_lt (modW_pos ok1) (modW_lt 1) _ _) (Nat.lt_trans (Nat.mod_lt _ (modW_pos ok1)) (modW_lt 1)) (decide_eq_true (sum_eval x (by omega) (by omega))) ?_
              dsimp only [putL, setL, List.set_cons_zero, List.set_cons_succ, List.nil_append, List.cons_append]
              refine wk_nil ?_
              refine sp_false rfl rfl ?_
              refine sp_skip rfl ?_
              refine sp_seq rfl ?_
              refine sp_region (π := [0]) [] rfl rfl ?_
              refine wk_assign (.slice none 0 0) rfl rfl rfl rfl ?_
              dsimp only [putL, setL, List.set_cons_zero, List.set_cons_succ, List.nil_append, List.cons_append]
              refine wk_nil ?_
              refine sp_seq rfl ?_
              refine sp_seq rfl ?_
              refine sp_region (π := [0]) [] rfl rfl ?_
              refine wk_assign (.int .i64 0) rfl rfl rfl rfl ?_
              dsimp only [putL, setL, List.set_cons_zero, List.set_cons_succ, List.nil_append, List.cons_append]
              refine wk_nil ?_
              refine sp_block rfl ?_
              refine sp_loopg rfl (fun n l M => ∃ p : Nat, ∃ j : Nat, ∃ ns : List Nat, ∃ u : Value, ∃ T : Mem, ∃ d15 : Value, ∃ d16 : Value, ∃ d17 : Value, ∃ d80 : Value, ∃ d81 : Value, ∃ d82 : Value, ∃ d83 : Value, ∃ d84 : Value, ∃ d85 : Value, ∃ d86 : Value, ∃ d87 : Value, ∃ d88 : Value, ∃ d89 : Value, ∃ d90 : Value, ∃ d91 : Value, ∃ d92 : Value, ∃ d93 : Value, ∃ d94 : Value, ∃ d95 : Value, ∃ d96 : Value, ∃ d97 : Value, ∃ d98 : Value, ∃ d99 : Value, ∃ d100 : Value, ∃ d101 : Value, ∃ d102 : Value, ∃ d103 : Value, ∃ d104 : Value, ∃ d105 : Value, ∃ d106 : Value, ∃ d107 : Value, ∃ d108 : Value, ∃ d109 : Value, ∃ d110 : Value, ∃ d111 : Value, ∃ d112 : Value, ∃ d113 : Value, ∃ d114 : Value, l = [(.slice a_a a.length c_a), (.slice a_b b.length c_b), (numV x), (.slice a_xs xs.length c_xs), undef, undef, (.pointer (some ⟨β1, 0, none⟩)), undef, (.bool false), (.slice a21 i cp21), (.int .i64 (i : Int)), d11, d12, u, (.int .i64 (p : Int)), d15, d16, d17, undef, undef, undef, undef, (.slice a_a a.length c_a), (.int .i64 ((a.length : Nat) : Int)), (.bool false), (.bool false), (.slice a_b b.length c_b), (.int .i64 ((b.length : Nat) : Int)), (.bool false), (.bool false), (.bool false), (.slice a_xs xs.length c_xs), (.int .i64 ((xs.length : Nat) : Int)), (.bool false), (.bool false), (.int .i64 (i : Int)), (.slice a_a a.length c_a), (.int .i64 ((a.length : Nat) : Int)), (.bool false), (.bool false), (.int .i64 (i : Int)), (.slice a_b b.length c_b), (.int .i64 ((b.length : Nat) : Int)), (.bool false), (.bool false), d45, d46, d47, d48, d49, d50, d51, d52, d53, d54, d55, d56, d57, d58, d59, d60, d61, d62, d63, d64, d65, d66, d67, d68, (.slice a21 i cp21), (numV x), (numV (evalL (modW 1) (sumL a b i) x)), (.slice a_a a.length c_a), (numV x), (numV (evalL (modW 1) a x)), (.slice a_b b.length c_b), (numV x), (numV (evalL (modW 1) b x)), (numV (((evalL (modW 1) a x) + (evalL (modW 1) b x)) % modW 1)), (.bool false), d80, d81, d82, d83, d84, d85, d86, d87, d88, d89, d90, d91, d92, d93, d94, d95, d96, d97, d98, d99, d100, d101, d102, d103, d104, d105, d106, d107, d108, d109, d110, d111, d112, d113, d114, undef, undef, undef, undef, undef, undef, undef, undef, undef, undef, undef, undef, undef, undef, undef, undef, undef, undef, undef, undef, undef, undef, undef, undef, undef, undef, undef, undef, undef, undef, undef, undef, undef, undef, undef, undef, undef, undef, undef, undef, undef, undef, undef, undef, undef, undef, undef] ∧ (β1, numO x) :: (S ++ T) = M ∧ (p ≤ xs.length) ∧ (OwnS 24 4 u j (rowL ns) T) ∧ (PN ns j) ∧ (j ≤ p) ∧ n = xs.length - p) (xs.length - 0) ?_ ?_
              · exact ⟨0, 0, [], (.slice none 0 0), [], undef, undef, undef, undef, undef, undef, undef, undef, undef, undef, undef, undef, undef, undef, undef, undef, undef, undef, undef, undef, undef, undef, undef, undef, undef, undef, undef, undef, undef, undef, undef, undef, undef, undef, undef, undef, undef, undef, rfl, (by rw [List.append_nil]), (Nat.zero_le _), (OwnS.nil _ _), PN.nil, (Nat.zero_le _), rfl⟩
              · skip
                intro n l M
                refine exists_imp.2 fun p => ?_
                refine exists_imp.2 fun j => ?_
                refine exists_imp.2 fun ns => ?_
                refine exists_imp.2 fun u => ?_
                refine exists_imp.2 fun T => ?_
                refine exists_imp.2 fun d15 => ?_
                refine exists_imp.2 fun d16 => ?_
                refine exists_imp.2 fun d17 => ?_
                refine exists_imp.2 fun d80 => ?_
                refine exists_imp.2 fun d81 => ?_
                refine exists_imp.2 fun d82 => ?_
                refine exists_imp.2 fun d83 => ?_
                refine exists_imp.2 fun d84 => ?_
                refine exists_imp.2 fun d85 => ?_
                refine exists_imp.2 fun d86 => ?_
                refine exists_imp.2 fun d87 => ?_
                refine exists_imp.2 fun d88 => ?_
                refine exists_imp.2 fun d89 => ?_
                refine exists_imp.2 fun d90 => ?_
                refine exists_imp.2 fun d91 => ?_
                refine exists_imp.2 fun d92 => ?_
                refine exists_imp.2 fun d93 => ?_
                refine exists_imp.2 fun d94 => ?_
                refine exists_imp.2 fun d95 => ?_
                refine exists_imp.2 fun d96 => ?_
                refine exists_imp.2 fun d97 => ?_
                refine exists_imp.2 fun d98 => ?_
                refine exists_imp.2 fun d99 => ?_
                refine exists_imp.2 fun d100 => ?_
                refine exists_imp.2 fun d101 => ?_
                refine exists_imp.2 fun d102 => ?_
                refine exists_imp.2 fun d103 => ?_
                refine exists_imp.2 fun d104 => ?_
                refine exists_imp.2 fun d105 => ?_
                refine exists_imp.2 fun d106 => ?_
                refine exists_imp.2 fun d107 => ?_
                refine exists_imp.2 fun d108 => ?_
                refine exists_imp.2 fun d109 => ?_
                refine exists_imp.2 fun d110 => ?_
                refine exists_imp.2 fun d111 => ?_
                refine exists_imp.2 fun d112 => ?_
                refine exists_imp.2 fun d113 => ?_
                refine exists_imp.2 fun d114 => ?_
                rintro ⟨rfl, rfl, hg0, hg1, hg2, hg3, rfl⟩
                obtain ⟨a22, cp22, hv22, hcp22, hsh22⟩ := hg1.reads
                subst hv22
                refine sp_seq rfl ?_
                refine sp_seq rfl ?_
                refine sp_region (π := [0, 1, 2, 3]) [] rfl rfl ?_
                refine wk_move (.int .i64 (p : Int)) rfl rfl rfl rfl ?_
                dsimp only [putL, setL, List.set_cons_zero, List.set_cons_succ, List.nil_append, List.cons_append]
                refine wk_move (.slice a_xs xs.length c_xs) rfl rfl rfl rfl ?_
                dsimp only [putL, setL, List.set_cons_zero, List.set_cons_succ, List.nil_append, List.cons_append]
                refine wk_lenA rfl rfl rfl rfl Try.underlying58 ?_
                dsimp only [putL, setL, List.set_cons_zero, List.set_cons_succ, List.nil_append, List.cons_append]
                by_cases hc23 : (p : Int) < ((xs.length : Nat) : Int)
                · skip
                  refine wk_iop (.bool true) rfl rfl rfl rfl rfl rfl (iop_lss_t hc23) ?_
                  dsimp only [putL, setL, List.set_cons_zero, List.set_cons_succ, List.nil_append, List.cons_append]
                  refine wk_nil ?_
                  refine sp_true rfl rfl ?_
                  refine sp_skip rfl ?_
                  refine sp_seq rfl ?_
                  refine sp_block rfl ?_
                  refine sp_seq rfl ?_
                  refine sp_region (π := [0, 1, 2, 3, 4, 5, 6, 7, 8, 9]) [] rfl rfl ?_
                  refine wk_move (.slice a_xs xs.length c_xs) rfl rfl rfl rfl ?_
                  dsimp only [putL, setL, List.set_cons_zero, List.set_cons_succ, List.nil_append, List.cons_append]
                  refine wk_move (.int .i64 (p : Int)) rfl rfl rfl rfl ?_
                  dsimp only [putL, setL, List.set_cons_zero, List.set_cons_succ, List.nil_append, List.cons_append]
                  obtain ⟨β24, o24, ha24, hr24⟩ := hH_xs.at_ (intL_ne (k := p) (by omega))
                  refine wk_idxA p 1 rfl rfl rfl rfl ha24 rfl Try.underlying58 (by kernel_rfl) rfl (by omega) ?_
                  dsimp only [putL, setL, List.set_cons_zero, List.set_cons_succ, List.nil_append, List.cons_append]
                  refine wk_ldI rfl rfl rfl rfl (fun M' w' hm hst => old_range hr24 (intL_ne (k := p) (by omega)) hst) (by omega) ?_
                  dsimp only [putL, setL, List.set_cons_zero, List.set_cons_succ, List.nil_append, List.cons_append]
                  refine wk_val (.int .u64 (IntKind.u64.wrap (ixI xs p))) rfl rfl rfl (fun w => by kernel_rfl) ?_
                  dsimp only [putL, setL, List.set_cons_zero, List.set_cons_succ, List.nil_append, List.cons_append]
                  refine wk_iop (.int .u64 ((leftN (ixI xs p) 40 : Nat) : Int)) rfl rfl rfl rfl rfl rfl (congrArg (fun z => some (Value.int .u64 z)) (leftN_eq (ixI xs p) 40)) ?_
                  dsimp only [putL, setL, List.set_cons_zero, List.set_cons_succ, List.nil_append, List.cons_append]
                  refine wk_iop (.int .u64 ((1 + leftN (ixI xs p) 40 : Nat) : Int)) rfl rfl rfl rfl rfl rfl (iop_one_add (Nat.lt_trans (leftN_lt (ixI xs p) (m := 40) (by decide)) (by decide))) ?_
                  dsimp only [putL, setL, List.set_cons_zero, List.set_cons_succ, List.nil_append, List.cons_append]
                  refine wk_val (numV (1 + leftN (ixI xs p) 40)) rfl rfl rfl (fun w => by rw [← one_digit (show 1 + leftN (ixI xs p) 40 < 18446744073709551616 by have := leftN_lt (ixI xs p) (m := 40) (by decide); omega)]; kernel_rfl) ?_
                  dsimp only [putL, setL, List.set_cons_zero, List.set_cons_succ, List.nil_append, List.cons_append]
                  refine wkf_newN rfl rfl fun β25 => ?_
                  dsimp only [putL, setL, List.set_cons_zero, List.set_cons_succ, List.nil_append, List.cons_append]
                  refine wk_stN 0 (1 + leftN (ixI xs p) 40) rfl rfl rfl rfl rfl rfl ?_
                  dsimp only [putL, setL, List.set_cons_zero, List.set_cons_succ, List.nil_append, List.cons_append]
                  refine wk_nil ?_
                  refine sp_seq rfl ?_
                  refine sp_region (π := [0]) [] rfl rfl ?_
                  refine wk_assign (.bool false) rfl rfl rfl rfl ?_
                  dsimp only [putL, setL, List.set_cons_zero, List.set_cons_succ, List.nil_append, List.cons_append]
                  refine wk_nil ?_
                  refine sp_seq rfl ?_
                  refine sp_seq rfl ?_
                  refine sp_region (π := [0]) [] rfl rfl ?_
                  refine wk_assign (.int .i64 0) rfl rfl rfl rfl ?_
                  dsimp only [putL, setL, List.set_cons_zero, List.set_cons_succ, List.nil_append, List.cons_append]
                  refine wk_nil ?_
                  refine sp_block rfl ?_
                  refine sp_loopg rfl (fun n l M => ∃ k : Nat, ∃ tw : Bool, ∃ d94 : Value, ∃ d95 : Value, ∃ d96 : Value, ∃ d97 : Value, ∃ d98 : Value, ∃ d99 : Value, ∃ d100 : Value, ∃ d101 : Value, ∃ d102 : Value, ∃ d103 : Value, ∃ d104 : Value, ∃ d105 : Value, ∃ d106 : Value, ∃ d107 : Value, ∃ d108 : Value, l = [(.slice a_a a.length c_a), (.slice a_b b.length c_b), (numV x), (.slice a_xs xs.length c_xs), undef, undef, (.pointer (some ⟨β1, 0, none⟩)), undef, (.bool false), (.slice a21 i cp21), (.int .i64 (i : Int)), d11, d12, (.slice a22 j cp22), (.int .i64 (p : Int)), (.pointer (some ⟨β25, 0, none⟩)), (.bool tw), (.int .i64 (k : Int)), undef, undef, undef, undef, (.slice a_a a.length c_a), (.int .i64 ((a.length : Nat) : Int)), (.bool false), (.bool false), (.slice a_b b.length c_b), (.int .i64 ((b.length : Nat) : Int)), (.bool false), (.bool false), (.bool false), (.slice a_xs xs.length c_xs), (.int .i64 ((xs.length : Nat) : Int)), (.bool false), (.bool false), (.int .i64 (i : Int)), (.slice a_a a.length c_a), (.int .i64 ((a.length : Nat) : Int)), (.bool false), (.bool false), (.int .i64 (i : Int)), (.slice a_b b.length c_b), (.int .i64 ((b.length : Nat) : Int)), (.bool false), (.bool false), d45, d46, d47, d48, d49, d50, d51, d52, d53, d54, d55, d56, d57, d58, d59, d60, d61, d62, d63, d64, d65, d66, d67, d68, (.slice a21 i cp21), (numV x), (numV (evalL (modW 1) (sumL a b i) x)), (.slice a_a a.length c_a), (numV x), (numV (evalL (modW 1) a x)), (.slice a_b b.length c_b), (numV x), (numV (evalL (modW 1) b x)), (numV (((evalL (modW 1) a x) + (evalL (modW 1) b x)) % modW 1)), (.bool false), (.int .i64 (p : Int)), (.slice a_xs xs.length c_xs), (.int .i64 ((xs.length : Nat) : Int)), (.bool true), d84, d85, (.slice a_xs xs.length c_xs), (.int .i64 (p : Int)), (.pointer (some ⟨β24, o24 + p * 1, none⟩)), (.int .i64 (ixI xs p)), (.int .u64 (IntKind.u64.wrap (ixI xs p))), (.int .u64 ((leftN (ixI xs p) 40 : Nat) : Int)), (.int .u64 ((1 + leftN (ixI xs p) 40 : Nat) : Int)), (numV (1 + leftN (ixI xs p) 40)), d94, d95, d96, d97, d98, d99, d100, d101, d102, d103, d104, d105, d106, d107, d108, d109, d110, d111, d112, d113, d114, undef, undef, undef, undef, undef, undef, undef, undef, undef, undef, undef, undef, undef, undef, undef, undef, undef, undef, undef, undef, undef, undef, undef, undef, undef, undef, undef, undef, undef, undef, undef, undef, undef, undef, undef, undef, undef, undef, undef, undef, undef, undef, undef, undef, undef, undef, undef] ∧ (β25, numO (1 + leftN (ixI xs p) 40)) :: (β1, numO x) :: (S ++ T) = M ∧ (k ≤ j) ∧ (tw = false → ∀ b, b < k → ix ns b ≠ (1 + leftN (ixI xs p) 40)) ∧ n = j - k) (j - 0) ?_ ?_
                  · exact ⟨0, false, d94, d95, d96, d97, d98, d99, d100, d101, d102, d103, d104, d105, d106, d107, d108, rfl, rfl, (Nat.zero_le _), (fun _ b hb => by omega), rfl⟩
                  · skip
                    intro n l M
                    refine exists_imp.2 fun k => ?_
                    refine exists_imp.2 fun tw => ?_
                    refine exists_imp.2 fun d94 => ?_
                    refine exists_imp.2 fun d95 => ?_
                    refine exists_imp.2 fun d96 => ?_
                    refine exists_imp.2 fun d97 => ?_
                    refine exists_imp.2 fun d98 => ?_
                    refine exists_imp.2 fun d99 => ?_
                    refine exists_imp.2 fun d100 => ?_
                    refine exists_imp.2 fun d101 => ?_
                    refine exists_imp.2 fun d102 => ?_
                    refine exists_imp.2 fun d103 => ?_
                    refine exists_imp.2 fun d104 => ?_
                    refine exists_imp.2 fun d105 => ?_
                    refine exists_imp.2 fun d106 => ?_
                    refine exists_imp.2 fun d107 => ?_
                    refine exists_imp.2 fun d108 => ?_
                    rintro ⟨rfl, rfl, hh0, hh1, rfl⟩
                    cases tw
                    · skip
                      refine sp_seq rfl ?_
                      refine sp_seq rfl ?_
                      refine sp_region (π := [0, 1, 2, 3]) [] rfl rfl ?_
                      refine wk_move (.int .i64 (k : Int)) rfl rfl rfl rfl ?_
                      dsimp only [putL, setL, List.set_cons_zero, List.set_cons_succ, List.nil_append, List.cons_append]
                      refine wk_move (.slice a22 j cp22) rfl rfl rfl rfl ?_
                      dsimp only [putL, setL, List.set_cons_zero, List.set_cons_succ, List.nil_append, List.cons_append]
                      refine wk_lenA rfl rfl rfl rfl Try.underlying57 ?_
                      dsimp only [putL, setL, List.set_cons_zero, List.set_cons_succ, List.nil_append, List.cons_append]
                      by_cases hc26 : (k : Int) < ((j : Nat) : Int)
                      · skip
                        refine wk_iop (.bool true) rfl rfl rfl rfl rfl rfl (iop_lss_t hc26) ?_
                        dsimp only [putL, setL, List.set_cons_zero, List.set_cons_succ, List.nil_append, List.cons_append]
                        refine wk_nil ?_
                        refine sp_true rfl rfl ?_
                        refine sp_skip rfl ?_
                        refine sp_seq rfl ?_
                        refine sp_block rfl ?_
                        refine sp_draw [0, 1, 2, 3, 4, 5, 6, 7, 8, 9] [] mixed rfl (by kernel_rfl) (by kernel_rfl) ?_
                        refine wk_move (.bool false) rfl rfl rfl rfl ?_
                        dsimp only [putL, setL, List.set_cons_zero, List.set_cons_succ, List.nil_append, List.cons_append]
                        refine wk_move (.bool false) rfl rfl rfl rfl ?_
                        dsimp only [putL, setL, List.set_cons_zero, List.set_cons_succ, List.nil_append, List.cons_append]
                        refine wk_move (.slice a22 j cp22) rfl rfl rfl rfl ?_
                        dsimp only [putL, setL, List.set_cons_zero, List.set_cons_succ, List.nil_append, List.cons_append]
                        refine wk_move (.int .i64 (k : Int)) rfl rfl rfl rfl ?_
                        dsimp only [putL, setL, List.set_cons_zero, List.set_cons_succ, List.nil_append, List.cons_append]
                        obtain ⟨β27, ha27, hr27⟩ := hsh22.at_ (rowL_ne (k := k) (by have h0 := hg2.len; omega))
                        refine wk_idxA k 4 rfl rfl rfl rfl ha27 rfl Try.underlying57 (by kernel_rfl) rfl (by omega) ?_
                        dsimp only [putL, setL, List.set_cons_zero, List.set_cons_succ, List.nil_append, List.cons_append]
                        refine wk_ldA rfl rfl rfl rfl (fun M' w' hm hst => hr27 w' (fun p hp => hst.own p (hm p (by simp [hp])))) (by have h0 := hg2.len; omega) ?_
                        dsimp only [putL, setL, List.set_cons_zero, List.set_cons_succ, List.nil_append, List.cons_append]
                        refine wk_ldN 0 rfl rfl rfl rfl rfl ?_
                        dsimp only [putL, setL, List.set_cons_zero, List.set_cons_succ, List.nil_append, List.cons_append]
                        by_cases hc28 : (ix ns k) = (1 + leftN (ixI xs p) 40)
                        · skip
                          refine wk_eqN true rfl rfl rfl rfl rfl (ix_lt hg2.bound) (Nat.lt_trans (show 1 + leftN (ixI xs p) 40 < 18446744073709551616 by have := leftN_lt (ixI xs p) (m := 40) (by decide); omega) (by decide)) (decide_eq_true hc28) ?_
                          dsimp only [putL, setL, List.set_cons_zero, List.set_cons_succ, List.nil_append, List.cons_append]
                          refine wk_pick false (.bool true) rfl rfl rfl rfl rfl ?_
                          dsimp only [putL, setL, List.set_cons_zero, List.set_cons_succ, List.nil_append, List.cons_append]
                          refine wk_assign (.bool true) rfl rfl rfl rfl ?_
                          dsimp only [putL, setL, List.set_cons_zero, List.set_cons_succ, List.nil_append, List.cons_append]
                          refine wk_nil ?_
                          refine sp_region (π := [0, 1, 2]) [] rfl rfl ?_
                          refine wk_move (.int .i64 (k : Int)) rfl rfl rfl rfl ?_
                          dsimp only [putL, setL, List.set_cons_zero, List.set_cons_succ, List.nil_append, List.cons_append]
                          refine wk_iop (.int .i64 ((k : Int) + 1)) rfl rfl rfl rfl rfl rfl (iop_add (by omega) (by omega)) ?_
                          dsimp only [putL, setL, List.set_cons_zero, List.set_cons_succ, List.nil_append, List.cons_append]
                          refine wk_assign (.int .i64 ((k : Int) + 1)) rfl rfl rfl rfl ?_
                          dsimp only [putL, setL, List.set_cons_zero, List.set_cons_succ, List.nil_append, List.cons_append]
                          refine wk_nil ?_
                          exact ⟨(β25, numO (1 + leftN (ixI xs p) 40)) :: (β1, numO x) :: (S ++ T), _, List.Sublist.refl _, ⟨(k + 1), true, (.int .i64 (k : Int)), (.slice a22 j cp22), (.int .i64 ((j : Nat) : Int)), (.bool true), (.int .i64 (k : Int)), (.int .i64 ((k : Int) + 1)), (.bool false), (.bool false), (.slice a22 j cp22), (.int .i64 (k : Int)), (.pointer (some ⟨β27, 0 + k * 4, none⟩)), (numV (ix ns k)), (numV (1 + leftN (ixI xs p) 40)), (.bool true), (.bool true), rfl, rfl, (by omega), (fun h => by cases h), rfl⟩, (by omega)⟩
                        · skip
                          refine wk_eqN false rfl rfl rfl rfl rfl (ix_lt hg2.bound) (Nat.lt_trans (show 1 + leftN (ixI xs p) 40 < 18446744073709551616 by have := leftN_lt (ixI xs p) (m := 40) (by decide); omega) (by decide)) (decide_eq_false hc28) ?_
                          dsimp only [putL, setL, List.set_cons_zero, List.set_cons_succ, List.nil_append, List.cons_append]
                          refine wk_pick false (.bool false) rfl rfl rfl rfl rfl ?_
                          dsimp only [putL, setL, List.set_cons_zero, List.set_cons_succ, List.nil_append, List.cons_append]
                          refine wk_assign (.bool false) rfl rfl rfl rfl ?_
                          dsimp only [putL, setL, List.set_cons_zero, List.set_cons_succ, List.nil_append, List.cons_append]
                          refine wk_nil ?_
                          refine sp_region (π := [0, 1, 2]) [] rfl rfl ?_
                          refine wk_move (.int .i64 (k : Int)) rfl rfl rfl rfl ?_
                          dsimp only [putL, setL, List.set_cons_zero, List.set_cons_succ, List.nil_append, List.cons_append]
                          refine wk_iop (.int .i64 ((k : Int) + 1)) rfl rfl rfl rfl rfl rfl (iop_add (by omega) (by omega)) ?_
                          dsimp only [putL, setL, List.set_cons_zero, List.set_cons_succ, List.nil_append, List.cons_append]
                          refine wk_assign (.int .i64 ((k : Int) + 1)) rfl rfl rfl rfl ?_
                          dsimp only [putL, setL, List.set_cons_zero, List.set_cons_succ, List.nil_append, List.cons_append]
                          refine wk_nil ?_
                          exact ⟨(β25, numO (1 + leftN (ixI xs p) 40)) :: (β1, numO x) :: (S ++ T), _, List.Sublist.refl _, ⟨(k + 1), false, (.int .i64 (k : Int)), (.slice a22 j cp22), (.int .i64 ((j : Nat) : Int)), (.bool true), (.int .i64 (k : Int)), (.int .i64 ((k : Int) + 1)), (.bool false), (.bool false), (.slice a22 j cp22), (.int .i64 (k : Int)), (.pointer (some ⟨β27, 0 + k * 4, none⟩)), (numV (ix ns k)), (numV (1 + leftN (ixI xs p) 40)), (.bool false), (.bool false), rfl, rfl, (by omega), (fun _ b hb => by rcases Nat.lt_or_ge b k with h1 | h1; exact hh1 rfl b h1; rw [show b = k by omega]; exact hc28), rfl⟩, (by omega)⟩
                      · skip
                        refine wk_iop (.bool false) rfl rfl rfl rfl rfl rfl (iop_lss_f hc26) ?_
                        dsimp only [putL, setL, List.set_cons_zero, List.set_cons_succ, List.nil_append, List.cons_append]
                        refine wk_nil ?_
                        refine sp_false rfl rfl ?_
                        refine sp_exit rfl ?_
                        refine sp_seq rfl ?_
                        refine sp_region (π := [0, 1]) [] rfl rfl ?_
                        refine wk_move (.bool false) rfl rfl rfl rfl ?_
                        dsimp only [putL, setL, List.set_cons_zero, List.set_cons_succ, List.nil_append, List.cons_append]
                        refine wk_not false rfl rfl rfl rfl ?_
                        dsimp only [putL, setL, List.set_cons_zero, List.set_cons_succ, List.nil_append, List.cons_append]
                        refine wk_nil ?_
                        refine sp_true rfl rfl ?_
                        refine sp_region (π := [0, 1, 2, 3, 4]) [] rfl rfl ?_
                        refine wk_move (.slice a22 j cp22) rfl rfl rfl rfl ?_
                        dsimp only [putL, setL, List.set_cons_zero, List.set_cons_succ, List.nil_append, List.cons_append]
                        refine wk_ldN 0 rfl rfl rfl rfl rfl ?_
                        dsimp only [putL, setL, List.set_cons_zero, List.set_cons_succ, List.nil_append, List.cons_append]
                        refine wkf_make (z := rowO [(1 + leftN (ixI xs p) 40)]) (mk := fun β => .slice (some ⟨β, 0, none⟩) 1 1) rfl rfl (fun w => by kernel_rfl) fun β29 => ?_
                        dsimp only [putL, setL, List.set_cons_zero, List.set_cons_succ, List.nil_append, List.cons_append]
                        refine wk_append (news := (rowL [(1 + leftN (ixI xs p) 40)])) (F := (β29, rowO [(1 + leftN (ixI xs p) 40)]) :: (β25, numO (1 + leftN (ixI xs p) 40)) :: (β1, numO x) :: S) rfl rfl rfl rfl rfl Try.underlying57 ninfo numBytes nzero rfl (by decide) hg1 (List.perm_append_comm (l₁ := (β29, rowO [(1 + leftN (ixI xs p) 40)]) :: (β25, numO (1 + leftN (ixI xs p) 40)) :: (β1, numO x) :: S) (l₂ := T)) rfl (fun w' hst => row_holds (List.mem_of_getElem? (i := 0) rfl) hst) (rowL_one _) (by omega) (by omega) fun v30 S30 hO30 => ?_
                        dsimp only [putL, setL, List.set_cons_zero, List.set_cons_succ, List.nil_append, List.cons_append]
                        try simp only [List.append_assoc]
                        refine wk_assign v30 rfl rfl rfl rfl ?_
                        dsimp only [putL, setL, List.set_cons_zero, List.set_cons_succ, List.nil_append, List.cons_append]
                        refine wk_nil ?_
                        refine sp_region (π := [0, 1, 2]) [] rfl rfl ?_
                        refine wk_move (.int .i64 (p : Int)) rfl rfl rfl rfl ?_
                        dsimp only [putL, setL, List.set_cons_zero, List.set_cons_succ, List.nil_append, List.cons_append]
                        refine wk_iop (.int .i64 ((p : Int) + 1)) rfl rfl rfl rfl rfl rfl (iop_add (by omega) (by omega)) ?_
                        dsimp only [putL, setL, List.set_cons_zero, List.set_cons_succ, List.nil_append, List.cons_append]
                        refine wk_assign (.int .i64 ((p : Int) + 1)) rfl rfl rfl rfl ?_
                        dsimp only [putL, setL, List.set_cons_zero, List.set_cons_succ, List.nil_append, List.cons_append]
                        refine wk_nil ?_
                        exact ⟨(β1, numO x) :: (S ++ S30), _, by exact List.Sublist.cons _ <| List.Sublist.cons _ <| List.Sublist.cons_cons _ <| List.Sublist.refl _, ⟨(p + 1), (j + 1), (ns ++ [(1 + leftN (ixI xs p) 40)]), v30, S30, (.pointer (some ⟨β25, 0, none⟩)), (.bool false), (.int .i64 (k : Int)), (.int .i64 (p : Int)), (.slice a_xs xs.length c_xs), (.int .i64 ((xs.length : Nat) : Int)), (.bool true), (.int .i64 (p : Int)), (.int .i64 ((p : Int) + 1)), (.slice a_xs xs.length c_xs), (.int .i64 (p : Int)), (.pointer (some ⟨β24, o24 + p * 1, none⟩)), (.int .i64 (ixI xs p)), (.int .u64 (IntKind.u64.wrap (ixI xs p))), (.int .u64 ((leftN (ixI xs p) 40 : Nat) : Int)), (.int .u64 ((1 + leftN (ixI xs p) 40 : Nat) : Int)), (numV (1 + leftN (ixI xs p) 40)), (.int .i64 (k : Int)), (.slice a22 j cp22), (.int .i64 ((j : Nat) : Int)), (.bool false), d98, d99, d100, d101, d102, d103, d104, d105, d106, d107, d108, (.bool false), (.bool true), (.slice a22 j cp22), (numV (1 + leftN (ixI xs p) 40)), (.slice (some ⟨β29, 0, none⟩) 1 1), v30, rfl, rfl, (by omega), (by rw [rowL_append]; exact hO30), (hg2.step (by have := leftN_lt (ixI xs p) (m := 40) (by decide); omega) (fun b hb => hh1 rfl b (by omega))), (by omega), rfl⟩, (by omega)⟩
                    · skip
                      refine sp_seq rfl ?_
                      refine sp_seq rfl ?_
                      refine sp_region (π := [0, 1, 2, 3]) [] rfl rfl ?_
                      refine wk_move (.int .i64 (k : Int)) rfl rfl rfl rfl ?_
                      dsimp only [putL, setL, List.set_cons_zero, List.set_cons_succ, List.nil_append, List.cons_append]
                      refine wk_move (.slice a22 j cp22) rfl rfl rfl rfl ?_
                      dsimp only [putL, setL, List.set_cons_zero, List.set_cons_succ, List.nil_append, List.cons_append]
                      refine wk_lenA rfl rfl rfl rfl Try.underlying57 ?_
                      dsimp only [putL, setL, List.set_cons_zero, List.set_cons_succ, List.nil_append, List.cons_append]
                      by_cases hc31 : (k : Int) < ((j : Nat) : Int)
                      · skip
                        refine wk_iop (.bool true) rfl rfl rfl rfl rfl rfl (iop_lss_t hc31) ?_
                        dsimp only [putL, setL, List.set_cons_zero, List.set_cons_succ, List.nil_append, List.cons_append]
                        refine wk_nil ?_
                        refine sp_true rfl rfl ?_
                        refine sp_skip rfl ?_
                        refine sp_seq rfl ?_
                        refine sp_block rfl ?_
                        refine sp_draw [0, 1, 2, 3, 4, 5, 6, 7, 8, 9] [] mixed rfl (by kernel_rfl) (by kernel_rfl) ?_
                        refine wk_move (.bool true) rfl rfl rfl rfl ?_
                        dsimp only [putL, setL, List.set_cons_zero, List.set_cons_succ, List.nil_append, List.cons_append]
                        refine wk_move (.bool true) rfl rfl rfl rfl ?_
                        dsimp only [putL, setL, List.set_cons_zero, List.set_cons_succ, List.nil_append, List.cons_append]
                        refine wk_skip rfl rfl (fun h => by cases h) ?_
                        dsimp only [putL, setL, List.set_cons_zero, List.set_cons_succ, List.nil_append, List.cons_append]
                        refine wk_skip rfl rfl (fun h => by cases h) ?_
                        dsimp only [putL, setL, List.set_cons_zero, List.set_cons_succ, List.nil_append, List.cons_append]
                        refine wk_skip rfl rfl (fun h => by cases h) ?_
                        dsimp only [putL, setL, List.set_cons_zero, List.set_cons_succ, List.nil_append, List.cons_append]
                        refine wk_skip rfl rfl (fun h => by cases h) ?_
                        dsimp only [putL, setL, List.set_cons_zero, List.set_cons_succ, List.nil_append, List.cons_append]
                        refine wk_skip rfl rfl (fun h => by cases h) ?_
                        dsimp only [putL, setL, List.set_cons_zero, List.set_cons_succ, List.nil_append, List.cons_append]
                        refine wk_skip rfl rfl (fun h => by cases h) ?_
                        dsimp only [putL, setL, List.set_cons_zero, List.set_cons_succ, List.nil_append, List.cons_append]
                        refine wk_pick true (.bool true) rfl rfl rfl rfl rfl ?_
                        dsimp only [putL, setL, List.set_cons_zero, List.set_cons_succ, List.nil_append, List.cons_append]
                        refine wk_assign (.bool true) rfl rfl rfl rfl ?_
                        dsimp only [putL, setL, List.set_cons_zero, List.set_cons_succ, List.nil_append, List.cons_append]
                        refine wk_nil ?_
                        refine sp_region (π := [0, 1, 2]) [] rfl rfl ?_
                        refine wk_move (.int .i64 (k : Int)) rfl rfl rfl rfl ?_
                        dsimp only [putL, setL, List.set_cons_zero, List.set_cons_succ, List.nil_append, List.cons_append]
                        refine wk_iop (.int .i64 ((k : Int) + 1)) rfl rfl rfl rfl rfl rfl (iop_add (by omega) (by omega)) ?_
                        dsimp only [putL, setL, List.set_cons_zero, List.set_cons_succ, List.nil_append, List.cons_append]
                        refine wk_assign (.int .i64 ((k : Int) + 1)) rfl rfl rfl rfl ?_
                        dsimp only [putL, setL, List.set_cons_zero, List.set_cons_succ, List.nil_append, List.cons_append]
                        refine wk_nil ?_
                        exact ⟨(β25, numO (1 + leftN (ixI xs p) 40)) :: (β1, numO x) :: (S ++ T), _, List.Sublist.refl _, ⟨(k + 1), true, (.int .i64 (k : Int)), (.slice a22 j cp22), (.int .i64 ((j : Nat) : Int)), (.bool true), (.int .i64 (k : Int)), (.int .i64 ((k : Int) + 1)), (.bool true), (.bool true), undef, undef, undef, undef, undef, undef, (.bool true), rfl, rfl, (by omega), (fun h => by cases h), rfl⟩, (by omega)⟩
                      · skip
                        refine wk_iop (.bool false) rfl rfl rfl rfl rfl rfl (iop_lss_f hc31) ?_
                        dsimp only [putL, setL, List.set_cons_zero, List.set_cons_succ, List.nil_append, List.cons_append]
                        refine wk_nil ?_
                        refine sp_false rfl rfl ?_
                        refine sp_exit rfl ?_
                        refine sp_seq rfl ?_
                        refine sp_region (π := [0, 1]) [] rfl rfl ?_
                        refine wk_move (.bool true) rfl rfl rfl rfl ?_
                        dsimp only [putL, setL, List.set_cons_zero, List.set_cons_succ, List.nil_append, List.cons_append]
                        refine wk_not true rfl rfl rfl rfl ?_
                        dsimp only [putL, setL, List.set_cons_zero, List.set_cons_succ, List.nil_append, List.cons_append]
                        refine wk_nil ?_
                        refine sp_false rfl rfl ?_
                        refine sp_skip rfl ?_
                        refine sp_region (π := [0, 1, 2]) [] rfl rfl ?_
                        refine wk_move (.int .i64 (p : Int)) rfl rfl rfl rfl ?_
                        dsimp only [putL, setL, List.set_cons_zero, List.set_cons_succ, List.nil_append, List.cons_append]
                        refine wk_iop (.int .i64 ((p : Int) + 1)) rfl rfl rfl rfl rfl rfl (iop_add (by omega) (by omega)) ?_
                        dsimp only [putL, setL, List.set_cons_zero, List.set_cons_succ, List.nil_append, List.cons_append]
                        refine wk_assign (.int .i64 ((p : Int) + 1)) rfl rfl rfl rfl ?_
                        dsimp only [putL, setL, List.set_cons_zero, List.set_cons_succ, List.nil_append, List.cons_append]
                        refine wk_nil ?_
                        exact ⟨(β1, numO x) :: (S ++ T), _, by exact List.Sublist.cons _ <| List.Sublist.cons_cons _ <| List.Sublist.refl _, ⟨(p + 1), j, ns, (.slice a22 j cp22), T, (.pointer (some ⟨β25, 0, none⟩)), (.bool true), (.int .i64 (k : Int)), (.int .i64 (p : Int)), (.slice a_xs xs.length c_xs), (.int .i64 ((xs.length : Nat) : Int)), (.bool true), (.int .i64 (p : Int)), (.int .i64 ((p : Int) + 1)), (.slice a_xs xs.length c_xs), (.int .i64 (p : Int)), (.pointer (some ⟨β24, o24 + p * 1, none⟩)), (.int .i64 (ixI xs p)), (.int .u64 (IntKind.u64.wrap (ixI xs p))), (.int .u64 ((leftN (ixI xs p) 40 : Nat) : Int)), (.int .u64 ((1 + leftN (ixI xs p) 40 : Nat) : Int)), (numV (1 + leftN (ixI xs p) 40)), (.int .i64 (k : Int)), (.slice a22 j cp22), (.int .i64 ((j : Nat) : Int)), (.bool false), d98, d99, d100, d101, d102, d103, d104, d105, d106, d107, d108, (.bool true), (.bool false), d111, d112, d113, d114, rfl, rfl, (by omega), hg1, hg2, (by omega), rfl⟩, (by omega)⟩
                · skip
                  refine wk_iop (.bool false) rfl rfl rfl rfl rfl rfl (iop_lss_f hc23) ?_
                  dsimp only [putL, setL, List.set_cons_zero, List.set_cons_succ, List.nil_append, List.cons_append]
                  refine wk_nil ?_
                  refine sp_false rfl rfl ?_
                  refine sp_exit rfl ?_
                  refine sp_seq rfl ?_
                  refine sp_region (π := [0, 1, 2, 3, 4, 5, 6]) [] rfl rfl ?_
                  refine wk_move (.slice a22 j cp22) rfl rfl rfl rfl ?_
                  dsimp only [putL, setL, List.set_cons_zero, List.set_cons_succ, List.nil_append, List.cons_append]
                  by_cases hj0 : j = 0
                  · skip
                    have hw4 := hg2.none hj0
                    refine wk_callW [(.slice a22 j cp22)] (.tuple #[(.slice none 0 0), (.int .i64 4)]) rfl rfl rfl (enters_of Try.func60 (by kernel_rfl) (by kernel_rfl)) rfl (fun M' w' hm hst => (conv_post (by rw [hw4]) (weights_no' ns j _ _ hg2.len hg2.bound (by omega) hcp22 (by rw [hw4]; decide) w' (hsh22.holds hst (fun p hp => hm p (by simp [hp])))))) ?_
                    dsimp only [putL, setL, List.set_cons_zero, List.set_cons_succ, List.nil_append, List.cons_append]
                    refine wk_move (.tuple #[(.slice none 0 0), (.int .i64 4)]) rfl rfl rfl rfl ?_
                    dsimp only [putL, setL, List.set_cons_zero, List.set_cons_succ, List.nil_append, List.cons_append]
                    refine wk_ext (.slice none 0 0) rfl rfl rfl rfl rfl ?_
                    dsimp only [putL, setL, List.set_cons_zero, List.set_cons_succ, List.nil_append, List.cons_append]
                    refine wk_ext (.int .i64 4) rfl rfl rfl rfl rfl ?_
                    dsimp only [putL, setL, List.set_cons_zero, List.set_cons_succ, List.nil_append, List.cons_append]
                    refine wk_assign (.slice none 0 0) rfl rfl rfl rfl ?_
                    dsimp only [putL, setL, List.set_cons_zero, List.set_cons_succ, List.nil_append, List.cons_append]
                    refine wk_assign (.int .i64 4) rfl rfl rfl rfl ?_
                    dsimp only [putL, setL, List.set_cons_zero, List.set_cons_succ, List.nil_append, List.cons_append]
                    refine wk_nil ?_
                    refine sp_seq rfl ?_
                    refine sp_seq rfl ?_
                    refine sp_region (π := [0, 1, 2]) [] rfl rfl ?_
                    refine wk_move (.slice a22 j cp22) rfl rfl rfl rfl ?_
                    dsimp only [putL, setL, List.set_cons_zero, List.set_cons_succ, List.nil_append, List.cons_append]
                    refine wk_lenA rfl rfl rfl rfl Try.underlying57 ?_
                    dsimp only [putL, setL, List.set_cons_zero, List.set_cons_succ, List.nil_append, List.cons_append]
                    refine wk_iop (.bool true) rfl rfl rfl rfl rfl rfl (iop_eql_t (by omega)) ?_
                    dsimp only [putL, setL, List.set_cons_zero, List.set_cons_succ, List.nil_append, List.cons_append]
                    refine wk_nil ?_
                    refine sp_true rfl rfl ?_
                    refine sp_seq rfl ?_
                    refine sp_region (π := [0, 1, 2, 3, 4, 5, 6, 7, 8, 9, 10]) [] rfl rfl ?_
                    refine wk_move (.int .i64 4) rfl rfl rfl rfl ?_
                    dsimp only [putL, setL, List.set_cons_zero, List.set_cons_succ, List.nil_append, List.cons_append]
                    refine wk_iop (.bool true) rfl rfl rfl rfl rfl rfl (iop_eql_t (by decide)) ?_
                    dsimp only [putL, setL, List.set_cons_zero, List.set_cons_succ, List.nil_append, List.cons_append]
                    refine wk_move (.bool true) rfl rfl rfl rfl ?_
                    dsimp only [putL, setL, List.set_cons_zero, List.set_cons_succ, List.nil_append, List.cons_append]
                    refine wk_move (.slice none 0 0) rfl rfl rfl rfl ?_
                    dsimp only [putL, setL, List.set_cons_zero, List.set_cons_succ, List.nil_append, List.cons_append]
                    refine wk_lenA rfl rfl rfl rfl Try.underlying57 ?_
                    dsimp only [putL, setL, List.set_cons_zero, List.set_cons_succ, List.nil_append, List.cons_append]
                    refine wk_iop (.bool true) rfl rfl rfl rfl rfl rfl (iop_eql_t (by decide)) ?_
                    dsimp only [putL, setL, List.set_cons_zero, List.set_cons_succ, List.nil_append, List.cons_append]
                    refine wk_pick true (.bool true) rfl rfl rfl rfl rfl ?_
                    dsimp only [putL, setL, List.set_cons_zero, List.set_cons_succ, List.nil_append, List.cons_append]
                    refine wk_move (.bool true) rfl rfl rfl rfl ?_
                    dsimp only [putL, setL, List.set_cons_zero, List.set_cons_succ, List.nil_append, List.cons_append]
                    refine wk_call [] (.bool true) rfl rfl rfl (enters_of Try.func61 (by kernel_rfl) (by kernel_rfl)) rfl wakes6_calls ?_
                    dsimp only [putL, setL, List.set_cons_zero, List.set_cons_succ, List.nil_append, List.cons_append]
                    refine wk_pick true (.bool true) rfl rfl rfl rfl rfl ?_
                    dsimp only [putL, setL, List.set_cons_zero, List.set_cons_succ, List.nil_append, List.cons_append]
                    refine wk_assign (.bool true) rfl rfl rfl rfl ?_
                    dsimp only [putL, setL, List.set_cons_zero, List.set_cons_succ, List.nil_append, List.cons_append]
                    refine wk_nil ?_
                    refine sp_ret rfl ?_
                    exact ret_tmps (v := .bool true) (fun w' => by kernel_rfl) fun w' hw => ⟨rfl, hw.below⟩
                  · skip
                    have hok := hg2.ok (by omega) (by omega)
                    refine wk_callS (e := 24) (size := 4) (n := j) (cs := (rowL (weightsTo (modW 1) ns ns.length))) [(.slice a22 j cp22)] (fun v => .tuple #[v, .int .i64 0]) rfl rfl rfl (enters_of Try.func60 (by kernel_rfl) (by kernel_rfl)) rfl (weightsTo_row hg2.len) (by simp only [maxLen]; omega) (fun M' w' hm hst => weights_ok' ns j _ _ hg2.len hg2.bound (by omega) hcp22 hok w' (hsh22.holds hst (fun p hp => hm p (by simp [hp])))) fun v32 S32 hO32 => ?_
                    dsimp only [putL, setL, List.set_cons_zero, List.set_cons_succ, List.nil_append, List.cons_append]
                    try simp only [List.append_assoc]
                    obtain ⟨a33, cp33, hv33, hcp33, hsh33⟩ := hO32.reads
                    subst hv33
                    refine wk_move (.tuple #[(.slice a33 j cp33), (.int .i64 0)]) rfl rfl rfl rfl ?_
                    dsimp only [putL, setL, List.set_cons_zero, List.set_cons_succ, List.nil_append, List.cons_append]
                    refine wk_ext (.slice a33 j cp33) rfl rfl rfl rfl rfl ?_
                    dsimp only [putL, setL, List.set_cons_zero, List.set_cons_succ, List.nil_append, List.cons_append]
                    refine wk_ext (.int .i64 0) rfl rfl rfl rfl rfl ?_
                    dsimp only [putL, setL, List.set_cons_zero, List.set_cons_succ, List.nil_append, List.cons_append]
                    refine wk_assign (.slice a33 j cp33) rfl rfl rfl rfl ?_
                    dsimp only [putL, setL, List.set_cons_zero, List.set_cons_succ, List.nil_append, List.cons_append]
                    refine wk_assign (.int .i64 0) rfl rfl rfl rfl ?_
                    dsimp only [putL, setL, List.set_cons_zero, List.set_cons_succ, List.nil_append, List.cons_append]
                    refine wk_nil ?_
                    refine sp_seq rfl ?_
                    refine sp_seq rfl ?_
                    refine sp_region (π := [0, 1, 2]) [] rfl rfl ?_
                    refine wk_move (.slice a22 j cp22) rfl rfl rfl rfl ?_
                    dsimp only [putL, setL, List.set_cons_zero, List.set_cons_succ, List.nil_append, List.cons_append]
                    refine wk_lenA rfl rfl rfl rfl Try.underlying57 ?_
                    dsimp only [putL, setL, List.set_cons_zero, List.set_cons_succ, List.nil_append, List.cons_append]
                    refine wk_iop (.bool false) rfl rfl rfl rfl rfl rfl (iop_eql_f (by omega)) ?_
                    dsimp only [putL, setL, List.set_cons_zero, List.set_cons_succ, List.nil_append, List.cons_append]
                    refine wk_nil ?_
                    refine sp_false rfl rfl ?_
                    refine sp_skip rfl ?_
                    refine sp_seq rfl ?_
                    refine sp_region (π := [0]) [] rfl rfl ?_
                    refine wkf_newN rfl rfl fun β34 => ?_
                    dsimp only [putL, setL, List.set_cons_zero, List.set_cons_succ, List.nil_append, List.cons_append]
                    refine wk_nil ?_
                    refine sp_seq rfl ?_
                    refine sp_seq rfl ?_
                    refine sp_region (π := [0]) [] rfl rfl ?_
                    refine wk_assign (.int .i64 0) rfl rfl rfl rfl ?_
                    dsimp only [putL, setL, List.set_cons_zero, List.set_cons_succ, List.nil_append, List.cons_append]
                    refine wk_nil ?_
                    refine sp_block rfl ?_
                    refine sp_loopg rfl (fun n l M => ∃ q : Nat, ∃ t : Nat, ∃ d133 : Value, ∃ d134 : Value, ∃ d135 : Value, ∃ d136 : Value, ∃ d137 : Value, ∃ d138 : Value, ∃ d139 : Value, ∃ d140 : Value, ∃ d141 : Value, ∃ d142 : Value, ∃ d143 : Value, ∃ d144 : Value, l = [(.slice a_a a.length c_a), (.slice a_b b.length c_b), (numV x), (.slice a_xs xs.length c_xs), undef, undef, (.pointer (some ⟨β1, 0, none⟩)), undef, (.bool false), (.slice a21 i cp21), (.int .i64 (i : Int)), d11, d12, (.slice a22 j cp22), (.int .i64 (p : Int)), d15, d16, d17, (.slice a33 j cp33), (.int .i64 0), (.pointer (some ⟨β34, 0, none⟩)), (.int .i64 (q : Int)), (.slice a_a a.length c_a), (.int .i64 ((a.length : Nat) : Int)), (.bool false), (.bool false), (.slice a_b b.length c_b), (.int .i64 ((b.length : Nat) : Int)), (.bool false), (.bool false), (.bool false), (.slice a_xs xs.length c_xs), (.int .i64 ((xs.length : Nat) : Int)), (.bool false), (.bool false), (.int .i64 (i : Int)), (.slice a_a a.length c_a), (.int .i64 ((a.length : Nat) : Int)), (.bool false), (.bool false), (.int .i64 (i : Int)), (.slice a_b b.length c_b), (.int .i64 ((b.length : Nat) : Int)), (.bool false), (.bool false), d45, d46, d47, d48, d49, d50, d51, d52, d53, d54, d55, d56, d57, d58, d59, d60, d61, d62, d63, d64, d65, d66, d67, d68, (.slice a21 i cp21), (numV x), (numV (evalL (modW 1) (sumL a b i) x)), (.slice a_a a.length c_a), (numV x), (numV (evalL (modW 1) a x)), (.slice a_b b.length c_b), (numV x), (numV (evalL (modW 1) b x)), (numV (((evalL (modW 1) a x) + (evalL (modW 1) b x)) % modW 1)), (.bool false), (.int .i64 (p : Int)), (.slice a_xs xs.length c_xs), (.int .i64 ((xs.length : Nat) : Int)), (.bool false), d84, d85, d86, d87, d88, d89, d90, d91, d92, d93, d94, d95, d96, d97, d98, d99, d100, d101, d102, d103, d104, d105, d106, d107, d108, d109, d110, d111, d112, d113, d114, (.tuple #[(.slice a33 j cp33), (.int .i64 0)]), (.slice a22 j cp22), (.tuple #[(.slice a33 j cp33), (.int .i64 0)]), (.slice a33 j cp33), (.int .i64 0), (.slice a22 j cp22), (.int .i64 ((j : Nat) : Int)), (.bool false), undef, undef, undef, undef, undef, undef, undef, undef, undef, undef, d133, d134, d135, d136, d137, d138, d139, d140, d141, d142, d143, d144, undef, undef, undef, undef, undef, undef, undef, undef, undef, undef, undef, undef, undef, undef, undef, undef, undef] ∧ (β34, numO t) :: (β1, numO x) :: (S ++ (T ++ S32)) = M ∧ (q ≤ j) ∧ (t = accL (modW 1) (weightsTo (modW 1) ns ns.length) q) ∧ n = j - q) (j - 0) ?_ ?_
                    · exact ⟨0, 0, undef, undef, undef, undef, undef, undef, undef, undef, undef, undef, undef, undef, rfl, rfl, (Nat.zero_le _), rfl, rfl⟩
                    · skip
                      intro n l M
                      refine exists_imp.2 fun q => ?_
                      refine exists_imp.2 fun t => ?_
                      refine exists_imp.2 fun d133 => ?_
                      refine exists_imp.2 fun d134 => ?_
                      refine exists_imp.2 fun d135 => ?_
                      refine exists_imp.2 fun d136 => ?_
                      refine exists_imp.2 fun d137 => ?_
                      refine exists_imp.2 fun d138 => ?_
                      refine exists_imp.2 fun d139 => ?_
                      refine exists_imp.2 fun d140 => ?_
                      refine exists_imp.2 fun d141 => ?_
                      refine exists_imp.2 fun d142 => ?_
                      refine exists_imp.2 fun d143 => ?_
                      refine exists_imp.2 fun d144 => ?_
                      rintro ⟨rfl, rfl, hk0, hk1, rfl⟩
                      have hy : t < W256 := by rw [hk1]; exact accL_lt _ _
                      refine sp_seq rfl ?_
                      refine sp_seq rfl ?_
                      refine sp_region (π := [0, 1, 2, 3]) [] rfl rfl ?_
                      refine wk_move (.int .i64 (q : Int)) rfl rfl rfl rfl ?_
                      dsimp only [putL, setL, List.set_cons_zero, List.set_cons_succ, List.nil_append, List.cons_append]
                      refine wk_move (.slice a33 j cp33) rfl rfl rfl rfl ?_
                      dsimp only [putL, setL, List.set_cons_zero, List.set_cons_succ, List.nil_append, List.cons_append]
                      refine wk_lenA rfl rfl rfl rfl Try.underlying57 ?_
                      dsimp only [putL, setL, List.set_cons_zero, List.set_cons_succ, List.nil_append, List.cons_append]
                      by_cases hc35 : (q : Int) < ((j : Nat) : Int)
                      · skip
                        refine wk_iop (.bool true) rfl rfl rfl rfl rfl rfl (iop_lss_t hc35) ?_
                        dsimp only [putL, setL, List.set_cons_zero, List.set_cons_succ, List.nil_append, List.cons_append]
                        refine wk_nil ?_
                        refine sp_true rfl rfl ?_
                        refine sp_skip rfl ?_
                        refine sp_seq rfl ?_
                        refine sp_block rfl ?_
                        refine sp_draw [0, 1, 2, 3, 4, 5, 6] [] mixed rfl (by kernel_rfl) (by kernel_rfl) ?_
                        refine wk_ldN 0 rfl rfl rfl rfl rfl ?_
                        dsimp only [putL, setL, List.set_cons_zero, List.set_cons_succ, List.nil_append, List.cons_append]
                        refine wk_move (.slice a33 j cp33) rfl rfl rfl rfl ?_
                        dsimp only [putL, setL, List.set_cons_zero, List.set_cons_succ, List.nil_append, List.cons_append]
                        refine wk_move (.int .i64 (q : Int)) rfl rfl rfl rfl ?_
                        dsimp only [putL, setL, List.set_cons_zero, List.set_cons_succ, List.nil_append, List.cons_append]
                        obtain ⟨β36, ha36, hr36⟩ := hsh33.at_ (rowL_ne (k := q) (by have h0 := ((weightsTo_len (modW 1) ns ns.length).trans hg2.len); omega))
                        refine wk_idxA q 4 rfl rfl rfl rfl ha36 rfl Try.underlying57 (by kernel_rfl) rfl (by omega) ?_
                        dsimp only [putL, setL, List.set_cons_zero, List.set_cons_succ, List.nil_append, List.cons_append]
                        refine wk_ldA rfl rfl rfl rfl (fun M' w' hm hst => hr36 w' (fun p hp => hst.own p (hm p (by simp [hp])))) (by have h0 := ((weightsTo_len (modW 1) ns ns.length).trans hg2.len); omega) ?_
                        dsimp only [putL, setL, List.set_cons_zero, List.set_cons_succ, List.nil_append, List.cons_append]
                        refine wk_call [(.int .i64 1), (numV t), (numV (ix (weightsTo (modW 1) ns ns.length) q))] (numV ((t + (ix (weightsTo (modW 1) ns ns.length) q)) % modW 1)) rfl rfl rfl (enters_of Try.func47 (by kernel_rfl) (by kernel_rfl)) rfl (fadd_ok 1 t (ix (weightsTo (modW 1) ns ns.length) q) ok1 hy (ix_lt (weightsTo_lt ok1 _ _))) ?_
                        dsimp only [putL, setL, List.set_cons_zero, List.set_cons_succ, List.nil_append, List.cons_append]
                        refine wk_stN 0 ((t + (ix (weightsTo (modW 1) ns ns.length) q)) % modW 1) rfl rfl rfl rfl rfl rfl ?_
                        dsimp only [putL, setL, List.set_cons_zero, List.set_cons_succ, List.nil_append, List.cons_append]
                        refine wk_nil ?_
                        refine sp_region (π := [0, 1, 2]) [] rfl rfl ?_
                        refine wk_move (.int .i64 (q : Int)) rfl rfl rfl rfl ?_
                        dsimp only [putL, setL, List.set_cons_zero, List.set_cons_succ, List.nil_append, List.cons_append]
                        refine wk_iop (.int .i64 ((q : Int) + 1)) rfl rfl rfl rfl rfl rfl (iop_add (by omega) (by omega)) ?_
                        dsimp only [putL, setL, List.set_cons_zero, List.set_cons_succ, List.nil_append, List.cons_append]
                        refine wk_assign (.int .i64 ((q : Int) + 1)) rfl rfl rfl rfl ?_
                        dsimp only [putL, setL, List.set_cons_zero, List.set_cons_succ, List.nil_append, List.cons_append]
                        refine wk_nil ?_
                        exact ⟨(β34, numO ((t + (ix (weightsTo (modW 1) ns ns.length) q)) % modW 1)) :: (β1, numO x) :: (S ++ (T ++ S32)), _, List.Sublist.refl _, ⟨(q + 1), ((t + (ix (weightsTo (modW 1) ns ns.length) q)) % modW 1), (.int .i64 (q : Int)), (.slice a33 j cp33), (.int .i64 ((j : Nat) : Int)), (.bool true), (.int .i64 (q : Int)), (.int .i64 ((q : Int) + 1)), (numV t), (.slice a33 j cp33), (.int .i64 (q : Int)), (.pointer (some ⟨β36, 0 + q * 4, none⟩)), (numV (ix (weightsTo (modW 1) ns ns.length) q)), (numV ((t + (ix (weightsTo (modW 1) ns ns.length) q)) % modW 1)), rfl, rfl, (by omega), (by rw [hk1]; rfl), rfl⟩, (by omega)⟩
                      · skip
                        refine wk_iop (.bool false) rfl rfl rfl rfl rfl rfl (iop_lss_f hc35) ?_
                        dsimp only [putL, setL, List.set_cons_zero, List.set_cons_succ, List.nil_append, List.cons_append]
                        refine wk_nil ?_
                        refine sp_false rfl rfl ?_
                        refine sp_exit rfl ?_
                        refine sp_seq rfl ?_
                        refine sp_region (π := [0, 1, 2, 3, 4, 5, 6, 7, 8, 9, 10, 11, 12, 13, 14, 15, 16, 17]) [] rfl rfl ?_
                        refine wk_move (.int .i64 0) rfl rfl rfl rfl ?_
                        dsimp only [putL, setL, List.set_cons_zero, List.set_cons_succ, List.nil_append, List.cons_append]
                        refine wk_iop (.bool true) rfl rfl rfl rfl rfl rfl (iop_eql_t (by decide)) ?_
                        dsimp only [putL, setL, List.set_cons_zero, List.set_cons_succ, List.nil_append, List.cons_append]
                        refine wk_move (.bool true) rfl rfl rfl rfl ?_
                        dsimp only [putL, setL, List.set_cons_zero, List.set_cons_succ, List.nil_append, List.cons_append]
                        refine wk_move (.slice a33 j cp33) rfl rfl rfl rfl ?_
                        dsimp only [putL, setL, List.set_cons_zero, List.set_cons_succ, List.nil_append, List.cons_append]
                        refine wk_lenA rfl rfl rfl rfl Try.underlying57 ?_
                        dsimp only [putL, setL, List.set_cons_zero, List.set_cons_succ, List.nil_append, List.cons_append]
                        refine wk_move (.slice a22 j cp22) rfl rfl rfl rfl ?_
                        dsimp only [putL, setL, List.set_cons_zero, List.set_cons_succ, List.nil_append, List.cons_append]
                        refine wk_lenA rfl rfl rfl rfl Try.underlying57 ?_
                        dsimp only [putL, setL, List.set_cons_zero, List.set_cons_succ, List.nil_append, List.cons_append]
                        refine wk_iop (.bool true) rfl rfl rfl rfl rfl rfl (iop_eql_t rfl) ?_
                        dsimp only [putL, setL, List.set_cons_zero, List.set_cons_succ, List.nil_append, List.cons_append]
                        refine wk_pick true (.bool true) rfl rfl rfl rfl rfl ?_
                        dsimp only [putL, setL, List.set_cons_zero, List.set_cons_succ, List.nil_append, List.cons_append]
                        refine wk_move (.bool true) rfl rfl rfl rfl ?_
                        dsimp only [putL, setL, List.set_cons_zero, List.set_cons_succ, List.nil_append, List.cons_append]
                        refine wk_ldN 0 rfl rfl rfl rfl rfl ?_
                        dsimp only [putL, setL, List.set_cons_zero, List.set_cons_succ, List.nil_append, List.cons_append]
                        refine wk_val (numV 1) rfl rfl rfl (fun w => by kernel_rfl) ?_
                        dsimp only [putL, setL, List.set_cons_zero, List.set_cons_succ, List.nil_append, List.cons_append]
                        refine wk_eqN true rfl rfl rfl rfl rfl hy (by decide) (decide_eq_true (by rw [hk1, show q = j by omega]; exact acc_one hok hg2.len)) ?_
                        dsimp only [putL, setL, List.set_cons_zero, List.set_cons_succ, List.nil_append, List.cons_append]
                        refine wk_pick true (.bool true) rfl rfl rfl rfl rfl ?_
                        dsimp only [putL, setL, List.set_cons_zero, List.set_cons_succ, List.nil_append, List.cons_append]
                        refine wk_move (.bool true) rfl rfl rfl rfl ?_
                        dsimp only [putL, setL, List.set_cons_zero, List.set_cons_succ, List.nil_append, List.cons_append]
                        refine wk_call [] (.bool true) rfl rfl rfl (enters_of Try.func61 (by kernel_rfl) (by kernel_rfl)) rfl wakes6_calls ?_
                        dsimp only [putL, setL, List.set_cons_zero, List.set_cons_succ, List.nil_append, List.cons_append]
                        refine wk_pick true (.bool true) rfl rfl rfl rfl rfl ?_
                        dsimp only [putL, setL, List.set_cons_zero, List.set_cons_succ, List.nil_append, List.cons_append]
                        refine wk_assign (.bool true) rfl rfl rfl rfl ?_
                        dsimp only [putL, setL, List.set_cons_zero, List.set_cons_succ, List.nil_append, List.cons_append]
                        refine wk_nil ?_
                        refine sp_ret rfl ?_
                        exact ret_tmps (v := .bool true) (fun w' => by kernel_rfl) fun w' hw => ⟨rfl, hw.below⟩

set_option maxRecDepth 100000 in
theorem polySums_lifted (os : Os) (started : os.Started) (H : Type) (enc : TypeId × Value → H) :
    ReturnsInHanded {} Try.checked os 19 .any (Rows.polySumsSpec.pre6 enc Try.prog Try.f19 Rows.polySumsRow.domain false) (Rows.polySumsSpec.post enc Try.prog Try.f19 false true false false) := by
  refine returnsInHanded_of_change (C := Try.checked) own started (by kernel_rfl) Try.func19
    (ChangeSpec.witness6 (enc := enc) (C := Try.checked) false ⟨#[], #[.slice none 0 0, .slice none 0 0, .agg #[.int .u64 0, .int .u64 0, .int .u64 0, .int .u64 0], .slice none 0 0], []⟩ 8 (by kernel_rfl) (by kernel_rfl) (by kernel_rfl) (by kernel_rfl)) ?_
  intro W base args ds gs before hval0 hW hcnd _
  have hval : ∀ (j : Nat) t v, Try.f19.params[j]? = some t → args[j]? = some v → Value.okWide Try.prog W .any base t v := hval0
  have hW' := hW
  obtain ⟨p, q, hA0, hV, rfl, hfz, hnd⟩ := hW
  have hA : DataW.TrodAll enc Try.prog W 0 (fun _ => true) true Try.f19.params.toList args.toList ds p := hA0
  rw [Try.params19] at hA hval
  obtain ⟨v0, vs0, d0, ds0, p0, q0, hargs, rfl, rfl, h0, r0⟩ := trodAll_cons hA
  obtain ⟨v1, vs1, d1, ds1, p1, q1, rfl, rfl, rfl, h1, r1⟩ := trodAll_cons r0
  obtain ⟨v2, vs2, d2, ds2, p2, q2, rfl, rfl, rfl, h2, r2⟩ := trodAll_cons r1
  obtain ⟨v3, vs3, d3, ds3, p3, q3, rfl, rfl, rfl, h3, r3⟩ := trodAll_cons r2
  obtain ⟨rfl, rfl, rfl⟩ := trodAll_nil r3
  obtain rfl : args = #[v0, v1, v2, v3] := by cases args; simp_all
  obtain ⟨rfl, rfl⟩ := trodVars_none hV
  have k0 := h0
  have lt0 : ∀ x ∈ p0, x.block < W.heap.size := by obtain ⟨m, hm⟩ := k0; exact DataW.trod_lt m _ _ _ hm
  have k1 := h1
  have lt1 : ∀ x ∈ p1, x.block < W.heap.size := by obtain ⟨m, hm⟩ := k1; exact DataW.trod_lt m _ _ _ hm
  have k2 := h2
  have lt2 : ∀ x ∈ p2, x.block < W.heap.size := by obtain ⟨m, hm⟩ := k2; exact DataW.trod_lt m _ _ _ hm
  have k3 := h3
  have lt3 : ∀ x ∈ p3, x.block < W.heap.size := by obtain ⟨m, hm⟩ := k3; exact DataW.trod_lt m _ _ _ hm
  obtain ⟨a_a, a, c_a, rfl, w_a, hc_a, _, hH_a⟩ := open_nums (hval 0 57 v0 rfl rfl) h0
  obtain ⟨a_b, b, c_b, rfl, w_b, hc_b, _, hH_b⟩ := open_nums (hval 1 57 v1 rfl rfl) h1
  obtain ⟨x, w_x, rfl⟩ := open_num (hval 2 24 v2 rfl rfl) h2
  obtain ⟨a_xs, xs, c_xs, rfl, w_xs, hc_xs, _, hH_xs⟩ := open_ints (hval 3 58 v3 rfl rfl) h3
  clear hA0 hval0
  refine (polySums_walk a a_a c_a b a_b c_b x xs a_xs c_xs w_a hc_a w_b hc_b w_x w_xs hc_xs W hH_a hH_b hH_xs).mono fun e W' ⟨he, bel⟩ => ?_
  subst he
  exact ⟨_, rfl, _, _, _, [], _, [], hW', trodAll_mk1 (shut_bool Try.underlying4 _), (trodAll_cons_mk (Below.trod laidOut (by kernel_rfl) (of_decide_eq_true (by kernel_rfl)) k0 bel lt0) (trodAll_cons_mk (Below.trod laidOut (by kernel_rfl) (of_decide_eq_true (by kernel_rfl)) k1 bel lt1) (trodAll_cons_mk (Below.trod laidOut (by kernel_rfl) (of_decide_eq_true (by kernel_rfl)) k2 bel lt2) (trodAll_cons_mk (Below.trod laidOut (by kernel_rfl) (of_decide_eq_true (by kernel_rfl)) k3 bel lt3) trodAll_mk0)))), rfl, bel.frame _, fun h => by cases h⟩

theorem polySums_holds : Rows.PolySumsSaid :=
  OpenClaim.holds_of_wide 19 Try.f19 rfl rfl rfl rfl rfl rfl rfl ⟨rfl, rfl, rfl, rfl, rfl⟩ rfl rfl rfl rfl rfl (by kernel_rfl) Try.func19 (by kernel_rfl)
    (of_decide_eq_true (by kernel_rfl)) (by unfold Func.isWrapper; first | (rw [if_pos (by decide +kernel)]; kernel_rfl) | (rw [if_neg (by decide +kernel)]; exact ⟨rfl, rfl⟩))
    (fun os started H enc _ => polySums_lifted os started H enc)

end Go.Proofs.Ytmecomgifmkkfaa
