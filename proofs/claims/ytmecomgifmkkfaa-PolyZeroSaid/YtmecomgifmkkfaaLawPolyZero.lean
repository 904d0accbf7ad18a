/- PolyZero: any shares of a polynomial, more than its degree, at unlike places, tell what it is worth at 0, and, as many as its coefficients, these; for every input, no condition. -/
import Derived.Test.YtmecomgifmkkfaaPolyK
import Derived.Test.YtmecomgifmkkfaaOpenS
import Derived.Test.YtmecomgifmkkfaaSymB
import Derived.Test.YtmecomgifmkkfaaFieldD
import Derived.Test.YtmecomgifmkkfaaRefB
import Derived.Test.YtmecomgifmkkfaaLimbM
import Derived.Test.YtmecomgifmkkfaaLimbG
import Derived.Test.YtmecomgifmkkfaaLimbB
import Derived.Test.YtmecomgifmkkfaaRows
import Derived.Test.YtmecomgifmkkfaaOpen
import Derived.Test.YtmecomgifmkkfaaFieldL
import Derived.ProofKit
import Derived.OpenShut
namespace Go.Proofs.Ytmecomgifmkkfaa
set_option linter.unusedVariables false
set_option linter.unusedSimpArgs false
open Go.ChangeShapes Go.WideShapes Go.ChangeAt Go.RowKit

theorem wrap_nat {n : Nat} (h : n < 18446744073709551616) : IntKind.u64.wrap (n : Int) = n := by show (n : Int) % 18446744073709551616 = n; omega
theorem iop_add_nat {a b : Nat} (h : a + b < 18446744073709551616) : iop .add .u64 (a : Int) (b : Int) = some (.int .u64 ((a + b : Nat) : Int)) := by
  have e : IntKind.u64.wrap ((a : Int) + b) = ((a + b : Nat) : Int) := by show ((a : Int) + b) % 18446744073709551616 = _; omega
  simp only [iop, e]
theorem iop_wrap_mul {i c : Nat} (hi : i < 18446744073709551616) (h : i * c < 18446744073709551616) : iop .mul .u64 (IntKind.u64.wrap (i : Int)) (c : Int) = some (.int .u64 ((i * c : Nat) : Int)) := by
  have e : IntKind.u64.wrap ((i : Int) * c) = ((i * c : Nat) : Int) := by rw [← Int.natCast_mul]; exact wrap_nat h
  rw [wrap_nat hi]
  simp only [iop, e]
/-- A whole number, as one of 64 bits, and what is left of it. -/
def leftN (x : Int) (m : Nat) : Nat := ((IntKind.u64.wrap x).tmod m).toNat
theorem wrap_pos (x : Int) : 0 ≤ IntKind.u64.wrap x := by show 0 ≤ x % 18446744073709551616; omega
theorem leftN_eq (x : Int) (m : Nat) : (IntKind.u64.wrap x).tmod m = (leftN x m : Nat) := by
  have := wrap_pos x
  unfold leftN
  rw [Int.toNat_of_nonneg (Int.tmod_nonneg _ this)]
theorem leftN_lt (x : Int) {m : Nat} (h : 0 < m) : leftN x m < m := by
  have h1 := leftN_eq x m
  have h2 := Int.tmod_lt_of_pos (IntKind.u64.wrap x) (b := (m : Int)) (by omega)
  omega

theorem iop_one_add {b : Nat} (h : b < 1000) : iop .add .u64 1 (b : Int) = some (.int .u64 ((1 + b : Nat) : Int)) := iop_add_nat (a := 1) (by omega)
theorem unlike_of {m : Nat} (hm : 0 < m) {ss : List (Nat × Nat)} (h : ∀ a, a < ss.length → ∀ b, b < a → (sx ss a).1 % m ≠ (sx ss b).1 % m) : Unlike m (xsS ss) (xsS ss).length := by
  intro a ha b hb h0
  rw [xsS_len] at ha
  rw [xsS_ix (by omega), xsS_ix (by omega)] at h0
  exact h a ha b hb ((subM_zero hm).1 h0)
/-- j shares of the polynomial c, at unlike small places. -/
structure PZ (c : List Nat) (ss : List (Nat × Nat)) (j : Nat) : Prop where
  len : ss.length = j
  pl : ∀ k, k < j → (sx ss k).1 < 100
  ev : ∀ k, k < j → (sx ss k).2 = evalL (modW 1) c (sx ss k).1
  ne : ∀ a, a < j → ∀ b, b < a → (sx ss a).1 ≠ (sx ss b).1
theorem PZ.nil (c : List Nat) : PZ c [] 0 := ⟨rfl, fun k h => by omega, fun k h => by omega, fun a h => by omega⟩
theorem PZ.step {c : List Nat} {ss : List (Nat × Nat)} {j x : Nat} (h : PZ c ss j) (hx : x < 100) (hn : ∀ b, b < j → (sx ss b).1 ≠ x) : PZ c (ss ++ [(x, evalL (modW 1) c x)]) (j + 1) := by
  have hl := h.len
  have at0 : ∀ k, k < j → sx (ss ++ [(x, evalL (modW 1) c x)]) k = sx ss k := fun k hk => sx_append_left (by omega)
  have at1 : sx (ss ++ [(x, evalL (modW 1) c x)]) j = (x, evalL (modW 1) c x) := sx_append_right hl.symm
  refine ⟨by rw [List.length_append, hl]; rfl, fun k hk => ?_, fun k hk => ?_, fun a ha b hb => ?_⟩
  · rcases Nat.lt_or_ge k j with h1 | h1
    · rw [at0 k h1]; exact h.pl k h1
    · rw [show k = j by omega, at1]; exact hx
  · rcases Nat.lt_or_ge k j with h1 | h1
    · rw [at0 k h1]; exact h.ev k h1
    · rw [show k = j by omega, at1]
  · rcases Nat.lt_or_ge a j with h1 | h1
    · rw [at0 a h1, at0 b (by omega)]; exact h.ne a h1 b hb
    · rw [show a = j by omega, at1, at0 b (by omega)]; exact fun e => hn b (by omega) e.symm
theorem PZ.ok {c : List Nat} {ss : List (Nat × Nat)} {j : Nat} (h : PZ c ss j) (h0 : 0 < j) (h64 : j ≤ 64) : wrongI (modW 1) (xsS ss) = 0 :=
  wrongI_ok (by rw [xsS_len, h.len]; omega) (unlike_of (modW_pos ok1) fun a ha b hb => by
    have hm : 100000 < modW 1 := by decide
    have ha' : a < j := by rw [← h.len]; exact ha
    have h1 := h.pl a ha'
    have h2 := h.pl b (by omega)
    rw [Nat.mod_eq_of_lt (by omega), Nat.mod_eq_of_lt (by omega)]
    exact h.ne a ha' b hb)
theorem PZ.bound {c : List Nat} {ss : List (Nat × Nat)} {j : Nat} (h : PZ c ss j) : ShBound ss := fun s hs => by
  obtain ⟨k, hk, rfl⟩ := List.getElem_of_mem hs
  have hk' : k < j := by rw [← h.len]; exact hk
  have h1 := h.pl k hk'
  have h2 := h.ev k hk'
  rw [sx_eq hk] at h1 h2
  exact ⟨by unfold W256; omega, by rw [h2]; exact evalL_lt (modW_pos ok1) (modW_lt 1) _ _⟩
theorem sx_take {ss : List (Nat × Nat)} {n k : Nat} (hk : k < n) : sx (ss.take n) k = sx ss k := by unfold sx; rw [nthO_eq, nthO_eq, List.getElem?_take, if_pos hk]
theorem PZ.take {c : List Nat} {ss : List (Nat × Nat)} {j n : Nat} (h : PZ c ss j) (hn : n ≤ j) : PZ c (ss.take n) n :=
  ⟨by rw [List.length_take, h.len]; omega, fun k hk => by rw [sx_take hk]; exact h.pl k (by omega), fun k hk => by rw [sx_take hk]; exact h.ev k (by omega), fun a ha b hb => by rw [sx_take ha, sx_take (by omega)]; exact h.ne a (by omega) b hb⟩
theorem shL_take (n : Nat) (ss : List (Nat × Nat)) : ∃ t, shL ss = shL (ss.take n) ++ t := ⟨shL (ss.drop n), by rw [← shL_append, List.take_append_drop]⟩
theorem Reads.take {a : Option Addr} {ss : List (Nat × Nat)} {S : Mem} (h : Reads a (shL ss) S) (n : Nat) : Reads a (shL (ss.take n)) S := by
  obtain ⟨t, ht⟩ := shL_take n ss
  rcases h with h | ⟨β, e, h⟩
  · rw [h] at ht
    exact .inl (List.append_eq_nil_iff.1 ht.symm).1
  · refine .inr ⟨β, e, fun w hw j v hj => h w hw j v ?_⟩
    rw [ht, List.getElem?_append_left (List.getElem?_eq_some_iff.1 hj).1]; exact hj
theorem PZ.zero {c : List Nat} {ss : List (Nat × Nat)} {j : Nat} (h : PZ c ss j) (h0 : 0 < j) (h64 : j ≤ 64) (hc : c.length ≤ j) : zeroTo (modW 1) (weightsTo (modW 1) (xsS ss) (xsS ss).length) ss ss.length = ix c 0 % modW 1 :=
  th_zero_poly (h.ok h0 h64) (by rw [h.len]; exact hc) (fun k hk => h.ev k (by rw [← h.len]; exact hk))
theorem PZ.thru {c : List Nat} {ss : List (Nat × Nat)} {j : Nat} (h : PZ c ss j) (h0 : 0 < c.length) (h64 : c.length ≤ 64) (hc : c.length ≤ j) (k : Nat) : ix (thruL (modW 1) (ss.take c.length)) k = ix c k % modW 1 := by
  have h' := h.take hc
  rw [th_poly (h'.ok h0 h64) h'.len.symm (fun k hk => h'.ev k (by rw [← h'.len]; exact hk))]
  unfold ix
  rw [nthO_eq, nthO_eq, List.getElem?_map]
  cases c[k]? <;> simp

set_option maxRecDepth 20000 in
set_option maxHeartbeats 2000000 in
theorem polyZero_walk (c : List (Nat)) (a_c : Option Addr) (c_c : Nat) (places : List (Int)) (a_places : Option Addr) (c_places : Nat) (w_c : ∀ x ∈ c, x < W256) (hc_c : c.length ≤ c_c) (w_places : ∀ x ∈ places, -9223372036854775808 ≤ x ∧ x ≤ 9223372036854775807) (hc_places : places.length ≤ c_places) (w : World) (hH_c : Holds w a_c (rowL c)) (hH_places : Holds w a_places (intL places)) :
    Calls Try.prog 22 #[.slice a_c c.length c_c, .slice a_places places.length c_places] w fun e w' => e = .returned (.bool true) ∧ Below w.heap.size w w' := by
  refine fn_calls (l0 := [(.slice a_c c.length c_c), (.slice a_places places.length c_places), undef, undef, undef, undef, undef, undef, undef, undef, undef, undef, undef, undef, undef, undef, undef, undef, undef, undef, undef, undef, undef, undef, undef, undef, undef, undef, undef, undef, undef, undef, undef, undef, undef, undef, undef, undef, undef, undef, undef, undef, undef, undef, undef, undef, undef, undef, undef, undef, undef, undef, undef, undef, undef, undef, undef, undef, undef, undef, undef, undef, undef, undef, undef, undef, undef, undef, undef, undef, undef, undef, undef, undef, undef, undef, undef, undef, undef, undef, undef, undef, undef, undef, undef, undef, undef, undef, undef, undef, undef, undef, undef, undef, undef, undef, undef, undef, undef, undef, undef, undef, undef, undef, undef, undef, undef, undef, undef, undef, undef, undef, undef, undef, undef, undef, undef, undef, undef, undef, undef, undef, undef, undef, undef, undef, undef, undef, undef, undef, undef, undef, undef]) Try.func22 rfl rfl [] (St.start w) ?_
  refine sp_seq rfl ?_
  refine sp_region (π := [0]) [] rfl rfl ?_
  refine wk_assign (.bool false) rfl rfl rfl rfl ?_
  dsimp only [putL, setL, List.set_cons_zero, List.set_cons_succ, List.nil_append, List.cons_append]
  refine wk_nil ?_
  refine sp_seq rfl ?_
  refine sp_seq rfl ?_
  refine sp_region (π := [0, 1, 2, 3, 4, 5, 6, 7, 8, 9, 10, 11, 12]) [] rfl rfl ?_
  refine wk_move (.slice a_c c.length c_c) rfl rfl rfl rfl ?_
  dsimp only [putL, setL, List.set_cons_zero, List.set_cons_succ, List.nil_append, List.cons_append]
  refine wk_lenA rfl rfl rfl rfl Try.underlying57 ?_
  dsimp only [putL, setL, List.set_cons_zero, List.set_cons_succ, List.nil_append, List.cons_append]
  by_cases hc1 : ((c.length : Nat) : Int) < 1
  · skip
    refine wk_iop (.bool true) rfl rfl rfl rfl rfl rfl (iop_lss_t hc1) ?_
    dsimp only [putL, setL, List.set_cons_zero, List.set_cons_succ, List.nil_append, List.cons_append]
    refine wk_move (.bool true) rfl rfl rfl rfl ?_
    dsimp only [putL, setL, List.set_cons_zero, List.set_cons_succ, List.nil_append, List.cons_append]
    refine wk_skip rfl rfl (fun h => by cases h) ?_
    dsimp only [putL, setL, List.set_cons_zero, List.set_cons_succ, List.nil_append, List.cons_append]
    refine wk_skip rfl rfl (fun h => by cases h) ?_
    dsimp only [putL, setL, List.set_cons_zero, List.set_cons_succ, List.nil_append, List.cons_append]
    refine wk_skip rfl rfl (fun h => by cases h) ?_
    dsimp only [putL, setL, List.set_cons_zero, List.set_cons_succ, List.nil_append, List.cons_append]
    refine wk_pick true (.bool true) rfl rfl rfl rfl rfl ?_
    dsimp only [putL, setL, List.set_cons_zero, List.set_cons_succ, List.nil_append, List.cons_append]
    refine wk_move (.bool true) rfl rfl rfl rfl ?_
    dsimp only [putL, setL, List.set_cons_zero, List.set_cons_succ, List.nil_append, List.cons_append]
    refine wk_skip rfl rfl (fun h => by cases h) ?_
    dsimp only [putL, setL, List.set_cons_zero, List.set_cons_succ, List.nil_append, List.cons_append]
    refine wk_skip rfl rfl (fun h => by cases h) ?_
    dsimp only [putL, setL, List.set_cons_zero, List.set_cons_succ, List.nil_append, List.cons_append]
    refine wk_skip rfl rfl (fun h => by cases h) ?_
    dsimp only [putL, setL, List.set_cons_zero, List.set_cons_succ, List.nil_append, List.cons_append]
    refine wk_pick true (.bool true) rfl rfl rfl rfl rfl ?_
    dsimp only [putL, setL, List.set_cons_zero, List.set_cons_succ, List.nil_append, List.cons_append]
    refine wk_nil ?_
    refine sp_true rfl rfl ?_
    refine sp_seq rfl ?_
    refine sp_region (π := [0]) [] rfl rfl ?_
    refine wk_assign (.bool true) rfl rfl rfl rfl ?_
    dsimp only [putL, setL, List.set_cons_zero, List.set_cons_succ, List.nil_append, List.cons_append]
    refine wk_nil ?_
    refine sp_ret rfl ?_
    exact ret_tmps (v := .bool true) (fun w' => by kernel_rfl) fun w' hw => ⟨rfl, hw.below⟩
  · skip
    refine wk_iop (.bool false) rfl rfl rfl rfl rfl rfl (iop_lss_f hc1) ?_
    dsimp only [putL, setL, List.set_cons_zero, List.set_cons_succ, List.nil_append, List.cons_append]
    refine wk_move (.bool false) rfl rfl rfl rfl ?_
    dsimp only [putL, setL, List.set_cons_zero, List.set_cons_succ, List.nil_append, List.cons_append]
    refine wk_move (.slice a_c c.length c_c) rfl rfl rfl rfl ?_
    dsimp only [putL, setL, List.set_cons_zero, List.set_cons_succ, List.nil_append, List.cons_append]
    refine wk_lenA rfl rfl rfl rfl Try.underlying57 ?_
    dsimp only [putL, setL, List.set_cons_zero, List.set_cons_succ, List.nil_append, List.cons_append]
    by_cases hc2 : 6 < ((c.length : Nat) : Int)
    · skip
      refine wk_iop (.bool true) rfl rfl rfl rfl rfl rfl (iop_gtr_t hc2) ?_
      dsimp only [putL, setL, List.set_cons_zero, List.set_cons_succ, List.nil_append, List.cons_append]
      refine wk_pick false (.bool true) rfl rfl rfl rfl rfl ?_
      dsimp only [putL, setL, List.set_cons_zero, List.set_cons_succ, List.nil_append, List.cons_append]
      refine wk_move (.bool true) rfl rfl rfl rfl ?_
      dsimp only [putL, setL, List.set_cons_zero, List.set_cons_succ, List.nil_append, List.cons_append]
      refine wk_skip rfl rfl (fun h => by cases h) ?_
      dsimp only [putL, setL, List.set_cons_zero, List.set_cons_succ, List.nil_append, List.cons_append]
      refine wk_skip rfl rfl (fun h => by cases h) ?_
      dsimp only [putL, setL, List.set_cons_zero, List.set_cons_succ, List.nil_append, List.cons_append]
      refine wk_skip rfl rfl (fun h => by cases h) ?_
      dsimp only [putL, setL, List.set_cons_zero, List.set_cons_succ, List.nil_append, List.cons_append]
      refine wk_pick true (.bool true) rfl rfl rfl rfl rfl ?_
      dsimp only [putL, setL, List.set_cons_zero, List.set_cons_succ, List.nil_append, List.cons_append]
      refine wk_nil ?_
      refine sp_true rfl rfl ?_
      refine sp_seq rfl ?_
      refine sp_region (π := [0]) [] rfl rfl ?_
      refine wk_assign (.bool true) rfl rfl rfl rfl ?_
      dsimp only [putL, setL, List.set_cons_zero, List.set_cons_succ, List.nil_append, List.cons_append]
      refine wk_nil ?_
      refine sp_ret rfl ?_
      exact ret_tmps (v := .bool true) (fun w' => by kernel_rfl) fun w' hw => ⟨rfl, hw.below⟩
    · skip
      refine wk_iop (.bool false) rfl rfl rfl rfl rfl rfl (iop_gtr_f hc2) ?_
      dsimp only [putL, setL, List.set_cons_zero, List.set_cons_succ, List.nil_append, List.cons_append]
      refine wk_pick false (.bool false) rfl rfl rfl rfl rfl ?_
      dsimp only [putL, setL, List.set_cons_zero, List.set_cons_succ, List.nil_append, List.cons_append]
      refine wk_move (.bool false) rfl rfl rfl rfl ?_
      dsimp only [putL, setL, List.set_cons_zero, List.set_cons_succ, List.nil_append, List.cons_append]
      refine wk_move (.slice a_places places.length c_places) rfl rfl rfl rfl ?_
      dsimp only [putL, setL, List.set_cons_zero, List.set_cons_succ, List.nil_append, List.cons_append]
      refine wk_lenA rfl rfl rfl rfl Try.underlying58 ?_
      dsimp only [putL, setL, List.set_cons_zero, List.set_cons_succ, List.nil_append, List.cons_append]
      by_cases hc3 : 10 < ((places.length : Nat) : Int)
      · skip
        refine wk_iop (.bool true) rfl rfl rfl rfl rfl rfl (iop_gtr_t hc3) ?_
        dsimp only [putL, setL, List.set_cons_zero, List.set_cons_succ, List.nil_append, List.cons_append]
        refine wk_pick false (.bool true) rfl rfl rfl rfl rfl ?_
        dsimp only [putL, setL, List.set_cons_zero, List.set_cons_succ, List.nil_append, List.cons_append]
        refine wk_nil ?_
        refine sp_true rfl rfl ?_
        refine sp_seq rfl ?_
        refine sp_region (π := [0]) [] rfl rfl ?_
        refine wk_assign (.bool true) rfl rfl rfl rfl ?_
        dsimp only [putL, setL, List.set_cons_zero, List.set_cons_succ, List.nil_append, List.cons_append]
        refine wk_nil ?_
        refine sp_ret rfl ?_
        exact ret_tmps (v := .bool true) (fun w' => by kernel_rfl) fun w' hw => ⟨rfl, hw.below⟩
      · skip
        refine wk_iop (.bool false) rfl rfl rfl rfl rfl rfl (iop_gtr_f hc3) ?_
        dsimp only [putL, setL, List.set_cons_zero, List.set_cons_succ, List.nil_append, List.cons_append]
        refine wk_pick false (.bool false) rfl rfl rfl rfl rfl ?_
        dsimp only [putL, setL, List.set_cons_zero, List.set_cons_succ, List.nil_append, List.cons_append]
        refine wk_nil ?_
        refine sp_false rfl rfl ?_
        refine sp_skip rfl ?_
        refine sp_seq rfl ?_
        refine sp_region (π := [0]) [] rfl rfl ?_
        refine wk_assign (.slice none 0 0) rfl rfl rfl rfl ?_
        dsimp only [putL, setL, List.set_cons_zero, List.set_cons_succ, List.nil_append, List.cons_append]
        refine wk_nil ?_
        refine sp_seq rfl ?_
        refine sp_seq rfl ?_
        refine sp_region (π := [0]) [] rfl rfl ?_
        refine wk_assign (.int .i64 0) rfl rfl rfl rfl ?_
        dsimp only [putL, setL, List.set_cons_zero, List.set_cons_succ, List.nil_append, List.cons_append]
        refine wk_nil ?_
        refine sp_block rfl ?_
        refine sp_loopg rfl (fun n l M => ∃ i : Nat, ∃ j : Nat, ∃ ss : List (Nat × Nat), ∃ v : Value, ∃ S : Mem, ∃ d7 : Value, ∃ d8 : Value, ∃ d9 : Value, ∃ d28 : Value, ∃ d29 : Value, ∃ d30 : Value, ∃ d31 : Value, ∃ d32 : Value, ∃ d33 : Value, ∃ d34 : Value, ∃ d35 : Value, ∃ d36 : Value, ∃ d37 : Value, ∃ d38 : Value, ∃ d39 : Value, ∃ d40 : Value, ∃ d41 : Value, ∃ d42 : Value, ∃ d43 : Value, ∃ d44 : Value, ∃ d45 : Value, ∃ d46 : Value, ∃ d47 : Value, ∃ d48 : Value, ∃ d49 : Value, ∃ d50 : Value, ∃ d51 : Value, ∃ d52 : Value, ∃ d53 : Value, ∃ d54 : Value, ∃ d55 : Value, ∃ d56 : Value, ∃ d57 : Value, ∃ d58 : Value, ∃ d59 : Value, ∃ d60 : Value, ∃ d61 : Value, ∃ d62 : Value, ∃ d63 : Value, ∃ d64 : Value, ∃ d65 : Value, ∃ d66 : Value, ∃ d67 : Value, ∃ d68 : Value, ∃ d69 : Value, ∃ d70 : Value, ∃ d71 : Value, ∃ d72 : Value, ∃ d73 : Value, ∃ d74 : Value, ∃ d75 : Value, l = [(.slice a_c c.length c_c), (.slice a_places places.length c_places), undef, undef, (.bool false), v, (.int .i64 (i : Int)), d7, d8, d9, undef, undef, undef, undef, undef, (.slice a_c c.length c_c), (.int .i64 ((c.length : Nat) : Int)), (.bool false), (.bool false), (.slice a_c c.length c_c), (.int .i64 ((c.length : Nat) : Int)), (.bool false), (.bool false), (.bool false), (.slice a_places places.length c_places), (.int .i64 ((places.length : Nat) : Int)), (.bool false), (.bool false), d28, d29, d30, d31, d32, d33, d34, d35, d36, d37, d38, d39, d40, d41, d42, d43, d44, d45, d46, d47, d48, d49, d50, d51, d52, d53, d54, d55, d56, d57, d58, d59, d60, d61, d62, d63, d64, d65, d66, d67, d68, d69, d70, d71, d72, d73, d74, d75, undef, undef, undef, undef, undef, undef, undef, undef, undef, undef, undef, undef, undef, undef, undef, undef, undef, undef, undef, undef, undef, undef, undef, undef, undef, undef, undef, undef, undef, undef, undef, undef, undef, undef, undef, undef, undef, undef, undef, undef, undef, undef, undef, undef, undef, undef, undef, undef, undef, undef, undef, undef, undef, undef, undef, undef, undef] ∧ S = M ∧ (i ≤ places.length) ∧ (OwnS 65 8 v j (shL ss) S) ∧ (PZ c ss j) ∧ (j ≤ c.length + 2) ∧ n = places.length - i) (places.length - 0) ?_ ?_
        · exact ⟨0, 0, [], (.slice none 0 0), [], undef, undef, undef, undef, undef, undef, undef, undef, undef, undef, undef, undef, undef, undef, undef, undef, undef, undef, undef, undef, undef, undef, undef, undef, undef, undef, undef, undef, undef, undef, undef, undef, undef, undef, undef, undef, undef, undef, undef, undef, undef, undef, undef, undef, undef, undef, undef, undef, undef, undef, undef, rfl, rfl, (Nat.zero_le _), (OwnS.nil _ _), (PZ.nil c), (Nat.zero_le _), rfl⟩
        · skip
          intro n l M
          refine exists_imp.2 fun i => ?_
          refine exists_imp.2 fun j => ?_
          refine exists_imp.2 fun ss => ?_
          refine exists_imp.2 fun v => ?_
          refine exists_imp.2 fun S => ?_
          refine exists_imp.2 fun d7 => ?_
          refine exists_imp.2 fun d8 => ?_
          refine exists_imp.2 fun d9 => ?_
          refine exists_imp.2 fun d28 => ?_
          refine exists_imp.2 fun d29 => ?_
          refine exists_imp.2 fun d30 => ?_
          refine exists_imp.2 fun d31 => ?_
          refine exists_imp.2 fun d32 => ?_
          refine exists_imp.2 fun d33 => ?_
          refine exists_imp.2 fun d34 => ?_
          refine exists_imp.2 fun d35 => ?_
          refine exists_imp.2 fun d36 => ?_
          refine exists_imp.2 fun d37 => ?_
          refine exists_imp.2 fun d38 => ?_
          refine exists_imp.2 fun d39 => ?_
          refine exists_imp.2 fun d40 => ?_
          refine exists_imp.2 fun d41 => ?_
          refine exists_imp.2 fun d42 => ?_
          refine exists_imp.2 fun d43 => ?_
          refine exists_imp.2 fun d44 => ?_
          refine exists_imp.2 fun d45 => ?_
          refine exists_imp.2 fun d46 => ?_
          refine exists_imp.2 fun d47 => ?_
          refine exists_imp.2 fun d48 => ?_
          refine exists_imp.2 fun d49 => ?_
          refine exists_imp.2 fun d50 => ?_
          refine exists_imp.2 fun d51 => ?_
          refine exists_imp.2 fun d52 => ?_
          refine exists_imp.2 fun d53 => ?_
          refine exists_imp.2 fun d54 => ?_
          refine exists_imp.2 fun d55 => ?_
          refine exists_imp.2 fun d56 => ?_
          refine exists_imp.2 fun d57 => ?_
          refine exists_imp.2 fun d58 => ?_
          refine exists_imp.2 fun d59 => ?_
          refine exists_imp.2 fun d60 => ?_
          refine exists_imp.2 fun d61 => ?_
          refine exists_imp.2 fun d62 => ?_
          refine exists_imp.2 fun d63 => ?_
          refine exists_imp.2 fun d64 => ?_
          refine exists_imp.2 fun d65 => ?_
          refine exists_imp.2 fun d66 => ?_
          refine exists_imp.2 fun d67 => ?_
          refine exists_imp.2 fun d68 => ?_
          refine exists_imp.2 fun d69 => ?_
          refine exists_imp.2 fun d70 => ?_
          refine exists_imp.2 fun d71 => ?_
          refine exists_imp.2 fun d72 => ?_
          refine exists_imp.2 fun d73 => ?_
          refine exists_imp.2 fun d74 => ?_
          refine exists_imp.2 fun d75 => ?_
          rintro ⟨rfl, rfl, hf0, hf1, hf2, hf3, rfl⟩
          obtain ⟨a4, cp4, hv4, hcp4, hsh4⟩ := hf1.reads
          subst hv4
          refine sp_seq rfl ?_
          refine sp_seq rfl ?_
          refine sp_region (π := [0, 1, 2, 3, 4, 5, 6, 7, 8, 9, 10, 11]) [] rfl rfl ?_
          refine wk_move (.int .i64 (i : Int)) rfl rfl rfl rfl ?_
          dsimp only [putL, setL, List.set_cons_zero, List.set_cons_succ, List.nil_append, List.cons_append]
          refine wk_move (.slice a_places places.length c_places) rfl rfl rfl rfl ?_
          dsimp only [putL, setL, List.set_cons_zero, List.set_cons_succ, List.nil_append, List.cons_append]
          refine wk_lenA rfl rfl rfl rfl Try.underlying58 ?_
          dsimp only [putL, setL, List.set_cons_zero, List.set_cons_succ, List.nil_append, List.cons_append]
          by_cases hc5 : (i : Int) < ((places.length : Nat) : Int)
          · skip
            refine wk_iop (.bool true) rfl rfl rfl rfl rfl rfl (iop_lss_t hc5) ?_
            dsimp only [putL, setL, List.set_cons_zero, List.set_cons_succ, List.nil_append, List.cons_append]
            refine wk_move (.bool true) rfl rfl rfl rfl ?_
            dsimp only [putL, setL, List.set_cons_zero, List.set_cons_succ, List.nil_append, List.cons_append]
            refine wk_move (.slice a4 j cp4) rfl rfl rfl rfl ?_
            dsimp only [putL, setL, List.set_cons_zero, List.set_cons_succ, List.nil_append, List.cons_append]
            refine wk_lenA rfl rfl rfl rfl Try.underlying63 ?_
            dsimp only [putL, setL, List.set_cons_zero, List.set_cons_succ, List.nil_append, List.cons_append]
            refine wk_move (.slice a_c c.length c_c) rfl rfl rfl rfl ?_
            dsimp only [putL, setL, List.set_cons_zero, List.set_cons_succ, List.nil_append, List.cons_append]
            refine wk_lenA rfl rfl rfl rfl Try.underlying57 ?_
            dsimp only [putL, setL, List.set_cons_zero, List.set_cons_succ, List.nil_append, List.cons_append]
            refine wk_iop (.int .i64 (((c.length : Nat) : Int) + 2)) rfl rfl rfl rfl rfl rfl (iop_add (by omega) (by omega)) ?_
            dsimp only [putL, setL, List.set_cons_zero, List.set_cons_succ, List.nil_append, List.cons_append]
            by_cases hc6 : ((j : Nat) : Int) < (((c.length : Nat) : Int) + 2)
            · skip
              refine wk_iop (.bool true) rfl rfl rfl rfl rfl rfl (iop_lss_t hc6) ?_
              dsimp only [putL, setL, List.set_cons_zero, List.set_cons_succ, List.nil_append, List.cons_append]
              refine wk_pick true (.bool true) rfl rfl rfl rfl rfl ?_
              dsimp only [putL, setL, List.set_cons_zero, List.set_cons_succ, List.nil_append, List.cons_append]
              refine wk_nil ?_
              refine sp_true rfl rfl ?_
              refine sp_skip rfl ?_
              refine sp_seq rfl ?_
              refine sp_block rfl ?_
              refine sp_seq rfl ?_
              refine sp_region (π := [0, 1, 2, 3, 4, 5, 6, 7, 8, 9]) [] rfl rfl ?_
              refine wk_move (.slice a_places places.length c_places) rfl rfl rfl rfl ?_
              dsimp only [putL, setL, List.set_cons_zero, List.set_cons_succ, List.nil_append, List.cons_append]
              refine wk_move (.int .i64 (i : Int)) rfl rfl rfl rfl ?_
              dsimp only [putL, setL, List.set_cons_zero, List.set_cons_succ, List.nil_append, List.cons_append]
              obtain ⟨β7, o7, ha7, hr7⟩ := hH_places.at_ (intL_ne (k := i) (by omega))
              refine wk_idxA i 1 rfl rfl rfl rfl ha7 rfl Try.underlying58 (by kernel_rfl) rfl (by omega) ?_
              dsimp only [putL, setL, List.set_cons_zero, List.set_cons_succ, List.nil_append, List.cons_append]
              refine wk_ldI rfl rfl rfl rfl (fun M' w' hm hst => old_range hr7 (intL_ne (k := i) (by omega)) hst) (by omega) ?_
              dsimp only [putL, setL, List.set_cons_zero, List.set_cons_succ, List.nil_append, List.cons_append]
              refine wk_val (.int .u64 (IntKind.u64.wrap (ixI places i))) rfl rfl rfl (fun w => by kernel_rfl) ?_
              dsimp only [putL, setL, List.set_cons_zero, List.set_cons_succ, List.nil_append, List.cons_append]
              refine wk_iop (.int .u64 ((leftN (ixI places i) 50 : Nat) : Int)) rfl rfl rfl rfl rfl rfl (congrArg (fun z => some (Value.int .u64 z)) (leftN_eq (ixI places i) 50)) ?_
              dsimp only [putL, setL, List.set_cons_zero, List.set_cons_succ, List.nil_append, List.cons_append]
              refine wk_iop (.int .u64 ((1 + leftN (ixI places i) 50 : Nat) : Int)) rfl rfl rfl rfl rfl rfl (iop_one_add (Nat.lt_trans (leftN_lt (ixI places i) (m := 50) (by decide)) (by decide))) ?_
              dsimp only [putL, setL, List.set_cons_zero, List.set_cons_succ, List.nil_append, List.cons_append]
              refine wk_val (numV (1 + leftN (ixI places i) 50)) rfl rfl rfl (fun w => by rw [← one_digit (show 1 + leftN (ixI places i) 50 < 18446744073709551616 by have := leftN_lt (ixI places i) (m := 50) (by decide); omega)]; kernel_rfl) ?_
              dsimp only [putL, setL, List.set_cons_zero, List.set_cons_succ, List.nil_append, List.cons_append]
              refine wkf_newN rfl rfl fun β8 => ?_
              dsimp only [putL, setL, List.set_cons_zero, List.set_cons_succ, List.nil_append, List.cons_append]
              refine wk_stN 0 (1 + leftN (ixI places i) 50) rfl rfl rfl rfl rfl rfl ?_
              dsimp only [putL, setL, List.set_cons_zero, List.set_cons_succ, List.nil_append, List.cons_append]
              refine wk_nil ?_
              refine sp_seq rfl ?_
              refine sp_region (π := [0]) [] rfl rfl ?_
              refine wk_assign (.bool false) rfl rfl rfl rfl ?_
              dsimp only [putL, setL, List.set_cons_zero, List.set_cons_succ, List.nil_append, List.cons_append]
              refine wk_nil ?_
              refine sp_seq rfl ?_
              refine sp_seq rfl ?_
              refine sp_region (π := [0]) [] rfl rfl ?_
              refine wk_assign (.int .i64 0) rfl rfl rfl rfl ?_
              dsimp only [putL, setL, List.set_cons_zero, List.set_cons_succ, List.nil_append, List.cons_append]
              refine wk_nil ?_
              refine sp_block rfl ?_
              refine sp_loopg rfl (fun n l M => ∃ k : Nat, ∃ tw : Bool, ∃ d50 : Value, ∃ d51 : Value, ∃ d52 : Value, ∃ d53 : Value, ∃ d54 : Value, ∃ d55 : Value, ∃ d56 : Value, ∃ d57 : Value, ∃ d58 : Value, ∃ d59 : Value, ∃ d60 : Value, ∃ d61 : Value, ∃ d62 : Value, ∃ d63 : Value, ∃ d64 : Value, ∃ d65 : Value, l = [(.slice a_c c.length c_c), (.slice a_places places.length c_places), undef, undef, (.bool false), (.slice a4 j cp4), (.int .i64 (i : Int)), (.pointer (some ⟨β8, 0, none⟩)), (.bool tw), (.int .i64 (k : Int)), undef, undef, undef, undef, undef, (.slice a_c c.length c_c), (.int .i64 ((c.length : Nat) : Int)), (.bool false), (.bool false), (.slice a_c c.length c_c), (.int .i64 ((c.length : Nat) : Int)), (.bool false), (.bool false), (.bool false), (.slice a_places places.length c_places), (.int .i64 ((places.length : Nat) : Int)), (.bool false), (.bool false), (.int .i64 (i : Int)), (.slice a_places places.length c_places), (.int .i64 ((places.length : Nat) : Int)), (.bool true), (.bool true), (.slice a4 j cp4), (.int .i64 ((j : Nat) : Int)), (.slice a_c c.length c_c), (.int .i64 ((c.length : Nat) : Int)), (.int .i64 (((c.length : Nat) : Int) + 2)), (.bool true), (.bool true), d40, d41, (.slice a_places places.length c_places), (.int .i64 (i : Int)), (.pointer (some ⟨β7, o7 + i * 1, none⟩)), (.int .i64 (ixI places i)), (.int .u64 (IntKind.u64.wrap (ixI places i))), (.int .u64 ((leftN (ixI places i) 50 : Nat) : Int)), (.int .u64 ((1 + leftN (ixI places i) 50 : Nat) : Int)), (numV (1 + leftN (ixI places i) 50)), d50, d51, d52, d53, d54, d55, d56, d57, d58, d59, d60, d61, d62, d63, d64, d65, d66, d67, d68, d69, d70, d71, d72, d73, d74, d75, undef, undef, undef, undef, undef, undef, undef, undef, undef, undef, undef, undef, undef, undef, undef, undef, undef, undef, undef, undef, undef, undef, undef, undef, undef, undef, undef, undef, undef, undef, undef, undef, undef, undef, undef, undef, undef, undef, undef, undef, undef, undef, undef, undef, undef, undef, undef, undef, undef, undef, undef, undef, undef, undef, undef, undef, undef] ∧ (β8, numO (1 + leftN (ixI places i) 50)) :: S = M ∧ (k ≤ j) ∧ (tw = false → ∀ b, b < k → (sx ss b).1 ≠ (1 + leftN (ixI places i) 50)) ∧ n = j - k) (j - 0) ?_ ?_
              · exact ⟨0, false, d50, d51, d52, d53, d54, d55, d56, d57, d58, d59, d60, d61, d62, d63, d64, d65, rfl, rfl, (Nat.zero_le _), (fun _ b hb => by omega), rfl⟩
              · skip
                intro n l M
                refine exists_imp.2 fun k => ?_
                refine exists_imp.2 fun tw => ?_
                refine exists_imp.2 fun d50 => ?_
                refine exists_imp.2 fun d51 => ?_
                refine exists_imp.2 fun d52 => ?_
                refine exists_imp.2 fun d53 => ?_
                refine exists_imp.2 fun d54 => ?_
                refine exists_imp.2 fun d55 => ?_
                refine exists_imp.2 fun d56 => ?_
                refine exists_imp.2 fun d57 => ?_
                refine exists_imp.2 fun d58 => ?_
                refine exists_imp.2 fun d59 => ?_
                refine exists_imp.2 fun d60 => ?_
                refine exists_imp.2 fun d61 => ?_
                refine exists_imp.2 fun d62 => ?_
                refine exists_imp.2 fun d63 => ?_
                refine exists_imp.2 fun d64 => ?_
                refine exists_imp.2 fun d65 => ?_
                rintro ⟨rfl, rfl, hg0, hg1, rfl⟩
                cases tw
                · skip
                  refine sp_seq rfl ?_
                  refine sp_seq rfl ?_
                  refine sp_region (π := [0, 1, 2, 3]) [] rfl rfl ?_
                  refine wk_move (.int .i64 (k : Int)) rfl rfl rfl rfl ?_
                  dsimp only [putL, setL, List.set_cons_zero, List.set_cons_succ, List.nil_append, List.cons_append]
                  refine wk_move (.slice a4 j cp4) rfl rfl rfl rfl ?_
                  dsimp only [putL, setL, List.set_cons_zero, List.set_cons_succ, List.nil_append, List.cons_append]
                  refine wk_lenA rfl rfl rfl rfl Try.underlying63 ?_
                  dsimp only [putL, setL, List.set_cons_zero, List.set_cons_succ, List.nil_append, List.cons_append]
                  by_cases hc9 : (k : Int) < ((j : Nat) : Int)
                  · skip
                    refine wk_iop (.bool true) rfl rfl rfl rfl rfl rfl (iop_lss_t hc9) ?_
                    dsimp only [putL, setL, List.set_cons_zero, List.set_cons_succ, List.nil_append, List.cons_append]
                    refine wk_nil ?_
                    refine sp_true rfl rfl ?_
                    refine sp_skip rfl ?_
                    refine sp_seq rfl ?_
                    refine sp_block rfl ?_
                    refine sp_draw [0, 1, 2, 3, 4, 5, 6, 7, 8, 9, 10] [] mixed rfl (by kernel_rfl) (by kernel_rfl) ?_
                    refine wk_move (.bool false) rfl rfl rfl rfl ?_
                    dsimp only [putL, setL, List.set_cons_zero, List.set_cons_succ, List.nil_append, List.cons_append]
                    refine wk_move (.bool false) rfl rfl rfl rfl ?_
                    dsimp only [putL, setL, List.set_cons_zero, List.set_cons_succ, List.nil_append, List.cons_append]
                    refine wk_move (.slice a4 j cp4) rfl rfl rfl rfl ?_
                    dsimp only [putL, setL, List.set_cons_zero, List.set_cons_succ, List.nil_append, List.cons_append]
                    refine wk_move (.int .i64 (k : Int)) rfl rfl rfl rfl ?_
                    dsimp only [putL, setL, List.set_cons_zero, List.set_cons_succ, List.nil_append, List.cons_append]
                    obtain ⟨β10, ha10, hr10⟩ := hsh4.at_ (shL_ne (k := k) (by have h0 := hf2.len; omega))
                    refine wk_idxA k 8 rfl rfl rfl rfl ha10 rfl Try.underlying63 (by kernel_rfl) rfl (by omega) ?_
                    dsimp only [putL, setL, List.set_cons_zero, List.set_cons_succ, List.nil_append, List.cons_append]
                    refine wk_val (.pointer (some ⟨β10, 0 + k * 8, none⟩)) rfl rfl rfl (fun w => by kernel_rfl) ?_
                    dsimp only [putL, setL, List.set_cons_zero, List.set_cons_succ, List.nil_append, List.cons_append]
                    refine wk_ldXA rfl rfl rfl rfl (fun M' w' hm hst => hr10 w' (fun p hp => hst.own p (hm p (by simp [hp])))) (by have h0 := hf2.len; omega) ?_
                    dsimp only [putL, setL, List.set_cons_zero, List.set_cons_succ, List.nil_append, List.cons_append]
                    refine wk_ldN 0 rfl rfl rfl rfl rfl ?_
                    dsimp only [putL, setL, List.set_cons_zero, List.set_cons_succ, List.nil_append, List.cons_append]
                    by_cases hc11 : (sx ss k).1 = (1 + leftN (ixI places i) 50)
                    · skip
                      refine wk_eqN true rfl rfl rfl rfl rfl (sx_lt1 hf2.bound) (Nat.lt_trans (show 1 + leftN (ixI places i) 50 < 18446744073709551616 by have := leftN_lt (ixI places i) (m := 50) (by decide); omega) (by decide)) (decide_eq_true hc11) ?_
                      dsimp only [putL, setL, List.set_cons_zero, List.set_cons_succ, List.nil_append, List.cons_append]
                      refine wk_pick false (.bool true) rfl rfl rfl rfl rfl ?_
                      dsimp only [putL, setL, List.set_cons_zero, List.set_cons_succ, List.nil_append, List.cons_append]
                      refine wk_assign (.bool true) rfl rfl rfl rfl ?_
                      dsimp only [putL, setL, List.set_cons_zero, List.set_cons_succ, List.nil_append, List.cons_append]
                      refine wk_nil ?_
                      refine sp_region (π := [0, 1, 2]) [] rfl rfl ?_
                      refine wk_move (.int .i64 (k : Int)) rfl rfl rfl rfl ?_
                      dsimp only [putL, setL, List.set_cons_zero, List.set_cons_succ, List.nil_append, List.cons_append]
                      refine wk_iop (.int .i64 ((k : Int) + 1)) rfl rfl rfl rfl rfl rfl (iop_add (by omega) (by omega)) ?_
                      dsimp only [putL, setL, List.set_cons_zero, List.set_cons_succ, List.nil_append, List.cons_append]
                      refine wk_assign (.int .i64 ((k : Int) + 1)) rfl rfl rfl rfl ?_
                      dsimp only [putL, setL, List.set_cons_zero, List.set_cons_succ, List.nil_append, List.cons_append]
                      refine wk_nil ?_
                      exact ⟨(β8, numO (1 + leftN (ixI places i) 50)) :: S, _, List.Sublist.refl _, ⟨(k + 1), true, (.int .i64 (k : Int)), (.slice a4 j cp4), (.int .i64 ((j : Nat) : Int)), (.bool true), (.int .i64 (k : Int)), (.int .i64 ((k : Int) + 1)), (.bool false), (.bool false), (.slice a4 j cp4), (.int .i64 (k : Int)), (.pointer (some ⟨β10, 0 + k * 8, none⟩)), (.pointer (some ⟨β10, 0 + k * 8, none⟩)), (numV (sx ss k).1), (numV (1 + leftN (ixI places i) 50)), (.bool true), (.bool true), rfl, rfl, (by omega), (fun h => by cases h), rfl⟩, (by omega)⟩
                    · skip
                      refine wk_eqN false rfl rfl rfl rfl rfl (sx_lt1 hf2.bound) (Nat.lt_trans (show 1 + leftN (ixI places i) 50 < 18446744073709551616 by have := leftN_lt (ixI places i) (m := 50) (by decide); omega) (by decide)) (decide_eq_false hc11) ?_
                      dsimp only [putL, setL, List.set_cons_zero, List.set_cons_succ, List.nil_append, List.cons_append]
                      refine wk_pick false (.bool false) rfl rfl rfl rfl rfl ?_
                      dsimp only [putL, setL, List.set_cons_zero, List.set_cons_succ, List.nil_append, List.cons_append]
                      refine wk_assign (.bool false) rfl rfl rfl rfl ?_
                      dsimp only [putL, setL, List.set_cons_zero, List.set_cons_succ, List.nil_append, List.cons_append]
                      refine wk_nil ?_
                      refine sp_region (π := [0, 1, 2]) [] rfl rfl ?_
                      refine wk_move (.int .i64 (k : Int)) rfl rfl rfl rfl ?_
                      dsimp only [putL, setL, List.set_cons_zero, List.set_cons_succ, List.nil_append, List.cons_append]
                      refine wk_iop (.int .i64 ((k : Int) + 1)) rfl rfl rfl rfl rfl rfl (iop_add (by omega) (by omega)) ?_
                      dsimp only [putL, setL, List.set_cons_zero, List.set_cons_succ, List.nil_append, List.cons_append]
                      refine wk_assign (.int .i64 ((k : Int) + 1)) rfl rfl rfl rfl ?_
                      dsimp only [putL, setL, List.set_cons_zero, List.set_cons_succ, List.nil_append, List.cons_append]
                      refine wk_nil ?_
                      exact ⟨(β8, numO (1 + leftN (ixI places i) 50)) :: S, _, List.Sublist.refl _, ⟨(k + 1), false, (.int .i64 (k : Int)), (.slice a4 j cp4), (.int .i64 ((j : Nat) : Int)), (.bool true), (.int .i64 (k : Int)), (.int .i64 ((k : Int) + 1)), (.bool false), (.bool false), (.slice a4 j cp4), (.int .i64 (k : Int)), (.pointer (some ⟨β10, 0 + k * 8, none⟩)), (.pointer (some ⟨β10, 0 + k * 8, none⟩)), (numV (sx ss k).1), (numV (1 + leftN (ixI places i) 50)), (.bool false), (.bool false), rfl, rfl, (by omega), (fun _ b hb => by rcases Nat.lt_or_ge b k with h1 | h1; exact hg1 rfl b h1; rw [show b = k by omega]; exact hc11), rfl⟩, (by omega)⟩
                  · skip
                    refine wk_iop (.bool false) rfl rfl rfl rfl rfl rfl (iop_lss_f hc9) ?_
                    dsimp only [putL, setL, List.set_cons_zero, List.set_cons_succ, List.nil_append, List.cons_append]
                    refine wk_nil ?_
                    refine sp_false rfl rfl ?_
                    refine sp_exit rfl ?_
                    refine sp_seq rfl ?_
                    refine sp_region (π := [0, 1]) [] rfl rfl ?_
                    refine wk_move (.bool false) rfl rfl rfl rfl ?_
                    dsimp only [putL, setL, List.set_cons_zero, List.set_cons_succ, List.nil_append, List.cons_append]
                    refine wk_not false rfl rfl rfl rfl ?_
                    dsimp only [putL, setL, List.set_cons_zero, List.set_cons_succ, List.nil_append, List.cons_append]
                    refine wk_nil ?_
                    refine sp_true rfl rfl ?_
                    refine sp_draw [0, 1, 2, 3, 4, 5, 6, 7, 8] [] mixed rfl (by kernel_rfl) (by kernel_rfl) ?_
                    refine wk_move (.slice a4 j cp4) rfl rfl rfl rfl ?_
                    dsimp only [putL, setL, List.set_cons_zero, List.set_cons_succ, List.nil_append, List.cons_append]
                    refine wk_ldN 0 rfl rfl rfl rfl rfl ?_
                    dsimp only [putL, setL, List.set_cons_zero, List.set_cons_succ, List.nil_append, List.cons_append]
                    refine wk_move (.slice a_c c.length c_c) rfl rfl rfl rfl ?_
                    dsimp only [putL, setL, List.set_cons_zero, List.set_cons_succ, List.nil_append, List.cons_append]
                    refine wk_ldN 0 rfl rfl rfl rfl rfl ?_
                    dsimp only [putL, setL, List.set_cons_zero, List.set_cons_succ, List.nil_append, List.cons_append]
                    refine wk_callW [(.slice a_c c.length c_c), (numV (1 + leftN (ixI places i) 50))] (numV (evalL (modW 1) c (1 + leftN (ixI places i) 50))) rfl rfl rfl (enters_of Try.func59 (by kernel_rfl) (by kernel_rfl)) rfl (fun M' w' hm hst => eval_calls' c c.length _ _ rfl w_c (by omega) (1 + leftN (ixI places i) 50) (Nat.lt_trans (show 1 + leftN (ixI places i) 50 < 18446744073709551616 by have := leftN_lt (ixI places i) (m := 50) (by decide); omega) (by decide)) w' (hH_c.old hst)) ?_
                    dsimp only [putL, setL, List.set_cons_zero, List.set_cons_succ, List.nil_append, List.cons_append]
                    refine wk_val (shV ((1 + leftN (ixI places i) 50), (evalL (modW 1) c (1 + leftN (ixI places i) 50)))) rfl rfl rfl (fun w => by kernel_rfl) ?_
                    dsimp only [putL, setL, List.set_cons_zero, List.set_cons_succ, List.nil_append, List.cons_append]
                    refine wkf_make (z := shsO [((1 + leftN (ixI places i) 50), (evalL (modW 1) c (1 + leftN (ixI places i) 50)))]) (mk := fun β => .slice (some ⟨β, 0, none⟩) 1 1) rfl rfl (fun w => by kernel_rfl) fun β12 => ?_
                    dsimp only [putL, setL, List.set_cons_zero, List.set_cons_succ, List.nil_append, List.cons_append]
                    refine wk_append (news := (shL [((1 + leftN (ixI places i) 50), (evalL (modW 1) c (1 + leftN (ixI places i) 50)))])) (F := [(β12, shsO [((1 + leftN (ixI places i) 50), (evalL (modW 1) c (1 + leftN (ixI places i) 50)))]), (β8, numO (1 + leftN (ixI places i) 50))]) rfl rfl rfl rfl rfl Try.underlying63 shInfo shBytes shZero rfl (by decide) hf1 (List.perm_append_comm (l₁ := [(β12, shsO [((1 + leftN (ixI places i) 50), (evalL (modW 1) c (1 + leftN (ixI places i) 50)))]), (β8, numO (1 + leftN (ixI places i) 50))]) (l₂ := S)) rfl (fun w' hst => shs_holds (List.mem_of_getElem? (i := 0) rfl) hst) (shL_one _) (by omega) (by omega) fun v13 S13 hO13 => ?_
                    dsimp only [putL, setL, List.set_cons_zero, List.set_cons_succ, List.nil_append, List.cons_append]
                    refine wk_assign v13 rfl rfl rfl rfl ?_
                    dsimp only [putL, setL, List.set_cons_zero, List.set_cons_succ, List.nil_append, List.cons_append]
                    refine wk_nil ?_
                    refine sp_region (π := [0, 1, 2]) [] rfl rfl ?_
                    refine wk_move (.int .i64 (i : Int)) rfl rfl rfl rfl ?_
                    dsimp only [putL, setL, List.set_cons_zero, List.set_cons_succ, List.nil_append, List.cons_append]
                    refine wk_iop (.int .i64 ((i : Int) + 1)) rfl rfl rfl rfl rfl rfl (iop_add (by omega) (by omega)) ?_
                    dsimp only [putL, setL, List.set_cons_zero, List.set_cons_succ, List.nil_append, List.cons_append]
                    refine wk_assign (.int .i64 ((i : Int) + 1)) rfl rfl rfl rfl ?_
                    dsimp only [putL, setL, List.set_cons_zero, List.set_cons_succ, List.nil_append, List.cons_append]
                    refine wk_nil ?_
                    exact ⟨S13, _, by exact List.Sublist.cons _ <| List.Sublist.cons _ <| List.Sublist.refl _, ⟨(i + 1), (j + 1), (ss ++ [((1 + leftN (ixI places i) 50), evalL (modW 1) c (1 + leftN (ixI places i) 50))]), v13, S13, (.pointer (some ⟨β8, 0, none⟩)), (.bool false), (.int .i64 (k : Int)), (.int .i64 (i : Int)), (.slice a_places places.length c_places), (.int .i64 ((places.length : Nat) : Int)), (.bool true), (.bool true), (.slice a4 j cp4), (.int .i64 ((j : Nat) : Int)), (.slice a_c c.length c_c), (.int .i64 ((c.length : Nat) : Int)), (.int .i64 (((c.length : Nat) : Int) + 2)), (.bool true), (.bool true), (.int .i64 (i : Int)), (.int .i64 ((i : Int) + 1)), (.slice a_places places.length c_places), (.int .i64 (i : Int)), (.pointer (some ⟨β7, o7 + i * 1, none⟩)), (.int .i64 (ixI places i)), (.int .u64 (IntKind.u64.wrap (ixI places i))), (.int .u64 ((leftN (ixI places i) 50 : Nat) : Int)), (.int .u64 ((1 + leftN (ixI places i) 50 : Nat) : Int)), (numV (1 + leftN (ixI places i) 50)), (.int .i64 (k : Int)), (.slice a4 j cp4), (.int .i64 ((j : Nat) : Int)), (.bool false), d54, d55, d56, d57, d58, d59, d60, d61, d62, d63, d64, d65, (.bool false), (.bool true), (.slice a4 j cp4), (numV (1 + leftN (ixI places i) 50)), (.slice a_c c.length c_c), (numV (1 + leftN (ixI places i) 50)), (numV (evalL (modW 1) c (1 + leftN (ixI places i) 50))), (shV ((1 + leftN (ixI places i) 50), (evalL (modW 1) c (1 + leftN (ixI places i) 50)))), (.slice (some ⟨β12, 0, none⟩) 1 1), v13, rfl, rfl, (by omega), (by rw [shL_append]; exact hO13), (hf2.step (by have := leftN_lt (ixI places i) (m := 50) (by decide); omega) (fun b hb => hg1 rfl b (by omega))), (by omega), rfl⟩, (by omega)⟩
                · skip
                  refine sp_seq rfl ?_
                  refine sp_seq rfl ?_
                  refine sp_region (π := [0, 1, 2, 3]) [] rfl rfl ?_
                  refine wk_move (.int .i64 (k : Int)) rfl rfl rfl rfl ?_
                  dsimp only [putL, setL, List.set_cons_zero, List.set_cons_succ, List.nil_append, List.cons_append]
                  refine wk_move (.slice a4 j cp4) rfl rfl rfl rfl ?_
                  dsimp only [putL, setL, List.set_cons_zero, List.set_cons_succ, List.nil_append, List.cons_append]
                  refine wk_lenA rfl rfl rfl rfl Try.underlying63 ?_
                  dsimp only [putL, setL, List.set_cons_zero, List.set_cons_succ, List.nil_append, List.cons_append]
                  by_cases hc14 : (k : Int) < ((j : Nat) : Int)
                  · skip
                    refine wk_iop (.bool true) rfl rfl rfl rfl rfl rfl (iop_lss_t hc14) ?_
                    dsimp only [putL, setL, List.set_cons_zero, List.set_cons_succ, List.nil_append, List.cons_append]
                    refine wk_nil ?_
                    refine sp_true rfl rfl ?_
                    refine sp_skip rfl ?_
                    refine sp_seq rfl ?_
                    refine sp_block rfl ?_
                    refine sp_draw [0, 1, 2, 3, 4, 5, 6, 7, 8, 9, 10] [] mixed rfl (by kernel_rfl) (by kernel_rfl) ?_
                    refine wk_move (.bool true) rfl rfl rfl rfl ?_
                    dsimp only [putL, setL, List.set_cons_zero, List.set_cons_succ, List.nil_append, List.cons_append]
                    refine wk_move (.bool true) rfl rfl rfl rfl ?_
                    dsimp only [putL, setL, List.set_cons_zero, List.set_cons_succ, List.nil_append, List.cons_append]
                    refine wk_skip rfl rfl (fun h => by cases h) ?_
                    dsimp only [putL, setL, List.set_cons_zero, List.set_cons_succ, List.nil_append, List.cons_append]
                    refine wk_skip rfl rfl (fun h => by cases h) ?_
                    dsimp only [putL, setL, List.set_cons_zero, List.set_cons_succ, List.nil_append, List.cons_append]
                    refine wk_skip rfl rfl (fun h => by cases h) ?_
                    dsimp only [putL, setL, List.set_cons_zero, List.set_cons_succ, List.nil_append, List.cons_append]
                    refine wk_skip rfl rfl (fun h => by cases h) ?_
                    dsimp only [putL, setL, List.set_cons_zero, List.set_cons_succ, List.nil_append, List.cons_append]
                    refine wk_skip rfl rfl (fun h => by cases h) ?_
                    dsimp only [putL, setL, List.set_cons_zero, List.set_cons_succ, List.nil_append, List.cons_append]
                    refine wk_skip rfl rfl (fun h => by cases h) ?_
                    dsimp only [putL, setL, List.set_cons_zero, List.set_cons_succ, List.nil_append, List.cons_append]
                    refine wk_skip rfl rfl (fun h => by cases h) ?_
                    dsimp only [putL, setL, List.set_cons_zero, List.set_cons_succ, List.nil_append, List.cons_append]
                    refine wk_pick true (.bool true) rfl rfl rfl rfl rfl ?_
                    dsimp only [putL, setL, List.set_cons_zero, List.set_cons_succ, List.nil_append, List.cons_append]
                    refine wk_assign (.bool true) rfl rfl rfl rfl ?_
                    dsimp only [putL, setL, List.set_cons_zero, List.set_cons_succ, List.nil_append, List.cons_append]
                    refine wk_nil ?_
                    refine sp_region (π := [0, 1, 2]) [] rfl rfl ?_
                    refine wk_move (.int .i64 (k : Int)) rfl rfl rfl rfl ?_
                    dsimp only [putL, setL, List.set_cons_zero, List.set_cons_succ, List.nil_append, List.cons_append]
                    refine wk_iop (.int .i64 ((k : Int) + 1)) rfl rfl rfl rfl rfl rfl (iop_add (by omega) (by omega)) ?_
                    dsimp only [putL, setL, List.set_cons_zero, List.set_cons_succ, List.nil_append, List.cons_append]
                    refine wk_assign (.int .i64 ((k : Int) + 1)) rfl rfl rfl rfl ?_
                    dsimp only [putL, setL, List.set_cons_zero, List.set_cons_succ, List.nil_append, List.cons_append]
                    refine wk_nil ?_
                    exact ⟨(β8, numO (1 + leftN (ixI places i) 50)) :: S, _, List.Sublist.refl _, ⟨(k + 1), true, (.int .i64 (k : Int)), (.slice a4 j cp4), (.int .i64 ((j : Nat) : Int)), (.bool true), (.int .i64 (k : Int)), (.int .i64 ((k : Int) + 1)), (.bool true), (.bool true), undef, undef, undef, undef, undef, undef, undef, (.bool true), rfl, rfl, (by omega), (fun h => by cases h), rfl⟩, (by omega)⟩
                  · skip
                    refine wk_iop (.bool false) rfl rfl rfl rfl rfl rfl (iop_lss_f hc14) ?_
                    dsimp only [putL, setL, List.set_cons_zero, List.set_cons_succ, List.nil_append, List.cons_append]
                    refine wk_nil ?_
                    refine sp_false rfl rfl ?_
                    refine sp_exit rfl ?_
                    refine sp_seq rfl ?_
                    refine sp_region (π := [0, 1]) [] rfl rfl ?_
                    refine wk_move (.bool true) rfl rfl rfl rfl ?_
                    dsimp only [putL, setL, List.set_cons_zero, List.set_cons_succ, List.nil_append, List.cons_append]
                    refine wk_not true rfl rfl rfl rfl ?_
                    dsimp only [putL, setL, List.set_cons_zero, List.set_cons_succ, List.nil_append, List.cons_append]
                    refine wk_nil ?_
                    refine sp_false rfl rfl ?_
                    refine sp_skip rfl ?_
                    refine sp_region (π := [0, 1, 2]) [] rfl rfl ?_
                    refine wk_move (.int .i64 (i : Int)) rfl rfl rfl rfl ?_
                    dsimp only [putL, setL, List.set_cons_zero, List.set_cons_succ, List.nil_append, List.cons_append]
                    refine wk_iop (.int .i64 ((i : Int) + 1)) rfl rfl rfl rfl rfl rfl (iop_add (by omega) (by omega)) ?_
                    dsimp only [putL, setL, List.set_cons_zero, List.set_cons_succ, List.nil_append, List.cons_append]
                    refine wk_assign (.int .i64 ((i : Int) + 1)) rfl rfl rfl rfl ?_
                    dsimp only [putL, setL, List.set_cons_zero, List.set_cons_succ, List.nil_append, List.cons_append]
                    refine wk_nil ?_
                    exact ⟨S, _, by exact List.Sublist.cons _ <| List.Sublist.refl _, ⟨(i + 1), j, ss, (.slice a4 j cp4), S, (.pointer (some ⟨β8, 0, none⟩)), (.bool true), (.int .i64 (k : Int)), (.int .i64 (i : Int)), (.slice a_places places.length c_places), (.int .i64 ((places.length : Nat) : Int)), (.bool true), (.bool true), (.slice a4 j cp4), (.int .i64 ((j : Nat) : Int)), (.slice a_c c.length c_c), (.int .i64 ((c.length : Nat) : Int)), (.int .i64 (((c.length : Nat) : Int) + 2)), (.bool true), (.bool true), (.int .i64 (i : Int)), (.int .i64 ((i : Int) + 1)), (.slice a_places places.length c_places), (.int .i64 (i : Int)), (.pointer (some ⟨β7, o7 + i * 1, none⟩)), (.int .i64 (ixI places i)), (.int .u64 (IntKind.u64.wrap (ixI places i))), (.int .u64 ((leftN (ixI places i) 50 : Nat) : Int)), (.int .u64 ((1 + leftN (ixI places i) 50 : Nat) : Int)), (numV (1 + leftN (ixI places i) 50)), (.int .i64 (k : Int)), (.slice a4 j cp4), (.int .i64 ((j : Nat) : Int)), (.bool false), d54, d55, d56, d57, d58, d59, d60, d61, d62, d63, d64, d65, (.bool true), (.bool false), d68, d69, d70, d71, d72, d73, d74, d75, rfl, rfl, (by omega), hf1, hf2, (by omega), rfl⟩, (by omega)⟩
            · skip
              refine wk_iop (.bool false) rfl rfl rfl rfl rfl rfl (iop_lss_f hc6) ?_
              dsimp only [putL, setL, List.set_cons_zero, List.set_cons_succ, List.nil_append, List.cons_append]
              refine wk_pick true (.bool false) rfl rfl rfl rfl rfl ?_
              dsimp only [putL, setL, List.set_cons_zero, List.set_cons_succ, List.nil_append, List.cons_append]
              refine wk_nil ?_
              refine sp_false rfl rfl ?_
              refine sp_exit rfl ?_
              refine sp_seq rfl ?_
              refine sp_seq rfl ?_
              refine sp_region (π := [0, 1, 2, 3, 4]) [] rfl rfl ?_
              refine wk_move (.slice a4 j cp4) rfl rfl rfl rfl ?_
              dsimp only [putL, setL, List.set_cons_zero, List.set_cons_succ, List.nil_append, List.cons_append]
              refine wk_lenA rfl rfl rfl rfl Try.underlying63 ?_
              dsimp only [putL, setL, List.set_cons_zero, List.set_cons_succ, List.nil_append, List.cons_append]
              refine wk_move (.slice a_c c.length c_c) rfl rfl rfl rfl ?_
              dsimp only [putL, setL, List.set_cons_zero, List.set_cons_succ, List.nil_append, List.cons_append]
              refine wk_lenA rfl rfl rfl rfl Try.underlying57 ?_
              dsimp only [putL, setL, List.set_cons_zero, List.set_cons_succ, List.nil_append, List.cons_append]
              by_cases hc15 : ((j : Nat) : Int) < ((c.length : Nat) : Int)
              · skip
                refine wk_iop (.bool true) rfl rfl rfl rfl rfl rfl (iop_lss_t hc15) ?_
                dsimp only [putL, setL, List.set_cons_zero, List.set_cons_succ, List.nil_append, List.cons_append]
                refine wk_nil ?_
                refine sp_true rfl rfl ?_
                refine sp_seq rfl ?_
                refine sp_region (π := [0, 1]) [] rfl rfl ?_
                refine wk_call [] (.bool true) rfl rfl rfl (enters_of Try.func61 (by kernel_rfl) (by kernel_rfl)) rfl wakes6_calls ?_
                dsimp only [putL, setL, List.set_cons_zero, List.set_cons_succ, List.nil_append, List.cons_append]
                refine wk_assign (.bool true) rfl rfl rfl rfl ?_
                dsimp only [putL, setL, List.set_cons_zero, List.set_cons_succ, List.nil_append, List.cons_append]
                refine wk_nil ?_
                refine sp_ret rfl ?_
                exact ret_tmps (v := .bool true) (fun w' => by kernel_rfl) fun w' hw => ⟨rfl, hw.below⟩
              · skip
                refine wk_iop (.bool false) rfl rfl rfl rfl rfl rfl (iop_lss_f hc15) ?_
                dsimp only [putL, setL, List.set_cons_zero, List.set_cons_succ, List.nil_append, List.cons_append]
                refine wk_nil ?_
                refine sp_false rfl rfl ?_
                refine sp_skip rfl ?_
                refine sp_seq rfl ?_
                refine sp_region (π := [0, 1, 2, 3, 4, 5, 6, 7]) [] rfl rfl ?_
                refine wk_move (.slice a4 j cp4) rfl rfl rfl rfl ?_
                dsimp only [putL, setL, List.set_cons_zero, List.set_cons_succ, List.nil_append, List.cons_append]
                refine wk_callW [(.slice a4 j cp4)] (.tuple #[(numV (ix c 0 % modW 1)), (.int .i64 0)]) rfl rfl rfl (enters_of Try.func62 (by kernel_rfl) (by kernel_rfl)) rfl (fun M' w' hm hst => (conv_post (by rw [hf2.zero (by omega) (by omega) (by omega)]) (zero_ok ss j _ _ hf2.len hf2.bound (by omega) hcp4 (hf2.ok (by omega) (by omega)) w' (hsh4.holds hst (fun p hp => hm p (by simp [hp])))))) ?_
                dsimp only [putL, setL, List.set_cons_zero, List.set_cons_succ, List.nil_append, List.cons_append]
                refine wk_move (.tuple #[(numV (ix c 0 % modW 1)), (.int .i64 0)]) rfl rfl rfl rfl ?_
                dsimp only [putL, setL, List.set_cons_zero, List.set_cons_succ, List.nil_append, List.cons_append]
                refine wk_ext (numV (ix c 0 % modW 1)) rfl rfl rfl rfl rfl ?_
                dsimp only [putL, setL, List.set_cons_zero, List.set_cons_succ, List.nil_append, List.cons_append]
                refine wk_ext (.int .i64 0) rfl rfl rfl rfl rfl ?_
                dsimp only [putL, setL, List.set_cons_zero, List.set_cons_succ, List.nil_append, List.cons_append]
                refine wkf_newN rfl rfl fun β16 => ?_
                dsimp only [putL, setL, List.set_cons_zero, List.set_cons_succ, List.nil_append, List.cons_append]
                refine wk_stN 0 (ix c 0 % modW 1) rfl rfl rfl rfl rfl rfl ?_
                dsimp only [putL, setL, List.set_cons_zero, List.set_cons_succ, List.nil_append, List.cons_append]
                refine wk_assign (.int .i64 0) rfl rfl rfl rfl ?_
                dsimp only [putL, setL, List.set_cons_zero, List.set_cons_succ, List.nil_append, List.cons_append]
                refine wk_nil ?_
                refine sp_seq rfl ?_
                refine sp_region (π := [0, 1, 2, 3, 4, 5, 6, 7, 8, 9]) [] rfl rfl ?_
                refine wk_move (.slice a4 j cp4) rfl rfl rfl rfl ?_
                dsimp only [putL, setL, List.set_cons_zero, List.set_cons_succ, List.nil_append, List.cons_append]
                refine wk_move (.slice a_c c.length c_c) rfl rfl rfl rfl ?_
                dsimp only [putL, setL, List.set_cons_zero, List.set_cons_succ, List.nil_append, List.cons_append]
                refine wk_lenA rfl rfl rfl rfl Try.underlying57 ?_
                dsimp only [putL, setL, List.set_cons_zero, List.set_cons_succ, List.nil_append, List.cons_append]
                refine wk_sliceHi c.length rfl rfl rfl rfl rfl Try.underlying63 (by kernel_rfl) rfl (Nat.le_trans (show c.length ≤ j by omega) hcp4) ?_
                dsimp only [putL, setL, List.set_cons_zero, List.set_cons_succ, List.nil_append, List.cons_append]
                have hpt := hf2.take (n := c.length) (by omega)
                have hok := hpt.ok (by omega) (by omega)
                have hshT := hsh4.take c.length
                refine wk_callS (e := 24) (size := 4) (n := c.length) (cs := (rowL (thruL (modW 1) (ss.take c.length)))) [(.slice a4 c.length cp4)] (fun v => .tuple #[v, .int .i64 0]) rfl rfl rfl (enters_of Try.func68 (by kernel_rfl) (by kernel_rfl)) rfl (th_row hok hpt.len) (by simp only [maxLen]; omega) (fun M' w' hm hst => through_ok (ss.take c.length) c.length _ _ hpt.len hpt.bound (by omega) hok w' (hshT.holds hst (fun p hp => hm p (by simp [hp])))) fun v17 S17 hO17 => ?_
                dsimp only [putL, setL, List.set_cons_zero, List.set_cons_succ, List.nil_append, List.cons_append]
                try simp only [List.append_assoc]
                obtain ⟨a18, cp18, hv18, hcp18, hsh18⟩ := hO17.reads
                subst hv18
                refine wk_move (.tuple #[(.slice a18 c.length cp18), (.int .i64 0)]) rfl rfl rfl rfl ?_
                dsimp only [putL, setL, List.set_cons_zero, List.set_cons_succ, List.nil_append, List.cons_append]
                refine wk_ext (.slice a18 c.length cp18) rfl rfl rfl rfl rfl ?_
                dsimp only [putL, setL, List.set_cons_zero, List.set_cons_succ, List.nil_append, List.cons_append]
                refine wk_ext (.int .i64 0) rfl rfl rfl rfl rfl ?_
                dsimp only [putL, setL, List.set_cons_zero, List.set_cons_succ, List.nil_append, List.cons_append]
                refine wk_assign (.slice a18 c.length cp18) rfl rfl rfl rfl ?_
                dsimp only [putL, setL, List.set_cons_zero, List.set_cons_succ, List.nil_append, List.cons_append]
                refine wk_assign (.int .i64 0) rfl rfl rfl rfl ?_
                dsimp only [putL, setL, List.set_cons_zero, List.set_cons_succ, List.nil_append, List.cons_append]
                refine wk_nil ?_
                refine sp_seq rfl ?_
                refine sp_seq rfl ?_
                refine sp_draw [0, 1, 2, 3, 4, 5, 6, 7, 8, 9, 10, 11, 12, 13, 14, 15, 16, 17, 18, 19, 20] [] mixed rfl (by kernel_rfl) (by kernel_rfl) ?_
                refine wk_move (.int .i64 0) rfl rfl rfl rfl ?_
                dsimp only [putL, setL, List.set_cons_zero, List.set_cons_succ, List.nil_append, List.cons_append]
                refine wk_iop (.bool false) rfl rfl rfl rfl rfl rfl (iop_neq_f (by decide)) ?_
                dsimp only [putL, setL, List.set_cons_zero, List.set_cons_succ, List.nil_append, List.cons_append]
                refine wk_move (.bool false) rfl rfl rfl rfl ?_
                dsimp only [putL, setL, List.set_cons_zero, List.set_cons_succ, List.nil_append, List.cons_append]
                refine wk_move (.int .i64 0) rfl rfl rfl rfl ?_
                dsimp only [putL, setL, List.set_cons_zero, List.set_cons_succ, List.nil_append, List.cons_append]
                refine wk_iop (.bool false) rfl rfl rfl rfl rfl rfl (iop_neq_f (by decide)) ?_
                dsimp only [putL, setL, List.set_cons_zero, List.set_cons_succ, List.nil_append, List.cons_append]
                refine wk_pick false (.bool false) rfl rfl rfl rfl rfl ?_
                dsimp only [putL, setL, List.set_cons_zero, List.set_cons_succ, List.nil_append, List.cons_append]
                refine wk_move (.bool false) rfl rfl rfl rfl ?_
                dsimp only [putL, setL, List.set_cons_zero, List.set_cons_succ, List.nil_append, List.cons_append]
                refine wk_ldN 0 rfl rfl rfl rfl rfl ?_
                dsimp only [putL, setL, List.set_cons_zero, List.set_cons_succ, List.nil_append, List.cons_append]
                refine wk_move (.slice a_c c.length c_c) rfl rfl rfl rfl ?_
                dsimp only [putL, setL, List.set_cons_zero, List.set_cons_succ, List.nil_append, List.cons_append]
                obtain ⟨β19, o19, ha19, hr19⟩ := hH_c.at_ (rowL_ne (k := 0) (by omega))
                refine wk_idxA 0 4 rfl rfl rfl rfl ha19 rfl Try.underlying57 (by kernel_rfl) rfl (by omega) ?_
                dsimp only [putL, setL, List.set_cons_zero, List.set_cons_succ, List.nil_append, List.cons_append]
                refine wk_ldA rfl rfl rfl rfl (fun M' w' hm hst => old_range hr19 (rowL_ne (k := 0) (by omega)) hst) (by omega) ?_
                dsimp only [putL, setL, List.set_cons_zero, List.set_cons_succ, List.nil_append, List.cons_append]
                refine wk_call [(.int .i64 1), (numV (ix c 0))] (numV ((ix c 0) % modW 1)) rfl rfl rfl (enters_of Try.func45 (by kernel_rfl) (by kernel_rfl)) rfl (red_ok 1 (ix c 0) ok1 (ix_lt w_c)) ?_
                dsimp only [putL, setL, List.set_cons_zero, List.set_cons_succ, List.nil_append, List.cons_append]
                by_cases hc20 : (ix c 0 % modW 1) = ((ix c 0) % modW 1)
                · skip
                  refine wk_neN false rfl rfl rfl rfl rfl (Nat.lt_trans (Nat.mod_lt _ (modW_pos ok1)) (modW_lt 1)) (Nat.lt_trans (Nat.mod_lt _ (modW_pos ok1)) (modW_lt 1)) (decide_eq_true hc20) ?_
                  dsimp only [putL, setL, List.set_cons_zero, List.set_cons_succ, List.nil_append, List.cons_append]
                  refine wk_pick false (.bool false) rfl rfl rfl rfl rfl ?_
                  dsimp only [putL, setL, List.set_cons_zero, List.set_cons_succ, List.nil_append, List.cons_append]
                  refine wk_move (.bool false) rfl rfl rfl rfl ?_
                  dsimp only [putL, setL, List.set_cons_zero, List.set_cons_succ, List.nil_append, List.cons_append]
                  refine wk_move (.slice a18 c.length cp18) rfl rfl rfl rfl ?_
                  dsimp only [putL, setL, List.set_cons_zero, List.set_cons_succ, List.nil_append, List.cons_append]
                  refine wk_lenA rfl rfl rfl rfl Try.underlying57 ?_
                  dsimp only [putL, setL, List.set_cons_zero, List.set_cons_succ, List.nil_append, List.cons_append]
                  refine wk_move (.slice a_c c.length c_c) rfl rfl rfl rfl ?_
                  dsimp only [putL, setL, List.set_cons_zero, List.set_cons_succ, List.nil_append, List.cons_append]
                  refine wk_lenA rfl rfl rfl rfl Try.underlying57 ?_
                  dsimp only [putL, setL, List.set_cons_zero, List.set_cons_succ, List.nil_append, List.cons_append]
                  refine wk_iop (.bool false) rfl rfl rfl rfl rfl rfl (iop_neq_f rfl) ?_
                  dsimp only [putL, setL, List.set_cons_zero, List.set_cons_succ, List.nil_append, List.cons_append]
                  refine wk_pick false (.bool false) rfl rfl rfl rfl rfl ?_
                  dsimp only [putL, setL, List.set_cons_zero, List.set_cons_succ, List.nil_append, List.cons_append]
                  refine wk_nil ?_
                  refine sp_false rfl rfl ?_
                  refine sp_skip rfl ?_
                  refine sp_seq rfl ?_
                  refine sp_seq rfl ?_
                  refine sp_region (π := [0]) [] rfl rfl ?_
                  refine wk_assign (.int .i64 0) rfl rfl rfl rfl ?_
                  dsimp only [putL, setL, List.set_cons_zero, List.set_cons_succ, List.nil_append, List.cons_append]
                  refine wk_nil ?_
                  refine sp_block rfl ?_
                  refine sp_loopg rfl (fun n l M => ∃ k : Nat, ∃ d4 : Value, ∃ d116 : Value, ∃ d117 : Value, ∃ d118 : Value, ∃ d119 : Value, ∃ d120 : Value, ∃ d121 : Value, ∃ d122 : Value, ∃ d123 : Value, ∃ d124 : Value, ∃ d125 : Value, ∃ d126 : Value, ∃ d127 : Value, ∃ d128 : Value, ∃ d129 : Value, ∃ d130 : Value, ∃ d131 : Value, l = [(.slice a_c c.length c_c), (.slice a_places places.length c_places), undef, undef, d4, (.slice a4 j cp4), (.int .i64 (i : Int)), d7, d8, d9, (.pointer (some ⟨β16, 0, none⟩)), (.int .i64 0), (.slice a18 c.length cp18), (.int .i64 0), (.int .i64 (k : Int)), (.slice a_c c.length c_c), (.int .i64 ((c.length : Nat) : Int)), (.bool false), (.bool false), (.slice a_c c.length c_c), (.int .i64 ((c.length : Nat) : Int)), (.bool false), (.bool false), (.bool false), (.slice a_places places.length c_places), (.int .i64 ((places.length : Nat) : Int)), (.bool false), (.bool false), (.int .i64 (i : Int)), (.slice a_places places.length c_places), (.int .i64 ((places.length : Nat) : Int)), (.bool true), (.bool true), (.slice a4 j cp4), (.int .i64 ((j : Nat) : Int)), (.slice a_c c.length c_c), (.int .i64 ((c.length : Nat) : Int)), (.int .i64 (((c.length : Nat) : Int) + 2)), (.bool false), (.bool false), d40, d41, d42, d43, d44, d45, d46, d47, d48, d49, d50, d51, d52, d53, d54, d55, d56, d57, d58, d59, d60, d61, d62, d63, d64, d65, d66, d67, d68, d69, d70, d71, d72, d73, d74, d75, (.slice a4 j cp4), (.int .i64 ((j : Nat) : Int)), (.slice a_c c.length c_c), (.int .i64 ((c.length : Nat) : Int)), (.bool false), undef, (.tuple #[(numV (ix c 0 % modW 1)), (.int .i64 0)]), (.slice a4 j cp4), (.tuple #[(numV (ix c 0 % modW 1)), (.int .i64 0)]), (numV (ix c 0 % modW 1)), (.int .i64 0), (.tuple #[(.slice a18 c.length cp18), (.int .i64 0)]), (.slice a4 j cp4), (.slice a_c c.length c_c), (.int .i64 ((c.length : Nat) : Int)), (.slice a4 c.length cp4), (.tuple #[(.slice a18 c.length cp18), (.int .i64 0)]), (.slice a18 c.length cp18), (.int .i64 0), (.int .i64 0), (.bool false), (.bool false), (.int .i64 0), (.bool false), (.bool false), (.bool false), (numV (ix c 0 % modW 1)), (.slice a_c c.length c_c), (.pointer (some ⟨β19, o19 + 0 * 4, none⟩)), (numV (ix c 0)), (numV ((ix c 0) % modW 1)), (.bool false), (.bool false), (.bool false), (.slice a18 c.length cp18), (.int .i64 ((c.length : Nat) : Int)), (.slice a_c c.length c_c), (.int .i64 ((c.length : Nat) : Int)), (.bool false), (.bool false), d116, d117, d118, d119, d120, d121, d122, d123, d124, d125, d126, d127, d128, d129, d130, d131, undef] ∧ (β16, numO (ix c 0 % modW 1)) :: (S ++ S17) = M ∧ (k ≤ c.length) ∧ n = c.length - k) (c.length - 0) ?_ ?_
                  · exact ⟨0, (.bool false), undef, undef, undef, undef, undef, undef, undef, undef, undef, undef, undef, undef, undef, undef, undef, undef, rfl, rfl, (Nat.zero_le _), rfl⟩
                  · skip
                    intro n l M
                    refine exists_imp.2 fun k => ?_
                    refine exists_imp.2 fun d4 => ?_
                    refine exists_imp.2 fun d116 => ?_
                    refine exists_imp.2 fun d117 => ?_
                    refine exists_imp.2 fun d118 => ?_
                    refine exists_imp.2 fun d119 => ?_
                    refine exists_imp.2 fun d120 => ?_
                    refine exists_imp.2 fun d121 => ?_
                    refine exists_imp.2 fun d122 => ?_
                    refine exists_imp.2 fun d123 => ?_
                    refine exists_imp.2 fun d124 => ?_
                    refine exists_imp.2 fun d125 => ?_
                    refine exists_imp.2 fun d126 => ?_
                    refine exists_imp.2 fun d127 => ?_
                    refine exists_imp.2 fun d128 => ?_
                    refine exists_imp.2 fun d129 => ?_
                    refine exists_imp.2 fun d130 => ?_
                    refine exists_imp.2 fun d131 => ?_
                    rintro ⟨rfl, rfl, hh0, rfl⟩
                    refine sp_seq rfl ?_
                    refine sp_seq rfl ?_
                    refine sp_region (π := [0, 1, 2, 3]) [] rfl rfl ?_
                    refine wk_move (.int .i64 (k : Int)) rfl rfl rfl rfl ?_
                    dsimp only [putL, setL, List.set_cons_zero, List.set_cons_succ, List.nil_append, List.cons_append]
                    refine wk_move (.slice a_c c.length c_c) rfl rfl rfl rfl ?_
                    dsimp only [putL, setL, List.set_cons_zero, List.set_cons_succ, List.nil_append, List.cons_append]
                    refine wk_lenA rfl rfl rfl rfl Try.underlying57 ?_
                    dsimp only [putL, setL, List.set_cons_zero, List.set_cons_succ, List.nil_append, List.cons_append]
                    by_cases hc21 : (k : Int) < ((c.length : Nat) : Int)
                    · skip
                      refine wk_iop (.bool true) rfl rfl rfl rfl rfl rfl (iop_lss_t hc21) ?_
                      dsimp only [putL, setL, List.set_cons_zero, List.set_cons_succ, List.nil_append, List.cons_append]
                      refine wk_nil ?_
                      refine sp_true rfl rfl ?_
                      refine sp_skip rfl ?_
                      refine sp_seq rfl ?_
                      refine sp_block rfl ?_
                      refine sp_seq rfl ?_
                      refine sp_draw [0, 1, 2, 3, 4, 5, 6, 7, 8, 9] [] mixed rfl (by kernel_rfl) (by kernel_rfl) ?_
                      refine wk_move (.slice a18 c.length cp18) rfl rfl rfl rfl ?_
                      dsimp only [putL, setL, List.set_cons_zero, List.set_cons_succ, List.nil_append, List.cons_append]
                      refine wk_move (.int .i64 (k : Int)) rfl rfl rfl rfl ?_
                      dsimp only [putL, setL, List.set_cons_zero, List.set_cons_succ, List.nil_append, List.cons_append]
                      obtain ⟨β22, ha22, hr22⟩ := hsh18.at_ (rowL_ne (k := k) (by have h0 := ((th_len hok).trans hpt.len); omega))
                      refine wk_idxA k 4 rfl rfl rfl rfl ha22 rfl Try.underlying57 (by kernel_rfl) rfl (by omega) ?_
                      dsimp only [putL, setL, List.set_cons_zero, List.set_cons_succ, List.nil_append, List.cons_append]
                      refine wk_ldA rfl rfl rfl rfl (fun M' w' hm hst => hr22 w' (fun p hp => hst.own p (hm p (by simp [hp])))) (by have h0 := ((th_len hok).trans hpt.len); omega) ?_
                      dsimp only [putL, setL, List.set_cons_zero, List.set_cons_succ, List.nil_append, List.cons_append]
                      refine wk_move (.slice a_c c.length c_c) rfl rfl rfl rfl ?_
                      dsimp only [putL, setL, List.set_cons_zero, List.set_cons_succ, List.nil_append, List.cons_append]
                      refine wk_move (.int .i64 (k : Int)) rfl rfl rfl rfl ?_
                      dsimp only [putL, setL, List.set_cons_zero, List.set_cons_succ, List.nil_append, List.cons_append]
                      refine wk_idxA k 4 rfl rfl rfl rfl ha19 rfl Try.underlying57 (by kernel_rfl) rfl (by omega) ?_
                      dsimp only [putL, setL, List.set_cons_zero, List.set_cons_succ, List.nil_append, List.cons_append]
                      refine wk_ldA rfl rfl rfl rfl (fun M' w' hm hst => old_range hr19 (rowL_ne (k := k) (by omega)) hst) (by omega) ?_
                      dsimp only [putL, setL, List.set_cons_zero, List.set_cons_succ, List.nil_append, List.cons_append]
                      refine wk_call [(.int .i64 1), (numV (ix c k))] (numV ((ix c k) % modW 1)) rfl rfl rfl (enters_of Try.func45 (by kernel_rfl) (by kernel_rfl)) rfl (red_ok 1 (ix c k) ok1 (ix_lt w_c)) ?_
                      dsimp only [putL, setL, List.set_cons_zero, List.set_cons_succ, List.nil_append, List.cons_append]
                      refine wk_neN false rfl rfl rfl rfl rfl (ix_lt (th_lt hok)) (Nat.lt_trans (Nat.mod_lt _ (modW_pos ok1)) (modW_lt 1)) (decide_eq_true (hf2.thru (by omega) (by omega) (by omega) k)) ?_
                      dsimp only [putL, setL, List.set_cons_zero, List.set_cons_succ, List.nil_append, List.cons_append]
                      refine wk_nil ?_
                      refine sp_false rfl rfl ?_
                      refine sp_skip rfl ?_
                      refine sp_region (π := [0, 1, 2]) [] rfl rfl ?_
                      refine wk_move (.int .i64 (k : Int)) rfl rfl rfl rfl ?_
                      dsimp only [putL, setL, List.set_cons_zero, List.set_cons_succ, List.nil_append, List.cons_append]
                      refine wk_iop (.int .i64 ((k : Int) + 1)) rfl rfl rfl rfl rfl rfl (iop_add (by omega) (by omega)) ?_
                      dsimp only [putL, setL, List.set_cons_zero, List.set_cons_succ, List.nil_append, List.cons_append]
                      refine wk_assign (.int .i64 ((k : Int) + 1)) rfl rfl rfl rfl ?_
                      dsimp only [putL, setL, List.set_cons_zero, List.set_cons_succ, List.nil_append, List.cons_append]
                      refine wk_nil ?_
                      exact ⟨(β16, numO (ix c 0 % modW 1)) :: (S ++ S17), _, List.Sublist.refl _, ⟨(k + 1), d4, (.int .i64 (k : Int)), (.slice a_c c.length c_c), (.int .i64 ((c.length : Nat) : Int)), (.bool true), (.int .i64 (k : Int)), (.int .i64 ((k : Int) + 1)), (.slice a18 c.length cp18), (.int .i64 (k : Int)), (.pointer (some ⟨β22, 0 + k * 4, none⟩)), (numV (ix (thruL (modW 1) (ss.take c.length)) k)), (.slice a_c c.length c_c), (.int .i64 (k : Int)), (.pointer (some ⟨β19, o19 + k * 4, none⟩)), (numV (ix c k)), (numV ((ix c k) % modW 1)), (.bool false), rfl, rfl, (by omega), rfl⟩, (by omega)⟩
                    · skip
                      refine wk_iop (.bool false) rfl rfl rfl rfl rfl rfl (iop_lss_f hc21) ?_
                      dsimp only [putL, setL, List.set_cons_zero, List.set_cons_succ, List.nil_append, List.cons_append]
                      refine wk_nil ?_
                      refine sp_false rfl rfl ?_
                      refine sp_exit rfl ?_
                      refine sp_seq rfl ?_
                      refine sp_region (π := [0, 1]) [] rfl rfl ?_
                      refine wk_call [] (.bool true) rfl rfl rfl (enters_of Try.func61 (by kernel_rfl) (by kernel_rfl)) rfl wakes6_calls ?_
                      dsimp only [putL, setL, List.set_cons_zero, List.set_cons_succ, List.nil_append, List.cons_append]
                      refine wk_assign (.bool true) rfl rfl rfl rfl ?_
                      dsimp only [putL, setL, List.set_cons_zero, List.set_cons_succ, List.nil_append, List.cons_append]
                      refine wk_nil ?_
                      refine sp_ret rfl ?_
                      exact ret_tmps (v := .bool true) (fun w' => by kernel_rfl) fun w' hw => ⟨rfl, hw.below⟩
                · skip
                  refine wk_neN true rfl rfl rfl rfl rfl (Nat.lt_trans (Nat.mod_lt _ (modW_pos ok1)) (modW_lt 1)) (Nat.lt_trans (Nat.mod_lt _ (modW_pos ok1)) (modW_lt 1)) (decide_eq_false hc20) ?_
                  dsimp only [putL, setL, List.set_cons_zero, List.set_cons_succ, List.nil_append, List.cons_append]
                  refine wk_pick false (.bool true) rfl rfl rfl rfl rfl ?_
                  dsimp only [putL, setL, List.set_cons_zero, List.set_cons_succ, List.nil_append, List.cons_append]
                  refine wk_move (.bool true) rfl rfl rfl rfl ?_
                  dsimp only [putL, setL, List.set_cons_zero, List.set_cons_succ, List.nil_append, List.cons_append]
                  refine wk_skip rfl rfl (fun h => by cases h) ?_
                  dsimp only [putL, setL, List.set_cons_zero, List.set_cons_succ, List.nil_append, List.cons_append]
                  refine wk_skip rfl rfl (fun h => by cases h) ?_
                  dsimp only [putL, setL, List.set_cons_zero, List.set_cons_succ, List.nil_append, List.cons_append]
                  refine wk_skip rfl rfl (fun h => by cases h) ?_
                  dsimp only [putL, setL, List.set_cons_zero, List.set_cons_succ, List.nil_append, List.cons_append]
                  refine wk_skip rfl rfl (fun h => by cases h) ?_
                  dsimp only [putL, setL, List.set_cons_zero, List.set_cons_succ, List.nil_append, List.cons_append]
                  refine wk_skip rfl rfl (fun h => by cases h) ?_
                  dsimp only [putL, setL, List.set_cons_zero, List.set_cons_succ, List.nil_append, List.cons_append]
                  refine wk_pick true (.bool true) rfl rfl rfl rfl rfl ?_
                  dsimp only [putL, setL, List.set_cons_zero, List.set_cons_succ, List.nil_append, List.cons_append]
                  refine wk_nil ?_
                  refine sp_true rfl rfl ?_
                  refine sp_seq rfl ?_
                  refine sp_region (π := [0]) [] rfl rfl ?_
                  refine wk_assign (.bool false) rfl rfl rfl rfl ?_
                  dsimp only [putL, setL, List.set_cons_zero, List.set_cons_succ, List.nil_append, List.cons_append]
                  refine wk_nil ?_
                  refine sp_ret rfl ?_
                  exact False.elim (by omega)
          · skip
            refine wk_iop (.bool false) rfl rfl rfl rfl rfl rfl (iop_lss_f hc5) ?_
            dsimp only [putL, setL, List.set_cons_zero, List.set_cons_succ, List.nil_append, List.cons_append]
            refine wk_move (.bool false) rfl rfl rfl rfl ?_
            dsimp only [putL, setL, List.set_cons_zero, List.set_cons_succ, List.nil_append, List.cons_append]
            refine wk_skip rfl rfl (fun h => by cases h) ?_
            dsimp only [putL, setL, List.set_cons_zero, List.set_cons_succ, List.nil_append, List.cons_append]
            refine wk_skip rfl rfl (fun h => by cases h) ?_
            dsimp only [putL, setL, List.set_cons_zero, List.set_cons_succ, List.nil_append, List.cons_append]
            refine wk_skip rfl rfl (fun h => by cases h) ?_
            dsimp only [putL, setL, List.set_cons_zero, List.set_cons_succ, List.nil_append, List.cons_append]
            refine wk_skip rfl rfl (fun h => by cases h) ?_
            dsimp only [putL, setL, List.set_cons_zero, List.set_cons_succ, List.nil_append, List.cons_append]
            refine wk_skip rfl rfl (fun h => by cases h) ?_
            dsimp only [putL, setL, List.set_cons_zero, List.set_cons_succ, List.nil_append, List.cons_append]
            refine wk_skip rfl rfl (fun h => by cases h) ?_
            dsimp only [putL, setL, List.set_cons_zero, List.set_cons_succ, List.nil_append, List.cons_append]
            refine wk_pick false (.bool false) rfl rfl rfl rfl rfl ?_
            dsimp only [putL, setL, List.set_cons_zero, List.set_cons_succ, List.nil_append, List.cons_append]
            refine wk_nil ?_
            refine sp_false rfl rfl ?_
            refine sp_exit rfl ?_
            refine sp_seq rfl ?_
            refine sp_seq rfl ?_
            refine sp_region (π := [0, 1, 2, 3, 4]) [] rfl rfl ?_
            refine wk_move (.slice a4 j cp4) rfl rfl rfl rfl ?_
            dsimp only [putL, setL, List.set_cons_zero, List.set_cons_succ, List.nil_append, List.cons_append]
            refine wk_lenA rfl rfl rfl rfl Try.underlying63 ?_
            dsimp only [putL, setL, List.set_cons_zero, List.set_cons_succ, List.nil_append, List.cons_append]
            refine wk_move (.slice a_c c.length c_c) rfl rfl rfl rfl ?_
            dsimp only [putL, setL, List.set_cons_zero, List.set_cons_succ, List.nil_append, List.cons_append]
            refine wk_lenA rfl rfl rfl rfl Try.underlying57 ?_
            dsimp only [putL, setL, List.set_cons_zero, List.set_cons_succ, List.nil_append, List.cons_append]
            by_cases hc23 : ((j : Nat) : Int) < ((c.length : Nat) : Int)
            · skip
              refine wk_iop (.bool true) rfl rfl rfl rfl rfl rfl (iop_lss_t hc23) ?_
              dsimp only [putL, setL, List.set_cons_zero, List.set_cons_succ, List.nil_append, List.cons_append]
              refine wk_nil ?_
              refine sp_true rfl rfl ?_
              refine sp_seq rfl ?_
              refine sp_region (π := [0, 1]) [] rfl rfl ?_
              refine wk_call [] (.bool true) rfl rfl rfl (enters_of Try.func61 (by kernel_rfl) (by kernel_rfl)) rfl wakes6_calls ?_
              dsimp only [putL, setL, List.set_cons_zero, List.set_cons_succ, List.nil_append, List.cons_append]
              refine wk_assign (.bool true) rfl rfl rfl rfl ?_
              dsimp only [putL, setL, List.set_cons_zero, List.set_cons_succ, List.nil_append, List.cons_append]
              refine wk_nil ?_
              refine sp_ret rfl ?_
              exact ret_tmps (v := .bool true) (fun w' => by kernel_rfl) fun w' hw => ⟨rfl, hw.below⟩
            · skip
              refine wk_iop (.bool false) rfl rfl rfl rfl rfl rfl (iop_lss_f hc23) ?_
              dsimp only [putL, setL, List.set_cons_zero, List.set_cons_succ, List.nil_append, List.cons_append]
              refine wk_nil ?_
              refine sp_false rfl rfl ?_
              refine sp_skip rfl ?_
              refine sp_seq rfl ?_
              refine sp_region (π := [0, 1, 2, 3, 4, 5, 6, 7]) [] rfl rfl ?_
              refine wk_move (.slice a4 j cp4) rfl rfl rfl rfl ?_
              dsimp only [putL, setL, List.set_cons_zero, List.set_cons_succ, List.nil_append, List.cons_append]
              refine wk_callW [(.slice a4 j cp4)] (.tuple #[(numV (ix c 0 % modW 1)), (.int .i64 0)]) rfl rfl rfl (enters_of Try.func62 (by kernel_rfl) (by kernel_rfl)) rfl (fun M' w' hm hst => (conv_post (by rw [hf2.zero (by omega) (by omega) (by omega)]) (zero_ok ss j _ _ hf2.len hf2.bound (by omega) hcp4 (hf2.ok (by omega) (by omega)) w' (hsh4.holds hst (fun p hp => hm p (by simp [hp])))))) ?_
              dsimp only [putL, setL, List.set_cons_zero, List.set_cons_succ, List.nil_append, List.cons_append]
              refine wk_move (.tuple #[(numV (ix c 0 % modW 1)), (.int .i64 0)]) rfl rfl rfl rfl ?_
              dsimp only [putL, setL, List.set_cons_zero, List.set_cons_succ, List.nil_append, List.cons_append]
              refine wk_ext (numV (ix c 0 % modW 1)) rfl rfl rfl rfl rfl ?_
              dsimp only [putL, setL, List.set_cons_zero, List.set_cons_succ, List.nil_append, List.cons_append]
              refine wk_ext (.int .i64 0) rfl rfl rfl rfl rfl ?_
              dsimp only [putL, setL, List.set_cons_zero, List.set_cons_succ, List.nil_append, List.cons_append]
              refine wkf_newN rfl rfl fun β24 => ?_
              dsimp only [putL, setL, List.set_cons_zero, List.set_cons_succ, List.nil_append, List.cons_append]
              refine wk_stN 0 (ix c 0 % modW 1) rfl rfl rfl rfl rfl rfl ?_
              dsimp only [putL, setL, List.set_cons_zero, List.set_cons_succ, List.nil_append, List.cons_append]
              refine wk_assign (.int .i64 0) rfl rfl rfl rfl ?_
              dsimp only [putL, setL, List.set_cons_zero, List.set_cons_succ, List.nil_append, List.cons_append]
              refine wk_nil ?_
              refine sp_seq rfl ?_
              refine sp_region (π := [0, 1, 2, 3, 4, 5, 6, 7, 8, 9]) [] rfl rfl ?_
              refine wk_move (.slice a4 j cp4) rfl rfl rfl rfl ?_
              dsimp only [putL, setL, List.set_cons_zero, List.set_cons_succ, List.nil_append, List.cons_append]
              refine wk_move (.slice a_c c.length c_c) rfl rfl rfl rfl ?_
              dsimp only [putL, setL, List.set_cons_zero, List.set_cons_succ, List.nil_append, List.cons_append]
              refine wk_lenA rfl rfl rfl rfl Try.underlying57 ?_
              dsimp only [putL, setL, List.set_cons_zero, List.set_cons_succ, List.nil_append, List.cons_append]
              refine wk_sliceHi c.length rfl rfl rfl rfl rfl Try.underlying63 (by kernel_rfl) rfl (Nat.le_trans (show c.length ≤ j by omega) hcp4) ?_
              dsimp only [putL, setL, List.set_cons_zero, List.set_cons_succ, List.nil_append, List.cons_append]
              have hpt := hf2.take (n := c.length) (by omega)
              have hok := hpt.ok (by omega) (by omega)
              have hshT := hsh4.take c.length
              refine wk_callS (e := 24) (size := 4) (n := c.length) (cs := (rowL (thruL (modW 1) (ss.take c.length)))) [(.slice a4 c.length cp4)] (fun v => .tuple #[v, .int .i64 0]) rfl rfl rfl (enters_of Try.func68 (by kernel_rfl) (by kernel_rfl)) rfl (th_row hok hpt.len) (by simp only [maxLen]; omega) (fun M' w' hm hst => through_ok (ss.take c.length) c.length _ _ hpt.len hpt.bound (by omega) hok w' (hshT.holds hst (fun p hp => hm p (by simp [hp])))) fun v25 S25 hO25 => ?_
              dsimp only [putL, setL, List.set_cons_zero, List.set_cons_succ, List.nil_append, List.cons_append]
              try simp only [List.append_assoc]
              obtain ⟨a26, cp26, hv26, hcp26, hsh26⟩ := hO25.reads
              subst hv26
              refine wk_move (.tuple #[(.slice a26 c.length cp26), (.int .i64 0)]) rfl rfl rfl rfl ?_
              dsimp only [putL, setL, List.set_cons_zero, List.set_cons_succ, List.nil_append, List.cons_append]
              refine wk_ext (.slice a26 c.length cp26) rfl rfl rfl rfl rfl ?_
              dsimp only [putL, setL, List.set_cons_zero, List.set_cons_succ, List.nil_append, List.cons_append]
              refine wk_ext (.int .i64 0) rfl rfl rfl rfl rfl ?_
              dsimp only [putL, setL, List.set_cons_zero, List.set_cons_succ, List.nil_append, List.cons_append]
              refine wk_assign (.slice a26 c.length cp26) rfl rfl rfl rfl ?_
              dsimp only [putL, setL, List.set_cons_zero, List.set_cons_succ, List.nil_append, List.cons_append]
              refine wk_assign (.int .i64 0) rfl rfl rfl rfl ?_
              dsimp only [putL, setL, List.set_cons_zero, List.set_cons_succ, List.nil_append, List.cons_append]
              refine wk_nil ?_
              refine sp_seq rfl ?_
              refine sp_seq rfl ?_
              refine sp_draw [0, 1, 2, 3, 4, 5, 6, 7, 8, 9, 10, 11, 12, 13, 14, 15, 16, 17, 18, 19, 20] [] mixed rfl (by kernel_rfl) (by kernel_rfl) ?_
              refine wk_move (.int .i64 0) rfl rfl rfl rfl ?_
              dsimp only [putL, setL, List.set_cons_zero, List.set_cons_succ, List.nil_append, List.cons_append]
              refine wk_iop (.bool false) rfl rfl rfl rfl rfl rfl (iop_neq_f (by decide)) ?_
              dsimp only [putL, setL, List.set_cons_zero, List.set_cons_succ, List.nil_append, List.cons_append]
              refine wk_move (.bool false) rfl rfl rfl rfl ?_
              dsimp only [putL, setL, List.set_cons_zero, List.set_cons_succ, List.nil_append, List.cons_append]
              refine wk_move (.int .i64 0) rfl rfl rfl rfl ?_
              dsimp only [putL, setL, List.set_cons_zero, List.set_cons_succ, List.nil_append, List.cons_append]
              refine wk_iop (.bool false) rfl rfl rfl rfl rfl rfl (iop_neq_f (by decide)) ?_
              dsimp only [putL, setL, List.set_cons_zero, List.set_cons_succ, List.nil_append, List.cons_append]
              refine wk_pick false (.bool false) rfl rfl rfl rfl rfl ?_
              dsimp only [putL, setL, List.set_cons_zero, List.set_cons_succ, List.nil_append, List.cons_append]
              refine wk_move (.bool false) rfl rfl rfl rfl ?_
              dsimp only [putL, setL, List.set_cons_zero, List.set_cons_succ, List.nil_append, List.cons_append]
              refine wk_ldN 0 rfl rfl rfl rfl rfl ?_
              dsimp only [putL, setL, List.set_cons_zero, List.set_cons_succ, List.nil_append, List.cons_append]
              refine wk_move (.slice a_c c.length c_c) rfl rfl rfl rfl ?_
              dsimp only [putL, setL, List.set_cons_zero, List.set_cons_succ, List.nil_append, List.cons_append]
              obtain ⟨β27, o27, ha27, hr27⟩ := hH_c.at_ (rowL_ne (k := 0) (by omega))
              refine wk_idxA 0 4 rfl rfl rfl rfl ha27 rfl Try.underlying57 (by kernel_rfl) rfl (by omega) ?_
              dsimp only [putL, setL, List.set_cons_zero, List.set_cons_succ, List.nil_append, List.cons_append]
              refine wk_ldA rfl rfl rfl rfl (fun M' w' hm hst => old_range hr27 (rowL_ne (k := 0) (by omega)) hst) (by omega) ?_
              dsimp only [putL, setL, List.set_cons_zero, List.set_cons_succ, List.nil_append, List.cons_append]
              refine wk_call [(.int .i64 1), (numV (ix c 0))] (numV ((ix c 0) % modW 1)) rfl rfl rfl (enters_of Try.func45 (by kernel_rfl) (by kernel_rfl)) rfl (red_ok 1 (ix c 0) ok1 (ix_lt w_c)) ?_
              dsimp only [putL, setL, List.set_cons_zero, List.set_cons_succ, List.nil_append, List.cons_append]
              by_cases hc28 : (ix c 0 % modW 1) = ((ix c 0) % modW 1)
              · skip
                refine wk_neN false rfl rfl rfl rfl rfl (Nat.lt_trans (Nat.mod_lt _ (modW_pos ok1)) (modW_lt 1)) (Nat.lt_trans (Nat.mod_lt _ (modW_pos ok1)) (modW_lt 1)) (decide_eq_true hc28) ?_
                dsimp only [putL, setL, List.set_cons_zero, List.set_cons_succ, List.nil_append, List.cons_append]
                refine wk_pick false (.bool false) rfl rfl rfl rfl rfl ?_
                dsimp only [putL, setL, List.set_cons_zero, List.set_cons_succ, List.nil_append, List.cons_append]
                refine wk_move (.bool false) rfl rfl rfl rfl ?_
                dsimp only [putL, setL, List.set_cons_zero, List.set_cons_succ, List.nil_append, List.cons_append]
                refine wk_move (.slice a26 c.length cp26) rfl rfl rfl rfl ?_
                dsimp only [putL, setL, List.set_cons_zero, List.set_cons_succ, List.nil_append, List.cons_append]
                refine wk_lenA rfl rfl rfl rfl Try.underlying57 ?_
                dsimp only [putL, setL, List.set_cons_zero, List.set_cons_succ, List.nil_append, List.cons_append]
                refine wk_move (.slice a_c c.length c_c) rfl rfl rfl rfl ?_
                dsimp only [putL, setL, List.set_cons_zero, List.set_cons_succ, List.nil_append, List.cons_append]
                refine wk_lenA rfl rfl rfl rfl Try.underlying57 ?_
                dsimp only [putL, setL, List.set_cons_zero, List.set_cons_succ, List.nil_append, List.cons_append]
                refine wk_iop (.bool false) rfl rfl rfl rfl rfl rfl (iop_neq_f rfl) ?_
                dsimp only [putL, setL, List.set_cons_zero, List.set_cons_succ, List.nil_append, List.cons_append]
                refine wk_pick false (.bool false) rfl rfl rfl rfl rfl ?_
                dsimp only [putL, setL, List.set_cons_zero, List.set_cons_succ, List.nil_append, List.cons_append]
                refine wk_nil ?_
                refine sp_false rfl rfl ?_
                refine sp_skip rfl ?_
                refine sp_seq rfl ?_
                refine sp_seq rfl ?_
                refine sp_region (π := [0]) [] rfl rfl ?_
                refine wk_assign (.int .i64 0) rfl rfl rfl rfl ?_
                dsimp only [putL, setL, List.set_cons_zero, List.set_cons_succ, List.nil_append, List.cons_append]
                refine wk_nil ?_
                refine sp_block rfl ?_
                refine sp_loopg rfl (fun n l M => ∃ k : Nat, ∃ d4 : Value, ∃ d116 : Value, ∃ d117 : Value, ∃ d118 : Value, ∃ d119 : Value, ∃ d120 : Value, ∃ d121 : Value, ∃ d122 : Value, ∃ d123 : Value, ∃ d124 : Value, ∃ d125 : Value, ∃ d126 : Value, ∃ d127 : Value, ∃ d128 : Value, ∃ d129 : Value, ∃ d130 : Value, ∃ d131 : Value, l = [(.slice a_c c.length c_c), (.slice a_places places.length c_places), undef, undef, d4, (.slice a4 j cp4), (.int .i64 (i : Int)), d7, d8, d9, (.pointer (some ⟨β24, 0, none⟩)), (.int .i64 0), (.slice a26 c.length cp26), (.int .i64 0), (.int .i64 (k : Int)), (.slice a_c c.length c_c), (.int .i64 ((c.length : Nat) : Int)), (.bool false), (.bool false), (.slice a_c c.length c_c), (.int .i64 ((c.length : Nat) : Int)), (.bool false), (.bool false), (.bool false), (.slice a_places places.length c_places), (.int .i64 ((places.length : Nat) : Int)), (.bool false), (.bool false), (.int .i64 (i : Int)), (.slice a_places places.length c_places), (.int .i64 ((places.length : Nat) : Int)), (.bool false), (.bool false), undef, undef, undef, undef, undef, undef, (.bool false), d40, d41, d42, d43, d44, d45, d46, d47, d48, d49, d50, d51, d52, d53, d54, d55, d56, d57, d58, d59, d60, d61, d62, d63, d64, d65, d66, d67, d68, d69, d70, d71, d72, d73, d74, d75, (.slice a4 j cp4), (.int .i64 ((j : Nat) : Int)), (.slice a_c c.length c_c), (.int .i64 ((c.length : Nat) : Int)), (.bool false), undef, (.tuple #[(numV (ix c 0 % modW 1)), (.int .i64 0)]), (.slice a4 j cp4), (.tuple #[(numV (ix c 0 % modW 1)), (.int .i64 0)]), (numV (ix c 0 % modW 1)), (.int .i64 0), (.tuple #[(.slice a26 c.length cp26), (.int .i64 0)]), (.slice a4 j cp4), (.slice a_c c.length c_c), (.int .i64 ((c.length : Nat) : Int)), (.slice a4 c.length cp4), (.tuple #[(.slice a26 c.length cp26), (.int .i64 0)]), (.slice a26 c.length cp26), (.int .i64 0), (.int .i64 0), (.bool false), (.bool false), (.int .i64 0), (.bool false), (.bool false), (.bool false), (numV (ix c 0 % modW 1)), (.slice a_c c.length c_c), (.pointer (some ⟨β27, o27 + 0 * 4, none⟩)), (numV (ix c 0)), (numV ((ix c 0) % modW 1)), (.bool false), (.bool false), (.bool false), (.slice a26 c.length cp26), (.int .i64 ((c.length : Nat) : Int)), (.slice a_c c.length c_c), (.int .i64 ((c.length : Nat) : Int)), (.bool false), (.bool false), d116, d117, d118, d119, d120, d121, d122, d123, d124, d125, d126, d127, d128, d129, d130, d131, undef] ∧ (β24, numO (ix c 0 % modW 1)) :: (S ++ S25) = M ∧ (k ≤ c.length) ∧ n = c.length - k) (c.length - 0) ?_ ?_
                · exact ⟨0, (.bool false), undef, undef, undef, undef, undef, undef, undef, undef, undef, undef, undef, undef, undef, undef, undef, undef, rfl, rfl, (Nat.zero_le _), rfl⟩
                · skip
                  intro n l M
                  refine exists_imp.2 fun k => ?_
                  refine exists_imp.2 fun d4 => ?_
                  refine exists_imp.2 fun d116 => ?_
                  refine exists_imp.2 fun d117 => ?_
                  refine exists_imp.2 fun d118 => ?_
                  refine exists_imp.2 fun d119 => ?_
                  refine exists_imp.2 fun d120 => ?_
                  refine exists_imp.2 fun d121 => ?_
                  refine exists_imp.2 fun d122 => ?_
                  refine exists_imp.2 fun d123 => ?_
                  refine exists_imp.2 fun d124 => ?_
                  refine exists_imp.2 fun d125 => ?_
                  refine exists_imp.2 fun d126 => ?_
                  refine exists_imp.2 fun d127 => ?_
                  refine exists_imp.2 fun d128 => ?_
                  refine exists_imp.2 fun d129 => ?_
                  refine exists_imp.2 fun d130 => ?_
                  refine exists_imp.2 fun d131 => ?_
                  rintro ⟨rfl, rfl, hh0, rfl⟩
                  refine sp_seq rfl ?_
                  refine sp_seq rfl ?_
                  refine sp_region (π := [0, 1, 2, 3]) [] rfl rfl ?_
                  refine wk_move (.int .i64 (k : Int)) rfl rfl rfl rfl ?_
                  dsimp only [putL, setL, List.set_cons_zero, List.set_cons_succ, List.nil_append, List.cons_append]
                  refine wk_move (.slice a_c c.length c_c) rfl rfl rfl rfl ?_
                  dsimp only [putL, setL, List.set_cons_zero, List.set_cons_succ, List.nil_append, List.cons_append]
                  refine wk_lenA rfl rfl rfl rfl Try.underlying57 ?_
                  dsimp only [putL, setL, List.set_cons_zero, List.set_cons_succ, List.nil_append, List.cons_append]
                  by_cases hc29 : (k : Int) < ((c.length : Nat) : Int)
                  · skip
                    refine wk_iop (.bool true) rfl rfl rfl rfl rfl rfl (iop_lss_t hc29) ?_
                    dsimp only [putL, setL, List.set_cons_zero, List.set_cons_succ, List.nil_append, List.cons_append]
                    refine wk_nil ?_
                    refine sp_true rfl rfl ?_
                    refine sp_skip rfl ?_
                    refine sp_seq rfl ?_
                    refine sp_block rfl ?_
                    refine sp_seq rfl ?_
                    refine sp_draw [0, 1, 2, 3, 4, 5, 6, 7, 8, 9] [] mixed rfl (by kernel_rfl) (by kernel_rfl) ?_
                    refine wk_move (.slice a26 c.length cp26) rfl rfl rfl rfl ?_
                    dsimp only [putL, setL, List.set_cons_zero, List.set_cons_succ, List.nil_append, List.cons_append]
                    refine wk_move (.int .i64 (k : Int)) rfl rfl rfl rfl ?_
                    dsimp only [putL, setL, List.set_cons_zero, List.set_cons_succ, List.nil_append, List.cons_append]
                    obtain ⟨β30, ha30, hr30⟩ := hsh26.at_ (rowL_ne (k := k) (by have h0 := ((th_len hok).trans hpt.len); omega))
                    refine wk_idxA k 4 rfl rfl rfl rfl ha30 rfl Try.underlying57 (by kernel_rfl) rfl (by omega) ?_
                    dsimp only [putL, setL, List.set_cons_zero, List.set_cons_succ, List.nil_append, List.cons_append]
                    refine wk_ldA rfl rfl rfl rfl (fun M' w' hm hst => hr30 w' (fun p hp => hst.own p (hm p (by simp [hp])))) (by have h0 := ((th_len hok).trans hpt.len); omega) ?_
                    dsimp only [putL, setL, List.set_cons_zero, List.set_cons_succ, List.nil_append, List.cons_append]
                    refine wk_move (.slice a_c c.length c_c) rfl rfl rfl rfl ?_
                    dsimp only [putL, setL, List.set_cons_zero, List.set_cons_succ, List.nil_append, List.cons_append]
                    refine wk_move (.int .i64 (k : Int)) rfl rfl rfl rfl ?_
                    dsimp only [putL, setL, List.set_cons_zero, List.set_cons_succ, List.nil_append, List.cons_append]
                    refine wk_idxA k 4 rfl rfl rfl rfl ha27 rfl Try.underlying57 (by kernel_rfl) rfl (by omega) ?_
                    dsimp only [putL, setL, List.set_cons_zero, List.set_cons_succ, List.nil_append, List.cons_append]
                    refine wk_ldA rfl rfl rfl rfl (fun M' w' hm hst => old_range hr27 (rowL_ne (k := k) (by omega)) hst) (by omega) ?_
                    dsimp only [putL, setL, List.set_cons_zero, List.set_cons_succ, List.nil_append, List.cons_append]
                    refine wk_call [(.int .i64 1), (numV (ix c k))] (numV ((ix c k) % modW 1)) rfl rfl rfl (enters_of Try.func45 (by kernel_rfl) (by kernel_rfl)) rfl (red_ok 1 (ix c k) ok1 (ix_lt w_c)) ?_
                    dsimp only [putL, setL, List.set_cons_zero, List.set_cons_succ, List.nil_append, List.cons_append]
                    refine wk_neN false rfl rfl rfl rfl rfl (ix_lt (th_lt hok)) (Nat.lt_trans (Nat.mod_lt _ (modW_pos ok1)) (modW_lt 1)) (decide_eq_true (hf2.thru (by omega) (by omega) (by omega) k)) ?_
                    dsimp only [putL, setL, List.set_cons_zero, List.set_cons_succ, List.nil_append, List.cons_append]
                    refine wk_nil ?_
                    refine sp_false rfl rfl ?_
                    refine sp_skip rfl ?_
                    refine sp_region (π := [0, 1, 2]) [] rfl rfl ?_
                    refine wk_move (.int .i64 (k : Int)) rfl rfl rfl rfl ?_
                    dsimp only [putL, setL, List.set_cons_zero, List.set_cons_succ, List.nil_append, List.cons_append]
                    refine wk_iop (.int .i64 ((k : Int) + 1)) rfl rfl rfl rfl rfl rfl (iop_add (by omega) (by omega)) ?_
                    dsimp only [putL, setL, List.set_cons_zero, List.set_cons_succ, List.nil_append, List.cons_append]
                    refine wk_assign (.int .i64 ((k : Int) + 1)) rfl rfl rfl rfl ?_
                    dsimp only [putL, setL, List.set_cons_zero, List.set_cons_succ, List.nil_append, List.cons_append]
                    refine wk_nil ?_
                    exact ⟨(β24, numO (ix c 0 % modW 1)) :: (S ++ S25), _, List.Sublist.refl _, ⟨(k + 1), d4, (.int .i64 (k : Int)), (.slice a_c c.length c_c), (.int .i64 ((c.length : Nat) : Int)), (.bool true), (.int .i64 (k : Int)), (.int .i64 ((k : Int) + 1)), (.slice a26 c.length cp26), (.int .i64 (k : Int)), (.pointer (some ⟨β30, 0 + k * 4, none⟩)), (numV (ix (thruL (modW 1) (ss.take c.length)) k)), (.slice a_c c.length c_c), (.int .i64 (k : Int)), (.pointer (some ⟨β27, o27 + k * 4, none⟩)), (numV (ix c k)), (numV ((ix c k) % modW 1)), (.bool false), rfl, rfl, (by omega), rfl⟩, (by omega)⟩
                  · skip
                    refine wk_iop (.bool false) rfl rfl rfl rfl rfl rfl (iop_lss_f hc29) ?_
                    dsimp only [putL, setL, List.set_cons_zero, List.set_cons_succ, List.nil_append, List.cons_append]
                    refine wk_nil ?_
                    refine sp_false rfl rfl ?_
                    refine sp_exit rfl ?_
                    refine sp_seq rfl ?_
                    refine sp_region (π := [0, 1]) [] rfl rfl ?_
                    refine wk_call [] (.bool true) rfl rfl rfl (enters_of Try.func61 (by kernel_rfl) (by kernel_rfl)) rfl wakes6_calls ?_
                    dsimp only [putL, setL, List.set_cons_zero, List.set_cons_succ, List.nil_append, List.cons_append]
                    refine wk_assign (.bool true) rfl rfl rfl rfl ?_
                    dsimp only [putL, setL, List.set_cons_zero, List.set_cons_succ, List.nil_append, List.cons_append]
                    refine wk_nil ?_
                    refine sp_ret rfl ?_
                    exact ret_tmps (v := .bool true) (fun w' => by kernel_rfl) fun w' hw => ⟨rfl, hw.below⟩
              · skip
                refine wk_neN true rfl rfl rfl rfl rfl (Nat.lt_trans (Nat.mod_lt _ (modW_pos ok1)) (modW_lt 1)) (Nat.lt_trans (Nat.mod_lt _ (modW_pos ok1)) (modW_lt 1)) (decide_eq_false hc28) ?_
                dsimp only [putL, setL, List.set_cons_zero, List.set_cons_succ, List.nil_append, List.cons_append]
                refine wk_pick false (.bool true) rfl rfl rfl rfl rfl ?_
                dsimp only [putL, setL, List.set_cons_zero, List.set_cons_succ, List.nil_append, List.cons_append]
                refine wk_move (.bool true) rfl rfl rfl rfl ?_
                dsimp only [putL, setL, List.set_cons_zero, List.set_cons_succ, List.nil_append, List.cons_append]
                refine wk_skip rfl rfl (fun h => by cases h) ?_
                dsimp only [putL, setL, List.set_cons_zero, List.set_cons_succ, List.nil_append, List.cons_append]
                refine wk_skip rfl rfl (fun h => by cases h) ?_
                dsimp only [putL, setL, List.set_cons_zero, List.set_cons_succ, List.nil_append, List.cons_append]
                refine wk_skip rfl rfl (fun h => by cases h) ?_
                dsimp only [putL, setL, List.set_cons_zero, List.set_cons_succ, List.nil_append, List.cons_append]
                refine wk_skip rfl rfl (fun h => by cases h) ?_
                dsimp only [putL, setL, List.set_cons_zero, List.set_cons_succ, List.nil_append, List.cons_append]
                refine wk_skip rfl rfl (fun h => by cases h) ?_
                dsimp only [putL, setL, List.set_cons_zero, List.set_cons_succ, List.nil_append, List.cons_append]
                refine wk_pick true (.bool true) rfl rfl rfl rfl rfl ?_
                dsimp only [putL, setL, List.set_cons_zero, List.set_cons_succ, List.nil_append, List.cons_append]
                refine wk_nil ?_
                refine sp_true rfl rfl ?_
                refine sp_seq rfl ?_
                refine sp_region (π := [0]) [] rfl rfl ?_
                refine wk_assign (.bool false) rfl rfl rfl rfl ?_
                dsimp only [putL, setL, List.set_cons_zero, List.set_cons_succ, List.nil_append, List.cons_append]
                refine wk_nil ?_
                refine sp_ret rfl ?_
                exact False.elim (by omega)

set_option maxRecDepth 100000 in
theorem polyZero_lifted (os : Os) (started : os.Started) (H : Type) (enc : TypeId × Value → H) :
    ReturnsInHanded {} Try.checked os 22 .any (Rows.polyZeroSpec.pre6 enc Try.prog Try.f22 Rows.polyZeroRow.domain false) (Rows.polyZeroSpec.post enc Try.prog Try.f22 false true false false) := by
  refine returnsInHanded_of_change (C := Try.checked) own started (by kernel_rfl) Try.func22
    (ChangeSpec.witness6 (enc := enc) (C := Try.checked) false ⟨#[], #[.slice none 0 0, .slice none 0 0], []⟩ 8 (by kernel_rfl) (by kernel_rfl) (by kernel_rfl) (by kernel_rfl)) ?_
  intro W base args ds gs before hval0 hW hcnd _
  have hval : ∀ (j : Nat) t v, Try.f22.params[j]? = some t → args[j]? = some v → Value.okWide Try.prog W .any base t v := hval0
  have hW' := hW
  obtain ⟨p, q, hA0, hV, rfl, hfz, hnd⟩ := hW
  have hA : DataW.TrodAll enc Try.prog W 0 (fun _ => true) true Try.f22.params.toList args.toList ds p := hA0
  rw [Try.params22] at hA hval
  obtain ⟨v0, vs0, d0, ds0, p0, q0, hargs, rfl, rfl, h0, r0⟩ := trodAll_cons hA
  obtain ⟨v1, vs1, d1, ds1, p1, q1, rfl, rfl, rfl, h1, r1⟩ := trodAll_cons r0
  obtain ⟨rfl, rfl, rfl⟩ := trodAll_nil r1
  obtain rfl : args = #[v0, v1] := by cases args; simp_all
  obtain ⟨rfl, rfl⟩ := trodVars_none hV
  have k0 := h0
  have lt0 : ∀ x ∈ p0, x.block < W.heap.size := by obtain ⟨m, hm⟩ := k0; exact DataW.trod_lt m _ _ _ hm
  have k1 := h1
  have lt1 : ∀ x ∈ p1, x.block < W.heap.size := by obtain ⟨m, hm⟩ := k1; exact DataW.trod_lt m _ _ _ hm
  obtain ⟨a_c, c, c_c, rfl, w_c, hc_c, _, hH_c⟩ := open_nums (hval 0 57 v0 rfl rfl) h0
  obtain ⟨a_places, places, c_places, rfl, w_places, hc_places, _, hH_places⟩ := open_ints (hval 1 58 v1 rfl rfl) h1
  clear hA0 hval0
  refine (polyZero_walk c a_c c_c places a_places c_places w_c hc_c w_places hc_places W hH_c hH_places).mono fun e W' ⟨he, bel⟩ => ?_
  subst he
  exact ⟨_, rfl, _, _, _, [], _, [], hW', trodAll_mk1 (shut_bool Try.underlying4 _), (trodAll_cons_mk (Below.trod laidOut (by kernel_rfl) (of_decide_eq_true (by kernel_rfl)) k0 bel lt0) (trodAll_cons_mk (Below.trod laidOut (by kernel_rfl) (of_decide_eq_true (by kernel_rfl)) k1 bel lt1) trodAll_mk0)), rfl, bel.frame _, fun h => by cases h⟩

theorem polyZero_holds : Rows.PolyZeroSaid :=
  OpenClaim.holds_of_wide 22 Try.f22 rfl rfl rfl rfl rfl rfl rfl ⟨rfl, rfl, rfl, rfl, rfl⟩ rfl rfl rfl rfl rfl (by kernel_rfl) Try.func22 (by kernel_rfl)
    (of_decide_eq_true (by kernel_rfl)) (by unfold Func.isWrapper; first | (rw [if_pos (by decide +kernel)]; kernel_rfl) | (rw [if_neg (by decide +kernel)]; exact ⟨rfl, rfl⟩))
    (fun os started H enc _ => polyZero_lifted os started H enc)

end Go.Proofs.Ytmecomgifmkkfaa
