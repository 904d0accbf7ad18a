/- Sums and differences of 256 bits, by the program and by the page: what each call answers. -/
import Derived.Test.YtmecomgifmkkfaaProg
import Derived.Test.YtmecomgifmkkfaaNum
import Derived.WalkSpells
import Derived.WalkLawsBesides
import Derived.Handy
import Derived.Lib.Hide
import Derived.RegionTactic
import Derived.ChangeAlike
import Derived.BigRegion
namespace Go.Proofs.Ytmecomgifmkkfaa
set_option linter.unusedVariables false
set_option linter.unusedSimpArgs false
open Go.RowKit

/-- 'math/bits.Add64', as the walk meets it. -/
theorem add64_run (x y c : Nat) (hc : c ≤ 1) (w : World) :
    (callFunc 70 #[.int .u64 (x : Int), .int .u64 (y : Int), .int .u64 (c : Int)]).run Try.prog w =
      .ok (.value (.tuple #[.int .u64 (((x + y + c) % 18446744073709551616 : Nat) : Int), .int .u64 (((x + y + c) / 18446744073709551616 : Nat) : Int)])) w := by
  rw [run_callFunc_extern (e := add64Entry) Try.func70 (by kernel_rfl) rfl (by kernel_rfl) (by kernel_rfl), run_add64 (x : Int) y c (by omega) (by omega) (by omega) (by omega)]
  rfl

def sub64Entry : Array Value → Sem Value := fun args => do
  let (x, y, b) ← Extern.MathBitsCarry.three "Sub64" args
  pure (Extern.MathBitsCarry.pair ((x + Extern.MathBitsCarry.m64 - y - b) % Extern.MathBitsCarry.m64) (if x < y + b then 1 else 0))

/-- 'math/bits.Sub64', as the walk meets it. -/
theorem run_sub64 {P : Program} (x y c : Nat) (hc : c ≤ 1) (w : World) :
    (sub64Entry #[.int .u64 (x : Int), .int .u64 (y : Int), .int .u64 (c : Int)]).run P w =
      .ok (.tuple #[.int .u64 (((x + 18446744073709551616 - y - c) % 18446744073709551616 : Nat) : Int), .int .u64 ((if x < y + c then 1 else 0 : Nat) : Int)]) w := by
  have h : c = 0 ∨ c = 1 := by omega
  have key : (sub64Entry #[.int .u64 (x : Int), .int .u64 (y : Int), .int .u64 (c : Int)]).run P w =
      .ok (Extern.MathBitsCarry.pair ((x + Extern.MathBitsCarry.m64 - y - c) % Extern.MathBitsCarry.m64) (if x < y + c then 1 else 0)) w := by
    rcases h with rfl | rfl <;> rfl
  rw [key]
  simp only [Extern.MathBitsCarry.pair, Extern.MathBitsCarry.m64, Int.ofNat_eq_natCast, Nat.reducePow]

theorem sub64_run (x y c : Nat) (hc : c ≤ 1) (w : World) :
    (callFunc 71 #[.int .u64 (x : Int), .int .u64 (y : Int), .int .u64 (c : Int)]).run Try.prog w =
      .ok (.value (.tuple #[.int .u64 (((x + 18446744073709551616 - y - c) % 18446744073709551616 : Nat) : Int), .int .u64 ((if x < y + c then 1 else 0 : Nat) : Int)])) w := by
  rw [run_callFunc_extern (e := sub64Entry) Try.func71 (by kernel_rfl) rfl (by kernel_rfl) (by kernel_rfl), run_sub64 x y c hc]
  simp only [Result.andThen]

set_option maxHeartbeats 1000000 in
theorem add_digits (a0 a1 a2 a3 b0 b1 b2 b3 c1 c2 c3 c4 s0 s1 s2 s3 : Nat) (w : World)
    (h0 : ∀ w, (callFunc 70 #[.int .u64 (a0 : Int), .int .u64 (b0 : Int), .int .u64 0]).run Try.prog w = .ok (.value (.tuple #[.int .u64 (s0 : Int), .int .u64 (c1 : Int)])) w)
    (h1 : ∀ w, (callFunc 70 #[.int .u64 (a1 : Int), .int .u64 (b1 : Int), .int .u64 (c1 : Int)]).run Try.prog w = .ok (.value (.tuple #[.int .u64 (s1 : Int), .int .u64 (c2 : Int)])) w)
    (h2 : ∀ w, (callFunc 70 #[.int .u64 (a2 : Int), .int .u64 (b2 : Int), .int .u64 (c2 : Int)]).run Try.prog w = .ok (.value (.tuple #[.int .u64 (s2 : Int), .int .u64 (c3 : Int)])) w)
    (h3 : ∀ w, (callFunc 70 #[.int .u64 (a3 : Int), .int .u64 (b3 : Int), .int .u64 (c3 : Int)]).run Try.prog w = .ok (.value (.tuple #[.int .u64 (s3 : Int), .int .u64 (c4 : Int)])) w) :
    Calls Try.prog 29 #[.agg #[.int .u64 (a0 : Int), .int .u64 (a1 : Int), .int .u64 (a2 : Int), .int .u64 (a3 : Int)], .agg #[.int .u64 (b0 : Int), .int .u64 (b1 : Int), .int .u64 (b2 : Int), .int .u64 (b3 : Int)]] w
      fun e w' => e = .returned (.tuple #[.agg #[.int .u64 (s0 : Int), .int .u64 (s1 : Int), .int .u64 (s2 : Int), .int .u64 (s3 : Int)], .int .u64 (c4 : Int)]) ∧ Below w.heap.size w w' := by
  go_enter Try.func29, Try.ntmps29
  go_wp2
  refine wp_loop_rounds 5 ?_
  iterate 4
    rw [rounds_succ]
    go_wp2
    go_region
    go_wp2
  rw [rounds_succ]
  go_wp2
  refine bodyPost_ret (v := .tuple #[.agg #[.int .u64 (s0 : Int), .int .u64 (s1 : Int), .int .u64 (s2 : Int), .int .u64 (s3 : Int)], .int .u64 (c4 : Int)]) (by simp [results, Try.results29, go_sem]) rfl ⟨rfl, ?_⟩
  repeat first | exact Below.refl _ _ | refine Below.drew ?_ | (refine Below.setCell ?_ (by (try simp) <;> omega) _) | (refine Below.alloc ?_ (by (try simp) <;> omega) _)

theorem add_calls (a b : Nat) (ha : a < W256) (hb : b < W256) (w : World) :
    Calls Try.prog 29 #[numV a, numV b] w fun e w' => e = .returned (.tuple #[numV ((a + b) % W256), .int .u64 (((a + b) / W256 : Nat) : Int)]) ∧ Below w.heap.size w w' := by
  have a0 := dg_lt a 0; have a1 := dg_lt a 1; have a2 := dg_lt a 2; have a3 := dg_lt a 3
  have b0 := dg_lt b 0; have b1 := dg_lt b 1; have b2 := dg_lt b 2; have b3 := dg_lt b 3
  have c1 : (dg a 0 + dg b 0 + 0) / 18446744073709551616 ≤ 1 := by omega
  have c2 : (dg a 1 + dg b 1 + (dg a 0 + dg b 0 + 0) / 18446744073709551616) / 18446744073709551616 ≤ 1 := by omega
  have c3 : (dg a 2 + dg b 2 + (dg a 1 + dg b 1 + (dg a 0 + dg b 0 + 0) / 18446744073709551616) / 18446744073709551616) / 18446744073709551616 ≤ 1 := by omega
  have H := add_digits _ _ _ _ _ _ _ _ _ _ _ _ _ _ _ _ w (add64_run (dg a 0) (dg b 0) 0 (by omega)) (add64_run (dg a 1) (dg b 1) _ c1) (add64_run (dg a 2) (dg b 2) _ c2) (add64_run (dg a 3) (dg b 3) _ c3)
  have va := val_dg a ha
  have vb := val_dg b hb
  refine H.mono fun e w' ⟨he, hB⟩ => ⟨?_, hB⟩
  rw [he]
  unfold W256
  rw [numV_of (n := (a + b) % W256) (Nat.mod_lt _ (by decide)) (Nat.mod_lt _ (by decide)) (Nat.mod_lt _ (by decide)) (Nat.mod_lt _ (by decide)) (by unfold W256; omega)]
  unfold W256
  congr 6
  omega

set_option maxHeartbeats 1000000 in
theorem sub_digits (a0 a1 a2 a3 b0 b1 b2 b3 c1 c2 c3 c4 s0 s1 s2 s3 : Nat) (w : World)
    (h0 : ∀ w, (callFunc 71 #[.int .u64 (a0 : Int), .int .u64 (b0 : Int), .int .u64 0]).run Try.prog w = .ok (.value (.tuple #[.int .u64 (s0 : Int), .int .u64 (c1 : Int)])) w)
    (h1 : ∀ w, (callFunc 71 #[.int .u64 (a1 : Int), .int .u64 (b1 : Int), .int .u64 (c1 : Int)]).run Try.prog w = .ok (.value (.tuple #[.int .u64 (s1 : Int), .int .u64 (c2 : Int)])) w)
    (h2 : ∀ w, (callFunc 71 #[.int .u64 (a2 : Int), .int .u64 (b2 : Int), .int .u64 (c2 : Int)]).run Try.prog w = .ok (.value (.tuple #[.int .u64 (s2 : Int), .int .u64 (c3 : Int)])) w)
    (h3 : ∀ w, (callFunc 71 #[.int .u64 (a3 : Int), .int .u64 (b3 : Int), .int .u64 (c3 : Int)]).run Try.prog w = .ok (.value (.tuple #[.int .u64 (s3 : Int), .int .u64 (c4 : Int)])) w) :
    Calls Try.prog 30 #[.agg #[.int .u64 (a0 : Int), .int .u64 (a1 : Int), .int .u64 (a2 : Int), .int .u64 (a3 : Int)], .agg #[.int .u64 (b0 : Int), .int .u64 (b1 : Int), .int .u64 (b2 : Int), .int .u64 (b3 : Int)]] w
      fun e w' => e = .returned (.tuple #[.agg #[.int .u64 (s0 : Int), .int .u64 (s1 : Int), .int .u64 (s2 : Int), .int .u64 (s3 : Int)], .int .u64 (c4 : Int)]) ∧ Below w.heap.size w w' := by
  go_enter Try.func30, Try.ntmps30
  go_wp2
  refine wp_loop_rounds 5 ?_
  iterate 4
    rw [rounds_succ]
    go_wp2
    go_region
    go_wp2
  rw [rounds_succ]
  go_wp2
  refine bodyPost_ret (v := .tuple #[.agg #[.int .u64 (s0 : Int), .int .u64 (s1 : Int), .int .u64 (s2 : Int), .int .u64 (s3 : Int)], .int .u64 (c4 : Int)]) (by simp [results, Try.results30, go_sem]) rfl ⟨rfl, ?_⟩
  repeat first | exact Below.refl _ _ | refine Below.drew ?_ | (refine Below.setCell ?_ (by (try simp) <;> omega) _) | (refine Below.alloc ?_ (by (try simp) <;> omega) _)

theorem sub_calls (a b : Nat) (ha : a < W256) (hb : b < W256) (w : World) :
    Calls Try.prog 30 #[numV a, numV b] w fun e w' => e = .returned (.tuple #[numV ((a + W256 - b) % W256), .int .u64 ((if a < b then 1 else 0 : Nat) : Int)]) ∧ Below w.heap.size w w' := by
  have a0 := dg_lt a 0; have a1 := dg_lt a 1; have a2 := dg_lt a 2; have a3 := dg_lt a 3
  have b0 := dg_lt b 0; have b1 := dg_lt b 1; have b2 := dg_lt b 2; have b3 := dg_lt b 3
  have le1 : ∀ (p : Prop) [Decidable p], (if p then 1 else 0 : Nat) ≤ 1 := fun p _ => by split <;> omega
  have H := sub_digits _ _ _ _ _ _ _ _ _ _ _ _ _ _ _ _ w (sub64_run (dg a 0) (dg b 0) 0 (by omega)) (sub64_run (dg a 1) (dg b 1) _ (le1 _)) (sub64_run (dg a 2) (dg b 2) _ (le1 _)) (sub64_run (dg a 3) (dg b 3) _ (le1 _))
  have va := val_dg a ha
  have vb := val_dg b hb
  refine H.mono fun e w' ⟨he, hB⟩ => ⟨?_, hB⟩
  rw [he]
  clear H he hB le1
  generalize hc1 : (if dg a 0 < dg b 0 + 0 then 1 else 0 : Nat) = c1
  generalize hc2 : (if dg a 1 < dg b 1 + c1 then 1 else 0 : Nat) = c2
  generalize hc3 : (if dg a 2 < dg b 2 + c2 then 1 else 0 : Nat) = c3
  generalize hc4 : (if dg a 3 < dg b 3 + c3 then 1 else 0 : Nat) = c4
  have k1 : (dg a 0 + 18446744073709551616 - dg b 0 - 0) % 18446744073709551616 + dg b 0 = dg a 0 + 18446744073709551616 * c1 ∧ c1 ≤ 1 := by rw [← hc1]; clear va vb; split <;> omega
  have k2 : (dg a 1 + 18446744073709551616 - dg b 1 - c1) % 18446744073709551616 + dg b 1 + c1 = dg a 1 + 18446744073709551616 * c2 ∧ c2 ≤ 1 := by rw [← hc2]; clear va vb; split <;> omega
  have k3 : (dg a 2 + 18446744073709551616 - dg b 2 - c2) % 18446744073709551616 + dg b 2 + c2 = dg a 2 + 18446744073709551616 * c3 ∧ c3 ≤ 1 := by rw [← hc3]; clear va vb; split <;> omega
  have k4 : (dg a 3 + 18446744073709551616 - dg b 3 - c3) % 18446744073709551616 + dg b 3 + c3 = dg a 3 + 18446744073709551616 * c4 ∧ c4 ≤ 1 := by rw [← hc4]; clear va vb; split <;> omega
  clear hc1 hc2 hc3 hc4
  have l1 : (dg a 0 + 18446744073709551616 - dg b 0 - 0) % 18446744073709551616 < 18446744073709551616 := Nat.mod_lt _ (by decide)
  have l2 : (dg a 1 + 18446744073709551616 - dg b 1 - c1) % 18446744073709551616 < 18446744073709551616 := Nat.mod_lt _ (by decide)
  have l3 : (dg a 2 + 18446744073709551616 - dg b 2 - c2) % 18446744073709551616 < 18446744073709551616 := Nat.mod_lt _ (by decide)
  have l4 : (dg a 3 + 18446744073709551616 - dg b 3 - c3) % 18446744073709551616 < 18446744073709551616 := Nat.mod_lt _ (by decide)
  generalize (dg a 0 + 18446744073709551616 - dg b 0 - 0) % 18446744073709551616 = r0 at *
  generalize (dg a 1 + 18446744073709551616 - dg b 1 - c1) % 18446744073709551616 = r1 at *
  generalize (dg a 2 + 18446744073709551616 - dg b 2 - c2) % 18446744073709551616 = r2 at *
  generalize (dg a 3 + 18446744073709551616 - dg b 3 - c3) % 18446744073709551616 = r3 at *
  have e4 : (if a < b then 1 else 0 : Nat) = c4 ∧ (a + W256 - b) % W256 = r0 + 18446744073709551616 * r1 + 340282366920938463463374607431768211456 * r2 + 6277101735386680763835789423207666416102355444464034512896 * r3 := by
    unfold W256 at *
    rcases (by omega : c4 = 0 ∨ c4 = 1) with rfl | rfl
    · rw [if_neg (by omega)]; omega
    · rw [if_pos (by omega)]; omega
  rw [numV_of l1 l2 l3 l4 e4.2, e4.1]

set_option maxHeartbeats 1000000 in
theorem radd_digits (a0 a1 a2 a3 b0 b1 b2 b3 c1 c2 c3 c4 s0 s1 s2 s3 : Nat) (w : World)
    (h0 : ∀ w, (callFunc 70 #[.int .u64 (a0 : Int), .int .u64 (b0 : Int), .int .u64 0]).run Try.prog w = .ok (.value (.tuple #[.int .u64 (s0 : Int), .int .u64 (c1 : Int)])) w)
    (h1 : ∀ w, (callFunc 70 #[.int .u64 (a1 : Int), .int .u64 (b1 : Int), .int .u64 (c1 : Int)]).run Try.prog w = .ok (.value (.tuple #[.int .u64 (s1 : Int), .int .u64 (c2 : Int)])) w)
    (h2 : ∀ w, (callFunc 70 #[.int .u64 (a2 : Int), .int .u64 (b2 : Int), .int .u64 (c2 : Int)]).run Try.prog w = .ok (.value (.tuple #[.int .u64 (s2 : Int), .int .u64 (c3 : Int)])) w)
    (h3 : ∀ w, (callFunc 70 #[.int .u64 (a3 : Int), .int .u64 (b3 : Int), .int .u64 (c3 : Int)]).run Try.prog w = .ok (.value (.tuple #[.int .u64 (s3 : Int), .int .u64 (c4 : Int)])) w) :
    Calls Try.prog 32 #[.agg #[.int .u64 (a0 : Int), .int .u64 (a1 : Int), .int .u64 (a2 : Int), .int .u64 (a3 : Int)], .agg #[.int .u64 (b0 : Int), .int .u64 (b1 : Int), .int .u64 (b2 : Int), .int .u64 (b3 : Int)]] w
      fun e w' => e = .returned (.tuple #[.agg #[.int .u64 (s0 : Int), .int .u64 (s1 : Int), .int .u64 (s2 : Int), .int .u64 (s3 : Int)], .int .u64 (c4 : Int)]) ∧ Below w.heap.size w w' := by
  go_enter Try.func32, Try.ntmps32
  go_wp2
  refine wp_loop_rounds 5 ?_
  iterate 4
    rw [rounds_succ]
    go_wp2
    go_region
    go_wp2
  rw [rounds_succ]
  go_wp2
  refine bodyPost_ret (v := .tuple #[.agg #[.int .u64 (s0 : Int), .int .u64 (s1 : Int), .int .u64 (s2 : Int), .int .u64 (s3 : Int)], .int .u64 (c4 : Int)]) (by simp [results, Try.results32, go_sem]) rfl ⟨rfl, ?_⟩
  repeat first | exact Below.refl _ _ | refine Below.drew ?_ | (refine Below.setCell ?_ (by (try simp) <;> omega) _) | (refine Below.alloc ?_ (by (try simp) <;> omega) _)

theorem radd_calls (a b : Nat) (ha : a < W256) (hb : b < W256) (w : World) :
    Calls Try.prog 32 #[numV a, numV b] w fun e w' => e = .returned (.tuple #[numV ((a + b) % W256), .int .u64 (((a + b) / W256 : Nat) : Int)]) ∧ Below w.heap.size w w' := by
  have a0 := dg_lt a 0; have a1 := dg_lt a 1; have a2 := dg_lt a 2; have a3 := dg_lt a 3
  have b0 := dg_lt b 0; have b1 := dg_lt b 1; have b2 := dg_lt b 2; have b3 := dg_lt b 3
  have c1 : (dg a 0 + dg b 0 + 0) / 18446744073709551616 ≤ 1 := by omega
  have c2 : (dg a 1 + dg b 1 + (dg a 0 + dg b 0 + 0) / 18446744073709551616) / 18446744073709551616 ≤ 1 := by omega
  have c3 : (dg a 2 + dg b 2 + (dg a 1 + dg b 1 + (dg a 0 + dg b 0 + 0) / 18446744073709551616) / 18446744073709551616) / 18446744073709551616 ≤ 1 := by omega
  have H := radd_digits _ _ _ _ _ _ _ _ _ _ _ _ _ _ _ _ w (add64_run (dg a 0) (dg b 0) 0 (by omega)) (add64_run (dg a 1) (dg b 1) _ c1) (add64_run (dg a 2) (dg b 2) _ c2) (add64_run (dg a 3) (dg b 3) _ c3)
  have va := val_dg a ha
  have vb := val_dg b hb
  refine H.mono fun e w' ⟨he, hB⟩ => ⟨?_, hB⟩
  rw [he]
  unfold W256
  rw [numV_of (n := (a + b) % W256) (Nat.mod_lt _ (by decide)) (Nat.mod_lt _ (by decide)) (Nat.mod_lt _ (by decide)) (Nat.mod_lt _ (by decide)) (by unfold W256; omega)]
  unfold W256
  congr 6
  omega

set_option maxHeartbeats 1000000 in
theorem rsub_digits (a0 a1 a2 a3 b0 b1 b2 b3 c1 c2 c3 c4 s0 s1 s2 s3 : Nat) (w : World)
    (h0 : ∀ w, (callFunc 71 #[.int .u64 (a0 : Int), .int .u64 (b0 : Int), .int .u64 0]).run Try.prog w = .ok (.value (.tuple #[.int .u64 (s0 : Int), .int .u64 (c1 : Int)])) w)
    (h1 : ∀ w, (callFunc 71 #[.int .u64 (a1 : Int), .int .u64 (b1 : Int), .int .u64 (c1 : Int)]).run Try.prog w = .ok (.value (.tuple #[.int .u64 (s1 : Int), .int .u64 (c2 : Int)])) w)
    (h2 : ∀ w, (callFunc 71 #[.int .u64 (a2 : Int), .int .u64 (b2 : Int), .int .u64 (c2 : Int)]).run Try.prog w = .ok (.value (.tuple #[.int .u64 (s2 : Int), .int .u64 (c3 : Int)])) w)
    (h3 : ∀ w, (callFunc 71 #[.int .u64 (a3 : Int), .int .u64 (b3 : Int), .int .u64 (c3 : Int)]).run Try.prog w = .ok (.value (.tuple #[.int .u64 (s3 : Int), .int .u64 (c4 : Int)])) w) :
    Calls Try.prog 33 #[.agg #[.int .u64 (a0 : Int), .int .u64 (a1 : Int), .int .u64 (a2 : Int), .int .u64 (a3 : Int)], .agg #[.int .u64 (b0 : Int), .int .u64 (b1 : Int), .int .u64 (b2 : Int), .int .u64 (b3 : Int)]] w
      fun e w' => e = .returned (.tuple #[.agg #[.int .u64 (s0 : Int), .int .u64 (s1 : Int), .int .u64 (s2 : Int), .int .u64 (s3 : Int)], .int .u64 (c4 : Int)]) ∧ Below w.heap.size w w' := by
  go_enter Try.func33, Try.ntmps33
  go_wp2
  refine wp_loop_rounds 5 ?_
  iterate 4
    rw [rounds_succ]
    go_wp2
    go_region
    go_wp2
  rw [rounds_succ]
  go_wp2
  refine bodyPost_ret (v := .tuple #[.agg #[.int .u64 (s0 : Int), .int .u64 (s1 : Int), .int .u64 (s2 : Int), .int .u64 (s3 : Int)], .int .u64 (c4 : Int)]) (by simp [results, Try.results33, go_sem]) rfl ⟨rfl, ?_⟩
  repeat first | exact Below.refl _ _ | refine Below.drew ?_ | (refine Below.setCell ?_ (by (try simp) <;> omega) _) | (refine Below.alloc ?_ (by (try simp) <;> omega) _)

theorem rsub_calls (a b : Nat) (ha : a < W256) (hb : b < W256) (w : World) :
    Calls Try.prog 33 #[numV a, numV b] w fun e w' => e = .returned (.tuple #[numV ((a + W256 - b) % W256), .int .u64 ((if a < b then 1 else 0 : Nat) : Int)]) ∧ Below w.heap.size w w' := by
  have a0 := dg_lt a 0; have a1 := dg_lt a 1; have a2 := dg_lt a 2; have a3 := dg_lt a 3
  have b0 := dg_lt b 0; have b1 := dg_lt b 1; have b2 := dg_lt b 2; have b3 := dg_lt b 3
  have le1 : ∀ (p : Prop) [Decidable p], (if p then 1 else 0 : Nat) ≤ 1 := fun p _ => by split <;> omega
  have H := rsub_digits _ _ _ _ _ _ _ _ _ _ _ _ _ _ _ _ w (sub64_run (dg a 0) (dg b 0) 0 (by omega)) (sub64_run (dg a 1) (dg b 1) _ (le1 _)) (sub64_run (dg a 2) (dg b 2) _ (le1 _)) (sub64_run (dg a 3) (dg b 3) _ (le1 _))
  have va := val_dg a ha
  have vb := val_dg b hb
  refine H.mono fun e w' ⟨he, hB⟩ => ⟨?_, hB⟩
  rw [he]
  clear H he hB le1
  generalize hc1 : (if dg a 0 < dg b 0 + 0 then 1 else 0 : Nat) = c1
  generalize hc2 : (if dg a 1 < dg b 1 + c1 then 1 else 0 : Nat) = c2
  generalize hc3 : (if dg a 2 < dg b 2 + c2 then 1 else 0 : Nat) = c3
  generalize hc4 : (if dg a 3 < dg b 3 + c3 then 1 else 0 : Nat) = c4
  have k1 : (dg a 0 + 18446744073709551616 - dg b 0 - 0) % 18446744073709551616 + dg b 0 = dg a 0 + 18446744073709551616 * c1 ∧ c1 ≤ 1 := by rw [← hc1]; clear va vb; split <;> omega
  have k2 : (dg a 1 + 18446744073709551616 - dg b 1 - c1) % 18446744073709551616 + dg b 1 + c1 = dg a 1 + 18446744073709551616 * c2 ∧ c2 ≤ 1 := by rw [← hc2]; clear va vb; split <;> omega
  have k3 : (dg a 2 + 18446744073709551616 - dg b 2 - c2) % 18446744073709551616 + dg b 2 + c2 = dg a 2 + 18446744073709551616 * c3 ∧ c3 ≤ 1 := by rw [← hc3]; clear va vb; split <;> omega
  have k4 : (dg a 3 + 18446744073709551616 - dg b 3 - c3) % 18446744073709551616 + dg b 3 + c3 = dg a 3 + 18446744073709551616 * c4 ∧ c4 ≤ 1 := by rw [← hc4]; clear va vb; split <;> omega
  clear hc1 hc2 hc3 hc4
  have l1 : (dg a 0 + 18446744073709551616 - dg b 0 - 0) % 18446744073709551616 < 18446744073709551616 := Nat.mod_lt _ (by decide)
  have l2 : (dg a 1 + 18446744073709551616 - dg b 1 - c1) % 18446744073709551616 < 18446744073709551616 := Nat.mod_lt _ (by decide)
  have l3 : (dg a 2 + 18446744073709551616 - dg b 2 - c2) % 18446744073709551616 < 18446744073709551616 := Nat.mod_lt _ (by decide)
  have l4 : (dg a 3 + 18446744073709551616 - dg b 3 - c3) % 18446744073709551616 < 18446744073709551616 := Nat.mod_lt _ (by decide)
  generalize (dg a 0 + 18446744073709551616 - dg b 0 - 0) % 18446744073709551616 = r0 at *
  generalize (dg a 1 + 18446744073709551616 - dg b 1 - c1) % 18446744073709551616 = r1 at *
  generalize (dg a 2 + 18446744073709551616 - dg b 2 - c2) % 18446744073709551616 = r2 at *
  generalize (dg a 3 + 18446744073709551616 - dg b 3 - c3) % 18446744073709551616 = r3 at *
  have e4 : (if a < b then 1 else 0 : Nat) = c4 ∧ (a + W256 - b) % W256 = r0 + 18446744073709551616 * r1 + 340282366920938463463374607431768211456 * r2 + 6277101735386680763835789423207666416102355444464034512896 * r3 := by
    unfold W256 at *
    rcases (by omega : c4 = 0 ∨ c4 = 1) with rfl | rfl
    · rw [if_neg (by omega)]; omega
    · rw [if_pos (by omega)]; omega
  rw [numV_of l1 l2 l3 l4 e4.2, e4.1]

end Go.Proofs.Ytmecomgifmkkfaa
