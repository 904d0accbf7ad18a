/- '==' between two values of type api.Num, as the walk meets it. -/
import Derived.Test.YtmecomgifmkkfaaProg
import Derived.Test.YtmecomgifmkkfaaNum
import Derived.WalkSpells
import Derived.WalkLawsBesides
import Derived.StillTailTactics
namespace Go.Proofs.Ytmecomgifmkkfaa
set_option linter.unusedVariables false
set_option linter.unusedSimpArgs false
open Go.RowKit

/-- A region that reads, and whose last operations (behind the n-th) stand in one forced order. -/
theorem still_tail {P : Program} {id : Nat} {Q : Exit → Act → World → Prop} {a : Act} {w : World} {l : List Oper} (n : Nat) (hm : P.follows .mixedOrders = true) (hB : Region.lexTailB .any l.toArray n = true)
    (h : wpStill P l.toArray w.drew (fun a' => wpList P l.toArray Q (l.drop n) a' w.drew) (l.take n) a) : (Code.region id l.toArray true).wp P Q a w :=
  wp_region_still_tail n hm hB h

theorem eq_digits (a0 a1 a2 a3 b0 b1 b2 b3 : Int) (w : World) :
    (Op.equalIn 10000 24 (.agg #[.int .u64 a0, .int .u64 a1, .int .u64 a2, .int .u64 a3]) (.agg #[.int .u64 b0, .int .u64 b1, .int .u64 b2, .int .u64 b3])).run Try.prog w = .ok (a0 == b0 && (a1 == b1 && (a2 == b2 && a3 == b3))) w := by
  have hu : Try.prog.underlying 24 = some (.array 4 22) := by kernel_rfl
  have he : ∀ (x y : Int) (w : World), (Op.equalIn 9999 22 (.int .u64 x) (.int .u64 y)).run Try.prog w = .ok (x == y) w := fun x y w => by
    exact run_equalIn_int w 9998 22 .u64 .u64 x y Try.underlying22
  have hs : ∀ w : World, (sizeOf 22).run Try.prog w = .ok 1 w := fun w => by kernel_rfl
  have hp : ∀ (x0 x1 x2 x3 : Int) (w : World), (part 22 #[.int .u64 x0, .int .u64 x1, .int .u64 x2, .int .u64 x3] 0).run Try.prog w = .ok (.int .u64 x0) w ∧
      (part 22 #[.int .u64 x0, .int .u64 x1, .int .u64 x2, .int .u64 x3] 1).run Try.prog w = .ok (.int .u64 x1) w ∧
      (part 22 #[.int .u64 x0, .int .u64 x1, .int .u64 x2, .int .u64 x3] 2).run Try.prog w = .ok (.int .u64 x2) w ∧
      (part 22 #[.int .u64 x0, .int .u64 x1, .int .u64 x2, .int .u64 x3] 3).run Try.prog w = .ok (.int .u64 x3) w := fun x0 x1 x2 x3 w => by
    refine ⟨?_, ?_, ?_, ?_⟩ <;> simp [go_sem]
  rw [show (10000 : Nat) = 9999 + 1 from rfl, Op.equalIn]
  generalize hd : (9999 : Nat) = d at *
  simp only [Sem.run_bind, run_underlying hu, Result.andThen_ok, hs, Std.Legacy.Range.forIn_eq_forIn_range', Std.Legacy.Range.size]
  simp [List.range', hp, he]
  by_cases h0 : a0 = b0 <;> by_cases h1 : a1 = b1 <;> by_cases h2 : a2 = b2 <;> by_cases h3 : a3 = b3 <;> simp [h0, h1, h2, h3]

/-- Two numbers. -/
theorem eq_num {a b : Nat} (ha : a < W256) (hb : b < W256) (w : World) :
    (Op.equalIn 10000 24 (.agg #[.int .u64 (dg a 0 : Nat), .int .u64 (dg a 1 : Nat), .int .u64 (dg a 2 : Nat), .int .u64 (dg a 3 : Nat)]) (.agg #[.int .u64 (dg b 0 : Nat), .int .u64 (dg b 1 : Nat), .int .u64 (dg b 2 : Nat), .int .u64 (dg b 3 : Nat)])).run Try.prog w = .ok (decide (a = b)) w := by
  rw [eq_digits]
  congr 1
  rw [Bool.eq_iff_iff]
  simp only [Bool.and_eq_true, beq_iff_eq, Int.natCast_inj, decide_eq_true_eq]
  exact dg_eq_iff ha hb

/-- A number and the number 0. -/
theorem eq_num_zero {a : Nat} (ha : a < W256) (w : World) :
    (Op.equalIn 10000 24 (.agg #[.int .u64 (dg a 0 : Nat), .int .u64 (dg a 1 : Nat), .int .u64 (dg a 2 : Nat), .int .u64 (dg a 3 : Nat)]) (.agg #[.int .u64 0, .int .u64 0, .int .u64 0, .int .u64 0])).run Try.prog w = .ok (decide (a = 0)) w :=
  eq_num ha (b := 0) (by decide) w

theorem eqGuard_num : Try.prog.eqGuardType Try.prog.depth 24 = false := by kernel_rfl
end Go.Proofs.Ytmecomgifmkkfaa
