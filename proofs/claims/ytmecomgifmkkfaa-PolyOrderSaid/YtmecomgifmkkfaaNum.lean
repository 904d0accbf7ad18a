/- Numbers of 256 bits as the program's values: the words, and plain facts about their digits (no program in sight). -/
import Derived.WalkKit
namespace Go.Proofs.Ytmecomgifmkkfaa
set_option linter.unusedVariables false
set_option linter.unusedSimpArgs false
open Go.RowKit

/-- 2^64, 2^256. -/
def B64 : Nat := 18446744073709551616
def W256 : Nat := 115792089237316195423570985008687907853269984665640564039457584007913129639936

/-- The i-th digit of a number. -/
def dg (n i : Nat) : Nat := n / B64 ^ i % B64

/-- A number as the program's value of type api.Num (its lower 256 bits). -/
def numV (n : Nat) : Value := .agg #[.int .u64 (dg n 0 : Nat), .int .u64 (dg n 1 : Nat), .int .u64 (dg n 2 : Nat), .int .u64 (dg n 3 : Nat)]

theorem numV_eq : ∀ n : Nat, numV n = .agg #[.int .u64 (dg n 0 : Nat), .int .u64 (dg n 1 : Nat), .int .u64 (dg n 2 : Nat), .int .u64 (dg n 3 : Nat)] := fun _ => rfl
theorem dg_lt (n i : Nat) : dg n i < 18446744073709551616 := Nat.mod_lt _ (by decide)
theorem dg0 (n : Nat) : dg n 0 = n % 18446744073709551616 := by unfold dg B64; omega
theorem dg1 (n : Nat) : dg n 1 = n / 18446744073709551616 % 18446744073709551616 := by unfold dg B64; rfl
theorem dg2 (n : Nat) : dg n 2 = n / 340282366920938463463374607431768211456 % 18446744073709551616 := by unfold dg B64; rfl
theorem dg3 (n : Nat) : dg n 3 = n / 6277101735386680763835789423207666416102355444464034512896 % 18446744073709551616 := by unfold dg B64; rfl

theorem val_dg (n : Nat) (h : n < W256) : dg n 0 + 18446744073709551616 * dg n 1 + 340282366920938463463374607431768211456 * dg n 2 + 6277101735386680763835789423207666416102355444464034512896 * dg n 3 = n := by
  rw [dg0, dg1, dg2, dg3]; unfold W256 at h; omega

theorem dg_val {a b c d : Nat} (ha : a < 18446744073709551616) (hb : b < 18446744073709551616) (hc : c < 18446744073709551616) (hd : d < 18446744073709551616) :
    dg (a + 18446744073709551616 * b + 340282366920938463463374607431768211456 * c + 6277101735386680763835789423207666416102355444464034512896 * d) 0 = a ∧
    dg (a + 18446744073709551616 * b + 340282366920938463463374607431768211456 * c + 6277101735386680763835789423207666416102355444464034512896 * d) 1 = b ∧
    dg (a + 18446744073709551616 * b + 340282366920938463463374607431768211456 * c + 6277101735386680763835789423207666416102355444464034512896 * d) 2 = c ∧
    dg (a + 18446744073709551616 * b + 340282366920938463463374607431768211456 * c + 6277101735386680763835789423207666416102355444464034512896 * d) 3 = d := by
  rw [dg0, dg1, dg2, dg3]; omega

/-- Four digits are a number. -/
theorem numV_of {a b c d n : Nat} (ha : a < 18446744073709551616) (hb : b < 18446744073709551616) (hc : c < 18446744073709551616) (hd : d < 18446744073709551616)
    (h : n = a + 18446744073709551616 * b + 340282366920938463463374607431768211456 * c + 6277101735386680763835789423207666416102355444464034512896 * d) :
    Value.agg #[.int .u64 (a : Int), .int .u64 (b : Int), .int .u64 (c : Int), .int .u64 (d : Int)] = numV n := by
  obtain ⟨h0, h1, h2, h3⟩ := dg_val ha hb hc hd
  subst h
  unfold numV
  rw [h0, h1, h2, h3]

theorem numV_inj {a b : Nat} (ha : a < W256) (hb : b < W256) (h : numV a = numV b) : a = b := by
  unfold numV at h
  simp only [Value.agg.injEq, Array.mk.injEq, List.cons.injEq, Value.int.injEq, true_and, and_true] at h
  have h1 := val_dg a ha
  have h2 := val_dg b hb
  obtain ⟨e0, e1, e2, e3⟩ := h
  rw [← h1, ← h2]
  omega

/-- Whether two values of type api.Num are the same. -/
theorem dg_eq_iff {a b : Nat} (ha : a < W256) (hb : b < W256) : (dg a 0 = dg b 0 ∧ dg a 1 = dg b 1 ∧ dg a 2 = dg b 2 ∧ dg a 3 = dg b 3) ↔ a = b := by
  constructor
  · rintro ⟨h0, h1, h2, h3⟩
    rw [← val_dg a ha, ← val_dg b hb, h0, h1, h2, h3]
  · rintro rfl; exact ⟨rfl, rfl, rfl, rfl⟩

theorem ret_int {k : IntKind} {a b : Int} (h : a = b) : Ending.returned (.int k a) = .returned (.int k b) := by rw [h]
theorem ret_bool {a b : Bool} (h : a = b) : Ending.returned (.bool a) = .returned (.bool b) := by rw [h]
theorem W256_pos : 0 < W256 := by decide

end Go.Proofs.Ytmecomgifmkkfaa
