/- Bits and lengths of numbers: plain facts (no program in sight). -/
import Derived.Test.YtmecomgifmkkfaaNum
import Derived.Lib.BitFns
namespace Go.Proofs.Ytmecomgifmkkfaa
set_option linter.unusedVariables false
set_option linter.unusedSimpArgs false

/-- A bit of a number, as the program tells it: 0 outside. -/
def bitI (a : Nat) (i : Int) : Int := if i < 0 then 0 else ((a / 2 ^ i.toNat % 2 : Nat) : Int)
/-- How many bits a number has. -/
def lenN (a : Nat) : Nat := if a = 0 then 0 else a.log2 + 1

theorem lenN_of {a k : Nat} (h1 : 2 ^ k ≤ a) (h2 : a < 2 ^ (k + 1)) : lenN a = k + 1 := by
  have h0 : a ≠ 0 := by have := Nat.two_pow_pos k; omega
  unfold lenN
  rw [if_neg h0, (Nat.log2_eq_iff h0).2 ⟨h1, h2⟩]

theorem lenN_lt (a : Nat) : a < 2 ^ lenN a := by
  unfold lenN
  split
  · subst_vars; decide
  · exact Nat.lt_log2_self

theorem lenN_le {a k : Nat} (h : a < 2 ^ k) : lenN a ≤ k := by
  unfold lenN
  split
  · omega
  · rename_i h0; have := (Nat.log2_lt h0).2 h; omega

theorem lenN_ge {a : Nat} (h : a ≠ 0) : 2 ^ (lenN a - 1) ≤ a := by
  unfold lenN
  rw [if_neg h]
  exact Nat.log2_self_le h

theorem bitLen_eq (x : Nat) (h : x < 18446744073709551616) : Lib.bitLen x = lenN x := by
  by_cases h0 : x = 0
  · subst h0; decide
  · have h1 := Nat.log2_self_le h0
    have h2 : x < 2 ^ (x.log2 + 1) := Nat.lt_log2_self
    have h3 : x / 2 ^ x.log2 = 1 := by
      refine Nat.div_eq_of_lt_le ?_ ?_
      · omega
      · rw [Nat.pow_succ] at h2; omega
    rw [Lib.bitLen_shift x.log2 x h1 h, h3]
    unfold lenN
    rw [if_neg h0]
    have : Lib.bitLen 1 = 1 := by decide
    omega

theorem W256_pow : W256 = 2 ^ 256 := by decide

theorem bit_dg (a q r : Nat) (hr : r < 64) : dg a q / 2 ^ r % 2 = a / 2 ^ (64 * q + r) % 2 := by
  have hb : B64 = 2 ^ 64 := by decide
  unfold dg
  rw [hb, ← Nat.pow_mul]
  have h1 : (a / 2 ^ (64 * q) % 2 ^ 64).testBit r = decide (a / 2 ^ (64 * q) % 2 ^ 64 / 2 ^ r % 2 = 1) := Nat.testBit_eq_decide_div_mod_eq
  have h2 : a.testBit (64 * q + r) = decide (a / 2 ^ (64 * q + r) % 2 = 1) := Nat.testBit_eq_decide_div_mod_eq
  have h3 : (a / 2 ^ (64 * q) % 2 ^ 64).testBit r = a.testBit (64 * q + r) := by
    rw [Nat.testBit_mod_two_pow, Nat.testBit_div_two_pow]
    simp [hr, Nat.add_comm]
  rw [h1, h2] at h3
  have h4 := decide_eq_decide.1 h3
  have h5 := Nat.mod_two_eq_zero_or_one (a / 2 ^ (64 * q) % 2 ^ 64 / 2 ^ r)
  have h6 := Nat.mod_two_eq_zero_or_one (a / 2 ^ (64 * q + r))
  omega

theorem bitI_of {a : Nat} {i : Int} (q : Nat) (h0 : 0 ≤ i) (hq : i / 64 = q) : ((dg a q / 2 ^ (i % 64).toNat % 2 : Nat) : Int) = bitI a i := by
  unfold bitI
  rw [if_neg (by omega), bit_dg a q _ (by omega), show 64 * q + (i % 64).toNat = i.toNat by omega]

theorem bitI_out {a : Nat} {i : Int} (ha : a < W256) (h : i < 0 ∨ 256 ≤ i) : bitI a i = 0 := by
  unfold bitI
  split
  · rfl
  · have h1 : 2 ^ 256 ≤ 2 ^ i.toNat := Nat.pow_le_pow_right (by omega) (by omega)
    rw [Nat.div_eq_of_lt (by rw [W256_pow] at ha; omega)]
    rfl

theorem bitI_01 (a : Nat) (i : Int) : bitI a i = 0 ∨ bitI a i = 1 := by
  unfold bitI
  split
  · omega
  · omega

/-- The highest digit that is not 0 tells the length. -/
theorem lenN_dg3 {a : Nat} (ha : a < W256) (h : dg a 3 ≠ 0) : (192 + (lenN (dg a 3) : Int)) = lenN a := by
  have v := val_dg a ha
  have b0 := dg_lt a 0; have b1 := dg_lt a 1; have b2 := dg_lt a 2
  have h1 := lenN_ge h
  have h2 := lenN_lt (dg a 3)
  have h3 : lenN (dg a 3) ≠ 0 := by unfold lenN; rw [if_neg h]; omega
  obtain ⟨k, hk⟩ : ∃ k, lenN (dg a 3) = k + 1 := ⟨lenN (dg a 3) - 1, by omega⟩
  rw [hk] at h1 h2 ⊢
  simp only [Nat.add_sub_cancel] at h1
  have e : lenN a = (192 + k) + 1 := by
    have p1 : 2 ^ (192 + k) = 6277101735386680763835789423207666416102355444464034512896 * 2 ^ k := by rw [Nat.pow_add]
    have p2 : 2 ^ (192 + k + 1) = 6277101735386680763835789423207666416102355444464034512896 * 2 ^ (k + 1) := by rw [Nat.add_assoc, Nat.pow_add]
    refine lenN_of ?_ ?_
    · rw [p1]; omega
    · rw [p2]; omega
  omega
theorem lenN_dg2 {a : Nat} (ha : a < W256) (h3 : dg a 3 = 0) (h : dg a 2 ≠ 0) : (128 + (lenN (dg a 2) : Int)) = lenN a := by
  have v := val_dg a ha
  have b0 := dg_lt a 0; have b1 := dg_lt a 1
  have h1 := lenN_ge h
  have h2 := lenN_lt (dg a 2)
  have h4 : lenN (dg a 2) ≠ 0 := by unfold lenN; rw [if_neg h]; omega
  obtain ⟨k, hk⟩ : ∃ k, lenN (dg a 2) = k + 1 := ⟨lenN (dg a 2) - 1, by omega⟩
  rw [hk] at h1 h2 ⊢
  simp only [Nat.add_sub_cancel] at h1
  have e : lenN a = (128 + k) + 1 := by
    have p1 : 2 ^ (128 + k) = 340282366920938463463374607431768211456 * 2 ^ k := by rw [Nat.pow_add]
    have p2 : 2 ^ (128 + k + 1) = 340282366920938463463374607431768211456 * 2 ^ (k + 1) := by rw [Nat.add_assoc, Nat.pow_add]
    refine lenN_of ?_ ?_
    · rw [p1]; omega
    · rw [p2]; omega
  omega
theorem lenN_dg1 {a : Nat} (ha : a < W256) (h3 : dg a 3 = 0) (h2' : dg a 2 = 0) (h : dg a 1 ≠ 0) : (64 + (lenN (dg a 1) : Int)) = lenN a := by
  have v := val_dg a ha
  have b0 := dg_lt a 0
  have h1 := lenN_ge h
  have h2 := lenN_lt (dg a 1)
  have h4 : lenN (dg a 1) ≠ 0 := by unfold lenN; rw [if_neg h]; omega
  obtain ⟨k, hk⟩ : ∃ k, lenN (dg a 1) = k + 1 := ⟨lenN (dg a 1) - 1, by omega⟩
  rw [hk] at h1 h2 ⊢
  simp only [Nat.add_sub_cancel] at h1
  have e : lenN a = (64 + k) + 1 := by
    have p1 : 2 ^ (64 + k) = 18446744073709551616 * 2 ^ k := by rw [Nat.pow_add]
    have p2 : 2 ^ (64 + k + 1) = 18446744073709551616 * 2 ^ (k + 1) := by rw [Nat.add_assoc, Nat.pow_add]
    refine lenN_of ?_ ?_
    · rw [p1]; omega
    · rw [p2]; omega
  omega
theorem lenN_dg0 {a : Nat} (ha : a < W256) (h3 : dg a 3 = 0) (h2 : dg a 2 = 0) (h1 : dg a 1 = 0) : (lenN (dg a 0) : Int) = lenN a := by
  have v := val_dg a ha
  have : dg a 0 = a := by omega
  rw [this]
theorem lenN_256 {a : Nat} (ha : a < W256) : lenN a ≤ 256 := lenN_le (by rw [← W256_pow]; exact ha)

end Go.Proofs.Ytmecomgifmkkfaa
