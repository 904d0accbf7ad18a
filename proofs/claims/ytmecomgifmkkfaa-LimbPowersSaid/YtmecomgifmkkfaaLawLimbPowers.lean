/- LimbPowers: a product with a power of two is a number whose bits stand that much higher; what is left, divided by one, are the lower bits; for every input, no condition. -/
import Derived.Test.YtmecomgifmkkfaaProg
import Derived.Test.YtmecomgifmkkfaaNum
import Derived.Test.YtmecomgifmkkfaaBits
import Derived.Test.YtmecomgifmkkfaaBytes
import Derived.Test.YtmecomgifmkkfaaMem
import Derived.Test.YtmecomgifmkkfaaOrd
import Derived.Test.YtmecomgifmkkfaaEqs
import Derived.Test.YtmecomgifmkkfaaLimbA
import Derived.Test.YtmecomgifmkkfaaLimbB
import Derived.Test.YtmecomgifmkkfaaLimbC
import Derived.Test.YtmecomgifmkkfaaLimbF
import Derived.Test.YtmecomgifmkkfaaLimbG
import Derived.Test.YtmecomgifmkkfaaLimbM
import Derived.Test.YtmecomgifmkkfaaLimbN
import Derived.Test.YtmecomgifmkkfaaLimbW
import Derived.Test.YtmecomgifmkkfaaRows
import Derived.Test.YtmecomgifmkkfaaOpen
import Derived.Test.YtmecomgifmkkfaaAux
import Derived.WalkSpells
import Derived.WalkLawsBesides
import Derived.Handy
import Derived.Lib.Hide
import Derived.RegionTactic
import Derived.BigQuiet
import Derived.Deep.Cut
import Derived.ProofKit
import Derived.OpenShut
namespace Go.Proofs.Ytmecomgifmkkfaa
set_option linter.unusedVariables false
set_option linter.unusedSimpArgs false
open Go.ChangeShapes Go.WideShapes Go.ChangeAt Go.RowKit

theorem pow_cells {q r m : Nat} (hq : q < 4) (hr : r < 64) (hm : m = 64 * q + r) :
    ([Value.int .u64 0, Value.int .u64 0, Value.int .u64 0, Value.int .u64 0].set q (Value.int .u64 (IntKind.u64.wrap (2 ^ r)))).toArray = numC (2 ^ m) := by
  have h1 : 2 ^ r < 18446744073709551616 := Nat.lt_of_lt_of_le (Nat.pow_lt_pow_right (by decide) hr) (by decide)
  have h2 : IntKind.u64.wrap ((2 : Int) ^ r) = ((2 ^ r : Nat) : Int) := by
    rw [IntKind.wrap_u64, show (2 : Int) ^ r = ((2 ^ r : Nat) : Int) by simp]
    generalize 2 ^ r = y at *
    omega
  have z : (0 : Nat) < 18446744073709551616 := by decide
  rw [h2]
  subst hm
  unfold numC
  rcases (by omega : q = 0 ∨ q = 1 ∨ q = 2 ∨ q = 3) with rfl | rfl | rfl | rfl
  · have h := dg_val h1 z z z
    rw [show 2 ^ (64 * 0 + r) = 2 ^ r + 18446744073709551616 * 0 + 340282366920938463463374607431768211456 * 0 + 6277101735386680763835789423207666416102355444464034512896 * 0 by rw [Nat.mul_zero, Nat.zero_add]; omega, h.1, h.2.1, h.2.2.1, h.2.2.2]
    rfl
  · have h := dg_val z h1 z z
    rw [show 2 ^ (64 * 1 + r) = 0 + 18446744073709551616 * 2 ^ r + 340282366920938463463374607431768211456 * 0 + 6277101735386680763835789423207666416102355444464034512896 * 0 by rw [Nat.pow_add]; omega, h.1, h.2.1, h.2.2.1, h.2.2.2]
    rfl
  · have h := dg_val z z h1 z
    rw [show 2 ^ (64 * 2 + r) = 0 + 18446744073709551616 * 0 + 340282366920938463463374607431768211456 * 2 ^ r + 6277101735386680763835789423207666416102355444464034512896 * 0 by rw [Nat.pow_add]; omega, h.1, h.2.1, h.2.2.1, h.2.2.2]
    rfl
  · have h := dg_val z z z h1
    rw [show 2 ^ (64 * 3 + r) = 0 + 18446744073709551616 * 0 + 340282366920938463463374607431768211456 * 0 + 6277101735386680763835789423207666416102355444464034512896 * 2 ^ r by rw [Nat.pow_add]; omega, h.1, h.2.1, h.2.2.1, h.2.2.2]
    rfl
theorem bitI_nat (a i : Nat) : bitI a i = ((a / 2 ^ i % 2 : Nat) : Int) := by
  unfold bitI
  rw [if_neg (by omega), Int.toNat_natCast]
theorem bitI_neg (a : Nat) {i : Int} (h : i < 0) : bitI a i = 0 := by
  unfold bitI
  rw [if_pos h]
theorem bit_mod (x n i : Nat) : bitI (x % 2 ^ n) i = if i < n then bitI x i else 0 := by
  rw [bitI_nat, bitI_nat]
  have h := Nat.testBit_mod_two_pow x n i
  rw [Nat.testBit_eq_decide_div_mod_eq, Nat.testBit_eq_decide_div_mod_eq] at h
  have h1 : x % 2 ^ n / 2 ^ i % 2 < 2 := Nat.mod_lt _ (by decide)
  have h2 : x / 2 ^ i % 2 < 2 := Nat.mod_lt _ (by decide)
  generalize x % 2 ^ n / 2 ^ i % 2 = s at *
  generalize x / 2 ^ i % 2 = t at *
  by_cases hi : i < n
  · simp only [hi, decide_true, Bool.true_and, decide_eq_decide] at h
    rw [if_pos hi]
    omega
  · simp only [hi, decide_false, Bool.false_and, decide_eq_false_iff_not] at h
    rw [if_neg hi]
    omega
theorem bit_shift (a k i : Nat) : bitI (a * 2 ^ k) i = bitI a ((i : Int) - k) := by
  rw [bitI_nat]
  by_cases h : i < k
  · rw [bitI_neg a (by omega)]
    obtain ⟨d, rfl⟩ : ∃ d, k = i + d + 1 := ⟨k - i - 1, by omega⟩
    rw [Nat.pow_succ, Nat.pow_add, Nat.mul_comm a, Nat.mul_assoc, Nat.mul_assoc, Nat.mul_div_cancel_left _ (Nat.two_pow_pos i)]
    have : 2 ^ d * (2 * a) % 2 = 0 := by rw [Nat.mul_left_comm]; exact Nat.mul_mod_right _ _
    rw [this]; rfl
  · obtain ⟨d, rfl⟩ : ∃ d, i = k + d := ⟨i - k, by omega⟩
    rw [show ((k + d : Nat) : Int) - k = (d : Nat) by omega, bitI_nat, Nat.pow_add, Nat.mul_comm a, Nat.mul_div_mul_left _ _ (Nat.two_pow_pos k)]
theorem bit_low {a k i : Nat} (h : i < 256) : bitI (a * 2 ^ k % W256) i = bitI a ((i : Int) - k) := by
  rw [W256_pow, bit_mod, if_pos h, bit_shift]
theorem bit_high {a k i : Nat} (h : 256 ≤ i) : bitI (a * 2 ^ k / W256) ((i : Int) - 256) = bitI a ((i : Int) - k) := by
  rw [show (i : Int) - 256 = ((i - 256 : Nat) : Int) by omega, bitI_nat, W256_pow, Nat.div_div_eq_div_mul, ← Nat.pow_add, show 256 + (i - 256) = i by omega, ← bit_shift, bitI_nat]

set_option maxHeartbeats 1000000 in
set_option maxRecDepth 100000 in
theorem limbPowers_walk (a : Nat) (k : Int) (w_a : a < W256) (w_k : -9223372036854775808 ≤ k ∧ k ≤ 9223372036854775807) (w : World) :
    Calls Try.prog 8 #[numV a, .int .i64 k] w fun e w' => e = .returned (.bool true) ∧ Below w.heap.size w w' := by
  have BA := Lib.hid w_a
  clear w_a
  rw [numV_eq a]
  go_enter Try.func8, Try.ntmps8
  go_upto_region 2 with (fail)
  obtain ⟨m, hm, hm2⟩ : ∃ m : Nat, wrap64 ((IntKind.u64.wrap k).tmod 256) = (m : Int) ∧ m < 256 := by
    refine ⟨(k % 18446744073709551616 % 256).toNat, ?_, by omega⟩
    rw [IntKind.wrap_u64, Int.tmod_eq_emod_of_nonneg (by omega)]
    unfold wrap64
    omega
  rw [hm]
  generalize (IntKind.u64.wrap k).tmod 256 = k2
  generalize IntKind.u64.wrap k = k1
  clear hm w_k
  obtain ⟨q, r, hq4, hr64, hqe, hre, hmqr⟩ : ∃ q r : Nat, q < 4 ∧ r < 64 ∧ (m : Int) / 64 = q ∧ (m : Int) % 64 = r ∧ m = 64 * q + r := ⟨m / 64, m % 64, by omega, by omega, by omega, by omega, by omega⟩
  have HM := Lib.hid hmqr
  clear hmqr
  go_upto_region 4 with (fail)
  rw [pow_cells hq4 hr64 HM.out]
  generalize IntKind.u64.wrap (2 ^ r) = k3
  clear hqe hre HM
  obtain ⟨p, hp⟩ : ∃ p, p = 2 ^ m := ⟨_, rfl⟩
  rw [← hp]
  have EP := Lib.hid hp
  clear hp
  have BP : Hid (p < W256) := by show _ < _; rw [EP.out, W256_pow]; exact Nat.pow_lt_pow_right (by decide) hm2
  have HP0 : Hid (p ≠ 0) := by show _ ≠ _; rw [EP.out]; exact Nat.ne_of_gt (Nat.two_pow_pos m)
  have HL : Hid (((lenN p : Nat) : Int) = (m : Int) + 1) := by show _ = _; rw [EP.out, lenN_of (Nat.le_refl _) (Nat.pow_lt_pow_right (by decide) (Nat.lt_succ_self m))]; rfl
  refine abs_world (fun w' => Below w.heap.size w w' ∧ NumAt w' w.heap.size a ∧ NumAt w' (w.heap.size + 1) p) ⟨((Below.refl _ _).alloc (by (try simp) <;> omega) _).alloc (by (try simp) <;> omega) _, (NumAt.newAt _ (w.heap.size) a (by first | rfl | simp)).alloc _, NumAt.newAt _ (w.heap.size + 1) p (by first | rfl | simp)⟩ ?_
  intro w0 ⟨hWw0, N_a, N_p⟩
  have F_a := N_a.facts; have L_a := N_a.lt
  have F_p := N_p.facts; have L_p := N_p.lt
  have L1_p : w.heap.size < w0.heap.size := by omega
  go_wp2_with fail
  refine (mul_calls a p BA.out BP.out _).mono ?_
  rintro e w1 ⟨rfl, hB1⟩
  obtain ⟨lo, h_lo⟩ : ∃ v, v = a * p % W256 := ⟨_, rfl⟩
  rw [← h_lo, numV_eq lo]
  have E_lo := Lib.hid h_lo; clear h_lo
  have B_lo : Hid (lo < W256) := by show _ < _; rw [E_lo.out]; exact Nat.mod_lt _ W256_pos
  obtain ⟨hi, h_hi⟩ : ∃ v, v = a * p / W256 := ⟨_, rfl⟩
  rw [← h_hi, numV_eq hi]
  have E_hi := Lib.hid h_hi; clear h_hi
  have B_hi : Hid (hi < W256) := by show _ < _; rw [E_hi.out]; exact mul_hi BA.out BP.out
  clear F_a L_a F_p L_p L1_p
  have zw1 := hWw0.size
  have M_a := N_a.kept hB1
  have M_p := N_p.kept hB1
  have hWw1 : Below w.heap.size w w1 := hWw0.trans (hB1.mono (by (try simp) <;> omega))
  clear N_a N_p hWw0 zw1 hB1
  have N_a := M_a
  have N_p := M_p
  clear M_a M_p
  have F_a := N_a.facts; have L_a := N_a.lt
  have F_p := N_p.facts; have L_p := N_p.lt
  have L1_p : w.heap.size < w1.heap.size := by omega
  go_wp2_with fail
  refine (mod_calls 0 a p W256_pos BA.out BP.out HP0.out _).mono ?_
  rintro e w2 ⟨rfl, hB2⟩
  obtain ⟨x, h_x⟩ : ∃ v, v = (0 * W256 + a) % p := ⟨_, rfl⟩
  rw [← h_x, numV_eq x]
  have E_x := Lib.hid h_x; clear h_x
  have B_x : Hid (x < W256) := by show _ < _; rw [E_x.out]; exact Nat.lt_trans (Nat.mod_lt _ (Nat.pos_of_ne_zero HP0.out)) BP.out
  clear F_a L_a F_p L_p L1_p
  have zw2 := hWw1.size
  have M_a := ((N_a.alloc _).alloc _).kept hB2
  have M_p := ((N_p.alloc _).alloc _).kept hB2
  have M_lo := ((NumAt.newAt _ (w1.heap.size) lo (by first | rfl | simp)).alloc _).kept hB2
  have M_hi := (NumAt.newAt _ (w1.heap.size + 1) hi (by first | rfl | simp)).kept hB2
  have hWw2 : Below w.heap.size w w2 := ((hWw1.alloc (by (try simp) <;> omega) _).alloc (by (try simp) <;> omega) _).trans (hB2.mono (by (try simp) <;> omega))
  clear N_a N_p hWw1 zw2 hB2
  have N_a := M_a
  have N_p := M_p
  have N_lo := M_lo
  have N_hi := M_hi
  clear M_a M_p M_lo M_hi
  have HX : Hid (∀ i : Nat, bitI x i = if i < m then bitI a i else 0) := by intro i; rw [E_x.out, EP.out, Nat.zero_mul, Nat.zero_add]; exact bit_mod a m i
  have HLO : Hid (∀ i : Nat, i < 256 → bitI lo i = bitI a ((i : Int) - m)) := by intro i h; rw [E_lo.out, EP.out]; exact bit_low h
  have HHI : Hid (∀ i : Nat, 256 ≤ i → bitI hi ((i : Int) - 256) = bitI a ((i : Int) - m)) := by intro i h; rw [E_hi.out, EP.out]; exact bit_high h
  go_wp2
  go_loopw [10] (fun t wr => ∃ i : Nat, i ≤ 512 ∧ t = .int .i64 (i : Int) ∧ Below w.heap.size w wr ∧ NumAt wr (w.heap.size) a ∧ NumAt wr (w.heap.size + 1) p ∧ NumAt wr (w1.heap.size) lo ∧ NumAt wr (w1.heap.size + 1) hi ∧ NumAt wr (w2.heap.size) x) (fun t _ => (512 - intOf t).toNat)
  case atStart =>
    have zz := hWw2.size
    exact ⟨0, by omega, rfl, (hWw2.alloc (by (try simp) <;> omega) _), (N_a.alloc _), (N_p.alloc _), (N_lo.alloc _), (N_hi.alloc _), (NumAt.newAt _ (w2.heap.size) x (by first | rfl | simp))⟩
  case round =>
    clear N_a N_p N_lo N_hi hWw2
    obtain ⟨i, hi512, rfl, hWr, N_a, N_p, N_lo, N_hi, N_x⟩ := hrel
    by_cases hlt : i < 512
    · have hx := HX.out i
      obtain ⟨z1, hz1⟩ : ∃ z, z = bitI a ((i : Int) - m) := ⟨_, rfl⟩
      have Z1 := Lib.hid hz1; clear hz1
      obtain ⟨z2, hz2⟩ : ∃ z, z = bitI a (i : Int) := ⟨_, rfl⟩
      have Z2 := Lib.hid hz2; clear hz2
      by_cases h256 : i < 256
      · have hl := HLO.out i h256
        have HLi := Lib.hid hl; clear hl
        by_cases him : i < m
        · rw [if_pos him] at hx
          have HXi := Lib.hid hx; clear hx
          have F_lo := N_lo.facts; have L_lo := N_lo.lt
          have F_a := N_a.facts; have L_a := N_a.lt
          have F_x := N_x.facts; have L_x := N_x.lt
          have F_hi := N_hi.facts; have L_hi := N_hi.lt
          have L1_hi : w1.heap.size < wr.heap.size := by omega
          go_wp2_with fail
          refine (bit_calls lo (i : Int) B_lo.out _).mono ?_
          rintro e w11 ⟨rfl, hB11⟩
          rw [HLi.out]
          rw [← Z1.out]
          clear F_lo L_lo F_a L_a F_x L_x F_hi L_hi L1_hi
          have zw11 := hWr.size
          have M_a := N_a.kept hB11
          have M_p := N_p.kept hB11
          have M_lo := N_lo.kept hB11
          have M_hi := N_hi.kept hB11
          have M_x := N_x.kept hB11
          have hWw11 : Below w.heap.size w w11 := hWr.trans (hB11.mono (by (try simp) <;> omega))
          clear N_a N_p N_lo N_hi N_x hWr zw11 hB11
          have N_a := M_a
          have N_p := M_p
          have N_lo := M_lo
          have N_hi := M_hi
          have N_x := M_x
          clear M_a M_p M_lo M_hi M_x
          have F_lo := N_lo.facts; have L_lo := N_lo.lt
          have F_a := N_a.facts; have L_a := N_a.lt
          have F_x := N_x.facts; have L_x := N_x.lt
          have F_hi := N_hi.facts; have L_hi := N_hi.lt
          have L1_hi : w1.heap.size < w11.heap.size := by omega
          go_wp2_with fail
          refine (bit_calls a ((i : Int) - m) BA.out _).mono ?_
          rintro e w12 ⟨rfl, hB12⟩
          rw [← Z1.out]
          clear F_lo L_lo F_a L_a F_x L_x F_hi L_hi L1_hi
          have zw12 := hWw11.size
          have M_a := N_a.kept hB12
          have M_p := N_p.kept hB12
          have M_lo := N_lo.kept hB12
          have M_hi := N_hi.kept hB12
          have M_x := N_x.kept hB12
          have hWw12 : Below w.heap.size w w12 := hWw11.trans (hB12.mono (by (try simp) <;> omega))
          clear N_a N_p N_lo N_hi N_x hWw11 zw12 hB12
          have N_a := M_a
          have N_p := M_p
          have N_lo := M_lo
          have N_hi := M_hi
          have N_x := M_x
          clear M_a M_p M_lo M_hi M_x
          have F_lo := N_lo.facts; have L_lo := N_lo.lt
          have F_a := N_a.facts; have L_a := N_a.lt
          have F_x := N_x.facts; have L_x := N_x.lt
          have F_hi := N_hi.facts; have L_hi := N_hi.lt
          have L1_hi : w1.heap.size < w12.heap.size := by omega
          go_wp2_with fail
          refine (bit_calls a (i : Int) BA.out _).mono ?_
          rintro e w13 ⟨rfl, hB13⟩
          rw [← Z2.out]
          clear F_lo L_lo F_a L_a F_x L_x F_hi L_hi L1_hi
          have zw13 := hWw12.size
          have M_a := N_a.kept hB13
          have M_p := N_p.kept hB13
          have M_lo := N_lo.kept hB13
          have M_hi := N_hi.kept hB13
          have M_x := N_x.kept hB13
          have hWw13 : Below w.heap.size w w13 := hWw12.trans (hB13.mono (by (try simp) <;> omega))
          clear N_a N_p N_lo N_hi N_x hWw12 zw13 hB13
          have N_a := M_a
          have N_p := M_p
          have N_lo := M_lo
          have N_hi := M_hi
          have N_x := M_x
          clear M_a M_p M_lo M_hi M_x
          have F_lo := N_lo.facts; have L_lo := N_lo.lt
          have F_a := N_a.facts; have L_a := N_a.lt
          have F_x := N_x.facts; have L_x := N_x.lt
          have F_hi := N_hi.facts; have L_hi := N_hi.lt
          have L1_hi : w1.heap.size < w13.heap.size := by omega
          go_wp2_with fail
          refine (bit_calls x (i : Int) B_x.out _).mono ?_
          rintro e w14 ⟨rfl, hB14⟩
          rw [HXi.out]
          rw [← Z2.out]
          clear F_lo L_lo F_a L_a F_x L_x F_hi L_hi L1_hi
          have zw14 := hWw13.size
          have M_a := N_a.kept hB14
          have M_p := N_p.kept hB14
          have M_lo := N_lo.kept hB14
          have M_hi := N_hi.kept hB14
          have M_x := N_x.kept hB14
          have hWw14 : Below w.heap.size w w14 := hWw13.trans (hB14.mono (by (try simp) <;> omega))
          clear N_a N_p N_lo N_hi N_x hWw13 zw14 hB14
          have N_a := M_a
          have N_p := M_p
          have N_lo := M_lo
          have N_hi := M_hi
          have N_x := M_x
          clear M_a M_p M_lo M_hi M_x
          go_wp2
          go_roundw
          case rel => exact ⟨i + 1, by omega, by go_num, hWw14, N_a, N_p, N_lo, N_hi, N_x⟩
          case measure => simp [intOf] <;> omega
        · rw [if_neg him] at hx
          have HXi := Lib.hid hx; clear hx
          have F_lo := N_lo.facts; have L_lo := N_lo.lt
          have F_a := N_a.facts; have L_a := N_a.lt
          have F_x := N_x.facts; have L_x := N_x.lt
          have F_hi := N_hi.facts; have L_hi := N_hi.lt
          have L1_hi : w1.heap.size < wr.heap.size := by omega
          go_wp2_with fail
          refine (bit_calls lo (i : Int) B_lo.out _).mono ?_
          rintro e w11 ⟨rfl, hB11⟩
          rw [HLi.out]
          rw [← Z1.out]
          clear F_lo L_lo F_a L_a F_x L_x F_hi L_hi L1_hi
          have zw11 := hWr.size
          have M_a := N_a.kept hB11
          have M_p := N_p.kept hB11
          have M_lo := N_lo.kept hB11
          have M_hi := N_hi.kept hB11
          have M_x := N_x.kept hB11
          have hWw11 : Below w.heap.size w w11 := hWr.trans (hB11.mono (by (try simp) <;> omega))
          clear N_a N_p N_lo N_hi N_x hWr zw11 hB11
          have N_a := M_a
          have N_p := M_p
          have N_lo := M_lo
          have N_hi := M_hi
          have N_x := M_x
          clear M_a M_p M_lo M_hi M_x
          have F_lo := N_lo.facts; have L_lo := N_lo.lt
          have F_a := N_a.facts; have L_a := N_a.lt
          have F_x := N_x.facts; have L_x := N_x.lt
          have F_hi := N_hi.facts; have L_hi := N_hi.lt
          have L1_hi : w1.heap.size < w11.heap.size := by omega
          go_wp2_with fail
          refine (bit_calls a ((i : Int) - m) BA.out _).mono ?_
          rintro e w12 ⟨rfl, hB12⟩
          rw [← Z1.out]
          clear F_lo L_lo F_a L_a F_x L_x F_hi L_hi L1_hi
          have zw12 := hWw11.size
          have M_a := N_a.kept hB12
          have M_p := N_p.kept hB12
          have M_lo := N_lo.kept hB12
          have M_hi := N_hi.kept hB12
          have M_x := N_x.kept hB12
          have hWw12 : Below w.heap.size w w12 := hWw11.trans (hB12.mono (by (try simp) <;> omega))
          clear N_a N_p N_lo N_hi N_x hWw11 zw12 hB12
          have N_a := M_a
          have N_p := M_p
          have N_lo := M_lo
          have N_hi := M_hi
          have N_x := M_x
          clear M_a M_p M_lo M_hi M_x
          have F_lo := N_lo.facts; have L_lo := N_lo.lt
          have F_a := N_a.facts; have L_a := N_a.lt
          have F_x := N_x.facts; have L_x := N_x.lt
          have F_hi := N_hi.facts; have L_hi := N_hi.lt
          have L1_hi : w1.heap.size < w12.heap.size := by omega
          go_wp2_with fail
          refine (bit_calls a (i : Int) BA.out _).mono ?_
          rintro e w13 ⟨rfl, hB13⟩
          rw [← Z2.out]
          clear F_lo L_lo F_a L_a F_x L_x F_hi L_hi L1_hi
          have zw13 := hWw12.size
          have M_a := N_a.kept hB13
          have M_p := N_p.kept hB13
          have M_lo := N_lo.kept hB13
          have M_hi := N_hi.kept hB13
          have M_x := N_x.kept hB13
          have hWw13 : Below w.heap.size w w13 := hWw12.trans (hB13.mono (by (try simp) <;> omega))
          clear N_a N_p N_lo N_hi N_x hWw12 zw13 hB13
          have N_a := M_a
          have N_p := M_p
          have N_lo := M_lo
          have N_hi := M_hi
          have N_x := M_x
          clear M_a M_p M_lo M_hi M_x
          have F_lo := N_lo.facts; have L_lo := N_lo.lt
          have F_a := N_a.facts; have L_a := N_a.lt
          have F_x := N_x.facts; have L_x := N_x.lt
          have F_hi := N_hi.facts; have L_hi := N_hi.lt
          have L1_hi : w1.heap.size < w13.heap.size := by omega
          go_wp2_with fail
          refine (bit_calls x (i : Int) B_x.out _).mono ?_
          rintro e w14 ⟨rfl, hB14⟩
          rw [HXi.out]
          clear F_lo L_lo F_a L_a F_x L_x F_hi L_hi L1_hi
          have zw14 := hWw13.size
          have M_a := N_a.kept hB14
          have M_p := N_p.kept hB14
          have M_lo := N_lo.kept hB14
          have M_hi := N_hi.kept hB14
          have M_x := N_x.kept hB14
          have hWw14 : Below w.heap.size w w14 := hWw13.trans (hB14.mono (by (try simp) <;> omega))
          clear N_a N_p N_lo N_hi N_x hWw13 zw14 hB14
          have N_a := M_a
          have N_p := M_p
          have N_lo := M_lo
          have N_hi := M_hi
          have N_x := M_x
          clear M_a M_p M_lo M_hi M_x
          go_wp2
          go_roundw
          case rel => exact ⟨i + 1, by omega, by go_num, hWw14, N_a, N_p, N_lo, N_hi, N_x⟩
          case measure => simp [intOf] <;> omega
      · have hl := HHI.out i (by omega)
        have HHi := Lib.hid hl; clear hl hx
        have him : ¬ i < m := by omega
        have F_lo := N_lo.facts; have L_lo := N_lo.lt
        have F_a := N_a.facts; have L_a := N_a.lt
        have F_x := N_x.facts; have L_x := N_x.lt
        have F_hi := N_hi.facts; have L_hi := N_hi.lt
        have L1_hi : w1.heap.size < wr.heap.size := by omega
        go_wp2_with fail
        refine (bit_calls lo (i : Int) B_lo.out _).mono ?_
        rintro e w11 ⟨rfl, hB11⟩
        clear F_lo L_lo F_a L_a F_x L_x F_hi L_hi L1_hi
        have zw11 := hWr.size
        have M_a := N_a.kept hB11
        have M_p := N_p.kept hB11
        have M_lo := N_lo.kept hB11
        have M_hi := N_hi.kept hB11
        have M_x := N_x.kept hB11
        have hWw11 : Below w.heap.size w w11 := hWr.trans (hB11.mono (by (try simp) <;> omega))
        clear N_a N_p N_lo N_hi N_x hWr zw11 hB11
        have N_a := M_a
        have N_p := M_p
        have N_lo := M_lo
        have N_hi := M_hi
        have N_x := M_x
        clear M_a M_p M_lo M_hi M_x
        have F_lo := N_lo.facts; have L_lo := N_lo.lt
        have F_a := N_a.facts; have L_a := N_a.lt
        have F_x := N_x.facts; have L_x := N_x.lt
        have F_hi := N_hi.facts; have L_hi := N_hi.lt
        have L1_hi : w1.heap.size < w11.heap.size := by omega
        go_wp2_with fail
        refine (bit_calls hi ((i : Int) - 256) B_hi.out _).mono ?_
        rintro e w12 ⟨rfl, hB12⟩
        rw [HHi.out]
        rw [← Z1.out]
        clear F_lo L_lo F_a L_a F_x L_x F_hi L_hi L1_hi
        have zw12 := hWw11.size
        have M_a := N_a.kept hB12
        have M_p := N_p.kept hB12
        have M_lo := N_lo.kept hB12
        have M_hi := N_hi.kept hB12
        have M_x := N_x.kept hB12
        have hWw12 : Below w.heap.size w w12 := hWw11.trans (hB12.mono (by (try simp) <;> omega))
        clear N_a N_p N_lo N_hi N_x hWw11 zw12 hB12
        have N_a := M_a
        have N_p := M_p
        have N_lo := M_lo
        have N_hi := M_hi
        have N_x := M_x
        clear M_a M_p M_lo M_hi M_x
        have F_lo := N_lo.facts; have L_lo := N_lo.lt
        have F_a := N_a.facts; have L_a := N_a.lt
        have F_x := N_x.facts; have L_x := N_x.lt
        have F_hi := N_hi.facts; have L_hi := N_hi.lt
        have L1_hi : w1.heap.size < w12.heap.size := by omega
        go_wp2_with fail
        refine (bit_calls a ((i : Int) - m) BA.out _).mono ?_
        rintro e w13 ⟨rfl, hB13⟩
        rw [← Z1.out]
        clear F_lo L_lo F_a L_a F_x L_x F_hi L_hi L1_hi
        have zw13 := hWw12.size
        have M_a := N_a.kept hB13
        have M_p := N_p.kept hB13
        have M_lo := N_lo.kept hB13
        have M_hi := N_hi.kept hB13
        have M_x := N_x.kept hB13
        have hWw13 : Below w.heap.size w w13 := hWw12.trans (hB13.mono (by (try simp) <;> omega))
        clear N_a N_p N_lo N_hi N_x hWw12 zw13 hB13
        have N_a := M_a
        have N_p := M_p
        have N_lo := M_lo
        have N_hi := M_hi
        have N_x := M_x
        clear M_a M_p M_lo M_hi M_x
        have F_lo := N_lo.facts; have L_lo := N_lo.lt
        have F_a := N_a.facts; have L_a := N_a.lt
        have F_x := N_x.facts; have L_x := N_x.lt
        have F_hi := N_hi.facts; have L_hi := N_hi.lt
        have L1_hi : w1.heap.size < w13.heap.size := by omega
        go_wp2_with fail
        refine (bit_calls a (i : Int) BA.out _).mono ?_
        rintro e w14 ⟨rfl, hB14⟩
        rw [← Z2.out]
        clear F_lo L_lo F_a L_a F_x L_x F_hi L_hi L1_hi
        have zw14 := hWw13.size
        have M_a := N_a.kept hB14
        have M_p := N_p.kept hB14
        have M_lo := N_lo.kept hB14
        have M_hi := N_hi.kept hB14
        have M_x := N_x.kept hB14
        have hWw14 : Below w.heap.size w w14 := hWw13.trans (hB14.mono (by (try simp) <;> omega))
        clear N_a N_p N_lo N_hi N_x hWw13 zw14 hB14
        have N_a := M_a
        have N_p := M_p
        have N_lo := M_lo
        have N_hi := M_hi
        have N_x := M_x
        clear M_a M_p M_lo M_hi M_x
        go_wp2
        go_roundw
        case rel => exact ⟨i + 1, by omega, by go_num, hWw14, N_a, N_p, N_lo, N_hi, N_x⟩
        case measure => simp [intOf] <;> omega
    · obtain rfl : i = 512 := by omega
      have F_p := N_p.facts; have L_p := N_p.lt
      have L1_p : w.heap.size < wr.heap.size := by omega
      go_wp2_with fail
      refine (len_calls p BP.out _).mono ?_
      rintro e w11 ⟨rfl, hB11⟩
      rw [HL.out]
      clear F_p L_p L1_p
      have zw11 := hWr.size
      have M_a := N_a.kept hB11
      have M_p := N_p.kept hB11
      have M_lo := N_lo.kept hB11
      have M_hi := N_hi.kept hB11
      have M_x := N_x.kept hB11
      have hWw11 : Below w.heap.size w w11 := hWr.trans (hB11.mono (by (try simp) <;> omega))
      clear N_a N_p N_lo N_hi N_x hWr zw11 hB11
      have N_a := M_a
      have N_p := M_p
      have N_lo := M_lo
      have N_hi := M_hi
      have N_x := M_x
      clear M_a M_p M_lo M_hi M_x
      go_wp2_with fail
      refine (wakes1_calls _).mono ?_
      rintro e w12 ⟨rfl, hB12⟩
      have zw12 := hWw11.size
      have M_a := N_a.kept hB12
      have M_p := N_p.kept hB12
      have M_lo := N_lo.kept hB12
      have M_hi := N_hi.kept hB12
      have M_x := N_x.kept hB12
      have hWw12 : Below w.heap.size w w12 := hWw11.trans (hB12.mono (by (try simp) <;> omega))
      clear N_a N_p N_lo N_hi N_x hWw11 zw12 hB12
      have N_a := M_a
      have N_p := M_p
      have N_lo := M_lo
      have N_hi := M_hi
      have N_x := M_x
      clear M_a M_p M_lo M_hi M_x
      go_wp2
      go_ret
      have zz := hWw12.size
      refine ⟨rfl, ?_⟩
      repeat first | exact Below.refl _ _ | assumption | refine Below.drew ?_ | (refine Below.alloc ?_ (by (try simp) <;> omega) _)

set_option maxRecDepth 100000 in
theorem limbPowers_lifted (os : Os) (started : os.Started) (H : Type) (enc : TypeId × Value → H) :
    ReturnsInHanded {} Try.checked os 8 .any (Rows.limbPowersSpec.pre6 enc Try.prog Try.f8 Rows.limbPowersRow.domain false) (Rows.limbPowersSpec.post enc Try.prog Try.f8 false true false false) := by
  refine returnsInHanded_of_change (C := Try.checked) own started (by kernel_rfl) Try.func8
    (ChangeSpec.witness6 (enc := enc) (C := Try.checked) false ⟨#[], #[.agg #[.int .u64 0, .int .u64 0, .int .u64 0, .int .u64 0], .int .i64 0], []⟩ 8 (by kernel_rfl) (by kernel_rfl) (by kernel_rfl) (by kernel_rfl)) ?_
  intro W base args ds gs before hval0 hW hcnd _
  have hval : ∀ (j : Nat) t v, Try.f8.params[j]? = some t → args[j]? = some v → Value.okWide Try.prog W .any base t v := hval0
  have hW' := hW
  obtain ⟨p, q, hA0, hV, rfl, hfz, hnd⟩ := hW
  have hA : DataW.TrodAll enc Try.prog W 0 (fun _ => true) true Try.f8.params.toList args.toList ds p := hA0
  rw [Try.params8] at hA hval
  obtain ⟨v0, vs0, d0, ds0, p0, q0, hargs, rfl, rfl, h0, r0⟩ := trodAll_cons hA
  obtain ⟨v1, vs1, d1, ds1, p1, q1, rfl, rfl, rfl, h1, r1⟩ := trodAll_cons r0
  obtain ⟨rfl, rfl, rfl⟩ := trodAll_nil r1
  obtain rfl : args = #[v0, v1] := by cases args; simp_all
  obtain ⟨rfl, rfl⟩ := trodVars_none hV
  have k0 := h0
  have lt0 : ∀ x ∈ p0, x.block < W.heap.size := by obtain ⟨m, hm⟩ := k0; exact DataW.trod_lt m _ _ _ hm
  have k1 := h1
  have lt1 : ∀ x ∈ p1, x.block < W.heap.size := by obtain ⟨m, hm⟩ := k1; exact DataW.trod_lt m _ _ _ hm
  obtain ⟨a, w_a, rfl⟩ := open_num (hval 0 24 v0 rfl rfl) h0
  obtain ⟨k, rfl, rfl, rfl, w_k0⟩ := open_int Try.underlying3 (hval 1 3 v1 rfl rfl) h1; have w_k := wf_i64 w_k0
  clear hA0 hval0
  refine (limbPowers_walk a k w_a w_k W).mono fun e W' ⟨he, bel⟩ => ?_
  subst he
  exact ⟨_, rfl, _, _, _, [], _, [], hW', trodAll_mk1 (shut_bool Try.underlying4 _), (trodAll_cons_mk (Below.trod laidOut (by kernel_rfl) (of_decide_eq_true (by kernel_rfl)) k0 bel lt0) (trodAll_cons_mk (Below.trod laidOut (by kernel_rfl) (of_decide_eq_true (by kernel_rfl)) k1 bel lt1) trodAll_mk0)), rfl, bel.frame _, fun h => by cases h⟩

theorem limbPowers_holds : Rows.LimbPowersSaid :=
  OpenClaim.holds_of_wide 8 Try.f8 rfl rfl rfl rfl rfl rfl rfl ⟨rfl, rfl, rfl, rfl, rfl⟩ rfl rfl rfl rfl rfl (by kernel_rfl) Try.func8 (by kernel_rfl)
    (of_decide_eq_true (by kernel_rfl)) (by unfold Func.isWrapper; first | (rw [if_pos (by decide +kernel)]; kernel_rfl) | (rw [if_neg (by decide +kernel)]; exact ⟨rfl, rfl⟩))
    (fun os started H enc _ => limbPowers_lifted os started H enc)

end Go.Proofs.Ytmecomgifmkkfaa
