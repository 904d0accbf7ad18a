/- Plain arithmetic modulo a prime: roots, powers, inverses, differences (no program in sight). -/
/- Which modulus: the parity of a whole number, as the statements work it out. -/
import Derived.Test.YtmecomgifmkkfaaFieldD
import Derived.Test.YtmecomgifmkkfaaPrime
namespace Go.Proofs.Ytmecomgifmkkfaa
set_option linter.unusedVariables false
set_option linter.unusedSimpArgs false

theorem mm1 {x y m : Nat} : (x % m + y) % m = (x + y) % m := Nat.mod_add_mod ..
theorem mm2 {x y m : Nat} : (x + y % m) % m = (x + y) % m := Nat.add_mod_mod ..
theorem mm3 {x y m : Nat} : (x % m * y) % m = (x * y) % m := Nat.mod_mul_mod ..
theorem mm4 {x y m : Nat} : (x * (y % m)) % m = (x * y) % m := Nat.mul_mod_mod ..
theorem subM_add {m a b : Nat} (h : 0 < m) : (subM m a b + b) % m = a % m := by
  unfold subM
  have h1 := Nat.mod_lt b h
  rw [mm1, ← mm2 (y := b), show a + (m - b % m) + b % m = a + m by omega, Nat.add_mod_right]
/-- What added to b is a, modulo m, is the difference. -/
theorem add_cancel {m x y b : Nat} (hx : x < m) (hy : y < m) (h : (x + b) % m = (y + b) % m) : x = y := by
  have hm : 0 < m := by omega
  have h1 : (x + b % m) % m = (y + b % m) % m := by rw [mm2, mm2]; exact h
  have h2 := Nat.mod_lt b hm
  generalize b % m = c at *
  rcases Nat.lt_or_ge (x + c) m with h3 | h3 <;> rcases Nat.lt_or_ge (y + c) m with h4 | h4
  · rw [Nat.mod_eq_of_lt h3, Nat.mod_eq_of_lt h4] at h1; omega
  · rw [Nat.mod_eq_of_lt h3, Nat.mod_eq_sub_mod h4, Nat.mod_eq_of_lt (by omega)] at h1; omega
  · rw [Nat.mod_eq_sub_mod h3, Nat.mod_eq_of_lt (by omega), Nat.mod_eq_of_lt h4] at h1; omega
  · rw [Nat.mod_eq_sub_mod h3, Nat.mod_eq_of_lt (by omega), Nat.mod_eq_sub_mod h4, Nat.mod_eq_of_lt (by omega)] at h1; omega
theorem subM_of {m a b x : Nat} (hx : x < m) (h : (x + b) % m = a % m) : subM m a b = x :=
  add_cancel (subM_lt (by omega)) hx (by rw [subM_add (by omega), h])
theorem subM_neg {m a b : Nat} (h : 0 < m) : subM m a b = subM m 0 (subM m b a) := by
  refine subM_of (subM_lt h) ?_
  -- (0 - (b - a)) + b = a: add (b - a) on both sides
  refine add_cancel (Nat.mod_lt _ h) (Nat.mod_lt _ h) (b := subM m b a) ?_
  rw [mm1, show subM m 0 (subM m b a) + b + subM m b a = (subM m 0 (subM m b a) + subM m b a) + b by omega, ← mm1, subM_add h, Nat.zero_mod, Nat.zero_add, mm1, Nat.add_comm a, subM_add h]
theorem neg_add {m a : Nat} (h : 0 < m) : (subM m 0 a + a) % m = 0 := by rw [subM_add h, Nat.zero_mod]
theorem neg_sq {m a : Nat} (h : 0 < m) : subM m 0 a * subM m 0 a % m = a * a % m := by
  have h1 := neg_add (a := a) h
  generalize subM m 0 a = n at *
  -- n n + a n = 0, a n + a a = 0
  refine add_cancel (Nat.mod_lt _ h) (Nat.mod_lt _ h) (b := a * n) ?_
  rw [mm1, mm1, ← Nat.add_mul, ← Nat.mul_add, ← mm3, ← mm4 (x := a), h1, Nat.add_comm a n, h1, Nat.zero_mul, Nat.mul_zero]
theorem twice_add {m a : Nat} : a * 2 % m = (a + a) % m := by congr 1; omega
/-- x x = y y: they are one, or one is the other turned. -/
theorem sq_same {p x y : Nat} (hp : IsPrime p) (h : x * x % p = y * y % p) : x % p = y % p ∨ (x + y) % p = 0 := by
  have h1 : (p : Int) ∣ ((x : Int) - y) * ((x : Int) + y) := by
    have : ((x : Int) * x) % p = ((y : Int) * y) % p := by exact_mod_cast h
    have h2 := Int.emod_emod_of_dvd
    have h3 : (p : Int) ∣ (x : Int) * x - (y : Int) * y := Int.dvd_of_emod_eq_zero (Int.emod_eq_emod_iff_emod_sub_eq_zero.1 this)
    rw [show ((x : Int) - y) * ((x : Int) + y) = (x : Int) * x - (y : Int) * y by grind]
    exact h3
  have h2 : p ∣ (((x : Int) - y).natAbs) * (x + y) := by
    have := Int.natAbs_dvd_natAbs.2 h1
    rw [Int.natAbs_mul] at this
    rw [show ((x : Int) + y) = ((x + y : Nat) : Int) by omega, Int.natAbs_natCast, Int.natAbs_natCast] at this
    exact this
  rcases hp.dvd_mul h2 with h3 | h3
  · left
    have h4 : (p : Int) ∣ (x : Int) - y := Int.natAbs_dvd_natAbs.1 (by simpa using h3)
    have h5 : (x : Int) % p = (y : Int) % p := Int.emod_eq_emod_iff_emod_sub_eq_zero.2 (Int.emod_eq_zero_of_dvd h4)
    exact_mod_cast h5
  · exact .inr (Nat.mod_eq_zero_of_dvd h3)
theorem mul_one_cancel {p a u : Nat} (hp : IsPrime p) (ha : a % p ≠ 0) (h : a * u % p = a % p) : u % p = 1 := by
  have hp2 := hp.1
  have h1 : (p : Int) ∣ (a : Int) * ((u : Int) - 1) := by
    have : ((a : Int) * u) % p = (a : Int) % p := by exact_mod_cast h
    have h3 : (p : Int) ∣ (a : Int) * u - a := Int.dvd_of_emod_eq_zero (Int.emod_eq_emod_iff_emod_sub_eq_zero.1 this)
    rw [show (a : Int) * ((u : Int) - 1) = (a : Int) * u - a by grind]
    exact h3
  have h2 : p ∣ a * ((u : Int) - 1).natAbs := by
    have := Int.natAbs_dvd_natAbs.2 h1
    rw [Int.natAbs_mul] at this
    simpa using this
  rcases hp.dvd_mul h2 with h3 | h3
  · exact absurd (Nat.mod_eq_zero_of_dvd h3) ha
  · have h4 : (p : Int) ∣ (u : Int) - 1 := Int.natAbs_dvd_natAbs.1 (by simpa using h3)
    have h5 : (u : Int) % p = (1 : Int) % p := Int.emod_eq_emod_iff_emod_sub_eq_zero.2 (Int.emod_eq_zero_of_dvd h4)
    have h6 : u % p = 1 % p := by exact_mod_cast h5
    rw [h6, Nat.mod_eq_of_lt (by omega)]
/-- The power p - 2 is the inverse. -/
theorem inv_mul {p b : Nat} (hp : IsPrime p) (hb : b % p ≠ 0) : b ^ (p - 2) % p * b % p = 1 := by
  have hp2 := hp.1
  rw [mm3, ← Nat.pow_succ, show (p - 2).succ = p - 1 by omega]
  exact fermat hp (fun h => hb (Nat.mod_eq_zero_of_dvd h))
theorem inv_zero {p b : Nat} (hp : 2 < p) (hb : b % p = 0) : b ^ (p - 2) % p = 0 := by
  rw [Nat.pow_mod, hb, Nat.zero_pow (by omega), Nat.zero_mod]
theorem quo_mul {p a b : Nat} (hp : IsPrime p) (hb : b % p ≠ 0) : a * (b ^ (p - 2) % p) % p * b % p = a % p := by
  rw [mm3, Nat.mul_assoc, ← mm4, inv_mul hp hb, Nat.mul_one]

/-! Roots, where 4 e = p + 1. -/
theorem pow_sq {p e a : Nat} : (a ^ e % p) * (a ^ e % p) % p = a ^ (e + e) % p := by rw [mm3, mm4, ← Nat.pow_add]
theorem root_of_sq {p e a : Nat} (hp : IsPrime p) (he : e + e + (e + e) = p + 1) : ((a * a % p) ^ e % p) * ((a * a % p) ^ e % p) % p = a * a % p := by
  rw [pow_sq, ← Nat.pow_mod, ← Nat.pow_two, ← Nat.pow_mul, show 2 * (e + e) = p + 1 by omega, Nat.pow_succ, ← mm3, fermat_pow hp, mm3, Nat.pow_two]
theorem euler_one {p e h a : Nat} (hp : IsPrime p) (he : e + e = h + 1) (ha : a % p ≠ 0) (hr : (a ^ e % p) * (a ^ e % p) % p = a % p) : a ^ h % p = 1 := by
  rw [pow_sq, he, Nat.pow_succ, Nat.mul_comm] at hr
  exact mul_one_cancel hp ha hr
theorem euler_no {p e h a : Nat} (hp : IsPrime p) (he : e + e = h + 1) (hr : ¬ (a ^ e % p) * (a ^ e % p) % p = a % p) : ¬ a % p = 0 ∧ ¬ a ^ h % p = 1 := by
  rw [pow_sq, he] at hr
  refine ⟨fun h0 => hr ?_, fun h1 => hr ?_⟩
  · rw [Nat.pow_succ, Nat.mul_mod, h0, Nat.mul_zero, Nat.zero_mod]
  · rw [Nat.pow_succ, ← mm3, h1, Nat.one_mul]
/-- The even one of both roots. -/
theorem rootV_even (a : Nat) : rootV a % 2 = 0 := by
  unfold rootV
  split
  · rename_i h
    have hlt : rootX a < modW 0 := Nat.mod_lt _ (modW_pos ok0)
    have hodd : modW 0 % 2 = 1 := by decide
    unfold subM
    generalize rootX a = x at *
    generalize modW 0 = p at *
    have hx : p - x < p := by omega
    rw [Nat.zero_add, Nat.mod_eq_of_lt hlt, Nat.mod_eq_of_lt hx]
    omega
  · omega
theorem rootV_lt (a : Nat) : rootV a < modW 0 := by
  unfold rootV
  split
  · exact subM_lt (modW_pos ok0)
  · exact Nat.mod_lt _ (modW_pos ok0)
theorem rootV_sq (a : Nat) : rootV a * rootV a % modW 0 = rootX a * rootX a % modW 0 := by
  unfold rootV
  split
  · exact neg_sq (modW_pos ok0)
  · rfl
def halfE : Nat := 57896044618658097711785492504343953926634992332820282019728792003954417335831
theorem he4 : rootE + rootE + (rootE + rootE) = modW 0 + 1 := by decide
theorem he2 : rootE + rootE = halfE + 1 := by decide
theorem pp : IsPrime (modW 0) := modW_prime ok0
theorem sq_hr (a : Nat) : rootX (a * a % modW 0) * rootX (a * a % modW 0) % modW 0 = a * a % modW 0 % modW 0 := by
  rw [Nat.mod_mod]; exact root_of_sq pp he4
theorem sq_rr (a : Nat) : rootV (a * a % modW 0) * rootV (a * a % modW 0) % modW 0 = a * a % modW 0 := by
  rw [rootV_sq, sq_hr, Nat.mod_mod]
theorem sq_or (a : Nat) (h : ¬ rootV (a * a % modW 0) = a % modW 0) : (rootV (a * a % modW 0) + a) % modW 0 = 0 := by
  rcases sq_same pp (sq_rr a) with h1 | h1
  · rw [Nat.mod_eq_of_lt (rootV_lt _)] at h1; exact absurd h1 h
  · exact h1
theorem euler1 {a : Nat} (hr : rootX a * rootX a % modW 0 = a % modW 0) (ha : ¬ a % modW 0 = 0) : a ^ halfE % modW 0 = 1 := euler_one pp he2 ha hr
theorem euler0 {a : Nat} (hr : ¬ rootX a * rootX a % modW 0 = a % modW 0) : ¬ a % modW 0 = 0 ∧ ¬ a ^ halfE % modW 0 = 1 := euler_no pp he2 hr
end Go.Proofs.Ytmecomgifmkkfaa

namespace Go.Proofs.Ytmecomgifmkkfaa
set_option linter.unusedVariables false
set_option linter.unusedSimpArgs false
/-- int(uint(which) % 2). -/
def parI (which : Int) : Int := IntKind.i64.wrap ((IntKind.u64.wrap which).tmod 2)
theorem parI_ok (which : Int) : okW (parI which) := by
  unfold parI okW
  rw [IntKind.wrap_u64, Int.tmod_eq_emod_of_nonneg (by omega), IntKind.wrap_i64]
  omega
end Go.Proofs.Ytmecomgifmkkfaa
