/- The two primes of secp256k1 are prime; what is not 0 modulo a prime has its power p - 1 one. Plain facts (no program in sight). -/

namespace Go.Proofs.Ytmecomgifmkkfaa
set_option linter.unusedVariables false
set_option linter.unusedSimpArgs false

/-! ### Powers modulo a number, by squaring (the kernel reckons them) -/
def powF (m : Nat) : Nat → Nat → Nat → Nat
  | 0, _, _ => 1 % m
  | f + 1, a, e => if e = 0 then 1 % m else if e % 2 = 1 then a * powF m f (a * a % m) (e / 2) % m else powF m f (a * a % m) (e / 2)

theorem powF_eq (m : Nat) : ∀ (f a e : Nat), e < 2 ^ f → powF m f a e = a ^ e % m := by
  intro f
  induction f with
  | zero =>
    intro a e h
    rw [Nat.pow_zero] at h
    obtain rfl : e = 0 := by omega
    rw [Nat.pow_zero]; rfl
  | succ f ih =>
    intro a e h
    unfold powF
    by_cases h0 : e = 0
    · rw [if_pos h0, h0, Nat.pow_zero]
    · rw [if_neg h0, ih _ _ (by rw [Nat.pow_succ] at h; omega)]
      have hd := Nat.div_add_mod e 2
      have key : (a * a % m) ^ (e / 2) % m = a ^ (2 * (e / 2)) % m := by
        rw [← Nat.pow_mod, Nat.pow_mul, Nat.pow_two]
      by_cases h1 : e % 2 = 1
      · rw [if_pos h1, key, Nat.mul_mod, Nat.mod_mod, ← Nat.mul_mod]
        congr 1
        rw [show a * a ^ (2 * (e / 2)) = a ^ (2 * (e / 2) + 1) by rw [Nat.pow_succ, Nat.mul_comm]]
        congr 1; omega
      · rw [if_neg h1, key]
        congr 2; omega

/-! ### Primes -/
def IsPrime (p : Nat) : Prop := 2 ≤ p ∧ ∀ d, d ∣ p → d = 1 ∨ d = p

theorem IsPrime.pos {p : Nat} (h : IsPrime p) : 0 < p := by have := h.1; omega

theorem IsPrime.coprime {p a : Nat} (hp : IsPrime p) (h : ¬ p ∣ a) : Nat.gcd p a = 1 := by
  rcases hp.2 _ (Nat.gcd_dvd_left p a) with h1 | h1
  · exact h1
  · exact absurd (h1 ▸ Nat.gcd_dvd_right p a) h

theorem IsPrime.dvd_mul {p a b : Nat} (hp : IsPrime p) (h : p ∣ a * b) : p ∣ a ∨ p ∣ b := by
  by_cases ha : p ∣ a
  · exact .inl ha
  · exact .inr (Nat.Coprime.dvd_of_dvd_mul_left (hp.coprime ha) h)

/-- What is at least 2 has a prime factor. -/
theorem prime_factor : ∀ (n : Nat), 2 ≤ n → ∃ d, IsPrime d ∧ d ∣ n := by
  intro n
  induction n using Nat.strongRecOn with
  | _ n ih =>
    intro hn
    by_cases h : ∃ d, d ∣ n ∧ 2 ≤ d ∧ d < n
    · obtain ⟨d, hd, h2, hlt⟩ := h
      obtain ⟨e, he, hed⟩ := ih d hlt h2
      exact ⟨e, he, Nat.dvd_trans hed hd⟩
    · refine ⟨n, ⟨hn, fun d hd => ?_⟩, Nat.dvd_refl n⟩
      have h1 := Nat.le_of_dvd (by omega) hd
      have h0 : d ≠ 0 := by rintro rfl; have := Nat.eq_zero_of_zero_dvd hd; omega
      by_cases hd1 : d = 1
      · exact .inl hd1
      · by_cases hdn : d = n
        · exact .inr hdn
        · exact absurd ⟨d, hd, by omega, by omega⟩ h

/-- Whose prime factors are all greater than its root is prime. -/
theorem prime_of_factors {n : Nat} (hn : 2 ≤ n) (h : ∀ d, IsPrime d → d ∣ n → n < d * d) : IsPrime n := by
  refine ⟨hn, fun a ha => ?_⟩
  have ha0 : a ≠ 0 := by rintro rfl; have := Nat.eq_zero_of_zero_dvd ha; omega
  obtain ⟨b, hb⟩ := ha
  by_cases h1 : a = 1
  · exact .inl h1
  · by_cases hb1 : b = 1
    · subst hb1; exact .inr (by omega)
    · exfalso
      have hb0 : b ≠ 0 := by rintro rfl; simp at hb; omega
      obtain ⟨d, hd, hda⟩ := prime_factor a (by omega)
      obtain ⟨e, he, heb⟩ := prime_factor b (by omega)
      have g1 := h d hd (Nat.dvd_trans hda ⟨b, hb⟩)
      have g2 := h e he (Nat.dvd_trans heb ⟨a, by rw [hb, Nat.mul_comm]⟩)
      have l1 := Nat.le_of_dvd (by omega) hda
      have l2 := Nat.le_of_dvd (by omega) heb
      have m1 : d * e ≤ a * b := Nat.mul_le_mul l1 l2
      rcases Nat.le_total d e with hde | hde
      · have := Nat.mul_le_mul_left d hde; omega
      · have := Nat.mul_le_mul_right e hde; omega

/-! ### Fermat -/
def choose : Nat → Nat → Nat
  | _, 0 => 1
  | 0, _ + 1 => 0
  | n + 1, k + 1 => choose n k + choose n (k + 1)

theorem choose_gt : ∀ (n k : Nat), n < k → choose n k = 0 := by
  intro n
  induction n with
  | zero => intro k h; obtain ⟨j, rfl⟩ : ∃ j, k = j + 1 := ⟨k - 1, by omega⟩; rfl
  | succ n ih => intro k h; obtain ⟨j, rfl⟩ : ∃ j, k = j + 1 := ⟨k - 1, by omega⟩; simp only [choose]; rw [ih j (by omega), ih (j + 1) (by omega)]

theorem choose_mul : ∀ (n k : Nat), (k + 1) * choose (n + 1) (k + 1) = (n + 1) * choose n k := by
  intro n
  induction n with
  | zero =>
    intro k
    cases k with
    | zero => rfl
    | succ k => simp [choose]
  | succ n ih =>
    intro k
    cases k with
    | zero =>
      have := ih 0
      simp only [choose, Nat.zero_add, Nat.one_mul, Nat.mul_one] at this ⊢
      omega
    | succ k =>
      have e1 : choose (n + 1 + 1) (k + 1 + 1) = choose (n + 1) (k + 1) + choose (n + 1) (k + 1 + 1) := rfl
      have e2 : choose (n + 1) (k + 1) = choose n k + choose n (k + 1) := rfl
      have i1 := ih k
      have i2 := ih (k + 1)
      rw [e1, Nat.mul_add, i2]
      have e3 : (k + 1 + 1) * choose (n + 1) (k + 1) = (k + 1) * choose (n + 1) (k + 1) + choose (n + 1) (k + 1) := by rw [Nat.add_mul (k + 1) 1, Nat.one_mul]
      rw [e3, i1, Nat.add_mul (n + 1) 1, Nat.one_mul, e2, Nat.mul_add]
      omega

def sumTo : Nat → (Nat → Nat) → Nat
  | 0, f => f 0
  | n + 1, f => sumTo n f + f (n + 1)

theorem sumTo_shift (f : Nat → Nat) : ∀ n, sumTo (n + 1) f = f 0 + sumTo n (fun k => f (k + 1)) := by
  intro n
  induction n with
  | zero => rfl
  | succ n ih => rw [sumTo, ih]; simp only [sumTo]; omega
theorem sumTo_add (f g : Nat → Nat) : ∀ n, sumTo n (fun k => f k + g k) = sumTo n f + sumTo n g := by
  intro n
  induction n with
  | zero => rfl
  | succ n ih => simp only [sumTo, ih]; omega
theorem sumTo_mul (c : Nat) (f : Nat → Nat) : ∀ n, sumTo n (fun k => c * f k) = c * sumTo n f := by
  intro n
  induction n with
  | zero => rfl
  | succ n ih => simp only [sumTo, ih, Nat.mul_add]
theorem sumTo_congr {f g : Nat → Nat} (h : ∀ k, f k = g k) (n : Nat) : sumTo n f = sumTo n g := by rw [show f = g from funext h]

theorem binom (a : Nat) : ∀ n, (a + 1) ^ n = sumTo n (fun k => choose n k * a ^ k) := by
  intro n
  induction n with
  | zero => simp [sumTo, choose]
  | succ n ih =>
    rw [Nat.pow_succ, ih, sumTo_shift]
    have h1 : sumTo n (fun k => choose (n + 1) (k + 1) * a ^ (k + 1)) = a * sumTo n (fun k => choose n k * a ^ k) + sumTo n (fun k => choose n (k + 1) * a ^ (k + 1)) := by
      rw [← sumTo_mul, ← sumTo_add]
      refine sumTo_congr (fun k => ?_) n
      show (choose n k + choose n (k + 1)) * a ^ (k + 1) = _
      rw [Nat.add_mul, Nat.pow_succ]
      congr 1
      rw [Nat.mul_comm (a ^ k) a, Nat.mul_left_comm]
    have h2 := sumTo_shift (fun k => choose n k * a ^ k) n
    have h3 : sumTo (n + 1) (fun k => choose n k * a ^ k) = sumTo n (fun k => choose n k * a ^ k) := by
      simp only [sumTo]; rw [choose_gt n (n + 1) (by omega)]; omega
    rw [h3] at h2
    have h4 : ∀ m, choose m 0 = 1 := fun m => by cases m <;> rfl
    simp only [h4, Nat.pow_zero, Nat.mul_one] at h2 ⊢
    rw [h1, Nat.mul_add, Nat.mul_comm _ a]
    omega

theorem sumTo_mod {p : Nat} {f : Nat → Nat} : ∀ n, (∀ k, 1 ≤ k → k ≤ n → f k % p = 0) → sumTo n f % p = f 0 % p := by
  intro n
  induction n with
  | zero => intro _; rfl
  | succ n ih =>
    intro h
    simp only [sumTo]
    rw [Nat.add_mod, ih (fun k h1 h2 => h k h1 (by omega)), h (n + 1) (by omega) (by omega), Nat.add_zero, Nat.mod_mod]

theorem choose_self : ∀ n, choose n n = 1 := by
  intro n
  induction n with
  | zero => rfl
  | succ n ih => simp only [choose]; rw [ih, choose_gt n (n + 1) (by omega)]

theorem prime_choose {p k : Nat} (hp : IsPrime p) (h1 : 1 ≤ k) (h2 : k < p) : choose p k % p = 0 := by
  obtain ⟨q, rfl⟩ : ∃ q, p = q + 1 := ⟨p - 1, by omega⟩
  obtain ⟨j, rfl⟩ : ∃ j, k = j + 1 := ⟨k - 1, by omega⟩
  have h := choose_mul q j
  have hd : q + 1 ∣ (j + 1) * choose (q + 1) (j + 1) := ⟨_, h⟩
  rcases hp.dvd_mul hd with h3 | h3
  · have := Nat.le_of_dvd (by omega) h3; omega
  · exact Nat.mod_eq_zero_of_dvd h3

theorem fermat_pow {p : Nat} (hp : IsPrime p) : ∀ a, a ^ p % p = a % p := by
  intro a
  induction a with
  | zero => rw [Nat.zero_pow hp.pos]
  | succ a ih =>
    rw [binom]
    obtain ⟨q, hq⟩ : ∃ q, p = q + 1 := ⟨p - 1, by have := hp.1; omega⟩
    have h := sumTo_mod (p := p) (f := fun k => choose p k * a ^ k) q (fun k h1 h2 => by
      show choose p k * a ^ k % p = 0
      rw [Nat.mul_mod, prime_choose hp h1 (by omega), Nat.zero_mul, Nat.zero_mod])
    have e : sumTo p (fun k => choose p k * a ^ k) = sumTo q (fun k => choose p k * a ^ k) + choose p p * a ^ p := by
      generalize hc : (fun k => choose p k * a ^ k) = f
      have : choose p p * a ^ p = f p := by rw [← hc]
      rw [this, hq]; rfl
    rw [e, Nat.add_mod, h, choose_self, Nat.one_mul, ih]
    have h4 : choose p 0 = 1 := by cases p <;> rfl
    show ((choose p 0 * a ^ 0) % p + a % p) % p = (a + 1) % p
    rw [h4, Nat.pow_zero, Nat.mul_one, ← Nat.add_mod, Nat.add_comm]

/-- Fermat's. -/
theorem fermat {p a : Nat} (hp : IsPrime p) (ha : ¬ p ∣ a) : a ^ (p - 1) % p = 1 := by
  have h := fermat_pow hp a
  have hp2 := hp.1
  obtain ⟨q, rfl⟩ : ∃ q, p = q + 1 := ⟨p - 1, by omega⟩
  simp only [Nat.add_sub_cancel]
  have ha0 : a ≠ 0 := by rintro rfl; exact ha (Nat.dvd_zero _)
  have h1 : 1 ≤ a ^ q := Nat.one_le_pow _ _ (by omega)
  have h2 : q + 1 ∣ a * (a ^ q - 1) := by
    rw [Nat.mul_sub, Nat.mul_one, Nat.mul_comm a, ← Nat.pow_succ]
    exact Nat.dvd_of_mod_eq_zero (Nat.sub_mod_eq_zero_of_mod_eq h)
  rcases hp.dvd_mul h2 with h3 | h3
  · exact absurd h3 ha
  · obtain ⟨c, hc⟩ := h3
    have h4 : a ^ q = (q + 1) * c + 1 := by omega
    rw [h4, Nat.mul_add_mod, Nat.mod_eq_of_lt (by omega)]

/-! ### A number is prime by a witness -/
theorem pow_gcd {g d : Nat} (hd : 1 < d) : ∀ (y x : Nat), g ^ x % d = 1 → g ^ y % d = 1 → g ^ (Nat.gcd x y) % d = 1 := by
  intro y
  induction y using Nat.strongRecOn with
  | _ y ih =>
    intro x hx hy
    by_cases h0 : y = 0
    · subst h0; rwa [Nat.gcd_zero_right]
    · rw [Nat.gcd_comm, Nat.gcd_rec, Nat.gcd_comm]
      refine ih (x % y) (Nat.mod_lt _ (by omega)) y hy ?_
      have h := Nat.div_add_mod x y
      rw [← h, Nat.pow_add, Nat.pow_mul, Nat.mul_mod, Nat.pow_mod, hy, Nat.one_pow, Nat.mod_eq_of_lt hd, Nat.one_mul, Nat.mod_mod] at hx
      exact hx

theorem witness_dvd {n g r d : Nat} (hr : IsPrime r) (hd : IsPrime d) (hdn : d ∣ n) (hrn : r ∣ n - 1) (hn : 2 ≤ n) (h1 : g ^ (n - 1) % n = 1) (h2 : Nat.gcd (g ^ ((n - 1) / r) % n + n - 1) n = 1) : r ∣ d - 1 := by
  have hd1 : 1 < d := hd.1
  have down : ∀ x, x % n = 1 → x % d = 1 := fun x hx => by
    rw [← Nat.mod_mod_of_dvd x hdn, hx, Nat.mod_eq_of_lt hd1]
  by_cases h : r ∣ d - 1
  · exact h
  · exfalso
    have hg := down _ h1
    have hdg : ¬ d ∣ g := fun hdg => by
      have : d ∣ g ^ (n - 1) := by
        obtain ⟨j, hj⟩ : ∃ j, n - 1 = j + 1 := ⟨n - 2, by omega⟩
        rw [hj, Nat.pow_succ]
        exact Nat.dvd_trans hdg (Nat.dvd_mul_left g _)
      rw [Nat.mod_eq_zero_of_dvd this] at hg; omega
    have hf := fermat hd hdg
    obtain ⟨m, hm⟩ := hrn
    have hmd : (n - 1) / r = m := by rw [hm, Nat.mul_div_cancel_left _ hr.pos]
    rw [hmd] at h2
    have e := pow_gcd hd1 (d - 1) (n - 1) hg hf
    have hc : Nat.gcd (n - 1) (d - 1) = Nat.gcd m (d - 1) := by
      rw [hm]
      exact Nat.Coprime.gcd_mul_left_cancel m (hr.coprime h)
    rw [hc] at e
    obtain ⟨k, hk⟩ := Nat.gcd_dvd_left m (d - 1)
    have hm1 : g ^ m % d = 1 := by
      rw [hk, Nat.pow_mul, Nat.pow_mod, e, Nat.one_pow, Nat.mod_eq_of_lt hd1]
    have h3 : d ∣ g ^ m % n + n - 1 := by
      obtain ⟨c, hc⟩ := hdn
      have h4 : g ^ m % n % d = 1 := by rw [Nat.mod_mod_of_dvd _ ⟨c, hc⟩, hm1]
      have h5 := Nat.div_add_mod (g ^ m % n) d
      rw [h4] at h5
      refine ⟨g ^ m % n / d + c, ?_⟩
      rw [Nat.mul_add, ← hc]; omega
    have h6 := Nat.dvd_gcd h3 hdn
    rw [h2] at h6
    have := Nat.le_of_dvd (by omega) h6
    omega

/-- The product of a list, and whether each is prime to those ahead. -/
def prodL : List Nat → Nat
  | [] => 1
  | r :: l => r * prodL l
def apart : List Nat → Bool
  | [] => true
  | r :: l => Nat.gcd r (prodL l) == 1 && apart l

def checkW (n g : Nat) (rs : List Nat) : Bool :=
  decide (2 ≤ n) && powF n 256 g (n - 1) == 1 && rs.all (fun r => (n - 1) % r == 0 && Nat.gcd (powF n 256 g ((n - 1) / r) + n - 1) n == 1) && apart rs && decide (n < (prodL rs + 1) * (prodL rs + 1))

theorem prod_dvd {x : Nat} : ∀ (rs : List Nat), apart rs = true → (∀ r ∈ rs, r ∣ x) → prodL rs ∣ x
  | [], _, _ => Nat.one_dvd x
  | r :: l, h, hr => by
    simp only [apart, Bool.and_eq_true, beq_iff_eq] at h
    exact Nat.Coprime.mul_dvd_of_dvd_of_dvd h.1 (hr r (by simp)) (prod_dvd l h.2 (fun s hs => hr s (by simp [hs])))

theorem prime_of_witness {n g : Nat} (rs : List Nat) (hn : n < 2 ^ 256) (hp : ∀ r ∈ rs, IsPrime r) (h : checkW n g rs = true) : IsPrime n := by
  simp only [checkW, Bool.and_eq_true, decide_eq_true_eq, beq_iff_eq, List.all_eq_true] at h
  obtain ⟨⟨⟨⟨h2, h1⟩, hr⟩, ha⟩, hlt⟩ := h
  rw [powF_eq n 256 g (n - 1) (by omega)] at h1
  refine prime_of_factors h2 (fun d hd hdn => ?_)
  have hdvd : prodL rs ∣ d - 1 := prod_dvd rs ha (fun r hrm => by
    obtain ⟨h3, h4⟩ := hr r hrm
    rw [powF_eq n 256 g _ (Nat.lt_of_le_of_lt (Nat.div_le_self _ _) (by omega))] at h4
    exact witness_dvd (hp r hrm) hd hdn (Nat.dvd_of_mod_eq_zero h3) h2 h1 h4)
  have hd2 := hd.1
  have hle := Nat.le_of_dvd (by omega) hdvd
  have : (prodL rs + 1) * (prodL rs + 1) ≤ d * d := Nat.mul_le_mul (by omega) (by omega)
  omega

/-! ### Small primes by trial -/
def noDiv (n : Nat) : Nat → Nat → Bool
  | 0, _ => false
  | f + 1, d => if n < d * d then true else if n % d = 0 then false else noDiv n f (d + 1)

theorem noDiv_spec {n : Nat} : ∀ (f d : Nat), noDiv n f d = true → ∀ e, d ≤ e → e ∣ n → n < e * e := by
  intro f
  induction f with
  | zero => intro d h; simp [noDiv] at h
  | succ f ih =>
    intro d h e hde he
    unfold noDiv at h
    by_cases h1 : n < d * d
    · exact Nat.lt_of_lt_of_le h1 (Nat.mul_le_mul hde hde)
    · rw [if_neg h1] at h
      by_cases h2 : n % d = 0
      · rw [if_pos h2] at h; cases h
      · rw [if_neg h2] at h
        by_cases h3 : d = e
        · subst h3; exact absurd (Nat.mod_eq_zero_of_dvd he) h2
        · exact ih (d + 1) h e (by omega) he

theorem prime_of_trial {n f : Nat} (hn : 2 ≤ n) (h : noDiv n f 2 = true) : IsPrime n :=
  prime_of_factors hn (fun d hd hdn => noDiv_spec f 2 h d hd.1 hdn)

theorem p107590001 : IsPrime 107590001 := prime_of_trial (f := 11000) (by decide) (by decide +kernel)
theorem p7240687 : IsPrime 7240687 := prime_of_trial (f := 2800) (by decide) (by decide +kernel)
theorem p96557 : IsPrime 96557 := prime_of_trial (f := 400) (by decide) (by decide +kernel)
theorem p545358713 : IsPrime 545358713 := prime_of_trial (f := 24000) (by decide) (by decide +kernel)
theorem p305873 : IsPrime 305873 := prime_of_trial (f := 700) (by decide) (by decide +kernel)
theorem p293 : IsPrime 293 := prime_of_trial (f := 30) (by decide) (by decide +kernel)
theorem p44706919 : IsPrime 44706919 := prime_of_trial (f := 7000) (by decide) (by decide +kernel)
theorem p120233 : IsPrime 120233 := prime_of_trial (f := 500) (by decide) (by decide +kernel)

def q1 : Nat := 255515944373312847190720520512484175977
def q2 : Nat := 205115282021455665897114700593932402728804164701536103180137503955397371
def q3 : Nat := 29047611873442575647497758179
def q4 : Nat := 341948486974166000522343609283189
def q5 : Nat := 174723607534414371449
/-- The prime of the coordinates, 2^256 - 2^32 - 977. -/
def primeP : Nat := 115792089237316195423570985008687907853269984665640564039457584007908834671663
/-- The prime of the scalars. -/
def primeN : Nat := 115792089237316195423570985008687907852837564279074904382605163141518161494337

theorem q1_prime : IsPrime q1 := prime_of_witness (g := 2) [107590001, 7240687, 96557] (by decide) (by
  intro r hr; simp at hr; rcases hr with rfl | rfl | rfl; exact p107590001; exact p7240687; exact p96557) (by decide +kernel)
theorem q2_prime : IsPrime q2 := prime_of_witness (g := 2) [q1] (by decide) (by intro r hr; simp at hr; subst hr; exact q1_prime) (by decide +kernel)
theorem primeP_prime : IsPrime primeP := prime_of_witness (g := 2) [q2] (by decide) (by intro r hr; simp at hr; subst hr; exact q2_prime) (by decide +kernel)
theorem q3_prime : IsPrime q3 := prime_of_witness (g := 2) [545358713, 305873, 293] (by decide) (by
  intro r hr; simp at hr; rcases hr with rfl | rfl | rfl; exact p545358713; exact p305873; exact p293) (by decide +kernel)
theorem q4_prime : IsPrime q4 := prime_of_witness (g := 2) [q3] (by decide) (by intro r hr; simp at hr; subst hr; exact q3_prime) (by decide +kernel)
theorem q5_prime : IsPrime q5 := prime_of_witness (g := 2) [44706919, 120233] (by decide) (by
  intro r hr; simp at hr; rcases hr with rfl | rfl; exact p44706919; exact p120233) (by decide +kernel)
theorem primeN_prime : IsPrime primeN := prime_of_witness (g := 2) [q4, q5] (by decide) (by
  intro r hr; simp at hr; rcases hr with rfl | rfl; exact q4_prime; exact q5_prime) (by decide +kernel)

end Go.Proofs.Ytmecomgifmkkfaa
