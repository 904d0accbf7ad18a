/- Plain mathematics of polynomials modulo a prime: what they are worth, roots, one polynomial through given points, weights. No program in sight. -/
/- The weights' law at the program's weights; what shares tell at 0. No program in sight. -/
/- The polynomial through given points: it is one; the program's way to it, step by step. No program in sight. -/
import Derived.Test.YtmecomgifmkkfaaPolyF
namespace Go.Proofs.Ytmecomgifmkkfaa
set_option linter.unusedVariables false
set_option linter.unusedSimpArgs false

/-- Alike modulo m. -/
def Cg (m : Nat) (a b : Int) : Prop := (m : Int) ∣ a - b
theorem Cg.refl {m : Nat} (a : Int) : Cg m a a := ⟨0, by grind⟩
theorem Cg.of {m : Nat} {a b : Int} (h : a = b) : Cg m a b := h ▸ Cg.refl a
theorem Cg.symm {m : Nat} {a b : Int} (h : Cg m a b) : Cg m b a := by obtain ⟨x, hx⟩ := h; exact ⟨-x, by grind⟩
theorem Cg.trans {m : Nat} {a b c : Int} (h : Cg m a b) (h' : Cg m b c) : Cg m a c := by obtain ⟨x, hx⟩ := h; obtain ⟨y, hy⟩ := h'; exact ⟨x + y, by grind⟩
theorem Cg.add {m : Nat} {a b c d : Int} (h : Cg m a b) (h' : Cg m c d) : Cg m (a + c) (b + d) := by obtain ⟨x, hx⟩ := h; obtain ⟨y, hy⟩ := h'; exact ⟨x + y, by grind⟩
theorem Cg.sub {m : Nat} {a b c d : Int} (h : Cg m a b) (h' : Cg m c d) : Cg m (a - c) (b - d) := by obtain ⟨x, hx⟩ := h; obtain ⟨y, hy⟩ := h'; exact ⟨x - y, by grind⟩
theorem Cg.mul {m : Nat} {a b c d : Int} (h : Cg m a b) (h' : Cg m c d) : Cg m (a * c) (b * d) := by obtain ⟨x, hx⟩ := h; obtain ⟨y, hy⟩ := h'; exact ⟨x * c + b * y, by grind⟩
theorem Cg.mod {m : Nat} (a : Nat) : Cg m ((a % m : Nat) : Int) a := by
  refine ⟨-((a / m : Nat) : Int), ?_⟩
  have : ((m * (a / m) + a % m : Nat) : Int) = a := by rw [Nat.div_add_mod]
  simp only [Int.natCast_add, Int.natCast_mul] at this
  grind
theorem Cg.nat {m a b : Nat} (h : Cg m a b) : a % m = b % m := by
  have := Int.emod_eq_emod_iff_emod_sub_eq_zero.2 (Int.emod_eq_zero_of_dvd h)
  exact_mod_cast this
theorem Cg.eq {m a b : Nat} (h : Cg m a b) (ha : a < m) (hb : b < m) : a = b := by
  have := h.nat
  rwa [Nat.mod_eq_of_lt ha, Nat.mod_eq_of_lt hb] at this
theorem Cg.ofNat {m a b : Nat} (h : a % m = b % m) : Cg m a b := (Cg.mod a).symm.trans (h ▸ Cg.mod b)
theorem Cg.prod {m : Nat} (hp : IsPrime m) {a b : Int} (h : Cg m (a * b) 0) : Cg m a 0 ∨ Cg m b 0 := by
  unfold Cg at h ⊢
  simp only [Int.sub_zero] at h ⊢
  have := Int.natAbs_dvd_natAbs.2 h
  rw [Int.natAbs_mul, Int.natAbs_natCast] at this
  rcases hp.dvd_mul this with h | h
  · exact .inl (Int.natAbs_dvd_natAbs.1 (by simpa using h))
  · exact .inr (Int.natAbs_dvd_natAbs.1 (by simpa using h))
theorem Cg.diff {m a b : Nat} (h : 0 < m) : Cg m (subM m a b : Nat) ((a : Int) - b) := by
  have h1 : Cg m ((subM m a b + b : Nat) : Int) a := Cg.ofNat (subM_add h)
  rw [Int.natCast_add] at h1
  exact (Cg.of (by grind)).trans (h1.sub (Cg.refl (b : Int)))
theorem Cg.inv {m b : Nat} (hp : IsPrime m) (hb : ¬ Cg m b 0) : Cg m (((b ^ (m - 2) % m : Nat) : Int) * b) 1 := by
  have h0 : b % m ≠ 0 := fun h => hb (Cg.ofNat (a := b) (b := 0) (by rw [h, Nat.zero_mod]))
  have := inv_mul hp h0
  have h2 := hp.1
  have h3 : Cg m ((b ^ (m - 2) % m * b : Nat) : Int) (1 : Nat) := Cg.ofNat (by rw [this, Nat.mod_eq_of_lt (by omega)])
  rwa [Int.natCast_mul] at h3

/-- What a polynomial is worth. -/
def pv : List Int → Int → Int
  | [], _ => 0
  | c :: cs, x => c + x * pv cs x
def ints (xs : List Nat) : List Int := xs.map fun (n : Nat) => (n : Int)
theorem ints_len (xs : List Nat) : (ints xs).length = xs.length := by simp [ints]
theorem evalL_ev {m : Nat} (hm : 0 < m) (x : Nat) : ∀ xs : List Nat, Cg m (evalL m xs x : Nat) (pv (ints xs) x)
  | [] => Cg.refl _
  | c :: cs => by
    have ih := evalL_ev hm x cs
    show Cg m (((evalL m cs x * x % m + c) % m : Nat) : Int) ((c : Int) + x * pv (ints cs) x)
    refine (Cg.mod _).trans ?_
    rw [Int.natCast_add]
    refine Cg.trans (Cg.add (Cg.mod _) (Cg.refl _)) ?_
    rw [Int.natCast_mul]
    exact (Cg.add (ih.mul (Cg.refl (x : Int))) (Cg.refl (c : Int))).trans (Cg.of (by grind))
theorem evalL_ltm {m : Nat} (hm : 0 < m) (xs : List Nat) (x : Nat) : evalL m xs x < m := by
  cases xs with
  | nil => exact hm
  | cons c cs => exact Nat.mod_lt _ hm
theorem pv_zero {m : Nat} {p : List Int} (h : ∀ q ∈ p, Cg m q 0) (x : Int) : Cg m (pv p x) 0 := by
  induction p with
  | nil => exact Cg.refl _
  | cons c p ih => exact (Cg.add (h c List.mem_cons_self) ((Cg.refl x).mul (ih fun q hq => h q (List.mem_cons_of_mem _ hq)))).trans (Cg.of (by grind))
/-- The quotient of c :: p and x - a. -/
def sd (a : Int) : List Int → List Int
  | [] => []
  | c :: p => pv (c :: p) a :: sd a p
theorem sd_len (a : Int) : ∀ p, (sd a p).length = p.length
  | [] => rfl
  | c :: p => by rw [sd, List.length_cons, List.length_cons, sd_len a p]
theorem sd_ev (a x : Int) : ∀ p, x * pv p x - a * pv p a = (x - a) * pv (sd a p) x
  | [] => by simp [pv, sd]
  | c :: p => by
    have ih := sd_ev a x p
    rw [sd]
    simp only [pv]
    grind
theorem sd_zero {m : Nat} (a : Int) : ∀ p : List Int, (∀ q ∈ sd a p, Cg m q 0) → ∀ q ∈ p, Cg m q 0
  | [], _ => fun q hq => by cases hq
  | c :: p, h => by
    have h1 := sd_zero a p (fun q hq => h q (List.mem_cons_of_mem _ hq))
    have h2 : Cg m (c + a * pv p a) 0 := h _ List.mem_cons_self
    intro q hq
    rcases List.mem_cons.1 hq with rfl | hq
    · exact (Cg.of (by grind)).trans ((h2.sub ((Cg.refl a).mul (pv_zero h1 a))).trans (Cg.of (by grind)))
    · exact h1 q hq
/-- A polynomial with more roots than its degree is 0. -/
theorem roots_zero {m : Nat} (hp : IsPrime m) (pts : Nat → Int) : ∀ (n : Nat) (p : List Int), p.length ≤ n → (∀ i, i < n → Cg m (pv p (pts i)) 0) → (∀ i, i < n → ∀ k, k < i → ¬ Cg m (pts i) (pts k)) → ∀ q ∈ p, Cg m q 0
  | 0, p, hl, _, _ => fun q hq => by have h0 : p = [] := List.eq_nil_of_length_eq_zero (by omega); rw [h0] at hq; cases hq
  | n + 1, [], hl, h, hu => fun q hq => by cases hq
  | n + 1, c :: p, hl, h, hu => by
    have hz := roots_zero hp pts n (sd (pts n) p) (by rw [sd_len]; simp only [List.length_cons] at hl; omega) (fun i hi => by
      have e := sd_ev (pts n) (pts i) p
      have h1 := h i (by omega)
      have h2 := h n (by omega)
      have h3 : Cg m ((pts i - pts n) * pv (sd (pts n) p) (pts i)) 0 := by
        rw [← e]
        simp only [pv] at h1 h2
        exact (Cg.of (by grind)).trans ((h1.sub h2).trans (Cg.of (by grind)))
      rcases h3.prod hp with h4 | h4
      · exact absurd ((Cg.of (by grind)).trans ((Cg.sub (Cg.refl (pts i)) h4).trans (Cg.of (by grind)))) (hu n (by omega) i hi)
      · exact h4) (fun i hi k hk => hu i (by omega) k hk)
    have h1 := sd_zero (pts n) p hz
    intro q hq
    rcases List.mem_cons.1 hq with rfl | hq
    · have h2 := h n (by omega)
      simp only [pv] at h2
      exact (Cg.of (by grind)).trans ((h2.sub ((Cg.refl (pts n)).mul (pv_zero h1 (pts n)))).trans (Cg.of (by grind)))
    · exact h1 q hq

def addp : List Int → List Int → List Int
  | [], q => q
  | p, [] => p
  | a :: p, b :: q => (a + b) :: addp p q
def scale (k : Int) (p : List Int) : List Int := p.map (k * ·)
theorem addp_nil (p : List Int) : addp p [] = p := by cases p <;> rfl
theorem pv_addp (x : Int) : ∀ p q, pv (addp p q) x = pv p x + pv q x
  | [], q => by simp [addp, pv]
  | a :: p, [] => by simp [addp, pv]
  | a :: p, b :: q => by
    have ih := pv_addp x p q
    simp only [addp, pv]
    grind
theorem pv_scale (k x : Int) : ∀ p, pv (scale k p) x = k * pv p x
  | [] => by simp [scale, pv]
  | a :: p => by
    have ih := pv_scale k x p
    simp only [scale, List.map_cons, pv] at ih ⊢
    grind
theorem addp_len : ∀ p q, (addp p q).length = max p.length q.length
  | [], q => by simp [addp]
  | a :: p, [] => by simp [addp]
  | a :: p, b :: q => by rw [addp, List.length_cons, addp_len p q, List.length_cons, List.length_cons]; omega
theorem scale_len (k : Int) (p : List Int) : (scale k p).length = p.length := by simp [scale]
/-- The i-th coefficient. -/
def co (p : List Int) (i : Nat) : Int := p.getD i 0
theorem co_addp : ∀ (p q : List Int) (i : Nat), co (addp p q) i = co p i + co q i
  | [], q, i => by simp [addp, co]
  | a :: p, [], i => by simp [addp, co]
  | a :: p, b :: q, 0 => by simp [addp, co]
  | a :: p, b :: q, i + 1 => by have := co_addp p q i; simpa [addp, co] using this
theorem co_scale (k : Int) : ∀ (p : List Int) (i : Nat), co (scale k p) i = k * co p i
  | [], i => by simp [scale, co]
  | a :: p, 0 => by simp [scale, co]
  | a :: p, i + 1 => by have := co_scale k p i; simpa [scale, co] using this
theorem co_zero {m : Nat} : ∀ (p : List Int), (∀ q ∈ p, Cg m q 0) → ∀ i, Cg m (co p i) 0
  | [], _, i => by simp only [co, List.getD_nil]; exact Cg.refl _
  | a :: p, h, 0 => h a List.mem_cons_self
  | a :: p, h, i + 1 => co_zero p (fun q hq => h q (List.mem_cons_of_mem _ hq)) i
/-- Two polynomials that are worth the same at enough points. -/
theorem poly_same {m n : Nat} (hp : IsPrime m) (pts : Nat → Int) (hu : ∀ i, i < n → ∀ k, k < i → ¬ Cg m (pts i) (pts k)) {p q : List Int} (hpl : p.length ≤ n) (hql : q.length ≤ n) (h : ∀ i, i < n → Cg m (pv p (pts i)) (pv q (pts i))) :
    (∀ i, Cg m (co p i) (co q i)) ∧ ∀ x, Cg m (pv p x) (pv q x) := by
  have hz := roots_zero hp pts n (addp p (scale (-1) q)) (by rw [addp_len, scale_len]; omega) (fun i hi => by
    rw [pv_addp, pv_scale]
    exact ((h i hi).add (Cg.refl (-1 * pv q (pts i)))).trans (Cg.of (by grind))) hu
  refine ⟨fun i => ?_, fun x => ?_⟩
  · have := co_zero _ hz i
    rw [co_addp, co_scale] at this
    exact (Cg.of (by grind)).trans ((this.add (Cg.refl (co q i))).trans (Cg.of (by grind)))
  · have := pv_zero hz x
    rw [pv_addp, pv_scale] at this
    exact (Cg.of (by grind)).trans ((this.add (Cg.refl (pv q x))).trans (Cg.of (by grind)))

def sumZ (f : Nat → Int) : Nat → Int
  | 0 => 0
  | n + 1 => sumZ f n + f n
theorem sumZ_cg {m : Nat} {f g : Nat → Int} : ∀ n, (∀ i, i < n → Cg m (f i) (g i)) → Cg m (sumZ f n) (sumZ g n)
  | 0, _ => Cg.refl _
  | n + 1, h => (sumZ_cg n fun i hi => h i (by omega)).add (h n (by omega))
theorem sumZ_one {m : Nat} {f : Nat → Int} {k : Nat} : ∀ n, k < n → (∀ i, i < n → i ≠ k → Cg m (f i) 0) → Cg m (sumZ f n) (f k)
  | 0, h, _ => by omega
  | n + 1, h, hz => by
    rcases Nat.lt_or_ge k n with h1 | h1
    · exact ((sumZ_one n h1 fun i hi hn => hz i (by omega) hn).add (hz n (by omega) (by omega))).trans (Cg.of (by grind))
    · obtain rfl : k = n := by omega
      have h0 : Cg m (sumZ f k) (sumZ (fun _ => 0) k) := sumZ_cg k fun i hi => hz i (by omega) (by omega)
      have h00 : ∀ n, sumZ (fun _ => 0) n = 0 := fun n => by induction n with | zero => rfl | succ n ih => rw [sumZ, ih]; rfl
      rw [h00] at h0
      exact (h0.add (Cg.refl (f k))).trans (Cg.of (by grind))
def mulx (a : Int) (p : List Int) : List Int := addp (0 :: p) (scale (-a) p)
theorem pv_mulx (a x : Int) (p : List Int) : pv (mulx a p) x = (x - a) * pv p x := by
  rw [mulx, pv_addp, pv_scale, pv]; grind
theorem mulx_len (a : Int) (p : List Int) : (mulx a p).length = p.length + 1 := by rw [mulx, addp_len, scale_len, List.length_cons]; omega
/-- The product of x - x_j, for all j below k but i. -/
def prodE (pts : Nat → Int) (i : Nat) (x : Int) : Nat → Int
  | 0 => 1
  | k + 1 => if k = i then prodE pts i x k else (x - pts k) * prodE pts i x k
def prodP (pts : Nat → Int) (i : Nat) : Nat → List Int
  | 0 => [1]
  | k + 1 => if k = i then prodP pts i k else mulx (pts k) (prodP pts i k)
theorem prodP_ev (pts : Nat → Int) (i : Nat) (x : Int) : ∀ k, pv (prodP pts i k) x = prodE pts i x k
  | 0 => by simp [prodP, prodE, pv]
  | k + 1 => by
    rw [prodP, prodE]
    split
    · exact prodP_ev pts i x k
    · rw [pv_mulx, prodP_ev pts i x k]
theorem prodP_len (pts : Nat → Int) (i : Nat) : ∀ k, (prodP pts i k).length = if i < k then k else k + 1
  | 0 => by simp [prodP]
  | k + 1 => by
    have ih := prodP_len pts i k
    rw [prodP]
    split
    · rw [ih]; (repeat' split) <;> omega
    · rw [mulx_len, ih]; (repeat' split) <;> omega
theorem prodE_root (pts : Nat → Int) {i j : Nat} (hn : j ≠ i) : ∀ k, j < k → prodE pts i (pts j) k = 0
  | 0, h => by omega
  | k + 1, h => by
    rw [prodE]
    rcases Nat.lt_or_ge j k with h1 | h1
    · rw [prodE_root pts hn k h1]; split <;> simp
    · obtain rfl : j = k := by omega
      rw [if_neg hn, Int.sub_self, Int.zero_mul]
theorem prodE_ne {m : Nat} (hp : IsPrime m) {pts : Nat → Int} {n i : Nat} (hi : i < n) (hu : ∀ i, i < n → ∀ k, k < n → k ≠ i → ¬ Cg m (pts i) (pts k)) : ∀ k, k ≤ n → ¬ Cg m (prodE pts i (pts i) k) 0
  | 0, _ => fun h => by
    have h2 := hp.1
    have := Cg.eq (m := m) (a := 1) (b := 0) h (by omega) (by omega)
    omega
  | k + 1, hk => by
    rw [prodE]
    split
    · exact prodE_ne hp hi hu k (by omega)
    · rename_i hn
      intro h
      rcases h.prod hp with h1 | h1
      · exact hu i hi k (by omega) hn ((Cg.of (by grind)).trans ((h1.add (Cg.refl (pts k))).trans (Cg.of (by grind))))
      · exact prodE_ne hp hi hu k (by omega) h1
def sumP (pts c : Nat → Int) (N : Nat) : Nat → List Int
  | 0 => []
  | i + 1 => addp (sumP pts c N i) (scale (c i) (prodP pts i N))
theorem sumP_ev (pts c : Nat → Int) (N : Nat) (x : Int) : ∀ n, pv (sumP pts c N n) x = sumZ (fun i => c i * prodE pts i x N) n
  | 0 => rfl
  | n + 1 => by rw [sumP, pv_addp, pv_scale, sumP_ev pts c N x n, prodP_ev]; rfl
theorem sumP_len (pts c : Nat → Int) (N : Nat) : ∀ n, n ≤ N → (sumP pts c N n).length ≤ N
  | 0, _ => Nat.zero_le _
  | n + 1, h => by
    have := sumP_len pts c N n (by omega)
    rw [sumP, addp_len, scale_len, prodP_len, if_pos (by omega)]
    omega
/-- The weights' law. -/
theorem weights_law {m n : Nat} (hp : IsPrime m) {pts w : Nat → Int} (hu : ∀ i, i < n → ∀ k, k < n → k ≠ i → ¬ Cg m (pts i) (pts k))
    (hw : ∀ i, i < n → Cg m (w i * prodE pts i (pts i) n) (prodE pts i 0 n)) (hinv : ∀ a : Int, ¬ Cg m a 0 → ∃ b, Cg m (b * a) 1) {p : List Int} (hl : p.length ≤ n) :
    Cg m (sumZ (fun i => w i * pv p (pts i)) n) (pv p 0) := by
  have hi : ∀ i, ∃ b, i < n → Cg m (b * prodE pts i (pts i) n) 1 := fun i => by
    by_cases h : i < n
    · obtain ⟨b, hb⟩ := hinv _ (prodE_ne hp h hu n (Nat.le_refl _))
      exact ⟨b, fun _ => hb⟩
    · exact ⟨0, fun h' => absurd h' h⟩
  have hi : ∃ b : Nat → Int, ∀ i, i < n → Cg m (b i * prodE pts i (pts i) n) 1 := ⟨fun i => (hi i).choose, fun i => (hi i).choose_spec⟩
  obtain ⟨b, hb⟩ := hi
  have hs := (poly_same hp pts (n := n) (fun i hi k hk => hu i hi k (by omega) (by omega)) hl (sumP_len pts (fun i => pv p (pts i) * b i) n n (Nat.le_refl _)) (fun k hk => by
    rw [sumP_ev]
    refine Cg.symm (Cg.trans (sumZ_one n hk (fun i hi hn => ?_)) ?_)
    · rw [prodE_root pts (Ne.symm hn) n hk]; exact Cg.of (by simp)
    · exact (Cg.of (by grind)).trans (((Cg.refl (pv p (pts k))).mul (hb k hk)).trans (Cg.of (by grind))))).2 0
  rw [sumP_ev] at hs
  refine Cg.trans (sumZ_cg n fun i hi => ?_) hs.symm
  have h1 := (Cg.refl (m := m) (pv p (pts i) * b i)).mul (hw i hi)
  have h2 := ((Cg.refl (m := m) (pv p (pts i) * w i)).mul (hb i hi)).symm
  exact (Cg.of (by grind)).trans (h2.trans ((Cg.of (by grind)).trans h1))
end Go.Proofs.Ytmecomgifmkkfaa

namespace Go.Proofs.Ytmecomgifmkkfaa
set_option linter.unusedVariables false
set_option linter.unusedSimpArgs false

def pt (xs : List Nat) (i : Nat) : Int := (ix xs i : Nat)
theorem over_under {m : Nat} (hm : 0 < m) (xs : List Nat) (i : Nat) : ∀ k, ∃ s : Int, Cg m (prodE (pt xs) i 0 k) (s * (overL m xs i k : Nat)) ∧ Cg m (prodE (pt xs) i (pt xs i) k) (s * (underL m xs i k : Nat))
  | 0 => ⟨1, Cg.refl _, Cg.refl _⟩
  | k + 1 => by
    obtain ⟨s, h1, h2⟩ := over_under hm xs i k
    rw [prodE, prodE, overL, underL]
    by_cases h : k = i
    · rw [if_pos h, if_pos h, if_pos h, if_pos h]; exact ⟨s, h1, h2⟩
    · rw [if_neg h, if_neg h, if_neg h, if_neg h]
      refine ⟨-s, ?_, ?_⟩
      · have h3 : Cg m ((overL m xs i k * ix xs k % m : Nat) : Int) ((overL m xs i k : Nat) * (ix xs k : Nat)) := (Cg.mod _).trans (Cg.of (by rw [Int.natCast_mul]))
        refine ((Cg.refl (0 - pt xs k)).mul h1).trans (Cg.trans ?_ ((Cg.refl (-s)).mul h3.symm))
        exact Cg.of (by unfold pt; grind)
      · have h3 : Cg m ((underL m xs i k * subM m (ix xs k) (ix xs i) % m : Nat) : Int) ((underL m xs i k : Nat) * (subM m (ix xs k) (ix xs i) : Nat)) := (Cg.mod _).trans (Cg.of (by rw [Int.natCast_mul]))
        have h4 := h3.trans ((Cg.refl ((underL m xs i k : Nat) : Int)).mul (Cg.diff hm))
        refine ((Cg.refl (pt xs i - pt xs k)).mul h2).trans (Cg.trans ?_ ((Cg.refl (-s)).mul h4.symm))
        exact Cg.of (by unfold pt; grind)
theorem unlike_pts {m : Nat} {xs : List Nat} (hm : 0 < m) (h : Unlike m xs xs.length) : ∀ i, i < xs.length → ∀ k, k < xs.length → k ≠ i → ¬ Cg m (pt xs i) (pt xs k) := fun i hi k hk hn hc =>
  unlike_ne hm h hi hk hn ((subM_zero hm).2 (Cg.nat hc).symm)
theorem weight_cg {m : Nat} (hp : IsPrime m) {xs : List Nat} (hu : Unlike m xs xs.length) {i : Nat} (hi : i < xs.length) : Cg m ((weightAt m xs i : Nat) * prodE (pt xs) i (pt xs i) xs.length) (prodE (pt xs) i 0 xs.length) := by
  have hm : 0 < m := by have := hp.1; omega
  obtain ⟨s, h1, h2⟩ := over_under hm xs i xs.length
  have hne := prodE_ne hp hi (unlike_pts hm hu) xs.length (Nat.le_refl _)
  have hun : ¬ Cg m ((underL m xs i xs.length : Nat) : Int) 0 := fun h => hne (h2.trans (((Cg.refl s).mul h).trans (Cg.of (by grind))))
  have hinv := Cg.inv hp hun
  have hw : Cg m ((weightAt m xs i : Nat) : Int) ((overL m xs i xs.length : Nat) * ((underL m xs i xs.length ^ (m - 2) % m : Nat) : Int)) := (Cg.mod _).trans (Cg.of (by rw [Int.natCast_mul]))
  refine (hw.mul h2).trans (Cg.trans ?_ h1.symm)
  exact (Cg.of (by grind)).trans (((Cg.refl (s * ((overL m xs i xs.length : Nat) : Int))).mul hinv).trans (Cg.of (by grind)))
theorem inv_ex {m : Nat} (hp : IsPrime m) (a : Int) (h : ¬ Cg m a 0) : ∃ b, Cg m (b * a) 1 := by
  have h2 := hp.1
  have ha : Cg m ((a % (m : Int)).toNat : Nat) a := by
    rw [Int.toNat_of_nonneg (Int.emod_nonneg _ (by omega))]
    refine ⟨-(a / (m : Int)), ?_⟩
    have := Int.mul_ediv_add_emod a (m : Int)
    grind
  have := Cg.inv hp (b := (a % (m : Int)).toNat) (fun h0 => h (ha.symm.trans h0))
  exact ⟨_, ((Cg.refl _).mul ha.symm).trans this⟩
theorem ix_weightsTo {m : Nat} {xs : List Nat} {i : Nat} : ∀ n, i < n → ix (weightsTo m xs n) i = weightAt m xs i
  | 0, h => by omega
  | n + 1, h => by
    have hl := weightsTo_len m xs n
    have hl' := weightsTo_len m xs (n + 1)
    rw [ix_eq (by omega)]
    simp only [weightsTo]
    rcases Nat.lt_or_ge i n with h1 | h1
    · rw [List.getElem_append_left (by omega), ← ix_weightsTo n h1, ix_eq (by omega)]
    · obtain rfl : i = n := by omega
      rw [List.getElem_append_right (by omega)]
      simp [hl]
theorem zeroTo_cg {m : Nat} (ws : List Nat) (ss : List (Nat × Nat)) : ∀ n, Cg m (zeroTo m ws ss n : Nat) (sumZ (fun i => ((ix ws i : Nat) : Int) * ((sx ss i).2 : Nat)) n)
  | 0 => Cg.refl _
  | n + 1 => by
    have ih := zeroTo_cg (m := m) ws ss n
    rw [zeroTo, sumZ]
    refine (Cg.mod _).trans ?_
    rw [Int.natCast_add]
    refine ih.add ((Cg.mod _).trans (Cg.of (by rw [Int.natCast_mul])))
theorem zeroTo_ltm {m : Nat} (hm : 0 < m) (ws : List Nat) (ss : List (Nat × Nat)) : ∀ n, zeroTo m ws ss n < m
  | 0 => hm
  | n + 1 => Nat.mod_lt _ hm
theorem pv_co (p : List Int) : pv p 0 = co p 0 := by cases p <;> simp [pv, co]
theorem co_ints (cs : List Nat) (i : Nat) : co (ints cs) i = (ix cs i : Nat) := by
  unfold co ix ints
  rw [nthO_eq, List.getD_eq_getElem?_getD, List.getElem?_map]
  cases cs[i]? <;> rfl
/-- What shares of a polynomial tell at 0. -/
theorem zero_law {m : Nat} (hp : IsPrime m) {ss : List (Nat × Nat)} (hu : Unlike m (xsS ss) (xsS ss).length) {p : List Int} (hl : p.length ≤ ss.length) (hy : ∀ i, i < ss.length → Cg m ((sx ss i).2 : Nat) (pv p ((sx ss i).1 : Nat))) :
    Cg m (zeroTo m (weightsTo m (xsS ss) (xsS ss).length) ss ss.length : Nat) (co p 0) := by
  have hm : 0 < m := by have := hp.1; omega
  have hlen := xsS_len ss
  refine (zeroTo_cg _ _ _).trans ?_
  have hW := weights_law (n := (xsS ss).length) hp (pts := pt (xsS ss)) (w := fun i => (weightAt m (xsS ss) i : Nat)) (unlike_pts hm hu) (fun i hi => weight_cg hp hu hi) (inv_ex hp) (p := p) (by omega)
  rw [pv_co, hlen] at hW
  refine Cg.trans (sumZ_cg _ fun i hi => ?_) hW
  rw [ix_weightsTo _ (by omega)]
  refine (Cg.refl _).mul ?_
  have := hy i hi
  rw [← xsS_ix hi] at this
  exact this
theorem zero_nat {m : Nat} (hp : IsPrime m) {ss : List (Nat × Nat)} (hu : Unlike m (xsS ss) (xsS ss).length) {cs : List Nat} (hl : cs.length ≤ ss.length) (hy : ∀ i, i < ss.length → (sx ss i).2 % m = evalL m cs (sx ss i).1) :
    zeroTo m (weightsTo m (xsS ss) (xsS ss).length) ss ss.length = ix cs 0 % m := by
  have hm : 0 < m := by have := hp.1; omega
  have h := zero_law hp hu (p := ints cs) (by rw [ints_len]; exact hl) (fun i hi => (Cg.ofNat (b := evalL m cs (sx ss i).1) (by rw [hy i hi, Nat.mod_eq_of_lt (evalL_ltm hm _ _)])).trans (evalL_ev hm _ _))
  rw [co_ints] at h
  exact (h.trans (Cg.mod _).symm).eq (zeroTo_ltm hm _ _ _) (Nat.mod_lt _ hm)
end Go.Proofs.Ytmecomgifmkkfaa

namespace Go.Proofs.Ytmecomgifmkkfaa
set_option linter.unusedVariables false
set_option linter.unusedSimpArgs false

/-- cs is the polynomial through the shares. -/
def Interp (m : Nat) (ss : List (Nat × Nat)) (cs : List Nat) : Prop := cs.length = ss.length ∧ (∀ c ∈ cs, c < m) ∧ ∀ i, i < ss.length → Cg m (pv (ints cs) ((sx ss i).1 : Nat)) ((sx ss i).2 : Nat)
noncomputable def thruL (m : Nat) (ss : List (Nat × Nat)) : List Nat := Classical.epsilon (Interp m ss)
theorem ix_ltm {m : Nat} (hm : 0 < m) {xs : List Nat} (hb : ∀ x ∈ xs, x < m) (k : Nat) : ix xs k < m := by
  rcases Nat.lt_or_ge k xs.length with h | h
  · rw [ix_eq h]; exact hb _ (List.getElem_mem h)
  · unfold ix; rw [nthO_eq, List.getElem?_eq_none h]; exact hm
theorem ix_ext {xs ys : List Nat} (hl : xs.length = ys.length) (h : ∀ i, ix xs i = ix ys i) : xs = ys :=
  List.ext_getElem hl fun i h1 h2 => by rw [← ix_eq h1, ← ix_eq h2]; exact h i
theorem pts_share {m : Nat} {ss : List (Nat × Nat)} (hm : 0 < m) (hu : Unlike m (xsS ss) (xsS ss).length) : ∀ i, i < ss.length → ∀ k, k < i → ¬ Cg m (((sx ss i).1 : Nat) : Int) ((sx ss k).1 : Nat) := fun i hi k hk h => by
  have hlen := xsS_len ss
  have := unlike_pts hm hu i (by omega) k (by omega) (by omega)
  unfold pt at this
  rw [xsS_ix hi, xsS_ix (by omega)] at this
  exact this h
theorem interp_one {m : Nat} (hp : IsPrime m) {ss : List (Nat × Nat)} (hu : Unlike m (xsS ss) (xsS ss).length) {a b : List Nat} (ha : Interp m ss a) (hb : Interp m ss b) : a = b := by
  have hm : 0 < m := by have := hp.1; omega
  refine ix_ext (ha.1.trans hb.1.symm) fun i => ?_
  have := (poly_same hp (fun i => (((sx ss i).1 : Nat) : Int)) (pts_share hm hu) (p := ints a) (q := ints b) (by rw [ints_len, ha.1]; exact Nat.le_refl _) (by rw [ints_len, hb.1]; exact Nat.le_refl _) (fun i hi => (ha.2.2 i hi).trans (hb.2.2 i hi).symm)).1 i
  rw [co_ints, co_ints] at this
  exact this.eq (ix_ltm hm ha.2.1 i) (ix_ltm hm hb.2.1 i)
theorem thru_eq {m : Nat} (hp : IsPrime m) {ss : List (Nat × Nat)} (hu : Unlike m (xsS ss) (xsS ss).length) {a : List Nat} (ha : Interp m ss a) : a = thruL m ss :=
  interp_one hp hu ha (Classical.epsilon_spec (p := Interp m ss) ⟨a, ha⟩)
theorem pv_cg {m : Nat} {p q : List Int} (h : ∀ i, Cg m (co p i) (co q i)) (x : Int) : Cg m (pv p x) (pv q x) := by
  have hz : ∀ r ∈ addp p (scale (-1) q), Cg m r 0 := fun r hr => by
    obtain ⟨i, hi, rfl⟩ := List.getElem_of_mem hr
    have : (addp p (scale (-1) q))[i] = co (addp p (scale (-1) q)) i := by unfold co; rw [List.getD_eq_getElem?_getD, List.getElem?_eq_getElem hi]; rfl
    rw [this, co_addp, co_scale]
    exact ((h i).add (Cg.refl (-1 * co q i))).trans (Cg.of (by grind))
  have := pv_zero hz x
  rw [pv_addp, pv_scale] at this
  exact (Cg.of (by grind)).trans ((this.add (Cg.refl (pv q x))).trans (Cg.of (by grind)))
theorem ix_set {xs : List Nat} {k v : Nat} (hk : k < xs.length) (t : Nat) : ix (xs.set k v) t = if t = k then v else ix xs t := by
  unfold ix
  rw [nthO_eq, nthO_eq, List.getElem?_set]
  by_cases h : k = t
  · subst h; simp [hk]
  · rw [if_neg h, if_neg (fun h' => h h'.symm)]
theorem ix_zeros (n t : Nat) : ix (List.replicate n 0) t = 0 := by
  unfold ix
  rw [nthO_eq, List.getElem?_replicate]
  split <;> rfl
theorem co_mulx0 (a : Int) (p : List Int) : co (mulx a p) 0 = -a * co p 0 := by rw [mulx, co_addp, co_scale]; simp [co]
theorem co_mulx (a : Int) (p : List Int) (t : Nat) : co (mulx a p) (t + 1) = co p t - a * co p (t + 1) := by
  rw [mulx, co_addp, co_scale]
  have : co (0 :: p) (t + 1) = co p t := by simp [co]
  rw [this]; grind
theorem set_ltm {xs : List Nat} {k v B : Nat} (h : ∀ x ∈ xs, x < B) (hv : v < B) : ∀ x ∈ xs.set k v, x < B := set_lt h hv

/-- What goes through the first i shares, and the product of all x less their places. -/
structure Newton (m : Nat) (ss : List (Nat × Nat)) (i : Nat) (os al : List Nat) : Prop where
  lo : os.length = ss.length
  la : al.length = ss.length + 1
  bo : ∀ c ∈ os, c < m
  ba : ∀ c ∈ al, c < m
  at_ : ∀ k, k < i → Cg m (pv (ints os) ((sx ss k).1 : Nat)) ((sx ss k).2 : Nat)
  all : ∀ x, Cg m (pv (ints al) x) (prodE (fun k => ((sx ss k).1 : Nat)) ss.length x i)
  above : ∀ j, i < j → ix al j = 0
theorem Newton.start {m : Nat} (hp : IsPrime m) (ss : List (Nat × Nat)) : Newton m ss 0 (List.replicate ss.length 0) ((List.replicate (ss.length + 1) 0).set 0 1) := by
  have h2 := hp.1
  have hz : ∀ n, ∀ c ∈ List.replicate n 0, c < m := fun n c hc => by rw [(List.mem_replicate.1 hc).2]; omega
  refine ⟨List.length_replicate .., by rw [List.length_set, List.length_replicate], hz _, set_lt (hz _) (by omega), fun k hk => by omega, fun x => ?_, fun j hj => ?_⟩
  · refine (pv_cg (q := [1]) (fun i => ?_) x).trans (Cg.of (by simp [pv, prodE]))
    rw [co_ints, ix_set (by rw [List.length_replicate]; omega), ix_zeros]
    cases i with
    | zero => exact Cg.refl _
    | succ i => exact Cg.of (by simp [co])
  · rw [ix_set (by rw [List.length_replicate]; omega), ix_zeros, if_neg (by omega)]
/-- Within: the first j coefficients are summed. -/
structure Mid1 (m : Nat) (os al : List Nat) (kv j : Nat) (qs : List Nat) : Prop where
  len : qs.length = os.length
  bd : ∀ c ∈ qs, c < m
  co : ∀ t, ix qs t = if t < j then (ix os t + kv * ix al t % m) % m else ix os t
theorem Mid1.start {m : Nat} {os al : List Nat} {kv : Nat} (h : ∀ c ∈ os, c < m) : Mid1 m os al kv 0 os := ⟨rfl, h, fun t => by rw [if_neg (by omega)]⟩
theorem Mid1.step {m : Nat} (hm : 0 < m) {os al qs : List Nat} {kv j : Nat} (h : Mid1 m os al kv j qs) (hj : j < os.length) : Mid1 m os al kv (j + 1) (qs.set j ((ix qs j + kv * ix al j % m) % m)) := by
  refine ⟨by rw [List.length_set, h.len], set_lt h.bd (Nat.mod_lt _ hm), fun t => ?_⟩
  rw [ix_set (by rw [h.len]; exact hj)]
  by_cases ht : t = j
  · rw [if_pos ht, if_pos (by omega), h.co, if_neg (by omega), ht]
  · rw [if_neg ht, h.co]
    by_cases h1 : t < j
    · rw [if_pos h1, if_pos (by omega)]
    · rw [if_neg h1, if_neg (by omega)]
/-- Within: the coefficients from the j-th one on are turned. -/
def newAt (m : Nat) (al : List Nat) (x t : Nat) : Nat := subM m (if t = 0 then 0 else ix al (t - 1)) (ix al t * x % m)
structure Mid2 (m : Nat) (al : List Nat) (x i j : Nat) (bs : List Nat) : Prop where
  len : bs.length = al.length
  bd : ∀ c ∈ bs, c < m
  co : ∀ t, ix bs t = if j ≤ t ∧ t ≤ i + 1 then newAt m al x t else ix al t
theorem Mid2.start {m : Nat} {al : List Nat} {x i : Nat} (h : ∀ c ∈ al, c < m) : Mid2 m al x i (i + 2) al := ⟨rfl, h, fun t => by rw [if_neg (by omega)]⟩
theorem Mid2.step {m : Nat} (hm : 0 < m) {al bs : List Nat} {x i j : Nat} (h : Mid2 m al x i (j + 1) bs) (hj : j < al.length) (hi : j ≤ i + 1) {b : Nat} (hb : b = if j = 0 then 0 else ix bs (j - 1)) : Mid2 m al x i j (bs.set j (subM m b (ix bs j * x % m))) := by
  refine ⟨by rw [List.length_set, h.len], set_lt h.bd (subM_lt hm), fun t => ?_⟩
  rw [ix_set (by rw [h.len]; exact hj)]
  by_cases ht : t = j
  · subst ht
    have e : ix bs t = ix al t := by rw [h.co, if_neg (by omega)]
    have e0 : (if t = 0 then 0 else ix bs (t - 1)) = if t = 0 then 0 else ix al (t - 1) := by
      split
      · rfl
      · rw [h.co, if_neg (by omega)]
    rw [if_pos rfl, if_pos ⟨Nat.le_refl _, hi⟩, hb, newAt, e, e0]
  · rw [if_neg ht, h.co]
    by_cases h1 : j + 1 ≤ t ∧ t ≤ i + 1
    · rw [if_pos h1, if_pos (by omega)]
    · rw [if_neg h1, if_neg (by omega)]
theorem Newton.step {m : Nat} (hp : IsPrime m) {ss : List (Nat × Nat)} (hu : Unlike m (xsS ss) (xsS ss).length) {i : Nat} {os al qs bs : List Nat} (h : Newton m ss i os al) (hi : i < ss.length)
    (h1 : Mid1 m os al (subM m (sx ss i).2 (evalL m os (sx ss i).1) * (evalL m al (sx ss i).1 ^ (m - 2) % m) % m) (i + 1) qs) (h2 : Mid2 m al (sx ss i).1 i 0 bs) : Newton m ss (i + 1) qs bs := by
  have hm : 0 < m := by have := hp.1; omega
  generalize hkv : subM m (sx ss i).2 (evalL m os (sx ss i).1) * (evalL m al (sx ss i).1 ^ (m - 2) % m) % m = kv at h1
  have hq : ∀ x, Cg m (pv (ints qs) x) (pv (ints os) x + kv * pv (ints al) x) := fun x => by
    rw [← pv_scale, ← pv_addp]
    refine pv_cg (fun t => ?_) x
    rw [co_addp, co_scale, co_ints, co_ints, co_ints, h1.co]
    split
    · refine (Cg.mod _).trans ?_
      rw [Int.natCast_add]
      exact (Cg.refl _).add ((Cg.mod _).trans (Cg.of (by rw [Int.natCast_mul])))
    · rw [h.above t (by omega)]; exact Cg.of (by simp)
  have hb : ∀ x, Cg m (pv (ints bs) x) ((x - ((sx ss i).1 : Nat)) * pv (ints al) x) := fun x => by
    rw [← pv_mulx]
    refine pv_cg (fun t => ?_) x
    have key : ∀ u : Nat, Cg m ((subM m u (ix al t * (sx ss i).1 % m) : Nat) : Int) ((u : Int) - (ix al t : Nat) * ((sx ss i).1 : Nat)) := fun u =>
      (Cg.diff hm).trans ((Cg.refl _).sub ((Cg.mod _).trans (Cg.of (by rw [Int.natCast_mul]))))
    rw [co_ints, h2.co]
    cases t with
    | zero =>
      rw [if_pos ⟨Nat.zero_le _, Nat.zero_le _⟩, newAt, if_pos rfl, co_mulx0, co_ints]
      exact (key 0).trans (Cg.of (by grind))
    | succ t =>
      rw [co_mulx, co_ints, co_ints]
      split
      · rw [newAt, if_neg (by omega), Nat.add_sub_cancel]
        exact (key _).trans (Cg.of (by grind))
      · rw [h.above (t + 1) (by omega), h.above t (by omega)]; exact Cg.of (by simp)
  have hpr : ∀ k, k ≤ i → ¬ Cg m (prodE (fun k => (((sx ss k).1 : Nat) : Int)) ss.length ((sx ss i).1 : Nat) k) 0 := by
    intro k
    induction k with
    | zero =>
      intro _ h0
      have h2 := hp.1
      have := Cg.eq (m := m) (a := 1) (b := 0) h0 (by omega) (by omega)
      omega
    | succ k ih =>
      intro hk h4
      rw [prodE, if_neg (by omega)] at h4
      rcases h4.prod hp with h5 | h5
      · exact pts_share hm hu i hi k (by omega) ((Cg.of (by grind)).trans ((h5.add (Cg.refl (((sx ss k).1 : Nat) : Int))).trans (Cg.of (by grind))))
      · exact ih (by omega) h5
  have hne : ¬ Cg m (pv (ints al) ((sx ss i).1 : Nat)) 0 := fun h0 => hpr i (Nat.le_refl _) ((h.all _).symm.trans h0)
  have hroot : ∀ k, k < i → prodE (fun k => (((sx ss k).1 : Nat) : Int)) ss.length ((sx ss k).1 : Nat) i = 0 := fun k hk =>
    prodE_root (fun k => (((sx ss k).1 : Nat) : Int)) (by omega) i hk
  refine ⟨h1.len.trans h.lo, h2.len.trans h.la, h1.bd, h2.bd, fun k hk => ?_, fun x => ?_, fun j hj => ?_⟩
  · refine (hq _).trans ?_
    rcases Nat.lt_or_ge k i with hk' | hk'
    · have h3 := h.all ((sx ss k).1 : Nat)
      rw [hroot k hk'] at h3
      exact ((h.at_ k hk').add ((Cg.refl (kv : Int)).mul h3)).trans (Cg.of (by simp))
    · obtain rfl : k = i := by omega
      have e1 := evalL_ev hm (sx ss k).1 os
      have e2 := evalL_ev hm (sx ss k).1 al
      have hinv := Cg.inv hp (b := evalL m al (sx ss k).1) (fun h0 => hne (e2.symm.trans h0))
      have h5 : Cg m (kv : Int) ((((sx ss k).2 : Nat) - (evalL m os (sx ss k).1 : Nat)) * ((evalL m al (sx ss k).1 ^ (m - 2) % m : Nat) : Int)) := by
        rw [← hkv]
        refine (Cg.mod _).trans ?_
        rw [Int.natCast_mul]
        exact (Cg.diff hm).mul (Cg.refl _)
      have h6 := (e1.symm).add (h5.mul e2.symm)
      have h7 := (Cg.refl (m := m) (((sx ss k).2 : Nat) - (evalL m os (sx ss k).1 : Nat) : Int)).mul hinv
      have h8 := (Cg.refl (m := m) ((evalL m os (sx ss k).1 : Nat) : Int)).add h7
      exact h6.trans ((Cg.of (by grind)).trans (h8.trans (Cg.of (by grind))))
  · rw [prodE, if_neg (by omega)]
    exact (hb x).trans ((Cg.refl _).mul (h.all x))
  · rw [h2.co, if_neg (by omega), h.above j (by omega)]
theorem Newton.done {m : Nat} {ss : List (Nat × Nat)} {os al : List Nat} (h : Newton m ss ss.length os al) : Interp m ss os := ⟨h.lo, h.bo, h.at_⟩
end Go.Proofs.Ytmecomgifmkkfaa
