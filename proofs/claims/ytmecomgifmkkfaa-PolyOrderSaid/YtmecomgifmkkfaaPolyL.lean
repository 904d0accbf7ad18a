/- Shares laid one by one; what goes through shares, as the statements ask of it. No program in sight but its prime. -/
import Derived.Test.YtmecomgifmkkfaaPolyI
namespace Go.Proofs.Ytmecomgifmkkfaa
set_option linter.unusedVariables false
set_option linter.unusedSimpArgs false
open Go.RowKit

/-- i shares, the k-th of them f k. -/
def gL (f : Nat → Nat × Nat) : Nat → List (Nat × Nat)
  | 0 => []
  | i + 1 => gL f i ++ [f i]
theorem gL_len (f : Nat → Nat × Nat) : ∀ i, (gL f i).length = i
  | 0 => rfl
  | i + 1 => by rw [gL, List.length_append, gL_len f i]; rfl
theorem gL_row (f : Nat → Nat × Nat) (i : Nat) : shL (gL f (i + 1)) = shL (gL f i) ++ shL [f i] := by rw [gL, shL_append]
theorem gL_at (f : Nat → Nat × Nat) : ∀ i k, k < i → sx (gL f i) k = f k
  | 0, k, h => by omega
  | i + 1, k, h => by
    have hl := gL_len f i
    rw [gL]
    rcases Nat.lt_or_ge k i with h1 | h1
    · rw [sx_append_left (by omega)]; exact gL_at f i k h1
    · rw [sx_append_right (by omega), show k = i by omega]
theorem gL_bound {f : Nat → Nat × Nat} : ∀ {i : Nat}, (∀ k, k < i → (f k).1 < W256 ∧ (f k).2 < W256) → ShBound (gL f i)
  | 0, _ => fun s hs => by cases hs
  | i + 1, h => fun s hs => by
    rcases List.mem_append.1 hs with h1 | h1
    · exact gL_bound (fun k hk => h k (by omega)) s h1
    · obtain rfl := List.mem_singleton.1 h1
      exact h i (by omega)
theorem gL_ext {f g : Nat → Nat × Nat} : ∀ {i : Nat}, (∀ k, k < i → f k = g k) → gL f i = gL g i
  | 0, _ => rfl
  | i + 1, h => by rw [gL, gL, gL_ext (fun k hk => h k (by omega)), h i (by omega)]
theorem sx_ext {xs ys : List (Nat × Nat)} (hl : xs.length = ys.length) (h : ∀ i, i < xs.length → sx xs i = sx ys i) : xs = ys :=
  List.ext_getElem hl fun i h1 h2 => by have := h i h1; rwa [sx_eq h1, sx_eq h2] at this
theorem gL_all (ss : List (Nat × Nat)) : gL (sx ss) ss.length = ss :=
  sx_ext (gL_len _ _) (fun i hi => gL_at _ _ _ (by rwa [gL_len] at hi))
theorem gL_unlike {m : Nat} (hm : 0 < m) {f : Nat → Nat × Nat} {i : Nat} (h : ∀ a, a < i → ∀ b, b < a → (f a).1 % m ≠ (f b).1 % m) : Unlike m (xsS (gL f i)) (xsS (gL f i)).length := by
  have hl := gL_len f i
  intro a ha b hb h0
  rw [xsS_len] at ha
  rw [xsS_ix (by omega), xsS_ix (by omega), gL_at f i a (by omega), gL_at f i b (by omega)] at h0
  exact h a (by omega) b hb ((subM_zero hm).1 h0)
theorem gL_ok {m : Nat} (hm : 0 < m) {f : Nat → Nat × Nat} {i : Nat} (h0 : 0 < i) (h64 : i ≤ 64) (h : ∀ a, a < i → ∀ b, b < a → (f a).1 % m ≠ (f b).1 % m) : wrongI m (xsS (gL f i)) = 0 :=
  wrongI_ok (by rw [xsS_len, gL_len]; omega) (gL_unlike hm h)

/-! ### There is a polynomial through shares at unlike places -/
theorem mid1_ex {m : Nat} (hm : 0 < m) {os al : List Nat} {kv : Nat} (h : ∀ c ∈ os, c < m) : ∀ j, j ≤ os.length → ∃ qs, Mid1 m os al kv j qs
  | 0, _ => ⟨_, Mid1.start h⟩
  | j + 1, hj => by obtain ⟨qs, hq⟩ := mid1_ex hm h (al := al) (kv := kv) j (by omega); exact ⟨_, hq.step hm (by omega)⟩
theorem mid2_ex {m : Nat} (hm : 0 < m) {al : List Nat} {x i : Nat} (h : ∀ c ∈ al, c < m) (hi : i + 2 ≤ al.length) : ∀ d j, j + d = i + 2 → ∃ bs, Mid2 m al x i j bs
  | 0, j, hj => by obtain rfl : j = i + 2 := by omega
                   exact ⟨_, Mid2.start h⟩
  | d + 1, j, hj => by obtain ⟨bs, hb⟩ := mid2_ex hm h (x := x) hi d (j + 1) (by omega); exact ⟨_, hb.step hm (by omega) (by omega) rfl⟩
theorem newton_ex {m : Nat} (hp : IsPrime m) {ss : List (Nat × Nat)} (hu : Unlike m (xsS ss) (xsS ss).length) : ∀ i, i ≤ ss.length → ∃ os al, Newton m ss i os al
  | 0, _ => ⟨_, _, Newton.start hp ss⟩
  | i + 1, hi => by
    have hm : 0 < m := by have := hp.1; omega
    obtain ⟨os, al, h⟩ := newton_ex hp hu i (by omega)
    obtain ⟨qs, h1⟩ := mid1_ex hm (al := al) (kv := subM m (sx ss i).2 (evalL m os (sx ss i).1) * (evalL m al (sx ss i).1 ^ (m - 2) % m) % m) h.bo (i + 1) (by rw [h.lo]; exact hi)
    obtain ⟨bs, h2⟩ := mid2_ex hm (x := (sx ss i).1) (i := i) h.ba (by rw [h.la]; omega) (i + 2) 0 (by omega)
    exact ⟨_, _, h.step hp hu hi h1 h2⟩
theorem thru_interp {m : Nat} (hp : IsPrime m) {ss : List (Nat × Nat)} (hu : Unlike m (xsS ss) (xsS ss).length) : Interp m ss (thruL m ss) := by
  obtain ⟨os, al, h⟩ := newton_ex hp hu ss.length (Nat.le_refl _)
  exact thru_eq hp hu h.done ▸ h.done
section
variable {ss : List (Nat × Nat)} (h : wrongI (modW 1) (xsS ss) = 0)
include h
theorem th_int : Interp (modW 1) ss (thruL (modW 1) ss) := thru_interp (modW_prime ok1) (wrongI_zero h).2
theorem th_len : (thruL (modW 1) ss).length = ss.length := (th_int h).1
theorem th_row {n : Nat} (hl : ss.length = n) : (rowL (thruL (modW 1) ss)).length = n * 4 := by rw [rowL_len, th_len h, hl, Nat.mul_comm]
theorem th_ltm : ∀ c ∈ thruL (modW 1) ss, c < modW 1 := (th_int h).2.1
theorem th_lt : ∀ c ∈ thruL (modW 1) ss, c < W256 := fun c hc => Nat.lt_trans (th_ltm h c hc) (modW_lt 1)
theorem th_at {k : Nat} (hk : k < ss.length) : evalL (modW 1) (thruL (modW 1) ss) (sx ss k).1 = (sx ss k).2 % modW 1 :=
  (((evalL_ev (modW_pos ok1) _ _).trans ((th_int h).2.2 k hk)).trans (Cg.mod _).symm).eq (evalL_ltm (modW_pos ok1) _ _) (Nat.mod_lt _ (modW_pos ok1))
theorem th_ix_lt (k : Nat) : ix (thruL (modW 1) ss) k < modW 1 := ix_ltm (modW_pos ok1) (th_ltm h) k
theorem th_eval0 : evalL (modW 1) (thruL (modW 1) ss) 0 = ix (thruL (modW 1) ss) 0 := by
  have h1 := evalL_ev (modW_pos ok1) 0 (thruL (modW 1) ss)
  have h2 : pv (ints (thruL (modW 1) ss)) ((0 : Nat) : Int) = ((ix (thruL (modW 1) ss) 0 : Nat) : Int) := by rw [← co_ints]; exact pv_co _
  rw [h2] at h1
  exact h1.eq (evalL_ltm (modW_pos ok1) _ _) (th_ix_lt h 0)
theorem th_zero : zeroTo (modW 1) (weightsTo (modW 1) (xsS ss) (xsS ss).length) ss ss.length = ix (thruL (modW 1) ss) 0 := by
  rw [zero_nat (modW_prime ok1) (wrongI_zero h).2 (cs := thruL (modW 1) ss) (Nat.le_of_eq (th_len h)) (fun k hk => (th_at h hk).symm)]
  exact Nat.mod_eq_of_lt (th_ix_lt h 0)
/-- The polynomial itself, where it has as many coefficients, or fewer, as there are shares. -/
theorem th_poly {cs : List Nat} (hl : cs.length = ss.length) (hy : ∀ k, k < ss.length → (sx ss k).2 = evalL (modW 1) cs (sx ss k).1) : thruL (modW 1) ss = cs.map (· % modW 1) := by
  have hm := modW_pos ok1
  refine (thru_eq (modW_prime ok1) (wrongI_zero h).2 ⟨by rw [List.length_map, hl], fun c hc => ?_, fun k hk => ?_⟩).symm
  · obtain ⟨d, _, rfl⟩ := List.mem_map.1 hc
    exact Nat.mod_lt _ hm
  · rw [hy k hk]
    refine Cg.trans ?_ (evalL_ev hm _ _).symm
    refine pv_cg (fun t => ?_) _
    rw [co_ints, co_ints]
    have : ix (cs.map (· % modW 1)) t = ix cs t % modW 1 := by
      unfold ix
      rw [nthO_eq, nthO_eq, List.getElem?_map]
      cases cs[t]? <;> simp
    rw [this]
    exact Cg.mod _
theorem th_zero_poly {cs : List Nat} (hl : cs.length ≤ ss.length) (hy : ∀ k, k < ss.length → (sx ss k).2 = evalL (modW 1) cs (sx ss k).1) : zeroTo (modW 1) (weightsTo (modW 1) (xsS ss) (xsS ss).length) ss ss.length = ix cs 0 % modW 1 :=
  zero_nat (modW_prime ok1) (wrongI_zero h).2 hl (fun k hk => by rw [hy k hk, Nat.mod_eq_of_lt (evalL_ltm (modW_pos ok1) _ _)])
end
end Go.Proofs.Ytmecomgifmkkfaa
