/- The polynomial through given points: the page's way to it, step by step. No program in sight. -/
import Derived.Test.YtmecomgifmkkfaaPolyM
namespace Go.Proofs.Ytmecomgifmkkfaa
set_option linter.unusedVariables false
set_option linter.unusedSimpArgs false

/-- A polynomial times x less a, its first k coefficients done. -/
structure Mid3 (m : Nat) (cs : List Nat) (a k : Nat) (ns : List Nat) : Prop where
  len : ns.length = cs.length + 1
  bd : ∀ c ∈ ns, c < m
  co : ∀ t, ix ns t = if t < k then subM m (if t = 0 then 0 else ix cs (t - 1)) (ix cs t * a % m) else if t = k ∧ 0 < k then ix cs (k - 1) else 0
theorem Mid3.start {m : Nat} (hm : 0 < m) (cs : List Nat) (a n : Nat) (hn : cs.length = n) : Mid3 m cs a 0 (List.replicate (n + 1) 0) := by
  refine ⟨by rw [List.length_replicate, hn], fun c hc => by rw [(List.mem_replicate.1 hc).2]; exact hm, fun t => ?_⟩
  rw [ix_zeros, if_neg (by omega), if_neg (by omega)]
theorem Mid3.step {m : Nat} (hm : 0 < m) {cs ns : List Nat} {a k : Nat} (hb : ∀ c ∈ cs, c < m) (h : Mid3 m cs a k ns) (hk : k < cs.length) :
    Mid3 m cs a (k + 1) ((ns.set (k + 1) ((ix ns (k + 1) + ix cs k) % m)).set k (subM m (ix (ns.set (k + 1) ((ix ns (k + 1) + ix cs k) % m)) k) (ix cs k * a % m))) := by
  have hl := h.len
  have e1 : (ix ns (k + 1) + ix cs k) % m = ix cs k := by
    rw [h.co, if_neg (by omega), if_neg (by omega), Nat.zero_add, Nat.mod_eq_of_lt (ix_ltm hm hb k)]
  have e2 : ix (ns.set (k + 1) ((ix ns (k + 1) + ix cs k) % m)) k = if k = 0 then 0 else ix cs (k - 1) := by
    rw [ix_set (by omega), if_neg (by omega), h.co, if_neg (by omega)]
    by_cases h0 : k = 0
    · rw [if_neg (by omega), if_pos h0]
    · rw [if_pos (by omega), if_neg h0]
  rw [e2, e1]
  refine ⟨by rw [List.length_set, List.length_set, hl], set_lt (set_lt h.bd (ix_ltm hm hb k)) (subM_lt hm), fun t => ?_⟩
  rw [ix_set (by rw [List.length_set]; omega), ix_set (by omega)]
  by_cases ht : t = k
  · subst ht
    rw [if_pos rfl, if_pos (Nat.lt_succ_self t)]
  · rw [if_neg ht]
    by_cases h1 : t = k + 1
    · rw [if_pos h1, if_neg (c := t < k + 1) (by omega), if_pos (c := t = k + 1 ∧ 0 < k + 1) (by omega), Nat.add_sub_cancel]
    · rw [if_neg h1, h.co]
      by_cases h2 : t < k
      · rw [if_pos h2, if_pos (c := t < k + 1) (by omega)]
      · rw [if_neg h2, if_neg (c := t = k ∧ 0 < k) (by omega), if_neg (c := t < k + 1) (by omega), if_neg (c := t = k + 1 ∧ 0 < k + 1) (by omega)]
theorem Mid3.done {m : Nat} (hm : 0 < m) {cs ns : List Nat} {a : Nat} (h : Mid3 m cs a cs.length ns) (hc : 0 < cs.length) (x : Int) : Cg m (pv (ints ns) x) ((x - (a : Nat)) * pv (ints cs) x) := by
  rw [← pv_mulx]
  have z : ∀ t, cs.length ≤ t → ix cs t = 0 := fun t ht => by unfold ix; rw [nthO_eq, List.getElem?_eq_none ht]; rfl
  refine pv_cg (fun t => ?_) x
  have key : ∀ u : Nat, Cg m ((subM m u (ix cs t * a % m) : Nat) : Int) ((u : Int) - (ix cs t : Nat) * (a : Nat)) := fun u =>
    (Cg.diff hm).trans ((Cg.refl _).sub ((Cg.mod _).trans (Cg.of (by rw [Int.natCast_mul]))))
  rw [co_ints, h.co]
  cases t with
  | zero =>
    rw [if_pos hc, if_pos rfl, co_mulx0, co_ints]
    exact (key 0).trans (Cg.of (by grind))
  | succ t =>
    rw [co_mulx, co_ints, co_ints]
    by_cases h1 : t + 1 < cs.length
    · rw [if_pos h1, if_neg (by omega), Nat.add_sub_cancel]
      exact (key _).trans (Cg.of (by grind))
    · rw [if_neg h1, z (t + 1) (by omega)]
      by_cases h2 : t + 1 = cs.length
      · rw [if_pos ⟨h2, hc⟩, ← h2, Nat.add_sub_cancel]; exact Cg.of (by simp)
      · rw [if_neg (by omega), z t (by omega)]; exact Cg.of (by simp)
/-- The product of all x less x_j, for j below the j-th one but the i-th; and what it is worth at x_i. -/
structure Lag (m : Nat) (ss : List (Nat × Nat)) (i j : Nat) (cs : List Nat) (d : Nat) : Prop where
  len : cs.length = if i < j then j else j + 1
  bd : ∀ c ∈ cs, c < m
  dlt : d < m
  dne : ¬ Cg m d 0
  at_ : Cg m (pv (ints cs) ((sx ss i).1 : Nat)) d
  roots : ∀ k, k < j → k ≠ i → Cg m (pv (ints cs) ((sx ss k).1 : Nat)) 0
theorem Lag.start {m : Nat} (hm : 1 < m) (ss : List (Nat × Nat)) (i : Nat) : Lag m ss i 0 [1] 1 := by
  refine ⟨by simp, by simpa using hm, hm, fun h => ?_, Cg.of (by simp [ints, pv]), fun k hk => by omega⟩
  have := Cg.eq (m := m) (a := 1) (b := 0) h (by omega) (by omega)
  omega
theorem Lag.same {m : Nat} {ss : List (Nat × Nat)} {i j : Nat} {cs : List Nat} {d : Nat} (h : Lag m ss i j cs d) (hj : j = i) : Lag m ss i (j + 1) cs d := by
  refine ⟨by have := h.len; (repeat' split at this) <;> (repeat' split) <;> omega, h.bd, h.dlt, h.dne, h.at_, fun k hk hn => h.roots k (by omega) hn⟩
theorem Lag.step {m : Nat} (hp : IsPrime m) {ss : List (Nat × Nat)} (hu : Unlike m (xsS ss) (xsS ss).length) {i j : Nat} {cs ns : List Nat} {d : Nat} (h : Lag m ss i j cs d) (hj : j < ss.length) (hi : i < ss.length) (hn : ¬ j = i)
    (h3 : Mid3 m cs (sx ss j).1 cs.length ns) : Lag m ss i (j + 1) ns (d * subM m (sx ss i).1 (sx ss j).1 % m) := by
  have hm : 0 < m := by have := hp.1; omega
  have hc : 0 < cs.length := by have := h.len; split at this <;> omega
  have hd := h3.done hm hc
  have hdd : Cg m ((d * subM m (sx ss i).1 (sx ss j).1 % m : Nat) : Int) ((d : Nat) * (((sx ss i).1 : Nat) - ((sx ss j).1 : Nat))) := by
    refine (Cg.mod _).trans ?_
    rw [Int.natCast_mul]
    exact (Cg.refl _).mul (Cg.diff hm)
  refine ⟨?_, h3.bd, Nat.mod_lt _ hm, fun h0 => ?_, ?_, fun k hk hkn => ?_⟩
  · have h1 := h.len
    have h2 := h3.len
    (repeat' split at h1) <;> (repeat' split) <;> omega
  · rcases (hdd.symm.trans h0).prod hp with h4 | h4
    · exact h.dne h4
    · have hne : ¬ Cg m (((sx ss i).1 : Nat) : Int) ((sx ss j).1 : Nat) := by
        rcases Nat.lt_or_gt_of_ne hn with h5 | h5
        · exact pts_share hm hu i hi j h5
        · exact fun h6 => pts_share hm hu j hj i h5 h6.symm
      exact hne ((Cg.of (by grind)).trans ((h4.add (Cg.refl (((sx ss j).1 : Nat) : Int))).trans (Cg.of (by grind))))
  · exact (hd _).trans ((Cg.mul (Cg.refl _) h.at_).trans (Cg.trans (Cg.of (by grind)) hdd.symm))
  · refine (hd _).trans ?_
    rcases Nat.lt_or_ge k j with h5 | h5
    · exact (Cg.mul (Cg.refl _) (h.roots k h5 hkn)).trans (Cg.of (by grind))
    · obtain rfl : k = j := by omega
      exact Cg.of (by rw [Int.sub_self, Int.zero_mul])
/-- What the first i of the page's parts are worth together. -/
structure PSum (m : Nat) (ss : List (Nat × Nat)) (i : Nat) (os : List Nat) : Prop where
  len : os.length = ss.length
  bd : ∀ c ∈ os, c < m
  at_ : ∀ k, k < ss.length → Cg m (pv (ints os) ((sx ss k).1 : Nat)) (if k < i then ((sx ss k).2 : Nat) else 0)
theorem PSum.start {m : Nat} (hm : 0 < m) (ss : List (Nat × Nat)) : PSum m ss 0 (List.replicate ss.length 0) := by
  refine ⟨List.length_replicate .., fun c hc => by rw [(List.mem_replicate.1 hc).2]; exact hm, fun k hk => ?_⟩
  rw [if_neg (by omega)]
  exact pv_zero (fun q hq => by
    obtain ⟨n, hn, rfl⟩ := List.mem_map.1 hq
    rw [(List.mem_replicate.1 hn).2]; exact Cg.refl _) _
theorem PSum.step {m : Nat} (hp : IsPrime m) {ss : List (Nat × Nat)} {i : Nat} {os cs qs : List Nat} {d : Nat} (h : PSum m ss i os) (hi : i < ss.length) (hL : Lag m ss i ss.length cs d)
    (h1 : Mid1 m os cs ((sx ss i).2 * (d ^ (m - 2) % m) % m) cs.length qs) : PSum m ss (i + 1) qs := by
  have hm : 0 < m := by have := hp.1; omega
  have hinv := Cg.inv hp hL.dne
  have hkv : Cg m (((sx ss i).2 * (d ^ (m - 2) % m) % m : Nat) : Int) (((sx ss i).2 : Nat) * ((d ^ (m - 2) % m : Nat) : Int)) := (Cg.mod _).trans (Cg.of (by rw [Int.natCast_mul]))
  generalize (sx ss i).2 * (d ^ (m - 2) % m) % m = kv at h1 hkv
  have z : ∀ t, cs.length ≤ t → ix cs t = 0 := fun t ht => by unfold ix; rw [nthO_eq, List.getElem?_eq_none ht]; rfl
  have hq : ∀ x, Cg m (pv (ints qs) x) (pv (ints os) x + kv * pv (ints cs) x) := fun x => by
    rw [← pv_scale, ← pv_addp]
    refine pv_cg (fun t => ?_) x
    rw [co_addp, co_scale, co_ints, co_ints, co_ints, h1.co]
    split
    · refine (Cg.mod _).trans ?_
      rw [Int.natCast_add]
      exact (Cg.refl _).add ((Cg.mod _).trans (Cg.of (by rw [Int.natCast_mul])))
    · rw [z t (by omega)]; exact Cg.of (by simp)
  refine ⟨h1.len.trans h.len, h1.bd, fun k hk => ?_⟩
  refine (hq _).trans ?_
  have hk1 := h.at_ k hk
  by_cases hki : k = i
  · subst hki
    rw [if_neg (by omega)] at hk1
    rw [if_pos (by omega)]
    have h5 := hk1.add (hkv.mul hL.at_)
    exact h5.trans ((Cg.of (by grind)).trans (((Cg.refl (((sx ss k).2 : Nat) : Int)).mul hinv).trans (Cg.of (by grind))))
  · have h5 := hk1.add ((Cg.refl (kv : Int)).mul (hL.roots k hk hki))
    refine h5.trans (Cg.of ?_)
    by_cases h6 : k < i
    · rw [if_pos h6, if_pos (by omega)]; grind
    · rw [if_neg h6, if_neg (by omega)]; grind
theorem PSum.done {m : Nat} {ss : List (Nat × Nat)} {os : List Nat} (h : PSum m ss ss.length os) : Interp m ss os :=
  ⟨h.len, h.bd, fun i hi => by have := h.at_ i hi; rwa [if_pos hi] at this⟩
end Go.Proofs.Ytmecomgifmkkfaa
