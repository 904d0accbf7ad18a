/- PolyOrder: what shares tell hangs on no order of them; one more share of the same polynomial changes nothing; one that is none of it does; for every input, no condition. -/
import Derived.Test.YtmecomgifmkkfaaPolyK
import Derived.Test.YtmecomgifmkkfaaOpenS
import Derived.Test.YtmecomgifmkkfaaSymB
import Derived.Test.YtmecomgifmkkfaaFieldD
import Derived.Test.YtmecomgifmkkfaaRefB
import Derived.Test.YtmecomgifmkkfaaLimbM
import Derived.Test.YtmecomgifmkkfaaLimbG
import Derived.Test.YtmecomgifmkkfaaLimbB
import Derived.Test.YtmecomgifmkkfaaRows
import Derived.Test.YtmecomgifmkkfaaOpen
import Derived.Test.YtmecomgifmkkfaaFieldL
import Derived.ProofKit
import Derived.OpenShut
namespace Go.Proofs.Ytmecomgifmkkfaa
set_option linter.unusedVariables false
set_option linter.unusedSimpArgs false
open Go.ChangeShapes Go.WideShapes Go.ChangeAt Go.RowKit

theorem wrap_nat {n : Nat} (h : n < 18446744073709551616) : IntKind.u64.wrap (n : Int) = n := by show (n : Int) % 18446744073709551616 = n; omega
theorem iop_add_nat {a b : Nat} (h : a + b < 18446744073709551616) : iop .add .u64 (a : Int) (b : Int) = some (.int .u64 ((a + b : Nat) : Int)) := by
  have e : IntKind.u64.wrap ((a : Int) + b) = ((a + b : Nat) : Int) := by show ((a : Int) + b) % 18446744073709551616 = _; omega
  simp only [iop, e]
theorem iop_wrap_mul {i c : Nat} (hi : i < 18446744073709551616) (h : i * c < 18446744073709551616) : iop .mul .u64 (IntKind.u64.wrap (i : Int)) (c : Int) = some (.int .u64 ((i * c : Nat) : Int)) := by
  have e : IntKind.u64.wrap ((i : Int) * c) = ((i * c : Nat) : Int) := by rw [← Int.natCast_mul]; exact wrap_nat h
  rw [wrap_nat hi]
  simp only [iop, e]
/-- A whole number, as one of 64 bits, and what is left of it. -/
def leftN (x : Int) (m : Nat) : Nat := ((IntKind.u64.wrap x).tmod m).toNat
theorem wrap_pos (x : Int) : 0 ≤ IntKind.u64.wrap x := by show 0 ≤ x % 18446744073709551616; omega
theorem leftN_eq (x : Int) (m : Nat) : (IntKind.u64.wrap x).tmod m = (leftN x m : Nat) := by
  have := wrap_pos x
  unfold leftN
  rw [Int.toNat_of_nonneg (Int.tmod_nonneg _ this)]
theorem leftN_lt (x : Int) {m : Nat} (h : 0 < m) : leftN x m < m := by
  have h1 := leftN_eq x m
  have h2 := Int.tmod_lt_of_pos (IntKind.u64.wrap x) (b := (m : Int)) (by omega)
  omega

theorem unlike_of {m : Nat} (hm : 0 < m) {ss : List (Nat × Nat)} (h : ∀ a, a < ss.length → ∀ b, b < a → (sx ss a).1 % m ≠ (sx ss b).1 % m) : Unlike m (xsS ss) (xsS ss).length := by
  intro a ha b hb h0
  rw [xsS_len] at ha
  rw [xsS_ix (by omega), xsS_ix (by omega)] at h0
  exact h a ha b hb ((subM_zero hm).1 h0)
/-- j shares of the polynomial c, at unlike small places. -/
structure PZ (c : List Nat) (ss : List (Nat × Nat)) (j : Nat) : Prop where
  len : ss.length = j
  pl : ∀ k, k < j → (sx ss k).1 < 100
  ev : ∀ k, k < j → (sx ss k).2 = evalL (modW 1) c (sx ss k).1
  ne : ∀ a, a < j → ∀ b, b < a → (sx ss a).1 ≠ (sx ss b).1
theorem PZ.nil (c : List Nat) : PZ c [] 0 := ⟨rfl, fun k h => by omega, fun k h => by omega, fun a h => by omega⟩
theorem PZ.step {c : List Nat} {ss : List (Nat × Nat)} {j x : Nat} (h : PZ c ss j) (hx : x < 100) (hn : ∀ b, b < j → (sx ss b).1 ≠ x) : PZ c (ss ++ [(x, evalL (modW 1) c x)]) (j + 1) := by
  have hl := h.len
  have at0 : ∀ k, k < j → sx (ss ++ [(x, evalL (modW 1) c x)]) k = sx ss k := fun k hk => sx_append_left (by omega)
  have at1 : sx (ss ++ [(x, evalL (modW 1) c x)]) j = (x, evalL (modW 1) c x) := sx_append_right hl.symm
  refine ⟨by rw [List.length_append, hl]; rfl, fun k hk => ?_, fun k hk => ?_, fun a ha b hb => ?_⟩
  · rcases Nat.lt_or_ge k j with h1 | h1
    · rw [at0 k h1]; exact h.pl k h1
    · rw [show k = j by omega, at1]; exact hx
  · rcases Nat.lt_or_ge k j with h1 | h1
    · rw [at0 k h1]; exact h.ev k h1
    · rw [show k = j by omega, at1]
  · rcases Nat.lt_or_ge a j with h1 | h1
    · rw [at0 a h1, at0 b (by omega)]; exact h.ne a h1 b hb
    · rw [show a = j by omega, at1, at0 b (by omega)]; exact fun e => hn b (by omega) e.symm
theorem PZ.ok {c : List Nat} {ss : List (Nat × Nat)} {j : Nat} (h : PZ c ss j) (h0 : 0 < j) (h64 : j ≤ 64) : wrongI (modW 1) (xsS ss) = 0 :=
  wrongI_ok (by rw [xsS_len, h.len]; omega) (unlike_of (modW_pos ok1) fun a ha b hb => by
    have hm : 100000 < modW 1 := by decide
    have ha' : a < j := by rw [← h.len]; exact ha
    have h1 := h.pl a ha'
    have h2 := h.pl b (by omega)
    rw [Nat.mod_eq_of_lt (by omega), Nat.mod_eq_of_lt (by omega)]
    exact h.ne a ha' b hb)
theorem PZ.bound {c : List Nat} {ss : List (Nat × Nat)} {j : Nat} (h : PZ c ss j) : ShBound ss := fun s hs => by
  obtain ⟨k, hk, rfl⟩ := List.getElem_of_mem hs
  have hk' : k < j := by rw [← h.len]; exact hk
  have h1 := h.pl k hk'
  have h2 := h.ev k hk'
  rw [sx_eq hk] at h1 h2
  exact ⟨by unfold W256; omega, by rw [h2]; exact evalL_lt (modW_pos ok1) (modW_lt 1) _ _⟩
theorem PZ.zero {c : List Nat} {ss : List (Nat × Nat)} {j : Nat} (h : PZ c ss j) (h0 : 0 < j) (h64 : j ≤ 64) (hc : c.length ≤ j) : zeroTo (modW 1) (weightsTo (modW 1) (xsS ss) (xsS ss).length) ss ss.length = ix c 0 % modW 1 :=
  th_zero_poly (h.ok h0 h64) (by rw [h.len]; exact hc) (fun k hk => h.ev k (by rw [← h.len]; exact hk))

/-- The k-th share of the polynomial c, at k + 1. -/
def oS (c : List Nat) (k : Nat) : Nat × Nat := (k + 1, evalL (modW 1) c (k + 1))
theorem oS_pz (c : List Nat) : ∀ {i : Nat}, i < 50 → PZ c (gL (oS c) i) i
  | 0, _ => PZ.nil c
  | i + 1, h => (oS_pz c (i := i) (by omega)).step (x := i + 1) (by omega) (fun b hb => by rw [gL_at _ _ _ hb]; show b + 1 ≠ i + 1; omega)
/-- They, turned. -/
def rS (c : List Nat) (r n k : Nat) : Nat × Nat := oS c ((k + r) % n)
theorem rS_pz (c : List Nat) (r n : Nat) (h0 : 0 < n) (hn : n < 50) : ∀ {p : Nat}, p ≤ n → PZ c (gL (rS c r n) p) p
  | 0, _ => PZ.nil c
  | p + 1, h => by
    have hlt := Nat.mod_lt (p + r) h0
    refine (rS_pz c r n h0 hn (p := p) (by omega)).step (x := (p + r) % n + 1) (by omega) (fun b hb => ?_)
    rw [gL_at _ _ _ hb]
    show (b + r) % n + 1 ≠ (p + r) % n + 1
    intro e
    have h1 := Nat.sub_mod_eq_zero_of_mod_eq (show (p + r) % n = (b + r) % n by omega)
    rw [show p + r - (b + r) = p - b by omega, Nat.mod_eq_of_lt (by omega)] at h1
    omega
theorem rS_last (c : List Nat) (r n p : Nat) (h0 : 0 < n) (b : Nat) (hb : b < p) : (sx (gL (rS c r n) p) b).1 ≠ n + 1 := by
  rw [gL_at _ _ _ hb]
  show (b + r) % n + 1 ≠ n + 1
  have := Nat.mod_lt (b + r) h0
  omega
theorem oS_last (c : List Nat) (n i : Nat) (hi : i ≤ n) (b : Nat) (hb : b < i) : (sx (gL (oS c) i) b).1 ≠ n + 1 := by
  rw [gL_at _ _ _ hb]
  show b + 1 ≠ n + 1
  omega
theorem zeroTo_ext {m : Nat} {ws : List Nat} {a b : List (Nat × Nat)} : ∀ n, (∀ k, k < n → sx a k = sx b k) → zeroTo m ws a n = zeroTo m ws b n
  | 0, _ => rfl
  | n + 1, h => by rw [zeroTo, zeroTo, zeroTo_ext n (fun k hk => h k (by omega)), h n (by omega)]
theorem prodE0_ne {m : Nat} (hp : IsPrime m) {pts : Nat → Int} {n i : Nat} (hu : ∀ k, k < n → k ≠ i → ¬ Cg m (pts k) 0) : ∀ k, k ≤ n → ¬ Cg m (prodE pts i 0 k) 0
  | 0, _ => fun h => by
    have h2 := hp.1
    have := Cg.eq (m := m) (a := 1) (b := 0) h (by omega) (by omega)
    omega
  | k + 1, hk => by
    rw [prodE]
    split
    · exact prodE0_ne hp hu k (by omega)
    · rename_i hn
      intro h
      rcases h.prod hp with h1 | h1
      · exact hu k (by omega) hn ((Cg.of (by grind)).trans (((Cg.refl (0 : Int)).sub h1).trans (Cg.of (by grind))))
      · exact prodE0_ne hp hu k (by omega) h1
theorem small_ne {m x : Nat} (hx : 0 < x) (hm : x < m) : ¬ Cg m (x : Nat) 0 := fun h => by
  have := Cg.eq (m := m) (a := x) (b := 0) h hm (by omega)
  omega
theorem off_places {ss : List (Nat × Nat)} {x y y' : Nat} : xsS (ss ++ [(x, y)]) = xsS (ss ++ [(x, y')]) := by unfold xsS; rw [List.map_append, List.map_append]; rfl
/-- One share more, that is off. -/
theorem off_ok {c : List Nat} {ss : List (Nat × Nat)} {j x y : Nat} (h : PZ c ss j) (hx : x < 100) (hn : ∀ b, b < j → (sx ss b).1 ≠ x) (h63 : j ≤ 63) : wrongI (modW 1) (xsS (ss ++ [(x, y)])) = 0 := by
  rw [off_places (y' := evalL (modW 1) c x)]
  exact (h.step hx hn).ok (by omega) (by omega)
theorem off_iff {c : List Nat} {ss : List (Nat × Nat)} {j x more : Nat} (h : PZ c ss j) (hx : x < 100) (hn : ∀ b, b < j → (sx ss b).1 ≠ x) (h63 : j ≤ 63) (hc : c.length ≤ j) (hp0 : ∀ b, b < j → 0 < (sx ss b).1) (L : List (Nat × Nat)) (hL : L = ss ++ [(x, (evalL (modW 1) c x + more) % modW 1)]) :
    (zeroTo (modW 1) (weightsTo (modW 1) (xsS L) (xsS L).length) L L.length = ix c 0 % modW 1 ↔ more % modW 1 = 0) := by
  have hp := modW_prime ok1
  have hm := modW_pos ok1
  have h0 := h.step hx hn
  have hz := h0.zero (by omega) (by omega) (by omega)
  have e1 : xsS L = xsS (ss ++ [(x, evalL (modW 1) c x)]) := by rw [hL]; exact off_places
  have e2 : L.length = j + 1 := by rw [hL, List.length_append, h.len]; rfl
  rw [e1, e2]
  rw [h0.len] at hz
  have hu := (wrongI_zero (h0.ok (by omega) (by omega))).2
  have hl := h0.len
  have hl2 : (xsS (ss ++ [(x, evalL (modW 1) c x)])).length = j + 1 := by rw [xsS_len, hl]
  have hlx := h.len
  generalize hW : weightsTo (modW 1) (xsS (ss ++ [(x, evalL (modW 1) c x)])) (xsS (ss ++ [(x, evalL (modW 1) c x)])).length = Wt at hz ⊢
  have hs0 : sx (ss ++ [(x, evalL (modW 1) c x)]) j = (x, evalL (modW 1) c x) := sx_append_right hlx.symm
  have hs2 : sx L j = (x, (evalL (modW 1) c x + more) % modW 1) := by rw [hL]; exact sx_append_right hlx.symm
  have hpre : zeroTo (modW 1) Wt L j = zeroTo (modW 1) Wt (ss ++ [(x, evalL (modW 1) c x)]) j := zeroTo_ext j (fun k hk => by rw [hL, sx_append_left (by omega), sx_append_left (by omega)])
  -- the last weight is not 0
  have hwne : ¬ Cg (modW 1) (ix Wt j : Nat) 0 := by
    rw [← hW, ix_weightsTo _ (by omega)]
    intro hc0
    have h5 := weight_cg hp hu (i := j) (by omega)
    refine prodE0_ne hp (pts := pt (xsS (ss ++ [(x, evalL (modW 1) c x)]))) (i := j) (n := j + 1) (fun k hk hkj => ?_) _ (Nat.le_of_eq hl2) (h5.symm.trans ((hc0.mul (Cg.refl _)).trans (Cg.of (by grind))))
    unfold pt
    have hkj' : k < j := by omega
    rw [xsS_ix (by omega), sx_append_left (by omega)]
    have := h.pl k hkj'
    have h1000 : 1000 < modW 1 := by decide
    exact small_ne (hp0 k hkj') (by omega)
  -- the two sums, up to multiples
  have z0 : Cg (modW 1) (zeroTo (modW 1) Wt (ss ++ [(x, evalL (modW 1) c x)]) (j + 1) : Nat) ((zeroTo (modW 1) Wt (ss ++ [(x, evalL (modW 1) c x)]) j : Nat) + (ix Wt j : Nat) * (evalL (modW 1) c x : Nat)) := by
    rw [zeroTo, hs0]
    refine (Cg.mod _).trans ?_
    rw [Int.natCast_add]
    exact (Cg.refl _).add ((Cg.mod _).trans (Cg.of (by rw [Int.natCast_mul])))
  have z2 : Cg (modW 1) (zeroTo (modW 1) Wt L (j + 1) : Nat) ((zeroTo (modW 1) Wt (ss ++ [(x, evalL (modW 1) c x)]) j : Nat) + (ix Wt j : Nat) * ((evalL (modW 1) c x : Nat) + (more : Nat))) := by
    rw [zeroTo, hs2, hpre]
    refine (Cg.mod _).trans ?_
    rw [Int.natCast_add]
    refine (Cg.refl _).add ((Cg.mod _).trans ?_)
    rw [Int.natCast_mul]
    exact (Cg.refl _).mul ((Cg.mod _).trans (Cg.of (by rw [Int.natCast_add])))
  rw [hz] at z0
  have hd : Cg (modW 1) ((zeroTo (modW 1) Wt L (j + 1) : Nat) - ((ix c 0 % modW 1 : Nat) : Int)) ((ix Wt j : Nat) * (more : Nat)) := (z2.sub z0).trans (Cg.of (by grind))
  constructor
  · intro e
    rw [e] at hd
    have h6 : Cg (modW 1) ((ix Wt j : Nat) * (more : Nat)) 0 := hd.symm.trans (Cg.of (by grind))
    rcases h6.prod hp with h7 | h7
    · exact absurd h7 hwne
    · exact (Cg.nat (b := 0) h7).trans (Nat.zero_mod _)
  · intro e
    have h6 : Cg (modW 1) (more : Nat) ((0 : Nat) : Int) := Cg.ofNat (by rw [e, Nat.zero_mod])
    have h7 := hd.trans ((Cg.refl _).mul h6)
    have h8 : Cg (modW 1) (zeroTo (modW 1) Wt L (j + 1) : Nat) ((ix c 0 % modW 1 : Nat) : Int) := (Cg.of (by grind)).trans ((h7.add (Cg.refl ((ix c 0 % modW 1 : Nat) : Int))).trans (Cg.of (by grind)))
    exact h8.eq (zeroTo_ltm hm _ _ _) (Nat.mod_lt _ hm)
theorem off_no {c : List Nat} {ss : List (Nat × Nat)} {j x more : Nat} (h : PZ c ss j) (hx : x < 100) (hn : ∀ b, b < j → (sx ss b).1 ≠ x) (h63 : j ≤ 63) (hc : c.length ≤ j) (hp0 : ∀ b, b < j → 0 < (sx ss b).1) (hs : ¬ more % modW 1 = 0) (L : List (Nat × Nat)) (hL : L = ss ++ [(x, (evalL (modW 1) c x + more) % modW 1)]) :
    ¬ zeroTo (modW 1) (weightsTo (modW 1) (xsS L) (xsS L).length) L L.length = ix c 0 % modW 1 := fun e => hs ((off_iff h hx hn h63 hc hp0 L hL).1 e)
theorem off_yes {c : List Nat} {ss : List (Nat × Nat)} {j x more : Nat} (h : PZ c ss j) (hx : x < 100) (hn : ∀ b, b < j → (sx ss b).1 ≠ x) (h63 : j ≤ 63) (hc : c.length ≤ j) (hp0 : ∀ b, b < j → 0 < (sx ss b).1) (hs : more % modW 1 = 0) (L : List (Nat × Nat)) (hL : L = ss ++ [(x, (evalL (modW 1) c x + more) % modW 1)]) :
    zeroTo (modW 1) (weightsTo (modW 1) (xsS L) (xsS L).length) L L.length = ix c 0 % modW 1 := (off_iff h hx hn h63 hc hp0 L hL).2 hs
theorem oS_pos (c : List Nat) (n b : Nat) (hb : b < n) : 0 < (sx (gL (oS c) n) b).1 := by rw [gL_at _ _ _ hb]; exact Nat.succ_pos _
theorem snoc_bound {ss : List (Nat × Nat)} {p : Nat × Nat} (h : ShBound ss) (h1 : p.1 < W256) (h2 : p.2 < W256) : ShBound (ss ++ [p]) := fun s hs => by
  rcases List.mem_append.1 hs with h3 | h3
  · exact h s h3
  · obtain rfl := List.mem_singleton.1 h3; exact ⟨h1, h2⟩
theorem snoc_len {ss : List (Nat × Nat)} {p : Nat × Nat} {j : Nat} (h : ss.length = j) : (ss ++ [p]).length = j + 1 := by rw [List.length_append, h]; rfl
theorem rS_at (c : List Nat) (r n p i : Nat) (h : (p + r) % n < i) : rS c r n p = sx (gL (oS c) i) ((p + r) % n) := (gL_at _ _ _ h).symm
theorem iop_rem {k : IntKind} {p q : Int} (h : q ≠ 0) : iop .rem k p q = some (.int k (p.tmod q)) := if_neg h
theorem iop_turn {turn : Int} {n : Nat} (h0 : 0 < n) (h : n < 1000) : iop .rem .u64 (IntKind.u64.wrap turn) (IntKind.u64.wrap (n : Int)) = some (.int .u64 ((leftN turn n : Nat) : Int)) := by
  rw [wrap_nat (show n < 18446744073709551616 by omega), iop_rem (by omega), leftN_eq]
theorem iop_add_wrapped {p r : Nat} (hp : p < 1000) (hr : r < 1000) : iop .add .i64 (p : Int) (IntKind.i64.wrap (r : Int)) = some (.int .i64 ((p + r : Nat) : Int)) := by
  rw [wrap_i64 (by omega) (by omega)]
  exact iop_add (by omega) (by omega)
theorem iop_rem_nat {a n : Nat} (h0 : 0 < n) : iop .rem .i64 (a : Int) (n : Int) = some (.int .i64 ((a % n : Nat) : Int)) := by
  rw [iop_rem (by omega), Int.tmod_eq_emod_of_nonneg (by omega), Int.natCast_emod]

set_option maxRecDepth 20000 in
set_option maxHeartbeats 2000000 in
theorem polyOrder_walk (c : List (Nat)) (a_c : Option Addr) (c_c : Nat) (turn : Int) (more : Nat) (w_c : ∀ x ∈ c, x < W256) (hc_c : c.length ≤ c_c) (w_turn : -9223372036854775808 ≤ turn ∧ turn ≤ 9223372036854775807) (w_more : more < W256) (w : World) (hH_c : Holds w a_c (rowL c)) :
    Calls Try.prog 20 #[.slice a_c c.length c_c, .int .i64 turn, numV more] w fun e w' => e = .returned (.bool true) ∧ Below w.heap.size w w' := by
  refine fn_calls (l0 := [(.slice a_c c.length c_c), (.int .i64 turn), (numV more), undef, undef, undef, undef, undef, undef, undef, undef, undef, undef, undef, undef, undef, undef, undef, undef, undef, undef, undef, undef, undef, undef, undef, undef, undef, undef, undef, undef, undef, undef, undef, undef, undef, undef, undef, undef, undef, undef, undef, undef, undef, undef, undef, undef, undef, undef, undef, undef, undef, undef, undef, undef, undef, undef, undef, undef, undef, undef, undef, undef, undef, undef, undef, undef, undef, undef, undef, undef, undef, undef, undef, undef, undef, undef, undef, undef, undef, undef, undef, undef, undef, undef, undef, undef, undef, undef, undef, undef, undef, undef, undef, undef, undef, undef, undef, undef, undef, undef, undef, undef, undef, undef, undef, undef, undef, undef, undef, undef, undef, undef, undef, undef, undef, undef, undef, undef, undef, undef, undef, undef, undef, undef, undef, undef, undef, undef, undef, undef, undef, undef, undef, undef, undef, undef, undef, undef, undef, undef, undef, undef, undef, undef, undef, undef, undef, undef]) Try.func20 rfl rfl [] (St.start w) ?_
  refine sp_seq rfl ?_
  refine sp_region (π := [0, 1]) [] rfl rfl ?_
  refine wkf_boxN more rfl rfl rfl fun β1 => ?_
  dsimp only [putL, setL, List.set_cons_zero, List.set_cons_succ, List.nil_append, List.cons_append]
  refine wk_assign (.bool false) rfl rfl rfl rfl ?_
  dsimp only [putL, setL, List.set_cons_zero, List.set_cons_succ, List.nil_append, List.cons_append]
  refine wk_nil ?_
  refine sp_seq rfl ?_
  refine sp_seq rfl ?_
  refine sp_region (π := [0, 1, 2, 3, 4, 5, 6, 7]) [] rfl rfl ?_
  refine wk_move (.slice a_c c.length c_c) rfl rfl rfl rfl ?_
  dsimp only [putL, setL, List.set_cons_zero, List.set_cons_succ, List.nil_append, List.cons_append]
  refine wk_lenA rfl rfl rfl rfl Try.underlying57 ?_
  dsimp only [putL, setL, List.set_cons_zero, List.set_cons_succ, List.nil_append, List.cons_append]
  by_cases hc2 : ((c.length : Nat) : Int) < 1
  · skip
    refine wk_iop (.bool true) rfl rfl rfl rfl rfl rfl (iop_lss_t hc2) ?_
    dsimp only [putL, setL, List.set_cons_zero, List.set_cons_succ, List.nil_append, List.cons_append]
    refine wk_move (.bool true) rfl rfl rfl rfl ?_
    dsimp only [putL, setL, List.set_cons_zero, List.set_cons_succ, List.nil_append, List.cons_append]
    refine wk_skip rfl rfl (fun h => by cases h) ?_
    dsimp only [putL, setL, List.set_cons_zero, List.set_cons_succ, List.nil_append, List.cons_append]
    refine wk_skip rfl rfl (fun h => by cases h) ?_
    dsimp only [putL, setL, List.set_cons_zero, List.set_cons_succ, List.nil_append, List.cons_append]
    refine wk_skip rfl rfl (fun h => by cases h) ?_
    dsimp only [putL, setL, List.set_cons_zero, List.set_cons_succ, List.nil_append, List.cons_append]
    refine wk_pick true (.bool true) rfl rfl rfl rfl rfl ?_
    dsimp only [putL, setL, List.set_cons_zero, List.set_cons_succ, List.nil_append, List.cons_append]
    refine wk_nil ?_
    refine sp_true rfl rfl ?_
    refine sp_seq rfl ?_
    refine sp_region (π := [0]) [] rfl rfl ?_
    refine wk_assign (.bool true) rfl rfl rfl rfl ?_
    dsimp only [putL, setL, List.set_cons_zero, List.set_cons_succ, List.nil_append, List.cons_append]
    refine wk_nil ?_
    refine sp_ret rfl ?_
    exact ret_tmps (v := .bool true) (fun w' => by kernel_rfl) fun w' hw => ⟨rfl, hw.below⟩
  · skip
    refine wk_iop (.bool false) rfl rfl rfl rfl rfl rfl (iop_lss_f hc2) ?_
    dsimp only [putL, setL, List.set_cons_zero, List.set_cons_succ, List.nil_append, List.cons_append]
    refine wk_move (.bool false) rfl rfl rfl rfl ?_
    dsimp only [putL, setL, List.set_cons_zero, List.set_cons_succ, List.nil_append, List.cons_append]
    refine wk_move (.slice a_c c.length c_c) rfl rfl rfl rfl ?_
    dsimp only [putL, setL, List.set_cons_zero, List.set_cons_succ, List.nil_append, List.cons_append]
    refine wk_lenA rfl rfl rfl rfl Try.underlying57 ?_
    dsimp only [putL, setL, List.set_cons_zero, List.set_cons_succ, List.nil_append, List.cons_append]
    by_cases hc3 : 5 < ((c.length : Nat) : Int)
    · skip
      refine wk_iop (.bool true) rfl rfl rfl rfl rfl rfl (iop_gtr_t hc3) ?_
      dsimp only [putL, setL, List.set_cons_zero, List.set_cons_succ, List.nil_append, List.cons_append]
      refine wk_pick false (.bool true) rfl rfl rfl rfl rfl ?_
      dsimp only [putL, setL, List.set_cons_zero, List.set_cons_succ, List.nil_append, List.cons_append]
      refine wk_nil ?_
      refine sp_true rfl rfl ?_
      refine sp_seq rfl ?_
      refine sp_region (π := [0]) [] rfl rfl ?_
      refine wk_assign (.bool true) rfl rfl rfl rfl ?_
      dsimp only [putL, setL, List.set_cons_zero, List.set_cons_succ, List.nil_append, List.cons_append]
      refine wk_nil ?_
      refine sp_ret rfl ?_
      exact ret_tmps (v := .bool true) (fun w' => by kernel_rfl) fun w' hw => ⟨rfl, hw.below⟩
    · skip
      refine wk_iop (.bool false) rfl rfl rfl rfl rfl rfl (iop_gtr_f hc3) ?_
      dsimp only [putL, setL, List.set_cons_zero, List.set_cons_succ, List.nil_append, List.cons_append]
      refine wk_pick false (.bool false) rfl rfl rfl rfl rfl ?_
      dsimp only [putL, setL, List.set_cons_zero, List.set_cons_succ, List.nil_append, List.cons_append]
      refine wk_nil ?_
      refine sp_false rfl rfl ?_
      refine sp_skip rfl ?_
      refine sp_seq rfl ?_
      refine sp_region (π := [0, 1, 2]) [] rfl rfl ?_
      refine wk_move (.slice a_c c.length c_c) rfl rfl rfl rfl ?_
      dsimp only [putL, setL, List.set_cons_zero, List.set_cons_succ, List.nil_append, List.cons_append]
      refine wk_lenA rfl rfl rfl rfl Try.underlying57 ?_
      dsimp only [putL, setL, List.set_cons_zero, List.set_cons_succ, List.nil_append, List.cons_append]
      refine wk_assign (.int .i64 ((c.length : Nat) : Int)) rfl rfl rfl rfl ?_
      dsimp only [putL, setL, List.set_cons_zero, List.set_cons_succ, List.nil_append, List.cons_append]
      refine wk_nil ?_
      refine sp_seq rfl ?_
      refine sp_region (π := [0, 1]) [] rfl rfl ?_
      refine wk_assign (.slice none 0 0) rfl rfl rfl rfl ?_
      dsimp only [putL, setL, List.set_cons_zero, List.set_cons_succ, List.nil_append, List.cons_append]
      refine wk_assign (.slice none 0 0) rfl rfl rfl rfl ?_
      dsimp only [putL, setL, List.set_cons_zero, List.set_cons_succ, List.nil_append, List.cons_append]
      refine wk_nil ?_
      refine sp_seq rfl ?_
      refine sp_seq rfl ?_
      refine sp_region (π := [0]) [] rfl rfl ?_
      refine wk_assign (.int .i64 0) rfl rfl rfl rfl ?_
      dsimp only [putL, setL, List.set_cons_zero, List.set_cons_succ, List.nil_append, List.cons_append]
      refine wk_nil ?_
      refine sp_block rfl ?_
      refine sp_loopg rfl (fun n l M => ∃ i : Nat, ∃ v : Value, ∃ S : Mem, ∃ d11 : Value, ∃ d33 : Value, ∃ d34 : Value, ∃ d35 : Value, ∃ d36 : Value, ∃ d37 : Value, ∃ d38 : Value, ∃ d39 : Value, ∃ d40 : Value, ∃ d41 : Value, ∃ d42 : Value, ∃ d43 : Value, ∃ d44 : Value, ∃ d45 : Value, ∃ d46 : Value, ∃ d47 : Value, ∃ d48 : Value, ∃ d49 : Value, l = [(.slice a_c c.length c_c), (.int .i64 turn), (numV more), undef, undef, (.pointer (some ⟨β1, 0, none⟩)), (.bool false), (.int .i64 ((c.length : Nat) : Int)), v, (.slice none 0 0), (.int .i64 (i : Int)), d11, undef, undef, undef, undef, undef, undef, undef, undef, undef, undef, undef, (.slice a_c c.length c_c), (.int .i64 ((c.length : Nat) : Int)), (.bool false), (.bool false), (.slice a_c c.length c_c), (.int .i64 ((c.length : Nat) : Int)), (.bool false), (.bool false), (.slice a_c c.length c_c), (.int .i64 ((c.length : Nat) : Int)), d33, d34, d35, d36, d37, d38, d39, d40, d41, d42, d43, d44, d45, d46, d47, d48, d49, undef, undef, undef, undef, undef, undef, undef, undef, undef, undef, undef, undef, undef, undef, undef, undef, undef, undef, undef, undef, undef, undef, undef, undef, undef, undef, undef, undef, undef, undef, undef, undef, undef, undef, undef, undef, undef, undef, undef, undef, undef, undef, undef, undef, undef, undef, undef, undef, undef, undef, undef, undef, undef, undef, undef, undef, undef, undef, undef, undef, undef, undef, undef, undef, undef, undef, undef, undef, undef, undef, undef, undef, undef, undef, undef, undef, undef, undef, undef, undef, undef, undef, undef, undef, undef, undef, undef, undef, undef, undef, undef, undef, undef, undef, undef, undef, undef, undef, undef] ∧ (β1, numO more) :: S = M ∧ (i ≤ c.length) ∧ (OwnS 65 8 v i (shL (gL (oS c) i)) S) ∧ n = c.length - i) (c.length - 0) ?_ ?_
      · exact ⟨0, (.slice none 0 0), [], undef, undef, undef, undef, undef, undef, undef, undef, undef, undef, undef, undef, undef, undef, undef, undef, undef, undef, rfl, rfl, (Nat.zero_le _), (OwnS.nil _ _), rfl⟩
      · skip
        intro n l M
        refine exists_imp.2 fun i => ?_
        refine exists_imp.2 fun v => ?_
        refine exists_imp.2 fun S => ?_
        refine exists_imp.2 fun d11 => ?_
        refine exists_imp.2 fun d33 => ?_
        refine exists_imp.2 fun d34 => ?_
        refine exists_imp.2 fun d35 => ?_
        refine exists_imp.2 fun d36 => ?_
        refine exists_imp.2 fun d37 => ?_
        refine exists_imp.2 fun d38 => ?_
        refine exists_imp.2 fun d39 => ?_
        refine exists_imp.2 fun d40 => ?_
        refine exists_imp.2 fun d41 => ?_
        refine exists_imp.2 fun d42 => ?_
        refine exists_imp.2 fun d43 => ?_
        refine exists_imp.2 fun d44 => ?_
        refine exists_imp.2 fun d45 => ?_
        refine exists_imp.2 fun d46 => ?_
        refine exists_imp.2 fun d47 => ?_
        refine exists_imp.2 fun d48 => ?_
        refine exists_imp.2 fun d49 => ?_
        rintro ⟨rfl, rfl, hf0, hf1, rfl⟩
        refine sp_seq rfl ?_
        refine sp_seq rfl ?_
        refine sp_region (π := [0, 1, 2]) [] rfl rfl ?_
        refine wk_move (.int .i64 (i : Int)) rfl rfl rfl rfl ?_
        dsimp only [putL, setL, List.set_cons_zero, List.set_cons_succ, List.nil_append, List.cons_append]
        refine wk_move (.int .i64 ((c.length : Nat) : Int)) rfl rfl rfl rfl ?_
        dsimp only [putL, setL, List.set_cons_zero, List.set_cons_succ, List.nil_append, List.cons_append]
        by_cases hc4 : (i : Int) < ((c.length : Nat) : Int)
        · skip
          refine wk_iop (.bool true) rfl rfl rfl rfl rfl rfl (iop_lss_t hc4) ?_
          dsimp only [putL, setL, List.set_cons_zero, List.set_cons_succ, List.nil_append, List.cons_append]
          refine wk_nil ?_
          refine sp_true rfl rfl ?_
          refine sp_skip rfl ?_
          refine sp_seq rfl ?_
          refine sp_block rfl ?_
          refine sp_seq rfl ?_
          refine sp_region (π := [0, 1, 2, 3, 4, 5]) [] rfl rfl ?_
          refine wk_move (.int .i64 (i : Int)) rfl rfl rfl rfl ?_
          dsimp only [putL, setL, List.set_cons_zero, List.set_cons_succ, List.nil_append, List.cons_append]
          refine wk_val (.int .u64 (IntKind.u64.wrap (i : Int))) rfl rfl rfl (fun w => by kernel_rfl) ?_
          dsimp only [putL, setL, List.set_cons_zero, List.set_cons_succ, List.nil_append, List.cons_append]
          refine wk_iop (.int .u64 ((i + 1 : Nat) : Int)) rfl rfl rfl rfl rfl rfl (iop_wrap_succ (by omega)) ?_
          dsimp only [putL, setL, List.set_cons_zero, List.set_cons_succ, List.nil_append, List.cons_append]
          refine wk_val (numV (i + 1)) rfl rfl rfl (fun w => by rw [← one_digit (show i + 1 < 18446744073709551616 by omega)]; kernel_rfl) ?_
          dsimp only [putL, setL, List.set_cons_zero, List.set_cons_succ, List.nil_append, List.cons_append]
          refine wkf_newN rfl rfl fun β5 => ?_
          dsimp only [putL, setL, List.set_cons_zero, List.set_cons_succ, List.nil_append, List.cons_append]
          refine wk_stN 0 (i + 1) rfl rfl rfl rfl rfl rfl ?_
          dsimp only [putL, setL, List.set_cons_zero, List.set_cons_succ, List.nil_append, List.cons_append]
          refine wk_nil ?_
          refine sp_draw [0, 1, 2, 3, 4, 5, 6, 7, 8] [] mixed rfl (by kernel_rfl) (by kernel_rfl) ?_
          refine wk_move v rfl rfl rfl rfl ?_
          dsimp only [putL, setL, List.set_cons_zero, List.set_cons_succ, List.nil_append, List.cons_append]
          refine wk_ldN 0 rfl rfl rfl rfl rfl ?_
          dsimp only [putL, setL, List.set_cons_zero, List.set_cons_succ, List.nil_append, List.cons_append]
          refine wk_move (.slice a_c c.length c_c) rfl rfl rfl rfl ?_
          dsimp only [putL, setL, List.set_cons_zero, List.set_cons_succ, List.nil_append, List.cons_append]
          refine wk_ldN 0 rfl rfl rfl rfl rfl ?_
          dsimp only [putL, setL, List.set_cons_zero, List.set_cons_succ, List.nil_append, List.cons_append]
          refine wk_callW [(.slice a_c c.length c_c), (numV (i + 1))] (numV (evalL (modW 1) c (i + 1))) rfl rfl rfl (enters_of Try.func59 (by kernel_rfl) (by kernel_rfl)) rfl (fun M' w' hm hst => eval_calls' c c.length _ _ rfl w_c (by omega) (i + 1) (Nat.lt_trans (show i + 1 < 18446744073709551616 by omega) (by decide)) w' (hH_c.old hst)) ?_
          dsimp only [putL, setL, List.set_cons_zero, List.set_cons_succ, List.nil_append, List.cons_append]
          refine wk_val (shV ((i + 1), (evalL (modW 1) c (i + 1)))) rfl rfl rfl (fun w => by kernel_rfl) ?_
          dsimp only [putL, setL, List.set_cons_zero, List.set_cons_succ, List.nil_append, List.cons_append]
          refine wkf_make (z := shsO [((i + 1), (evalL (modW 1) c (i + 1)))]) (mk := fun β => .slice (some ⟨β, 0, none⟩) 1 1) rfl rfl (fun w => by kernel_rfl) fun β6 => ?_
          dsimp only [putL, setL, List.set_cons_zero, List.set_cons_succ, List.nil_append, List.cons_append]
          refine wk_append (news := (shL [((i + 1), (evalL (modW 1) c (i + 1)))])) (F := [(β6, shsO [((i + 1), (evalL (modW 1) c (i + 1)))]), (β5, numO (i + 1)), (β1, numO more)]) rfl rfl rfl rfl rfl Try.underlying63 shInfo shBytes shZero rfl (by decide) hf1 (List.perm_append_comm (l₁ := [(β6, shsO [((i + 1), (evalL (modW 1) c (i + 1)))]), (β5, numO (i + 1)), (β1, numO more)]) (l₂ := S)) rfl (fun w' hst => shs_holds (List.mem_of_getElem? (i := 0) rfl) hst) (shL_one _) (by omega) (by omega) fun v7 S7 hO7 => ?_
          dsimp only [putL, setL, List.set_cons_zero, List.set_cons_succ, List.nil_append, List.cons_append]
          refine wk_assign v7 rfl rfl rfl rfl ?_
          dsimp only [putL, setL, List.set_cons_zero, List.set_cons_succ, List.nil_append, List.cons_append]
          refine wk_nil ?_
          refine sp_region (π := [0, 1, 2]) [] rfl rfl ?_
          refine wk_move (.int .i64 (i : Int)) rfl rfl rfl rfl ?_
          dsimp only [putL, setL, List.set_cons_zero, List.set_cons_succ, List.nil_append, List.cons_append]
          refine wk_iop (.int .i64 ((i : Int) + 1)) rfl rfl rfl rfl rfl rfl (iop_add (by omega) (by omega)) ?_
          dsimp only [putL, setL, List.set_cons_zero, List.set_cons_succ, List.nil_append, List.cons_append]
          refine wk_assign (.int .i64 ((i : Int) + 1)) rfl rfl rfl rfl ?_
          dsimp only [putL, setL, List.set_cons_zero, List.set_cons_succ, List.nil_append, List.cons_append]
          refine wk_nil ?_
          exact ⟨(β1, numO more) :: S7, _, by exact List.Sublist.cons _ <| List.Sublist.cons _ <| List.Sublist.cons_cons _ <| List.Sublist.refl _, ⟨(i + 1), v7, S7, (.pointer (some ⟨β5, 0, none⟩)), (.int .i64 (i : Int)), (.int .i64 ((c.length : Nat) : Int)), (.bool true), (.int .i64 (i : Int)), (.int .i64 ((i : Int) + 1)), (.int .i64 (i : Int)), (.int .u64 (IntKind.u64.wrap (i : Int))), (.int .u64 ((i + 1 : Nat) : Int)), (numV (i + 1)), v, (numV (i + 1)), (.slice a_c c.length c_c), (numV (i + 1)), (numV (evalL (modW 1) c (i + 1))), (shV ((i + 1), (evalL (modW 1) c (i + 1)))), (.slice (some ⟨β6, 0, none⟩) 1 1), v7, rfl, rfl, (by omega), (by rw [gL_row]; exact hO7), rfl⟩, (by omega)⟩
        · skip
          refine wk_iop (.bool false) rfl rfl rfl rfl rfl rfl (iop_lss_f hc4) ?_
          dsimp only [putL, setL, List.set_cons_zero, List.set_cons_succ, List.nil_append, List.cons_append]
          refine wk_nil ?_
          refine sp_false rfl rfl ?_
          refine sp_exit rfl ?_
          refine sp_seq rfl ?_
          refine sp_seq rfl ?_
          refine sp_region (π := [0]) [] rfl rfl ?_
          refine wk_assign (.int .i64 0) rfl rfl rfl rfl ?_
          dsimp only [putL, setL, List.set_cons_zero, List.set_cons_succ, List.nil_append, List.cons_append]
          refine wk_nil ?_
          refine sp_block rfl ?_
          have hpz := oS_pz c (i := i) (by omega)
          obtain ⟨a8, cp8, hv8, hcp8, hsh8⟩ := hf1.reads
          subst hv8
          refine sp_loopg rfl (fun n l M => ∃ p : Nat, ∃ u : Value, ∃ T : Mem, ∃ d50 : Value, ∃ d51 : Value, ∃ d52 : Value, ∃ d53 : Value, ∃ d54 : Value, ∃ d55 : Value, ∃ d56 : Value, ∃ d57 : Value, ∃ d58 : Value, ∃ d59 : Value, ∃ d60 : Value, ∃ d61 : Value, ∃ d62 : Value, ∃ d63 : Value, ∃ d64 : Value, ∃ d65 : Value, ∃ d66 : Value, ∃ d67 : Value, ∃ d68 : Value, ∃ d69 : Value, ∃ d70 : Value, l = [(.slice a_c c.length c_c), (.int .i64 turn), (numV more), undef, undef, (.pointer (some ⟨β1, 0, none⟩)), (.bool false), (.int .i64 ((c.length : Nat) : Int)), (.slice a8 i cp8), u, (.int .i64 (i : Int)), d11, (.int .i64 (p : Int)), undef, undef, undef, undef, undef, undef, undef, undef, undef, undef, (.slice a_c c.length c_c), (.int .i64 ((c.length : Nat) : Int)), (.bool false), (.bool false), (.slice a_c c.length c_c), (.int .i64 ((c.length : Nat) : Int)), (.bool false), (.bool false), (.slice a_c c.length c_c), (.int .i64 ((c.length : Nat) : Int)), (.int .i64 (i : Int)), (.int .i64 ((c.length : Nat) : Int)), (.bool false), d36, d37, d38, d39, d40, d41, d42, d43, d44, d45, d46, d47, d48, d49, d50, d51, d52, d53, d54, d55, d56, d57, d58, d59, d60, d61, d62, d63, d64, d65, d66, d67, d68, d69, d70, undef, undef, undef, undef, undef, undef, undef, undef, undef, undef, undef, undef, undef, undef, undef, undef, undef, undef, undef, undef, undef, undef, undef, undef, undef, undef, undef, undef, undef, undef, undef, undef, undef, undef, undef, undef, undef, undef, undef, undef, undef, undef, undef, undef, undef, undef, undef, undef, undef, undef, undef, undef, undef, undef, undef, undef, undef, undef, undef, undef, undef, undef, undef, undef, undef, undef, undef, undef, undef, undef, undef, undef, undef, undef, undef, undef, undef, undef] ∧ (β1, numO more) :: (S ++ T) = M ∧ (p ≤ c.length) ∧ (OwnS 65 8 u p (shL (gL (rS c (leftN turn c.length) c.length) p)) T) ∧ n = c.length - p) (c.length - 0) ?_ ?_
          · exact ⟨0, (.slice none 0 0), [], undef, undef, undef, undef, undef, undef, undef, undef, undef, undef, undef, undef, undef, undef, undef, undef, undef, undef, undef, undef, undef, rfl, (by rw [List.append_nil]), (Nat.zero_le _), (OwnS.nil _ _), rfl⟩
          · skip
            intro n l M
            refine exists_imp.2 fun p => ?_
            refine exists_imp.2 fun u => ?_
            refine exists_imp.2 fun T => ?_
            refine exists_imp.2 fun d50 => ?_
            refine exists_imp.2 fun d51 => ?_
            refine exists_imp.2 fun d52 => ?_
            refine exists_imp.2 fun d53 => ?_
            refine exists_imp.2 fun d54 => ?_
            refine exists_imp.2 fun d55 => ?_
            refine exists_imp.2 fun d56 => ?_
            refine exists_imp.2 fun d57 => ?_
            refine exists_imp.2 fun d58 => ?_
            refine exists_imp.2 fun d59 => ?_
            refine exists_imp.2 fun d60 => ?_
            refine exists_imp.2 fun d61 => ?_
            refine exists_imp.2 fun d62 => ?_
            refine exists_imp.2 fun d63 => ?_
            refine exists_imp.2 fun d64 => ?_
            refine exists_imp.2 fun d65 => ?_
            refine exists_imp.2 fun d66 => ?_
            refine exists_imp.2 fun d67 => ?_
            refine exists_imp.2 fun d68 => ?_
            refine exists_imp.2 fun d69 => ?_
            refine exists_imp.2 fun d70 => ?_
            rintro ⟨rfl, rfl, hg0, hg1, rfl⟩
            refine sp_seq rfl ?_
            refine sp_seq rfl ?_
            refine sp_region (π := [0, 1, 2]) [] rfl rfl ?_
            refine wk_move (.int .i64 (p : Int)) rfl rfl rfl rfl ?_
            dsimp only [putL, setL, List.set_cons_zero, List.set_cons_succ, List.nil_append, List.cons_append]
            refine wk_move (.int .i64 ((c.length : Nat) : Int)) rfl rfl rfl rfl ?_
            dsimp only [putL, setL, List.set_cons_zero, List.set_cons_succ, List.nil_append, List.cons_append]
            by_cases hc9 : (p : Int) < ((c.length : Nat) : Int)
            · skip
              refine wk_iop (.bool true) rfl rfl rfl rfl rfl rfl (iop_lss_t hc9) ?_
              dsimp only [putL, setL, List.set_cons_zero, List.set_cons_succ, List.nil_append, List.cons_append]
              refine wk_nil ?_
              refine sp_true rfl rfl ?_
              refine sp_skip rfl ?_
              refine sp_seq rfl ?_
              refine sp_block rfl ?_
              refine sp_region (π := [0, 1, 2, 3, 4, 5, 6, 7, 8, 9, 10, 11, 12, 13, 14, 15, 16]) [] rfl rfl ?_
              refine wk_move u rfl rfl rfl rfl ?_
              dsimp only [putL, setL, List.set_cons_zero, List.set_cons_succ, List.nil_append, List.cons_append]
              refine wk_move (.slice a8 i cp8) rfl rfl rfl rfl ?_
              dsimp only [putL, setL, List.set_cons_zero, List.set_cons_succ, List.nil_append, List.cons_append]
              refine wk_move (.int .i64 (p : Int)) rfl rfl rfl rfl ?_
              dsimp only [putL, setL, List.set_cons_zero, List.set_cons_succ, List.nil_append, List.cons_append]
              refine wk_move (.int .i64 turn) rfl rfl rfl rfl ?_
              dsimp only [putL, setL, List.set_cons_zero, List.set_cons_succ, List.nil_append, List.cons_append]
              refine wk_val (.int .u64 (IntKind.u64.wrap turn)) rfl rfl rfl (fun w => by kernel_rfl) ?_
              dsimp only [putL, setL, List.set_cons_zero, List.set_cons_succ, List.nil_append, List.cons_append]
              refine wk_move (.int .i64 ((c.length : Nat) : Int)) rfl rfl rfl rfl ?_
              dsimp only [putL, setL, List.set_cons_zero, List.set_cons_succ, List.nil_append, List.cons_append]
              refine wk_val (.int .u64 (IntKind.u64.wrap ((c.length : Nat) : Int))) rfl rfl rfl (fun w => by kernel_rfl) ?_
              dsimp only [putL, setL, List.set_cons_zero, List.set_cons_succ, List.nil_append, List.cons_append]
              refine wk_iop (.int .u64 ((leftN turn c.length : Nat) : Int)) rfl rfl rfl rfl rfl rfl (iop_turn (by omega) (by omega)) ?_
              dsimp only [putL, setL, List.set_cons_zero, List.set_cons_succ, List.nil_append, List.cons_append]
              refine wk_val (.int .i64 (IntKind.i64.wrap ((leftN turn c.length : Nat) : Int))) rfl rfl rfl (fun w => by kernel_rfl) ?_
              dsimp only [putL, setL, List.set_cons_zero, List.set_cons_succ, List.nil_append, List.cons_append]
              refine wk_iop (.int .i64 ((p + leftN turn c.length : Nat) : Int)) rfl rfl rfl rfl rfl rfl (iop_add_wrapped (by omega) (Nat.lt_trans (leftN_lt turn (m := c.length) (by omega)) (by omega))) ?_
              dsimp only [putL, setL, List.set_cons_zero, List.set_cons_succ, List.nil_append, List.cons_append]
              refine wk_move (.int .i64 ((c.length : Nat) : Int)) rfl rfl rfl rfl ?_
              dsimp only [putL, setL, List.set_cons_zero, List.set_cons_succ, List.nil_append, List.cons_append]
              refine wk_iop (.int .i64 (((p + leftN turn c.length) % c.length : Nat) : Int)) rfl rfl rfl rfl rfl rfl (iop_rem_nat (by omega)) ?_
              dsimp only [putL, setL, List.set_cons_zero, List.set_cons_succ, List.nil_append, List.cons_append]
              obtain ⟨β10, ha10, hr10⟩ := hsh8.at_ (shL_ne (k := ((p + leftN turn c.length) % c.length)) (by have h0 := hpz.len; have h1 : ((p + leftN turn c.length) % c.length) < i := (Nat.lt_of_lt_of_le (Nat.mod_lt _ (by omega)) (by omega)); omega))
              refine wk_idxA ((p + leftN turn c.length) % c.length) 8 rfl rfl rfl rfl ha10 rfl Try.underlying63 (by kernel_rfl) rfl (Nat.lt_of_lt_of_le (Nat.mod_lt _ (by omega)) (by omega)) ?_
              dsimp only [putL, setL, List.set_cons_zero, List.set_cons_succ, List.nil_append, List.cons_append]
              refine wk_ldSA rfl rfl rfl rfl (fun M' w' hm hst => hr10 w' (fun p hp => hst.own p (hm p (by simp [hp])))) (by have h0 := hpz.len; have h1 : ((p + leftN turn c.length) % c.length) < i := (Nat.lt_of_lt_of_le (Nat.mod_lt _ (by omega)) (by omega)); omega) ?_
              dsimp only [putL, setL, List.set_cons_zero, List.set_cons_succ, List.nil_append, List.cons_append]
              refine wkf_make (z := shsO [(sx (gL (oS c) i) ((p + leftN turn c.length) % c.length))]) (mk := fun β => .slice (some ⟨β, 0, none⟩) 1 1) rfl rfl (fun w => by kernel_rfl) fun β11 => ?_
              dsimp only [putL, setL, List.set_cons_zero, List.set_cons_succ, List.nil_append, List.cons_append]
              refine wk_append (news := (shL [(sx (gL (oS c) i) ((p + leftN turn c.length) % c.length))])) (F := (β11, shsO [(sx (gL (oS c) i) ((p + leftN turn c.length) % c.length))]) :: (β1, numO more) :: S) rfl rfl rfl rfl rfl Try.underlying63 shInfo shBytes shZero rfl (by decide) hg1 (List.perm_append_comm (l₁ := (β11, shsO [(sx (gL (oS c) i) ((p + leftN turn c.length) % c.length))]) :: (β1, numO more) :: S) (l₂ := T)) rfl (fun w' hst => shs_holds (List.mem_of_getElem? (i := 0) rfl) hst) (shL_one _) (by omega) (by omega) fun v12 S12 hO12 => ?_
              dsimp only [putL, setL, List.set_cons_zero, List.set_cons_succ, List.nil_append, List.cons_append]
              try simp only [List.append_assoc]
              refine wk_assign v12 rfl rfl rfl rfl ?_
              dsimp only [putL, setL, List.set_cons_zero, List.set_cons_succ, List.nil_append, List.cons_append]
              refine wk_nil ?_
              refine sp_region (π := [0, 1, 2]) [] rfl rfl ?_
              refine wk_move (.int .i64 (p : Int)) rfl rfl rfl rfl ?_
              dsimp only [putL, setL, List.set_cons_zero, List.set_cons_succ, List.nil_append, List.cons_append]
              refine wk_iop (.int .i64 ((p : Int) + 1)) rfl rfl rfl rfl rfl rfl (iop_add (by omega) (by omega)) ?_
              dsimp only [putL, setL, List.set_cons_zero, List.set_cons_succ, List.nil_append, List.cons_append]
              refine wk_assign (.int .i64 ((p : Int) + 1)) rfl rfl rfl rfl ?_
              dsimp only [putL, setL, List.set_cons_zero, List.set_cons_succ, List.nil_append, List.cons_append]
              refine wk_nil ?_
              exact ⟨(β1, numO more) :: (S ++ S12), _, by exact List.Sublist.cons _ <| List.Sublist.cons_cons _ <| List.Sublist.refl _, ⟨(p + 1), v12, S12, (.int .i64 (p : Int)), (.int .i64 ((c.length : Nat) : Int)), (.bool true), (.int .i64 (p : Int)), (.int .i64 ((p : Int) + 1)), u, (.slice a8 i cp8), (.int .i64 (p : Int)), (.int .i64 turn), (.int .u64 (IntKind.u64.wrap turn)), (.int .i64 ((c.length : Nat) : Int)), (.int .u64 (IntKind.u64.wrap ((c.length : Nat) : Int))), (.int .u64 ((leftN turn c.length : Nat) : Int)), (.int .i64 (IntKind.i64.wrap ((leftN turn c.length : Nat) : Int))), (.int .i64 ((p + leftN turn c.length : Nat) : Int)), (.int .i64 ((c.length : Nat) : Int)), (.int .i64 (((p + leftN turn c.length) % c.length : Nat) : Int)), (.pointer (some ⟨β10, 0 + ((p + leftN turn c.length) % c.length) * 8, none⟩)), (shV (sx (gL (oS c) i) ((p + leftN turn c.length) % c.length))), (.slice (some ⟨β11, 0, none⟩) 1 1), v12, rfl, rfl, (by omega), (by rw [gL_row, rS_at c _ c.length p i (Nat.lt_of_lt_of_le (Nat.mod_lt _ (by omega)) (by omega))]; exact hO12), rfl⟩, (by omega)⟩
            · skip
              refine wk_iop (.bool false) rfl rfl rfl rfl rfl rfl (iop_lss_f hc9) ?_
              dsimp only [putL, setL, List.set_cons_zero, List.set_cons_succ, List.nil_append, List.cons_append]
              refine wk_nil ?_
              refine sp_false rfl rfl ?_
              refine sp_exit rfl ?_
              refine sp_seq rfl ?_
              refine sp_region (π := [0, 1, 2, 3, 4, 5]) [] rfl rfl ?_
              refine wk_move (.int .i64 ((c.length : Nat) : Int)) rfl rfl rfl rfl ?_
              dsimp only [putL, setL, List.set_cons_zero, List.set_cons_succ, List.nil_append, List.cons_append]
              refine wk_val (.int .u64 (IntKind.u64.wrap ((c.length : Nat) : Int))) rfl rfl rfl (fun w => by kernel_rfl) ?_
              dsimp only [putL, setL, List.set_cons_zero, List.set_cons_succ, List.nil_append, List.cons_append]
              refine wk_iop (.int .u64 ((c.length + 1 : Nat) : Int)) rfl rfl rfl rfl rfl rfl (iop_wrap_succ (by omega)) ?_
              dsimp only [putL, setL, List.set_cons_zero, List.set_cons_succ, List.nil_append, List.cons_append]
              refine wk_val (numV (c.length + 1)) rfl rfl rfl (fun w => by rw [← one_digit (show c.length + 1 < 18446744073709551616 by omega)]; kernel_rfl) ?_
              dsimp only [putL, setL, List.set_cons_zero, List.set_cons_succ, List.nil_append, List.cons_append]
              refine wkf_newN rfl rfl fun β13 => ?_
              dsimp only [putL, setL, List.set_cons_zero, List.set_cons_succ, List.nil_append, List.cons_append]
              refine wk_stN 0 (c.length + 1) rfl rfl rfl rfl rfl rfl ?_
              dsimp only [putL, setL, List.set_cons_zero, List.set_cons_succ, List.nil_append, List.cons_append]
              refine wk_nil ?_
              refine sp_seq rfl ?_
              refine sp_region (π := [0, 1, 2, 3, 4, 5, 6, 7]) [] rfl rfl ?_
              refine wk_move (.slice a8 i cp8) rfl rfl rfl rfl ?_
              dsimp only [putL, setL, List.set_cons_zero, List.set_cons_succ, List.nil_append, List.cons_append]
              refine wk_callW [(.slice a8 i cp8)] (.tuple #[(numV (ix c 0 % modW 1)), (.int .i64 0)]) rfl rfl rfl (enters_of Try.func62 (by kernel_rfl) (by kernel_rfl)) rfl (fun M' w' hm hst => (conv_post (by rw [hpz.zero (by omega) (by omega) (by omega)]) (zero_ok (gL (oS c) i) i _ _ hpz.len hpz.bound (by omega) hcp8 (hpz.ok (by omega) (by omega)) w' (hsh8.holds hst (fun p hp => hm p (by simp [hp])))))) ?_
              dsimp only [putL, setL, List.set_cons_zero, List.set_cons_succ, List.nil_append, List.cons_append]
              refine wk_move (.tuple #[(numV (ix c 0 % modW 1)), (.int .i64 0)]) rfl rfl rfl rfl ?_
              dsimp only [putL, setL, List.set_cons_zero, List.set_cons_succ, List.nil_append, List.cons_append]
              refine wk_ext (numV (ix c 0 % modW 1)) rfl rfl rfl rfl rfl ?_
              dsimp only [putL, setL, List.set_cons_zero, List.set_cons_succ, List.nil_append, List.cons_append]
              refine wk_ext (.int .i64 0) rfl rfl rfl rfl rfl ?_
              dsimp only [putL, setL, List.set_cons_zero, List.set_cons_succ, List.nil_append, List.cons_append]
              refine wkf_newN rfl rfl fun β14 => ?_
              dsimp only [putL, setL, List.set_cons_zero, List.set_cons_succ, List.nil_append, List.cons_append]
              refine wk_stN 0 (ix c 0 % modW 1) rfl rfl rfl rfl rfl rfl ?_
              dsimp only [putL, setL, List.set_cons_zero, List.set_cons_succ, List.nil_append, List.cons_append]
              refine wk_assign (.int .i64 0) rfl rfl rfl rfl ?_
              dsimp only [putL, setL, List.set_cons_zero, List.set_cons_succ, List.nil_append, List.cons_append]
              refine wk_nil ?_
              refine sp_seq rfl ?_
              refine sp_region (π := [0, 1, 2, 3, 4, 5, 6, 7]) [] rfl rfl ?_
              refine wk_move u rfl rfl rfl rfl ?_
              dsimp only [putL, setL, List.set_cons_zero, List.set_cons_succ, List.nil_append, List.cons_append]
              have hrz := rS_pz c (leftN turn c.length) c.length (by omega) (by omega) (p := p) (by omega)
              obtain ⟨a15, cp15, hv15, hcp15, hsh15⟩ := hg1.reads
              subst hv15
              refine wk_callW [(.slice a15 p cp15)] (.tuple #[(numV (ix c 0 % modW 1)), (.int .i64 0)]) rfl rfl rfl (enters_of Try.func62 (by kernel_rfl) (by kernel_rfl)) rfl (fun M' w' hm hst => (conv_post (by rw [hrz.zero (by omega) (by omega) (by omega)]) (zero_ok (gL (rS c (leftN turn c.length) c.length) p) p _ _ hrz.len hrz.bound (by omega) hcp15 (hrz.ok (by omega) (by omega)) w' (hsh15.holds hst (fun p hp => hm p (by simp [hp])))))) ?_
              dsimp only [putL, setL, List.set_cons_zero, List.set_cons_succ, List.nil_append, List.cons_append]
              refine wk_move (.tuple #[(numV (ix c 0 % modW 1)), (.int .i64 0)]) rfl rfl rfl rfl ?_
              dsimp only [putL, setL, List.set_cons_zero, List.set_cons_succ, List.nil_append, List.cons_append]
              refine wk_ext (numV (ix c 0 % modW 1)) rfl rfl rfl rfl rfl ?_
              dsimp only [putL, setL, List.set_cons_zero, List.set_cons_succ, List.nil_append, List.cons_append]
              refine wk_ext (.int .i64 0) rfl rfl rfl rfl rfl ?_
              dsimp only [putL, setL, List.set_cons_zero, List.set_cons_succ, List.nil_append, List.cons_append]
              refine wkf_newN rfl rfl fun β16 => ?_
              dsimp only [putL, setL, List.set_cons_zero, List.set_cons_succ, List.nil_append, List.cons_append]
              refine wk_stN 0 (ix c 0 % modW 1) rfl rfl rfl rfl rfl rfl ?_
              dsimp only [putL, setL, List.set_cons_zero, List.set_cons_succ, List.nil_append, List.cons_append]
              refine wk_assign (.int .i64 0) rfl rfl rfl rfl ?_
              dsimp only [putL, setL, List.set_cons_zero, List.set_cons_succ, List.nil_append, List.cons_append]
              refine wk_nil ?_
              refine sp_seq rfl ?_
              refine sp_draw [0, 1, 2, 3, 4, 5, 6, 7, 8, 9, 10, 11, 12, 13, 14] [(7, .V)] mixed rfl (by kernel_rfl) (by kernel_rfl) ?_
              refine wk_move (.slice a15 p cp15) rfl rfl rfl rfl ?_
              dsimp only [putL, setL, List.set_cons_zero, List.set_cons_succ, List.nil_append, List.cons_append]
              refine wk_ldN 2 rfl rfl rfl rfl rfl ?_
              dsimp only [putL, setL, List.set_cons_zero, List.set_cons_succ, List.nil_append, List.cons_append]
              refine wk_move (.slice a_c c.length c_c) rfl rfl rfl rfl ?_
              dsimp only [putL, setL, List.set_cons_zero, List.set_cons_succ, List.nil_append, List.cons_append]
              refine wk_ldN 2 rfl rfl rfl rfl rfl ?_
              dsimp only [putL, setL, List.set_cons_zero, List.set_cons_succ, List.nil_append, List.cons_append]
              refine wk_callW [(.slice a_c c.length c_c), (numV (c.length + 1))] (numV (evalL (modW 1) c (c.length + 1))) rfl rfl rfl (enters_of Try.func59 (by kernel_rfl) (by kernel_rfl)) rfl (fun M' w' hm hst => eval_calls' c c.length _ _ rfl w_c (by omega) (c.length + 1) (Nat.lt_trans (show c.length + 1 < 18446744073709551616 by omega) (by decide)) w' (hH_c.old hst)) ?_
              dsimp only [putL, setL, List.set_cons_zero, List.set_cons_succ, List.nil_append, List.cons_append]
              refine wk_val (shV ((c.length + 1), (evalL (modW 1) c (c.length + 1)))) rfl rfl rfl (fun w => by kernel_rfl) ?_
              dsimp only [putL, setL, List.set_cons_zero, List.set_cons_succ, List.nil_append, List.cons_append]
              refine wkf_make (z := shsO [((c.length + 1), (evalL (modW 1) c (c.length + 1)))]) (mk := fun β => .slice (some ⟨β, 0, none⟩) 1 1) rfl rfl (fun w => by kernel_rfl) fun β17 => ?_
              dsimp only [putL, setL, List.set_cons_zero, List.set_cons_succ, List.nil_append, List.cons_append]
              refine wk_appendV (news := (shL [((c.length + 1), (evalL (modW 1) c (c.length + 1)))])) (F := (β17, shsO [((c.length + 1), (evalL (modW 1) c (c.length + 1)))]) :: (β16, numO (ix c 0 % modW 1)) :: (β14, numO (ix c 0 % modW 1)) :: (β13, numO (c.length + 1)) :: (β1, numO more) :: S) rfl rfl rfl rfl rfl Try.underlying63 shInfo shBytes shZero rfl (by decide) hg1 (List.perm_append_comm (l₁ := (β17, shsO [((c.length + 1), (evalL (modW 1) c (c.length + 1)))]) :: (β16, numO (ix c 0 % modW 1)) :: (β14, numO (ix c 0 % modW 1)) :: (β13, numO (c.length + 1)) :: (β1, numO more) :: S) (l₂ := T)) (by simp only [maxLen]; omega) rfl (fun w' hst => shs_holds (List.mem_of_getElem? (i := 0) rfl) hst) (shL_one _) (by omega) (by omega) fun v18 S18 hO18 => ?_
              dsimp only [putL, setL, List.set_cons_zero, List.set_cons_succ, List.nil_append, List.cons_append]
              try simp only [List.append_assoc]
              have hrz2 := hrz.step (x := (c.length + 1)) (by omega) (rS_last c (leftN turn c.length) c.length p (by omega))
              obtain ⟨a19, cp19, hv19, hcp19, hsh19⟩ := hO18.reads
              subst hv19
              rw [← shL_append] at hsh19
              refine wk_callW [(.slice a19 (p + 1) cp19)] (.tuple #[(numV (ix c 0 % modW 1)), (.int .i64 0)]) rfl rfl rfl (enters_of Try.func62 (by kernel_rfl) (by kernel_rfl)) rfl (fun M' w' hm hst => (conv_post (by rw [hrz2.zero (by omega) (by omega) (by omega)]) (zero_ok ((gL (rS c (leftN turn c.length) c.length) p) ++ [((c.length + 1), (evalL (modW 1) c (c.length + 1)))]) (p + 1) _ _ hrz2.len hrz2.bound (by omega) hcp19 (hrz2.ok (by omega) (by omega)) w' (hsh19.holds hst (fun p hp => hm p (by simp [hp])))))) ?_
              dsimp only [putL, setL, List.set_cons_zero, List.set_cons_succ, List.nil_append, List.cons_append]
              refine wk_move (.tuple #[(numV (ix c 0 % modW 1)), (.int .i64 0)]) rfl rfl rfl rfl ?_
              dsimp only [putL, setL, List.set_cons_zero, List.set_cons_succ, List.nil_append, List.cons_append]
              refine wk_ext (numV (ix c 0 % modW 1)) rfl rfl rfl rfl rfl ?_
              dsimp only [putL, setL, List.set_cons_zero, List.set_cons_succ, List.nil_append, List.cons_append]
              refine wk_ext (.int .i64 0) rfl rfl rfl rfl rfl ?_
              dsimp only [putL, setL, List.set_cons_zero, List.set_cons_succ, List.nil_append, List.cons_append]
              refine wkf_newN rfl rfl fun β20 => ?_
              dsimp only [putL, setL, List.set_cons_zero, List.set_cons_succ, List.nil_append, List.cons_append]
              refine wk_stN 0 (ix c 0 % modW 1) rfl rfl rfl rfl rfl rfl ?_
              dsimp only [putL, setL, List.set_cons_zero, List.set_cons_succ, List.nil_append, List.cons_append]
              refine wk_assign (.int .i64 0) rfl rfl rfl rfl ?_
              dsimp only [putL, setL, List.set_cons_zero, List.set_cons_succ, List.nil_append, List.cons_append]
              refine wk_nil ?_
              refine sp_seq rfl ?_
              refine sp_draw [0, 1, 2, 3, 5, 4, 6, 7, 8, 9, 10, 11, 12, 13, 14, 15, 16] [(9, .V)] mixed rfl (by kernel_rfl) (by kernel_rfl) ?_
              refine wk_move (.slice a8 i cp8) rfl rfl rfl rfl ?_
              dsimp only [putL, setL, List.set_cons_zero, List.set_cons_succ, List.nil_append, List.cons_append]
              refine wk_ldN 4 rfl rfl rfl rfl rfl ?_
              dsimp only [putL, setL, List.set_cons_zero, List.set_cons_succ, List.nil_append, List.cons_append]
              refine wk_move (.slice a_c c.length c_c) rfl rfl rfl rfl ?_
              dsimp only [putL, setL, List.set_cons_zero, List.set_cons_succ, List.nil_append, List.cons_append]
              refine wk_ldN 4 rfl rfl rfl rfl rfl ?_
              dsimp only [putL, setL, List.set_cons_zero, List.set_cons_succ, List.nil_append, List.cons_append]
              refine wk_ldN 5 rfl rfl rfl rfl rfl ?_
              dsimp only [putL, setL, List.set_cons_zero, List.set_cons_succ, List.nil_append, List.cons_append]
              refine wk_callW [(.slice a_c c.length c_c), (numV (c.length + 1))] (numV (evalL (modW 1) c (c.length + 1))) rfl rfl rfl (enters_of Try.func59 (by kernel_rfl) (by kernel_rfl)) rfl (fun M' w' hm hst => eval_calls' c c.length _ _ rfl w_c (by omega) (c.length + 1) (Nat.lt_trans (show c.length + 1 < 18446744073709551616 by omega) (by decide)) w' (hH_c.old hst)) ?_
              dsimp only [putL, setL, List.set_cons_zero, List.set_cons_succ, List.nil_append, List.cons_append]
              refine wk_call [(.int .i64 1), (numV (evalL (modW 1) c (c.length + 1))), (numV more)] (numV (((evalL (modW 1) c (c.length + 1)) + more) % modW 1)) rfl rfl rfl (enters_of Try.func47 (by kernel_rfl) (by kernel_rfl)) rfl (fadd_ok 1 (evalL (modW 1) c (c.length + 1)) more ok1 (evalL_lt (modW_pos ok1) (modW_lt 1) _ _) w_more) ?_
              dsimp only [putL, setL, List.set_cons_zero, List.set_cons_succ, List.nil_append, List.cons_append]
              refine wk_val (shV ((c.length + 1), (((evalL (modW 1) c (c.length + 1)) + more) % modW 1))) rfl rfl rfl (fun w => by kernel_rfl) ?_
              dsimp only [putL, setL, List.set_cons_zero, List.set_cons_succ, List.nil_append, List.cons_append]
              refine wkf_make (z := shsO [((c.length + 1), (((evalL (modW 1) c (c.length + 1)) + more) % modW 1))]) (mk := fun β => .slice (some ⟨β, 0, none⟩) 1 1) rfl rfl (fun w => by kernel_rfl) fun β21 => ?_
              dsimp only [putL, setL, List.set_cons_zero, List.set_cons_succ, List.nil_append, List.cons_append]
              refine wk_appendV (news := (shL [((c.length + 1), (((evalL (modW 1) c (c.length + 1)) + more) % modW 1))])) (F := ([(β21, shsO [((c.length + 1), (((evalL (modW 1) c (c.length + 1)) + more) % modW 1))]), (β20, numO (ix c 0 % modW 1)), (β17, shsO [((c.length + 1), (evalL (modW 1) c (c.length + 1)))]), (β16, numO (ix c 0 % modW 1)), (β14, numO (ix c 0 % modW 1)), (β13, numO (c.length + 1)), (β1, numO more)] ++ S18)) rfl rfl rfl rfl rfl Try.underlying63 shInfo shBytes shZero rfl (by decide) hf1 (perm_mid ([(β21, shsO [((c.length + 1), (((evalL (modW 1) c (c.length + 1)) + more) % modW 1))]), (β20, numO (ix c 0 % modW 1)), (β17, shsO [((c.length + 1), (evalL (modW 1) c (c.length + 1)))]), (β16, numO (ix c 0 % modW 1)), (β14, numO (ix c 0 % modW 1)), (β13, numO (c.length + 1)), (β1, numO more)]) S S18) (by simp only [maxLen]; omega) rfl (fun w' hst => shs_holds (List.mem_of_getElem? (i := 0) rfl) hst) (shL_one _) (by omega) (by omega) fun v22 S22 hO22 => ?_
              dsimp only [putL, setL, List.set_cons_zero, List.set_cons_succ, List.nil_append, List.cons_append]
              try simp only [List.append_assoc]
              have hoff := off_ok (y := (((evalL (modW 1) c (c.length + 1)) + more) % modW 1)) hpz (x := (c.length + 1)) (by omega) (oS_last c c.length i hf0) (by omega)
              obtain ⟨a23, cp23, hv23, hcp23, hsh23⟩ := hO22.reads
              subst hv23
              rw [← shL_append] at hsh23
              refine wk_callW [(.slice a23 (i + 1) cp23)] (.tuple #[(numV (zeroTo (modW 1) (weightsTo (modW 1) (xsS ((gL (oS c) i) ++ [((c.length + 1), (((evalL (modW 1) c (c.length + 1)) + more) % modW 1))])) (xsS ((gL (oS c) i) ++ [((c.length + 1), (((evalL (modW 1) c (c.length + 1)) + more) % modW 1))])).length) ((gL (oS c) i) ++ [((c.length + 1), (((evalL (modW 1) c (c.length + 1)) + more) % modW 1))]) ((gL (oS c) i) ++ [((c.length + 1), (((evalL (modW 1) c (c.length + 1)) + more) % modW 1))]).length)), (.int .i64 0)]) rfl rfl rfl (enters_of Try.func62 (by kernel_rfl) (by kernel_rfl)) rfl (fun M' w' hm hst => zero_ok ((gL (oS c) i) ++ [((c.length + 1), (((evalL (modW 1) c (c.length + 1)) + more) % modW 1))]) (i + 1) _ _ (snoc_len hpz.len) (snoc_bound hpz.bound (Nat.lt_trans (show c.length + 1 < 18446744073709551616 by omega) (by decide)) (Nat.lt_trans (Nat.mod_lt _ (modW_pos ok1)) (modW_lt 1))) (by omega) hcp23 hoff w' (hsh23.holds hst (fun p hp => hm p (by simp [hp])))) ?_
              dsimp only [putL, setL, List.set_cons_zero, List.set_cons_succ, List.nil_append, List.cons_append]
              refine wk_move (.tuple #[(numV (zeroTo (modW 1) (weightsTo (modW 1) (xsS ((gL (oS c) i) ++ [((c.length + 1), (((evalL (modW 1) c (c.length + 1)) + more) % modW 1))])) (xsS ((gL (oS c) i) ++ [((c.length + 1), (((evalL (modW 1) c (c.length + 1)) + more) % modW 1))])).length) ((gL (oS c) i) ++ [((c.length + 1), (((evalL (modW 1) c (c.length + 1)) + more) % modW 1))]) ((gL (oS c) i) ++ [((c.length + 1), (((evalL (modW 1) c (c.length + 1)) + more) % modW 1))]).length)), (.int .i64 0)]) rfl rfl rfl rfl ?_
              dsimp only [putL, setL, List.set_cons_zero, List.set_cons_succ, List.nil_append, List.cons_append]
              refine wk_ext (numV (zeroTo (modW 1) (weightsTo (modW 1) (xsS ((gL (oS c) i) ++ [((c.length + 1), (((evalL (modW 1) c (c.length + 1)) + more) % modW 1))])) (xsS ((gL (oS c) i) ++ [((c.length + 1), (((evalL (modW 1) c (c.length + 1)) + more) % modW 1))])).length) ((gL (oS c) i) ++ [((c.length + 1), (((evalL (modW 1) c (c.length + 1)) + more) % modW 1))]) ((gL (oS c) i) ++ [((c.length + 1), (((evalL (modW 1) c (c.length + 1)) + more) % modW 1))]).length)) rfl rfl rfl rfl rfl ?_
              dsimp only [putL, setL, List.set_cons_zero, List.set_cons_succ, List.nil_append, List.cons_append]
              refine wk_ext (.int .i64 0) rfl rfl rfl rfl rfl ?_
              dsimp only [putL, setL, List.set_cons_zero, List.set_cons_succ, List.nil_append, List.cons_append]
              refine wkf_newN rfl rfl fun β24 => ?_
              dsimp only [putL, setL, List.set_cons_zero, List.set_cons_succ, List.nil_append, List.cons_append]
              refine wk_stN 0 (zeroTo (modW 1) (weightsTo (modW 1) (xsS ((gL (oS c) i) ++ [((c.length + 1), (((evalL (modW 1) c (c.length + 1)) + more) % modW 1))])) (xsS ((gL (oS c) i) ++ [((c.length + 1), (((evalL (modW 1) c (c.length + 1)) + more) % modW 1))])).length) ((gL (oS c) i) ++ [((c.length + 1), (((evalL (modW 1) c (c.length + 1)) + more) % modW 1))]) ((gL (oS c) i) ++ [((c.length + 1), (((evalL (modW 1) c (c.length + 1)) + more) % modW 1))]).length) rfl rfl rfl rfl rfl rfl ?_
              dsimp only [putL, setL, List.set_cons_zero, List.set_cons_succ, List.nil_append, List.cons_append]
              refine wk_assign (.int .i64 0) rfl rfl rfl rfl ?_
              dsimp only [putL, setL, List.set_cons_zero, List.set_cons_succ, List.nil_append, List.cons_append]
              refine wk_nil ?_
              refine sp_seq rfl ?_
              refine sp_region (π := [0, 1, 2, 3, 4]) [] rfl rfl ?_
              refine wk_ldN 7 rfl rfl rfl rfl rfl ?_
              dsimp only [putL, setL, List.set_cons_zero, List.set_cons_succ, List.nil_append, List.cons_append]
              refine wk_call [(.int .i64 1), (numV more)] (numV (more % modW 1)) rfl rfl rfl (enters_of Try.func45 (by kernel_rfl) (by kernel_rfl)) rfl (red_ok 1 more ok1 w_more) ?_
              dsimp only [putL, setL, List.set_cons_zero, List.set_cons_succ, List.nil_append, List.cons_append]
              refine wk_val (numV 0) rfl rfl rfl (fun w => by kernel_rfl) ?_
              dsimp only [putL, setL, List.set_cons_zero, List.set_cons_succ, List.nil_append, List.cons_append]
              by_cases hc25 : (more % modW 1) = 0
              · skip
                refine wk_eqN true rfl rfl rfl rfl rfl (Nat.lt_trans (Nat.mod_lt _ (modW_pos ok1)) (modW_lt 1)) (by decide) (decide_eq_true hc25) ?_
                dsimp only [putL, setL, List.set_cons_zero, List.set_cons_succ, List.nil_append, List.cons_append]
                refine wk_assign (.bool true) rfl rfl rfl rfl ?_
                dsimp only [putL, setL, List.set_cons_zero, List.set_cons_succ, List.nil_append, List.cons_append]
                refine wk_nil ?_
                refine sp_seq rfl ?_
                refine sp_region (π := [0, 1, 2, 3, 4, 5, 6, 7, 8, 9, 10, 11, 12, 13, 14, 15, 16, 17, 18, 19, 20, 21, 22, 23, 24, 25, 26, 27, 28, 29, 30, 31, 32, 33, 34]) [] rfl rfl ?_
                refine wk_move (.int .i64 0) rfl rfl rfl rfl ?_
                dsimp only [putL, setL, List.set_cons_zero, List.set_cons_succ, List.nil_append, List.cons_append]
                refine wk_iop (.bool true) rfl rfl rfl rfl rfl rfl (iop_eql_t (by decide)) ?_
                dsimp only [putL, setL, List.set_cons_zero, List.set_cons_succ, List.nil_append, List.cons_append]
                refine wk_move (.bool true) rfl rfl rfl rfl ?_
                dsimp only [putL, setL, List.set_cons_zero, List.set_cons_succ, List.nil_append, List.cons_append]
                refine wk_move (.int .i64 0) rfl rfl rfl rfl ?_
                dsimp only [putL, setL, List.set_cons_zero, List.set_cons_succ, List.nil_append, List.cons_append]
                refine wk_iop (.bool true) rfl rfl rfl rfl rfl rfl (iop_eql_t (by decide)) ?_
                dsimp only [putL, setL, List.set_cons_zero, List.set_cons_succ, List.nil_append, List.cons_append]
                refine wk_pick true (.bool true) rfl rfl rfl rfl rfl ?_
                dsimp only [putL, setL, List.set_cons_zero, List.set_cons_succ, List.nil_append, List.cons_append]
                refine wk_move (.bool true) rfl rfl rfl rfl ?_
                dsimp only [putL, setL, List.set_cons_zero, List.set_cons_succ, List.nil_append, List.cons_append]
                refine wk_move (.int .i64 0) rfl rfl rfl rfl ?_
                dsimp only [putL, setL, List.set_cons_zero, List.set_cons_succ, List.nil_append, List.cons_append]
                refine wk_iop (.bool true) rfl rfl rfl rfl rfl rfl (iop_eql_t (by decide)) ?_
                dsimp only [putL, setL, List.set_cons_zero, List.set_cons_succ, List.nil_append, List.cons_append]
                refine wk_pick true (.bool true) rfl rfl rfl rfl rfl ?_
                dsimp only [putL, setL, List.set_cons_zero, List.set_cons_succ, List.nil_append, List.cons_append]
                refine wk_move (.bool true) rfl rfl rfl rfl ?_
                dsimp only [putL, setL, List.set_cons_zero, List.set_cons_succ, List.nil_append, List.cons_append]
                refine wk_move (.int .i64 0) rfl rfl rfl rfl ?_
                dsimp only [putL, setL, List.set_cons_zero, List.set_cons_succ, List.nil_append, List.cons_append]
                refine wk_iop (.bool true) rfl rfl rfl rfl rfl rfl (iop_eql_t (by decide)) ?_
                dsimp only [putL, setL, List.set_cons_zero, List.set_cons_succ, List.nil_append, List.cons_append]
                refine wk_pick true (.bool true) rfl rfl rfl rfl rfl ?_
                dsimp only [putL, setL, List.set_cons_zero, List.set_cons_succ, List.nil_append, List.cons_append]
                refine wk_move (.bool true) rfl rfl rfl rfl ?_
                dsimp only [putL, setL, List.set_cons_zero, List.set_cons_succ, List.nil_append, List.cons_append]
                refine wk_ldN 5 rfl rfl rfl rfl rfl ?_
                dsimp only [putL, setL, List.set_cons_zero, List.set_cons_succ, List.nil_append, List.cons_append]
                refine wk_ldN 4 rfl rfl rfl rfl rfl ?_
                dsimp only [putL, setL, List.set_cons_zero, List.set_cons_succ, List.nil_append, List.cons_append]
                refine wk_eqN true rfl rfl rfl rfl rfl (Nat.lt_trans (Nat.mod_lt _ (modW_pos ok1)) (modW_lt 1)) (Nat.lt_trans (Nat.mod_lt _ (modW_pos ok1)) (modW_lt 1)) (decide_eq_true rfl) ?_
                dsimp only [putL, setL, List.set_cons_zero, List.set_cons_succ, List.nil_append, List.cons_append]
                refine wk_pick true (.bool true) rfl rfl rfl rfl rfl ?_
                dsimp only [putL, setL, List.set_cons_zero, List.set_cons_succ, List.nil_append, List.cons_append]
                refine wk_move (.bool true) rfl rfl rfl rfl ?_
                dsimp only [putL, setL, List.set_cons_zero, List.set_cons_succ, List.nil_append, List.cons_append]
                refine wk_ldN 4 rfl rfl rfl rfl rfl ?_
                dsimp only [putL, setL, List.set_cons_zero, List.set_cons_succ, List.nil_append, List.cons_append]
                refine wk_ldN 2 rfl rfl rfl rfl rfl ?_
                dsimp only [putL, setL, List.set_cons_zero, List.set_cons_succ, List.nil_append, List.cons_append]
                refine wk_eqN true rfl rfl rfl rfl rfl (Nat.lt_trans (Nat.mod_lt _ (modW_pos ok1)) (modW_lt 1)) (Nat.lt_trans (Nat.mod_lt _ (modW_pos ok1)) (modW_lt 1)) (decide_eq_true rfl) ?_
                dsimp only [putL, setL, List.set_cons_zero, List.set_cons_succ, List.nil_append, List.cons_append]
                refine wk_pick true (.bool true) rfl rfl rfl rfl rfl ?_
                dsimp only [putL, setL, List.set_cons_zero, List.set_cons_succ, List.nil_append, List.cons_append]
                refine wk_move (.bool true) rfl rfl rfl rfl ?_
                dsimp only [putL, setL, List.set_cons_zero, List.set_cons_succ, List.nil_append, List.cons_append]
                refine wk_ldN 0 rfl rfl rfl rfl rfl ?_
                dsimp only [putL, setL, List.set_cons_zero, List.set_cons_succ, List.nil_append, List.cons_append]
                refine wk_ldN 5 rfl rfl rfl rfl rfl ?_
                dsimp only [putL, setL, List.set_cons_zero, List.set_cons_succ, List.nil_append, List.cons_append]
                refine wk_eqN true rfl rfl rfl rfl rfl (zeroTo_lt (modW_pos ok1) (modW_lt 1) _ _ _) (Nat.lt_trans (Nat.mod_lt _ (modW_pos ok1)) (modW_lt 1)) (decide_eq_true (off_yes hpz (by omega) (oS_last c c.length i hf0) (by omega) (by omega) (oS_pos c i) hc25 _ rfl)) ?_
                dsimp only [putL, setL, List.set_cons_zero, List.set_cons_succ, List.nil_append, List.cons_append]
                refine wk_move (.bool true) rfl rfl rfl rfl ?_
                dsimp only [putL, setL, List.set_cons_zero, List.set_cons_succ, List.nil_append, List.cons_append]
                refine wk_val (.bool true) rfl rfl rfl (fun w => by kernel_rfl) ?_
                dsimp only [putL, setL, List.set_cons_zero, List.set_cons_succ, List.nil_append, List.cons_append]
                refine wk_pick true (.bool true) rfl rfl rfl rfl rfl ?_
                dsimp only [putL, setL, List.set_cons_zero, List.set_cons_succ, List.nil_append, List.cons_append]
                refine wk_move (.bool true) rfl rfl rfl rfl ?_
                dsimp only [putL, setL, List.set_cons_zero, List.set_cons_succ, List.nil_append, List.cons_append]
                refine wk_call [] (.bool true) rfl rfl rfl (enters_of Try.func61 (by kernel_rfl) (by kernel_rfl)) rfl wakes6_calls ?_
                dsimp only [putL, setL, List.set_cons_zero, List.set_cons_succ, List.nil_append, List.cons_append]
                refine wk_pick true (.bool true) rfl rfl rfl rfl rfl ?_
                dsimp only [putL, setL, List.set_cons_zero, List.set_cons_succ, List.nil_append, List.cons_append]
                refine wk_assign (.bool true) rfl rfl rfl rfl ?_
                dsimp only [putL, setL, List.set_cons_zero, List.set_cons_succ, List.nil_append, List.cons_append]
                refine wk_nil ?_
                refine sp_ret rfl ?_
                exact ret_tmps (v := .bool true) (fun w' => by kernel_rfl) fun w' hw => ⟨rfl, hw.below⟩
              · skip
                refine wk_eqN false rfl rfl rfl rfl rfl (Nat.lt_trans (Nat.mod_lt _ (modW_pos ok1)) (modW_lt 1)) (by decide) (decide_eq_false hc25) ?_
                dsimp only [putL, setL, List.set_cons_zero, List.set_cons_succ, List.nil_append, List.cons_append]
                refine wk_assign (.bool false) rfl rfl rfl rfl ?_
                dsimp only [putL, setL, List.set_cons_zero, List.set_cons_succ, List.nil_append, List.cons_append]
                refine wk_nil ?_
                refine sp_seq rfl ?_
                refine sp_region (π := [0, 1, 2, 3, 4, 5, 6, 7, 8, 9, 10, 11, 12, 13, 14, 15, 16, 17, 18, 19, 20, 21, 22, 23, 24, 25, 26, 27, 28, 29, 30, 31, 32, 33, 34]) [] rfl rfl ?_
                refine wk_move (.int .i64 0) rfl rfl rfl rfl ?_
                dsimp only [putL, setL, List.set_cons_zero, List.set_cons_succ, List.nil_append, List.cons_append]
                refine wk_iop (.bool true) rfl rfl rfl rfl rfl rfl (iop_eql_t (by decide)) ?_
                dsimp only [putL, setL, List.set_cons_zero, List.set_cons_succ, List.nil_append, List.cons_append]
                refine wk_move (.bool true) rfl rfl rfl rfl ?_
                dsimp only [putL, setL, List.set_cons_zero, List.set_cons_succ, List.nil_append, List.cons_append]
                refine wk_move (.int .i64 0) rfl rfl rfl rfl ?_
                dsimp only [putL, setL, List.set_cons_zero, List.set_cons_succ, List.nil_append, List.cons_append]
                refine wk_iop (.bool true) rfl rfl rfl rfl rfl rfl (iop_eql_t (by decide)) ?_
                dsimp only [putL, setL, List.set_cons_zero, List.set_cons_succ, List.nil_append, List.cons_append]
                refine wk_pick true (.bool true) rfl rfl rfl rfl rfl ?_
                dsimp only [putL, setL, List.set_cons_zero, List.set_cons_succ, List.nil_append, List.cons_append]
                refine wk_move (.bool true) rfl rfl rfl rfl ?_
                dsimp only [putL, setL, List.set_cons_zero, List.set_cons_succ, List.nil_append, List.cons_append]
                refine wk_move (.int .i64 0) rfl rfl rfl rfl ?_
                dsimp only [putL, setL, List.set_cons_zero, List.set_cons_succ, List.nil_append, List.cons_append]
                refine wk_iop (.bool true) rfl rfl rfl rfl rfl rfl (iop_eql_t (by decide)) ?_
                dsimp only [putL, setL, List.set_cons_zero, List.set_cons_succ, List.nil_append, List.cons_append]
                refine wk_pick true (.bool true) rfl rfl rfl rfl rfl ?_
                dsimp only [putL, setL, List.set_cons_zero, List.set_cons_succ, List.nil_append, List.cons_append]
                refine wk_move (.bool true) rfl rfl rfl rfl ?_
                dsimp only [putL, setL, List.set_cons_zero, List.set_cons_succ, List.nil_append, List.cons_append]
                refine wk_move (.int .i64 0) rfl rfl rfl rfl ?_
                dsimp only [putL, setL, List.set_cons_zero, List.set_cons_succ, List.nil_append, List.cons_append]
                refine wk_iop (.bool true) rfl rfl rfl rfl rfl rfl (iop_eql_t (by decide)) ?_
                dsimp only [putL, setL, List.set_cons_zero, List.set_cons_succ, List.nil_append, List.cons_append]
                refine wk_pick true (.bool true) rfl rfl rfl rfl rfl ?_
                dsimp only [putL, setL, List.set_cons_zero, List.set_cons_succ, List.nil_append, List.cons_append]
                refine wk_move (.bool true) rfl rfl rfl rfl ?_
                dsimp only [putL, setL, List.set_cons_zero, List.set_cons_succ, List.nil_append, List.cons_append]
                refine wk_ldN 5 rfl rfl rfl rfl rfl ?_
                dsimp only [putL, setL, List.set_cons_zero, List.set_cons_succ, List.nil_append, List.cons_append]
                refine wk_ldN 4 rfl rfl rfl rfl rfl ?_
                dsimp only [putL, setL, List.set_cons_zero, List.set_cons_succ, List.nil_append, List.cons_append]
                refine wk_eqN true rfl rfl rfl rfl rfl (Nat.lt_trans (Nat.mod_lt _ (modW_pos ok1)) (modW_lt 1)) (Nat.lt_trans (Nat.mod_lt _ (modW_pos ok1)) (modW_lt 1)) (decide_eq_true rfl) ?_
                dsimp only [putL, setL, List.set_cons_zero, List.set_cons_succ, List.nil_append, List.cons_append]
                refine wk_pick true (.bool true) rfl rfl rfl rfl rfl ?_
                dsimp only [putL, setL, List.set_cons_zero, List.set_cons_succ, List.nil_append, List.cons_append]
                refine wk_move (.bool true) rfl rfl rfl rfl ?_
                dsimp only [putL, setL, List.set_cons_zero, List.set_cons_succ, List.nil_append, List.cons_append]
                refine wk_ldN 4 rfl rfl rfl rfl rfl ?_
                dsimp only [putL, setL, List.set_cons_zero, List.set_cons_succ, List.nil_append, List.cons_append]
                refine wk_ldN 2 rfl rfl rfl rfl rfl ?_
                dsimp only [putL, setL, List.set_cons_zero, List.set_cons_succ, List.nil_append, List.cons_append]
                refine wk_eqN true rfl rfl rfl rfl rfl (Nat.lt_trans (Nat.mod_lt _ (modW_pos ok1)) (modW_lt 1)) (Nat.lt_trans (Nat.mod_lt _ (modW_pos ok1)) (modW_lt 1)) (decide_eq_true rfl) ?_
                dsimp only [putL, setL, List.set_cons_zero, List.set_cons_succ, List.nil_append, List.cons_append]
                refine wk_pick true (.bool true) rfl rfl rfl rfl rfl ?_
                dsimp only [putL, setL, List.set_cons_zero, List.set_cons_succ, List.nil_append, List.cons_append]
                refine wk_move (.bool true) rfl rfl rfl rfl ?_
                dsimp only [putL, setL, List.set_cons_zero, List.set_cons_succ, List.nil_append, List.cons_append]
                refine wk_ldN 0 rfl rfl rfl rfl rfl ?_
                dsimp only [putL, setL, List.set_cons_zero, List.set_cons_succ, List.nil_append, List.cons_append]
                refine wk_ldN 5 rfl rfl rfl rfl rfl ?_
                dsimp only [putL, setL, List.set_cons_zero, List.set_cons_succ, List.nil_append, List.cons_append]
                refine wk_eqN false rfl rfl rfl rfl rfl (zeroTo_lt (modW_pos ok1) (modW_lt 1) _ _ _) (Nat.lt_trans (Nat.mod_lt _ (modW_pos ok1)) (modW_lt 1)) (decide_eq_false (off_no hpz (by omega) (oS_last c c.length i hf0) (by omega) (by omega) (oS_pos c i) hc25 _ rfl)) ?_
                dsimp only [putL, setL, List.set_cons_zero, List.set_cons_succ, List.nil_append, List.cons_append]
                refine wk_move (.bool false) rfl rfl rfl rfl ?_
                dsimp only [putL, setL, List.set_cons_zero, List.set_cons_succ, List.nil_append, List.cons_append]
                refine wk_val (.bool true) rfl rfl rfl (fun w => by kernel_rfl) ?_
                dsimp only [putL, setL, List.set_cons_zero, List.set_cons_succ, List.nil_append, List.cons_append]
                refine wk_pick true (.bool true) rfl rfl rfl rfl rfl ?_
                dsimp only [putL, setL, List.set_cons_zero, List.set_cons_succ, List.nil_append, List.cons_append]
                refine wk_move (.bool true) rfl rfl rfl rfl ?_
                dsimp only [putL, setL, List.set_cons_zero, List.set_cons_succ, List.nil_append, List.cons_append]
                refine wk_call [] (.bool true) rfl rfl rfl (enters_of Try.func61 (by kernel_rfl) (by kernel_rfl)) rfl wakes6_calls ?_
                dsimp only [putL, setL, List.set_cons_zero, List.set_cons_succ, List.nil_append, List.cons_append]
                refine wk_pick true (.bool true) rfl rfl rfl rfl rfl ?_
                dsimp only [putL, setL, List.set_cons_zero, List.set_cons_succ, List.nil_append, List.cons_append]
                refine wk_assign (.bool true) rfl rfl rfl rfl ?_
                dsimp only [putL, setL, List.set_cons_zero, List.set_cons_succ, List.nil_append, List.cons_append]
                refine wk_nil ?_
                refine sp_ret rfl ?_
                exact ret_tmps (v := .bool true) (fun w' => by kernel_rfl) fun w' hw => ⟨rfl, hw.below⟩

set_option maxRecDepth 100000 in
theorem polyOrder_lifted (os : Os) (started : os.Started) (H : Type) (enc : TypeId × Value → H) :
    ReturnsInHanded {} Try.checked os 20 .any (Rows.polyOrderSpec.pre6 enc Try.prog Try.f20 Rows.polyOrderRow.domain false) (Rows.polyOrderSpec.post enc Try.prog Try.f20 false true false false) := by
  refine returnsInHanded_of_change (C := Try.checked) own started (by kernel_rfl) Try.func20
    (ChangeSpec.witness6 (enc := enc) (C := Try.checked) false ⟨#[], #[.slice none 0 0, .int .i64 0, .agg #[.int .u64 0, .int .u64 0, .int .u64 0, .int .u64 0]], []⟩ 8 (by kernel_rfl) (by kernel_rfl) (by kernel_rfl) (by kernel_rfl)) ?_
  intro W base args ds gs before hval0 hW hcnd _
  have hval : ∀ (j : Nat) t v, Try.f20.params[j]? = some t → args[j]? = some v → Value.okWide Try.prog W .any base t v := hval0
  have hW' := hW
  obtain ⟨p, q, hA0, hV, rfl, hfz, hnd⟩ := hW
  have hA : DataW.TrodAll enc Try.prog W 0 (fun _ => true) true Try.f20.params.toList args.toList ds p := hA0
  rw [Try.params20] at hA hval
  obtain ⟨v0, vs0, d0, ds0, p0, q0, hargs, rfl, rfl, h0, r0⟩ := trodAll_cons hA
  obtain ⟨v1, vs1, d1, ds1, p1, q1, rfl, rfl, rfl, h1, r1⟩ := trodAll_cons r0
  obtain ⟨v2, vs2, d2, ds2, p2, q2, rfl, rfl, rfl, h2, r2⟩ := trodAll_cons r1
  obtain ⟨rfl, rfl, rfl⟩ := trodAll_nil r2
  obtain rfl : args = #[v0, v1, v2] := by cases args; simp_all
  obtain ⟨rfl, rfl⟩ := trodVars_none hV
  have k0 := h0
  have lt0 : ∀ x ∈ p0, x.block < W.heap.size := by obtain ⟨m, hm⟩ := k0; exact DataW.trod_lt m _ _ _ hm
  have k1 := h1
  have lt1 : ∀ x ∈ p1, x.block < W.heap.size := by obtain ⟨m, hm⟩ := k1; exact DataW.trod_lt m _ _ _ hm
  have k2 := h2
  have lt2 : ∀ x ∈ p2, x.block < W.heap.size := by obtain ⟨m, hm⟩ := k2; exact DataW.trod_lt m _ _ _ hm
  obtain ⟨a_c, c, c_c, rfl, w_c, hc_c, _, hH_c⟩ := open_nums (hval 0 57 v0 rfl rfl) h0
  obtain ⟨turn, rfl, rfl, rfl, w_turn0⟩ := open_int Try.underlying3 (hval 1 3 v1 rfl rfl) h1; have w_turn := wf_i64 w_turn0
  obtain ⟨more, w_more, rfl⟩ := open_num (hval 2 24 v2 rfl rfl) h2
  clear hA0 hval0
  refine (polyOrder_walk c a_c c_c turn more w_c hc_c w_turn w_more W hH_c).mono fun e W' ⟨he, bel⟩ => ?_
  subst he
  exact ⟨_, rfl, _, _, _, [], _, [], hW', trodAll_mk1 (shut_bool Try.underlying4 _), (trodAll_cons_mk (Below.trod laidOut (by kernel_rfl) (of_decide_eq_true (by kernel_rfl)) k0 bel lt0) (trodAll_cons_mk (Below.trod laidOut (by kernel_rfl) (of_decide_eq_true (by kernel_rfl)) k1 bel lt1) (trodAll_cons_mk (Below.trod laidOut (by kernel_rfl) (of_decide_eq_true (by kernel_rfl)) k2 bel lt2) trodAll_mk0))), rfl, bel.frame _, fun h => by cases h⟩

theorem polyOrder_holds : Rows.PolyOrderSaid :=
  OpenClaim.holds_of_wide 20 Try.f20 rfl rfl rfl rfl rfl rfl rfl ⟨rfl, rfl, rfl, rfl, rfl⟩ rfl rfl rfl rfl rfl (by kernel_rfl) Try.func20 (by kernel_rfl)
    (of_decide_eq_true (by kernel_rfl)) (by unfold Func.isWrapper; first | (rw [if_pos (by decide +kernel)]; kernel_rfl) | (rw [if_neg (by decide +kernel)]; exact ⟨rfl, rfl⟩))
    (fun os started H enc _ => polyOrder_lifted os started H enc)

end Go.Proofs.Ytmecomgifmkkfaa
