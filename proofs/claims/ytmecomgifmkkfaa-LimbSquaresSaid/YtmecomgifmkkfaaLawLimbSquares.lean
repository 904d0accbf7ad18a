/- LimbSquares: the square of a sum is the squares, and twice the product, modulo 2^512; for every input, no condition. -/
import Derived.Test.YtmecomgifmkkfaaProg
import Derived.Test.YtmecomgifmkkfaaNum
import Derived.Test.YtmecomgifmkkfaaBits
import Derived.Test.YtmecomgifmkkfaaBytes
import Derived.Test.YtmecomgifmkkfaaMem
import Derived.Test.YtmecomgifmkkfaaOrd
import Derived.Test.YtmecomgifmkkfaaEqs
import Derived.Test.YtmecomgifmkkfaaLimbA
import Derived.Test.YtmecomgifmkkfaaLimbB
import Derived.Test.YtmecomgifmkkfaaLimbC
import Derived.Test.YtmecomgifmkkfaaLimbF
import Derived.Test.YtmecomgifmkkfaaLimbG
import Derived.Test.YtmecomgifmkkfaaLimbM
import Derived.Test.YtmecomgifmkkfaaLimbN
import Derived.Test.YtmecomgifmkkfaaLimbW
import Derived.Test.YtmecomgifmkkfaaRows
import Derived.Test.YtmecomgifmkkfaaOpen
import Derived.Test.YtmecomgifmkkfaaAux
import Derived.WalkSpells
import Derived.WalkLawsBesides
import Derived.Handy
import Derived.Lib.Hide
import Derived.RegionTactic
import Derived.BigQuiet
import Derived.Deep.Cut
import Derived.ProofKit
import Derived.OpenShut
namespace Go.Proofs.Ytmecomgifmkkfaa
set_option linter.unusedVariables false
set_option linter.unusedSimpArgs false
open Go.ChangeShapes Go.WideShapes Go.ChangeAt Go.RowKit

/-- The number whose highest digit is halved. -/
def halfTop (a : Nat) : Nat := dg a 0 + 18446744073709551616 * dg a 1 + 340282366920938463463374607431768211456 * dg a 2 + 6277101735386680763835789423207666416102355444464034512896 * (dg a 3 / 2)
theorem halfTop_dg (a : Nat) : dg a 0 = dg (halfTop a) 0 ∧ dg a 1 = dg (halfTop a) 1 ∧ dg a 2 = dg (halfTop a) 2 ∧ ((dg a 3 : Nat) : Int) / 2 = (dg (halfTop a) 3 : Nat) := by
  have h := dg_val (dg_lt a 0) (dg_lt a 1) (dg_lt a 2) (show dg a 3 / 2 < 18446744073709551616 by have := dg_lt a 3; omega)
  refine ⟨h.1.symm, h.2.1.symm, h.2.2.1.symm, ?_⟩
  unfold halfTop
  rw [h.2.2.2]
  omega
theorem halfTop_lt (a : Nat) : halfTop a + halfTop a < W256 := by
  have := dg_lt a 0; have := dg_lt a 1; have := dg_lt a 2; have := dg_lt a 3
  unfold halfTop W256; omega
theorem abs_then {K : Act → World → Prop} {Q : Exit → Act → World → Prop} {e : Exit} {a : Act} {W : World} (R : World → Prop) (h : R W) (k : ∀ w, R w → Exit.then K Q e a w) : Exit.then K Q e a W := k W h
/-- One addition of two-digit numbers, modulo the square. -/
theorem acc_step {h l ph pl : Nat} : (((h + ph) % W256 + (l + pl) / W256) % W256) * W256 + (l + pl) % W256 = (h * W256 + l + (ph * W256 + pl)) % (W256 * W256) := by
  have hW : 0 < W256 := W256_pos
  have e1 : h * W256 + l + (ph * W256 + pl) = (h + ph + (l + pl) / W256) * W256 + (l + pl) % W256 := by
    have := Nat.div_add_mod (l + pl) W256
    rw [Nat.add_mul, Nat.add_mul, Nat.mul_comm ((l + pl) / W256)]
    omega
  rw [e1, ← Nat.add_mod_mod, Nat.mod_add_mod, Nat.add_mod_mod]
  have hq := Nat.div_add_mod (h + ph + (l + pl) / W256) W256
  generalize (h + ph + (l + pl) / W256) / W256 = q at *
  have hr : (h + ph + (l + pl) / W256) % W256 < W256 := Nat.mod_lt _ hW
  generalize (h + ph + (l + pl) / W256) % W256 = r at *
  have hs : (l + pl) % W256 < W256 := Nat.mod_lt _ hW
  generalize (l + pl) % W256 = t at *
  rw [← hq]
  have e2 : (W256 * q + r) * W256 + t = (r * W256 + t) + W256 * W256 * q := by
    rw [Nat.add_mul, Nat.mul_assoc, Nat.mul_comm q, ← Nat.mul_assoc]; omega
  rw [e2, Nat.add_mul_mod_self_left, Nat.mod_eq_of_lt]
  have : r * W256 + t < r * W256 + W256 := by omega
  have h3 : (r + 1) * W256 ≤ W256 * W256 := Nat.mul_le_mul_right _ hr
  rw [Nat.add_mul, Nat.one_mul] at h3
  omega
theorem squares_eq {a b s lo hi al ah bl bh pl ph l0 h0 l1 h1 l2 h2 : Nat} (ha : a + a < W256) (hb : b + b < W256) (hs : s = (a + b) % W256) (hlo : lo = s * s % W256) (hhi : hi = s * s / W256)
    (hal : al = a * a % W256) (hah : ah = a * a / W256) (hbl : bl = b * b % W256) (hbh : bh = b * b / W256) (hpl : pl = a * b % W256) (hph : ph = a * b / W256)
    (hl0 : l0 = (al + bl) % W256) (hh0 : h0 = ((ah + bh) % W256 + (al + bl) / W256) % W256) (hl1 : l1 = (l0 + pl) % W256) (hh1 : h1 = ((h0 + ph) % W256 + (l0 + pl) / W256) % W256)
    (hl2 : l2 = (l1 + pl) % W256) (hh2 : h2 = ((h1 + ph) % W256 + (l1 + pl) / W256) % W256) : l2 = lo ∧ h2 = hi := by
  have hab : a + b < W256 := by omega
  rw [Nat.mod_eq_of_lt hab] at hs
  have ea : ah * W256 + al = a * a := by rw [hal, hah, Nat.mul_comm, Nat.div_add_mod]
  have eb : bh * W256 + bl = b * b := by rw [hbl, hbh, Nat.mul_comm, Nat.div_add_mod]
  have ep : ph * W256 + pl = a * b := by rw [hpl, hph, Nat.mul_comm, Nat.div_add_mod]
  have e0 : h0 * W256 + l0 = (a * a + b * b) % (W256 * W256) := by rw [hh0, hl0, acc_step, ea, eb]
  have e1 : h1 * W256 + l1 = (a * a + b * b + a * b) % (W256 * W256) := by rw [hh1, hl1, acc_step, e0, ep, Nat.mod_add_mod]
  have e2 : h2 * W256 + l2 = (a * a + b * b + a * b + a * b) % (W256 * W256) := by rw [hh2, hl2, acc_step, e1, ep, Nat.mod_add_mod]
  have es : s * s = a * a + b * b + a * b + a * b := by
    rw [hs, Nat.mul_add, Nat.add_mul, Nat.add_mul, Nat.mul_comm b a]; omega
  have hlt : s * s < W256 * W256 := Nat.mul_lt_mul'' (by omega) (by omega)
  rw [← es, Nat.mod_eq_of_lt hlt] at e2
  have h3 : l2 < W256 := by rw [hl2]; exact Nat.mod_lt _ W256_pos
  constructor
  · rw [hlo, ← e2, Nat.mul_comm, Nat.mul_add_mod, Nat.mod_eq_of_lt h3]
  · rw [hhi, ← e2, Nat.mul_comm, Nat.mul_add_div W256_pos, Nat.div_eq_of_lt h3, Nat.add_zero]
theorem sum_no {a b : Nat} (ha : a + a < W256) (hb : b + b < W256) : (a + b) / W256 = 0 := Nat.div_eq_of_lt (by omega)

set_option maxHeartbeats 1000000 in
set_option maxRecDepth 100000 in
theorem limbSquares_walk (a : Nat) (b : Nat) (w_a : a < W256) (w_b : b < W256) (w : World) :
    Calls Try.prog 6 #[numV a, numV b] w fun e w' => e = .returned (.bool true) ∧ Below w.heap.size w w' := by
  have hg := eqGuard_num
  have hS := @eq_same
  clear w_a w_b
  obtain ⟨a', ha'⟩ : ∃ a', a' = halfTop a := ⟨_, rfl⟩
  obtain ⟨b', hb'⟩ : ∃ b', b' = halfTop b := ⟨_, rfl⟩
  have da := halfTop_dg a; have db := halfTop_dg b
  have la := halfTop_lt a; have lb := halfTop_lt b
  rw [← ha'] at da la; rw [← hb'] at db lb
  have LA := Lib.hid la; have LB := Lib.hid lb
  have B_a : Hid (a' < W256) := by show _ < _; omega
  have B_b : Hid (b' < W256) := by show _ < _; omega
  have DA := Lib.hid da.2.2.2; have DB := Lib.hid db.2.2.2
  rw [numV_eq a, numV_eq b, da.1, da.2.1, da.2.2.1, db.1, db.2.1, db.2.2.1]
  have f3 := dg_lt a 3; have g3 := dg_lt b 3
  clear da db la lb ha' hb'
  generalize dg a 3 = a3 at *
  generalize dg b 3 = b3 at *
  go_enter Try.func6, Try.ntmps6
  go_wp2
  go_region
  rw [DA.out, DB.out]
  clear DA DB f3 g3
  refine abs_then (fun w' => Below w.heap.size w w' ∧ NumAt w' w.heap.size a' ∧ NumAt w' (w.heap.size + 1) b') ⟨(((Below.refl _ _).alloc (by (try simp) <;> omega) _).alloc (by (try simp) <;> omega) _).drew, ((NumAt.newAt _ (w.heap.size) a' (by first | rfl | simp)).alloc _).drew, (NumAt.newAt _ (w.heap.size + 1) b' (by first | rfl | simp)).drew⟩ ?_
  intro w0 ⟨hWw0, N_a, N_b⟩
  have F_a := N_a.facts; have L_a := N_a.lt
  have F_b := N_b.facts; have L_b := N_b.lt
  have L1_b : w.heap.size < w0.heap.size := by omega
  go_wp2_with fail
  refine (add_calls a' b' B_a.out B_b.out _).mono ?_
  rintro e w1 ⟨rfl, hB1⟩
  rw [sum_no LA.out LB.out]
  obtain ⟨s, h_s⟩ : ∃ v, v = (a' + b') % W256 := ⟨_, rfl⟩
  rw [← h_s, numV_eq s]
  have E_s := Lib.hid h_s; clear h_s
  have B_s : Hid (s < W256) := by show _ < _; rw [E_s.out]; exact Nat.mod_lt _ W256_pos
  clear F_a L_a F_b L_b L1_b
  have zw1 := hWw0.size
  have M_a := N_a.kept hB1
  have M_b := N_b.kept hB1
  have hWw1 : Below w.heap.size w w1 := hWw0.trans (hB1.mono (by (try simp) <;> omega))
  clear N_a N_b hWw0 zw1 hB1
  have N_a := M_a
  have N_b := M_b
  clear M_a M_b
  go_wp2_with fail
  refine (mul_calls s s B_s.out B_s.out _).mono ?_
  rintro e w2 ⟨rfl, hB2⟩
  obtain ⟨lo, h_lo⟩ : ∃ v, v = s * s % W256 := ⟨_, rfl⟩
  rw [← h_lo, numV_eq lo]
  have E_lo := Lib.hid h_lo; clear h_lo
  have B_lo : Hid (lo < W256) := by show _ < _; rw [E_lo.out]; exact Nat.mod_lt _ W256_pos
  obtain ⟨hi, h_hi⟩ : ∃ v, v = s * s / W256 := ⟨_, rfl⟩
  rw [← h_hi, numV_eq hi]
  have E_hi := Lib.hid h_hi; clear h_hi
  have B_hi : Hid (hi < W256) := by show _ < _; rw [E_hi.out]; exact mul_hi B_s.out B_s.out
  have zw2 := hWw1.size
  have M_a := (N_a.alloc _).kept hB2
  have M_b := (N_b.alloc _).kept hB2
  have M_s := (NumAt.newAt _ (w1.heap.size) s (by first | rfl | simp)).kept hB2
  have hWw2 : Below w.heap.size w w2 := (hWw1.alloc (by (try simp) <;> omega) _).trans (hB2.mono (by (try simp) <;> omega))
  clear N_a N_b hWw1 zw2 hB2
  have N_a := M_a
  have N_b := M_b
  have N_s := M_s
  clear M_a M_b M_s
  have F_a := N_a.facts; have L_a := N_a.lt
  go_wp2_with fail
  refine (mul_calls a' a' B_a.out B_a.out _).mono ?_
  rintro e w3 ⟨rfl, hB3⟩
  obtain ⟨al, h_al⟩ : ∃ v, v = a' * a' % W256 := ⟨_, rfl⟩
  rw [← h_al, numV_eq al]
  have E_al := Lib.hid h_al; clear h_al
  have B_al : Hid (al < W256) := by show _ < _; rw [E_al.out]; exact Nat.mod_lt _ W256_pos
  obtain ⟨ah, h_ah⟩ : ∃ v, v = a' * a' / W256 := ⟨_, rfl⟩
  rw [← h_ah, numV_eq ah]
  have E_ah := Lib.hid h_ah; clear h_ah
  have B_ah : Hid (ah < W256) := by show _ < _; rw [E_ah.out]; exact mul_hi B_a.out B_a.out
  clear F_a L_a
  have zw3 := hWw2.size
  have M_a := ((N_a.alloc _).alloc _).kept hB3
  have M_b := ((N_b.alloc _).alloc _).kept hB3
  have M_s := ((N_s.alloc _).alloc _).kept hB3
  have M_lo := ((NumAt.newAt _ (w2.heap.size) lo (by first | rfl | simp)).alloc _).kept hB3
  have M_hi := (NumAt.newAt _ (w2.heap.size + 1) hi (by first | rfl | simp)).kept hB3
  have hWw3 : Below w.heap.size w w3 := ((hWw2.alloc (by (try simp) <;> omega) _).alloc (by (try simp) <;> omega) _).trans (hB3.mono (by (try simp) <;> omega))
  clear N_a N_b N_s hWw2 zw3 hB3
  have N_a := M_a
  have N_b := M_b
  have N_s := M_s
  have N_lo := M_lo
  have N_hi := M_hi
  clear M_a M_b M_s M_lo M_hi
  have F_b := N_b.facts; have L_b := N_b.lt
  have L1_b : w.heap.size < w3.heap.size := by omega
  go_wp2_with fail
  refine (mul_calls b' b' B_b.out B_b.out _).mono ?_
  rintro e w4 ⟨rfl, hB4⟩
  obtain ⟨bl, h_bl⟩ : ∃ v, v = b' * b' % W256 := ⟨_, rfl⟩
  rw [← h_bl, numV_eq bl]
  have E_bl := Lib.hid h_bl; clear h_bl
  have B_bl : Hid (bl < W256) := by show _ < _; rw [E_bl.out]; exact Nat.mod_lt _ W256_pos
  obtain ⟨bh, h_bh⟩ : ∃ v, v = b' * b' / W256 := ⟨_, rfl⟩
  rw [← h_bh, numV_eq bh]
  have E_bh := Lib.hid h_bh; clear h_bh
  have B_bh : Hid (bh < W256) := by show _ < _; rw [E_bh.out]; exact mul_hi B_b.out B_b.out
  clear F_b L_b L1_b
  have zw4 := hWw3.size
  have M_a := ((N_a.alloc _).alloc _).kept hB4
  have M_b := ((N_b.alloc _).alloc _).kept hB4
  have M_s := ((N_s.alloc _).alloc _).kept hB4
  have M_lo := ((N_lo.alloc _).alloc _).kept hB4
  have M_hi := ((N_hi.alloc _).alloc _).kept hB4
  have M_al := ((NumAt.newAt _ (w3.heap.size) al (by first | rfl | simp)).alloc _).kept hB4
  have M_ah := (NumAt.newAt _ (w3.heap.size + 1) ah (by first | rfl | simp)).kept hB4
  have hWw4 : Below w.heap.size w w4 := ((hWw3.alloc (by (try simp) <;> omega) _).alloc (by (try simp) <;> omega) _).trans (hB4.mono (by (try simp) <;> omega))
  clear N_a N_b N_s N_lo N_hi hWw3 zw4 hB4
  have N_a := M_a
  have N_b := M_b
  have N_s := M_s
  have N_lo := M_lo
  have N_hi := M_hi
  have N_al := M_al
  have N_ah := M_ah
  clear M_a M_b M_s M_lo M_hi M_al M_ah
  have F_a := N_a.facts; have L_a := N_a.lt
  have F_b := N_b.facts; have L_b := N_b.lt
  have L1_b : w.heap.size < w4.heap.size := by omega
  go_wp2_with fail
  refine (mul_calls a' b' B_a.out B_b.out _).mono ?_
  rintro e w5 ⟨rfl, hB5⟩
  obtain ⟨pl, h_pl⟩ : ∃ v, v = a' * b' % W256 := ⟨_, rfl⟩
  rw [← h_pl, numV_eq pl]
  have E_pl := Lib.hid h_pl; clear h_pl
  have B_pl : Hid (pl < W256) := by show _ < _; rw [E_pl.out]; exact Nat.mod_lt _ W256_pos
  obtain ⟨ph, h_ph⟩ : ∃ v, v = a' * b' / W256 := ⟨_, rfl⟩
  rw [← h_ph, numV_eq ph]
  have E_ph := Lib.hid h_ph; clear h_ph
  have B_ph : Hid (ph < W256) := by show _ < _; rw [E_ph.out]; exact mul_hi B_a.out B_b.out
  clear F_a L_a F_b L_b L1_b
  have zw5 := hWw4.size
  have M_a := ((N_a.alloc _).alloc _).kept hB5
  have M_b := ((N_b.alloc _).alloc _).kept hB5
  have M_s := ((N_s.alloc _).alloc _).kept hB5
  have M_lo := ((N_lo.alloc _).alloc _).kept hB5
  have M_hi := ((N_hi.alloc _).alloc _).kept hB5
  have M_al := ((N_al.alloc _).alloc _).kept hB5
  have M_ah := ((N_ah.alloc _).alloc _).kept hB5
  have M_bl := ((NumAt.newAt _ (w4.heap.size) bl (by first | rfl | simp)).alloc _).kept hB5
  have M_bh := (NumAt.newAt _ (w4.heap.size + 1) bh (by first | rfl | simp)).kept hB5
  have hWw5 : Below w.heap.size w w5 := ((hWw4.alloc (by (try simp) <;> omega) _).alloc (by (try simp) <;> omega) _).trans (hB5.mono (by (try simp) <;> omega))
  clear N_a N_b N_s N_lo N_hi N_al N_ah hWw4 zw5 hB5
  have N_a := M_a
  have N_b := M_b
  have N_s := M_s
  have N_lo := M_lo
  have N_hi := M_hi
  have N_al := M_al
  have N_ah := M_ah
  have N_bl := M_bl
  have N_bh := M_bh
  clear M_a M_b M_s M_lo M_hi M_al M_ah M_bl M_bh
  have F_al := N_al.facts; have L_al := N_al.lt
  have F_bl := N_bl.facts; have L_bl := N_bl.lt
  obtain ⟨c0, hc0, hc01⟩ : ∃ c : Nat, c = (al + bl) / W256 ∧ c ≤ 1 := ⟨_, rfl, by have := B_al.out; have := B_bl.out; unfold W256 at *; omega⟩
  have C0 := Lib.hid hc0; clear hc0
  have hcn0 : Value.agg #[.int .u64 (c0 : Int), .int .u64 0, .int .u64 0, .int .u64 0] = numV c0 := numV_of (a := c0) (b := 0) (c := 0) (d := 0) (by omega) (by decide) (by decide) (by decide) (by omega)
  have HC0 := Lib.hid hcn0; clear hcn0
  have B_c0 : Hid (c0 < W256) := by show _ < _; unfold W256; omega
  go_wp2_with fail
  refine (add_calls al bl B_al.out B_bl.out _).mono ?_
  rintro e w6 ⟨rfl, hB6⟩
  rw [← C0.out]
  obtain ⟨l0, h_l0⟩ : ∃ v, v = (al + bl) % W256 := ⟨_, rfl⟩
  rw [← h_l0, numV_eq l0]
  have E_l0 := Lib.hid h_l0; clear h_l0
  have B_l0 : Hid (l0 < W256) := by show _ < _; rw [E_l0.out]; exact Nat.mod_lt _ W256_pos
  clear F_al L_al F_bl L_bl
  have zw6 := hWw5.size
  have M_a := ((N_a.alloc _).alloc _).kept hB6
  have M_b := ((N_b.alloc _).alloc _).kept hB6
  have M_s := ((N_s.alloc _).alloc _).kept hB6
  have M_lo := ((N_lo.alloc _).alloc _).kept hB6
  have M_hi := ((N_hi.alloc _).alloc _).kept hB6
  have M_al := ((N_al.alloc _).alloc _).kept hB6
  have M_ah := ((N_ah.alloc _).alloc _).kept hB6
  have M_bl := ((N_bl.alloc _).alloc _).kept hB6
  have M_bh := ((N_bh.alloc _).alloc _).kept hB6
  have M_pl := ((NumAt.newAt _ (w5.heap.size) pl (by first | rfl | simp)).alloc _).kept hB6
  have M_ph := (NumAt.newAt _ (w5.heap.size + 1) ph (by first | rfl | simp)).kept hB6
  have hWw6 : Below w.heap.size w w6 := ((hWw5.alloc (by (try simp) <;> omega) _).alloc (by (try simp) <;> omega) _).trans (hB6.mono (by (try simp) <;> omega))
  clear N_a N_b N_s N_lo N_hi N_al N_ah N_bl N_bh hWw5 zw6 hB6
  have N_a := M_a
  have N_b := M_b
  have N_s := M_s
  have N_lo := M_lo
  have N_hi := M_hi
  have N_al := M_al
  have N_ah := M_ah
  have N_bl := M_bl
  have N_bh := M_bh
  have N_pl := M_pl
  have N_ph := M_ph
  clear M_a M_b M_s M_lo M_hi M_al M_ah M_bl M_bh M_pl M_ph
  clear N_a N_b N_s N_al N_bl
  have F_ah := N_ah.facts; have L_ah := N_ah.lt
  have L1_ah : w3.heap.size < w6.heap.size := by omega
  have F_bh := N_bh.facts; have L_bh := N_bh.lt
  have L1_bh : w4.heap.size < w6.heap.size := by omega
  have Z_l := hWw6.size
  have Q_lo := N_lo.lt
  have Q_hi := N_hi.lt
  have Q_ph := N_ph.lt
  have Q_pl := N_pl.lt
  go_wp2_with fail
  refine (add_calls ah bh B_ah.out B_bh.out _).mono ?_
  rintro e w7 ⟨rfl, hB7⟩
  obtain ⟨g0, h_g0⟩ : ∃ v, v = (ah + bh) % W256 := ⟨_, rfl⟩
  rw [← h_g0, numV_eq g0]
  have E_g0 := Lib.hid h_g0; clear h_g0
  have B_g0 : Hid (g0 < W256) := by show _ < _; rw [E_g0.out]; exact Nat.mod_lt _ W256_pos
  clear F_ah L_ah L1_ah F_bh L_bh L1_bh
  have zw7 := hWw6.size
  have M_lo := (N_lo.alloc _).kept hB7
  have M_hi := (N_hi.alloc _).kept hB7
  have M_ah := (N_ah.alloc _).kept hB7
  have M_bh := (N_bh.alloc _).kept hB7
  have M_pl := (N_pl.alloc _).kept hB7
  have M_ph := (N_ph.alloc _).kept hB7
  have M_l := (NumAt.newAt _ (w6.heap.size) l0 (by first | rfl | simp)).kept hB7
  have hWw7 : Below w.heap.size w w7 := (hWw6.alloc (by (try simp) <;> omega) _).trans (hB7.mono (by (try simp) <;> omega))
  clear N_lo N_hi N_ah N_bh N_pl N_ph hWw6 zw7 hB7
  have N_lo := M_lo
  have N_hi := M_hi
  have N_ah := M_ah
  have N_bh := M_bh
  have N_pl := M_pl
  have N_ph := M_ph
  have N_l := M_l
  clear M_lo M_hi M_ah M_bh M_pl M_ph M_l
  clear N_ah N_bh
  have Z_h := hWw7.size
  have R_lo := N_lo.lt
  have R_hi := N_hi.lt
  have R_ph := N_ph.lt
  have R_pl := N_pl.lt
  have R_l := N_l.lt
  go_wp2_with fail
  rw [HC0.out]
  refine (add_calls g0 c0 B_g0.out B_c0.out _).mono ?_
  rintro e w8 ⟨rfl, hB8⟩
  obtain ⟨h0, h_h0⟩ : ∃ v, v = (g0 + c0) % W256 := ⟨_, rfl⟩
  rw [← h_h0, numV_eq h0]
  have E_h0 := Lib.hid h_h0; clear h_h0
  have B_h0 : Hid (h0 < W256) := by show _ < _; rw [E_h0.out]; exact Nat.mod_lt _ W256_pos
  have zw8 := hWw7.size
  have M_lo := (N_lo.alloc _).kept hB8
  have M_hi := (N_hi.alloc _).kept hB8
  have M_pl := (N_pl.alloc _).kept hB8
  have M_ph := (N_ph.alloc _).kept hB8
  have M_l := (N_l.alloc _).kept hB8
  have M_h := (NumAt.newAt _ (w7.heap.size) g0 (by first | rfl | simp)).kept hB8
  have hWw8 : Below w.heap.size w w8 := (hWw7.alloc (by (try simp) <;> omega) _).trans (hB8.mono (by (try simp) <;> omega))
  clear N_lo N_hi N_pl N_ph N_l hWw7 zw8 hB8
  have N_lo := M_lo
  have N_hi := M_hi
  have N_pl := M_pl
  have N_ph := M_ph
  have N_l := M_l
  have N_h := M_h
  clear M_lo M_hi M_pl M_ph M_l M_h
  have F_h := N_h.facts; have L_h := N_h.lt
  go_wp2
  refine wp_loop_rounds 3 ?_
  rw [rounds_succ]
  have zz := hWw8.size
  refine abs_world (fun w' => Below w.heap.size w w' ∧ NumAt w' (w2.heap.size) lo ∧ NumAt w' (w2.heap.size + 1) hi ∧ NumAt w' (w5.heap.size) pl ∧ NumAt w' (w5.heap.size + 1) ph ∧ NumAt w' (w6.heap.size) l0 ∧ NumAt w' (w7.heap.size) h0) ⟨(below_put (below_put (below_put (below_put hWw8 (by omega) _ _) (by omega) _ _) (by omega) _ _) (by omega) _ _), ((((N_lo.other _ _ (by (try simp) <;> omega)).other _ _ (by (try simp) <;> omega)).other _ _ (by (try simp) <;> omega)).other _ _ (by (try simp) <;> omega)), ((((N_hi.other _ _ (by (try simp) <;> omega)).other _ _ (by (try simp) <;> omega)).other _ _ (by (try simp) <;> omega)).other _ _ (by (try simp) <;> omega)), ((((N_pl.other _ _ (by (try simp) <;> omega)).other _ _ (by (try simp) <;> omega)).other _ _ (by (try simp) <;> omega)).other _ _ (by (try simp) <;> omega)), ((((N_ph.other _ _ (by (try simp) <;> omega)).other _ _ (by (try simp) <;> omega)).other _ _ (by (try simp) <;> omega)).other _ _ (by (try simp) <;> omega)), ((((N_l.other _ _ (by (try simp) <;> omega)).other _ _ (by (try simp) <;> omega)).other _ _ (by (try simp) <;> omega)).other _ _ (by (try simp) <;> omega)), (N_h.put h0)⟩ ?_
  clear N_lo N_hi N_pl N_ph N_l N_h hWw8 zz F_h L_h
  intro w9 ⟨hWw9, N_lo, N_hi, N_pl, N_ph, N_l, N_h⟩
  have F_l := N_l.facts; have L_l := N_l.lt
  have F_pl := N_pl.facts; have L_pl := N_pl.lt
  obtain ⟨c1, hc1, hc11⟩ : ∃ c : Nat, c = (l0 + pl) / W256 ∧ c ≤ 1 := ⟨_, rfl, by have := B_l0.out; have := B_pl.out; unfold W256 at *; omega⟩
  have C1 := Lib.hid hc1; clear hc1
  have hcn1 : Value.agg #[.int .u64 (c1 : Int), .int .u64 0, .int .u64 0, .int .u64 0] = numV c1 := numV_of (a := c1) (b := 0) (c := 0) (d := 0) (by omega) (by decide) (by decide) (by decide) (by omega)
  have HC1 := Lib.hid hcn1; clear hcn1
  have B_c1 : Hid (c1 < W256) := by show _ < _; unfold W256; omega
  go_wp2_with fail
  refine (add_calls l0 pl B_l0.out B_pl.out _).mono ?_
  rintro e w10 ⟨rfl, hB10⟩
  rw [← C1.out]
  obtain ⟨l1, h_l1⟩ : ∃ v, v = (l0 + pl) % W256 := ⟨_, rfl⟩
  rw [← h_l1, numV_eq l1]
  have E_l1 := Lib.hid h_l1; clear h_l1
  have B_l1 : Hid (l1 < W256) := by show _ < _; rw [E_l1.out]; exact Nat.mod_lt _ W256_pos
  clear F_l L_l F_pl L_pl
  have zw10 := hWw9.size
  have M_lo := N_lo.kept hB10
  have M_hi := N_hi.kept hB10
  have M_pl := N_pl.kept hB10
  have M_ph := N_ph.kept hB10
  have M_l := N_l.kept hB10
  have M_h := N_h.kept hB10
  have hWw10 : Below w.heap.size w w10 := hWw9.trans (hB10.mono (by (try simp) <;> omega))
  clear N_lo N_hi N_pl N_ph N_l N_h hWw9 zw10 hB10
  have N_lo := M_lo
  have N_hi := M_hi
  have N_pl := M_pl
  have N_ph := M_ph
  have N_l := M_l
  have N_h := M_h
  clear M_lo M_hi M_pl M_ph M_l M_h
  have F_h := N_h.facts; have L_h := N_h.lt
  have F_ph := N_ph.facts; have L_ph := N_ph.lt
  have L1_ph : w5.heap.size < w10.heap.size := by omega
  have F_l := N_l.facts; have L_l := N_l.lt
  go_wp2_with fail
  refine (add_calls h0 ph B_h0.out B_ph.out _).mono ?_
  rintro e w11 ⟨rfl, hB11⟩
  obtain ⟨g1, h_g1⟩ : ∃ v, v = (h0 + ph) % W256 := ⟨_, rfl⟩
  rw [← h_g1, numV_eq g1]
  have E_g1 := Lib.hid h_g1; clear h_g1
  have B_g1 : Hid (g1 < W256) := by show _ < _; rw [E_g1.out]; exact Nat.mod_lt _ W256_pos
  clear F_h L_h F_ph L_ph L1_ph F_l L_l
  have zw11 := hWw10.size
  have M_lo := ((((N_lo.other _ _ (by (try simp) <;> omega)).other _ _ (by (try simp) <;> omega)).other _ _ (by (try simp) <;> omega)).other _ _ (by (try simp) <;> omega)).kept hB11
  have M_hi := ((((N_hi.other _ _ (by (try simp) <;> omega)).other _ _ (by (try simp) <;> omega)).other _ _ (by (try simp) <;> omega)).other _ _ (by (try simp) <;> omega)).kept hB11
  have M_pl := ((((N_pl.other _ _ (by (try simp) <;> omega)).other _ _ (by (try simp) <;> omega)).other _ _ (by (try simp) <;> omega)).other _ _ (by (try simp) <;> omega)).kept hB11
  have M_ph := ((((N_ph.other _ _ (by (try simp) <;> omega)).other _ _ (by (try simp) <;> omega)).other _ _ (by (try simp) <;> omega)).other _ _ (by (try simp) <;> omega)).kept hB11
  have M_l := (N_l.put l1).kept hB11
  have M_h := ((((N_h.other _ _ (by (try simp) <;> omega)).other _ _ (by (try simp) <;> omega)).other _ _ (by (try simp) <;> omega)).other _ _ (by (try simp) <;> omega)).kept hB11
  have hWw11 : Below w.heap.size w w11 := (below_put (below_put (below_put (below_put hWw10 (by omega) _ _) (by omega) _ _) (by omega) _ _) (by omega) _ _).trans (hB11.mono (by (try simp) <;> omega))
  clear N_lo N_hi N_pl N_ph N_l N_h hWw10 zw11 hB11
  have N_lo := M_lo
  have N_hi := M_hi
  have N_pl := M_pl
  have N_ph := M_ph
  have N_l := M_l
  have N_h := M_h
  clear M_lo M_hi M_pl M_ph M_l M_h
  have F_h := N_h.facts; have L_h := N_h.lt
  go_wp2_with fail
  rw [HC1.out]
  refine (add_calls g1 c1 B_g1.out B_c1.out _).mono ?_
  rintro e w12 ⟨rfl, hB12⟩
  obtain ⟨h1, h_h1⟩ : ∃ v, v = (g1 + c1) % W256 := ⟨_, rfl⟩
  rw [← h_h1, numV_eq h1]
  have E_h1 := Lib.hid h_h1; clear h_h1
  have B_h1 : Hid (h1 < W256) := by show _ < _; rw [E_h1.out]; exact Nat.mod_lt _ W256_pos
  clear F_h L_h
  have zw12 := hWw11.size
  have M_lo := ((((N_lo.other _ _ (by (try simp) <;> omega)).other _ _ (by (try simp) <;> omega)).other _ _ (by (try simp) <;> omega)).other _ _ (by (try simp) <;> omega)).kept hB12
  have M_hi := ((((N_hi.other _ _ (by (try simp) <;> omega)).other _ _ (by (try simp) <;> omega)).other _ _ (by (try simp) <;> omega)).other _ _ (by (try simp) <;> omega)).kept hB12
  have M_pl := ((((N_pl.other _ _ (by (try simp) <;> omega)).other _ _ (by (try simp) <;> omega)).other _ _ (by (try simp) <;> omega)).other _ _ (by (try simp) <;> omega)).kept hB12
  have M_ph := ((((N_ph.other _ _ (by (try simp) <;> omega)).other _ _ (by (try simp) <;> omega)).other _ _ (by (try simp) <;> omega)).other _ _ (by (try simp) <;> omega)).kept hB12
  have M_l := ((((N_l.other _ _ (by (try simp) <;> omega)).other _ _ (by (try simp) <;> omega)).other _ _ (by (try simp) <;> omega)).other _ _ (by (try simp) <;> omega)).kept hB12
  have M_h := (N_h.put g1).kept hB12
  have hWw12 : Below w.heap.size w w12 := (below_put (below_put (below_put (below_put hWw11 (by omega) _ _) (by omega) _ _) (by omega) _ _) (by omega) _ _).trans (hB12.mono (by (try simp) <;> omega))
  clear N_lo N_hi N_pl N_ph N_l N_h hWw11 zw12 hB12
  have N_lo := M_lo
  have N_hi := M_hi
  have N_pl := M_pl
  have N_ph := M_ph
  have N_l := M_l
  have N_h := M_h
  clear M_lo M_hi M_pl M_ph M_l M_h
  have F_h := N_h.facts; have L_h := N_h.lt
  go_wp2
  rw [rounds_succ]
  have zz := hWw12.size
  refine abs_world (fun w' => Below w.heap.size w w' ∧ NumAt w' (w2.heap.size) lo ∧ NumAt w' (w2.heap.size + 1) hi ∧ NumAt w' (w5.heap.size) pl ∧ NumAt w' (w5.heap.size + 1) ph ∧ NumAt w' (w6.heap.size) l1 ∧ NumAt w' (w7.heap.size) h1) ⟨(below_put (below_put (below_put (below_put hWw12 (by omega) _ _) (by omega) _ _) (by omega) _ _) (by omega) _ _), ((((N_lo.other _ _ (by (try simp) <;> omega)).other _ _ (by (try simp) <;> omega)).other _ _ (by (try simp) <;> omega)).other _ _ (by (try simp) <;> omega)), ((((N_hi.other _ _ (by (try simp) <;> omega)).other _ _ (by (try simp) <;> omega)).other _ _ (by (try simp) <;> omega)).other _ _ (by (try simp) <;> omega)), ((((N_pl.other _ _ (by (try simp) <;> omega)).other _ _ (by (try simp) <;> omega)).other _ _ (by (try simp) <;> omega)).other _ _ (by (try simp) <;> omega)), ((((N_ph.other _ _ (by (try simp) <;> omega)).other _ _ (by (try simp) <;> omega)).other _ _ (by (try simp) <;> omega)).other _ _ (by (try simp) <;> omega)), ((((N_l.other _ _ (by (try simp) <;> omega)).other _ _ (by (try simp) <;> omega)).other _ _ (by (try simp) <;> omega)).other _ _ (by (try simp) <;> omega)), (N_h.put h1)⟩ ?_
  clear N_lo N_hi N_pl N_ph N_l N_h hWw12 zz F_h L_h
  intro w13 ⟨hWw13, N_lo, N_hi, N_pl, N_ph, N_l, N_h⟩
  have F_l := N_l.facts; have L_l := N_l.lt
  have F_pl := N_pl.facts; have L_pl := N_pl.lt
  obtain ⟨c2, hc2, hc21⟩ : ∃ c : Nat, c = (l1 + pl) / W256 ∧ c ≤ 1 := ⟨_, rfl, by have := B_l1.out; have := B_pl.out; unfold W256 at *; omega⟩
  have C2 := Lib.hid hc2; clear hc2
  have hcn2 : Value.agg #[.int .u64 (c2 : Int), .int .u64 0, .int .u64 0, .int .u64 0] = numV c2 := numV_of (a := c2) (b := 0) (c := 0) (d := 0) (by omega) (by decide) (by decide) (by decide) (by omega)
  have HC2 := Lib.hid hcn2; clear hcn2
  have B_c2 : Hid (c2 < W256) := by show _ < _; unfold W256; omega
  go_wp2_with fail
  refine (add_calls l1 pl B_l1.out B_pl.out _).mono ?_
  rintro e w14 ⟨rfl, hB14⟩
  rw [← C2.out]
  obtain ⟨l2, h_l2⟩ : ∃ v, v = (l1 + pl) % W256 := ⟨_, rfl⟩
  rw [← h_l2, numV_eq l2]
  have E_l2 := Lib.hid h_l2; clear h_l2
  have B_l2 : Hid (l2 < W256) := by show _ < _; rw [E_l2.out]; exact Nat.mod_lt _ W256_pos
  clear F_l L_l F_pl L_pl
  have zw14 := hWw13.size
  have M_lo := N_lo.kept hB14
  have M_hi := N_hi.kept hB14
  have M_pl := N_pl.kept hB14
  have M_ph := N_ph.kept hB14
  have M_l := N_l.kept hB14
  have M_h := N_h.kept hB14
  have hWw14 : Below w.heap.size w w14 := hWw13.trans (hB14.mono (by (try simp) <;> omega))
  clear N_lo N_hi N_pl N_ph N_l N_h hWw13 zw14 hB14
  have N_lo := M_lo
  have N_hi := M_hi
  have N_pl := M_pl
  have N_ph := M_ph
  have N_l := M_l
  have N_h := M_h
  clear M_lo M_hi M_pl M_ph M_l M_h
  have F_h := N_h.facts; have L_h := N_h.lt
  have F_ph := N_ph.facts; have L_ph := N_ph.lt
  have L1_ph : w5.heap.size < w14.heap.size := by omega
  have F_l := N_l.facts; have L_l := N_l.lt
  go_wp2_with fail
  refine (add_calls h1 ph B_h1.out B_ph.out _).mono ?_
  rintro e w15 ⟨rfl, hB15⟩
  obtain ⟨g2, h_g2⟩ : ∃ v, v = (h1 + ph) % W256 := ⟨_, rfl⟩
  rw [← h_g2, numV_eq g2]
  have E_g2 := Lib.hid h_g2; clear h_g2
  have B_g2 : Hid (g2 < W256) := by show _ < _; rw [E_g2.out]; exact Nat.mod_lt _ W256_pos
  clear F_h L_h F_ph L_ph L1_ph F_l L_l
  have zw15 := hWw14.size
  have M_lo := ((((N_lo.other _ _ (by (try simp) <;> omega)).other _ _ (by (try simp) <;> omega)).other _ _ (by (try simp) <;> omega)).other _ _ (by (try simp) <;> omega)).kept hB15
  have M_hi := ((((N_hi.other _ _ (by (try simp) <;> omega)).other _ _ (by (try simp) <;> omega)).other _ _ (by (try simp) <;> omega)).other _ _ (by (try simp) <;> omega)).kept hB15
  have M_pl := ((((N_pl.other _ _ (by (try simp) <;> omega)).other _ _ (by (try simp) <;> omega)).other _ _ (by (try simp) <;> omega)).other _ _ (by (try simp) <;> omega)).kept hB15
  have M_ph := ((((N_ph.other _ _ (by (try simp) <;> omega)).other _ _ (by (try simp) <;> omega)).other _ _ (by (try simp) <;> omega)).other _ _ (by (try simp) <;> omega)).kept hB15
  have M_l := (N_l.put l2).kept hB15
  have M_h := ((((N_h.other _ _ (by (try simp) <;> omega)).other _ _ (by (try simp) <;> omega)).other _ _ (by (try simp) <;> omega)).other _ _ (by (try simp) <;> omega)).kept hB15
  have hWw15 : Below w.heap.size w w15 := (below_put (below_put (below_put (below_put hWw14 (by omega) _ _) (by omega) _ _) (by omega) _ _) (by omega) _ _).trans (hB15.mono (by (try simp) <;> omega))
  clear N_lo N_hi N_pl N_ph N_l N_h hWw14 zw15 hB15
  have N_lo := M_lo
  have N_hi := M_hi
  have N_pl := M_pl
  have N_ph := M_ph
  have N_l := M_l
  have N_h := M_h
  clear M_lo M_hi M_pl M_ph M_l M_h
  have F_h := N_h.facts; have L_h := N_h.lt
  go_wp2_with fail
  rw [HC2.out]
  refine (add_calls g2 c2 B_g2.out B_c2.out _).mono ?_
  rintro e w16 ⟨rfl, hB16⟩
  obtain ⟨h2, h_h2⟩ : ∃ v, v = (g2 + c2) % W256 := ⟨_, rfl⟩
  rw [← h_h2, numV_eq h2]
  have E_h2 := Lib.hid h_h2; clear h_h2
  have B_h2 : Hid (h2 < W256) := by show _ < _; rw [E_h2.out]; exact Nat.mod_lt _ W256_pos
  clear F_h L_h
  have zw16 := hWw15.size
  have M_lo := ((((N_lo.other _ _ (by (try simp) <;> omega)).other _ _ (by (try simp) <;> omega)).other _ _ (by (try simp) <;> omega)).other _ _ (by (try simp) <;> omega)).kept hB16
  have M_hi := ((((N_hi.other _ _ (by (try simp) <;> omega)).other _ _ (by (try simp) <;> omega)).other _ _ (by (try simp) <;> omega)).other _ _ (by (try simp) <;> omega)).kept hB16
  have M_pl := ((((N_pl.other _ _ (by (try simp) <;> omega)).other _ _ (by (try simp) <;> omega)).other _ _ (by (try simp) <;> omega)).other _ _ (by (try simp) <;> omega)).kept hB16
  have M_ph := ((((N_ph.other _ _ (by (try simp) <;> omega)).other _ _ (by (try simp) <;> omega)).other _ _ (by (try simp) <;> omega)).other _ _ (by (try simp) <;> omega)).kept hB16
  have M_l := ((((N_l.other _ _ (by (try simp) <;> omega)).other _ _ (by (try simp) <;> omega)).other _ _ (by (try simp) <;> omega)).other _ _ (by (try simp) <;> omega)).kept hB16
  have M_h := (N_h.put g2).kept hB16
  have hWw16 : Below w.heap.size w w16 := (below_put (below_put (below_put (below_put hWw15 (by omega) _ _) (by omega) _ _) (by omega) _ _) (by omega) _ _).trans (hB16.mono (by (try simp) <;> omega))
  clear N_lo N_hi N_pl N_ph N_l N_h hWw15 zw16 hB16
  have N_lo := M_lo
  have N_hi := M_hi
  have N_pl := M_pl
  have N_ph := M_ph
  have N_l := M_l
  have N_h := M_h
  clear M_lo M_hi M_pl M_ph M_l M_h
  have F_h := N_h.facts; have L_h := N_h.lt
  go_wp2
  rw [rounds_succ]
  have zz := hWw16.size
  refine abs_world (fun w' => Below w.heap.size w w' ∧ NumAt w' (w2.heap.size) lo ∧ NumAt w' (w2.heap.size + 1) hi ∧ NumAt w' (w5.heap.size) pl ∧ NumAt w' (w5.heap.size + 1) ph ∧ NumAt w' (w6.heap.size) l2 ∧ NumAt w' (w7.heap.size) h2) ⟨(below_put (below_put (below_put (below_put hWw16 (by omega) _ _) (by omega) _ _) (by omega) _ _) (by omega) _ _), ((((N_lo.other _ _ (by (try simp) <;> omega)).other _ _ (by (try simp) <;> omega)).other _ _ (by (try simp) <;> omega)).other _ _ (by (try simp) <;> omega)), ((((N_hi.other _ _ (by (try simp) <;> omega)).other _ _ (by (try simp) <;> omega)).other _ _ (by (try simp) <;> omega)).other _ _ (by (try simp) <;> omega)), ((((N_pl.other _ _ (by (try simp) <;> omega)).other _ _ (by (try simp) <;> omega)).other _ _ (by (try simp) <;> omega)).other _ _ (by (try simp) <;> omega)), ((((N_ph.other _ _ (by (try simp) <;> omega)).other _ _ (by (try simp) <;> omega)).other _ _ (by (try simp) <;> omega)).other _ _ (by (try simp) <;> omega)), ((((N_l.other _ _ (by (try simp) <;> omega)).other _ _ (by (try simp) <;> omega)).other _ _ (by (try simp) <;> omega)).other _ _ (by (try simp) <;> omega)), (N_h.put h2)⟩ ?_
  clear N_lo N_hi N_pl N_ph N_l N_h hWw16 zz F_h L_h
  intro w17 ⟨hWw17, N_lo, N_hi, N_pl, N_ph, N_l, N_h⟩
  have hfin := squares_eq (h0 := h0) (h1 := h1) (h2 := h2) LA.out LB.out E_s.out E_lo.out E_hi.out E_al.out E_ah.out E_bl.out E_bh.out E_pl.out E_ph.out E_l0.out (by rw [E_h0.out, E_g0.out, C0.out]) E_l1.out (by rw [E_h1.out, E_g1.out, C1.out]) E_l2.out (by rw [E_h2.out, E_g2.out, C2.out])
  rw [hfin.1] at N_l
  rw [hfin.2] at N_h
  clear hfin
  have F_l := N_l.facts; have L_l := N_l.lt
  have F_lo := N_lo.facts; have L_lo := N_lo.lt
  have F_h := N_h.facts; have L_h := N_h.lt
  have F_hi := N_hi.facts; have L_hi := N_hi.lt
  have L1_hi : w2.heap.size < w17.heap.size := by omega
  go_wp2_with fail
  refine (wakes1_calls _).mono ?_
  rintro e w18 ⟨rfl, hB18⟩
  clear F_l L_l F_lo L_lo F_h L_h F_hi L_hi L1_hi
  have zw18 := hWw17.size
  have M_lo := N_lo.kept hB18
  have M_hi := N_hi.kept hB18
  have M_pl := N_pl.kept hB18
  have M_ph := N_ph.kept hB18
  have M_l := N_l.kept hB18
  have M_h := N_h.kept hB18
  have hWw18 : Below w.heap.size w w18 := hWw17.trans (hB18.mono (by (try simp) <;> omega))
  clear N_lo N_hi N_pl N_ph N_l N_h hWw17 zw18 hB18
  have N_lo := M_lo
  have N_hi := M_hi
  have N_pl := M_pl
  have N_ph := M_ph
  have N_l := M_l
  have N_h := M_h
  clear M_lo M_hi M_pl M_ph M_l M_h
  go_wp2
  go_ret
  have zz := hWw18.size
  refine ⟨rfl, ?_⟩
  repeat first | exact Below.refl _ _ | assumption | refine Below.drew ?_ | (refine Below.alloc ?_ (by (try simp) <;> omega) _)

set_option maxRecDepth 100000 in
theorem limbSquares_lifted (os : Os) (started : os.Started) (H : Type) (enc : TypeId × Value → H) :
    ReturnsInHanded {} Try.checked os 6 .any (Rows.limbSquaresSpec.pre6 enc Try.prog Try.f6 Rows.limbSquaresRow.domain false) (Rows.limbSquaresSpec.post enc Try.prog Try.f6 false true false false) := by
  refine returnsInHanded_of_change (C := Try.checked) own started (by kernel_rfl) Try.func6
    (ChangeSpec.witness6 (enc := enc) (C := Try.checked) false ⟨#[], #[.agg #[.int .u64 0, .int .u64 0, .int .u64 0, .int .u64 0], .agg #[.int .u64 0, .int .u64 0, .int .u64 0, .int .u64 0]], []⟩ 8 (by kernel_rfl) (by kernel_rfl) (by kernel_rfl) (by kernel_rfl)) ?_
  intro W base args ds gs before hval0 hW hcnd _
  have hval : ∀ (j : Nat) t v, Try.f6.params[j]? = some t → args[j]? = some v → Value.okWide Try.prog W .any base t v := hval0
  have hW' := hW
  obtain ⟨p, q, hA0, hV, rfl, hfz, hnd⟩ := hW
  have hA : DataW.TrodAll enc Try.prog W 0 (fun _ => true) true Try.f6.params.toList args.toList ds p := hA0
  rw [Try.params6] at hA hval
  obtain ⟨v0, vs0, d0, ds0, p0, q0, hargs, rfl, rfl, h0, r0⟩ := trodAll_cons hA
  obtain ⟨v1, vs1, d1, ds1, p1, q1, rfl, rfl, rfl, h1, r1⟩ := trodAll_cons r0
  obtain ⟨rfl, rfl, rfl⟩ := trodAll_nil r1
  obtain rfl : args = #[v0, v1] := by cases args; simp_all
  obtain ⟨rfl, rfl⟩ := trodVars_none hV
  have k0 := h0
  have lt0 : ∀ x ∈ p0, x.block < W.heap.size := by obtain ⟨m, hm⟩ := k0; exact DataW.trod_lt m _ _ _ hm
  have k1 := h1
  have lt1 : ∀ x ∈ p1, x.block < W.heap.size := by obtain ⟨m, hm⟩ := k1; exact DataW.trod_lt m _ _ _ hm
  obtain ⟨a, w_a, rfl⟩ := open_num (hval 0 24 v0 rfl rfl) h0
  obtain ⟨b, w_b, rfl⟩ := open_num (hval 1 24 v1 rfl rfl) h1
  clear hA0 hval0
  refine (limbSquares_walk a b w_a w_b W).mono fun e W' ⟨he, bel⟩ => ?_
  subst he
  exact ⟨_, rfl, _, _, _, [], _, [], hW', trodAll_mk1 (shut_bool Try.underlying4 _), (trodAll_cons_mk (Below.trod laidOut (by kernel_rfl) (of_decide_eq_true (by kernel_rfl)) k0 bel lt0) (trodAll_cons_mk (Below.trod laidOut (by kernel_rfl) (of_decide_eq_true (by kernel_rfl)) k1 bel lt1) trodAll_mk0)), rfl, bel.frame _, fun h => by cases h⟩

theorem limbSquares_holds : Rows.LimbSquaresSaid :=
  OpenClaim.holds_of_wide 6 Try.f6 rfl rfl rfl rfl rfl rfl rfl ⟨rfl, rfl, rfl, rfl, rfl⟩ rfl rfl rfl rfl rfl (by kernel_rfl) Try.func6 (by kernel_rfl)
    (of_decide_eq_true (by kernel_rfl)) (by unfold Func.isWrapper; first | (rw [if_pos (by decide +kernel)]; kernel_rfl) | (rw [if_neg (by decide +kernel)]; exact ⟨rfl, rfl⟩))
    (fun os started H enc _ => limbSquares_lifted os started H enc)

end Go.Proofs.Ytmecomgifmkkfaa
