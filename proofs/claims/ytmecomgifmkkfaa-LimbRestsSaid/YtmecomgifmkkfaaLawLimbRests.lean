/- LimbRests: what is left stays the same if the divisor is added; of what is below it, it is that; of products it is that of what is left of both; for every input, no condition. -/
import Derived.Test.YtmecomgifmkkfaaProg
import Derived.Test.YtmecomgifmkkfaaNum
import Derived.Test.YtmecomgifmkkfaaBits
import Derived.Test.YtmecomgifmkkfaaBytes
import Derived.Test.YtmecomgifmkkfaaMem
import Derived.Test.YtmecomgifmkkfaaOrd
import Derived.Test.YtmecomgifmkkfaaEqs
import Derived.Test.YtmecomgifmkkfaaLimbA
import Derived.Test.YtmecomgifmkkfaaLimbB
import Derived.Test.YtmecomgifmkkfaaLimbC
import Derived.Test.YtmecomgifmkkfaaLimbF
import Derived.Test.YtmecomgifmkkfaaLimbG
import Derived.Test.YtmecomgifmkkfaaLimbM
import Derived.Test.YtmecomgifmkkfaaLimbN
import Derived.Test.YtmecomgifmkkfaaLimbW
import Derived.Test.YtmecomgifmkkfaaRows
import Derived.Test.YtmecomgifmkkfaaOpen
import Derived.Test.YtmecomgifmkkfaaAux
import Derived.WalkSpells
import Derived.WalkLawsBesides
import Derived.Handy
import Derived.Lib.Hide
import Derived.RegionTactic
import Derived.BigQuiet
import Derived.Deep.Cut
import Derived.ProofKit
import Derived.OpenShut
namespace Go.Proofs.Ytmecomgifmkkfaa
open Go.ChangeShapes Go.WideShapes Go.ChangeAt Go.RowKit

theorem rests_mul {a b m x y lo hi l h : Nat} (hx : x = (0 * W256 + a) % m) (hy : y = (0 * W256 + b) % m) (hlo : lo = a * b % W256) (hhi : hi = a * b / W256) (hl : l = x * y % W256) (hh : h = x * y / W256) :
    (h * W256 + l) % m = (hi * W256 + lo) % m := by
  have e1 : hi * W256 + lo = a * b := by rw [hlo, hhi, Nat.mul_comm, Nat.div_add_mod]
  have e2 : h * W256 + l = x * y := by rw [hl, hh, Nat.mul_comm, Nat.div_add_mod]
  rw [e1, e2, hx, hy, Nat.zero_mul, Nat.zero_add, Nat.zero_add, ← Nat.mul_mod]
theorem rests_add {a m x s c : Nat} (hx : x = (0 * W256 + a) % m) (hs : s = (a + m) % W256) (hc : c = (a + m) / W256) : (c * W256 + s) % m = x := by
  have e1 : c * W256 + s = a + m := by rw [hs, hc, Nat.mul_comm, Nat.div_add_mod]
  rw [e1, hx, Nat.zero_mul, Nat.zero_add, Nat.add_mod_right]

set_option maxHeartbeats 1000000 in
set_option maxRecDepth 100000 in
theorem limbRests_walk (a : Nat) (b : Nat) (m : Nat) (w_a : a < W256) (w_b : b < W256) (w_m : m < W256) (w : World) :
    Calls Try.prog 5 #[numV a, numV b, numV m] w fun e w' => e = .returned (.bool true) ∧ Below w.heap.size w w' := by
  have hg := eqGuard_num
  have hS := @eq_same
  have BA := Lib.hid w_a; have BB := Lib.hid w_b; have BM := Lib.hid w_m
  have BZ := Lib.hid W256_pos
  by_cases hm : m = 0
  · subst hm
    have hE := eq_digits
    rw [numV_eq a, numV_eq b, show numV 0 = .agg #[.int .u64 0, .int .u64 0, .int .u64 0, .int .u64 0] from rfl]
    clear hS w_a w_b w_m
    go_enter Try.func5, Try.ntmps5
    go_wp2
    go_ret
    refine ⟨rfl, ?_⟩
    repeat first | exact Below.refl _ _ | (refine Below.alloc ?_ (by (try simp) <;> omega) _)
  · have hE := fun w => eq_num_zero w_m w
    have hd : decide (m = 0) = false := decide_eq_false hm
    simp only [hd] at hE
    have HM := Lib.hid hm
    have HP := Lib.hid (Nat.pos_of_ne_zero hm)
    clear w_a w_b w_m hm hd
    obtain ⟨c, hc, hc1⟩ : ∃ c : Nat, c = (a + m) / W256 ∧ c ≤ 1 := ⟨_, rfl, by have := BA.out; have := BM.out; unfold W256 at *; omega⟩
    have E_c := Lib.hid hc; clear hc
    have hcn : Value.agg #[.int .u64 (c : Int), .int .u64 0, .int .u64 0, .int .u64 0] = numV c := numV_of (a := c) (b := 0) (c := 0) (d := 0) (by omega) (by decide) (by decide) (by decide) (by omega)
    have HC := Lib.hid hcn
    have B_c : Hid (c < W256) := by show _ < _; unfold W256; omega
    clear hcn
    rw [numV_eq a, numV_eq b, numV_eq m]
    rcases Nat.lt_or_ge a m with h | h
    · have H := Lib.hid h; clear h
      go_enter Try.func5, Try.ntmps5
      go_wp2_with fail
      refine (mod_calls 0 a m BZ.out BA.out BM.out HM.out _).mono ?_
      rintro e w1 ⟨rfl, hB1⟩
      obtain ⟨x, h_x⟩ : ∃ v, v = (0 * W256 + a) % m := ⟨_, rfl⟩
      rw [← h_x, numV_eq x]
      have E_x := Lib.hid h_x; clear h_x
      have B_x : Hid (x < W256) := by show _ < _; rw [E_x.out]; exact Nat.lt_trans (Nat.mod_lt _ HP.out) BM.out
      have M_a := (((NumAt.newAt _ (w.heap.size) a (by first | rfl | simp)).alloc _).alloc _).kept hB1
      have M_b := ((NumAt.newAt _ (w.heap.size + 1) b (by first | rfl | simp)).alloc _).kept hB1
      have M_m := (NumAt.newAt _ (w.heap.size + 1 + 1) m (by first | rfl | simp)).kept hB1
      have hWw1 : Below w.heap.size w w1 := ((((Below.refl _ _).alloc (by (try simp) <;> omega) _).alloc (by (try simp) <;> omega) _).alloc (by (try simp) <;> omega) _).trans (hB1.mono (by (try simp) <;> omega))
      clear hB1
      have N_a := M_a
      have N_b := M_b
      have N_m := M_m
      clear M_a M_b M_m
      have F_b := N_b.facts; have L_b := N_b.lt
      have L1_b : w.heap.size < w1.heap.size := by omega
      have F_m := N_m.facts; have L_m := N_m.lt
      have L1_m : w.heap.size + 1 < w1.heap.size := by omega
      have L2_m : w.heap.size < w1.heap.size := by omega
      go_wp2_with fail
      refine (mod_calls 0 b m BZ.out BB.out BM.out HM.out _).mono ?_
      rintro e w2 ⟨rfl, hB2⟩
      obtain ⟨y, h_y⟩ : ∃ v, v = (0 * W256 + b) % m := ⟨_, rfl⟩
      rw [← h_y, numV_eq y]
      have E_y := Lib.hid h_y; clear h_y
      have B_y : Hid (y < W256) := by show _ < _; rw [E_y.out]; exact Nat.lt_trans (Nat.mod_lt _ HP.out) BM.out
      clear F_b L_b L1_b F_m L_m L1_m L2_m
      have zw2 := hWw1.size
      have M_a := (N_a.alloc _).kept hB2
      have M_b := (N_b.alloc _).kept hB2
      have M_m := (N_m.alloc _).kept hB2
      have M_x := (NumAt.newAt _ (w1.heap.size) x (by first | rfl | simp)).kept hB2
      have hWw2 : Below w.heap.size w w2 := (hWw1.alloc (by (try simp) <;> omega) _).trans (hB2.mono (by (try simp) <;> omega))
      clear N_a N_b N_m hWw1 zw2 hB2
      have N_a := M_a
      have N_b := M_b
      have N_m := M_m
      have N_x := M_x
      clear M_a M_b M_m M_x
      have F_a := N_a.facts; have L_a := N_a.lt
      have F_b := N_b.facts; have L_b := N_b.lt
      have L1_b : w.heap.size < w2.heap.size := by omega
      go_wp2_with fail
      refine (mul_calls a b BA.out BB.out _).mono ?_
      rintro e w3 ⟨rfl, hB3⟩
      obtain ⟨lo, h_lo⟩ : ∃ v, v = a * b % W256 := ⟨_, rfl⟩
      rw [← h_lo, numV_eq lo]
      have E_lo := Lib.hid h_lo; clear h_lo
      have B_lo : Hid (lo < W256) := by show _ < _; rw [E_lo.out]; exact Nat.mod_lt _ W256_pos
      obtain ⟨hi, h_hi⟩ : ∃ v, v = a * b / W256 := ⟨_, rfl⟩
      rw [← h_hi, numV_eq hi]
      have E_hi := Lib.hid h_hi; clear h_hi
      have B_hi : Hid (hi < W256) := by show _ < _; rw [E_hi.out]; exact mul_hi BA.out BB.out
      clear F_a L_a F_b L_b L1_b
      have zw3 := hWw2.size
      have M_a := (N_a.alloc _).kept hB3
      have M_b := (N_b.alloc _).kept hB3
      have M_m := (N_m.alloc _).kept hB3
      have M_x := (N_x.alloc _).kept hB3
      have M_y := (NumAt.newAt _ (w2.heap.size) y (by first | rfl | simp)).kept hB3
      have hWw3 : Below w.heap.size w w3 := (hWw2.alloc (by (try simp) <;> omega) _).trans (hB3.mono (by (try simp) <;> omega))
      clear N_a N_b N_m N_x hWw2 zw3 hB3
      have N_a := M_a
      have N_b := M_b
      have N_m := M_m
      have N_x := M_x
      have N_y := M_y
      clear M_a M_b M_m M_x M_y
      have F_m := N_m.facts; have L_m := N_m.lt
      have L1_m : w.heap.size + 1 < w3.heap.size := by omega
      have L2_m : w.heap.size < w3.heap.size := by omega
      go_wp2_with fail
      refine (mod_calls hi lo m B_hi.out B_lo.out BM.out HM.out _).mono ?_
      rintro e w4 ⟨rfl, hB4⟩
      obtain ⟨p, h_p⟩ : ∃ v, v = (hi * W256 + lo) % m := ⟨_, rfl⟩
      rw [← h_p, numV_eq p]
      have E_p := Lib.hid h_p; clear h_p
      have B_p : Hid (p < W256) := by show _ < _; rw [E_p.out]; exact Nat.lt_trans (Nat.mod_lt _ HP.out) BM.out
      clear F_m L_m L1_m L2_m
      have zw4 := hWw3.size
      have M_a := ((N_a.alloc _).alloc _).kept hB4
      have M_b := ((N_b.alloc _).alloc _).kept hB4
      have M_m := ((N_m.alloc _).alloc _).kept hB4
      have M_x := ((N_x.alloc _).alloc _).kept hB4
      have M_y := ((N_y.alloc _).alloc _).kept hB4
      have M_lo := ((NumAt.newAt _ (w3.heap.size) lo (by first | rfl | simp)).alloc _).kept hB4
      have M_hi := (NumAt.newAt _ (w3.heap.size + 1) hi (by first | rfl | simp)).kept hB4
      have hWw4 : Below w.heap.size w w4 := ((hWw3.alloc (by (try simp) <;> omega) _).alloc (by (try simp) <;> omega) _).trans (hB4.mono (by (try simp) <;> omega))
      clear N_a N_b N_m N_x N_y hWw3 zw4 hB4
      have N_a := M_a
      have N_b := M_b
      have N_m := M_m
      have N_x := M_x
      have N_y := M_y
      have N_lo := M_lo
      have N_hi := M_hi
      clear M_a M_b M_m M_x M_y M_lo M_hi
      clear N_lo N_hi
      have F_x := N_x.facts; have L_x := N_x.lt
      have F_y := N_y.facts; have L_y := N_y.lt
      go_wp2_with fail
      refine (mul_calls x y B_x.out B_y.out _).mono ?_
      rintro e w5 ⟨rfl, hB5⟩
      obtain ⟨l, h_l⟩ : ∃ v, v = x * y % W256 := ⟨_, rfl⟩
      rw [← h_l, numV_eq l]
      have E_l := Lib.hid h_l; clear h_l
      have B_l : Hid (l < W256) := by show _ < _; rw [E_l.out]; exact Nat.mod_lt _ W256_pos
      obtain ⟨h, h_h⟩ : ∃ v, v = x * y / W256 := ⟨_, rfl⟩
      rw [← h_h, numV_eq h]
      have E_h := Lib.hid h_h; clear h_h
      have B_h : Hid (h < W256) := by show _ < _; rw [E_h.out]; exact mul_hi B_x.out B_y.out
      clear F_x L_x F_y L_y
      have zw5 := hWw4.size
      have M_a := (N_a.alloc _).kept hB5
      have M_b := (N_b.alloc _).kept hB5
      have M_m := (N_m.alloc _).kept hB5
      have M_x := (N_x.alloc _).kept hB5
      have M_y := (N_y.alloc _).kept hB5
      have M_p := (NumAt.newAt _ (w4.heap.size) p (by first | rfl | simp)).kept hB5
      have hWw5 : Below w.heap.size w w5 := (hWw4.alloc (by (try simp) <;> omega) _).trans (hB5.mono (by (try simp) <;> omega))
      clear N_a N_b N_m N_x N_y hWw4 zw5 hB5
      have N_a := M_a
      have N_b := M_b
      have N_m := M_m
      have N_x := M_x
      have N_y := M_y
      have N_p := M_p
      clear M_a M_b M_m M_x M_y M_p
      have F_m := N_m.facts; have L_m := N_m.lt
      have L1_m : w.heap.size + 1 < w5.heap.size := by omega
      have L2_m : w.heap.size < w5.heap.size := by omega
      go_wp2_with fail
      refine (mod_calls h l m B_h.out B_l.out BM.out HM.out _).mono ?_
      rintro e w6 ⟨rfl, hB6⟩
      rw [rests_mul E_x.out E_y.out E_lo.out E_hi.out E_l.out E_h.out]
      rw [← E_p.out]
      rw [numV_eq p]
      clear F_m L_m L1_m L2_m
      have zw6 := hWw5.size
      have M_a := ((N_a.alloc _).alloc _).kept hB6
      have M_b := ((N_b.alloc _).alloc _).kept hB6
      have M_m := ((N_m.alloc _).alloc _).kept hB6
      have M_x := ((N_x.alloc _).alloc _).kept hB6
      have M_y := ((N_y.alloc _).alloc _).kept hB6
      have M_p := ((N_p.alloc _).alloc _).kept hB6
      have M_l := ((NumAt.newAt _ (w5.heap.size) l (by first | rfl | simp)).alloc _).kept hB6
      have M_h := (NumAt.newAt _ (w5.heap.size + 1) h (by first | rfl | simp)).kept hB6
      have hWw6 : Below w.heap.size w w6 := ((hWw5.alloc (by (try simp) <;> omega) _).alloc (by (try simp) <;> omega) _).trans (hB6.mono (by (try simp) <;> omega))
      clear N_a N_b N_m N_x N_y N_p hWw5 zw6 hB6
      have N_a := M_a
      have N_b := M_b
      have N_m := M_m
      have N_x := M_x
      have N_y := M_y
      have N_p := M_p
      have N_l := M_l
      have N_h := M_h
      clear M_a M_b M_m M_x M_y M_p M_l M_h
      clear N_l N_h N_y
      have F_a := N_a.facts; have L_a := N_a.lt
      have F_m := N_m.facts; have L_m := N_m.lt
      have L1_m : w.heap.size + 1 < w6.heap.size := by omega
      have L2_m : w.heap.size < w6.heap.size := by omega
      go_wp2_with fail
      refine (add_calls a m BA.out BM.out _).mono ?_
      rintro e w7 ⟨rfl, hB7⟩
      rw [← E_c.out]
      obtain ⟨s, h_s⟩ : ∃ v, v = (a + m) % W256 := ⟨_, rfl⟩
      rw [← h_s, numV_eq s]
      have E_s := Lib.hid h_s; clear h_s
      have B_s : Hid (s < W256) := by show _ < _; rw [E_s.out]; exact Nat.mod_lt _ W256_pos
      clear F_a L_a F_m L_m L1_m L2_m
      have zw7 := hWw6.size
      have M_a := (N_a.alloc _).kept hB7
      have M_b := (N_b.alloc _).kept hB7
      have M_m := (N_m.alloc _).kept hB7
      have M_x := (N_x.alloc _).kept hB7
      have M_p := (N_p.alloc _).kept hB7
      have M_q := (NumAt.newAt _ (w6.heap.size) p (by first | rfl | simp)).kept hB7
      have hWw7 : Below w.heap.size w w7 := (hWw6.alloc (by (try simp) <;> omega) _).trans (hB7.mono (by (try simp) <;> omega))
      clear N_a N_b N_m N_x N_p hWw6 zw7 hB7
      have N_a := M_a
      have N_b := M_b
      have N_m := M_m
      have N_x := M_x
      have N_p := M_p
      have N_q := M_q
      clear M_a M_b M_m M_x M_p M_q
      have F_m := N_m.facts; have L_m := N_m.lt
      have L1_m : w.heap.size + 1 < w7.heap.size := by omega
      have L2_m : w.heap.size < w7.heap.size := by omega
      go_wp2_with fail
      rw [HC.out]
      refine (mod_calls c s m B_c.out B_s.out BM.out HM.out _).mono ?_
      rintro e w8 ⟨rfl, hB8⟩
      rw [rests_add E_x.out E_s.out E_c.out, numV_eq x]
      clear F_m L_m L1_m L2_m
      have zw8 := hWw7.size
      have M_a := (N_a.alloc _).kept hB8
      have M_b := (N_b.alloc _).kept hB8
      have M_m := (N_m.alloc _).kept hB8
      have M_x := (N_x.alloc _).kept hB8
      have M_p := (N_p.alloc _).kept hB8
      have M_q := (N_q.alloc _).kept hB8
      have M_s := (NumAt.newAt _ (w7.heap.size) s (by first | rfl | simp)).kept hB8
      have hWw8 : Below w.heap.size w w8 := (hWw7.alloc (by (try simp) <;> omega) _).trans (hB8.mono (by (try simp) <;> omega))
      clear N_a N_b N_m N_x N_p N_q hWw7 zw8 hB8
      have N_a := M_a
      have N_b := M_b
      have N_m := M_m
      have N_x := M_x
      have N_p := M_p
      have N_q := M_q
      have N_s := M_s
      clear M_a M_b M_m M_x M_p M_q M_s
      clear N_s
      have F_p := N_p.facts; have L_p := N_p.lt
      have F_q := N_q.facts; have L_q := N_q.lt
      have F_x := N_x.facts; have L_x := N_x.lt
      have F_a := N_a.facts; have L_a := N_a.lt
      have F_m := N_m.facts; have L_m := N_m.lt
      have L1_m : w.heap.size + 1 < w8.heap.size := by omega
      have L2_m : w.heap.size < w8.heap.size := by omega
      go_wp2_with fail
      refine (cmp_calls a m BA.out BM.out _).mono ?_
      rintro e w9 ⟨rfl, hB9⟩
      rw [cmpI_lt H.out]
      clear F_p L_p F_q L_q F_x L_x F_a L_a F_m L_m L1_m L2_m
      have zw9 := hWw8.size
      have M_a := (N_a.alloc _).kept hB9
      have M_b := (N_b.alloc _).kept hB9
      have M_m := (N_m.alloc _).kept hB9
      have M_x := (N_x.alloc _).kept hB9
      have M_p := (N_p.alloc _).kept hB9
      have M_q := (N_q.alloc _).kept hB9
      have M_r := (NumAt.newAt _ (w8.heap.size) x (by first | rfl | simp)).kept hB9
      have hWw9 : Below w.heap.size w w9 := (hWw8.alloc (by (try simp) <;> omega) _).trans (hB9.mono (by (try simp) <;> omega))
      clear N_a N_b N_m N_x N_p N_q hWw8 zw9 hB9
      have N_a := M_a
      have N_b := M_b
      have N_m := M_m
      have N_x := M_x
      have N_p := M_p
      have N_q := M_q
      have N_r := M_r
      clear M_a M_b M_m M_x M_p M_q M_r
      obtain rfl : x = a := by rw [E_x.out, Nat.zero_mul, Nat.zero_add, Nat.mod_eq_of_lt H.out]
      have F_x := N_x.facts; have L_x := N_x.lt
      have F_m := N_m.facts; have L_m := N_m.lt
      have L1_m : w.heap.size + 1 < w9.heap.size := by omega
      have L2_m : w.heap.size < w9.heap.size := by omega
      have F_a := N_a.facts; have L_a := N_a.lt
      go_wp2_with fail
      refine (cmp_calls x m B_x.out BM.out _).mono ?_
      rintro e w10 ⟨rfl, hB10⟩
      rw [cmpI_lt (by rw [E_x.out]; exact Nat.mod_lt _ HP.out)]
      clear F_x L_x F_m L_m L1_m L2_m F_a L_a
      have zw10 := hWw9.size
      have M_a := N_a.kept hB10
      have M_b := N_b.kept hB10
      have M_m := N_m.kept hB10
      have M_x := N_x.kept hB10
      have M_p := N_p.kept hB10
      have M_q := N_q.kept hB10
      have M_r := N_r.kept hB10
      have hWw10 : Below w.heap.size w w10 := hWw9.trans (hB10.mono (by (try simp) <;> omega))
      clear N_a N_b N_m N_x N_p N_q N_r hWw9 zw10 hB10
      have N_a := M_a
      have N_b := M_b
      have N_m := M_m
      have N_x := M_x
      have N_p := M_p
      have N_q := M_q
      have N_r := M_r
      clear M_a M_b M_m M_x M_p M_q M_r
      go_wp2_with fail
      refine (wakes1_calls _).mono ?_
      rintro e w11 ⟨rfl, hB11⟩
      have zw11 := hWw10.size
      have M_a := N_a.kept hB11
      have M_b := N_b.kept hB11
      have M_m := N_m.kept hB11
      have M_x := N_x.kept hB11
      have M_p := N_p.kept hB11
      have M_q := N_q.kept hB11
      have M_r := N_r.kept hB11
      have hWw11 : Below w.heap.size w w11 := hWw10.trans (hB11.mono (by (try simp) <;> omega))
      clear N_a N_b N_m N_x N_p N_q N_r hWw10 zw11 hB11
      have N_a := M_a
      have N_b := M_b
      have N_m := M_m
      have N_x := M_x
      have N_p := M_p
      have N_q := M_q
      have N_r := M_r
      clear M_a M_b M_m M_x M_p M_q M_r
      go_wp2
      go_ret
      have zz := hWw11.size
      refine ⟨rfl, ?_⟩
      repeat first | exact Below.refl _ _ | assumption | refine Below.drew ?_ | (refine Below.alloc ?_ (by (try simp) <;> omega) _)
    
    · have H := Lib.hid h; clear h
      go_enter Try.func5, Try.ntmps5
      go_wp2_with fail
      refine (mod_calls 0 a m BZ.out BA.out BM.out HM.out _).mono ?_
      rintro e w1 ⟨rfl, hB1⟩
      obtain ⟨x, h_x⟩ : ∃ v, v = (0 * W256 + a) % m := ⟨_, rfl⟩
      rw [← h_x, numV_eq x]
      have E_x := Lib.hid h_x; clear h_x
      have B_x : Hid (x < W256) := by show _ < _; rw [E_x.out]; exact Nat.lt_trans (Nat.mod_lt _ HP.out) BM.out
      have M_a := (((NumAt.newAt _ (w.heap.size) a (by first | rfl | simp)).alloc _).alloc _).kept hB1
      have M_b := ((NumAt.newAt _ (w.heap.size + 1) b (by first | rfl | simp)).alloc _).kept hB1
      have M_m := (NumAt.newAt _ (w.heap.size + 1 + 1) m (by first | rfl | simp)).kept hB1
      have hWw1 : Below w.heap.size w w1 := ((((Below.refl _ _).alloc (by (try simp) <;> omega) _).alloc (by (try simp) <;> omega) _).alloc (by (try simp) <;> omega) _).trans (hB1.mono (by (try simp) <;> omega))
      clear hB1
      have N_a := M_a
      have N_b := M_b
      have N_m := M_m
      clear M_a M_b M_m
      have F_b := N_b.facts; have L_b := N_b.lt
      have L1_b : w.heap.size < w1.heap.size := by omega
      have F_m := N_m.facts; have L_m := N_m.lt
      have L1_m : w.heap.size + 1 < w1.heap.size := by omega
      have L2_m : w.heap.size < w1.heap.size := by omega
      go_wp2_with fail
      refine (mod_calls 0 b m BZ.out BB.out BM.out HM.out _).mono ?_
      rintro e w2 ⟨rfl, hB2⟩
      obtain ⟨y, h_y⟩ : ∃ v, v = (0 * W256 + b) % m := ⟨_, rfl⟩
      rw [← h_y, numV_eq y]
      have E_y := Lib.hid h_y; clear h_y
      have B_y : Hid (y < W256) := by show _ < _; rw [E_y.out]; exact Nat.lt_trans (Nat.mod_lt _ HP.out) BM.out
      clear F_b L_b L1_b F_m L_m L1_m L2_m
      have zw2 := hWw1.size
      have M_a := (N_a.alloc _).kept hB2
      have M_b := (N_b.alloc _).kept hB2
      have M_m := (N_m.alloc _).kept hB2
      have M_x := (NumAt.newAt _ (w1.heap.size) x (by first | rfl | simp)).kept hB2
      have hWw2 : Below w.heap.size w w2 := (hWw1.alloc (by (try simp) <;> omega) _).trans (hB2.mono (by (try simp) <;> omega))
      clear N_a N_b N_m hWw1 zw2 hB2
      have N_a := M_a
      have N_b := M_b
      have N_m := M_m
      have N_x := M_x
      clear M_a M_b M_m M_x
      have F_a := N_a.facts; have L_a := N_a.lt
      have F_b := N_b.facts; have L_b := N_b.lt
      have L1_b : w.heap.size < w2.heap.size := by omega
      go_wp2_with fail
      refine (mul_calls a b BA.out BB.out _).mono ?_
      rintro e w3 ⟨rfl, hB3⟩
      obtain ⟨lo, h_lo⟩ : ∃ v, v = a * b % W256 := ⟨_, rfl⟩
      rw [← h_lo, numV_eq lo]
      have E_lo := Lib.hid h_lo; clear h_lo
      have B_lo : Hid (lo < W256) := by show _ < _; rw [E_lo.out]; exact Nat.mod_lt _ W256_pos
      obtain ⟨hi, h_hi⟩ : ∃ v, v = a * b / W256 := ⟨_, rfl⟩
      rw [← h_hi, numV_eq hi]
      have E_hi := Lib.hid h_hi; clear h_hi
      have B_hi : Hid (hi < W256) := by show _ < _; rw [E_hi.out]; exact mul_hi BA.out BB.out
      clear F_a L_a F_b L_b L1_b
      have zw3 := hWw2.size
      have M_a := (N_a.alloc _).kept hB3
      have M_b := (N_b.alloc _).kept hB3
      have M_m := (N_m.alloc _).kept hB3
      have M_x := (N_x.alloc _).kept hB3
      have M_y := (NumAt.newAt _ (w2.heap.size) y (by first | rfl | simp)).kept hB3
      have hWw3 : Below w.heap.size w w3 := (hWw2.alloc (by (try simp) <;> omega) _).trans (hB3.mono (by (try simp) <;> omega))
      clear N_a N_b N_m N_x hWw2 zw3 hB3
      have N_a := M_a
      have N_b := M_b
      have N_m := M_m
      have N_x := M_x
      have N_y := M_y
      clear M_a M_b M_m M_x M_y
      have F_m := N_m.facts; have L_m := N_m.lt
      have L1_m : w.heap.size + 1 < w3.heap.size := by omega
      have L2_m : w.heap.size < w3.heap.size := by omega
      go_wp2_with fail
      refine (mod_calls hi lo m B_hi.out B_lo.out BM.out HM.out _).mono ?_
      rintro e w4 ⟨rfl, hB4⟩
      obtain ⟨p, h_p⟩ : ∃ v, v = (hi * W256 + lo) % m := ⟨_, rfl⟩
      rw [← h_p, numV_eq p]
      have E_p := Lib.hid h_p; clear h_p
      have B_p : Hid (p < W256) := by show _ < _; rw [E_p.out]; exact Nat.lt_trans (Nat.mod_lt _ HP.out) BM.out
      clear F_m L_m L1_m L2_m
      have zw4 := hWw3.size
      have M_a := ((N_a.alloc _).alloc _).kept hB4
      have M_b := ((N_b.alloc _).alloc _).kept hB4
      have M_m := ((N_m.alloc _).alloc _).kept hB4
      have M_x := ((N_x.alloc _).alloc _).kept hB4
      have M_y := ((N_y.alloc _).alloc _).kept hB4
      have M_lo := ((NumAt.newAt _ (w3.heap.size) lo (by first | rfl | simp)).alloc _).kept hB4
      have M_hi := (NumAt.newAt _ (w3.heap.size + 1) hi (by first | rfl | simp)).kept hB4
      have hWw4 : Below w.heap.size w w4 := ((hWw3.alloc (by (try simp) <;> omega) _).alloc (by (try simp) <;> omega) _).trans (hB4.mono (by (try simp) <;> omega))
      clear N_a N_b N_m N_x N_y hWw3 zw4 hB4
      have N_a := M_a
      have N_b := M_b
      have N_m := M_m
      have N_x := M_x
      have N_y := M_y
      have N_lo := M_lo
      have N_hi := M_hi
      clear M_a M_b M_m M_x M_y M_lo M_hi
      clear N_lo N_hi
      have F_x := N_x.facts; have L_x := N_x.lt
      have F_y := N_y.facts; have L_y := N_y.lt
      go_wp2_with fail
      refine (mul_calls x y B_x.out B_y.out _).mono ?_
      rintro e w5 ⟨rfl, hB5⟩
      obtain ⟨l, h_l⟩ : ∃ v, v = x * y % W256 := ⟨_, rfl⟩
      rw [← h_l, numV_eq l]
      have E_l := Lib.hid h_l; clear h_l
      have B_l : Hid (l < W256) := by show _ < _; rw [E_l.out]; exact Nat.mod_lt _ W256_pos
      obtain ⟨h, h_h⟩ : ∃ v, v = x * y / W256 := ⟨_, rfl⟩
      rw [← h_h, numV_eq h]
      have E_h := Lib.hid h_h; clear h_h
      have B_h : Hid (h < W256) := by show _ < _; rw [E_h.out]; exact mul_hi B_x.out B_y.out
      clear F_x L_x F_y L_y
      have zw5 := hWw4.size
      have M_a := (N_a.alloc _).kept hB5
      have M_b := (N_b.alloc _).kept hB5
      have M_m := (N_m.alloc _).kept hB5
      have M_x := (N_x.alloc _).kept hB5
      have M_y := (N_y.alloc _).kept hB5
      have M_p := (NumAt.newAt _ (w4.heap.size) p (by first | rfl | simp)).kept hB5
      have hWw5 : Below w.heap.size w w5 := (hWw4.alloc (by (try simp) <;> omega) _).trans (hB5.mono (by (try simp) <;> omega))
      clear N_a N_b N_m N_x N_y hWw4 zw5 hB5
      have N_a := M_a
      have N_b := M_b
      have N_m := M_m
      have N_x := M_x
      have N_y := M_y
      have N_p := M_p
      clear M_a M_b M_m M_x M_y M_p
      have F_m := N_m.facts; have L_m := N_m.lt
      have L1_m : w.heap.size + 1 < w5.heap.size := by omega
      have L2_m : w.heap.size < w5.heap.size := by omega
      go_wp2_with fail
      refine (mod_calls h l m B_h.out B_l.out BM.out HM.out _).mono ?_
      rintro e w6 ⟨rfl, hB6⟩
      rw [rests_mul E_x.out E_y.out E_lo.out E_hi.out E_l.out E_h.out]
      rw [← E_p.out]
      rw [numV_eq p]
      clear F_m L_m L1_m L2_m
      have zw6 := hWw5.size
      have M_a := ((N_a.alloc _).alloc _).kept hB6
      have M_b := ((N_b.alloc _).alloc _).kept hB6
      have M_m := ((N_m.alloc _).alloc _).kept hB6
      have M_x := ((N_x.alloc _).alloc _).kept hB6
      have M_y := ((N_y.alloc _).alloc _).kept hB6
      have M_p := ((N_p.alloc _).alloc _).kept hB6
      have M_l := ((NumAt.newAt _ (w5.heap.size) l (by first | rfl | simp)).alloc _).kept hB6
      have M_h := (NumAt.newAt _ (w5.heap.size + 1) h (by first | rfl | simp)).kept hB6
      have hWw6 : Below w.heap.size w w6 := ((hWw5.alloc (by (try simp) <;> omega) _).alloc (by (try simp) <;> omega) _).trans (hB6.mono (by (try simp) <;> omega))
      clear N_a N_b N_m N_x N_y N_p hWw5 zw6 hB6
      have N_a := M_a
      have N_b := M_b
      have N_m := M_m
      have N_x := M_x
      have N_y := M_y
      have N_p := M_p
      have N_l := M_l
      have N_h := M_h
      clear M_a M_b M_m M_x M_y M_p M_l M_h
      clear N_l N_h N_y
      have F_a := N_a.facts; have L_a := N_a.lt
      have F_m := N_m.facts; have L_m := N_m.lt
      have L1_m : w.heap.size + 1 < w6.heap.size := by omega
      have L2_m : w.heap.size < w6.heap.size := by omega
      go_wp2_with fail
      refine (add_calls a m BA.out BM.out _).mono ?_
      rintro e w7 ⟨rfl, hB7⟩
      rw [← E_c.out]
      obtain ⟨s, h_s⟩ : ∃ v, v = (a + m) % W256 := ⟨_, rfl⟩
      rw [← h_s, numV_eq s]
      have E_s := Lib.hid h_s; clear h_s
      have B_s : Hid (s < W256) := by show _ < _; rw [E_s.out]; exact Nat.mod_lt _ W256_pos
      clear F_a L_a F_m L_m L1_m L2_m
      have zw7 := hWw6.size
      have M_a := (N_a.alloc _).kept hB7
      have M_b := (N_b.alloc _).kept hB7
      have M_m := (N_m.alloc _).kept hB7
      have M_x := (N_x.alloc _).kept hB7
      have M_p := (N_p.alloc _).kept hB7
      have M_q := (NumAt.newAt _ (w6.heap.size) p (by first | rfl | simp)).kept hB7
      have hWw7 : Below w.heap.size w w7 := (hWw6.alloc (by (try simp) <;> omega) _).trans (hB7.mono (by (try simp) <;> omega))
      clear N_a N_b N_m N_x N_p hWw6 zw7 hB7
      have N_a := M_a
      have N_b := M_b
      have N_m := M_m
      have N_x := M_x
      have N_p := M_p
      have N_q := M_q
      clear M_a M_b M_m M_x M_p M_q
      have F_m := N_m.facts; have L_m := N_m.lt
      have L1_m : w.heap.size + 1 < w7.heap.size := by omega
      have L2_m : w.heap.size < w7.heap.size := by omega
      go_wp2_with fail
      rw [HC.out]
      refine (mod_calls c s m B_c.out B_s.out BM.out HM.out _).mono ?_
      rintro e w8 ⟨rfl, hB8⟩
      rw [rests_add E_x.out E_s.out E_c.out, numV_eq x]
      clear F_m L_m L1_m L2_m
      have zw8 := hWw7.size
      have M_a := (N_a.alloc _).kept hB8
      have M_b := (N_b.alloc _).kept hB8
      have M_m := (N_m.alloc _).kept hB8
      have M_x := (N_x.alloc _).kept hB8
      have M_p := (N_p.alloc _).kept hB8
      have M_q := (N_q.alloc _).kept hB8
      have M_s := (NumAt.newAt _ (w7.heap.size) s (by first | rfl | simp)).kept hB8
      have hWw8 : Below w.heap.size w w8 := (hWw7.alloc (by (try simp) <;> omega) _).trans (hB8.mono (by (try simp) <;> omega))
      clear N_a N_b N_m N_x N_p N_q hWw7 zw8 hB8
      have N_a := M_a
      have N_b := M_b
      have N_m := M_m
      have N_x := M_x
      have N_p := M_p
      have N_q := M_q
      have N_s := M_s
      clear M_a M_b M_m M_x M_p M_q M_s
      clear N_s
      have F_p := N_p.facts; have L_p := N_p.lt
      have F_q := N_q.facts; have L_q := N_q.lt
      have F_x := N_x.facts; have L_x := N_x.lt
      have F_a := N_a.facts; have L_a := N_a.lt
      have F_m := N_m.facts; have L_m := N_m.lt
      have L1_m : w.heap.size + 1 < w8.heap.size := by omega
      have L2_m : w.heap.size < w8.heap.size := by omega
      have hcm : 0 ≤ cmpI a m := by have := H.out; unfold cmpI; rw [if_neg (by omega)]; split <;> omega
      go_wp2_with fail
      refine (cmp_calls a m BA.out BM.out _).mono ?_
      rintro e w9 ⟨rfl, hB9⟩
      clear F_p L_p F_q L_q F_x L_x F_a L_a F_m L_m L1_m L2_m
      have zw9 := hWw8.size
      have M_a := (N_a.alloc _).kept hB9
      have M_b := (N_b.alloc _).kept hB9
      have M_m := (N_m.alloc _).kept hB9
      have M_x := (N_x.alloc _).kept hB9
      have M_p := (N_p.alloc _).kept hB9
      have M_q := (N_q.alloc _).kept hB9
      have M_r := (NumAt.newAt _ (w8.heap.size) x (by first | rfl | simp)).kept hB9
      have hWw9 : Below w.heap.size w w9 := (hWw8.alloc (by (try simp) <;> omega) _).trans (hB9.mono (by (try simp) <;> omega))
      clear N_a N_b N_m N_x N_p N_q hWw8 zw9 hB9
      have N_a := M_a
      have N_b := M_b
      have N_m := M_m
      have N_x := M_x
      have N_p := M_p
      have N_q := M_q
      have N_r := M_r
      clear M_a M_b M_m M_x M_p M_q M_r
      have F_x := N_x.facts; have L_x := N_x.lt
      have F_m := N_m.facts; have L_m := N_m.lt
      have L1_m : w.heap.size + 1 < w9.heap.size := by omega
      have L2_m : w.heap.size < w9.heap.size := by omega
      go_wp2_with fail
      refine (cmp_calls x m B_x.out BM.out _).mono ?_
      rintro e w10 ⟨rfl, hB10⟩
      rw [cmpI_lt (by rw [E_x.out]; exact Nat.mod_lt _ HP.out)]
      clear F_x L_x F_m L_m L1_m L2_m
      have zw10 := hWw9.size
      have M_a := N_a.kept hB10
      have M_b := N_b.kept hB10
      have M_m := N_m.kept hB10
      have M_x := N_x.kept hB10
      have M_p := N_p.kept hB10
      have M_q := N_q.kept hB10
      have M_r := N_r.kept hB10
      have hWw10 : Below w.heap.size w w10 := hWw9.trans (hB10.mono (by (try simp) <;> omega))
      clear N_a N_b N_m N_x N_p N_q N_r hWw9 zw10 hB10
      have N_a := M_a
      have N_b := M_b
      have N_m := M_m
      have N_x := M_x
      have N_p := M_p
      have N_q := M_q
      have N_r := M_r
      clear M_a M_b M_m M_x M_p M_q M_r
      go_wp2_with fail
      refine (wakes1_calls _).mono ?_
      rintro e w11 ⟨rfl, hB11⟩
      have zw11 := hWw10.size
      have M_a := N_a.kept hB11
      have M_b := N_b.kept hB11
      have M_m := N_m.kept hB11
      have M_x := N_x.kept hB11
      have M_p := N_p.kept hB11
      have M_q := N_q.kept hB11
      have M_r := N_r.kept hB11
      have hWw11 : Below w.heap.size w w11 := hWw10.trans (hB11.mono (by (try simp) <;> omega))
      clear N_a N_b N_m N_x N_p N_q N_r hWw10 zw11 hB11
      have N_a := M_a
      have N_b := M_b
      have N_m := M_m
      have N_x := M_x
      have N_p := M_p
      have N_q := M_q
      have N_r := M_r
      clear M_a M_b M_m M_x M_p M_q M_r
      go_wp2
      go_ret
      have zz := hWw11.size
      refine ⟨rfl, ?_⟩
      repeat first | exact Below.refl _ _ | assumption | refine Below.drew ?_ | (refine Below.alloc ?_ (by (try simp) <;> omega) _)

set_option maxRecDepth 100000 in
theorem limbRests_lifted (os : Os) (started : os.Started) (H : Type) (enc : TypeId × Value → H) :
    ReturnsInHanded {} Try.checked os 5 .any (Rows.limbRestsSpec.pre6 enc Try.prog Try.f5 Rows.limbRestsRow.domain false) (Rows.limbRestsSpec.post enc Try.prog Try.f5 false true false false) := by
  refine returnsInHanded_of_change (C := Try.checked) own started (by kernel_rfl) Try.func5
    (ChangeSpec.witness6 (enc := enc) (C := Try.checked) false ⟨#[], #[.agg #[.int .u64 0, .int .u64 0, .int .u64 0, .int .u64 0], .agg #[.int .u64 0, .int .u64 0, .int .u64 0, .int .u64 0], .agg #[.int .u64 0, .int .u64 0, .int .u64 0, .int .u64 0]], []⟩ 8 (by kernel_rfl) (by kernel_rfl) (by kernel_rfl) (by kernel_rfl)) ?_
  intro W base args ds gs before hval0 hW hcnd _
  have hval : ∀ (j : Nat) t v, Try.f5.params[j]? = some t → args[j]? = some v → Value.okWide Try.prog W .any base t v := hval0
  have hW' := hW
  obtain ⟨p, q, hA0, hV, rfl, hfz, hnd⟩ := hW
  have hA : DataW.TrodAll enc Try.prog W 0 (fun _ => true) true Try.f5.params.toList args.toList ds p := hA0
  rw [Try.params5] at hA hval
  obtain ⟨v0, vs0, d0, ds0, p0, q0, hargs, rfl, rfl, h0, r0⟩ := trodAll_cons hA
  obtain ⟨v1, vs1, d1, ds1, p1, q1, rfl, rfl, rfl, h1, r1⟩ := trodAll_cons r0
  obtain ⟨v2, vs2, d2, ds2, p2, q2, rfl, rfl, rfl, h2, r2⟩ := trodAll_cons r1
  obtain ⟨rfl, rfl, rfl⟩ := trodAll_nil r2
  obtain rfl : args = #[v0, v1, v2] := by cases args; simp_all
  obtain ⟨rfl, rfl⟩ := trodVars_none hV
  have k0 := h0
  have lt0 : ∀ x ∈ p0, x.block < W.heap.size := by obtain ⟨m, hm⟩ := k0; exact DataW.trod_lt m _ _ _ hm
  have k1 := h1
  have lt1 : ∀ x ∈ p1, x.block < W.heap.size := by obtain ⟨m, hm⟩ := k1; exact DataW.trod_lt m _ _ _ hm
  have k2 := h2
  have lt2 : ∀ x ∈ p2, x.block < W.heap.size := by obtain ⟨m, hm⟩ := k2; exact DataW.trod_lt m _ _ _ hm
  obtain ⟨a, w_a, rfl⟩ := open_num (hval 0 24 v0 rfl rfl) h0
  obtain ⟨b, w_b, rfl⟩ := open_num (hval 1 24 v1 rfl rfl) h1
  obtain ⟨m, w_m, rfl⟩ := open_num (hval 2 24 v2 rfl rfl) h2
  clear hA0 hval0
  refine (limbRests_walk a b m w_a w_b w_m W).mono fun e W' ⟨he, bel⟩ => ?_
  subst he
  exact ⟨_, rfl, _, _, _, [], _, [], hW', trodAll_mk1 (shut_bool Try.underlying4 _), (trodAll_cons_mk (Below.trod laidOut (by kernel_rfl) (of_decide_eq_true (by kernel_rfl)) k0 bel lt0) (trodAll_cons_mk (Below.trod laidOut (by kernel_rfl) (of_decide_eq_true (by kernel_rfl)) k1 bel lt1) (trodAll_cons_mk (Below.trod laidOut (by kernel_rfl) (of_decide_eq_true (by kernel_rfl)) k2 bel lt2) trodAll_mk0))), rfl, bel.frame _, fun h => by cases h⟩

theorem limbRests_holds : Rows.LimbRestsSaid :=
  OpenClaim.holds_of_wide 5 Try.f5 rfl rfl rfl rfl rfl rfl rfl ⟨rfl, rfl, rfl, rfl, rfl⟩ rfl rfl rfl rfl rfl (by kernel_rfl) Try.func5 (by kernel_rfl)
    (of_decide_eq_true (by kernel_rfl)) (by unfold Func.isWrapper; first | (rw [if_pos (by decide +kernel)]; kernel_rfl) | (rw [if_neg (by decide +kernel)]; exact ⟨rfl, rfl⟩))
    (fun os started H enc _ => limbRests_lifted os started H enc)

end Go.Proofs.Ytmecomgifmkkfaa
