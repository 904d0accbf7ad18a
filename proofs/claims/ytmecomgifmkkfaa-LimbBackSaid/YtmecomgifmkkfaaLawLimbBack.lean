/- LimbBack: what was added and taken away again is what it was; products hang on no order; what is below is told so, by what is borrowed; for every input, no condition. -/
import Derived.Test.YtmecomgifmkkfaaProg
import Derived.Test.YtmecomgifmkkfaaNum
import Derived.Test.YtmecomgifmkkfaaBits
import Derived.Test.YtmecomgifmkkfaaBytes
import Derived.Test.YtmecomgifmkkfaaMem
import Derived.Test.YtmecomgifmkkfaaOrd
import Derived.Test.YtmecomgifmkkfaaEqs
import Derived.Test.YtmecomgifmkkfaaLimbA
import Derived.Test.YtmecomgifmkkfaaLimbB
import Derived.Test.YtmecomgifmkkfaaLimbC
import Derived.Test.YtmecomgifmkkfaaLimbF
import Derived.Test.YtmecomgifmkkfaaLimbG
import Derived.Test.YtmecomgifmkkfaaLimbM
import Derived.Test.YtmecomgifmkkfaaLimbN
import Derived.Test.YtmecomgifmkkfaaLimbW
import Derived.Test.YtmecomgifmkkfaaRows
import Derived.Test.YtmecomgifmkkfaaOpen
import Derived.Test.YtmecomgifmkkfaaAux
import Derived.WalkSpells
import Derived.WalkLawsBesides
import Derived.Handy
import Derived.Lib.Hide
import Derived.RegionTactic
import Derived.BigQuiet
import Derived.Deep.Cut
import Derived.ProofKit
import Derived.OpenShut
namespace Go.Proofs.Ytmecomgifmkkfaa
open Go.ChangeShapes Go.WideShapes Go.ChangeAt Go.RowKit

theorem back_sub {a b s : Nat} (ha : a < W256) (hb : b < W256) (hs : s = (a + b) % W256) : (s + W256 - b) % W256 = a ∧ (if s < b then 1 else 0 : Nat) = (a + b) / W256 := by
  unfold W256 at *
  subst hs
  by_cases h : a + b < 115792089237316195423570985008687907853269984665640564039457584007913129639936
  · rw [if_neg (by omega)]; omega
  · rw [if_pos (by omega)]; omega
theorem back_dist {a b c s p q r : Nat} (hs : s = (a + b) % W256) (hp : p = s * c % W256) (hq : q = a * c % W256) (hr : r = b * c % W256) : (q + r) % W256 = p := by
  rw [hp, hs, hq, hr, Nat.mod_mul_mod, Nat.add_mul, ← Nat.add_mod]

set_option maxHeartbeats 1000000 in
set_option maxRecDepth 100000 in
theorem limbBack_walk (a : Nat) (b : Nat) (c : Nat) (w_a : a < W256) (w_b : b < W256) (w_c : c < W256) (w : World) :
    Calls Try.prog 4 #[numV a, numV b, numV c] w fun e w' => e = .returned (.bool true) ∧ Below w.heap.size w w' := by
  have hg := eqGuard_num
  have hS := @eq_same
  have BA := Lib.hid w_a; have BB := Lib.hid w_b; have BC := Lib.hid w_c
  clear w_a w_b w_c
  obtain ⟨x, hx, hx1⟩ : ∃ x : Nat, x = (a + b) / W256 ∧ x ≤ 1 := ⟨_, rfl, by have := BA.out; have := BB.out; unfold W256 at *; omega⟩
  have X := Lib.hid hx; clear hx
  rw [numV_eq a, numV_eq b, numV_eq c]
  rcases Nat.lt_trichotomy a b with h | h | h
  · have H := Lib.hid h; clear h
    go_enter Try.func4, Try.ntmps4
    go_wp2_with fail
    refine (add_calls a b BA.out BB.out _).mono ?_
    rintro e w1 ⟨rfl, hB1⟩
    rw [← X.out]
    obtain ⟨s, h_s⟩ : ∃ v, v = (a + b) % W256 := ⟨_, rfl⟩
    rw [← h_s, numV_eq s]
    have E_s := Lib.hid h_s; clear h_s
    have B_s : Hid (s < W256) := by show _ < _; rw [E_s.out]; exact Nat.mod_lt _ W256_pos
    have M_a := (((NumAt.newAt _ (w.heap.size) a (by first | rfl | simp)).alloc _).alloc _).kept hB1
    have M_b := ((NumAt.newAt _ (w.heap.size + 1) b (by first | rfl | simp)).alloc _).kept hB1
    have M_c := (NumAt.newAt _ (w.heap.size + 1 + 1) c (by first | rfl | simp)).kept hB1
    have hWw1 : Below w.heap.size w w1 := ((((Below.refl _ _).alloc (by (try simp) <;> omega) _).alloc (by (try simp) <;> omega) _).alloc (by (try simp) <;> omega) _).trans (hB1.mono (by (try simp) <;> omega))
    clear hB1
    have N_a := M_a
    have N_b := M_b
    have N_c := M_c
    clear M_a M_b M_c
    have F_b := N_b.facts; have L_b := N_b.lt
    have L1_b : w.heap.size < w1.heap.size := by omega
    go_wp2_with fail
    refine (sub_calls s b B_s.out BB.out _).mono ?_
    rintro e w2 ⟨rfl, hB2⟩
    rw [(back_sub BA.out BB.out E_s.out).1]
    rw [(back_sub BA.out BB.out E_s.out).2]
    rw [← X.out]
    rw [numV_eq a]
    clear F_b L_b L1_b
    have zw2 := hWw1.size
    have M_a := (N_a.alloc _).kept hB2
    have M_b := (N_b.alloc _).kept hB2
    have M_c := (N_c.alloc _).kept hB2
    have M_s := (NumAt.newAt _ (w1.heap.size) s (by first | rfl | simp)).kept hB2
    have hWw2 : Below w.heap.size w w2 := (hWw1.alloc (by (try simp) <;> omega) _).trans (hB2.mono (by (try simp) <;> omega))
    clear N_a N_b N_c hWw1 zw2 hB2
    have N_a := M_a
    have N_b := M_b
    have N_c := M_c
    have N_s := M_s
    clear M_a M_b M_c M_s
    have F_a := N_a.facts; have L_a := N_a.lt
    have F_b := N_b.facts; have L_b := N_b.lt
    have L1_b : w.heap.size < w2.heap.size := by omega
    go_wp2_with fail
    refine (sub_calls a b BA.out BB.out _).mono ?_
    rintro e w3 ⟨rfl, hB3⟩
    rw [if_pos H.out]
    rw [show ((1 : Nat) : Int) = 1 from rfl]
    obtain ⟨o, h_o⟩ : ∃ v, v = (a + W256 - b) % W256 := ⟨_, rfl⟩
    rw [← h_o, numV_eq o]
    have E_o := Lib.hid h_o; clear h_o
    have B_o : Hid (o < W256) := by show _ < _; rw [E_o.out]; exact Nat.mod_lt _ W256_pos
    clear F_a L_a F_b L_b L1_b
    have zw3 := hWw2.size
    have M_a := (N_a.alloc _).kept hB3
    have M_b := (N_b.alloc _).kept hB3
    have M_c := (N_c.alloc _).kept hB3
    have M_s := (N_s.alloc _).kept hB3
    have M_d := (NumAt.newAt _ (w2.heap.size) a (by first | rfl | simp)).kept hB3
    have hWw3 : Below w.heap.size w w3 := (hWw2.alloc (by (try simp) <;> omega) _).trans (hB3.mono (by (try simp) <;> omega))
    clear N_a N_b N_c N_s hWw2 zw3 hB3
    have N_a := M_a
    have N_b := M_b
    have N_c := M_c
    have N_s := M_s
    have N_d := M_d
    clear M_a M_b M_c M_s M_d
    clear N_d
    have F_a := N_a.facts; have L_a := N_a.lt
    have F_b := N_b.facts; have L_b := N_b.lt
    have L1_b : w.heap.size < w3.heap.size := by omega
    go_upto_region 6 with (fail)
    clear F_a L_a F_b L_b L1_b
    have zz := hWw3.size
    refine abs_world (fun w' => Below w.heap.size w w' ∧ NumAt w' (w.heap.size) a ∧ NumAt w' (w.heap.size + 1) b ∧ NumAt w' (w.heap.size + 1 + 1) c ∧ NumAt w' (w1.heap.size) s) ⟨(hWw3.alloc (by (try simp) <;> omega) _), (N_a.alloc _), (N_b.alloc _), (N_c.alloc _), (N_s.alloc _)⟩ ?_
    clear N_a N_b N_c N_s hWw3 zz
    intro w4 ⟨hWw4, N_a, N_b, N_c, N_s⟩
    have G_a0 : ∀ z : Ext w4, z.w.cell? ⟨w.heap.size, 0, none⟩ = some (.int .u64 (dg a 0 : Nat)) := fun z => (N_a.kept z.below).cell 0 (by decide)
    have G_a1 : ∀ z : Ext w4, z.w.cell? ⟨w.heap.size, 1, none⟩ = some (.int .u64 (dg a 1 : Nat)) := fun z => (N_a.kept z.below).cell 1 (by decide)
    have G_a2 : ∀ z : Ext w4, z.w.cell? ⟨w.heap.size, 2, none⟩ = some (.int .u64 (dg a 2 : Nat)) := fun z => (N_a.kept z.below).cell 2 (by decide)
    have G_a3 : ∀ z : Ext w4, z.w.cell? ⟨w.heap.size, 3, none⟩ = some (.int .u64 (dg a 3 : Nat)) := fun z => (N_a.kept z.below).cell 3 (by decide)
    have G_b0 : ∀ z : Ext w4, z.w.cell? ⟨w.heap.size + 1, 0, none⟩ = some (.int .u64 (dg b 0 : Nat)) := fun z => (N_b.kept z.below).cell 0 (by decide)
    have G_b1 : ∀ z : Ext w4, z.w.cell? ⟨w.heap.size + 1, 1, none⟩ = some (.int .u64 (dg b 1 : Nat)) := fun z => (N_b.kept z.below).cell 1 (by decide)
    have G_b2 : ∀ z : Ext w4, z.w.cell? ⟨w.heap.size + 1, 2, none⟩ = some (.int .u64 (dg b 2 : Nat)) := fun z => (N_b.kept z.below).cell 2 (by decide)
    have G_b3 : ∀ z : Ext w4, z.w.cell? ⟨w.heap.size + 1, 3, none⟩ = some (.int .u64 (dg b 3 : Nat)) := fun z => (N_b.kept z.below).cell 3 (by decide)
    refine ext_region (by kernel_rfl) (by kernel_rfl) ?_
    repeat (go_big_quiet_step (fail))
    go_big_quiet_step ((refine (cmp_calls a b BA.out BB.out _).mono ?_; rintro e wz ⟨rfl, hBz⟩; rw [cmpI_lt H.out]; exact ⟨rfl, Ext.on _ hBz⟩))
    repeat (go_big_quiet_step (fail))
    go_big_quiet_step ((refine (cmp_calls a b BA.out BB.out _).mono ?_; rintro e wz ⟨rfl, hBz⟩; rw [cmpI_lt H.out]; exact ⟨rfl, Ext.on _ hBz⟩))
    repeat (go_big_quiet_step (fail))
    go_big_quiet_step ((refine (cmp_calls b a BB.out BA.out _).mono ?_; rintro e wz ⟨rfl, hBz⟩; rw [cmpI_gt H.out]; exact ⟨rfl, Ext.on _ hBz⟩))
    repeat (go_big_quiet_step (fail))
    go_big_quiet_step ((refine (cmp_calls a a BA.out BA.out _).mono ?_; rintro e wz ⟨rfl, hBz⟩; rw [cmpI_eq]; exact ⟨rfl, Ext.on _ hBz⟩))
    repeat (go_big_quiet_step (fail))
    refine wpQuiet_nil ?_
    intro z
    clear G_a0 G_a1 G_a2 G_a3 G_b0 G_b1 G_b2 G_b3
    have M_a := N_a.kept z.below
    have M_b := N_b.kept z.below
    have M_c := N_c.kept z.below
    have M_s := N_s.kept z.below
    have hWw4x := hWw4.trans (z.below.mono hWw4.size)
    clear N_a N_b N_c N_s hWw4
    generalize z.w = w4x at *
    clear z
    have N_a := M_a
    have N_b := M_b
    have N_c := M_c
    have N_s := M_s
    clear M_a M_b M_c M_s
    have F_a := N_a.facts; have L_a := N_a.lt
    have F_b := N_b.facts; have L_b := N_b.lt
    have L1_b : w.heap.size < w4x.heap.size := by omega
    go_wp2_with fail
    refine (mul_calls a b BA.out BB.out _).mono ?_
    rintro e w5 ⟨rfl, hB5⟩
    obtain ⟨lo, h_lo⟩ : ∃ v, v = a * b % W256 := ⟨_, rfl⟩
    rw [← h_lo, numV_eq lo]
    have E_lo := Lib.hid h_lo; clear h_lo
    have B_lo : Hid (lo < W256) := by show _ < _; rw [E_lo.out]; exact Nat.mod_lt _ W256_pos
    obtain ⟨hi, h_hi⟩ : ∃ v, v = a * b / W256 := ⟨_, rfl⟩
    rw [← h_hi, numV_eq hi]
    have E_hi := Lib.hid h_hi; clear h_hi
    have B_hi : Hid (hi < W256) := by show _ < _; rw [E_hi.out]; exact mul_hi BA.out BB.out
    clear F_a L_a F_b L_b L1_b
    have zw5 := hWw4x.size
    have M_a := N_a.kept hB5
    have M_b := N_b.kept hB5
    have M_c := N_c.kept hB5
    have M_s := N_s.kept hB5
    have hWw5 : Below w.heap.size w w5 := hWw4x.trans (hB5.mono (by (try simp) <;> omega))
    clear N_a N_b N_c N_s hWw4x zw5 hB5
    have N_a := M_a
    have N_b := M_b
    have N_c := M_c
    have N_s := M_s
    clear M_a M_b M_c M_s
    have F_a := N_a.facts; have L_a := N_a.lt
    have F_b := N_b.facts; have L_b := N_b.lt
    have L1_b : w.heap.size < w5.heap.size := by omega
    go_wp2_with fail
    refine (mul_calls b a BB.out BA.out _).mono ?_
    rintro e w6 ⟨rfl, hB6⟩
    rw [Nat.mul_comm b a]
    rw [← E_lo.out]
    rw [← E_hi.out]
    rw [numV_eq lo]
    rw [numV_eq hi]
    clear F_a L_a F_b L_b L1_b
    have zw6 := hWw5.size
    have M_a := ((N_a.alloc _).alloc _).kept hB6
    have M_b := ((N_b.alloc _).alloc _).kept hB6
    have M_c := ((N_c.alloc _).alloc _).kept hB6
    have M_s := ((N_s.alloc _).alloc _).kept hB6
    have M_lo := ((NumAt.newAt _ (w5.heap.size) lo (by first | rfl | simp)).alloc _).kept hB6
    have M_hi := (NumAt.newAt _ (w5.heap.size + 1) hi (by first | rfl | simp)).kept hB6
    have hWw6 : Below w.heap.size w w6 := ((hWw5.alloc (by (try simp) <;> omega) _).alloc (by (try simp) <;> omega) _).trans (hB6.mono (by (try simp) <;> omega))
    clear N_a N_b N_c N_s hWw5 zw6 hB6
    have N_a := M_a
    have N_b := M_b
    have N_c := M_c
    have N_s := M_s
    have N_lo := M_lo
    have N_hi := M_hi
    clear M_a M_b M_c M_s M_lo M_hi
    have F_lo := N_lo.facts; have L_lo := N_lo.lt
    have F_hi := N_hi.facts; have L_hi := N_hi.lt
    have L1_hi : w5.heap.size < w6.heap.size := by omega
    have F_s := N_s.facts; have L_s := N_s.lt
    have F_c := N_c.facts; have L_c := N_c.lt
    have L1_c : w.heap.size + 1 < w6.heap.size := by omega
    have L2_c : w.heap.size < w6.heap.size := by omega
    go_wp2_with fail
    refine (mul_calls s c B_s.out BC.out _).mono ?_
    rintro e w7 ⟨rfl, hB7⟩
    obtain ⟨p, h_p⟩ : ∃ v, v = s * c % W256 := ⟨_, rfl⟩
    rw [← h_p, numV_eq p]
    have E_p := Lib.hid h_p; clear h_p
    have B_p : Hid (p < W256) := by show _ < _; rw [E_p.out]; exact Nat.mod_lt _ W256_pos
    obtain ⟨p2, h_p2⟩ : ∃ v, v = s * c / W256 := ⟨_, rfl⟩
    rw [← h_p2, numV_eq p2]
    have E_p2 := Lib.hid h_p2; clear h_p2
    have B_p2 : Hid (p2 < W256) := by show _ < _; rw [E_p2.out]; exact mul_hi B_s.out BC.out
    clear F_lo L_lo F_hi L_hi L1_hi F_s L_s F_c L_c L1_c L2_c
    have zw7 := hWw6.size
    have M_a := ((N_a.alloc _).alloc _).kept hB7
    have M_b := ((N_b.alloc _).alloc _).kept hB7
    have M_c := ((N_c.alloc _).alloc _).kept hB7
    have M_s := ((N_s.alloc _).alloc _).kept hB7
    have M_lo := ((N_lo.alloc _).alloc _).kept hB7
    have M_hi := ((N_hi.alloc _).alloc _).kept hB7
    have M_l := ((NumAt.newAt _ (w6.heap.size) lo (by first | rfl | simp)).alloc _).kept hB7
    have M_h := (NumAt.newAt _ (w6.heap.size + 1) hi (by first | rfl | simp)).kept hB7
    have hWw7 : Below w.heap.size w w7 := ((hWw6.alloc (by (try simp) <;> omega) _).alloc (by (try simp) <;> omega) _).trans (hB7.mono (by (try simp) <;> omega))
    clear N_a N_b N_c N_s N_lo N_hi hWw6 zw7 hB7
    have N_a := M_a
    have N_b := M_b
    have N_c := M_c
    have N_s := M_s
    have N_lo := M_lo
    have N_hi := M_hi
    have N_l := M_l
    have N_h := M_h
    clear M_a M_b M_c M_s M_lo M_hi M_l M_h
    clear N_lo N_hi N_l N_h
    have F_a := N_a.facts; have L_a := N_a.lt
    have F_c := N_c.facts; have L_c := N_c.lt
    have L1_c : w.heap.size + 1 < w7.heap.size := by omega
    have L2_c : w.heap.size < w7.heap.size := by omega
    go_wp2_with fail
    refine (mul_calls a c BA.out BC.out _).mono ?_
    rintro e w8 ⟨rfl, hB8⟩
    obtain ⟨q, h_q⟩ : ∃ v, v = a * c % W256 := ⟨_, rfl⟩
    rw [← h_q, numV_eq q]
    have E_q := Lib.hid h_q; clear h_q
    have B_q : Hid (q < W256) := by show _ < _; rw [E_q.out]; exact Nat.mod_lt _ W256_pos
    obtain ⟨q2, h_q2⟩ : ∃ v, v = a * c / W256 := ⟨_, rfl⟩
    rw [← h_q2, numV_eq q2]
    have E_q2 := Lib.hid h_q2; clear h_q2
    have B_q2 : Hid (q2 < W256) := by show _ < _; rw [E_q2.out]; exact mul_hi BA.out BC.out
    clear F_a L_a F_c L_c L1_c L2_c
    have zw8 := hWw7.size
    have M_a := ((N_a.alloc _).alloc _).kept hB8
    have M_b := ((N_b.alloc _).alloc _).kept hB8
    have M_c := ((N_c.alloc _).alloc _).kept hB8
    have M_s := ((N_s.alloc _).alloc _).kept hB8
    have M_p := ((NumAt.newAt _ (w7.heap.size) p (by first | rfl | simp)).alloc _).kept hB8
    have hWw8 : Below w.heap.size w w8 := ((hWw7.alloc (by (try simp) <;> omega) _).alloc (by (try simp) <;> omega) _).trans (hB8.mono (by (try simp) <;> omega))
    clear N_a N_b N_c N_s hWw7 zw8 hB8
    have N_a := M_a
    have N_b := M_b
    have N_c := M_c
    have N_s := M_s
    have N_p := M_p
    clear M_a M_b M_c M_s M_p
    have F_b := N_b.facts; have L_b := N_b.lt
    have L1_b : w.heap.size < w8.heap.size := by omega
    have F_c := N_c.facts; have L_c := N_c.lt
    have L1_c : w.heap.size + 1 < w8.heap.size := by omega
    have L2_c : w.heap.size < w8.heap.size := by omega
    go_wp2_with fail
    refine (mul_calls b c BB.out BC.out _).mono ?_
    rintro e w9 ⟨rfl, hB9⟩
    obtain ⟨r, h_r⟩ : ∃ v, v = b * c % W256 := ⟨_, rfl⟩
    rw [← h_r, numV_eq r]
    have E_r := Lib.hid h_r; clear h_r
    have B_r : Hid (r < W256) := by show _ < _; rw [E_r.out]; exact Nat.mod_lt _ W256_pos
    obtain ⟨r2, h_r2⟩ : ∃ v, v = b * c / W256 := ⟨_, rfl⟩
    rw [← h_r2, numV_eq r2]
    have E_r2 := Lib.hid h_r2; clear h_r2
    have B_r2 : Hid (r2 < W256) := by show _ < _; rw [E_r2.out]; exact mul_hi BB.out BC.out
    clear F_b L_b L1_b F_c L_c L1_c L2_c
    have zw9 := hWw8.size
    have M_a := ((N_a.alloc _).alloc _).kept hB9
    have M_b := ((N_b.alloc _).alloc _).kept hB9
    have M_c := ((N_c.alloc _).alloc _).kept hB9
    have M_s := ((N_s.alloc _).alloc _).kept hB9
    have M_p := ((N_p.alloc _).alloc _).kept hB9
    have M_q := ((NumAt.newAt _ (w8.heap.size) q (by first | rfl | simp)).alloc _).kept hB9
    have hWw9 : Below w.heap.size w w9 := ((hWw8.alloc (by (try simp) <;> omega) _).alloc (by (try simp) <;> omega) _).trans (hB9.mono (by (try simp) <;> omega))
    clear N_a N_b N_c N_s N_p hWw8 zw9 hB9
    have N_a := M_a
    have N_b := M_b
    have N_c := M_c
    have N_s := M_s
    have N_p := M_p
    have N_q := M_q
    clear M_a M_b M_c M_s M_p M_q
    have F_q := N_q.facts; have L_q := N_q.lt
    go_wp2_with fail
    refine (add_calls q r B_q.out B_r.out _).mono ?_
    rintro e w10 ⟨rfl, hB10⟩
    rw [back_dist E_s.out E_p.out E_q.out E_r.out]
    rw [numV_eq p]
    clear F_q L_q
    have zw10 := hWw9.size
    have M_a := ((N_a.alloc _).alloc _).kept hB10
    have M_b := ((N_b.alloc _).alloc _).kept hB10
    have M_c := ((N_c.alloc _).alloc _).kept hB10
    have M_s := ((N_s.alloc _).alloc _).kept hB10
    have M_p := ((N_p.alloc _).alloc _).kept hB10
    have M_q := ((N_q.alloc _).alloc _).kept hB10
    have M_r := ((NumAt.newAt _ (w9.heap.size) r (by first | rfl | simp)).alloc _).kept hB10
    have hWw10 : Below w.heap.size w w10 := ((hWw9.alloc (by (try simp) <;> omega) _).alloc (by (try simp) <;> omega) _).trans (hB10.mono (by (try simp) <;> omega))
    clear N_a N_b N_c N_s N_p N_q hWw9 zw10 hB10
    have N_a := M_a
    have N_b := M_b
    have N_c := M_c
    have N_s := M_s
    have N_p := M_p
    have N_q := M_q
    have N_r := M_r
    clear M_a M_b M_c M_s M_p M_q M_r
    have F_p := N_p.facts; have L_p := N_p.lt
    go_wp2_with fail
    refine (wakes1_calls _).mono ?_
    rintro e w11 ⟨rfl, hB11⟩
    clear F_p L_p
    have zw11 := hWw10.size
    have M_a := (N_a.alloc _).kept hB11
    have M_b := (N_b.alloc _).kept hB11
    have M_c := (N_c.alloc _).kept hB11
    have M_s := (N_s.alloc _).kept hB11
    have M_p := (N_p.alloc _).kept hB11
    have M_q := (N_q.alloc _).kept hB11
    have M_r := (N_r.alloc _).kept hB11
    have M_t := (NumAt.newAt _ (w10.heap.size) p (by first | rfl | simp)).kept hB11
    have hWw11 : Below w.heap.size w w11 := (hWw10.alloc (by (try simp) <;> omega) _).trans (hB11.mono (by (try simp) <;> omega))
    clear N_a N_b N_c N_s N_p N_q N_r hWw10 zw11 hB11
    have N_a := M_a
    have N_b := M_b
    have N_c := M_c
    have N_s := M_s
    have N_p := M_p
    have N_q := M_q
    have N_r := M_r
    have N_t := M_t
    clear M_a M_b M_c M_s M_p M_q M_r M_t
    go_wp2
    go_ret
    have zz := hWw11.size
    refine ⟨rfl, ?_⟩
    repeat first | exact Below.refl _ _ | assumption | refine Below.drew ?_ | (refine Below.alloc ?_ (by (try simp) <;> omega) _)
  · have H := Lib.hid h; clear h
    go_enter Try.func4, Try.ntmps4
    go_wp2_with fail
    refine (add_calls a b BA.out BB.out _).mono ?_
    rintro e w1 ⟨rfl, hB1⟩
    rw [← X.out]
    obtain ⟨s, h_s⟩ : ∃ v, v = (a + b) % W256 := ⟨_, rfl⟩
    rw [← h_s, numV_eq s]
    have E_s := Lib.hid h_s; clear h_s
    have B_s : Hid (s < W256) := by show _ < _; rw [E_s.out]; exact Nat.mod_lt _ W256_pos
    have M_a := (((NumAt.newAt _ (w.heap.size) a (by first | rfl | simp)).alloc _).alloc _).kept hB1
    have M_b := ((NumAt.newAt _ (w.heap.size + 1) b (by first | rfl | simp)).alloc _).kept hB1
    have M_c := (NumAt.newAt _ (w.heap.size + 1 + 1) c (by first | rfl | simp)).kept hB1
    have hWw1 : Below w.heap.size w w1 := ((((Below.refl _ _).alloc (by (try simp) <;> omega) _).alloc (by (try simp) <;> omega) _).alloc (by (try simp) <;> omega) _).trans (hB1.mono (by (try simp) <;> omega))
    clear hB1
    have N_a := M_a
    have N_b := M_b
    have N_c := M_c
    clear M_a M_b M_c
    have F_b := N_b.facts; have L_b := N_b.lt
    have L1_b : w.heap.size < w1.heap.size := by omega
    go_wp2_with fail
    refine (sub_calls s b B_s.out BB.out _).mono ?_
    rintro e w2 ⟨rfl, hB2⟩
    rw [(back_sub BA.out BB.out E_s.out).1]
    rw [(back_sub BA.out BB.out E_s.out).2]
    rw [← X.out]
    rw [numV_eq a]
    clear F_b L_b L1_b
    have zw2 := hWw1.size
    have M_a := (N_a.alloc _).kept hB2
    have M_b := (N_b.alloc _).kept hB2
    have M_c := (N_c.alloc _).kept hB2
    have M_s := (NumAt.newAt _ (w1.heap.size) s (by first | rfl | simp)).kept hB2
    have hWw2 : Below w.heap.size w w2 := (hWw1.alloc (by (try simp) <;> omega) _).trans (hB2.mono (by (try simp) <;> omega))
    clear N_a N_b N_c hWw1 zw2 hB2
    have N_a := M_a
    have N_b := M_b
    have N_c := M_c
    have N_s := M_s
    clear M_a M_b M_c M_s
    have F_a := N_a.facts; have L_a := N_a.lt
    have F_b := N_b.facts; have L_b := N_b.lt
    have L1_b : w.heap.size < w2.heap.size := by omega
    go_wp2_with fail
    refine (sub_calls a b BA.out BB.out _).mono ?_
    rintro e w3 ⟨rfl, hB3⟩
    rw [if_neg (by have := H.out; omega)]
    rw [show ((0 : Nat) : Int) = 0 from rfl]
    obtain ⟨o, h_o⟩ : ∃ v, v = (a + W256 - b) % W256 := ⟨_, rfl⟩
    rw [← h_o, numV_eq o]
    have E_o := Lib.hid h_o; clear h_o
    have B_o : Hid (o < W256) := by show _ < _; rw [E_o.out]; exact Nat.mod_lt _ W256_pos
    clear F_a L_a F_b L_b L1_b
    have zw3 := hWw2.size
    have M_a := (N_a.alloc _).kept hB3
    have M_b := (N_b.alloc _).kept hB3
    have M_c := (N_c.alloc _).kept hB3
    have M_s := (N_s.alloc _).kept hB3
    have M_d := (NumAt.newAt _ (w2.heap.size) a (by first | rfl | simp)).kept hB3
    have hWw3 : Below w.heap.size w w3 := (hWw2.alloc (by (try simp) <;> omega) _).trans (hB3.mono (by (try simp) <;> omega))
    clear N_a N_b N_c N_s hWw2 zw3 hB3
    have N_a := M_a
    have N_b := M_b
    have N_c := M_c
    have N_s := M_s
    have N_d := M_d
    clear M_a M_b M_c M_s M_d
    clear N_d
    have F_a := N_a.facts; have L_a := N_a.lt
    have F_b := N_b.facts; have L_b := N_b.lt
    have L1_b : w.heap.size < w3.heap.size := by omega
    go_upto_region 6 with (fail)
    clear F_a L_a F_b L_b L1_b
    have zz := hWw3.size
    refine abs_world (fun w' => Below w.heap.size w w' ∧ NumAt w' (w.heap.size) a ∧ NumAt w' (w.heap.size + 1) b ∧ NumAt w' (w.heap.size + 1 + 1) c ∧ NumAt w' (w1.heap.size) s) ⟨(hWw3.alloc (by (try simp) <;> omega) _), (N_a.alloc _), (N_b.alloc _), (N_c.alloc _), (N_s.alloc _)⟩ ?_
    clear N_a N_b N_c N_s hWw3 zz
    intro w4 ⟨hWw4, N_a, N_b, N_c, N_s⟩
    have G_a0 : ∀ z : Ext w4, z.w.cell? ⟨w.heap.size, 0, none⟩ = some (.int .u64 (dg a 0 : Nat)) := fun z => (N_a.kept z.below).cell 0 (by decide)
    have G_a1 : ∀ z : Ext w4, z.w.cell? ⟨w.heap.size, 1, none⟩ = some (.int .u64 (dg a 1 : Nat)) := fun z => (N_a.kept z.below).cell 1 (by decide)
    have G_a2 : ∀ z : Ext w4, z.w.cell? ⟨w.heap.size, 2, none⟩ = some (.int .u64 (dg a 2 : Nat)) := fun z => (N_a.kept z.below).cell 2 (by decide)
    have G_a3 : ∀ z : Ext w4, z.w.cell? ⟨w.heap.size, 3, none⟩ = some (.int .u64 (dg a 3 : Nat)) := fun z => (N_a.kept z.below).cell 3 (by decide)
    have G_b0 : ∀ z : Ext w4, z.w.cell? ⟨w.heap.size + 1, 0, none⟩ = some (.int .u64 (dg b 0 : Nat)) := fun z => (N_b.kept z.below).cell 0 (by decide)
    have G_b1 : ∀ z : Ext w4, z.w.cell? ⟨w.heap.size + 1, 1, none⟩ = some (.int .u64 (dg b 1 : Nat)) := fun z => (N_b.kept z.below).cell 1 (by decide)
    have G_b2 : ∀ z : Ext w4, z.w.cell? ⟨w.heap.size + 1, 2, none⟩ = some (.int .u64 (dg b 2 : Nat)) := fun z => (N_b.kept z.below).cell 2 (by decide)
    have G_b3 : ∀ z : Ext w4, z.w.cell? ⟨w.heap.size + 1, 3, none⟩ = some (.int .u64 (dg b 3 : Nat)) := fun z => (N_b.kept z.below).cell 3 (by decide)
    refine ext_region (by kernel_rfl) (by kernel_rfl) ?_
    repeat (go_big_quiet_step (fail))
    go_big_quiet_step ((refine (cmp_calls a b BA.out BB.out _).mono ?_; rintro e wz ⟨rfl, hBz⟩; rw [cmpI_same H.out]; exact ⟨rfl, Ext.on _ hBz⟩))
    repeat (go_big_quiet_step (fail))
    go_big_quiet_step ((refine (cmp_calls a b BA.out BB.out _).mono ?_; rintro e wz ⟨rfl, hBz⟩; rw [cmpI_same H.out]; exact ⟨rfl, Ext.on _ hBz⟩))
    repeat (go_big_quiet_step (fail))
    go_big_quiet_step ((refine (cmp_calls b a BB.out BA.out _).mono ?_; rintro e wz ⟨rfl, hBz⟩; rw [cmpI_same H.out.symm]; exact ⟨rfl, Ext.on _ hBz⟩))
    repeat (go_big_quiet_step (fail))
    go_big_quiet_step ((refine (cmp_calls a a BA.out BA.out _).mono ?_; rintro e wz ⟨rfl, hBz⟩; rw [cmpI_eq]; exact ⟨rfl, Ext.on _ hBz⟩))
    repeat (go_big_quiet_step (fail))
    refine wpQuiet_nil ?_
    intro z
    clear G_a0 G_a1 G_a2 G_a3 G_b0 G_b1 G_b2 G_b3
    have M_a := N_a.kept z.below
    have M_b := N_b.kept z.below
    have M_c := N_c.kept z.below
    have M_s := N_s.kept z.below
    have hWw4x := hWw4.trans (z.below.mono hWw4.size)
    clear N_a N_b N_c N_s hWw4
    generalize z.w = w4x at *
    clear z
    have N_a := M_a
    have N_b := M_b
    have N_c := M_c
    have N_s := M_s
    clear M_a M_b M_c M_s
    have F_a := N_a.facts; have L_a := N_a.lt
    have F_b := N_b.facts; have L_b := N_b.lt
    have L1_b : w.heap.size < w4x.heap.size := by omega
    go_wp2_with fail
    refine (mul_calls a b BA.out BB.out _).mono ?_
    rintro e w5 ⟨rfl, hB5⟩
    obtain ⟨lo, h_lo⟩ : ∃ v, v = a * b % W256 := ⟨_, rfl⟩
    rw [← h_lo, numV_eq lo]
    have E_lo := Lib.hid h_lo; clear h_lo
    have B_lo : Hid (lo < W256) := by show _ < _; rw [E_lo.out]; exact Nat.mod_lt _ W256_pos
    obtain ⟨hi, h_hi⟩ : ∃ v, v = a * b / W256 := ⟨_, rfl⟩
    rw [← h_hi, numV_eq hi]
    have E_hi := Lib.hid h_hi; clear h_hi
    have B_hi : Hid (hi < W256) := by show _ < _; rw [E_hi.out]; exact mul_hi BA.out BB.out
    clear F_a L_a F_b L_b L1_b
    have zw5 := hWw4x.size
    have M_a := N_a.kept hB5
    have M_b := N_b.kept hB5
    have M_c := N_c.kept hB5
    have M_s := N_s.kept hB5
    have hWw5 : Below w.heap.size w w5 := hWw4x.trans (hB5.mono (by (try simp) <;> omega))
    clear N_a N_b N_c N_s hWw4x zw5 hB5
    have N_a := M_a
    have N_b := M_b
    have N_c := M_c
    have N_s := M_s
    clear M_a M_b M_c M_s
    have F_a := N_a.facts; have L_a := N_a.lt
    have F_b := N_b.facts; have L_b := N_b.lt
    have L1_b : w.heap.size < w5.heap.size := by omega
    go_wp2_with fail
    refine (mul_calls b a BB.out BA.out _).mono ?_
    rintro e w6 ⟨rfl, hB6⟩
    rw [Nat.mul_comm b a]
    rw [← E_lo.out]
    rw [← E_hi.out]
    rw [numV_eq lo]
    rw [numV_eq hi]
    clear F_a L_a F_b L_b L1_b
    have zw6 := hWw5.size
    have M_a := ((N_a.alloc _).alloc _).kept hB6
    have M_b := ((N_b.alloc _).alloc _).kept hB6
    have M_c := ((N_c.alloc _).alloc _).kept hB6
    have M_s := ((N_s.alloc _).alloc _).kept hB6
    have M_lo := ((NumAt.newAt _ (w5.heap.size) lo (by first | rfl | simp)).alloc _).kept hB6
    have M_hi := (NumAt.newAt _ (w5.heap.size + 1) hi (by first | rfl | simp)).kept hB6
    have hWw6 : Below w.heap.size w w6 := ((hWw5.alloc (by (try simp) <;> omega) _).alloc (by (try simp) <;> omega) _).trans (hB6.mono (by (try simp) <;> omega))
    clear N_a N_b N_c N_s hWw5 zw6 hB6
    have N_a := M_a
    have N_b := M_b
    have N_c := M_c
    have N_s := M_s
    have N_lo := M_lo
    have N_hi := M_hi
    clear M_a M_b M_c M_s M_lo M_hi
    have F_lo := N_lo.facts; have L_lo := N_lo.lt
    have F_hi := N_hi.facts; have L_hi := N_hi.lt
    have L1_hi : w5.heap.size < w6.heap.size := by omega
    have F_s := N_s.facts; have L_s := N_s.lt
    have F_c := N_c.facts; have L_c := N_c.lt
    have L1_c : w.heap.size + 1 < w6.heap.size := by omega
    have L2_c : w.heap.size < w6.heap.size := by omega
    go_wp2_with fail
    refine (mul_calls s c B_s.out BC.out _).mono ?_
    rintro e w7 ⟨rfl, hB7⟩
    obtain ⟨p, h_p⟩ : ∃ v, v = s * c % W256 := ⟨_, rfl⟩
    rw [← h_p, numV_eq p]
    have E_p := Lib.hid h_p; clear h_p
    have B_p : Hid (p < W256) := by show _ < _; rw [E_p.out]; exact Nat.mod_lt _ W256_pos
    obtain ⟨p2, h_p2⟩ : ∃ v, v = s * c / W256 := ⟨_, rfl⟩
    rw [← h_p2, numV_eq p2]
    have E_p2 := Lib.hid h_p2; clear h_p2
    have B_p2 : Hid (p2 < W256) := by show _ < _; rw [E_p2.out]; exact mul_hi B_s.out BC.out
    clear F_lo L_lo F_hi L_hi L1_hi F_s L_s F_c L_c L1_c L2_c
    have zw7 := hWw6.size
    have M_a := ((N_a.alloc _).alloc _).kept hB7
    have M_b := ((N_b.alloc _).alloc _).kept hB7
    have M_c := ((N_c.alloc _).alloc _).kept hB7
    have M_s := ((N_s.alloc _).alloc _).kept hB7
    have M_lo := ((N_lo.alloc _).alloc _).kept hB7
    have M_hi := ((N_hi.alloc _).alloc _).kept hB7
    have M_l := ((NumAt.newAt _ (w6.heap.size) lo (by first | rfl | simp)).alloc _).kept hB7
    have M_h := (NumAt.newAt _ (w6.heap.size + 1) hi (by first | rfl | simp)).kept hB7
    have hWw7 : Below w.heap.size w w7 := ((hWw6.alloc (by (try simp) <;> omega) _).alloc (by (try simp) <;> omega) _).trans (hB7.mono (by (try simp) <;> omega))
    clear N_a N_b N_c N_s N_lo N_hi hWw6 zw7 hB7
    have N_a := M_a
    have N_b := M_b
    have N_c := M_c
    have N_s := M_s
    have N_lo := M_lo
    have N_hi := M_hi
    have N_l := M_l
    have N_h := M_h
    clear M_a M_b M_c M_s M_lo M_hi M_l M_h
    clear N_lo N_hi N_l N_h
    have F_a := N_a.facts; have L_a := N_a.lt
    have F_c := N_c.facts; have L_c := N_c.lt
    have L1_c : w.heap.size + 1 < w7.heap.size := by omega
    have L2_c : w.heap.size < w7.heap.size := by omega
    go_wp2_with fail
    refine (mul_calls a c BA.out BC.out _).mono ?_
    rintro e w8 ⟨rfl, hB8⟩
    obtain ⟨q, h_q⟩ : ∃ v, v = a * c % W256 := ⟨_, rfl⟩
    rw [← h_q, numV_eq q]
    have E_q := Lib.hid h_q; clear h_q
    have B_q : Hid (q < W256) := by show _ < _; rw [E_q.out]; exact Nat.mod_lt _ W256_pos
    obtain ⟨q2, h_q2⟩ : ∃ v, v = a * c / W256 := ⟨_, rfl⟩
    rw [← h_q2, numV_eq q2]
    have E_q2 := Lib.hid h_q2; clear h_q2
    have B_q2 : Hid (q2 < W256) := by show _ < _; rw [E_q2.out]; exact mul_hi BA.out BC.out
    clear F_a L_a F_c L_c L1_c L2_c
    have zw8 := hWw7.size
    have M_a := ((N_a.alloc _).alloc _).kept hB8
    have M_b := ((N_b.alloc _).alloc _).kept hB8
    have M_c := ((N_c.alloc _).alloc _).kept hB8
    have M_s := ((N_s.alloc _).alloc _).kept hB8
    have M_p := ((NumAt.newAt _ (w7.heap.size) p (by first | rfl | simp)).alloc _).kept hB8
    have hWw8 : Below w.heap.size w w8 := ((hWw7.alloc (by (try simp) <;> omega) _).alloc (by (try simp) <;> omega) _).trans (hB8.mono (by (try simp) <;> omega))
    clear N_a N_b N_c N_s hWw7 zw8 hB8
    have N_a := M_a
    have N_b := M_b
    have N_c := M_c
    have N_s := M_s
    have N_p := M_p
    clear M_a M_b M_c M_s M_p
    have F_b := N_b.facts; have L_b := N_b.lt
    have L1_b : w.heap.size < w8.heap.size := by omega
    have F_c := N_c.facts; have L_c := N_c.lt
    have L1_c : w.heap.size + 1 < w8.heap.size := by omega
    have L2_c : w.heap.size < w8.heap.size := by omega
    go_wp2_with fail
    refine (mul_calls b c BB.out BC.out _).mono ?_
    rintro e w9 ⟨rfl, hB9⟩
    obtain ⟨r, h_r⟩ : ∃ v, v = b * c % W256 := ⟨_, rfl⟩
    rw [← h_r, numV_eq r]
    have E_r := Lib.hid h_r; clear h_r
    have B_r : Hid (r < W256) := by show _ < _; rw [E_r.out]; exact Nat.mod_lt _ W256_pos
    obtain ⟨r2, h_r2⟩ : ∃ v, v = b * c / W256 := ⟨_, rfl⟩
    rw [← h_r2, numV_eq r2]
    have E_r2 := Lib.hid h_r2; clear h_r2
    have B_r2 : Hid (r2 < W256) := by show _ < _; rw [E_r2.out]; exact mul_hi BB.out BC.out
    clear F_b L_b L1_b F_c L_c L1_c L2_c
    have zw9 := hWw8.size
    have M_a := ((N_a.alloc _).alloc _).kept hB9
    have M_b := ((N_b.alloc _).alloc _).kept hB9
    have M_c := ((N_c.alloc _).alloc _).kept hB9
    have M_s := ((N_s.alloc _).alloc _).kept hB9
    have M_p := ((N_p.alloc _).alloc _).kept hB9
    have M_q := ((NumAt.newAt _ (w8.heap.size) q (by first | rfl | simp)).alloc _).kept hB9
    have hWw9 : Below w.heap.size w w9 := ((hWw8.alloc (by (try simp) <;> omega) _).alloc (by (try simp) <;> omega) _).trans (hB9.mono (by (try simp) <;> omega))
    clear N_a N_b N_c N_s N_p hWw8 zw9 hB9
    have N_a := M_a
    have N_b := M_b
    have N_c := M_c
    have N_s := M_s
    have N_p := M_p
    have N_q := M_q
    clear M_a M_b M_c M_s M_p M_q
    have F_q := N_q.facts; have L_q := N_q.lt
    go_wp2_with fail
    refine (add_calls q r B_q.out B_r.out _).mono ?_
    rintro e w10 ⟨rfl, hB10⟩
    rw [back_dist E_s.out E_p.out E_q.out E_r.out]
    rw [numV_eq p]
    clear F_q L_q
    have zw10 := hWw9.size
    have M_a := ((N_a.alloc _).alloc _).kept hB10
    have M_b := ((N_b.alloc _).alloc _).kept hB10
    have M_c := ((N_c.alloc _).alloc _).kept hB10
    have M_s := ((N_s.alloc _).alloc _).kept hB10
    have M_p := ((N_p.alloc _).alloc _).kept hB10
    have M_q := ((N_q.alloc _).alloc _).kept hB10
    have M_r := ((NumAt.newAt _ (w9.heap.size) r (by first | rfl | simp)).alloc _).kept hB10
    have hWw10 : Below w.heap.size w w10 := ((hWw9.alloc (by (try simp) <;> omega) _).alloc (by (try simp) <;> omega) _).trans (hB10.mono (by (try simp) <;> omega))
    clear N_a N_b N_c N_s N_p N_q hWw9 zw10 hB10
    have N_a := M_a
    have N_b := M_b
    have N_c := M_c
    have N_s := M_s
    have N_p := M_p
    have N_q := M_q
    have N_r := M_r
    clear M_a M_b M_c M_s M_p M_q M_r
    have F_p := N_p.facts; have L_p := N_p.lt
    go_wp2_with fail
    refine (wakes1_calls _).mono ?_
    rintro e w11 ⟨rfl, hB11⟩
    clear F_p L_p
    have zw11 := hWw10.size
    have M_a := (N_a.alloc _).kept hB11
    have M_b := (N_b.alloc _).kept hB11
    have M_c := (N_c.alloc _).kept hB11
    have M_s := (N_s.alloc _).kept hB11
    have M_p := (N_p.alloc _).kept hB11
    have M_q := (N_q.alloc _).kept hB11
    have M_r := (N_r.alloc _).kept hB11
    have M_t := (NumAt.newAt _ (w10.heap.size) p (by first | rfl | simp)).kept hB11
    have hWw11 : Below w.heap.size w w11 := (hWw10.alloc (by (try simp) <;> omega) _).trans (hB11.mono (by (try simp) <;> omega))
    clear N_a N_b N_c N_s N_p N_q N_r hWw10 zw11 hB11
    have N_a := M_a
    have N_b := M_b
    have N_c := M_c
    have N_s := M_s
    have N_p := M_p
    have N_q := M_q
    have N_r := M_r
    have N_t := M_t
    clear M_a M_b M_c M_s M_p M_q M_r M_t
    go_wp2
    go_ret
    have zz := hWw11.size
    refine ⟨rfl, ?_⟩
    repeat first | exact Below.refl _ _ | assumption | refine Below.drew ?_ | (refine Below.alloc ?_ (by (try simp) <;> omega) _)
  · have H := Lib.hid h; clear h
    go_enter Try.func4, Try.ntmps4
    go_wp2_with fail
    refine (add_calls a b BA.out BB.out _).mono ?_
    rintro e w1 ⟨rfl, hB1⟩
    rw [← X.out]
    obtain ⟨s, h_s⟩ : ∃ v, v = (a + b) % W256 := ⟨_, rfl⟩
    rw [← h_s, numV_eq s]
    have E_s := Lib.hid h_s; clear h_s
    have B_s : Hid (s < W256) := by show _ < _; rw [E_s.out]; exact Nat.mod_lt _ W256_pos
    have M_a := (((NumAt.newAt _ (w.heap.size) a (by first | rfl | simp)).alloc _).alloc _).kept hB1
    have M_b := ((NumAt.newAt _ (w.heap.size + 1) b (by first | rfl | simp)).alloc _).kept hB1
    have M_c := (NumAt.newAt _ (w.heap.size + 1 + 1) c (by first | rfl | simp)).kept hB1
    have hWw1 : Below w.heap.size w w1 := ((((Below.refl _ _).alloc (by (try simp) <;> omega) _).alloc (by (try simp) <;> omega) _).alloc (by (try simp) <;> omega) _).trans (hB1.mono (by (try simp) <;> omega))
    clear hB1
    have N_a := M_a
    have N_b := M_b
    have N_c := M_c
    clear M_a M_b M_c
    have F_b := N_b.facts; have L_b := N_b.lt
    have L1_b : w.heap.size < w1.heap.size := by omega
    go_wp2_with fail
    refine (sub_calls s b B_s.out BB.out _).mono ?_
    rintro e w2 ⟨rfl, hB2⟩
    rw [(back_sub BA.out BB.out E_s.out).1]
    rw [(back_sub BA.out BB.out E_s.out).2]
    rw [← X.out]
    rw [numV_eq a]
    clear F_b L_b L1_b
    have zw2 := hWw1.size
    have M_a := (N_a.alloc _).kept hB2
    have M_b := (N_b.alloc _).kept hB2
    have M_c := (N_c.alloc _).kept hB2
    have M_s := (NumAt.newAt _ (w1.heap.size) s (by first | rfl | simp)).kept hB2
    have hWw2 : Below w.heap.size w w2 := (hWw1.alloc (by (try simp) <;> omega) _).trans (hB2.mono (by (try simp) <;> omega))
    clear N_a N_b N_c hWw1 zw2 hB2
    have N_a := M_a
    have N_b := M_b
    have N_c := M_c
    have N_s := M_s
    clear M_a M_b M_c M_s
    have F_a := N_a.facts; have L_a := N_a.lt
    have F_b := N_b.facts; have L_b := N_b.lt
    have L1_b : w.heap.size < w2.heap.size := by omega
    go_wp2_with fail
    refine (sub_calls a b BA.out BB.out _).mono ?_
    rintro e w3 ⟨rfl, hB3⟩
    rw [if_neg (by have := H.out; omega)]
    rw [show ((0 : Nat) : Int) = 0 from rfl]
    obtain ⟨o, h_o⟩ : ∃ v, v = (a + W256 - b) % W256 := ⟨_, rfl⟩
    rw [← h_o, numV_eq o]
    have E_o := Lib.hid h_o; clear h_o
    have B_o : Hid (o < W256) := by show _ < _; rw [E_o.out]; exact Nat.mod_lt _ W256_pos
    clear F_a L_a F_b L_b L1_b
    have zw3 := hWw2.size
    have M_a := (N_a.alloc _).kept hB3
    have M_b := (N_b.alloc _).kept hB3
    have M_c := (N_c.alloc _).kept hB3
    have M_s := (N_s.alloc _).kept hB3
    have M_d := (NumAt.newAt _ (w2.heap.size) a (by first | rfl | simp)).kept hB3
    have hWw3 : Below w.heap.size w w3 := (hWw2.alloc (by (try simp) <;> omega) _).trans (hB3.mono (by (try simp) <;> omega))
    clear N_a N_b N_c N_s hWw2 zw3 hB3
    have N_a := M_a
    have N_b := M_b
    have N_c := M_c
    have N_s := M_s
    have N_d := M_d
    clear M_a M_b M_c M_s M_d
    clear N_d
    have F_a := N_a.facts; have L_a := N_a.lt
    have F_b := N_b.facts; have L_b := N_b.lt
    have L1_b : w.heap.size < w3.heap.size := by omega
    go_upto_region 6 with (fail)
    clear F_a L_a F_b L_b L1_b
    have zz := hWw3.size
    refine abs_world (fun w' => Below w.heap.size w w' ∧ NumAt w' (w.heap.size) a ∧ NumAt w' (w.heap.size + 1) b ∧ NumAt w' (w.heap.size + 1 + 1) c ∧ NumAt w' (w1.heap.size) s) ⟨(hWw3.alloc (by (try simp) <;> omega) _), (N_a.alloc _), (N_b.alloc _), (N_c.alloc _), (N_s.alloc _)⟩ ?_
    clear N_a N_b N_c N_s hWw3 zz
    intro w4 ⟨hWw4, N_a, N_b, N_c, N_s⟩
    have G_a0 : ∀ z : Ext w4, z.w.cell? ⟨w.heap.size, 0, none⟩ = some (.int .u64 (dg a 0 : Nat)) := fun z => (N_a.kept z.below).cell 0 (by decide)
    have G_a1 : ∀ z : Ext w4, z.w.cell? ⟨w.heap.size, 1, none⟩ = some (.int .u64 (dg a 1 : Nat)) := fun z => (N_a.kept z.below).cell 1 (by decide)
    have G_a2 : ∀ z : Ext w4, z.w.cell? ⟨w.heap.size, 2, none⟩ = some (.int .u64 (dg a 2 : Nat)) := fun z => (N_a.kept z.below).cell 2 (by decide)
    have G_a3 : ∀ z : Ext w4, z.w.cell? ⟨w.heap.size, 3, none⟩ = some (.int .u64 (dg a 3 : Nat)) := fun z => (N_a.kept z.below).cell 3 (by decide)
    have G_b0 : ∀ z : Ext w4, z.w.cell? ⟨w.heap.size + 1, 0, none⟩ = some (.int .u64 (dg b 0 : Nat)) := fun z => (N_b.kept z.below).cell 0 (by decide)
    have G_b1 : ∀ z : Ext w4, z.w.cell? ⟨w.heap.size + 1, 1, none⟩ = some (.int .u64 (dg b 1 : Nat)) := fun z => (N_b.kept z.below).cell 1 (by decide)
    have G_b2 : ∀ z : Ext w4, z.w.cell? ⟨w.heap.size + 1, 2, none⟩ = some (.int .u64 (dg b 2 : Nat)) := fun z => (N_b.kept z.below).cell 2 (by decide)
    have G_b3 : ∀ z : Ext w4, z.w.cell? ⟨w.heap.size + 1, 3, none⟩ = some (.int .u64 (dg b 3 : Nat)) := fun z => (N_b.kept z.below).cell 3 (by decide)
    refine ext_region (by kernel_rfl) (by kernel_rfl) ?_
    repeat (go_big_quiet_step (fail))
    go_big_quiet_step ((refine (cmp_calls a b BA.out BB.out _).mono ?_; rintro e wz ⟨rfl, hBz⟩; rw [cmpI_gt H.out]; exact ⟨rfl, Ext.on _ hBz⟩))
    repeat (go_big_quiet_step (fail))
    go_big_quiet_step ((refine (cmp_calls a b BA.out BB.out _).mono ?_; rintro e wz ⟨rfl, hBz⟩; rw [cmpI_gt H.out]; exact ⟨rfl, Ext.on _ hBz⟩))
    repeat (go_big_quiet_step (fail))
    go_big_quiet_step ((refine (cmp_calls b a BB.out BA.out _).mono ?_; rintro e wz ⟨rfl, hBz⟩; rw [cmpI_lt H.out]; exact ⟨rfl, Ext.on _ hBz⟩))
    repeat (go_big_quiet_step (fail))
    go_big_quiet_step ((refine (cmp_calls a a BA.out BA.out _).mono ?_; rintro e wz ⟨rfl, hBz⟩; rw [cmpI_eq]; exact ⟨rfl, Ext.on _ hBz⟩))
    repeat (go_big_quiet_step (fail))
    refine wpQuiet_nil ?_
    intro z
    clear G_a0 G_a1 G_a2 G_a3 G_b0 G_b1 G_b2 G_b3
    have M_a := N_a.kept z.below
    have M_b := N_b.kept z.below
    have M_c := N_c.kept z.below
    have M_s := N_s.kept z.below
    have hWw4x := hWw4.trans (z.below.mono hWw4.size)
    clear N_a N_b N_c N_s hWw4
    generalize z.w = w4x at *
    clear z
    have N_a := M_a
    have N_b := M_b
    have N_c := M_c
    have N_s := M_s
    clear M_a M_b M_c M_s
    have F_a := N_a.facts; have L_a := N_a.lt
    have F_b := N_b.facts; have L_b := N_b.lt
    have L1_b : w.heap.size < w4x.heap.size := by omega
    go_wp2_with fail
    refine (mul_calls a b BA.out BB.out _).mono ?_
    rintro e w5 ⟨rfl, hB5⟩
    obtain ⟨lo, h_lo⟩ : ∃ v, v = a * b % W256 := ⟨_, rfl⟩
    rw [← h_lo, numV_eq lo]
    have E_lo := Lib.hid h_lo; clear h_lo
    have B_lo : Hid (lo < W256) := by show _ < _; rw [E_lo.out]; exact Nat.mod_lt _ W256_pos
    obtain ⟨hi, h_hi⟩ : ∃ v, v = a * b / W256 := ⟨_, rfl⟩
    rw [← h_hi, numV_eq hi]
    have E_hi := Lib.hid h_hi; clear h_hi
    have B_hi : Hid (hi < W256) := by show _ < _; rw [E_hi.out]; exact mul_hi BA.out BB.out
    clear F_a L_a F_b L_b L1_b
    have zw5 := hWw4x.size
    have M_a := N_a.kept hB5
    have M_b := N_b.kept hB5
    have M_c := N_c.kept hB5
    have M_s := N_s.kept hB5
    have hWw5 : Below w.heap.size w w5 := hWw4x.trans (hB5.mono (by (try simp) <;> omega))
    clear N_a N_b N_c N_s hWw4x zw5 hB5
    have N_a := M_a
    have N_b := M_b
    have N_c := M_c
    have N_s := M_s
    clear M_a M_b M_c M_s
    have F_a := N_a.facts; have L_a := N_a.lt
    have F_b := N_b.facts; have L_b := N_b.lt
    have L1_b : w.heap.size < w5.heap.size := by omega
    go_wp2_with fail
    refine (mul_calls b a BB.out BA.out _).mono ?_
    rintro e w6 ⟨rfl, hB6⟩
    rw [Nat.mul_comm b a]
    rw [← E_lo.out]
    rw [← E_hi.out]
    rw [numV_eq lo]
    rw [numV_eq hi]
    clear F_a L_a F_b L_b L1_b
    have zw6 := hWw5.size
    have M_a := ((N_a.alloc _).alloc _).kept hB6
    have M_b := ((N_b.alloc _).alloc _).kept hB6
    have M_c := ((N_c.alloc _).alloc _).kept hB6
    have M_s := ((N_s.alloc _).alloc _).kept hB6
    have M_lo := ((NumAt.newAt _ (w5.heap.size) lo (by first | rfl | simp)).alloc _).kept hB6
    have M_hi := (NumAt.newAt _ (w5.heap.size + 1) hi (by first | rfl | simp)).kept hB6
    have hWw6 : Below w.heap.size w w6 := ((hWw5.alloc (by (try simp) <;> omega) _).alloc (by (try simp) <;> omega) _).trans (hB6.mono (by (try simp) <;> omega))
    clear N_a N_b N_c N_s hWw5 zw6 hB6
    have N_a := M_a
    have N_b := M_b
    have N_c := M_c
    have N_s := M_s
    have N_lo := M_lo
    have N_hi := M_hi
    clear M_a M_b M_c M_s M_lo M_hi
    have F_lo := N_lo.facts; have L_lo := N_lo.lt
    have F_hi := N_hi.facts; have L_hi := N_hi.lt
    have L1_hi : w5.heap.size < w6.heap.size := by omega
    have F_s := N_s.facts; have L_s := N_s.lt
    have F_c := N_c.facts; have L_c := N_c.lt
    have L1_c : w.heap.size + 1 < w6.heap.size := by omega
    have L2_c : w.heap.size < w6.heap.size := by omega
    go_wp2_with fail
    refine (mul_calls s c B_s.out BC.out _).mono ?_
    rintro e w7 ⟨rfl, hB7⟩
    obtain ⟨p, h_p⟩ : ∃ v, v = s * c % W256 := ⟨_, rfl⟩
    rw [← h_p, numV_eq p]
    have E_p := Lib.hid h_p; clear h_p
    have B_p : Hid (p < W256) := by show _ < _; rw [E_p.out]; exact Nat.mod_lt _ W256_pos
    obtain ⟨p2, h_p2⟩ : ∃ v, v = s * c / W256 := ⟨_, rfl⟩
    rw [← h_p2, numV_eq p2]
    have E_p2 := Lib.hid h_p2; clear h_p2
    have B_p2 : Hid (p2 < W256) := by show _ < _; rw [E_p2.out]; exact mul_hi B_s.out BC.out
    clear F_lo L_lo F_hi L_hi L1_hi F_s L_s F_c L_c L1_c L2_c
    have zw7 := hWw6.size
    have M_a := ((N_a.alloc _).alloc _).kept hB7
    have M_b := ((N_b.alloc _).alloc _).kept hB7
    have M_c := ((N_c.alloc _).alloc _).kept hB7
    have M_s := ((N_s.alloc _).alloc _).kept hB7
    have M_lo := ((N_lo.alloc _).alloc _).kept hB7
    have M_hi := ((N_hi.alloc _).alloc _).kept hB7
    have M_l := ((NumAt.newAt _ (w6.heap.size) lo (by first | rfl | simp)).alloc _).kept hB7
    have M_h := (NumAt.newAt _ (w6.heap.size + 1) hi (by first | rfl | simp)).kept hB7
    have hWw7 : Below w.heap.size w w7 := ((hWw6.alloc (by (try simp) <;> omega) _).alloc (by (try simp) <;> omega) _).trans (hB7.mono (by (try simp) <;> omega))
    clear N_a N_b N_c N_s N_lo N_hi hWw6 zw7 hB7
    have N_a := M_a
    have N_b := M_b
    have N_c := M_c
    have N_s := M_s
    have N_lo := M_lo
    have N_hi := M_hi
    have N_l := M_l
    have N_h := M_h
    clear M_a M_b M_c M_s M_lo M_hi M_l M_h
    clear N_lo N_hi N_l N_h
    have F_a := N_a.facts; have L_a := N_a.lt
    have F_c := N_c.facts; have L_c := N_c.lt
    have L1_c : w.heap.size + 1 < w7.heap.size := by omega
    have L2_c : w.heap.size < w7.heap.size := by omega
    go_wp2_with fail
    refine (mul_calls a c BA.out BC.out _).mono ?_
    rintro e w8 ⟨rfl, hB8⟩
    obtain ⟨q, h_q⟩ : ∃ v, v = a * c % W256 := ⟨_, rfl⟩
    rw [← h_q, numV_eq q]
    have E_q := Lib.hid h_q; clear h_q
    have B_q : Hid (q < W256) := by show _ < _; rw [E_q.out]; exact Nat.mod_lt _ W256_pos
    obtain ⟨q2, h_q2⟩ : ∃ v, v = a * c / W256 := ⟨_, rfl⟩
    rw [← h_q2, numV_eq q2]
    have E_q2 := Lib.hid h_q2; clear h_q2
    have B_q2 : Hid (q2 < W256) := by show _ < _; rw [E_q2.out]; exact mul_hi BA.out BC.out
    clear F_a L_a F_c L_c L1_c L2_c
    have zw8 := hWw7.size
    have M_a := ((N_a.alloc _).alloc _).kept hB8
    have M_b := ((N_b.alloc _).alloc _).kept hB8
    have M_c := ((N_c.alloc _).alloc _).kept hB8
    have M_s := ((N_s.alloc _).alloc _).kept hB8
    have M_p := ((NumAt.newAt _ (w7.heap.size) p (by first | rfl | simp)).alloc _).kept hB8
    have hWw8 : Below w.heap.size w w8 := ((hWw7.alloc (by (try simp) <;> omega) _).alloc (by (try simp) <;> omega) _).trans (hB8.mono (by (try simp) <;> omega))
    clear N_a N_b N_c N_s hWw7 zw8 hB8
    have N_a := M_a
    have N_b := M_b
    have N_c := M_c
    have N_s := M_s
    have N_p := M_p
    clear M_a M_b M_c M_s M_p
    have F_b := N_b.facts; have L_b := N_b.lt
    have L1_b : w.heap.size < w8.heap.size := by omega
    have F_c := N_c.facts; have L_c := N_c.lt
    have L1_c : w.heap.size + 1 < w8.heap.size := by omega
    have L2_c : w.heap.size < w8.heap.size := by omega
    go_wp2_with fail
    refine (mul_calls b c BB.out BC.out _).mono ?_
    rintro e w9 ⟨rfl, hB9⟩
    obtain ⟨r, h_r⟩ : ∃ v, v = b * c % W256 := ⟨_, rfl⟩
    rw [← h_r, numV_eq r]
    have E_r := Lib.hid h_r; clear h_r
    have B_r : Hid (r < W256) := by show _ < _; rw [E_r.out]; exact Nat.mod_lt _ W256_pos
    obtain ⟨r2, h_r2⟩ : ∃ v, v = b * c / W256 := ⟨_, rfl⟩
    rw [← h_r2, numV_eq r2]
    have E_r2 := Lib.hid h_r2; clear h_r2
    have B_r2 : Hid (r2 < W256) := by show _ < _; rw [E_r2.out]; exact mul_hi BB.out BC.out
    clear F_b L_b L1_b F_c L_c L1_c L2_c
    have zw9 := hWw8.size
    have M_a := ((N_a.alloc _).alloc _).kept hB9
    have M_b := ((N_b.alloc _).alloc _).kept hB9
    have M_c := ((N_c.alloc _).alloc _).kept hB9
    have M_s := ((N_s.alloc _).alloc _).kept hB9
    have M_p := ((N_p.alloc _).alloc _).kept hB9
    have M_q := ((NumAt.newAt _ (w8.heap.size) q (by first | rfl | simp)).alloc _).kept hB9
    have hWw9 : Below w.heap.size w w9 := ((hWw8.alloc (by (try simp) <;> omega) _).alloc (by (try simp) <;> omega) _).trans (hB9.mono (by (try simp) <;> omega))
    clear N_a N_b N_c N_s N_p hWw8 zw9 hB9
    have N_a := M_a
    have N_b := M_b
    have N_c := M_c
    have N_s := M_s
    have N_p := M_p
    have N_q := M_q
    clear M_a M_b M_c M_s M_p M_q
    have F_q := N_q.facts; have L_q := N_q.lt
    go_wp2_with fail
    refine (add_calls q r B_q.out B_r.out _).mono ?_
    rintro e w10 ⟨rfl, hB10⟩
    rw [back_dist E_s.out E_p.out E_q.out E_r.out]
    rw [numV_eq p]
    clear F_q L_q
    have zw10 := hWw9.size
    have M_a := ((N_a.alloc _).alloc _).kept hB10
    have M_b := ((N_b.alloc _).alloc _).kept hB10
    have M_c := ((N_c.alloc _).alloc _).kept hB10
    have M_s := ((N_s.alloc _).alloc _).kept hB10
    have M_p := ((N_p.alloc _).alloc _).kept hB10
    have M_q := ((N_q.alloc _).alloc _).kept hB10
    have M_r := ((NumAt.newAt _ (w9.heap.size) r (by first | rfl | simp)).alloc _).kept hB10
    have hWw10 : Below w.heap.size w w10 := ((hWw9.alloc (by (try simp) <;> omega) _).alloc (by (try simp) <;> omega) _).trans (hB10.mono (by (try simp) <;> omega))
    clear N_a N_b N_c N_s N_p N_q hWw9 zw10 hB10
    have N_a := M_a
    have N_b := M_b
    have N_c := M_c
    have N_s := M_s
    have N_p := M_p
    have N_q := M_q
    have N_r := M_r
    clear M_a M_b M_c M_s M_p M_q M_r
    have F_p := N_p.facts; have L_p := N_p.lt
    go_wp2_with fail
    refine (wakes1_calls _).mono ?_
    rintro e w11 ⟨rfl, hB11⟩
    clear F_p L_p
    have zw11 := hWw10.size
    have M_a := (N_a.alloc _).kept hB11
    have M_b := (N_b.alloc _).kept hB11
    have M_c := (N_c.alloc _).kept hB11
    have M_s := (N_s.alloc _).kept hB11
    have M_p := (N_p.alloc _).kept hB11
    have M_q := (N_q.alloc _).kept hB11
    have M_r := (N_r.alloc _).kept hB11
    have M_t := (NumAt.newAt _ (w10.heap.size) p (by first | rfl | simp)).kept hB11
    have hWw11 : Below w.heap.size w w11 := (hWw10.alloc (by (try simp) <;> omega) _).trans (hB11.mono (by (try simp) <;> omega))
    clear N_a N_b N_c N_s N_p N_q N_r hWw10 zw11 hB11
    have N_a := M_a
    have N_b := M_b
    have N_c := M_c
    have N_s := M_s
    have N_p := M_p
    have N_q := M_q
    have N_r := M_r
    have N_t := M_t
    clear M_a M_b M_c M_s M_p M_q M_r M_t
    go_wp2
    go_ret
    have zz := hWw11.size
    refine ⟨rfl, ?_⟩
    repeat first | exact Below.refl _ _ | assumption | refine Below.drew ?_ | (refine Below.alloc ?_ (by (try simp) <;> omega) _)

set_option maxRecDepth 100000 in
theorem limbBack_lifted (os : Os) (started : os.Started) (H : Type) (enc : TypeId × Value → H) :
    ReturnsInHanded {} Try.checked os 4 .any (Rows.limbBackSpec.pre6 enc Try.prog Try.f4 Rows.limbBackRow.domain false) (Rows.limbBackSpec.post enc Try.prog Try.f4 false true false false) := by
  refine returnsInHanded_of_change (C := Try.checked) own started (by kernel_rfl) Try.func4
    (ChangeSpec.witness6 (enc := enc) (C := Try.checked) false ⟨#[], #[.agg #[.int .u64 0, .int .u64 0, .int .u64 0, .int .u64 0], .agg #[.int .u64 0, .int .u64 0, .int .u64 0, .int .u64 0], .agg #[.int .u64 0, .int .u64 0, .int .u64 0, .int .u64 0]], []⟩ 8 (by kernel_rfl) (by kernel_rfl) (by kernel_rfl) (by kernel_rfl)) ?_
  intro W base args ds gs before hval0 hW hcnd _
  have hval : ∀ (j : Nat) t v, Try.f4.params[j]? = some t → args[j]? = some v → Value.okWide Try.prog W .any base t v := hval0
  have hW' := hW
  obtain ⟨p, q, hA0, hV, rfl, hfz, hnd⟩ := hW
  have hA : DataW.TrodAll enc Try.prog W 0 (fun _ => true) true Try.f4.params.toList args.toList ds p := hA0
  rw [Try.params4] at hA hval
  obtain ⟨v0, vs0, d0, ds0, p0, q0, hargs, rfl, rfl, h0, r0⟩ := trodAll_cons hA
  obtain ⟨v1, vs1, d1, ds1, p1, q1, rfl, rfl, rfl, h1, r1⟩ := trodAll_cons r0
  obtain ⟨v2, vs2, d2, ds2, p2, q2, rfl, rfl, rfl, h2, r2⟩ := trodAll_cons r1
  obtain ⟨rfl, rfl, rfl⟩ := trodAll_nil r2
  obtain rfl : args = #[v0, v1, v2] := by cases args; simp_all
  obtain ⟨rfl, rfl⟩ := trodVars_none hV
  have k0 := h0
  have lt0 : ∀ x ∈ p0, x.block < W.heap.size := by obtain ⟨m, hm⟩ := k0; exact DataW.trod_lt m _ _ _ hm
  have k1 := h1
  have lt1 : ∀ x ∈ p1, x.block < W.heap.size := by obtain ⟨m, hm⟩ := k1; exact DataW.trod_lt m _ _ _ hm
  have k2 := h2
  have lt2 : ∀ x ∈ p2, x.block < W.heap.size := by obtain ⟨m, hm⟩ := k2; exact DataW.trod_lt m _ _ _ hm
  obtain ⟨a, w_a, rfl⟩ := open_num (hval 0 24 v0 rfl rfl) h0
  obtain ⟨b, w_b, rfl⟩ := open_num (hval 1 24 v1 rfl rfl) h1
  obtain ⟨c, w_c, rfl⟩ := open_num (hval 2 24 v2 rfl rfl) h2
  clear hA0 hval0
  refine (limbBack_walk a b c w_a w_b w_c W).mono fun e W' ⟨he, bel⟩ => ?_
  subst he
  exact ⟨_, rfl, _, _, _, [], _, [], hW', trodAll_mk1 (shut_bool Try.underlying4 _), (trodAll_cons_mk (Below.trod laidOut (by kernel_rfl) (of_decide_eq_true (by kernel_rfl)) k0 bel lt0) (trodAll_cons_mk (Below.trod laidOut (by kernel_rfl) (of_decide_eq_true (by kernel_rfl)) k1 bel lt1) (trodAll_cons_mk (Below.trod laidOut (by kernel_rfl) (of_decide_eq_true (by kernel_rfl)) k2 bel lt2) trodAll_mk0))), rfl, bel.frame _, fun h => by cases h⟩

theorem limbBack_holds : Rows.LimbBackSaid :=
  OpenClaim.holds_of_wide 4 Try.f4 rfl rfl rfl rfl rfl rfl rfl ⟨rfl, rfl, rfl, rfl, rfl⟩ rfl rfl rfl rfl rfl (by kernel_rfl) Try.func4 (by kernel_rfl)
    (of_decide_eq_true (by kernel_rfl)) (by unfold Func.isWrapper; first | (rw [if_pos (by decide +kernel)]; kernel_rfl) | (rw [if_neg (by decide +kernel)]; exact ⟨rfl, rfl⟩))
    (fun os started H enc _ => limbBack_lifted os started H enc)

end Go.Proofs.Ytmecomgifmkkfaa
