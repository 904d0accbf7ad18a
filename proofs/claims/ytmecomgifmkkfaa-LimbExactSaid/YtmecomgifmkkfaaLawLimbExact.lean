/- LimbExact: sums, differences, products, comparisons, bits, lengths of any numbers are the page's; for every input, no condition. -/
import Derived.Test.YtmecomgifmkkfaaProg
import Derived.Test.YtmecomgifmkkfaaNum
import Derived.Test.YtmecomgifmkkfaaBits
import Derived.Test.YtmecomgifmkkfaaBytes
import Derived.Test.YtmecomgifmkkfaaMem
import Derived.Test.YtmecomgifmkkfaaOrd
import Derived.Test.YtmecomgifmkkfaaEqs
import Derived.Test.YtmecomgifmkkfaaLimbA
import Derived.Test.YtmecomgifmkkfaaLimbB
import Derived.Test.YtmecomgifmkkfaaLimbC
import Derived.Test.YtmecomgifmkkfaaLimbF
import Derived.Test.YtmecomgifmkkfaaLimbG
import Derived.Test.YtmecomgifmkkfaaLimbM
import Derived.Test.YtmecomgifmkkfaaLimbN
import Derived.Test.YtmecomgifmkkfaaLimbW
import Derived.Test.YtmecomgifmkkfaaRows
import Derived.Test.YtmecomgifmkkfaaOpen
import Derived.Test.YtmecomgifmkkfaaAux
import Derived.WalkSpells
import Derived.WalkLawsBesides
import Derived.Handy
import Derived.Lib.Hide
import Derived.RegionTactic
import Derived.BigQuiet
import Derived.Deep.Cut
import Derived.ProofKit
import Derived.OpenShut
namespace Go.Proofs.Ytmecomgifmkkfaa
set_option linter.unusedVariables false
set_option linter.unusedSimpArgs false
open Go.ChangeShapes Go.WideShapes Go.ChangeAt Go.RowKit

set_option maxHeartbeats 1000000 in
set_option maxRecDepth 100000 in
theorem limbExact_walk (a : Nat) (b : Nat) (i : Int) (w_a : a < W256) (w_b : b < W256) (w_i : -9223372036854775808 ≤ i ∧ i ≤ 9223372036854775807) (w : World) :
    Calls Try.prog 7 #[numV a, numV b, .int .i64 i] w fun e w' => e = .returned (.bool true) ∧ Below w.heap.size w w' := by
  have hg := eqGuard_num
  have hS := @eq_same
  have BA := Lib.hid w_a; have BB := Lib.hid w_b
  clear w_a w_b w_i
  obtain ⟨x, hx, hx1⟩ : ∃ x : Nat, x = (a + b) / W256 ∧ x ≤ 1 := ⟨_, rfl, by have := BA.out; have := BB.out; unfold W256 at *; omega⟩
  have X := Lib.hid hx; clear hx
  obtain ⟨u, hu, hu1⟩ : ∃ u : Nat, u = (if a < b then 1 else 0 : Nat) ∧ u ≤ 1 := ⟨_, rfl, by split <;> omega⟩
  have U := Lib.hid hu; clear hu
  rw [numV_eq a, numV_eq b]
  go_enter Try.func7, Try.ntmps7
  go_wp2_with fail
  refine (add_calls a b BA.out BB.out _).mono ?_
  rintro e w1 ⟨rfl, hB1⟩
  rw [← X.out]
  obtain ⟨s, h_s⟩ : ∃ v, v = (a + b) % W256 := ⟨_, rfl⟩
  rw [← h_s, numV_eq s]
  have E_s := Lib.hid h_s; clear h_s
  have B_s : Hid (s < W256) := by show _ < _; rw [E_s.out]; exact Nat.mod_lt _ W256_pos
  have M_a := ((NumAt.newAt _ (w.heap.size) a (by first | rfl | simp)).alloc _).kept hB1
  have M_b := (NumAt.newAt _ (w.heap.size + 1) b (by first | rfl | simp)).kept hB1
  have hWw1 : Below w.heap.size w w1 := (((Below.refl _ _).alloc (by (try simp) <;> omega) _).alloc (by (try simp) <;> omega) _).trans (hB1.mono (by (try simp) <;> omega))
  clear hB1
  have N_a := M_a
  have N_b := M_b
  clear M_a M_b
  have F_a := N_a.facts; have L_a := N_a.lt
  have F_b := N_b.facts; have L_b := N_b.lt
  have L1_b : w.heap.size < w1.heap.size := by omega
  go_wp2_with fail
  refine (radd_calls a b BA.out BB.out _).mono ?_
  rintro e w2 ⟨rfl, hB2⟩
  rw [← X.out]
  rw [← E_s.out]
  rw [numV_eq s]
  clear F_a L_a F_b L_b L1_b
  have zw2 := hWw1.size
  have M_a := (N_a.alloc _).kept hB2
  have M_b := (N_b.alloc _).kept hB2
  have M_s := (NumAt.newAt _ (w1.heap.size) s (by first | rfl | simp)).kept hB2
  have hWw2 : Below w.heap.size w w2 := (hWw1.alloc (by (try simp) <;> omega) _).trans (hB2.mono (by (try simp) <;> omega))
  clear N_a N_b hWw1 zw2 hB2
  have N_a := M_a
  have N_b := M_b
  have N_s := M_s
  clear M_a M_b M_s
  have F_a := N_a.facts; have L_a := N_a.lt
  have F_b := N_b.facts; have L_b := N_b.lt
  have L1_b : w.heap.size < w2.heap.size := by omega
  go_wp2_with fail
  refine (sub_calls a b BA.out BB.out _).mono ?_
  rintro e w3 ⟨rfl, hB3⟩
  rw [← U.out]
  obtain ⟨d, h_d⟩ : ∃ v, v = (a + W256 - b) % W256 := ⟨_, rfl⟩
  rw [← h_d, numV_eq d]
  have E_d := Lib.hid h_d; clear h_d
  have B_d : Hid (d < W256) := by show _ < _; rw [E_d.out]; exact Nat.mod_lt _ W256_pos
  clear F_a L_a F_b L_b L1_b
  have zw3 := hWw2.size
  have M_a := (N_a.alloc _).kept hB3
  have M_b := (N_b.alloc _).kept hB3
  have M_s := (N_s.alloc _).kept hB3
  have M_t := (NumAt.newAt _ (w2.heap.size) s (by first | rfl | simp)).kept hB3
  have hWw3 : Below w.heap.size w w3 := (hWw2.alloc (by (try simp) <;> omega) _).trans (hB3.mono (by (try simp) <;> omega))
  clear N_a N_b N_s hWw2 zw3 hB3
  have N_a := M_a
  have N_b := M_b
  have N_s := M_s
  have N_t := M_t
  clear M_a M_b M_s M_t
  have F_a := N_a.facts; have L_a := N_a.lt
  have F_b := N_b.facts; have L_b := N_b.lt
  have L1_b : w.heap.size < w3.heap.size := by omega
  go_wp2_with fail
  refine (rsub_calls a b BA.out BB.out _).mono ?_
  rintro e w4 ⟨rfl, hB4⟩
  rw [← U.out]
  rw [← E_d.out]
  rw [numV_eq d]
  clear F_a L_a F_b L_b L1_b
  have zw4 := hWw3.size
  have M_a := (N_a.alloc _).kept hB4
  have M_b := (N_b.alloc _).kept hB4
  have M_s := (N_s.alloc _).kept hB4
  have M_t := (N_t.alloc _).kept hB4
  have M_d := (NumAt.newAt _ (w3.heap.size) d (by first | rfl | simp)).kept hB4
  have hWw4 : Below w.heap.size w w4 := (hWw3.alloc (by (try simp) <;> omega) _).trans (hB4.mono (by (try simp) <;> omega))
  clear N_a N_b N_s N_t hWw3 zw4 hB4
  have N_a := M_a
  have N_b := M_b
  have N_s := M_s
  have N_t := M_t
  have N_d := M_d
  clear M_a M_b M_s M_t M_d
  have F_a := N_a.facts; have L_a := N_a.lt
  have F_b := N_b.facts; have L_b := N_b.lt
  have L1_b : w.heap.size < w4.heap.size := by omega
  go_wp2_with fail
  refine (mul_calls a b BA.out BB.out _).mono ?_
  rintro e w5 ⟨rfl, hB5⟩
  obtain ⟨lo, h_lo⟩ : ∃ v, v = a * b % W256 := ⟨_, rfl⟩
  rw [← h_lo, numV_eq lo]
  have E_lo := Lib.hid h_lo; clear h_lo
  have B_lo : Hid (lo < W256) := by show _ < _; rw [E_lo.out]; exact Nat.mod_lt _ W256_pos
  obtain ⟨hi, h_hi⟩ : ∃ v, v = a * b / W256 := ⟨_, rfl⟩
  rw [← h_hi, numV_eq hi]
  have E_hi := Lib.hid h_hi; clear h_hi
  have B_hi : Hid (hi < W256) := by show _ < _; rw [E_hi.out]; exact mul_hi BA.out BB.out
  clear F_a L_a F_b L_b L1_b
  have zw5 := hWw4.size
  have M_a := (N_a.alloc _).kept hB5
  have M_b := (N_b.alloc _).kept hB5
  have M_s := (N_s.alloc _).kept hB5
  have M_t := (N_t.alloc _).kept hB5
  have M_d := (N_d.alloc _).kept hB5
  have M_v := (NumAt.newAt _ (w4.heap.size) d (by first | rfl | simp)).kept hB5
  have hWw5 : Below w.heap.size w w5 := (hWw4.alloc (by (try simp) <;> omega) _).trans (hB5.mono (by (try simp) <;> omega))
  clear N_a N_b N_s N_t N_d hWw4 zw5 hB5
  have N_a := M_a
  have N_b := M_b
  have N_s := M_s
  have N_t := M_t
  have N_d := M_d
  have N_v := M_v
  clear M_a M_b M_s M_t M_d M_v
  have F_a := N_a.facts; have L_a := N_a.lt
  have F_b := N_b.facts; have L_b := N_b.lt
  have L1_b : w.heap.size < w5.heap.size := by omega
  go_wp2_with fail
  refine (rmul_calls a b BA.out BB.out _).mono ?_
  rintro e w6 ⟨rfl, hB6⟩
  rw [← E_lo.out]
  rw [← E_hi.out]
  rw [numV_eq lo]
  rw [numV_eq hi]
  clear F_a L_a F_b L_b L1_b
  have zw6 := hWw5.size
  have M_a := ((N_a.alloc _).alloc _).kept hB6
  have M_b := ((N_b.alloc _).alloc _).kept hB6
  have M_s := ((N_s.alloc _).alloc _).kept hB6
  have M_t := ((N_t.alloc _).alloc _).kept hB6
  have M_d := ((N_d.alloc _).alloc _).kept hB6
  have M_v := ((N_v.alloc _).alloc _).kept hB6
  have M_lo := ((NumAt.newAt _ (w5.heap.size) lo (by first | rfl | simp)).alloc _).kept hB6
  have M_hi := (NumAt.newAt _ (w5.heap.size + 1) hi (by first | rfl | simp)).kept hB6
  have hWw6 : Below w.heap.size w w6 := ((hWw5.alloc (by (try simp) <;> omega) _).alloc (by (try simp) <;> omega) _).trans (hB6.mono (by (try simp) <;> omega))
  clear N_a N_b N_s N_t N_d N_v hWw5 zw6 hB6
  have N_a := M_a
  have N_b := M_b
  have N_s := M_s
  have N_t := M_t
  have N_d := M_d
  have N_v := M_v
  have N_lo := M_lo
  have N_hi := M_hi
  clear M_a M_b M_s M_t M_d M_v M_lo M_hi
  have F_a := N_a.facts; have L_a := N_a.lt
  have F_b := N_b.facts; have L_b := N_b.lt
  have L1_b : w.heap.size < w6.heap.size := by omega
  go_upto_region 7 with (fail)
  clear F_a L_a F_b L_b L1_b
  have zz := hWw6.size
  refine abs_world (fun w' => Below w.heap.size w w' ∧ NumAt w' (w.heap.size) a ∧ NumAt w' (w.heap.size + 1) b ∧ NumAt w' (w1.heap.size) s ∧ NumAt w' (w2.heap.size) s ∧ NumAt w' (w3.heap.size) d ∧ NumAt w' (w4.heap.size) d ∧ NumAt w' (w5.heap.size) lo ∧ NumAt w' (w5.heap.size + 1) hi ∧ NumAt w' (w6.heap.size) lo ∧ NumAt w' (w6.heap.size + 1) hi) ⟨((hWw6.alloc (by (try simp) <;> omega) _).alloc (by (try simp) <;> omega) _), ((N_a.alloc _).alloc _), ((N_b.alloc _).alloc _), ((N_s.alloc _).alloc _), ((N_t.alloc _).alloc _), ((N_d.alloc _).alloc _), ((N_v.alloc _).alloc _), ((N_lo.alloc _).alloc _), ((N_hi.alloc _).alloc _), ((NumAt.newAt _ (w6.heap.size) lo (by first | rfl | simp)).alloc _), (NumAt.newAt _ (w6.heap.size + 1) hi (by first | rfl | simp))⟩ ?_
  clear N_a N_b N_s N_t N_d N_v N_lo N_hi hWw6 zz
  intro w7 ⟨hWw7, N_a, N_b, N_s, N_t, N_d, N_v, N_lo, N_hi, N_p, N_q⟩
  have G_a0 : ∀ z : Ext w7, z.w.cell? ⟨w.heap.size, 0, none⟩ = some (.int .u64 (dg a 0 : Nat)) := fun z => (N_a.kept z.below).cell 0 (by decide)
  have G_a1 : ∀ z : Ext w7, z.w.cell? ⟨w.heap.size, 1, none⟩ = some (.int .u64 (dg a 1 : Nat)) := fun z => (N_a.kept z.below).cell 1 (by decide)
  have G_a2 : ∀ z : Ext w7, z.w.cell? ⟨w.heap.size, 2, none⟩ = some (.int .u64 (dg a 2 : Nat)) := fun z => (N_a.kept z.below).cell 2 (by decide)
  have G_a3 : ∀ z : Ext w7, z.w.cell? ⟨w.heap.size, 3, none⟩ = some (.int .u64 (dg a 3 : Nat)) := fun z => (N_a.kept z.below).cell 3 (by decide)
  have G_b0 : ∀ z : Ext w7, z.w.cell? ⟨w.heap.size + 1, 0, none⟩ = some (.int .u64 (dg b 0 : Nat)) := fun z => (N_b.kept z.below).cell 0 (by decide)
  have G_b1 : ∀ z : Ext w7, z.w.cell? ⟨w.heap.size + 1, 1, none⟩ = some (.int .u64 (dg b 1 : Nat)) := fun z => (N_b.kept z.below).cell 1 (by decide)
  have G_b2 : ∀ z : Ext w7, z.w.cell? ⟨w.heap.size + 1, 2, none⟩ = some (.int .u64 (dg b 2 : Nat)) := fun z => (N_b.kept z.below).cell 2 (by decide)
  have G_b3 : ∀ z : Ext w7, z.w.cell? ⟨w.heap.size + 1, 3, none⟩ = some (.int .u64 (dg b 3 : Nat)) := fun z => (N_b.kept z.below).cell 3 (by decide)
  have G_s0 : ∀ z : Ext w7, z.w.cell? ⟨w1.heap.size, 0, none⟩ = some (.int .u64 (dg s 0 : Nat)) := fun z => (N_s.kept z.below).cell 0 (by decide)
  have G_s1 : ∀ z : Ext w7, z.w.cell? ⟨w1.heap.size, 1, none⟩ = some (.int .u64 (dg s 1 : Nat)) := fun z => (N_s.kept z.below).cell 1 (by decide)
  have G_s2 : ∀ z : Ext w7, z.w.cell? ⟨w1.heap.size, 2, none⟩ = some (.int .u64 (dg s 2 : Nat)) := fun z => (N_s.kept z.below).cell 2 (by decide)
  have G_s3 : ∀ z : Ext w7, z.w.cell? ⟨w1.heap.size, 3, none⟩ = some (.int .u64 (dg s 3 : Nat)) := fun z => (N_s.kept z.below).cell 3 (by decide)
  have G_t0 : ∀ z : Ext w7, z.w.cell? ⟨w2.heap.size, 0, none⟩ = some (.int .u64 (dg s 0 : Nat)) := fun z => (N_t.kept z.below).cell 0 (by decide)
  have G_t1 : ∀ z : Ext w7, z.w.cell? ⟨w2.heap.size, 1, none⟩ = some (.int .u64 (dg s 1 : Nat)) := fun z => (N_t.kept z.below).cell 1 (by decide)
  have G_t2 : ∀ z : Ext w7, z.w.cell? ⟨w2.heap.size, 2, none⟩ = some (.int .u64 (dg s 2 : Nat)) := fun z => (N_t.kept z.below).cell 2 (by decide)
  have G_t3 : ∀ z : Ext w7, z.w.cell? ⟨w2.heap.size, 3, none⟩ = some (.int .u64 (dg s 3 : Nat)) := fun z => (N_t.kept z.below).cell 3 (by decide)
  have G_d0 : ∀ z : Ext w7, z.w.cell? ⟨w3.heap.size, 0, none⟩ = some (.int .u64 (dg d 0 : Nat)) := fun z => (N_d.kept z.below).cell 0 (by decide)
  have G_d1 : ∀ z : Ext w7, z.w.cell? ⟨w3.heap.size, 1, none⟩ = some (.int .u64 (dg d 1 : Nat)) := fun z => (N_d.kept z.below).cell 1 (by decide)
  have G_d2 : ∀ z : Ext w7, z.w.cell? ⟨w3.heap.size, 2, none⟩ = some (.int .u64 (dg d 2 : Nat)) := fun z => (N_d.kept z.below).cell 2 (by decide)
  have G_d3 : ∀ z : Ext w7, z.w.cell? ⟨w3.heap.size, 3, none⟩ = some (.int .u64 (dg d 3 : Nat)) := fun z => (N_d.kept z.below).cell 3 (by decide)
  have G_v0 : ∀ z : Ext w7, z.w.cell? ⟨w4.heap.size, 0, none⟩ = some (.int .u64 (dg d 0 : Nat)) := fun z => (N_v.kept z.below).cell 0 (by decide)
  have G_v1 : ∀ z : Ext w7, z.w.cell? ⟨w4.heap.size, 1, none⟩ = some (.int .u64 (dg d 1 : Nat)) := fun z => (N_v.kept z.below).cell 1 (by decide)
  have G_v2 : ∀ z : Ext w7, z.w.cell? ⟨w4.heap.size, 2, none⟩ = some (.int .u64 (dg d 2 : Nat)) := fun z => (N_v.kept z.below).cell 2 (by decide)
  have G_v3 : ∀ z : Ext w7, z.w.cell? ⟨w4.heap.size, 3, none⟩ = some (.int .u64 (dg d 3 : Nat)) := fun z => (N_v.kept z.below).cell 3 (by decide)
  have G_lo0 : ∀ z : Ext w7, z.w.cell? ⟨w5.heap.size, 0, none⟩ = some (.int .u64 (dg lo 0 : Nat)) := fun z => (N_lo.kept z.below).cell 0 (by decide)
  have G_lo1 : ∀ z : Ext w7, z.w.cell? ⟨w5.heap.size, 1, none⟩ = some (.int .u64 (dg lo 1 : Nat)) := fun z => (N_lo.kept z.below).cell 1 (by decide)
  have G_lo2 : ∀ z : Ext w7, z.w.cell? ⟨w5.heap.size, 2, none⟩ = some (.int .u64 (dg lo 2 : Nat)) := fun z => (N_lo.kept z.below).cell 2 (by decide)
  have G_lo3 : ∀ z : Ext w7, z.w.cell? ⟨w5.heap.size, 3, none⟩ = some (.int .u64 (dg lo 3 : Nat)) := fun z => (N_lo.kept z.below).cell 3 (by decide)
  have G_hi0 : ∀ z : Ext w7, z.w.cell? ⟨w5.heap.size + 1, 0, none⟩ = some (.int .u64 (dg hi 0 : Nat)) := fun z => (N_hi.kept z.below).cell 0 (by decide)
  have G_hi1 : ∀ z : Ext w7, z.w.cell? ⟨w5.heap.size + 1, 1, none⟩ = some (.int .u64 (dg hi 1 : Nat)) := fun z => (N_hi.kept z.below).cell 1 (by decide)
  have G_hi2 : ∀ z : Ext w7, z.w.cell? ⟨w5.heap.size + 1, 2, none⟩ = some (.int .u64 (dg hi 2 : Nat)) := fun z => (N_hi.kept z.below).cell 2 (by decide)
  have G_hi3 : ∀ z : Ext w7, z.w.cell? ⟨w5.heap.size + 1, 3, none⟩ = some (.int .u64 (dg hi 3 : Nat)) := fun z => (N_hi.kept z.below).cell 3 (by decide)
  have G_p0 : ∀ z : Ext w7, z.w.cell? ⟨w6.heap.size, 0, none⟩ = some (.int .u64 (dg lo 0 : Nat)) := fun z => (N_p.kept z.below).cell 0 (by decide)
  have G_p1 : ∀ z : Ext w7, z.w.cell? ⟨w6.heap.size, 1, none⟩ = some (.int .u64 (dg lo 1 : Nat)) := fun z => (N_p.kept z.below).cell 1 (by decide)
  have G_p2 : ∀ z : Ext w7, z.w.cell? ⟨w6.heap.size, 2, none⟩ = some (.int .u64 (dg lo 2 : Nat)) := fun z => (N_p.kept z.below).cell 2 (by decide)
  have G_p3 : ∀ z : Ext w7, z.w.cell? ⟨w6.heap.size, 3, none⟩ = some (.int .u64 (dg lo 3 : Nat)) := fun z => (N_p.kept z.below).cell 3 (by decide)
  have G_q0 : ∀ z : Ext w7, z.w.cell? ⟨w6.heap.size + 1, 0, none⟩ = some (.int .u64 (dg hi 0 : Nat)) := fun z => (N_q.kept z.below).cell 0 (by decide)
  have G_q1 : ∀ z : Ext w7, z.w.cell? ⟨w6.heap.size + 1, 1, none⟩ = some (.int .u64 (dg hi 1 : Nat)) := fun z => (N_q.kept z.below).cell 1 (by decide)
  have G_q2 : ∀ z : Ext w7, z.w.cell? ⟨w6.heap.size + 1, 2, none⟩ = some (.int .u64 (dg hi 2 : Nat)) := fun z => (N_q.kept z.below).cell 2 (by decide)
  have G_q3 : ∀ z : Ext w7, z.w.cell? ⟨w6.heap.size + 1, 3, none⟩ = some (.int .u64 (dg hi 3 : Nat)) := fun z => (N_q.kept z.below).cell 3 (by decide)
  refine ext_region (by kernel_rfl) (by kernel_rfl) ?_
  repeat (go_big_quiet_step (fail))
  go_big_quiet_step ((refine (cmp_calls a b BA.out BB.out _).mono ?_; rintro e wz ⟨rfl, hBz⟩; exact ⟨rfl, Ext.on _ hBz⟩))
  repeat (go_big_quiet_step (fail))
  go_big_quiet_step ((refine (rcmp_calls a b BA.out BB.out _).mono ?_; rintro e wz ⟨rfl, hBz⟩; exact ⟨rfl, Ext.on _ hBz⟩))
  repeat (go_big_quiet_step (fail))
  go_big_quiet_step ((refine (bit_calls a i BA.out _).mono ?_; rintro e wz ⟨rfl, hBz⟩; exact ⟨rfl, Ext.on _ hBz⟩))
  repeat (go_big_quiet_step (fail))
  go_big_quiet_step ((refine (rbit_calls a i BA.out _).mono ?_; rintro e wz ⟨rfl, hBz⟩; exact ⟨rfl, Ext.on _ hBz⟩))
  repeat (go_big_quiet_step (fail))
  go_big_quiet_step ((refine (len_calls a BA.out _).mono ?_; rintro e wz ⟨rfl, hBz⟩; exact ⟨rfl, Ext.on _ hBz⟩))
  repeat (go_big_quiet_step (fail))
  go_big_quiet_step ((refine (rlen_calls a BA.out _).mono ?_; rintro e wz ⟨rfl, hBz⟩; exact ⟨rfl, Ext.on _ hBz⟩))
  repeat (go_big_quiet_step (fail))
  go_big_quiet_step ((refine (wakes1_calls _).mono ?_; rintro e wz ⟨rfl, hBz⟩; exact ⟨rfl, Ext.on _ hBz⟩))
  repeat (go_big_quiet_step (fail))
  refine wpQuiet_nil ?_
  intro z
  clear G_a0 G_a1 G_a2 G_a3 G_b0 G_b1 G_b2 G_b3 G_s0 G_s1 G_s2 G_s3 G_t0 G_t1 G_t2 G_t3 G_d0 G_d1 G_d2 G_d3 G_v0 G_v1 G_v2 G_v3 G_lo0 G_lo1 G_lo2 G_lo3 G_hi0 G_hi1 G_hi2 G_hi3 G_p0 G_p1 G_p2 G_p3 G_q0 G_q1 G_q2 G_q3
  have M_a := N_a.kept z.below
  have M_b := N_b.kept z.below
  have M_s := N_s.kept z.below
  have M_t := N_t.kept z.below
  have M_d := N_d.kept z.below
  have M_v := N_v.kept z.below
  have M_lo := N_lo.kept z.below
  have M_hi := N_hi.kept z.below
  have M_p := N_p.kept z.below
  have M_q := N_q.kept z.below
  have hWw7x := hWw7.trans (z.below.mono hWw7.size)
  clear N_a N_b N_s N_t N_d N_v N_lo N_hi N_p N_q hWw7
  generalize z.w = w7x at *
  clear z
  have N_a := M_a
  have N_b := M_b
  have N_s := M_s
  have N_t := M_t
  have N_d := M_d
  have N_v := M_v
  have N_lo := M_lo
  have N_hi := M_hi
  have N_p := M_p
  have N_q := M_q
  clear M_a M_b M_s M_t M_d M_v M_lo M_hi M_p M_q
  go_wp2
  go_ret
  have zz := hWw7x.size
  refine ⟨rfl, ?_⟩
  repeat first | exact Below.refl _ _ | assumption | refine Below.drew ?_ | (refine Below.alloc ?_ (by (try simp) <;> omega) _)

set_option maxRecDepth 100000 in
theorem limbExact_lifted (os : Os) (started : os.Started) (H : Type) (enc : TypeId × Value → H) :
    ReturnsInHanded {} Try.checked os 7 .any (Rows.limbExactSpec.pre6 enc Try.prog Try.f7 Rows.limbExactRow.domain false) (Rows.limbExactSpec.post enc Try.prog Try.f7 false true false false) := by
  refine returnsInHanded_of_change (C := Try.checked) own started (by kernel_rfl) Try.func7
    (ChangeSpec.witness6 (enc := enc) (C := Try.checked) false ⟨#[], #[.agg #[.int .u64 0, .int .u64 0, .int .u64 0, .int .u64 0], .agg #[.int .u64 0, .int .u64 0, .int .u64 0, .int .u64 0], .int .i64 0], []⟩ 8 (by kernel_rfl) (by kernel_rfl) (by kernel_rfl) (by kernel_rfl)) ?_
  intro W base args ds gs before hval0 hW hcnd _
  have hval : ∀ (j : Nat) t v, Try.f7.params[j]? = some t → args[j]? = some v → Value.okWide Try.prog W .any base t v := hval0
  have hW' := hW
  obtain ⟨p, q, hA0, hV, rfl, hfz, hnd⟩ := hW
  have hA : DataW.TrodAll enc Try.prog W 0 (fun _ => true) true Try.f7.params.toList args.toList ds p := hA0
  rw [Try.params7] at hA hval
  obtain ⟨v0, vs0, d0, ds0, p0, q0, hargs, rfl, rfl, h0, r0⟩ := trodAll_cons hA
  obtain ⟨v1, vs1, d1, ds1, p1, q1, rfl, rfl, rfl, h1, r1⟩ := trodAll_cons r0
  obtain ⟨v2, vs2, d2, ds2, p2, q2, rfl, rfl, rfl, h2, r2⟩ := trodAll_cons r1
  obtain ⟨rfl, rfl, rfl⟩ := trodAll_nil r2
  obtain rfl : args = #[v0, v1, v2] := by cases args; simp_all
  obtain ⟨rfl, rfl⟩ := trodVars_none hV
  have k0 := h0
  have lt0 : ∀ x ∈ p0, x.block < W.heap.size := by obtain ⟨m, hm⟩ := k0; exact DataW.trod_lt m _ _ _ hm
  have k1 := h1
  have lt1 : ∀ x ∈ p1, x.block < W.heap.size := by obtain ⟨m, hm⟩ := k1; exact DataW.trod_lt m _ _ _ hm
  have k2 := h2
  have lt2 : ∀ x ∈ p2, x.block < W.heap.size := by obtain ⟨m, hm⟩ := k2; exact DataW.trod_lt m _ _ _ hm
  obtain ⟨a, w_a, rfl⟩ := open_num (hval 0 24 v0 rfl rfl) h0
  obtain ⟨b, w_b, rfl⟩ := open_num (hval 1 24 v1 rfl rfl) h1
  obtain ⟨i, rfl, rfl, rfl, w_i0⟩ := open_int Try.underlying3 (hval 2 3 v2 rfl rfl) h2; have w_i := wf_i64 w_i0
  clear hA0 hval0
  refine (limbExact_walk a b i w_a w_b w_i W).mono fun e W' ⟨he, bel⟩ => ?_
  subst he
  exact ⟨_, rfl, _, _, _, [], _, [], hW', trodAll_mk1 (shut_bool Try.underlying4 _), (trodAll_cons_mk (Below.trod laidOut (by kernel_rfl) (of_decide_eq_true (by kernel_rfl)) k0 bel lt0) (trodAll_cons_mk (Below.trod laidOut (by kernel_rfl) (of_decide_eq_true (by kernel_rfl)) k1 bel lt1) (trodAll_cons_mk (Below.trod laidOut (by kernel_rfl) (of_decide_eq_true (by kernel_rfl)) k2 bel lt2) trodAll_mk0))), rfl, bel.frame _, fun h => by cases h⟩

theorem limbExact_holds : Rows.LimbExactSaid :=
  OpenClaim.holds_of_wide 7 Try.f7 rfl rfl rfl rfl rfl rfl rfl ⟨rfl, rfl, rfl, rfl, rfl⟩ rfl rfl rfl rfl rfl (by kernel_rfl) Try.func7 (by kernel_rfl)
    (of_decide_eq_true (by kernel_rfl)) (by unfold Func.isWrapper; first | (rw [if_pos (by decide +kernel)]; kernel_rfl) | (rw [if_neg (by decide +kernel)]; exact ⟨rfl, rfl⟩))
    (fun os started H enc _ => limbExact_lifted os started H enc)

end Go.Proofs.Ytmecomgifmkkfaa
