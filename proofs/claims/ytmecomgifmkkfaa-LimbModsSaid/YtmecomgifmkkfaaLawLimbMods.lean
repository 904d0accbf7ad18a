/- LimbMods: what is left of any number of 512 bits, divided by any one of 256, is the page's; for every input, no condition. -/
import Derived.Test.YtmecomgifmkkfaaProg
import Derived.Test.YtmecomgifmkkfaaNum
import Derived.Test.YtmecomgifmkkfaaBits
import Derived.Test.YtmecomgifmkkfaaBytes
import Derived.Test.YtmecomgifmkkfaaMem
import Derived.Test.YtmecomgifmkkfaaOrd
import Derived.Test.YtmecomgifmkkfaaEqs
import Derived.Test.YtmecomgifmkkfaaLimbA
import Derived.Test.YtmecomgifmkkfaaLimbB
import Derived.Test.YtmecomgifmkkfaaLimbC
import Derived.Test.YtmecomgifmkkfaaLimbF
import Derived.Test.YtmecomgifmkkfaaLimbG
import Derived.Test.YtmecomgifmkkfaaLimbM
import Derived.Test.YtmecomgifmkkfaaLimbN
import Derived.Test.YtmecomgifmkkfaaLimbW
import Derived.Test.YtmecomgifmkkfaaRows
import Derived.Test.YtmecomgifmkkfaaOpen
import Derived.WalkSpells
import Derived.WalkLawsBesides
import Derived.Handy
import Derived.Lib.Hide
import Derived.RegionTactic
import Derived.BigQuiet
import Derived.Deep.Cut
import Derived.ProofKit
import Derived.OpenShut
namespace Go.Proofs.Ytmecomgifmkkfaa
open Go.ChangeShapes Go.WideShapes Go.ChangeAt Go.RowKit

theorem cmpI_lt {a b : Nat} (h : a < b) : cmpI a b = -1 := by unfold cmpI; rw [if_pos h]
theorem cmpI_gt {a b : Nat} (h : b < a) : cmpI a b = 1 := by unfold cmpI; rw [if_neg (by omega), if_pos h]
theorem cmpI_eq (a : Nat) : cmpI a a = 0 := by unfold cmpI; rw [if_neg (by omega), if_neg (by omega)]
theorem eq_same {a : Nat} (w : World) : (Op.equalIn 10000 24 (.agg #[.int .u64 (dg a 0 : Nat), .int .u64 (dg a 1 : Nat), .int .u64 (dg a 2 : Nat), .int .u64 (dg a 3 : Nat)]) (.agg #[.int .u64 (dg a 0 : Nat), .int .u64 (dg a 1 : Nat), .int .u64 (dg a 2 : Nat), .int .u64 (dg a 3 : Nat)])).run Try.prog w = .ok true w := by
  rw [eq_digits]; simp

set_option maxHeartbeats 1000000 in
set_option maxRecDepth 100000 in
theorem limbMods_walk (hi : Nat) (lo : Nat) (m : Nat) (w_hi : hi < W256) (w_lo : lo < W256) (w_m : m < W256) (w : World) :
    Calls Try.prog 3 #[numV hi, numV lo, numV m] w fun e w' => e = .returned (.bool true) ∧ Below w.heap.size w w' := by
  have hg := eqGuard_num
  have hS := @eq_same
  have BH := Lib.hid w_hi; have BL := Lib.hid w_lo; have BM := Lib.hid w_m
  by_cases hm : m = 0
  · subst hm
    have hE0 := fun w => eq_num_zero (a := 0) (by decide) w
    have hE := eq_digits
    simp only [decide_true] at hE0
    clear w_hi w_lo w_m
    have C0 := Lib.hid (mod_zero hi lo)
    rw [show numV 0 = .agg #[.int .u64 0, .int .u64 0, .int .u64 0, .int .u64 0] from rfl] at C0 ⊢
    rw [numV_eq hi, numV_eq lo]
    clear hE0 hS
    go_enter Try.func3, Try.ntmps3
    go_wp2_with fail
    refine (C0.out _).mono ?_
    rintro e w1 ⟨rfl, hB1⟩
    have Nm : NumAt w1 (w.heap.size + 1 + 1) 0 := (NumAt.newAt _ _ 0 (by simp)).kept hB1
    have F := Nm.facts
    have L := Nm.lt
    simp only [show dg 0 0 = 0 from rfl, show dg 0 1 = 0 from rfl, show dg 0 2 = 0 from rfl, show dg 0 3 = 0 from rfl, show ((0 : Nat) : Int) = 0 from rfl] at F
    have hz := hB1.size
    go_wp2_with fail
    refine (wakes1_calls _).mono ?_
    rintro e w2 ⟨rfl, hB2⟩
    go_wp2
    go_ret
    refine ⟨rfl, ?_⟩
    simp at hz
    refine Below.trans (b := w1.alloc _) (Below.alloc (Below.trans ?_ (hB1.mono (by simp; omega))) (by omega) _) (hB2.mono (by simp; omega))
    repeat first | exact Below.refl _ _ | (refine Below.alloc ?_ (by (try simp) <;> omega) _)
  · have hE := fun w => eq_num_zero w_m w
    have hd : decide (m = 0) = false := decide_eq_false hm
    simp only [hd] at hE
    have HM := Lib.hid hm
    clear w_hi w_lo w_m hm hd
    rw [numV_eq hi, numV_eq lo, numV_eq m]
    go_enter Try.func3, Try.ntmps3
    go_wp2_with fail
    refine (mod_calls hi lo m BH.out BL.out BM.out HM.out _).mono ?_
    rintro e w1 ⟨rfl, hB1⟩
    obtain ⟨r, h_r⟩ : ∃ v, v = (hi * W256 + lo) % m := ⟨_, rfl⟩
    rw [← h_r, numV_eq r]
    have E_r := Lib.hid h_r; clear h_r
    have B_r : Hid (r < W256) := by show _ < _; rw [E_r.out]; exact Nat.lt_trans (Nat.mod_lt _ (Nat.pos_of_ne_zero HM.out)) BM.out
    have M_hi := (((NumAt.newAt _ (w.heap.size) hi (by first | rfl | simp)).alloc _).alloc _).kept hB1
    have M_lo := ((NumAt.newAt _ (w.heap.size + 1) lo (by first | rfl | simp)).alloc _).kept hB1
    have M_m := (NumAt.newAt _ (w.heap.size + 1 + 1) m (by first | rfl | simp)).kept hB1
    have hWw1 : Below w.heap.size w w1 := ((((Below.refl _ _).alloc (by (try simp) <;> omega) _).alloc (by (try simp) <;> omega) _).alloc (by (try simp) <;> omega) _).trans (hB1.mono (by (try simp) <;> omega))
    clear hB1
    have N_hi := M_hi
    have N_lo := M_lo
    have N_m := M_m
    clear M_hi M_lo M_m
    have F_m := N_m.facts; have L_m := N_m.lt
    go_upto_region 4 with (fail)
    clear F_m L_m
    have zz := hWw1.size
    refine abs_world (fun w' => Below w.heap.size w w' ∧ NumAt w' (w.heap.size) hi ∧ NumAt w' (w.heap.size + 1) lo ∧ NumAt w' (w.heap.size + 1 + 1) m ∧ NumAt w' (w1.heap.size) r) ⟨(hWw1.alloc (by (try simp) <;> omega) _), (N_hi.alloc _), (N_lo.alloc _), (N_m.alloc _), (NumAt.newAt _ (w1.heap.size) r (by first | rfl | simp))⟩ ?_
    clear N_hi N_lo N_m hWw1 zz
    intro w2 ⟨hWw2, N_hi, N_lo, N_m, N_r⟩
    have G_r0 : ∀ z : Ext w2, z.w.cell? ⟨w1.heap.size, 0, none⟩ = some (.int .u64 (dg r 0 : Nat)) := fun z => (N_r.kept z.below).cell 0 (by decide)
    have G_r1 : ∀ z : Ext w2, z.w.cell? ⟨w1.heap.size, 1, none⟩ = some (.int .u64 (dg r 1 : Nat)) := fun z => (N_r.kept z.below).cell 1 (by decide)
    have G_r2 : ∀ z : Ext w2, z.w.cell? ⟨w1.heap.size, 2, none⟩ = some (.int .u64 (dg r 2 : Nat)) := fun z => (N_r.kept z.below).cell 2 (by decide)
    have G_r3 : ∀ z : Ext w2, z.w.cell? ⟨w1.heap.size, 3, none⟩ = some (.int .u64 (dg r 3 : Nat)) := fun z => (N_r.kept z.below).cell 3 (by decide)
    have G_hi0 : ∀ z : Ext w2, z.w.cell? ⟨w.heap.size, 0, none⟩ = some (.int .u64 (dg hi 0 : Nat)) := fun z => (N_hi.kept z.below).cell 0 (by decide)
    have G_hi1 : ∀ z : Ext w2, z.w.cell? ⟨w.heap.size, 1, none⟩ = some (.int .u64 (dg hi 1 : Nat)) := fun z => (N_hi.kept z.below).cell 1 (by decide)
    have G_hi2 : ∀ z : Ext w2, z.w.cell? ⟨w.heap.size, 2, none⟩ = some (.int .u64 (dg hi 2 : Nat)) := fun z => (N_hi.kept z.below).cell 2 (by decide)
    have G_hi3 : ∀ z : Ext w2, z.w.cell? ⟨w.heap.size, 3, none⟩ = some (.int .u64 (dg hi 3 : Nat)) := fun z => (N_hi.kept z.below).cell 3 (by decide)
    have G_lo0 : ∀ z : Ext w2, z.w.cell? ⟨w.heap.size + 1, 0, none⟩ = some (.int .u64 (dg lo 0 : Nat)) := fun z => (N_lo.kept z.below).cell 0 (by decide)
    have G_lo1 : ∀ z : Ext w2, z.w.cell? ⟨w.heap.size + 1, 1, none⟩ = some (.int .u64 (dg lo 1 : Nat)) := fun z => (N_lo.kept z.below).cell 1 (by decide)
    have G_lo2 : ∀ z : Ext w2, z.w.cell? ⟨w.heap.size + 1, 2, none⟩ = some (.int .u64 (dg lo 2 : Nat)) := fun z => (N_lo.kept z.below).cell 2 (by decide)
    have G_lo3 : ∀ z : Ext w2, z.w.cell? ⟨w.heap.size + 1, 3, none⟩ = some (.int .u64 (dg lo 3 : Nat)) := fun z => (N_lo.kept z.below).cell 3 (by decide)
    have G_m0 : ∀ z : Ext w2, z.w.cell? ⟨w.heap.size + 1 + 1, 0, none⟩ = some (.int .u64 (dg m 0 : Nat)) := fun z => (N_m.kept z.below).cell 0 (by decide)
    have G_m1 : ∀ z : Ext w2, z.w.cell? ⟨w.heap.size + 1 + 1, 1, none⟩ = some (.int .u64 (dg m 1 : Nat)) := fun z => (N_m.kept z.below).cell 1 (by decide)
    have G_m2 : ∀ z : Ext w2, z.w.cell? ⟨w.heap.size + 1 + 1, 2, none⟩ = some (.int .u64 (dg m 2 : Nat)) := fun z => (N_m.kept z.below).cell 2 (by decide)
    have G_m3 : ∀ z : Ext w2, z.w.cell? ⟨w.heap.size + 1 + 1, 3, none⟩ = some (.int .u64 (dg m 3 : Nat)) := fun z => (N_m.kept z.below).cell 3 (by decide)
    refine ext_region (by kernel_rfl) (by kernel_rfl) ?_
    repeat (go_big_quiet_step (fail))
    go_big_quiet_step ((refine (rmod_calls hi lo m BH.out BL.out BM.out HM.out _).mono ?_; rintro e wz ⟨rfl, hBz⟩; rw [← E_r.out]; rw [numV_eq r]; exact ⟨rfl, Ext.on _ hBz⟩))
    repeat (go_big_quiet_step (fail))
    go_big_quiet_step ((refine (cmp_calls r m B_r.out BM.out _).mono ?_; rintro e wz ⟨rfl, hBz⟩; rw [cmpI_lt (by rw [E_r.out]; exact Nat.mod_lt _ (Nat.pos_of_ne_zero HM.out))]; exact ⟨rfl, Ext.on _ hBz⟩))
    repeat (go_big_quiet_step (fail))
    go_big_quiet_step ((refine (wakes1_calls _).mono ?_; rintro e wz ⟨rfl, hBz⟩; exact ⟨rfl, Ext.on _ hBz⟩))
    repeat (go_big_quiet_step (fail))
    refine wpQuiet_nil ?_
    intro z
    clear G_r0 G_r1 G_r2 G_r3 G_hi0 G_hi1 G_hi2 G_hi3 G_lo0 G_lo1 G_lo2 G_lo3 G_m0 G_m1 G_m2 G_m3
    have M_hi := N_hi.kept z.below
    have M_lo := N_lo.kept z.below
    have M_m := N_m.kept z.below
    have M_r := N_r.kept z.below
    have hWw2x := hWw2.trans (z.below.mono hWw2.size)
    clear N_hi N_lo N_m N_r hWw2
    generalize z.w = w2x at *
    clear z
    have N_hi := M_hi
    have N_lo := M_lo
    have N_m := M_m
    have N_r := M_r
    clear M_hi M_lo M_m M_r
    go_wp2
    go_ret
    have zz := hWw2x.size
    refine ⟨rfl, ?_⟩
    repeat first | exact Below.refl _ _ | assumption | refine Below.drew ?_ | (refine Below.alloc ?_ (by (try simp) <;> omega) _)

set_option maxRecDepth 100000 in
theorem limbMods_lifted (os : Os) (started : os.Started) (H : Type) (enc : TypeId × Value → H) :
    ReturnsInHanded {} Try.checked os 3 .any (Rows.limbModsSpec.pre6 enc Try.prog Try.f3 Rows.limbModsRow.domain false) (Rows.limbModsSpec.post enc Try.prog Try.f3 false true false false) := by
  refine returnsInHanded_of_change (C := Try.checked) own started (by kernel_rfl) Try.func3
    (ChangeSpec.witness6 (enc := enc) (C := Try.checked) false ⟨#[], #[.agg #[.int .u64 0, .int .u64 0, .int .u64 0, .int .u64 0], .agg #[.int .u64 0, .int .u64 0, .int .u64 0, .int .u64 0], .agg #[.int .u64 0, .int .u64 0, .int .u64 0, .int .u64 0]], []⟩ 8 (by kernel_rfl) (by kernel_rfl) (by kernel_rfl) (by kernel_rfl)) ?_
  intro W base args ds gs before hval0 hW hcnd _
  have hval : ∀ (j : Nat) t v, Try.f3.params[j]? = some t → args[j]? = some v → Value.okWide Try.prog W .any base t v := hval0
  have hW' := hW
  obtain ⟨p, q, hA0, hV, rfl, hfz, hnd⟩ := hW
  have hA : DataW.TrodAll enc Try.prog W 0 (fun _ => true) true Try.f3.params.toList args.toList ds p := hA0
  rw [Try.params3] at hA hval
  obtain ⟨v0, vs0, d0, ds0, p0, q0, hargs, rfl, rfl, h0, r0⟩ := trodAll_cons hA
  obtain ⟨v1, vs1, d1, ds1, p1, q1, rfl, rfl, rfl, h1, r1⟩ := trodAll_cons r0
  obtain ⟨v2, vs2, d2, ds2, p2, q2, rfl, rfl, rfl, h2, r2⟩ := trodAll_cons r1
  obtain ⟨rfl, rfl, rfl⟩ := trodAll_nil r2
  obtain rfl : args = #[v0, v1, v2] := by cases args; simp_all
  obtain ⟨rfl, rfl⟩ := trodVars_none hV
  have k0 := h0
  have lt0 : ∀ x ∈ p0, x.block < W.heap.size := by obtain ⟨m, hm⟩ := k0; exact DataW.trod_lt m _ _ _ hm
  have k1 := h1
  have lt1 : ∀ x ∈ p1, x.block < W.heap.size := by obtain ⟨m, hm⟩ := k1; exact DataW.trod_lt m _ _ _ hm
  have k2 := h2
  have lt2 : ∀ x ∈ p2, x.block < W.heap.size := by obtain ⟨m, hm⟩ := k2; exact DataW.trod_lt m _ _ _ hm
  obtain ⟨hi, w_hi, rfl⟩ := open_num (hval 0 24 v0 rfl rfl) h0
  obtain ⟨lo, w_lo, rfl⟩ := open_num (hval 1 24 v1 rfl rfl) h1
  obtain ⟨m, w_m, rfl⟩ := open_num (hval 2 24 v2 rfl rfl) h2
  clear hA0 hval0
  refine (limbMods_walk hi lo m w_hi w_lo w_m W).mono fun e W' ⟨he, bel⟩ => ?_
  subst he
  exact ⟨_, rfl, _, _, _, [], _, [], hW', trodAll_mk1 (shut_bool Try.underlying4 _), (trodAll_cons_mk (Below.trod laidOut (by kernel_rfl) (of_decide_eq_true (by kernel_rfl)) k0 bel lt0) (trodAll_cons_mk (Below.trod laidOut (by kernel_rfl) (of_decide_eq_true (by kernel_rfl)) k1 bel lt1) (trodAll_cons_mk (Below.trod laidOut (by kernel_rfl) (of_decide_eq_true (by kernel_rfl)) k2 bel lt2) trodAll_mk0))), rfl, bel.frame _, fun h => by cases h⟩

theorem limbMods_holds : Rows.LimbModsSaid :=
  OpenClaim.holds_of_wide 3 Try.f3 rfl rfl rfl rfl rfl rfl rfl ⟨rfl, rfl, rfl, rfl, rfl⟩ rfl rfl rfl rfl rfl (by kernel_rfl) Try.func3 (by kernel_rfl)
    (of_decide_eq_true (by kernel_rfl)) (by unfold Func.isWrapper; first | (rw [if_pos (by decide +kernel)]; kernel_rfl) | (rw [if_neg (by decide +kernel)]; exact ⟨rfl, rfl⟩))
    (fun os started H enc _ => limbMods_lifted os started H enc)

end Go.Proofs.Ytmecomgifmkkfaa
