/- The page's moduli, and what is left, modulo either prime: what each call answers. -/
import Derived.Test.YtmecomgifmkkfaaProg
import Derived.Test.YtmecomgifmkkfaaNum
import Derived.Test.YtmecomgifmkkfaaBits
import Derived.Test.YtmecomgifmkkfaaMem
import Derived.Test.YtmecomgifmkkfaaOrd
import Derived.Test.YtmecomgifmkkfaaEqs
import Derived.Test.YtmecomgifmkkfaaLimbA
import Derived.Test.YtmecomgifmkkfaaLimbB
import Derived.Test.YtmecomgifmkkfaaLimbC
import Derived.Test.YtmecomgifmkkfaaLimbF
import Derived.Test.YtmecomgifmkkfaaLimbG
import Derived.Test.YtmecomgifmkkfaaLimbM
import Derived.Test.YtmecomgifmkkfaaLimbN
import Derived.Test.YtmecomgifmkkfaaLimbW
import Derived.WalkSpells
import Derived.WalkLawsBesides
import Derived.Handy
import Derived.Lib.Hide
import Derived.RegionTactic
import Derived.BigQuiet
import Derived.Deep.Cut
import Derived.Test.YtmecomgifmkkfaaFieldA
import Derived.Test.YtmecomgifmkkfaaOrdA
import Derived.Deep.LoopGhost
namespace Go.Proofs.Ytmecomgifmkkfaa
set_option linter.unusedVariables false
set_option linter.unusedSimpArgs false
open Go.RowKit

set_option maxHeartbeats 8000000 in
set_option maxRecDepth 100000 in
theorem rsmall0_calls (w : World) : Calls Try.prog 75 #[.int .i64 0] w fun e w' => e = .returned (numV 4294968273) ∧ Below w.heap.size w w' := by
  go_enter Try.func75, Try.ntmps75
  go_wp2
  refine bodyPost_ret (v := numV 4294968273) (results_cell_row rfl _ _ (w.heap.size) 24 (numC (4294968273)) (0, 0) _ rfl (by show NumAt _ _ _; exact (NumAt.newAt _ _ (4294968273) (by first | rfl | simp))) Try.underlying24 rfl (by unfold numC; kernel_rfl)) rfl ⟨rfl, ?_⟩
  repeat first | with_reducible exact Below.refl _ _ | with_reducible assumption | refine below_put ?_ (by omega) _ _ | with_reducible refine Below.drew ?_ | (refine Below.alloc ?_ (by (try simp) <;> omega) _)

set_option maxHeartbeats 8000000 in
set_option maxRecDepth 100000 in
theorem rsmall1_calls (w : World) : Calls Try.prog 75 #[.int .i64 1] w fun e w' => e = .returned (numV 432420386565659656852420866394968145599) ∧ Below w.heap.size w w' := by
  go_enter Try.func75, Try.ntmps75
  go_wp2
  refine bodyPost_ret (v := numV 432420386565659656852420866394968145599) (results_cell_row rfl _ _ (w.heap.size) 24 (numC (432420386565659656852420866394968145599)) (0, 0) _ rfl (by show NumAt _ _ _; exact (NumAt.newAt _ _ (432420386565659656852420866394968145599) (by first | rfl | simp))) Try.underlying24 rfl (by unfold numC; kernel_rfl)) rfl ⟨rfl, ?_⟩
  repeat first | with_reducible exact Below.refl _ _ | with_reducible assumption | refine below_put ?_ (by omega) _ _ | with_reducible refine Below.drew ?_ | (refine Below.alloc ?_ (by (try simp) <;> omega) _)

set_option maxHeartbeats 8000000 in
set_option maxRecDepth 100000 in
theorem rsmall_no (which : Int) (h : ¬ okW which) (w : World) : Calls Try.prog 75 #[.int .i64 which] w fun e w' => e = .returned (numV 4294968273) ∧ Below w.heap.size w w' := by
  have h1 : (which == 1) = false := beq_eq_false_iff_ne.2 (fun e => h (.inr e))
  clear h
  go_enter Try.func75, Try.ntmps75
  go_wp2
  refine bodyPost_ret (v := numV 4294968273) (results_cell_row rfl _ _ (w.heap.size) 24 (numC (4294968273)) (0, 0) _ rfl (by show NumAt _ _ _; exact (NumAt.newAt _ _ (4294968273) (by first | rfl | simp))) Try.underlying24 rfl (by unfold numC; kernel_rfl)) rfl ⟨rfl, ?_⟩
  repeat first | with_reducible exact Below.refl _ _ | with_reducible assumption | refine below_put ?_ (by omega) _ _ | with_reducible refine Below.drew ?_ | (refine Below.alloc ?_ (by (try simp) <;> omega) _)
theorem rsmall_ok (which : Int) (h : okW which) (w : World) : Calls Try.prog 75 #[.int .i64 which] w fun e w' => e = .returned (numV (lessW which)) ∧ Below w.heap.size w w' := by
  rcases h with rfl | rfl
  · exact rsmall0_calls w
  · exact rsmall1_calls w
theorem rok_yes (which : Int) (h : okW which) (w : World) : Calls Try.prog 77 #[.int .i64 which] w fun e w' => e = .returned (.bool true) ∧ Below w.heap.size w w' := by
  rcases h with rfl | rfl
  · go_enter Try.func77, Try.ntmps77
    go_wp2
    go_ret
    refine ⟨rfl, ?_⟩
    repeat first | with_reducible exact Below.refl _ _ | with_reducible assumption | refine below_put ?_ (by omega) _ _ | with_reducible refine Below.drew ?_ | (refine Below.alloc ?_ (by (try simp) <;> omega) _)
  · go_enter Try.func77, Try.ntmps77
    go_wp2
    go_ret
    refine ⟨rfl, ?_⟩
    repeat first | with_reducible exact Below.refl _ _ | with_reducible assumption | refine below_put ?_ (by omega) _ _ | with_reducible refine Below.drew ?_ | (refine Below.alloc ?_ (by (try simp) <;> omega) _)
theorem rok_no (which : Int) (h : ¬ okW which) (w : World) : Calls Try.prog 77 #[.int .i64 which] w fun e w' => e = .returned (.bool false) ∧ Below w.heap.size w w' := by
  have h0 : (which == 0) = false := beq_eq_false_iff_ne.2 (fun e => h (.inl e))
  have h1 : (which == 1) = false := beq_eq_false_iff_ne.2 (fun e => h (.inr e))
  clear h
  go_enter Try.func77, Try.ntmps77
  go_wp2
  go_ret
  refine ⟨rfl, ?_⟩
  repeat first | with_reducible exact Below.refl _ _ | with_reducible assumption | refine below_put ?_ (by omega) _ _ | with_reducible refine Below.drew ?_ | (refine Below.alloc ?_ (by (try simp) <;> omega) _)

set_option maxHeartbeats 8000000 in
set_option maxRecDepth 100000 in
theorem rprime0_calls (w : World) : Calls Try.prog 44 #[.int .i64 0] w fun e w' => e = .returned (numV (modW 0)) ∧ Below w.heap.size w w' := by
  have h : okW 0 := by unfold okW; decide
  have hl := lessW_ok h
  have H := Lib.hid h
  have B_c := Lib.hid hl.2.2.2
  have E : Hid ((0 + W256 - lessW 0) % W256 = modW 0) := by show _ = _; rw [Nat.zero_add, hl.1, Nat.mod_eq_of_lt (modW_lt _)]
  obtain ⟨c, hc⟩ : ∃ c, c = lessW 0 := ⟨_, rfl⟩
  rw [← hc] at B_c E
  have HP : Hid (0 < c) := by show _ < _; rw [hc]; exact hl.2.1
  obtain ⟨M, hM⟩ : ∃ M, M = modW 0 := ⟨_, rfl⟩
  rw [← hM] at E ⊢
  have E_c := Lib.hid hc
  clear h hl hc hM
  go_enter Try.func44, Try.ntmps44
  go_wp2_with fail
  refine (rsmall_ok 0 H.out _).mono ?_
  rintro e w1 ⟨rfl, hB1⟩
  rw [← E_c.out]
  rw [numV_eq c]
  have M_z := (NumAt.newAt _ (w.heap.size) 0 (by first | rfl | simp)).kept hB1
  have hWw1 : Below w.heap.size w w1 := ((Below.refl _ _).alloc (by (try simp) <;> omega) _).trans (hB1.mono (by (try simp) <;> omega))
  clear hB1
  have N_z := M_z
  clear M_z
  go_wp2_with fail
  refine (rsub_calls 0 c W256_pos B_c.out _).mono ?_
  rintro e w2 ⟨rfl, hB2⟩
  rw [E.out]
  rw [if_pos HP.out]
  rw [show ((1 : Nat) : Int) = 1 from rfl]
  rw [numV_eq M]
  have zw2 := hWw1.size
  have M_z := N_z.kept hB2
  have hWw2 : Below w.heap.size w w2 := hWw1.trans (hB2.mono (by (try simp) <;> omega))
  clear N_z hWw1 zw2 hB2
  have N_z := M_z
  clear M_z
  have F_z := N_z.facts; have L_z := N_z.lt
  have F_z := N_z.facts; have L_z := N_z.lt
  go_wp2
  refine bodyPost_ret (v := numV M) (results_cell_row rfl _ _ (w.heap.size) 24 (numC M) (0, 0) _ rfl (by show NumAt _ _ _; first | with_reducible exact N_z | with_reducible exact N_z.put _ | with_reducible exact (N_z.put _).alloc _ | with_reducible exact N_z.alloc _ | with_reducible exact (N_z.alloc _).put _ | with_reducible exact ((((N_z.other _ _ (by (try simp) <;> omega)).other _ _ (by (try simp) <;> omega)).other _ _ (by (try simp) <;> omega)).other _ _ (by (try simp) <;> omega)).put _ | exact (N_z.put M).alloc _) Try.underlying24 rfl (by unfold numC; kernel_rfl)) rfl ⟨rfl, ?_⟩
  have zz := hWw2.size
  repeat first | with_reducible exact Below.refl _ _ | with_reducible assumption | refine below_put ?_ (by omega) _ _ | with_reducible refine Below.drew ?_ | (refine Below.alloc ?_ (by (try simp) <;> omega) _)

set_option maxHeartbeats 8000000 in
set_option maxRecDepth 100000 in
theorem rprime1_calls (w : World) : Calls Try.prog 44 #[.int .i64 1] w fun e w' => e = .returned (numV (modW 1)) ∧ Below w.heap.size w w' := by
  have h : okW 1 := by unfold okW; decide
  have hl := lessW_ok h
  have H := Lib.hid h
  have B_c := Lib.hid hl.2.2.2
  have E : Hid ((0 + W256 - lessW 1) % W256 = modW 1) := by show _ = _; rw [Nat.zero_add, hl.1, Nat.mod_eq_of_lt (modW_lt _)]
  obtain ⟨c, hc⟩ : ∃ c, c = lessW 1 := ⟨_, rfl⟩
  rw [← hc] at B_c E
  have HP : Hid (0 < c) := by show _ < _; rw [hc]; exact hl.2.1
  obtain ⟨M, hM⟩ : ∃ M, M = modW 1 := ⟨_, rfl⟩
  rw [← hM] at E ⊢
  have E_c := Lib.hid hc
  clear h hl hc hM
  go_enter Try.func44, Try.ntmps44
  go_wp2_with fail
  refine (rsmall_ok 1 H.out _).mono ?_
  rintro e w1 ⟨rfl, hB1⟩
  rw [← E_c.out]
  rw [numV_eq c]
  have M_z := (NumAt.newAt _ (w.heap.size) 0 (by first | rfl | simp)).kept hB1
  have hWw1 : Below w.heap.size w w1 := ((Below.refl _ _).alloc (by (try simp) <;> omega) _).trans (hB1.mono (by (try simp) <;> omega))
  clear hB1
  have N_z := M_z
  clear M_z
  go_wp2_with fail
  refine (rsub_calls 0 c W256_pos B_c.out _).mono ?_
  rintro e w2 ⟨rfl, hB2⟩
  rw [E.out]
  rw [if_pos HP.out]
  rw [show ((1 : Nat) : Int) = 1 from rfl]
  rw [numV_eq M]
  have zw2 := hWw1.size
  have M_z := N_z.kept hB2
  have hWw2 : Below w.heap.size w w2 := hWw1.trans (hB2.mono (by (try simp) <;> omega))
  clear N_z hWw1 zw2 hB2
  have N_z := M_z
  clear M_z
  have F_z := N_z.facts; have L_z := N_z.lt
  have F_z := N_z.facts; have L_z := N_z.lt
  go_wp2
  refine bodyPost_ret (v := numV M) (results_cell_row rfl _ _ (w.heap.size) 24 (numC M) (0, 0) _ rfl (by show NumAt _ _ _; first | with_reducible exact N_z | with_reducible exact N_z.put _ | with_reducible exact (N_z.put _).alloc _ | with_reducible exact N_z.alloc _ | with_reducible exact (N_z.alloc _).put _ | with_reducible exact ((((N_z.other _ _ (by (try simp) <;> omega)).other _ _ (by (try simp) <;> omega)).other _ _ (by (try simp) <;> omega)).other _ _ (by (try simp) <;> omega)).put _ | exact (N_z.put M).alloc _) Try.underlying24 rfl (by unfold numC; kernel_rfl)) rfl ⟨rfl, ?_⟩
  have zz := hWw2.size
  repeat first | with_reducible exact Below.refl _ _ | with_reducible assumption | refine below_put ?_ (by omega) _ _ | with_reducible refine Below.drew ?_ | (refine Below.alloc ?_ (by (try simp) <;> omega) _)

set_option maxHeartbeats 8000000 in
set_option maxRecDepth 100000 in
theorem rprime_no (which : Int) (h : ¬ okW which) (w : World) : Calls Try.prog 44 #[.int .i64 which] w fun e w' => e = .returned (numV 0) ∧ Below w.heap.size w w' := by
  have h0 : (which == 0) = false := beq_eq_false_iff_ne.2 (fun e => h (.inl e))
  have h1 : (which == 1) = false := beq_eq_false_iff_ne.2 (fun e => h (.inr e))
  have n0 : (which != 0) = true := by simp [bne, h0]
  have n1 : (which != 1) = true := by simp [bne, h1]
  have H := Lib.hid h
  clear h
  obtain ⟨c, hc⟩ : ∃ c, c = 4294968273 := ⟨_, rfl⟩
  have B_c : Hid (c < W256) := by show _ < _; rw [hc]; decide
  have HP : Hid (0 < c) := by show _ < _; rw [hc]; decide
  have E_c := Lib.hid hc
  clear hc
  go_enter Try.func44, Try.ntmps44
  go_wp2_with fail
  refine (rsmall_no which H.out _).mono ?_
  rintro e w1 ⟨rfl, hB1⟩
  rw [← E_c.out]
  rw [numV_eq c]
  have M_z := (NumAt.newAt _ (w.heap.size) 0 (by first | rfl | simp)).kept hB1
  have hWw1 : Below w.heap.size w w1 := ((Below.refl _ _).alloc (by (try simp) <;> omega) _).trans (hB1.mono (by (try simp) <;> omega))
  clear hB1
  have N_z := M_z
  clear M_z
  go_wp2_with fail
  refine (rsub_calls 0 c W256_pos B_c.out _).mono ?_
  rintro e w2 ⟨rfl, hB2⟩
  rw [if_pos HP.out]
  rw [show ((1 : Nat) : Int) = 1 from rfl]
  obtain ⟨m, h_m⟩ : ∃ v, v = (0 + W256 - c) % W256 := ⟨_, rfl⟩
  rw [← h_m, numV_eq m]
  have E_m := Lib.hid h_m; clear h_m
  have B_m : Hid (m < W256) := by show _ < _; rw [E_m.out]; exact Nat.mod_lt _ W256_pos
  have zw2 := hWw1.size
  have M_z := N_z.kept hB2
  have hWw2 : Below w.heap.size w w2 := hWw1.trans (hB2.mono (by (try simp) <;> omega))
  clear N_z hWw1 zw2 hB2
  have N_z := M_z
  clear M_z
  have F_z := N_z.facts; have L_z := N_z.lt
  go_wp2
  refine bodyPost_ret (v := numV 0) (results_cell_row rfl _ _ (w.heap.size) 24 (numC 0) (0, 0) _ rfl (by show NumAt _ _ _; first | with_reducible exact (N_z.alloc _).put_zero | with_reducible exact N_z.put_zero | with_reducible exact N_z | with_reducible exact N_z.put _ | with_reducible exact (N_z.put _).alloc _ | with_reducible exact N_z.alloc _ | with_reducible exact (N_z.alloc _).put _ | with_reducible exact ((((N_z.other _ _ (by (try simp) <;> omega)).other _ _ (by (try simp) <;> omega)).other _ _ (by (try simp) <;> omega)).other _ _ (by (try simp) <;> omega)).put _ | exact (N_z.put 0).alloc _) Try.underlying24 rfl (by unfold numC; kernel_rfl)) rfl ⟨rfl, ?_⟩
  have zz := hWw2.size
  repeat first | with_reducible exact Below.refl _ _ | with_reducible assumption | refine below_put ?_ (by omega) _ _ | with_reducible refine Below.drew ?_ | (refine Below.alloc ?_ (by (try simp) <;> omega) _)

theorem rprime_ok (which : Int) (h : okW which) (w : World) : Calls Try.prog 44 #[.int .i64 which] w fun e w' => e = .returned (numV (modW which)) ∧ Below w.heap.size w w' := by
  rcases h with rfl | rfl
  · exact rprime0_calls w
  · exact rprime1_calls w

end Go.Proofs.Ytmecomgifmkkfaa
