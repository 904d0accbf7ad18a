/- The field's moduli: what 'less', 'Prime', 'fold' answer. -/
import Derived.Test.YtmecomgifmkkfaaProg
import Derived.Test.YtmecomgifmkkfaaNum
import Derived.Test.YtmecomgifmkkfaaBits
import Derived.Test.YtmecomgifmkkfaaMem
import Derived.Test.YtmecomgifmkkfaaOrd
import Derived.Test.YtmecomgifmkkfaaEqs
import Derived.Test.YtmecomgifmkkfaaLimbA
import Derived.Test.YtmecomgifmkkfaaLimbB
import Derived.Test.YtmecomgifmkkfaaLimbC
import Derived.Test.YtmecomgifmkkfaaLimbF
import Derived.Test.YtmecomgifmkkfaaLimbG
import Derived.Test.YtmecomgifmkkfaaLimbM
import Derived.Test.YtmecomgifmkkfaaLimbN
import Derived.Test.YtmecomgifmkkfaaLimbW
import Derived.WalkSpells
import Derived.WalkLawsBesides
import Derived.Handy
import Derived.Lib.Hide
import Derived.RegionTactic
import Derived.BigQuiet
import Derived.Deep.Cut
import Derived.Test.YtmecomgifmkkfaaPrime
import Derived.Deep.LoopGhost
namespace Go.Proofs.Ytmecomgifmkkfaa
set_option linter.unusedVariables false
set_option linter.unusedSimpArgs false
open Go.RowKit

/-- What a modulus is less than 2^256. -/
def lessW (which : Int) : Nat := if which = 0 then 4294968273 else 432420386565659656852420866394968145599
/-- A modulus; 0: there is none. -/
def modW (which : Int) : Nat := if which = 0 then primeP else if which = 1 then primeN else 0
def okW (which : Int) : Prop := which = 0 ∨ which = 1

theorem lessW_ok {which : Int} (h : okW which) : W256 - lessW which = modW which ∧ 0 < lessW which ∧ lessW which + lessW which < W256 ∧ lessW which < W256 := by
  rcases h with rfl | rfl <;> decide
theorem modW_lt (which : Int) : modW which < W256 := by
  unfold modW; split
  · decide
  · split <;> decide
theorem modW_pos {which : Int} (h : okW which) : 0 < modW which := by rcases h with rfl | rfl <;> decide
theorem modW_half {which : Int} (h : okW which) : W256 < modW which + modW which := by rcases h with rfl | rfl <;> decide
theorem modW_prime {which : Int} (h : okW which) : IsPrime (modW which) := by rcases h with rfl | rfl; exact primeP_prime; exact primeN_prime
theorem modW_no {which : Int} (h : ¬ okW which) : modW which = 0 := by
  unfold modW okW at *
  rw [if_neg (fun e => h (.inl e)), if_neg (fun e => h (.inr e))]
theorem lit0 : (Value.agg #[.int .u64 0, .int .u64 0, .int .u64 0, .int .u64 0]) = numV 0 := rfl

/-- What is folded stays the same, modulo the prime, and gets smaller. -/
theorem fold_step {hi lo c : Nat} (hc : c + c < W256) (hc0 : 0 < c) (hh : 0 < hi) (hhi : hi < W256) (hlo : lo < W256) :
    (hi * c / W256 + (lo + hi * c % W256) / W256) < W256 ∧ (hi * c / W256 + (lo + hi * c % W256) / W256) * W256 + (lo + hi * c % W256) % W256 = hi * c + lo ∧
    hi * c + lo < hi * W256 + lo ∧ (hi * c + lo) % (W256 - c) = (hi * W256 + lo) % (W256 - c) := by
  have hW : 0 < W256 := W256_pos
  have e1 := Nat.div_add_mod (hi * c) W256
  have e2 := Nat.div_add_mod (lo + hi * c % W256) W256
  have e3 : (hi * c / W256 + (lo + hi * c % W256) / W256) * W256 + (lo + hi * c % W256) % W256 = hi * c + lo := by
    rw [Nat.add_mul, Nat.mul_comm (hi * c / W256), Nat.mul_comm ((lo + hi * c % W256) / W256)]
    omega
  have h1 : hi * c < hi * W256 := Nat.mul_lt_mul_of_pos_left (by omega) hh
  have h2 : hi * c + hi * c ≤ hi * W256 := by rw [← Nat.mul_add]; exact Nat.mul_le_mul_left _ (by omega)
  refine ⟨?_, e3, by omega, ?_⟩
  · have h3 : hi * W256 ≤ W256 * W256 := Nat.mul_le_mul_right _ (by omega)
    generalize hi * c / W256 + (lo + hi * c % W256) / W256 = q at *
    rcases Nat.lt_or_ge q W256 with h | h
    · exact h
    · exfalso
      have h4 : W256 * W256 ≤ q * W256 := Nat.mul_le_mul_right _ h
      have h5 : hi ≤ W256 - 1 := by omega
      have h6 : hi * W256 ≤ (W256 - 1) * W256 := Nat.mul_le_mul_right _ h5
      rw [Nat.sub_mul, Nat.one_mul] at h6
      omega
  · have e4 : hi * W256 + lo = hi * c + lo + (W256 - c) * hi := by
      rw [Nat.sub_mul, Nat.mul_comm c hi, Nat.mul_comm W256 hi]; omega
    rw [e4, Nat.add_mul_mod_self_left]
theorem fold_end {lo c : Nat} (hc : c + c < W256) (hlo : lo < W256) : (W256 - c ≤ lo → (lo + W256 - (W256 - c)) % W256 = lo % (W256 - c)) ∧ (¬ W256 - c ≤ lo → lo = lo % (W256 - c)) := by
  constructor
  · intro h
    rw [Nat.mod_eq_sub_mod h, Nat.mod_eq_of_lt (a := lo - (W256 - c)) (by omega), show lo + W256 - (W256 - c) = (lo - (W256 - c)) + W256 by omega, Nat.add_mod_right, Nat.mod_eq_of_lt (by omega)]
  · intro h
    rw [Nat.mod_eq_of_lt (by omega)]

set_option maxHeartbeats 1000000 in
set_option maxRecDepth 100000 in
theorem less0_calls (w : World) : Calls Try.prog 74 #[.int .i64 0] w fun e w' => e = .returned (.tuple #[numV 4294968273, .bool true]) ∧ Below w.heap.size w w' := by
  go_enter Try.func74, Try.ntmps74
  go_wp2
  refine bodyPost_ret (v := .tuple #[numV 4294968273, .bool true]) (by rw [show numV 4294968273 = .agg #[.int .u64 4294968273, .int .u64 0, .int .u64 0, .int .u64 0] from by kernel_rfl]; simp [results, Try.results74, go_sem]) rfl ⟨rfl, ?_⟩
  repeat first | with_reducible exact Below.refl _ _ | with_reducible assumption | refine below_put ?_ (by omega) _ _ | with_reducible refine Below.drew ?_ | (refine Below.alloc ?_ (by (try simp) <;> omega) _)

set_option maxHeartbeats 1000000 in
set_option maxRecDepth 100000 in
theorem less1_calls (w : World) : Calls Try.prog 74 #[.int .i64 1] w fun e w' => e = .returned (.tuple #[numV 432420386565659656852420866394968145599, .bool true]) ∧ Below w.heap.size w w' := by
  go_enter Try.func74, Try.ntmps74
  go_wp2
  refine bodyPost_ret (v := .tuple #[numV 432420386565659656852420866394968145599, .bool true]) (by rw [show numV 432420386565659656852420866394968145599 = .agg #[.int .u64 4624529908474429119, .int .u64 4994812053365940164, .int .u64 1, .int .u64 0] from by kernel_rfl]; simp [results, Try.results74, go_sem]) rfl ⟨rfl, ?_⟩
  repeat first | with_reducible exact Below.refl _ _ | with_reducible assumption | refine below_put ?_ (by omega) _ _ | with_reducible refine Below.drew ?_ | (refine Below.alloc ?_ (by (try simp) <;> omega) _)

set_option maxHeartbeats 1000000 in
set_option maxRecDepth 100000 in
theorem less_no (which : Int) (h : ¬ okW which) (w : World) : Calls Try.prog 74 #[.int .i64 which] w fun e w' => e = .returned (.tuple #[numV 0, .bool false]) ∧ Below w.heap.size w w' := by
  have h0 : (which == 0) = false := beq_eq_false_iff_ne.2 (fun e => h (.inl e))
  have h1 : (which == 1) = false := beq_eq_false_iff_ne.2 (fun e => h (.inr e))
  clear h
  go_enter Try.func74, Try.ntmps74
  go_wp2
  refine bodyPost_ret (v := .tuple #[numV 0, .bool false]) (by rw [← lit0]; simp [results, Try.results74, go_sem]) rfl ⟨rfl, ?_⟩
  repeat first | with_reducible exact Below.refl _ _ | with_reducible assumption | refine below_put ?_ (by omega) _ _ | with_reducible refine Below.drew ?_ | (refine Below.alloc ?_ (by (try simp) <;> omega) _)

theorem less_ok (which : Int) (h : okW which) (w : World) : Calls Try.prog 74 #[.int .i64 which] w fun e w' => e = .returned (.tuple #[numV (lessW which), .bool true]) ∧ Below w.heap.size w w' := by
  rcases h with rfl | rfl
  · exact less0_calls w
  · exact less1_calls w

set_option maxHeartbeats 1000000 in
set_option maxRecDepth 100000 in
theorem prime_ok (which : Int) (h : okW which) (w : World) : Calls Try.prog 43 #[.int .i64 which] w fun e w' => e = .returned (numV (modW which)) ∧ Below w.heap.size w w' := by
  have hl := lessW_ok h
  have H := Lib.hid h
  have B_c := Lib.hid hl.2.2.2
  have E : Hid ((0 + W256 - lessW which) % W256 = modW which) := by show _ = _; rw [Nat.zero_add, hl.1, Nat.mod_eq_of_lt (modW_lt _)]
  have HP := Lib.hid hl.2.1
  clear h hl
  go_enter Try.func43, Try.ntmps43
  go_wp2_with fail
  refine (less_ok which H.out _).mono ?_
  rintro e w1 ⟨rfl, hB1⟩
  rw [numV_eq (lessW which)]
  have M_z := (NumAt.newAt _ (w.heap.size) 0 (by first | rfl | simp)).kept hB1
  have hWw1 : Below w.heap.size w w1 := ((Below.refl _ _).alloc (by (try simp) <;> omega) _).trans (hB1.mono (by (try simp) <;> omega))
  clear hB1
  have N_z := M_z
  clear M_z
  go_wp2_with fail
  refine (sub_calls 0 (lessW which) W256_pos B_c.out _).mono ?_
  rintro e w2 ⟨rfl, hB2⟩
  rw [E.out]
  rw [if_pos HP.out]
  rw [show ((1 : Nat) : Int) = 1 from rfl]
  rw [numV_eq (modW which)]
  have zw2 := hWw1.size
  have M_z := (N_z.alloc _).kept hB2
  have M_c := (NumAt.newAt _ (w1.heap.size) (lessW which) (by first | rfl | simp)).kept hB2
  have hWw2 : Below w.heap.size w w2 := (hWw1.alloc (by (try simp) <;> omega) _).trans (hB2.mono (by (try simp) <;> omega))
  clear N_z hWw1 zw2 hB2
  have N_z := M_z
  have N_c := M_c
  clear M_z M_c
  have F_z := N_z.facts; have L_z := N_z.lt
  go_wp2
  refine bodyPost_ret (v := numV (modW which)) (results_cell_row rfl _ _ (w.heap.size) 24 (numC (modW which)) (0, 0) _ rfl (by show NumAt _ _ _; first | with_reducible exact N_z | with_reducible exact N_z.put _ | with_reducible exact (N_z.put _).alloc _ | with_reducible exact N_z.alloc _ | with_reducible exact (N_z.alloc _).put _ | with_reducible exact ((((N_z.other _ _ (by (try simp) <;> omega)).other _ _ (by (try simp) <;> omega)).other _ _ (by (try simp) <;> omega)).other _ _ (by (try simp) <;> omega)).put _ | exact (N_z.put (modW which)).alloc _) Try.underlying24 rfl (by unfold numC; kernel_rfl)) rfl ⟨rfl, ?_⟩
  have zz := hWw2.size
  repeat first | with_reducible exact Below.refl _ _ | with_reducible assumption | refine below_put ?_ (by omega) _ _ | with_reducible refine Below.drew ?_ | (refine Below.alloc ?_ (by (try simp) <;> omega) _)

set_option maxHeartbeats 1000000 in
set_option maxRecDepth 100000 in
theorem prime_no (which : Int) (h : ¬ okW which) (w : World) : Calls Try.prog 43 #[.int .i64 which] w fun e w' => e = .returned (numV 0) ∧ Below w.heap.size w w' := by
  have H := Lib.hid h
  clear h
  go_enter Try.func43, Try.ntmps43
  go_wp2_with fail
  refine (less_no which H.out _).mono ?_
  rintro e w1 ⟨rfl, hB1⟩
  rw [numV_eq 0]
  have M_z := (NumAt.newAt _ (w.heap.size) 0 (by first | rfl | simp)).kept hB1
  have hWw1 : Below w.heap.size w w1 := ((Below.refl _ _).alloc (by (try simp) <;> omega) _).trans (hB1.mono (by (try simp) <;> omega))
  clear hB1
  have N_z := M_z
  clear M_z
  have F_z := N_z.facts; have L_z := N_z.lt
  go_wp2
  refine bodyPost_ret (v := numV 0) (results_cell_row rfl _ _ (w.heap.size) 24 (numC 0) (0, 0) _ rfl (by show NumAt _ _ _; first | with_reducible exact (N_z.alloc _).put_zero | with_reducible exact N_z.put_zero | with_reducible exact N_z | with_reducible exact N_z.put _ | with_reducible exact (N_z.put _).alloc _ | with_reducible exact N_z.alloc _ | with_reducible exact (N_z.alloc _).put _ | with_reducible exact ((((N_z.other _ _ (by (try simp) <;> omega)).other _ _ (by (try simp) <;> omega)).other _ _ (by (try simp) <;> omega)).other _ _ (by (try simp) <;> omega)).put _ | exact (N_z.put 0).alloc _) Try.underlying24 rfl (by unfold numC; kernel_rfl)) rfl ⟨rfl, ?_⟩
  have zz := hWw1.size
  repeat first | with_reducible exact Below.refl _ _ | with_reducible assumption | refine below_put ?_ (by omega) _ _ | with_reducible refine Below.drew ?_ | (refine Below.alloc ?_ (by (try simp) <;> omega) _)

/-- What holds where 'fold' goes round: V is what is folded. -/
def FoldAt (w : World) (c r k : Nat) (w' : World) : Prop :=
  ∃ lo hi, lo < W256 ∧ hi < W256 ∧ k = hi * W256 + lo ∧ (hi * W256 + lo) % (W256 - c) = r ∧ Below w.heap.size w w' ∧ NumAt w' w.heap.size lo ∧ NumAt w' (w.heap.size + 1) hi ∧ NumAt w' (w.heap.size + 1 + 1) c ∧ NumAt w' (w.heap.size + 1 + 1 + 1) 0

set_option maxHeartbeats 4000000 in
set_option maxRecDepth 100000 in
theorem fold_calls (lo hi c : Nat) (hlo : lo < W256) (hhi : hi < W256) (hc : c + c < W256) (hc0 : 0 < c) (w : World) :
    Calls Try.prog 76 #[numV lo, numV hi, numV c] w fun e w' => e = .returned (numV ((hi * W256 + lo) % (W256 - c))) ∧ Below w.heap.size w w' := by
  have hg := eqGuard_num
  have B_lo := Lib.hid hlo; have B_hi := Lib.hid hhi; have HC := Lib.hid hc; have HC0 := Lib.hid hc0
  have B_c : Hid (c < W256) := by show _ < _; omega
  have B_m : Hid (W256 - c < W256) := by show _ < _; have := W256_pos; omega
  have E_m : Hid ((0 + W256 - c) % W256 = W256 - c) := by show _ = _; rw [Nat.zero_add, Nat.mod_eq_of_lt B_m.out]
  obtain ⟨M, hM⟩ : ∃ M, M = W256 - c := ⟨_, rfl⟩
  have E_M := Lib.hid hM
  have B_M : Hid (M < W256) := by show _ < _; rw [E_M.out]; exact B_m.out
  clear hlo hhi hc hc0 hM
  rw [numV_eq lo, numV_eq hi, numV_eq c]
  go_enter Try.func76, Try.ntmps76
  go_wp2
  generalize hV : (hi * W256 + lo) % (W256 - c) = V
  have HV := Lib.hid hV
  clear hV
  go_loopg [9] (hi * W256 + lo) (fun k _ wr => FoldAt w c V k wr)
  case atStart =>
    refine ⟨lo, hi, B_lo.out, B_hi.out, rfl, HV.out, ?_, ?_, ?_, ?_, ?_⟩
    · repeat first | exact Below.refl _ _ | assumption | refine Below.drew ?_ | (refine Below.alloc ?_ (by (try simp) <;> omega) _)
    · exact (((NumAt.newAt _ _ lo rfl).alloc _).alloc _).alloc _
    · exact ((NumAt.newAt _ _ hi (by simp)).alloc _).alloc _
    · exact (NumAt.newAt _ _ c (by simp)).alloc _
    · exact NumAt.newAt _ _ 0 (by simp)
  case round =>
    clear B_lo B_hi
    obtain ⟨lo, hi, hlo, hhi, rfl, hr, hB, N_lo, N_hi, N_c, N_z⟩ := hrel
    have B_lo := Lib.hid hlo; have B_hi := Lib.hid hhi
    by_cases h0 : hi = 0
    · subst h0
      rw [Nat.zero_mul, Nat.zero_add, ← E_M.out] at hr
      have HR := Lib.hid hr
      clear hr hlo hhi
      have hE := fun w => eq_num_zero (a := 0) (by decide) w
      simp only [decide_true] at hE
      have F_hi := N_hi.facts; have L_hi := N_hi.lt
      have L1_hi : w.heap.size < wr.heap.size := by omega
      have F_c := N_c.facts; have L_c := N_c.lt
      have L1_c : w.heap.size + 1 < wr.heap.size := by omega
      have L2_c : w.heap.size < wr.heap.size := by omega
      go_wp2_with fail
      refine (sub_calls 0 c W256_pos B_c.out _).mono ?_
      rintro e w1 ⟨rfl, hB1⟩
      rw [E_m.out]
      rw [← E_M.out]
      rw [if_pos HC0.out]
      rw [show ((1 : Nat) : Int) = 1 from rfl]
      rw [numV_eq M]
      clear F_hi L_hi L1_hi F_c L_c L1_c L2_c
      have zw1 := hB.size
      have M_lo := N_lo.kept hB1
      have M_hi := N_hi.kept hB1
      have M_c := N_c.kept hB1
      have M_z := N_z.kept hB1
      have hWw1 : Below w.heap.size w w1 := hB.trans (hB1.mono (by (try simp) <;> omega))
      clear N_lo N_hi N_c N_z hB zw1 hB1
      have N_lo := M_lo
      have N_hi := M_hi
      have N_c := M_c
      have N_z := M_z
      clear M_lo M_hi M_c M_z
      by_cases hm : M ≤ lo
      · have hcm : 0 ≤ cmpI lo M := by unfold cmpI; rw [if_neg (by omega)]; split <;> omega
        have E' := (fold_end HC.out B_lo.out).1 (by rw [← E_M.out]; exact hm)
        rw [← E_M.out] at E'
        have E := Lib.hid E'
        have HM := Lib.hid hm
        clear E'
        clear hm
        have F_lo := N_lo.facts; have L_lo := N_lo.lt
        go_wp2_with fail
        refine (cmp_calls lo M B_lo.out B_M.out _).mono ?_
        rintro e w2 ⟨rfl, hB2⟩
        clear F_lo L_lo
        have zw2 := hWw1.size
        have M_lo := (N_lo.alloc _).kept hB2
        have M_hi := (N_hi.alloc _).kept hB2
        have M_c := (N_c.alloc _).kept hB2
        have M_z := (N_z.alloc _).kept hB2
        have M_m := (NumAt.newAt _ (w1.heap.size) M (by first | rfl | simp)).kept hB2
        have hWw2 : Below w.heap.size w w2 := (hWw1.alloc (by (try simp) <;> omega) _).trans (hB2.mono (by (try simp) <;> omega))
        clear N_lo N_hi N_c N_z hWw1 zw2 hB2
        have N_lo := M_lo
        have N_hi := M_hi
        have N_c := M_c
        have N_z := M_z
        have N_m := M_m
        clear M_lo M_hi M_c M_z M_m
        have F_lo := N_lo.facts; have L_lo := N_lo.lt
        have F_m := N_m.facts; have L_m := N_m.lt
        go_wp2_with fail
        refine (sub_calls lo M B_lo.out B_M.out _).mono ?_
        rintro e w3 ⟨rfl, hB3⟩
        rw [E.out]
        rw [HR.out]
        rw [if_neg (by have := HM.out; omega)]
        rw [numV_eq V]
        clear F_lo L_lo F_m L_m
        have zw3 := hWw2.size
        have M_lo := N_lo.kept hB3
        have M_hi := N_hi.kept hB3
        have M_c := N_c.kept hB3
        have M_z := N_z.kept hB3
        have M_m := N_m.kept hB3
        have hWw3 : Below w.heap.size w w3 := hWw2.trans (hB3.mono (by (try simp) <;> omega))
        clear N_lo N_hi N_c N_z N_m hWw2 zw3 hB3
        have N_lo := M_lo
        have N_hi := M_hi
        have N_c := M_c
        have N_z := M_z
        have N_m := M_m
        clear M_lo M_hi M_c M_z M_m
        have F_z := N_z.facts; have L_z := N_z.lt
        have L1_z : w.heap.size + 1 + 1 < w3.heap.size := by omega
        have L2_z : w.heap.size + 1 < w3.heap.size := by omega
        have L3_z : w.heap.size < w3.heap.size := by omega
        have F_lo := N_lo.facts; have L_lo := N_lo.lt
        go_wp2
        refine bodyPost_ret (v := numV V) (results_cell_row rfl _ _ (w.heap.size + 1 + 1 + 1) 24 (numC V) (0, 0) _ rfl (by show NumAt _ _ _; first | with_reducible exact N_z | with_reducible exact N_z.put _ | with_reducible exact (N_z.put _).alloc _ | with_reducible exact N_z.alloc _ | with_reducible exact (N_z.alloc _).put _ | with_reducible exact ((((N_z.other _ _ (by (try simp) <;> omega)).other _ _ (by (try simp) <;> omega)).other _ _ (by (try simp) <;> omega)).other _ _ (by (try simp) <;> omega)).put _ | exact (N_z.put V).alloc _) Try.underlying24 rfl (by unfold numC; kernel_rfl)) rfl ⟨by rw [HV.out], ?_⟩
        have zz := hWw3.size
        repeat first | with_reducible exact Below.refl _ _ | with_reducible assumption | refine below_put ?_ (by omega) _ _ | with_reducible refine Below.drew ?_ | (refine Below.alloc ?_ (by (try simp) <;> omega) _)
      · have hcm : cmpI lo M < 0 := by unfold cmpI; rw [if_pos (by omega)]; omega
        have E' := (fold_end HC.out B_lo.out).2 (by rw [← E_M.out]; exact hm)
        rw [← E_M.out] at E'
        have E := Lib.hid E'
        clear E'
        clear hm
        have F_lo := N_lo.facts; have L_lo := N_lo.lt
        go_wp2_with fail
        refine (cmp_calls lo M B_lo.out B_M.out _).mono ?_
        rintro e w2 ⟨rfl, hB2⟩
        clear F_lo L_lo
        have zw2 := hWw1.size
        have M_lo := (N_lo.alloc _).kept hB2
        have M_hi := (N_hi.alloc _).kept hB2
        have M_c := (N_c.alloc _).kept hB2
        have M_z := (N_z.alloc _).kept hB2
        have M_m := (NumAt.newAt _ (w1.heap.size) M (by first | rfl | simp)).kept hB2
        have hWw2 : Below w.heap.size w w2 := (hWw1.alloc (by (try simp) <;> omega) _).trans (hB2.mono (by (try simp) <;> omega))
        clear N_lo N_hi N_c N_z hWw1 zw2 hB2
        have N_lo := M_lo
        have N_hi := M_hi
        have N_c := M_c
        have N_z := M_z
        have N_m := M_m
        clear M_lo M_hi M_c M_z M_m
        have EV := E.out.trans HR.out
        rw [EV] at N_lo
        clear EV
        have F_z := N_z.facts; have L_z := N_z.lt
        have L1_z : w.heap.size + 1 + 1 < w2.heap.size := by omega
        have L2_z : w.heap.size + 1 < w2.heap.size := by omega
        have L3_z : w.heap.size < w2.heap.size := by omega
        have F_lo := N_lo.facts; have L_lo := N_lo.lt
        go_wp2
        refine bodyPost_ret (v := numV V) (results_cell_row rfl _ _ (w.heap.size + 1 + 1 + 1) 24 (numC V) (0, 0) _ rfl (by show NumAt _ _ _; first | with_reducible exact N_z | with_reducible exact N_z.put _ | with_reducible exact (N_z.put _).alloc _ | with_reducible exact N_z.alloc _ | with_reducible exact (N_z.alloc _).put _ | with_reducible exact ((((N_z.other _ _ (by (try simp) <;> omega)).other _ _ (by (try simp) <;> omega)).other _ _ (by (try simp) <;> omega)).other _ _ (by (try simp) <;> omega)).put _ | exact (N_z.put V).alloc _) Try.underlying24 rfl (by unfold numC; kernel_rfl)) rfl ⟨by rw [HV.out], ?_⟩
        have zz := hWw2.size
        repeat first | with_reducible exact Below.refl _ _ | with_reducible assumption | refine below_put ?_ (by omega) _ _ | with_reducible refine Below.drew ?_ | (refine Below.alloc ?_ (by (try simp) <;> omega) _)
    · have hne : hi ≠ 0 := h0
      have hE := fun w => eq_num_zero hhi w
      have hd : decide (hi = 0) = false := decide_eq_false hne
      simp only [hd] at hE
      have FS := Lib.hid (fold_step HC.out HC0.out (Nat.pos_of_ne_zero hne) hhi hlo)
      have HR := Lib.hid hr
      clear hr hlo hhi h0 hne hd
      have F_hi := N_hi.facts; have L_hi := N_hi.lt
      have L1_hi : w.heap.size < wr.heap.size := by omega
      have F_c := N_c.facts; have L_c := N_c.lt
      have L1_c : w.heap.size + 1 < wr.heap.size := by omega
      have L2_c : w.heap.size < wr.heap.size := by omega
      go_wp2_with fail
      refine (mul_calls hi c B_hi.out B_c.out _).mono ?_
      rintro e w1 ⟨rfl, hB1⟩
      obtain ⟨l, h_l⟩ : ∃ v, v = hi * c % W256 := ⟨_, rfl⟩
      rw [← h_l, numV_eq l]
      have E_l := Lib.hid h_l; clear h_l
      have B_l : Hid (l < W256) := by show _ < _; rw [E_l.out]; exact Nat.mod_lt _ W256_pos
      obtain ⟨h, h_h⟩ : ∃ v, v = hi * c / W256 := ⟨_, rfl⟩
      rw [← h_h, numV_eq h]
      have E_h := Lib.hid h_h; clear h_h
      have B_h : Hid (h < W256) := by show _ < _; rw [E_h.out]; exact mul_hi B_hi.out B_c.out
      clear F_hi L_hi L1_hi F_c L_c L1_c L2_c
      have zw1 := hB.size
      have M_lo := N_lo.kept hB1
      have M_hi := N_hi.kept hB1
      have M_c := N_c.kept hB1
      have M_z := N_z.kept hB1
      have hWw1 : Below w.heap.size w w1 := hB.trans (hB1.mono (by (try simp) <;> omega))
      clear N_lo N_hi N_c N_z hB zw1 hB1
      have N_lo := M_lo
      have N_hi := M_hi
      have N_c := M_c
      have N_z := M_z
      clear M_lo M_hi M_c M_z
      have Y_lo := N_lo.lt
      have F_lo := N_lo.facts; have L_lo := N_lo.lt
      obtain ⟨x, hx, hx1⟩ : ∃ x : Nat, x = (lo + l) / W256 ∧ x ≤ 1 := ⟨_, rfl, by have := B_lo.out; have := B_l.out; unfold W256 at *; omega⟩
      have E_x := Lib.hid hx; clear hx
      have hcn : Value.agg #[.int .u64 (x : Int), .int .u64 0, .int .u64 0, .int .u64 0] = numV x := numV_of (a := x) (b := 0) (c := 0) (d := 0) (by omega) (by decide) (by decide) (by decide) (by omega)
      have HX := Lib.hid hcn; clear hcn
      have B_x : Hid (x < W256) := by show _ < _; unfold W256; omega
      go_wp2_with fail
      refine (add_calls lo l B_lo.out B_l.out _).mono ?_
      rintro e w2 ⟨rfl, hB2⟩
      rw [← E_x.out]
      obtain ⟨s, h_s⟩ : ∃ v, v = (lo + l) % W256 := ⟨_, rfl⟩
      rw [← h_s, numV_eq s]
      have E_s := Lib.hid h_s; clear h_s
      have B_s : Hid (s < W256) := by show _ < _; rw [E_s.out]; exact Nat.mod_lt _ W256_pos
      clear F_lo L_lo
      have zw2 := hWw1.size
      have M_lo := ((N_lo.alloc _).alloc _).kept hB2
      have M_hi := ((N_hi.alloc _).alloc _).kept hB2
      have M_c := ((N_c.alloc _).alloc _).kept hB2
      have M_z := ((N_z.alloc _).alloc _).kept hB2
      have M_l := ((NumAt.newAt _ (w1.heap.size) l (by first | rfl | simp)).alloc _).kept hB2
      have M_h := (NumAt.newAt _ (w1.heap.size + 1) h (by first | rfl | simp)).kept hB2
      have hWw2 : Below w.heap.size w w2 := ((hWw1.alloc (by (try simp) <;> omega) _).alloc (by (try simp) <;> omega) _).trans (hB2.mono (by (try simp) <;> omega))
      clear N_lo N_hi N_c N_z hWw1 zw2 hB2
      have N_lo := M_lo
      have N_hi := M_hi
      have N_c := M_c
      have N_z := M_z
      have N_l := M_l
      have N_h := M_h
      clear M_lo M_hi M_c M_z M_l M_h
      have F_lo := N_lo.facts; have L_lo := N_lo.lt
      have F_h := N_h.facts; have L_h := N_h.lt
      have L1_h : w1.heap.size < w2.heap.size := by omega
      go_wp2_with fail
      rw [HX.out]
      refine (add_calls h x B_h.out B_x.out _).mono ?_
      rintro e w3 ⟨rfl, hB3⟩
      have hq : (h + x) % W256 = h + x := by rw [E_h.out, E_x.out, E_l.out]; exact Nat.mod_eq_of_lt FS.out.1
      rw [hq, numV_eq (h + x)]
      clear hq
      clear F_lo L_lo F_h L_h L1_h
      have zw3 := hWw2.size
      have M_lo := (N_lo.put s).kept hB3
      have M_hi := ((((N_hi.other _ _ (by (try simp) <;> omega)).other _ _ (by (try simp) <;> omega)).other _ _ (by (try simp) <;> omega)).other _ _ (by (try simp) <;> omega)).kept hB3
      have M_c := ((((N_c.other _ _ (by (try simp) <;> omega)).other _ _ (by (try simp) <;> omega)).other _ _ (by (try simp) <;> omega)).other _ _ (by (try simp) <;> omega)).kept hB3
      have M_z := ((((N_z.other _ _ (by (try simp) <;> omega)).other _ _ (by (try simp) <;> omega)).other _ _ (by (try simp) <;> omega)).other _ _ (by (try simp) <;> omega)).kept hB3
      have M_l := ((((N_l.other _ _ (by (try simp) <;> omega)).other _ _ (by (try simp) <;> omega)).other _ _ (by (try simp) <;> omega)).other _ _ (by (try simp) <;> omega)).kept hB3
      have M_h := ((((N_h.other _ _ (by (try simp) <;> omega)).other _ _ (by (try simp) <;> omega)).other _ _ (by (try simp) <;> omega)).other _ _ (by (try simp) <;> omega)).kept hB3
      have hWw3 : Below w.heap.size w w3 := (below_put (below_put (below_put (below_put hWw2 (by omega) _ _) (by omega) _ _) (by omega) _ _) (by omega) _ _).trans (hB3.mono (by (try simp) <;> omega))
      clear N_lo N_hi N_c N_z N_l N_h hWw2 zw3 hB3
      have N_lo := M_lo
      have N_hi := M_hi
      have N_c := M_c
      have N_z := M_z
      have N_l := M_l
      have N_h := M_h
      clear M_lo M_hi M_c M_z M_l M_h
      have F_hi := N_hi.facts; have L_hi := N_hi.lt
      have L1_hi : w.heap.size < w3.heap.size := by omega
      go_wp2
      have zz := hWw3.size
      have L_lo := N_lo.lt; have L_c := N_c.lt; have L_z := N_z.lt
      have fs := FS.out
      have e1 : (h + x) * W256 + s = hi * c + lo := by rw [E_s.out, E_h.out, E_x.out, E_l.out]; exact fs.2.1
      go_roundg (hi * c + lo)
      case measure => exact fs.2.2.1
      case rel =>
        refine ⟨s, h + x, B_s.out, by rw [E_h.out, E_x.out, E_l.out]; exact fs.1, e1.symm, by rw [e1, fs.2.2.2]; exact HR.out, (below_put (below_put (below_put (below_put hWw3 (by omega) _ _) (by omega) _ _) (by omega) _ _) (by omega) _ _), ((((N_lo.other _ _ (by (try simp) <;> omega)).other _ _ (by (try simp) <;> omega)).other _ _ (by (try simp) <;> omega)).other _ _ (by (try simp) <;> omega)), (N_hi.put (h + x)), ((((N_c.other _ _ (by (try simp) <;> omega)).other _ _ (by (try simp) <;> omega)).other _ _ (by (try simp) <;> omega)).other _ _ (by (try simp) <;> omega)), ((((N_z.other _ _ (by (try simp) <;> omega)).other _ _ (by (try simp) <;> omega)).other _ _ (by (try simp) <;> omega)).other _ _ (by (try simp) <;> omega))⟩

end Go.Proofs.Ytmecomgifmkkfaa
