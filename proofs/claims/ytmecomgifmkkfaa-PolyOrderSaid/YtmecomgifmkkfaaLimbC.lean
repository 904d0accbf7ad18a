/- Bits and lengths of numbers of 256 bits, by the program and by the page: what each call answers. -/
import Derived.Test.YtmecomgifmkkfaaProg
import Derived.Test.YtmecomgifmkkfaaNum
import Derived.Test.YtmecomgifmkkfaaShelf
import Derived.Test.YtmecomgifmkkfaaLimbA
import Derived.Test.YtmecomgifmkkfaaEqs
import Derived.WalkSpells
import Derived.WalkLawsBesides
import Derived.Handy
import Derived.Lib.Hide
import Derived.RegionTactic
import Derived.ChangeAlike
import Derived.BigRegion
import Derived.BigQuiet
import Derived.Test.YtmecomgifmkkfaaBits
import Derived.WalkSmall
namespace Go.Proofs.Ytmecomgifmkkfaa
set_option linter.unusedVariables false
set_option linter.unusedSimpArgs false
open Go.RowKit

theorem bit_end (d : Nat) (j : Int) (hd : d < 18446744073709551616) (h0 : 0 ≤ j) : wrap64 (bits BinOp.and IntKind.u64 ((d : Int) / 2 ^ j.toNat) 1) = ((d / 2 ^ j.toNat % 2 : Nat) : Int) := by
  have h : ((d : Int) / 2 ^ j.toNat) = ((d / 2 ^ j.toNat : Nat) : Int) := by simp
  rw [h]
  have h1 : d / 2 ^ j.toNat ≤ d := Nat.div_le_self _ _
  generalize d / 2 ^ j.toNat = q at *
  rw [and_one_u64 _ (by omega) (by omega)]
  unfold wrap64
  omega

set_option maxHeartbeats 1000000 in
theorem bit_digit0 (a0 a1 a2 a3 : Nat) (i : Int) (w : World) (h0 : 0 ≤ i) (h1 : i < 256) (hq : i / 64 = 0) (hr0 : 0 ≤ i % 64) (hr1 : i % 64 ≤ 63) (ha : a0 < 18446744073709551616) :
    Calls Try.prog 36 #[.agg #[.int .u64 (a0 : Int), .int .u64 (a1 : Int), .int .u64 (a2 : Int), .int .u64 (a3 : Int)], .int .i64 i] w
      fun e w' => e = .returned (.int .i64 ((a0 / 2 ^ (i % 64).toNat % 2 : Nat) : Int)) ∧ Below w.heap.size w w' := by
  go_enter Try.func36, Try.ntmps36
  go_wp2
  go_ret
  refine ⟨ret_int (bit_end _ _ ha hr0), ?_⟩
  repeat first | exact Below.refl _ _ | refine Below.drew ?_ | (refine Below.setCell ?_ (by (try simp) <;> omega) _) | (refine Below.alloc ?_ (by (try simp) <;> omega) _)

set_option maxHeartbeats 1000000 in
theorem bit_digit1 (a0 a1 a2 a3 : Nat) (i : Int) (w : World) (h0 : 0 ≤ i) (h1 : i < 256) (hq : i / 64 = 1) (hr0 : 0 ≤ i % 64) (hr1 : i % 64 ≤ 63) (ha : a1 < 18446744073709551616) :
    Calls Try.prog 36 #[.agg #[.int .u64 (a0 : Int), .int .u64 (a1 : Int), .int .u64 (a2 : Int), .int .u64 (a3 : Int)], .int .i64 i] w
      fun e w' => e = .returned (.int .i64 ((a1 / 2 ^ (i % 64).toNat % 2 : Nat) : Int)) ∧ Below w.heap.size w w' := by
  go_enter Try.func36, Try.ntmps36
  go_wp2
  go_ret
  refine ⟨ret_int (bit_end _ _ ha hr0), ?_⟩
  repeat first | exact Below.refl _ _ | refine Below.drew ?_ | (refine Below.setCell ?_ (by (try simp) <;> omega) _) | (refine Below.alloc ?_ (by (try simp) <;> omega) _)

set_option maxHeartbeats 1000000 in
theorem bit_digit2 (a0 a1 a2 a3 : Nat) (i : Int) (w : World) (h0 : 0 ≤ i) (h1 : i < 256) (hq : i / 64 = 2) (hr0 : 0 ≤ i % 64) (hr1 : i % 64 ≤ 63) (ha : a2 < 18446744073709551616) :
    Calls Try.prog 36 #[.agg #[.int .u64 (a0 : Int), .int .u64 (a1 : Int), .int .u64 (a2 : Int), .int .u64 (a3 : Int)], .int .i64 i] w
      fun e w' => e = .returned (.int .i64 ((a2 / 2 ^ (i % 64).toNat % 2 : Nat) : Int)) ∧ Below w.heap.size w w' := by
  go_enter Try.func36, Try.ntmps36
  go_wp2
  go_ret
  refine ⟨ret_int (bit_end _ _ ha hr0), ?_⟩
  repeat first | exact Below.refl _ _ | refine Below.drew ?_ | (refine Below.setCell ?_ (by (try simp) <;> omega) _) | (refine Below.alloc ?_ (by (try simp) <;> omega) _)

set_option maxHeartbeats 1000000 in
theorem bit_digit3 (a0 a1 a2 a3 : Nat) (i : Int) (w : World) (h0 : 0 ≤ i) (h1 : i < 256) (hq : i / 64 = 3) (hr0 : 0 ≤ i % 64) (hr1 : i % 64 ≤ 63) (ha : a3 < 18446744073709551616) :
    Calls Try.prog 36 #[.agg #[.int .u64 (a0 : Int), .int .u64 (a1 : Int), .int .u64 (a2 : Int), .int .u64 (a3 : Int)], .int .i64 i] w
      fun e w' => e = .returned (.int .i64 ((a3 / 2 ^ (i % 64).toNat % 2 : Nat) : Int)) ∧ Below w.heap.size w w' := by
  go_enter Try.func36, Try.ntmps36
  go_wp2
  go_ret
  refine ⟨ret_int (bit_end _ _ ha hr0), ?_⟩
  repeat first | exact Below.refl _ _ | refine Below.drew ?_ | (refine Below.setCell ?_ (by (try simp) <;> omega) _) | (refine Below.alloc ?_ (by (try simp) <;> omega) _)

set_option maxHeartbeats 1000000 in
theorem bit_out (a0 a1 a2 a3 : Nat) (i : Int) (w : World) (h : i < 0 ∨ 256 ≤ i) :
    Calls Try.prog 36 #[.agg #[.int .u64 (a0 : Int), .int .u64 (a1 : Int), .int .u64 (a2 : Int), .int .u64 (a3 : Int)], .int .i64 i] w
      fun e w' => e = .returned (.int .i64 0) ∧ Below w.heap.size w w' := by
  rcases h with h | h
  · go_enter Try.func36, Try.ntmps36
    go_wp2
    go_ret
    refine ⟨rfl, ?_⟩
    repeat first | exact Below.refl _ _ | refine Below.drew ?_ | (refine Below.setCell ?_ (by (try simp) <;> omega) _) | (refine Below.alloc ?_ (by (try simp) <;> omega) _)
  · have h0 : 0 ≤ i := by omega
    go_enter Try.func36, Try.ntmps36
    go_wp2
    go_ret
    refine ⟨rfl, ?_⟩
    repeat first | exact Below.refl _ _ | refine Below.drew ?_ | (refine Below.setCell ?_ (by (try simp) <;> omega) _) | (refine Below.alloc ?_ (by (try simp) <;> omega) _)

theorem bit_calls (a : Nat) (i : Int) (ha : a < W256) (w : World) :
    Calls Try.prog 36 #[numV a, .int .i64 i] w fun e w' => e = .returned (.int .i64 (bitI a i)) ∧ Below w.heap.size w w' := by
  by_cases h : i < 0 ∨ 256 ≤ i
  · rw [bitI_out ha h]
    exact bit_out (dg a 0) (dg a 1) (dg a 2) (dg a 3) i w h
  · have h0 : 0 ≤ i := by omega
    rcases (by omega : i / 64 = 0 ∨ i / 64 = 1 ∨ i / 64 = 2 ∨ i / 64 = 3) with hq | hq | hq | hq
    · rw [← bitI_of 0 h0 hq]
      exact bit_digit0 (dg a 0) (dg a 1) (dg a 2) (dg a 3) i w h0 (by omega) hq (by omega) (by omega) (dg_lt _ _)
    · rw [← bitI_of 1 h0 hq]
      exact bit_digit1 (dg a 0) (dg a 1) (dg a 2) (dg a 3) i w h0 (by omega) hq (by omega) (by omega) (dg_lt _ _)
    · rw [← bitI_of 2 h0 hq]
      exact bit_digit2 (dg a 0) (dg a 1) (dg a 2) (dg a 3) i w h0 (by omega) hq (by omega) (by omega) (dg_lt _ _)
    · rw [← bitI_of 3 h0 hq]
      exact bit_digit3 (dg a 0) (dg a 1) (dg a 2) (dg a 3) i w h0 (by omega) hq (by omega) (by omega) (dg_lt _ _)

theorem rbit_end (d : Nat) (j : Int) (hd : d < 18446744073709551616) (h0 : 0 ≤ j) : wrap64 (bits BinOp.and IntKind.u64 ((d : Int) / 2 ^ j.toNat) 1) = ((d / 2 ^ j.toNat % 2 : Nat) : Int) := by
  have h : ((d : Int) / 2 ^ j.toNat) = ((d / 2 ^ j.toNat : Nat) : Int) := by simp
  rw [h]
  have h1 : d / 2 ^ j.toNat ≤ d := Nat.div_le_self _ _
  generalize d / 2 ^ j.toNat = q at *
  rw [and_one_u64 _ (by omega) (by omega)]
  unfold wrap64
  omega

set_option maxHeartbeats 1000000 in
theorem rbit_digit0 (a0 a1 a2 a3 : Nat) (i : Int) (w : World) (h0 : 0 ≤ i) (h1 : i < 256) (hq : i / 64 = 0) (hr0 : 0 ≤ i % 64) (hr1 : i % 64 ≤ 63) (ha : a0 < 18446744073709551616) :
    Calls Try.prog 37 #[.agg #[.int .u64 (a0 : Int), .int .u64 (a1 : Int), .int .u64 (a2 : Int), .int .u64 (a3 : Int)], .int .i64 i] w
      fun e w' => e = .returned (.int .i64 ((a0 / 2 ^ (i % 64).toNat % 2 : Nat) : Int)) ∧ Below w.heap.size w w' := by
  go_enter Try.func37, Try.ntmps37
  go_wp2
  go_ret
  refine ⟨ret_int (rbit_end _ _ ha hr0), ?_⟩
  repeat first | exact Below.refl _ _ | refine Below.drew ?_ | (refine Below.setCell ?_ (by (try simp) <;> omega) _) | (refine Below.alloc ?_ (by (try simp) <;> omega) _)

set_option maxHeartbeats 1000000 in
theorem rbit_digit1 (a0 a1 a2 a3 : Nat) (i : Int) (w : World) (h0 : 0 ≤ i) (h1 : i < 256) (hq : i / 64 = 1) (hr0 : 0 ≤ i % 64) (hr1 : i % 64 ≤ 63) (ha : a1 < 18446744073709551616) :
    Calls Try.prog 37 #[.agg #[.int .u64 (a0 : Int), .int .u64 (a1 : Int), .int .u64 (a2 : Int), .int .u64 (a3 : Int)], .int .i64 i] w
      fun e w' => e = .returned (.int .i64 ((a1 / 2 ^ (i % 64).toNat % 2 : Nat) : Int)) ∧ Below w.heap.size w w' := by
  go_enter Try.func37, Try.ntmps37
  go_wp2
  go_ret
  refine ⟨ret_int (rbit_end _ _ ha hr0), ?_⟩
  repeat first | exact Below.refl _ _ | refine Below.drew ?_ | (refine Below.setCell ?_ (by (try simp) <;> omega) _) | (refine Below.alloc ?_ (by (try simp) <;> omega) _)

set_option maxHeartbeats 1000000 in
theorem rbit_digit2 (a0 a1 a2 a3 : Nat) (i : Int) (w : World) (h0 : 0 ≤ i) (h1 : i < 256) (hq : i / 64 = 2) (hr0 : 0 ≤ i % 64) (hr1 : i % 64 ≤ 63) (ha : a2 < 18446744073709551616) :
    Calls Try.prog 37 #[.agg #[.int .u64 (a0 : Int), .int .u64 (a1 : Int), .int .u64 (a2 : Int), .int .u64 (a3 : Int)], .int .i64 i] w
      fun e w' => e = .returned (.int .i64 ((a2 / 2 ^ (i % 64).toNat % 2 : Nat) : Int)) ∧ Below w.heap.size w w' := by
  go_enter Try.func37, Try.ntmps37
  go_wp2
  go_ret
  refine ⟨ret_int (rbit_end _ _ ha hr0), ?_⟩
  repeat first | exact Below.refl _ _ | refine Below.drew ?_ | (refine Below.setCell ?_ (by (try simp) <;> omega) _) | (refine Below.alloc ?_ (by (try simp) <;> omega) _)

set_option maxHeartbeats 1000000 in
theorem rbit_digit3 (a0 a1 a2 a3 : Nat) (i : Int) (w : World) (h0 : 0 ≤ i) (h1 : i < 256) (hq : i / 64 = 3) (hr0 : 0 ≤ i % 64) (hr1 : i % 64 ≤ 63) (ha : a3 < 18446744073709551616) :
    Calls Try.prog 37 #[.agg #[.int .u64 (a0 : Int), .int .u64 (a1 : Int), .int .u64 (a2 : Int), .int .u64 (a3 : Int)], .int .i64 i] w
      fun e w' => e = .returned (.int .i64 ((a3 / 2 ^ (i % 64).toNat % 2 : Nat) : Int)) ∧ Below w.heap.size w w' := by
  go_enter Try.func37, Try.ntmps37
  go_wp2
  go_ret
  refine ⟨ret_int (rbit_end _ _ ha hr0), ?_⟩
  repeat first | exact Below.refl _ _ | refine Below.drew ?_ | (refine Below.setCell ?_ (by (try simp) <;> omega) _) | (refine Below.alloc ?_ (by (try simp) <;> omega) _)

set_option maxHeartbeats 1000000 in
theorem rbit_out (a0 a1 a2 a3 : Nat) (i : Int) (w : World) (h : i < 0 ∨ 256 ≤ i) :
    Calls Try.prog 37 #[.agg #[.int .u64 (a0 : Int), .int .u64 (a1 : Int), .int .u64 (a2 : Int), .int .u64 (a3 : Int)], .int .i64 i] w
      fun e w' => e = .returned (.int .i64 0) ∧ Below w.heap.size w w' := by
  rcases h with h | h
  · go_enter Try.func37, Try.ntmps37
    go_wp2
    go_ret
    refine ⟨rfl, ?_⟩
    repeat first | exact Below.refl _ _ | refine Below.drew ?_ | (refine Below.setCell ?_ (by (try simp) <;> omega) _) | (refine Below.alloc ?_ (by (try simp) <;> omega) _)
  · have h0 : 0 ≤ i := by omega
    go_enter Try.func37, Try.ntmps37
    go_wp2
    go_ret
    refine ⟨rfl, ?_⟩
    repeat first | exact Below.refl _ _ | refine Below.drew ?_ | (refine Below.setCell ?_ (by (try simp) <;> omega) _) | (refine Below.alloc ?_ (by (try simp) <;> omega) _)

theorem rbit_calls (a : Nat) (i : Int) (ha : a < W256) (w : World) :
    Calls Try.prog 37 #[numV a, .int .i64 i] w fun e w' => e = .returned (.int .i64 (bitI a i)) ∧ Below w.heap.size w w' := by
  by_cases h : i < 0 ∨ 256 ≤ i
  · rw [bitI_out ha h]
    exact rbit_out (dg a 0) (dg a 1) (dg a 2) (dg a 3) i w h
  · have h0 : 0 ≤ i := by omega
    rcases (by omega : i / 64 = 0 ∨ i / 64 = 1 ∨ i / 64 = 2 ∨ i / 64 = 3) with hq | hq | hq | hq
    · rw [← bitI_of 0 h0 hq]
      exact rbit_digit0 (dg a 0) (dg a 1) (dg a 2) (dg a 3) i w h0 (by omega) hq (by omega) (by omega) (dg_lt _ _)
    · rw [← bitI_of 1 h0 hq]
      exact rbit_digit1 (dg a 0) (dg a 1) (dg a 2) (dg a 3) i w h0 (by omega) hq (by omega) (by omega) (dg_lt _ _)
    · rw [← bitI_of 2 h0 hq]
      exact rbit_digit2 (dg a 0) (dg a 1) (dg a 2) (dg a 3) i w h0 (by omega) hq (by omega) (by omega) (dg_lt _ _)
    · rw [← bitI_of 3 h0 hq]
      exact rbit_digit3 (dg a 0) (dg a 1) (dg a 2) (dg a 3) i w h0 (by omega) hq (by omega) (by omega) (dg_lt _ _)

set_option maxHeartbeats 1000000 in
theorem len_calls (a : Nat) (ha : a < W256) (w : World) :
    Calls Try.prog 38 #[numV a] w fun e w' => e = .returned (.int .i64 (lenN a)) ∧ Below w.heap.size w w' := by
  have hN := numV_eq
  have b0 := dg_lt a 0; have b1 := dg_lt a 1; have b2 := dg_lt a 2; have b3 := dg_lt a 3
  have l0 := lenN_le (a := dg a 0) (k := 64) b0
  have l1 := lenN_le (a := dg a 1) (k := 64) b1
  have l2 := lenN_le (a := dg a 2) (k := 64) b2
  have l3 := lenN_le (a := dg a 3) (k := 64) b3
  have L : ∀ i w, Calls Try.prog 73 #[.int .u64 (dg a i : Nat)] w fun e w' => e = .returned (.int .i64 (lenN (dg a i))) ∧ w' = w := fun i w => by
    have := Try.bits_Len64 (dg a i : Nat) w (by omega) (by have := dg_lt a i; omega)
    rwa [Int.toNat_natCast, bitLen_eq _ (dg_lt a i)] at this
  have HL := Lib.hid L
  clear L
  by_cases h3 : dg a 3 = 0
  · by_cases h2 : dg a 2 = 0
    · by_cases h1 : dg a 1 = 0
      · by_cases h0 : dg a 0 = 0
        · have hz : (0 : Int) = lenN a := by rw [← lenN_dg0 ha h3 h2 h1, h0]; rfl
          have Hz := Lib.hid hz
          clear hz ha
          go_enter Try.func38, Try.ntmps38
          go_wp2
          refine wp_loop_rounds 5 ?_
          iterate 5
            rw [rounds_succ]
            go_wp2
          go_ret
          refine ⟨ret_int Hz.out, ?_⟩
          repeat first | exact Below.refl _ _ | refine Below.drew ?_ | (refine Below.setCell ?_ (by (try simp) <;> omega) _) | (refine Below.alloc ?_ (by (try simp) <;> omega) _)
        · have hz := lenN_dg0 ha h3 h2 h1
          have Hz := Lib.hid hz
          clear hz ha
          go_enter Try.func38, Try.ntmps38
          go_wp2
          refine wp_loop_rounds 5 ?_
          iterate 3
            rw [rounds_succ]
            go_wp2
          rw [rounds_succ]
          go_wp2_with (go_at_call 73; refine (HL.out 0 _).mono ?_; rintro e w' ⟨rfl, rfl⟩)
          go_ret
          refine ⟨ret_int (by rw [← Hz.out]), ?_⟩
          repeat first | exact Below.refl _ _ | refine Below.drew ?_ | (refine Below.setCell ?_ (by (try simp) <;> omega) _) | (refine Below.alloc ?_ (by (try simp) <;> omega) _)
      · have hz := lenN_dg1 ha h3 h2 h1
        have Hz := Lib.hid hz
        clear hz ha
        go_enter Try.func38, Try.ntmps38
        go_wp2
        refine wp_loop_rounds 5 ?_
        iterate 2
          rw [rounds_succ]
          go_wp2
        rw [rounds_succ]
        go_wp2_with (go_at_call 73; refine (HL.out 1 _).mono ?_; rintro e w' ⟨rfl, rfl⟩)
        go_ret
        refine ⟨ret_int (by rw [← Hz.out]), ?_⟩
        repeat first | exact Below.refl _ _ | refine Below.drew ?_ | (refine Below.setCell ?_ (by (try simp) <;> omega) _) | (refine Below.alloc ?_ (by (try simp) <;> omega) _)
    · have hz := lenN_dg2 ha h3 h2
      have Hz := Lib.hid hz
      clear hz ha
      go_enter Try.func38, Try.ntmps38
      go_wp2
      refine wp_loop_rounds 5 ?_
      rw [rounds_succ]
      go_wp2
      rw [rounds_succ]
      go_wp2_with (go_at_call 73; refine (HL.out 2 _).mono ?_; rintro e w' ⟨rfl, rfl⟩)
      go_ret
      refine ⟨ret_int (by rw [← Hz.out]), ?_⟩
      repeat first | exact Below.refl _ _ | refine Below.drew ?_ | (refine Below.setCell ?_ (by (try simp) <;> omega) _) | (refine Below.alloc ?_ (by (try simp) <;> omega) _)
  · have hz := lenN_dg3 ha h3
    have Hz := Lib.hid hz
    clear hz ha
    go_enter Try.func38, Try.ntmps38
    go_wp2
    refine wp_loop_rounds 5 ?_
    rw [rounds_succ]
    go_wp2_with (go_at_call 73; refine (HL.out 3 _).mono ?_; rintro e w' ⟨rfl, rfl⟩)
    go_ret
    refine ⟨ret_int (by rw [← Hz.out]), ?_⟩
    repeat first | exact Below.refl _ _ | refine Below.drew ?_ | (refine Below.setCell ?_ (by (try simp) <;> omega) _) | (refine Below.alloc ?_ (by (try simp) <;> omega) _)

theorem bcell {W w1 : World} {B : Nat} (hb : Below B W w1) : (∀ b o, b < B → w1.cell? ⟨b, o, none⟩ = W.cell? ⟨b, o, none⟩) ∧ (∀ b o, b < B → w1.frozen? ⟨b, o, none⟩ = W.frozen? ⟨b, o, none⟩) :=
  ⟨fun b o h => hb.cell (p := ⟨b, o, none⟩) h, fun b o h => hb.frozen (p := ⟨b, o, none⟩) h⟩

set_option maxHeartbeats 1000000 in
theorem rlen_calls (a : Nat) (ha : a < W256) (w : World) :
    Calls Try.prog 39 #[numV a] w fun e w' => e = .returned (.int .i64 (lenN a)) ∧ Below w.heap.size w w' := by
  rw [numV_eq a]
  have HB := Lib.hid (fun i w => rbit_calls a i ha w)
  have HA := Lib.hid ha
  clear ha
  go_enter Try.func39, Try.ntmps39
  go_wp2
  go_loopw [3] (fun i wr => ∃ k : Nat, k ≤ 256 ∧ a < 2 ^ k ∧ i = .int .i64 ((k : Int) - 1) ∧ Below (w.heap.size + 1) (w.alloc (.cells #[.int .u64 (dg a 0 : Nat), .int .u64 (dg a 1 : Nat), .int .u64 (dg a 2 : Nat), .int .u64 (dg a 3 : Nat)] 24)) wr) (fun i _ => (intOf i + 1).toNat)
  case atStart => exact ⟨256, by omega, by rw [← W256_pow]; exact HA.out, rfl, Below.refl _ _⟩
  case round =>
    obtain ⟨k, hk, hlt, rfl, hB⟩ := hrel
    obtain ⟨hc, hf⟩ := bcell hB
    have hs := hB.size
    have HL := Lib.hid hlt
    clear hlt
    by_cases h0 : k = 0
    · have Hz : Hid ((0 : Int) = lenN a) := by
        have := HL.out
        subst h0
        have e : a = 0 := by omega
        subst e; rfl
      subst h0
      go_wp2
      go_ret
      exact ⟨ret_int Hz.out, ((Below.refl _ _).alloc (Nat.le_refl _) _).trans (hB.mono (by omega))⟩
    · obtain ⟨m, rfl⟩ : ∃ m, k = m + 1 := ⟨k - 1, by omega⟩
      have hm : ((m + 1 : Nat) : Int) - 1 = m := by omega
      rw [hm]
      clear hm h0
      rcases bitI_01 a m with hb | hb
      · have Hb := Lib.hid hb
        clear hb
        go_wp2_with fail
        refine (HB.out m _).mono ?_
        rintro e w1 ⟨rfl, hB1⟩
        rw [Hb.out]
        go_wp2
        go_roundw
        case rel =>
          refine ⟨m, by omega, ?_, rfl, hB.trans (hB1.mono (by simp at hs; omega))⟩
          have h1 := Hb.out
          have h2 := HL.out
          unfold bitI at h1
          rw [if_neg (by omega)] at h1
          simp only [Int.toNat_natCast] at h1
          have h3 : a / 2 ^ m < 2 := Nat.div_lt_of_lt_mul (by rw [Nat.pow_succ] at h2; omega)
          have h4 : a / 2 ^ m = 0 := by generalize a / 2 ^ m = q at *; omega
          have h5 := Nat.two_pow_pos m
          exact (Nat.div_eq_zero_iff.1 h4).resolve_left (by omega)
        case measure => simp [intOf] <;> omega
      · have Hb := Lib.hid hb
        clear hb
        have Hz : Hid (((m : Int) + 1) = lenN a) := by
          have h1 := Hb.out
          have h2 := HL.out
          unfold bitI at h1
          rw [if_neg (by omega)] at h1
          simp only [Int.toNat_natCast] at h1
          have h4 : a / 2 ^ m ≠ 0 := by intro h; rw [h] at h1; simp at h1
          have h5 : 2 ^ m ≤ a := by
            rcases Nat.lt_or_ge a (2 ^ m) with h | h
            · exact absurd (Nat.div_eq_of_lt h) h4
            · exact h
          rw [lenN_of h5 h2]; rfl
        go_wp2_with fail
        refine (HB.out m _).mono ?_
        rintro e w1 ⟨rfl, hB1⟩
        rw [Hb.out]
        go_wp2
        go_ret
        exact ⟨ret_int Hz.out, (((Below.refl _ _).alloc (Nat.le_refl _) _).trans (hB.mono (by omega))).trans (hB1.mono (by simp at hs; omega))⟩

end Go.Proofs.Ytmecomgifmkkfaa
