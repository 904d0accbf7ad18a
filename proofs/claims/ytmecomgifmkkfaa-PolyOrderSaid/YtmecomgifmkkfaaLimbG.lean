/- A number's 32 bytes, and products, as numbers. -/
import Derived.Test.YtmecomgifmkkfaaProg
import Derived.Test.YtmecomgifmkkfaaNum
import Derived.Test.YtmecomgifmkkfaaShelf
import Derived.Test.YtmecomgifmkkfaaLimbA
import Derived.Test.YtmecomgifmkkfaaEqs
import Derived.WalkSpells
import Derived.WalkLawsBesides
import Derived.Handy
import Derived.Lib.Hide
import Derived.RegionTactic
import Derived.ChangeAlike
import Derived.BigRegion
import Derived.BigQuiet
import Derived.Test.YtmecomgifmkkfaaLimbD
import Derived.Test.YtmecomgifmkkfaaLimbE
import Derived.Test.YtmecomgifmkkfaaLimbF
import Derived.WalkSmall
import Derived.Laws.CopyOwn
import Derived.Deep.WholeRow
import Derived.Deep.Cut
namespace Go.Proofs.Ytmecomgifmkkfaa
set_option linter.unusedVariables false
set_option linter.unusedSimpArgs false
open Go.RowKit

theorem horner4 (a : Nat) (h : a < W256) : dg a 0 + 18446744073709551616 * (dg a 1 + 18446744073709551616 * (dg a 2 + 18446744073709551616 * dg a 3)) = a := by
  have := val_dg a h
  omega

theorem mul_calls (a b : Nat) (ha : a < W256) (hb : b < W256) (w : World) :
    Calls Try.prog 31 #[numV a, numV b] w fun e w' => e = .returned (.tuple #[numV (a * b % W256), numV (a * b / W256)]) ∧ Below w.heap.size w w' := by
  refine mul_digits (dg a 0) (dg a 1) (dg a 2) (dg a 3) (dg b 0) (dg b 1) (dg b 2) (dg b 3) w (dg_lt _ _) (dg_lt _ _) (dg_lt _ _) (dg_lt _ _) (dg_lt _ _) (dg_lt _ _) (dg_lt _ _) (dg_lt _ _) _ _ ?_
  intro r0 r1 r2 r3 r4 r5 r6 r7 h0 h1 h2 h3 h4 h5 h6 h7 he
  rw [horner4 a ha, horner4 b hb] at he
  rw [← he]
  constructor
  · refine (numV_of h0 h1 h2 h3 ?_).symm
    unfold W256; omega
  · refine (numV_of h4 h5 h6 h7 ?_).symm
    unfold W256; omega

theorem rmul_calls (a b : Nat) (ha : a < W256) (hb : b < W256) (w : World) :
    Calls Try.prog 34 #[numV a, numV b] w fun e w' => e = .returned (.tuple #[numV (a * b % W256), numV (a * b / W256)]) ∧ Below w.heap.size w w' := by
  refine rmul_digits (dg a 0) (dg a 1) (dg a 2) (dg a 3) (dg b 0) (dg b 1) (dg b 2) (dg b 3) w (dg_lt _ _) (dg_lt _ _) (dg_lt _ _) (dg_lt _ _) (dg_lt _ _) (dg_lt _ _) (dg_lt _ _) (dg_lt _ _) _ _ ?_
  intro r0 r1 r2 r3 r4 r5 r6 r7 h0 h1 h2 h3 h4 h5 h6 h7 he
  rw [horner4 a ha, horner4 b hb] at he
  rw [← he]
  constructor
  · refine (numV_of h0 h1 h2 h3 ?_).symm
    unfold W256; omega
  · refine (numV_of h4 h5 h6 h7 ?_).symm
    unfold W256; omega

theorem heap3_2 (w : World) (A B C : Obj) : (((w.alloc A).alloc B).alloc C).heap[w.heap.size + 1 + 1]? = some C := by
  have := heap_alloc_new ((w.alloc A).alloc B) C
  simpa using this
theorem heap3_1 (w : World) (A B C : Obj) : (((w.alloc A).alloc B).alloc C).heap[w.heap.size + 1]? = some B := by
  rw [heap_alloc_old _ _ (by simp)]
  have := heap_alloc_new (w.alloc A) B
  simpa using this

theorem b32C_set {n i : Nat} (hi : i < 32) : (b32C (top8 n (32 - i))).setIfInBounds i (.int .u8 (by8 n (31 - i) : Nat)) = b32C (top8 n (32 - (i + 1))) := by
  apply Array.ext
  · simp [b32C_size]
  · intro j h1 h2
    have hj : j < 32 := by rw [b32C_size] at h2; exact h2
    have key : by8 (top8 n (32 - (i + 1))) (31 - j) = if i = j then by8 n (31 - i) else by8 (top8 n (32 - i)) (31 - j) := by
      have hy : ∀ a k m : Nat, by8 (a * 256 ^ k) m = if m < k then 0 else by8 a (m - k) := fun a k m => by
        unfold by8
        split
        · rename_i h
          rw [show k = m + (k - m - 1 + 1) by omega, Nat.pow_add, Nat.mul_left_comm, Nat.mul_div_cancel_left _ (Nat.pow_pos (by decide)), Nat.pow_succ, ← Nat.mul_assoc]
          exact Nat.mul_mod_left _ _
        · rename_i h
          rw [show m = k + (m - k) by omega, Nat.pow_add, ← Nat.div_div_eq_div_mul, Nat.mul_div_cancel _ (Nat.pow_pos (by decide)), show k + (m - k) - k = m - k by omega]
      have hz : ∀ k m : Nat, by8 (n / 256 ^ k) m = by8 n (k + m) := fun k m => by
        unfold by8
        rw [Nat.div_div_eq_div_mul, ← Nat.pow_add]
      unfold top8
      rw [hy, hy, hz, hz]
      by_cases hij : i = j
      · subst hij
        rw [if_neg (by omega), if_pos rfl, show 32 - (i + 1) + (31 - i - (32 - (i + 1))) = 31 - i by omega]
      · rw [if_neg hij]
        by_cases hlt : j < i
        · rw [if_neg (by omega), if_neg (by omega), show 32 - (i + 1) + (31 - j - (32 - (i + 1))) = 32 - i + (31 - j - (32 - i)) by omega]
        · rw [if_pos (by omega), if_pos (by omega)]
    rw [Array.getElem_setIfInBounds (by rw [b32C_size]; exact hj)]
    have g1 := b32C_get (top8 n (32 - (i + 1))) j hj
    have g2 := b32C_get (top8 n (32 - i)) j hj
    rw [Array.getElem?_eq_getElem (by rw [b32C_size]; exact hj)] at g1 g2
    rw [Option.some.inj g1, Option.some.inj g2, key]
    split <;> rfl

/-- What one round of 'Bytes' computes. -/
theorem bytes_end (n k : Nat) : ((dg n (k / 8) : Int) / 2 ^ (8 * (k % 8)) % 256) = ((by8 n k : Nat) : Int) := by
  rw [← by8_dg]
  have : ((dg n (k / 8) : Int) / 2 ^ (8 * (k % 8))) = ((dg n (k / 8) / 2 ^ (8 * (k % 8)) : Nat) : Int) := by simp
  rw [this]
  generalize dg n (k / 8) / 2 ^ (8 * (k % 8)) = y
  omega

set_option maxHeartbeats 400000 in
theorem bytes_calls (n : Nat) (hn : n < W256) (w : World) :
    Calls Try.prog 40 #[numV n] w fun e w' => e = .returned (b32V n) ∧ Below w.heap.size w w' := by
  rw [numV_eq n]
  go_enter Try.func40, Try.ntmps40
  go_wp2
  go_loopw [6] (fun t wr => ∃ i : Nat, i ≤ 32 ∧ t = .int .i64 (i : Int) ∧ wr = (((w.alloc (.cells #[.int .u64 (dg n 0 : Nat), .int .u64 (dg n 1 : Nat), .int .u64 (dg n 2 : Nat), .int .u64 (dg n 3 : Nat)] 24)).alloc (.cells (b32C 0) 42)).alloc (.cells (b32C (top8 n (32 - i))) 42))) (fun t _ => (32 - intOf t).toNat)
  case atStart => exact ⟨0, by omega, rfl, by rw [top8_32 hn]; rfl⟩
  case round =>
    obtain ⟨i, hi, rfl, rfl⟩ := hrel
    by_cases hlt : i < 32
    · have hix := b32C_get (top8 n (32 - i)) i hlt
      have Hset := Lib.hid (b32C_set (n := n) hlt)
      have Hend := Lib.hid (bytes_end n (31 - i))
      have hr0 : 0 ≤ (31 - (i : Int)) % 8 := by omega
      have hr1 : (31 - (i : Int)) % 8 ≤ 7 := by omega
      have hr2 : 0 ≤ 31 - (i : Int) := by omega
      rcases (by omega : (31 - i) / 8 = 0 ∨ (31 - i) / 8 = 1 ∨ (31 - i) / 8 = 2 ∨ (31 - i) / 8 = 3) with hN | hN | hN | hN
      · have hq : (31 - (i : Int)) / 8 = 0 := by omega
        rw [hN] at Hend
        clear hN
        go_wp2
        go_roundw
        case rel =>
          refine ⟨i + 1, by omega, by go_num, ?_⟩
          rw [← Hset.out, ← Hend.out]
        case measure => simp [intOf] <;> omega
      · have hq : (31 - (i : Int)) / 8 = 1 := by omega
        rw [hN] at Hend
        clear hN
        go_wp2
        go_roundw
        case rel =>
          refine ⟨i + 1, by omega, by go_num, ?_⟩
          rw [← Hset.out, ← Hend.out]
        case measure => simp [intOf] <;> omega
      · have hq : (31 - (i : Int)) / 8 = 2 := by omega
        rw [hN] at Hend
        clear hN
        go_wp2
        go_roundw
        case rel =>
          refine ⟨i + 1, by omega, by go_num, ?_⟩
          rw [← Hset.out, ← Hend.out]
        case measure => simp [intOf] <;> omega
      · have hq : (31 - (i : Int)) / 8 = 3 := by omega
        rw [hN] at Hend
        clear hN
        go_wp2
        go_roundw
        case rel =>
          refine ⟨i + 1, by omega, by go_num, ?_⟩
          rw [← Hset.out, ← Hend.out]
        case measure => simp [intOf] <;> omega
    · obtain rfl : i = 32 := by omega
      rw [show 32 - 32 = 0 from rfl, top8_0]
      have hsz : ∀ m, (Try.prog.info? 42).map (·.size) = some (b32C m).size := fun m => by rw [b32C_size]; kernel_rfl
      have Hsz := Lib.hid hsz
      clear hsz
      go_upto_region 8 with (fail)
      refine wp_region_lit ?_
      refine wpList_load_row rfl 42 (.tmp 3) rfl (w.heap.size + 1 + 1) rfl 42 (b32C n) (0, 0) _ (heap3_2 _ _ _ _) Try.underlying42 rfl (Hsz.out n) ?_
      refine wpList_store_row rfl 42 (.tmp 2) (.tmp 23) rfl (w.heap.size + 1) (b32C n) rfl rfl 42 (b32C 0) (heap3_1 _ _ _ _) (Hsz.out n) (by rw [b32C_size, b32C_size]) (b32C_one n) ?_
      go_wp2
      refine bodyPost_ret (v := b32V n) (results_cell_row rfl _ _ (w.heap.size + 1) 42 (b32C n) (0, 0) _ rfl (setRow_heap _ _ (b32C 0) _ _ _ (heap3_1 _ _ _ _)) Try.underlying42 rfl (Hsz.out n)) rfl ⟨rfl, ?_⟩
      refine below_setRow ?_ (by omega) _
      repeat first | exact Below.refl _ _ | refine Below.drew ?_ | (refine Below.setCell ?_ (by (try simp) <;> omega) _) | (refine Below.alloc ?_ (by (try simp) <;> omega) _)

end Go.Proofs.Ytmecomgifmkkfaa
