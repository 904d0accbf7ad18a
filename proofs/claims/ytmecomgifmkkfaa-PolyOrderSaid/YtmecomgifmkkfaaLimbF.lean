/- Numbers and their 32 bytes, the highest first, by the program and by the page: what each call answers. -/
import Derived.Test.YtmecomgifmkkfaaProg
import Derived.Test.YtmecomgifmkkfaaNum
import Derived.Test.YtmecomgifmkkfaaShelf
import Derived.Test.YtmecomgifmkkfaaLimbA
import Derived.Test.YtmecomgifmkkfaaEqs
import Derived.WalkSpells
import Derived.WalkLawsBesides
import Derived.Handy
import Derived.Lib.Hide
import Derived.RegionTactic
import Derived.ChangeAlike
import Derived.BigRegion
import Derived.BigQuiet
import Derived.Test.YtmecomgifmkkfaaBits
import Derived.WalkSmall
import Derived.Laws.CopyOwn
import Derived.Deep.WholeRow
import Derived.Deep.Cut
namespace Go.Proofs.Ytmecomgifmkkfaa
set_option linter.unusedVariables false
set_option linter.unusedSimpArgs false
open Go.RowKit

/-- The 32 bytes of a number, the highest first, as the program's value of type [32]byte. -/
def b32C (n : Nat) : Array Value := ((List.range 32).map fun i => Value.int .u8 ((by8 n (31 - i) : Nat) : Int)).toArray
def b32V (n : Nat) : Value := .agg (b32C n)

theorem b32C_size (n : Nat) : (b32C n).size = 32 := by simp [b32C]
theorem b32C_get (n i : Nat) (h : i < 32) : (b32C n)[i]? = some (.int .u8 ((by8 n (31 - i) : Nat) : Int)) := by
  simp [b32C, h]
theorem b32C_one (n : Nat) : (b32C n).all (·.oneCell') = true := by
  simp [b32C, Value.oneCell']

theorem setCell_drewN' : ∀ (w : World) (n : Nat) (a : Addr) (v : Value), (w.drewN n).setCell a v = (w.setCell a v).drewN n := fun _ _ _ _ => rfl

theorem index32 (n i : Nat) (hi : i < 32) (w : World) : (Instr.index 42 (.agg (b32C n)) (.int .i64 (i : Int))).run Try.prog w = .ok (.int .u8 ((by8 n (31 - i) : Nat) : Int)) w := by
  have hu : Try.prog.underlying 42 = some (.array 32 5) := by kernel_rfl
  have hs : (sizeOf 5).run Try.prog w = .ok 1 w := by kernel_rfl
  have ha : (isAgg 5).run Try.prog w = .ok false w := by kernel_rfl
  have hg := b32C_get n i hi
  simp [Instr.index, run_underlying hu, asIntOf, part, hs, ha, hg, hi]


set_option maxHeartbeats 400000 in
theorem of_calls (n : Nat) (hn : n < W256) (w : World) :
    Calls Try.prog 41 #[b32V n] w fun e w' => e = .returned (numV n) ∧ Below w.heap.size w w' := by
  unfold b32V
  have hsz : (Try.prog.info? 42).map (·.size) = some (b32C n).size := by rw [b32C_size]; kernel_rfl
  have Hsz := Lib.hid hsz
  clear hsz
  go_enter Try.func41, Try.ntmps41
  go_upto_region 2 with (fail)
  refine wp_region_lit ?_
  refine wpList_load_row rfl 42 (.tmp 1) rfl w.heap.size rfl 42 (b32C n) (0, 0) _ (by rw [heap_alloc_old _ _ (by simp <;> omega), heap_alloc_old _ _ (by simp), heap_alloc_new]) Try.underlying42 rfl Hsz.out ?_
  go_wp2
  go_loopw [8] (fun t wr => ∃ i k : Nat, i ≤ 32 ∧ t = .int .i64 (i : Int) ∧ wr = World.drewN (((w.alloc (.cells (b32C n) 42)).alloc (.cells #[.int .u64 0, .int .u64 0, .int .u64 0, .int .u64 0] 24)).alloc (.cells #[.int .u64 (dg (top8 n (32 - i)) 0 : Nat), .int .u64 (dg (top8 n (32 - i)) 1 : Nat), .int .u64 (dg (top8 n (32 - i)) 2 : Nat), .int .u64 (dg (top8 n (32 - i)) 3 : Nat)] 24)) k) (fun t _ => (32 - intOf t).toNat)
  case atStart => exact ⟨0, 0, by omega, rfl, by rw [top8_32 hn]; rfl⟩
  case round =>
    obtain ⟨i, k, hi, rfl, rfl⟩ := hrel
    have hsd := setCell_drewN'
    by_cases hlt : i < 32
    · have hix := index32 n i hlt
      have hst := of_step (n := n) hlt
      have hc := by8_lt n (31 - i)
      have hr0 : 0 ≤ (31 - (i : Int)) % 8 := by omega
      have hr1 : (31 - (i : Int)) % 8 ≤ 7 := by omega
      have hr2 : 0 ≤ 31 - (i : Int) := by omega
      rcases (by omega : (31 - i) / 8 = 0 ∨ (31 - i) / 8 = 1 ∨ (31 - i) / 8 = 2 ∨ (31 - i) / 8 = 3) with hN | hN | hN | hN
      · have hq : (31 - (i : Int)) / 8 = 0 := by omega
        rw [hN] at hst
        have Hq := Lib.hid hst.2
        have H1 := Lib.hid (hst.1 1 (by decide) (by decide))
        have H2 := Lib.hid (hst.1 2 (by decide) (by decide))
        have H3 := Lib.hid (hst.1 3 (by decide) (by decide))
        clear hst hN
        generalize by8 n (31 - i) = c at *
        generalize dg (top8 n (32 - i)) 0 = d0 at *
        generalize dg (top8 n (32 - i)) 1 = d1 at *
        generalize dg (top8 n (32 - i)) 2 = d2 at *
        generalize dg (top8 n (32 - i)) 3 = d3 at *
        go_wp2
        go_region
        go_wp2
        go_roundw
        case rel =>
          refine ⟨i + 1, k + 1, by omega, by go_num, ?_⟩
          rw [← Hq.out, H1.out, H2.out, H3.out]
        case measure => simp [intOf] <;> omega
      · have hq : (31 - (i : Int)) / 8 = 1 := by omega
        rw [hN] at hst
        have Hq := Lib.hid hst.2
        have H0 := Lib.hid (hst.1 0 (by decide) (by decide))
        have H2 := Lib.hid (hst.1 2 (by decide) (by decide))
        have H3 := Lib.hid (hst.1 3 (by decide) (by decide))
        clear hst hN
        generalize by8 n (31 - i) = c at *
        generalize dg (top8 n (32 - i)) 0 = d0 at *
        generalize dg (top8 n (32 - i)) 1 = d1 at *
        generalize dg (top8 n (32 - i)) 2 = d2 at *
        generalize dg (top8 n (32 - i)) 3 = d3 at *
        go_wp2
        go_region
        go_wp2
        go_roundw
        case rel =>
          refine ⟨i + 1, k + 1, by omega, by go_num, ?_⟩
          rw [← Hq.out, H0.out, H2.out, H3.out]
        case measure => simp [intOf] <;> omega
      · have hq : (31 - (i : Int)) / 8 = 2 := by omega
        rw [hN] at hst
        have Hq := Lib.hid hst.2
        have H0 := Lib.hid (hst.1 0 (by decide) (by decide))
        have H1 := Lib.hid (hst.1 1 (by decide) (by decide))
        have H3 := Lib.hid (hst.1 3 (by decide) (by decide))
        clear hst hN
        generalize by8 n (31 - i) = c at *
        generalize dg (top8 n (32 - i)) 0 = d0 at *
        generalize dg (top8 n (32 - i)) 1 = d1 at *
        generalize dg (top8 n (32 - i)) 2 = d2 at *
        generalize dg (top8 n (32 - i)) 3 = d3 at *
        go_wp2
        go_region
        go_wp2
        go_roundw
        case rel =>
          refine ⟨i + 1, k + 1, by omega, by go_num, ?_⟩
          rw [← Hq.out, H0.out, H1.out, H3.out]
        case measure => simp [intOf] <;> omega
      · have hq : (31 - (i : Int)) / 8 = 3 := by omega
        rw [hN] at hst
        have Hq := Lib.hid hst.2
        have H0 := Lib.hid (hst.1 0 (by decide) (by decide))
        have H1 := Lib.hid (hst.1 1 (by decide) (by decide))
        have H2 := Lib.hid (hst.1 2 (by decide) (by decide))
        clear hst hN
        generalize by8 n (31 - i) = c at *
        generalize dg (top8 n (32 - i)) 0 = d0 at *
        generalize dg (top8 n (32 - i)) 1 = d1 at *
        generalize dg (top8 n (32 - i)) 2 = d2 at *
        generalize dg (top8 n (32 - i)) 3 = d3 at *
        go_wp2
        go_region
        go_wp2
        go_roundw
        case rel =>
          refine ⟨i + 1, k + 1, by omega, by go_num, ?_⟩
          rw [← Hq.out, H0.out, H1.out, H2.out]
        case measure => simp [intOf] <;> omega
    · obtain rfl : i = 32 := by omega
      rw [show 32 - 32 = 0 from rfl, top8_0]
      go_wp2
      refine bodyPost_ret (v := numV n) (by unfold numV; simp [results, Try.results41, go_sem]) rfl ⟨rfl, ?_⟩
      have dN : ∀ (B : Nat) (a w : World) (n : Nat), Below B a w → Below B a (w.drewN n) := fun B a w n h => ⟨h.os, h.tape, h.output, h.size, h.block⟩
      repeat first | exact Below.refl _ _ | refine Below.drew ?_ | refine dN _ _ _ _ ?_ | (refine Below.setCell ?_ (by (try simp) <;> omega) _) | (refine Below.alloc ?_ (by (try simp) <;> omega) _)

/-- One byte of the page's 'Of'. -/
theorem rof_step {n i : Nat} (hi : i < 32) : (∀ j, j < 4 → j ≠ 3 - i / 8 → dg n j / 256 ^ (8 - (i + 1 - 8 * (3 - j))) = dg n j / 256 ^ (8 - (i - 8 * (3 - j)))) ∧
    bits .or .u64 (IntKind.u64.wrap ((dg n (3 - i / 8) / 256 ^ (8 - (i - 8 * (3 - (3 - i / 8)))) : Nat) * 256)) (by8 n (31 - i) : Nat) = ((dg n (3 - i / 8) / 256 ^ (8 - (i + 1 - 8 * (3 - (3 - i / 8)))) : Nat) : Int) := by
  refine ⟨fun j hj hne => ?_, ?_⟩
  · have h : i / 8 ≤ 3 := by omega
    rcases Nat.lt_or_ge (3 - i / 8) j with h1 | h1
    · rw [show 8 - (i + 1 - 8 * (3 - j)) = 0 by omega, show 8 - (i - 8 * (3 - j)) = 0 by omega]
    · rw [show 8 - (i + 1 - 8 * (3 - j)) = 8 by omega, show 8 - (i - 8 * (3 - j)) = 8 by omega]
  · have hb := by8_dg n (31 - i)
    rw [show (31 - i) / 8 = 3 - i / 8 by omega, show (31 - i) % 8 = 7 - i % 8 by omega] at hb
    rw [show 8 - (i - 8 * (3 - (3 - i / 8))) = 7 - i % 8 + 1 by omega, show 8 - (i + 1 - 8 * (3 - (3 - i / 8))) = 7 - i % 8 by omega]
    have hd := dg_lt n (3 - i / 8)
    have hc := by8_lt n (31 - i)
    generalize by8 n (31 - i) = c at *
    generalize dg n (3 - i / 8) = D at *
    generalize 7 - i % 8 = e at *
    have h1 : D / 256 ^ (e + 1) = D / 256 ^ e / 256 := by rw [Nat.pow_succ, Nat.div_div_eq_div_mul]
    rw [← pow256] at hb
    rw [h1]
    have h2 : D / 256 ^ e ≤ D := Nat.div_le_self _ _
    generalize D / 256 ^ e = y at *
    have hw : IntKind.u64.wrap (((y / 256 : Nat) : Int) * 256) = ((y / 256 * 2 ^ 8 : Nat) : Int) := by rw [IntKind.wrap_u64]; omega
    have hor : y / 256 * 2 ^ 8 ||| c = y / 256 * 2 ^ 8 + c := by
      rw [Nat.mul_comm, Nat.two_pow_add_eq_or_of_lt (by omega)]
    rw [hw, bits_or_u64_nat _ c (by omega) (by omega), hor]
    congr 1
    omega

set_option maxHeartbeats 400000 in
theorem rof_calls (n : Nat) (hn : n < W256) (w : World) :
    Calls Try.prog 58 #[b32V n] w fun e w' => e = .returned (numV n) ∧ Below w.heap.size w w' := by
  unfold b32V
  go_enter Try.func58, Try.ntmps58
  go_wp2
  go_loopw [4] (fun t wr => ∃ i k : Nat, i ≤ 32 ∧ t = .int .i64 (i : Int) ∧ wr = World.drewN (((w.alloc (.cells (b32C n) 42)).alloc (.cells #[.int .u64 0, .int .u64 0, .int .u64 0, .int .u64 0] 24)).alloc (.cells #[.int .u64 (dg n 0 / 256 ^ (8 - (i - 24)) : Nat), .int .u64 (dg n 1 / 256 ^ (8 - (i - 16)) : Nat), .int .u64 (dg n 2 / 256 ^ (8 - (i - 8)) : Nat), .int .u64 (dg n 3 / 256 ^ (8 - (i - 0)) : Nat)] 24)) k) (fun t _ => (32 - intOf t).toNat)
  case atStart =>
    refine ⟨0, 0, by omega, rfl, ?_⟩
    have hz : ∀ j, dg n j / 256 ^ 8 = 0 := fun j => Nat.div_eq_of_lt (by have := dg_lt n j; simpa using this)
    simp only [Nat.zero_sub, Nat.sub_zero, hz]
    rfl
  case round =>
    obtain ⟨i, k, hi, rfl, rfl⟩ := hrel
    have hsd := setCell_drewN'
    by_cases hlt : i < 32
    · have hix := b32C_get n i hlt
      have hst := rof_step (n := n) hlt
      have hc := by8_lt n (31 - i)
      rcases (by omega : i / 8 = 0 ∨ i / 8 = 1 ∨ i / 8 = 2 ∨ i / 8 = 3) with hN | hN | hN | hN
      · have hq : (i : Int) / 8 = 0 := by omega
        rw [hN] at hst
        have Hq := Lib.hid hst.2
        have H0 := Lib.hid (hst.1 0 (by decide) (by decide))
        have H1 := Lib.hid (hst.1 1 (by decide) (by decide))
        have H2 := Lib.hid (hst.1 2 (by decide) (by decide))
        clear hst hN
        simp only [Nat.reduceSub, Nat.reduceMul] at Hq H0 H1 H2
        generalize by8 n (31 - i) = c at *
        generalize dg n 0 / 256 ^ (8 - (i - 24)) = d0 at *
        generalize dg n 1 / 256 ^ (8 - (i - 16)) = d1 at *
        generalize dg n 2 / 256 ^ (8 - (i - 8)) = d2 at *
        generalize dg n 3 / 256 ^ (8 - (i - 0)) = d3 at *
        go_wp2
        go_region
        go_wp2
        go_roundw
        case rel =>
          refine ⟨i + 1, k + 1, by omega, by go_num, ?_⟩
          rw [← Hq.out, H0.out, H1.out, H2.out]
        case measure => simp [intOf] <;> omega
      · have hq : (i : Int) / 8 = 1 := by omega
        rw [hN] at hst
        have Hq := Lib.hid hst.2
        have H0 := Lib.hid (hst.1 0 (by decide) (by decide))
        have H1 := Lib.hid (hst.1 1 (by decide) (by decide))
        have H3 := Lib.hid (hst.1 3 (by decide) (by decide))
        clear hst hN
        simp only [Nat.reduceSub, Nat.reduceMul] at Hq H0 H1 H3
        generalize by8 n (31 - i) = c at *
        generalize dg n 0 / 256 ^ (8 - (i - 24)) = d0 at *
        generalize dg n 1 / 256 ^ (8 - (i - 16)) = d1 at *
        generalize dg n 2 / 256 ^ (8 - (i - 8)) = d2 at *
        generalize dg n 3 / 256 ^ (8 - (i - 0)) = d3 at *
        go_wp2
        go_region
        go_wp2
        go_roundw
        case rel =>
          refine ⟨i + 1, k + 1, by omega, by go_num, ?_⟩
          rw [← Hq.out, H0.out, H1.out, H3.out]
        case measure => simp [intOf] <;> omega
      · have hq : (i : Int) / 8 = 2 := by omega
        rw [hN] at hst
        have Hq := Lib.hid hst.2
        have H0 := Lib.hid (hst.1 0 (by decide) (by decide))
        have H2 := Lib.hid (hst.1 2 (by decide) (by decide))
        have H3 := Lib.hid (hst.1 3 (by decide) (by decide))
        clear hst hN
        simp only [Nat.reduceSub, Nat.reduceMul] at Hq H0 H2 H3
        generalize by8 n (31 - i) = c at *
        generalize dg n 0 / 256 ^ (8 - (i - 24)) = d0 at *
        generalize dg n 1 / 256 ^ (8 - (i - 16)) = d1 at *
        generalize dg n 2 / 256 ^ (8 - (i - 8)) = d2 at *
        generalize dg n 3 / 256 ^ (8 - (i - 0)) = d3 at *
        go_wp2
        go_region
        go_wp2
        go_roundw
        case rel =>
          refine ⟨i + 1, k + 1, by omega, by go_num, ?_⟩
          rw [← Hq.out, H0.out, H2.out, H3.out]
        case measure => simp [intOf] <;> omega
      · have hq : (i : Int) / 8 = 3 := by omega
        rw [hN] at hst
        have Hq := Lib.hid hst.2
        have H1 := Lib.hid (hst.1 1 (by decide) (by decide))
        have H2 := Lib.hid (hst.1 2 (by decide) (by decide))
        have H3 := Lib.hid (hst.1 3 (by decide) (by decide))
        clear hst hN
        simp only [Nat.reduceSub, Nat.reduceMul] at Hq H1 H2 H3
        generalize by8 n (31 - i) = c at *
        generalize dg n 0 / 256 ^ (8 - (i - 24)) = d0 at *
        generalize dg n 1 / 256 ^ (8 - (i - 16)) = d1 at *
        generalize dg n 2 / 256 ^ (8 - (i - 8)) = d2 at *
        generalize dg n 3 / 256 ^ (8 - (i - 0)) = d3 at *
        go_wp2
        go_region
        go_wp2
        go_roundw
        case rel =>
          refine ⟨i + 1, k + 1, by omega, by go_num, ?_⟩
          rw [← Hq.out, H1.out, H2.out, H3.out]
        case measure => simp [intOf] <;> omega
    · obtain rfl : i = 32 := by omega
      simp only [Nat.reduceSub, Nat.pow_zero, Nat.div_one]
      go_wp2
      refine bodyPost_ret (v := numV n) (by unfold numV; simp [results, Try.results58, go_sem]) rfl ⟨rfl, ?_⟩
      have dN : ∀ (B : Nat) (a w : World) (n : Nat), Below B a w → Below B a (w.drewN n) := fun B a w n h => ⟨h.os, h.tape, h.output, h.size, h.block⟩
      repeat first | exact Below.refl _ _ | refine Below.drew ?_ | refine dN _ _ _ _ ?_ | (refine Below.setCell ?_ (by (try simp) <;> omega) _) | (refine Below.alloc ?_ (by (try simp) <;> omega) _)

end Go.Proofs.Ytmecomgifmkkfaa
