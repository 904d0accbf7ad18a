/- Products of numbers of 256 bits, by the program and by the page: what each call answers. -/
import Derived.Test.YtmecomgifmkkfaaProg
import Derived.Test.YtmecomgifmkkfaaNum
import Derived.Test.YtmecomgifmkkfaaShelf
import Derived.Test.YtmecomgifmkkfaaLimbA
import Derived.Test.YtmecomgifmkkfaaEqs
import Derived.WalkSpells
import Derived.WalkLawsBesides
import Derived.Handy
import Derived.Lib.Hide
import Derived.RegionTactic
import Derived.ChangeAlike
import Derived.BigRegion
import Derived.BigQuiet
import Derived.Test.YtmecomgifmkkfaaBits
import Derived.WalkSmall
namespace Go.Proofs.Ytmecomgifmkkfaa
set_option linter.unusedVariables false
set_option linter.unusedSimpArgs false
open Go.RowKit

theorem mul_ex (x y : Nat) (hx : x < 18446744073709551616) (hy : y < 18446744073709551616) : ∃ h l : Nat,
    (∀ w, Calls Try.prog 72 #[.int .u64 (x : Int), .int .u64 (y : Int)] w fun e w' => e = .returned (.tuple #[.int .u64 (h : Int), .int .u64 (l : Int)]) ∧ w' = w) ∧
    Hid (x * y = h * 18446744073709551616 + l ∧ l < 18446744073709551616 ∧ h ≤ 18446744073709551614 ∧ h * 18446744073709551616 + l ≤ 340282366920938463426481119284349108225) := by
  refine ⟨x * y / 18446744073709551616, x * y % 18446744073709551616, fun w => Try.bits_Mul64 x y hx hy w, ?_⟩
  show _ ∧ _ ∧ _
  have h := Nat.mul_le_mul (Nat.le_of_lt_succ hx : x ≤ 18446744073709551615) (Nat.le_of_lt_succ hy : y ≤ 18446744073709551615)
  generalize x * y = p at *
  omega

theorem add_ex (x y : Nat) (hx : x < 18446744073709551616) (hy : y < 18446744073709551616) : ∃ s c : Nat,
    (∀ w, (callFunc 70 #[.int .u64 (x : Int), .int .u64 (y : Int), .int .u64 0]).run Try.prog w = .ok (.value (.tuple #[.int .u64 (s : Int), .int .u64 (c : Int)])) w) ∧
    Hid (x + y = c * 18446744073709551616 + s ∧ s < 18446744073709551616 ∧ c ≤ 1) := by
  refine ⟨(x + y + 0) % 18446744073709551616, (x + y + 0) / 18446744073709551616, fun w => add64_run x y 0 (by omega) w, ?_⟩
  show _ ∧ _ ∧ _
  omega

/-- One step of the school method: what the three calls' equations come to. -/
theorem step_eq {P h l o x p y c c' u : Nat} (h1 : P = h * 18446744073709551616 + l ∧ l < 18446744073709551616 ∧ h ≤ 18446744073709551614 ∧ h * 18446744073709551616 + l ≤ 340282366920938463426481119284349108225) (h2 : u + l = x * 18446744073709551616 + o ∧ o < 18446744073709551616 ∧ x ≤ 1) (h3 : o + c = y * 18446744073709551616 + p ∧ p < 18446744073709551616 ∧ y ≤ 1)
    (hc' : c' = h + x + y) (hu : u < 18446744073709551616) (hc : c < 18446744073709551616) : p + 18446744073709551616 * c' = u + c + P ∧ p < 18446744073709551616 ∧ c' < 18446744073709551616 := by
  omega

theorem setCell_drewN : ∀ (w : World) (n : Nat) (a : Addr) (v : Value), (w.drewN n).setCell a v = (w.setCell a v).drewN n := fun _ _ _ _ => rfl
theorem array_at (a : Option Addr) (c : Nat) (w : World) : (Instr.arrayAt 24 (.slice a 4 c)).run Try.prog w = .ok (.pointer a) w := by
  have hu : Try.prog.underlying 24 = some (.array 4 22) := by kernel_rfl
  simp [Instr.arrayAt, run_underlying hu]
/-- One row of the school method. -/
theorem row_eq {a b0 b1 b2 b3 r0 r1 r2 r3 p0 p1 p2 p3 c0 c1 c2 c3 : Nat} (h0 : p0 + 18446744073709551616 * c0 = r0 + 0 + a * b0) (h1 : p1 + 18446744073709551616 * c1 = r1 + c0 + a * b1) (h2 : p2 + 18446744073709551616 * c2 = r2 + c1 + a * b2) (h3 : p3 + 18446744073709551616 * c3 = r3 + c2 + a * b3) :
    p0 + 18446744073709551616 * (p1 + 18446744073709551616 * (p2 + 18446744073709551616 * (p3 + 18446744073709551616 * (c3)))) = r0 + 18446744073709551616 * (r1 + 18446744073709551616 * (r2 + 18446744073709551616 * (r3))) + a * (b0 + 18446744073709551616 * (b1 + 18446744073709551616 * (b2 + 18446744073709551616 * (b3)))) := by
  have e : a * (b0 + 18446744073709551616 * (b1 + 18446744073709551616 * (b2 + 18446744073709551616 * (b3)))) = a * b0 + 18446744073709551616 * (a * b1 + 18446744073709551616 * (a * b2 + 18446744073709551616 * (a * b3))) := by
    simp only [Nat.mul_add, Nat.mul_left_comm a 18446744073709551616]
  rw [e]
  generalize a * b0 = P0 at *
  generalize a * b1 = P1 at *
  generalize a * b2 = P2 at *
  generalize a * b3 = P3 at *
  omega
theorem prod_eq (a0 a1 a2 a3 b : Nat) : a0 * b + 18446744073709551616 * (a1 * b + 18446744073709551616 * (a2 * b + 18446744073709551616 * (a3 * b))) = (a0 + 18446744073709551616 * (a1 + 18446744073709551616 * (a2 + 18446744073709551616 * (a3)))) * b := by
  simp only [Nat.add_mul, Nat.mul_assoc]

/-- What holds when i digits of a have been multiplied: the eight digits so far. -/
def MulRel (a0 a1 a2 a3 b0 b1 b2 b3 : Nat) (w : World) (t : Value) (wr : World) : Prop :=
  ∃ i r0 r1 r2 r3 r4 r5 r6 r7 : Nat, i ≤ 4 ∧ t = .int .i64 (i : Int) ∧
    (∃ n, wr = World.drewN (((((w.alloc (.cells #[.int .u64 (a0 : Int), .int .u64 (a1 : Int), .int .u64 (a2 : Int), .int .u64 (a3 : Int)] 24)).alloc (.cells #[.int .u64 (b0 : Int), .int .u64 (b1 : Int), .int .u64 (b2 : Int), .int .u64 (b3 : Int)] 24)).alloc
      (.cells #[.int .u64 0, .int .u64 0, .int .u64 0, .int .u64 0] 24)).alloc (.cells #[.int .u64 0, .int .u64 0, .int .u64 0, .int .u64 0] 24)).alloc
      (.cells #[.int .u64 (r0 : Int), .int .u64 (r1 : Int), .int .u64 (r2 : Int), .int .u64 (r3 : Int), .int .u64 (r4 : Int), .int .u64 (r5 : Int), .int .u64 (r6 : Int), .int .u64 (r7 : Int)] 77)) n) ∧
    r0 < 18446744073709551616 ∧ r1 < 18446744073709551616 ∧ r2 < 18446744073709551616 ∧ r3 < 18446744073709551616 ∧ r4 < 18446744073709551616 ∧ r5 < 18446744073709551616 ∧ r6 < 18446744073709551616 ∧ r7 < 18446744073709551616 ∧
    ((i = 0 ∧ r0 = 0 ∧ r1 = 0 ∧ r2 = 0 ∧ r3 = 0 ∧ r4 = 0 ∧ r5 = 0 ∧ r6 = 0 ∧ r7 = 0) ∨ (i = 1 ∧ r5 = 0 ∧ r6 = 0 ∧ r7 = 0 ∧ r0 + 18446744073709551616 * (r1 + 18446744073709551616 * (r2 + 18446744073709551616 * (r3 + 18446744073709551616 * (r4)))) = a0 * (b0 + 18446744073709551616 * (b1 + 18446744073709551616 * (b2 + 18446744073709551616 * (b3))))) ∨ (i = 2 ∧ r6 = 0 ∧ r7 = 0 ∧ r0 + 18446744073709551616 * (r1 + 18446744073709551616 * (r2 + 18446744073709551616 * (r3 + 18446744073709551616 * (r4 + 18446744073709551616 * (r5))))) = a0 * (b0 + 18446744073709551616 * (b1 + 18446744073709551616 * (b2 + 18446744073709551616 * (b3)))) + 18446744073709551616 * (a1 * (b0 + 18446744073709551616 * (b1 + 18446744073709551616 * (b2 + 18446744073709551616 * (b3)))))) ∨ (i = 3 ∧ r7 = 0 ∧ r0 + 18446744073709551616 * (r1 + 18446744073709551616 * (r2 + 18446744073709551616 * (r3 + 18446744073709551616 * (r4 + 18446744073709551616 * (r5 + 18446744073709551616 * (r6)))))) = a0 * (b0 + 18446744073709551616 * (b1 + 18446744073709551616 * (b2 + 18446744073709551616 * (b3)))) + 18446744073709551616 * (a1 * (b0 + 18446744073709551616 * (b1 + 18446744073709551616 * (b2 + 18446744073709551616 * (b3)))) + 18446744073709551616 * (a2 * (b0 + 18446744073709551616 * (b1 + 18446744073709551616 * (b2 + 18446744073709551616 * (b3))))))) ∨ (i = 4 ∧ r0 + 18446744073709551616 * (r1 + 18446744073709551616 * (r2 + 18446744073709551616 * (r3 + 18446744073709551616 * (r4 + 18446744073709551616 * (r5 + 18446744073709551616 * (r6 + 18446744073709551616 * (r7))))))) = a0 * (b0 + 18446744073709551616 * (b1 + 18446744073709551616 * (b2 + 18446744073709551616 * (b3)))) + 18446744073709551616 * (a1 * (b0 + 18446744073709551616 * (b1 + 18446744073709551616 * (b2 + 18446744073709551616 * (b3)))) + 18446744073709551616 * (a2 * (b0 + 18446744073709551616 * (b1 + 18446744073709551616 * (b2 + 18446744073709551616 * (b3)))) + 18446744073709551616 * (a3 * (b0 + 18446744073709551616 * (b1 + 18446744073709551616 * (b2 + 18446744073709551616 * (b3)))))))))

set_option maxHeartbeats 4000000 in
set_option maxRecDepth 100000 in
theorem mul_digits (a0 a1 a2 a3 b0 b1 b2 b3 : Nat) (w : World)
    (ha0 : a0 < 18446744073709551616) (ha1 : a1 < 18446744073709551616) (ha2 : a2 < 18446744073709551616) (ha3 : a3 < 18446744073709551616)
    (hb0 : b0 < 18446744073709551616) (hb1 : b1 < 18446744073709551616) (hb2 : b2 < 18446744073709551616) (hb3 : b3 < 18446744073709551616)
    (lo hi : Value) (hlohi : ∀ r0 r1 r2 r3 r4 r5 r6 r7 : Nat, r0 < 18446744073709551616 → r1 < 18446744073709551616 → r2 < 18446744073709551616 → r3 < 18446744073709551616 → r4 < 18446744073709551616 → r5 < 18446744073709551616 → r6 < 18446744073709551616 → r7 < 18446744073709551616 →
      r0 + 18446744073709551616 * (r1 + 18446744073709551616 * (r2 + 18446744073709551616 * (r3 + 18446744073709551616 * (r4 + 18446744073709551616 * (r5 + 18446744073709551616 * (r6 + 18446744073709551616 * (r7))))))) = (a0 + 18446744073709551616 * (a1 + 18446744073709551616 * (a2 + 18446744073709551616 * (a3)))) * (b0 + 18446744073709551616 * (b1 + 18446744073709551616 * (b2 + 18446744073709551616 * (b3)))) →
      lo = .agg #[.int .u64 (r0 : Int), .int .u64 (r1 : Int), .int .u64 (r2 : Int), .int .u64 (r3 : Int)] ∧ hi = .agg #[.int .u64 (r4 : Int), .int .u64 (r5 : Int), .int .u64 (r6 : Int), .int .u64 (r7 : Int)]) :
    Calls Try.prog 31 #[.agg #[.int .u64 (a0 : Int), .int .u64 (a1 : Int), .int .u64 (a2 : Int), .int .u64 (a3 : Int)], .agg #[.int .u64 (b0 : Int), .int .u64 (b1 : Int), .int .u64 (b2 : Int), .int .u64 (b3 : Int)]] w fun e w' => e = .returned (.tuple #[lo, hi]) ∧ Below w.heap.size w w' := by
  have HH := Lib.hid hlohi
  have hsd := setCell_drewN
  have hat := array_at
  have HA0 := Lib.hid ha0; have HA1 := Lib.hid ha1; have HA2 := Lib.hid ha2; have HA3 := Lib.hid ha3
  have HB0 := Lib.hid hb0; have HB1 := Lib.hid hb1; have HB2 := Lib.hid hb2; have HB3 := Lib.hid hb3
  have HZ := Lib.hid (show (0 : Nat) < 18446744073709551616 by decide)
  clear hlohi ha0 ha1 ha2 ha3 hb0 hb1 hb2 hb3
  go_enter Try.func31, Try.ntmps31
  go_wp2
  go_loopw [14] (fun t wr => MulRel a0 a1 a2 a3 b0 b1 b2 b3 w t wr) (fun t _ => (4 - intOf t).toNat)
  case atStart => exact ⟨0, 0, 0, 0, 0, 0, 0, 0, 0, by omega, rfl, ⟨0, rfl⟩, by omega, by omega, by omega, by omega, by omega, by omega, by omega, by omega, Or.inl ⟨rfl, rfl, rfl, rfl, rfl, rfl, rfl, rfl, rfl⟩⟩
  case round =>
    obtain ⟨i, r0, r1, r2, r3, r4, r5, r6, r7, hi, rfl, ⟨n, rfl⟩, hr0, hr1, hr2, hr3, hr4, hr5, hr6, hr7, hv⟩ := hrel
    have HR0 := Lib.hid hr0; have HR1 := Lib.hid hr1; have HR2 := Lib.hid hr2; have HR3 := Lib.hid hr3
    have HR4 := Lib.hid hr4; have HR5 := Lib.hid hr5; have HR6 := Lib.hid hr6; have HR7 := Lib.hid hr7
    clear hr0 hr1 hr2 hr3 hr4 hr5 hr6 hr7
    rcases hv with ⟨rfl, hv⟩ | ⟨rfl, hv⟩ | ⟨rfl, hv⟩ | ⟨rfl, hv⟩ | ⟨rfl, hv⟩
    · have HV := Lib.hid hv
      clear hv hi
      rw [show ((0 : Nat) : Int) = 0 from rfl]
      go_wp2
      refine wp_loop_rounds 5 ?_
      obtain ⟨h00, l00, hM, M00⟩ := mul_ex a0 b0 HA0.out HB0.out
      obtain ⟨o00, x00, hA, A00⟩ := add_ex r0 l00 HR0.out M00.out.2.1
      obtain ⟨p00, y00, hB, B00⟩ := add_ex o00 0 A00.out.2.1 HZ.out
      simp only [show ((0 : Nat) : Int) = 0 from rfl] at hB
      obtain ⟨c00, hc⟩ : ∃ c, c = h00 + x00 + y00 := ⟨_, rfl⟩
      have S00 := Lib.hid (step_eq M00.out A00.out B00.out hc HR0.out HZ.out)
      have hx : x00 ≤ 1 := A00.out.2.2
      have hy : y00 ≤ 1 := B00.out.2.2
      have hh : h00 ≤ 18446744073709551614 := M00.out.2.2.1
      have hb : h00 + x00 + y00 < 18446744073709551616 := by have := S00.out.2.2; omega
      have hk : ((h00 : Int) + x00 + y00) = (c00 : Int) := by omega
      have Hk := Lib.hid hk
      clear hk hc M00 A00 B00
      rw [rounds_succ]
      go_wp2
      go_quiet ((go_at_call 72; refine (hM _).mono ?_; rintro e w' ⟨rfl, rfl⟩; exact ⟨rfl, ⟨_, rfl⟩⟩))
      go_wp2
      rw [Hk.out]
      clear hM hA hB hx hy hh hb Hk
      obtain ⟨h01, l01, hM, M01⟩ := mul_ex a0 b1 HA0.out HB1.out
      obtain ⟨o01, x01, hA, A01⟩ := add_ex r1 l01 HR1.out M01.out.2.1
      obtain ⟨p01, y01, hB, B01⟩ := add_ex o01 c00 A01.out.2.1 S00.out.2.2
      obtain ⟨c01, hc⟩ : ∃ c, c = h01 + x01 + y01 := ⟨_, rfl⟩
      have S01 := Lib.hid (step_eq M01.out A01.out B01.out hc HR1.out S00.out.2.2)
      have hx : x01 ≤ 1 := A01.out.2.2
      have hy : y01 ≤ 1 := B01.out.2.2
      have hh : h01 ≤ 18446744073709551614 := M01.out.2.2.1
      have hb : h01 + x01 + y01 < 18446744073709551616 := by have := S01.out.2.2; omega
      have hk : ((h01 : Int) + x01 + y01) = (c01 : Int) := by omega
      have Hk := Lib.hid hk
      clear hk hc M01 A01 B01
      rw [rounds_succ]
      go_wp2
      go_quiet ((go_at_call 72; refine (hM _).mono ?_; rintro e w' ⟨rfl, rfl⟩; exact ⟨rfl, ⟨_, rfl⟩⟩))
      go_wp2
      rw [Hk.out]
      clear hM hA hB hx hy hh hb Hk
      obtain ⟨h02, l02, hM, M02⟩ := mul_ex a0 b2 HA0.out HB2.out
      obtain ⟨o02, x02, hA, A02⟩ := add_ex r2 l02 HR2.out M02.out.2.1
      obtain ⟨p02, y02, hB, B02⟩ := add_ex o02 c01 A02.out.2.1 S01.out.2.2
      obtain ⟨c02, hc⟩ : ∃ c, c = h02 + x02 + y02 := ⟨_, rfl⟩
      have S02 := Lib.hid (step_eq M02.out A02.out B02.out hc HR2.out S01.out.2.2)
      have hx : x02 ≤ 1 := A02.out.2.2
      have hy : y02 ≤ 1 := B02.out.2.2
      have hh : h02 ≤ 18446744073709551614 := M02.out.2.2.1
      have hb : h02 + x02 + y02 < 18446744073709551616 := by have := S02.out.2.2; omega
      have hk : ((h02 : Int) + x02 + y02) = (c02 : Int) := by omega
      have Hk := Lib.hid hk
      clear hk hc M02 A02 B02
      rw [rounds_succ]
      go_wp2
      go_quiet ((go_at_call 72; refine (hM _).mono ?_; rintro e w' ⟨rfl, rfl⟩; exact ⟨rfl, ⟨_, rfl⟩⟩))
      go_wp2
      rw [Hk.out]
      clear hM hA hB hx hy hh hb Hk
      obtain ⟨h03, l03, hM, M03⟩ := mul_ex a0 b3 HA0.out HB3.out
      obtain ⟨o03, x03, hA, A03⟩ := add_ex r3 l03 HR3.out M03.out.2.1
      obtain ⟨p03, y03, hB, B03⟩ := add_ex o03 c02 A03.out.2.1 S02.out.2.2
      obtain ⟨c03, hc⟩ : ∃ c, c = h03 + x03 + y03 := ⟨_, rfl⟩
      have S03 := Lib.hid (step_eq M03.out A03.out B03.out hc HR3.out S02.out.2.2)
      have hx : x03 ≤ 1 := A03.out.2.2
      have hy : y03 ≤ 1 := B03.out.2.2
      have hh : h03 ≤ 18446744073709551614 := M03.out.2.2.1
      have hb : h03 + x03 + y03 < 18446744073709551616 := by have := S03.out.2.2; omega
      have hk : ((h03 : Int) + x03 + y03) = (c03 : Int) := by omega
      have Hk := Lib.hid hk
      clear hk hc M03 A03 B03
      rw [rounds_succ]
      go_wp2
      go_quiet ((go_at_call 72; refine (hM _).mono ?_; rintro e w' ⟨rfl, rfl⟩; exact ⟨rfl, ⟨_, rfl⟩⟩))
      go_wp2
      rw [Hk.out]
      clear hM hA hB hx hy hh hb Hk
      rw [rounds_succ]
      go_wp2
      go_roundw
      case rel =>
        refine ⟨1, p00, p01, p02, p03, c03, r5, r6, r7, by omega, rfl, ⟨_, rfl⟩, S00.out.2.1, S01.out.2.1, S02.out.2.1, S03.out.2.1, S03.out.2.2, HR5.out, HR6.out, HR7.out, Or.inr (Or.inl ⟨rfl, ?_⟩)⟩
        have hrow := row_eq S00.out.1 S01.out.1 S02.out.1 S03.out.1
        have hv := HV.out
        clear S00 S01 S02 S03 HV HR0 HR1 HR2 HR3 HR4 HR5 HR6 HR7 HA0 HA1 HA2 HA3 HB0 HB1 HB2 HB3 HZ HH
        generalize a0 * (b0 + 18446744073709551616 * (b1 + 18446744073709551616 * (b2 + 18446744073709551616 * (b3)))) = T0 at *; generalize a1 * (b0 + 18446744073709551616 * (b1 + 18446744073709551616 * (b2 + 18446744073709551616 * (b3)))) = T1 at *; generalize a2 * (b0 + 18446744073709551616 * (b1 + 18446744073709551616 * (b2 + 18446744073709551616 * (b3)))) = T2 at *; generalize a3 * (b0 + 18446744073709551616 * (b1 + 18446744073709551616 * (b2 + 18446744073709551616 * (b3)))) = T3 at *
        omega
      case measure => simp [intOf] <;> omega
    · have HV := Lib.hid hv
      clear hv hi
      rw [show ((1 : Nat) : Int) = 1 from rfl]
      go_wp2
      refine wp_loop_rounds 5 ?_
      obtain ⟨h10, l10, hM, M10⟩ := mul_ex a1 b0 HA1.out HB0.out
      obtain ⟨o10, x10, hA, A10⟩ := add_ex r1 l10 HR1.out M10.out.2.1
      obtain ⟨p10, y10, hB, B10⟩ := add_ex o10 0 A10.out.2.1 HZ.out
      simp only [show ((0 : Nat) : Int) = 0 from rfl] at hB
      obtain ⟨c10, hc⟩ : ∃ c, c = h10 + x10 + y10 := ⟨_, rfl⟩
      have S10 := Lib.hid (step_eq M10.out A10.out B10.out hc HR1.out HZ.out)
      have hx : x10 ≤ 1 := A10.out.2.2
      have hy : y10 ≤ 1 := B10.out.2.2
      have hh : h10 ≤ 18446744073709551614 := M10.out.2.2.1
      have hb : h10 + x10 + y10 < 18446744073709551616 := by have := S10.out.2.2; omega
      have hk : ((h10 : Int) + x10 + y10) = (c10 : Int) := by omega
      have Hk := Lib.hid hk
      clear hk hc M10 A10 B10
      rw [rounds_succ]
      go_wp2
      go_quiet ((go_at_call 72; refine (hM _).mono ?_; rintro e w' ⟨rfl, rfl⟩; exact ⟨rfl, ⟨_, rfl⟩⟩))
      go_wp2
      rw [Hk.out]
      clear hM hA hB hx hy hh hb Hk
      obtain ⟨h11, l11, hM, M11⟩ := mul_ex a1 b1 HA1.out HB1.out
      obtain ⟨o11, x11, hA, A11⟩ := add_ex r2 l11 HR2.out M11.out.2.1
      obtain ⟨p11, y11, hB, B11⟩ := add_ex o11 c10 A11.out.2.1 S10.out.2.2
      obtain ⟨c11, hc⟩ : ∃ c, c = h11 + x11 + y11 := ⟨_, rfl⟩
      have S11 := Lib.hid (step_eq M11.out A11.out B11.out hc HR2.out S10.out.2.2)
      have hx : x11 ≤ 1 := A11.out.2.2
      have hy : y11 ≤ 1 := B11.out.2.2
      have hh : h11 ≤ 18446744073709551614 := M11.out.2.2.1
      have hb : h11 + x11 + y11 < 18446744073709551616 := by have := S11.out.2.2; omega
      have hk : ((h11 : Int) + x11 + y11) = (c11 : Int) := by omega
      have Hk := Lib.hid hk
      clear hk hc M11 A11 B11
      rw [rounds_succ]
      go_wp2
      go_quiet ((go_at_call 72; refine (hM _).mono ?_; rintro e w' ⟨rfl, rfl⟩; exact ⟨rfl, ⟨_, rfl⟩⟩))
      go_wp2
      rw [Hk.out]
      clear hM hA hB hx hy hh hb Hk
      obtain ⟨h12, l12, hM, M12⟩ := mul_ex a1 b2 HA1.out HB2.out
      obtain ⟨o12, x12, hA, A12⟩ := add_ex r3 l12 HR3.out M12.out.2.1
      obtain ⟨p12, y12, hB, B12⟩ := add_ex o12 c11 A12.out.2.1 S11.out.2.2
      obtain ⟨c12, hc⟩ : ∃ c, c = h12 + x12 + y12 := ⟨_, rfl⟩
      have S12 := Lib.hid (step_eq M12.out A12.out B12.out hc HR3.out S11.out.2.2)
      have hx : x12 ≤ 1 := A12.out.2.2
      have hy : y12 ≤ 1 := B12.out.2.2
      have hh : h12 ≤ 18446744073709551614 := M12.out.2.2.1
      have hb : h12 + x12 + y12 < 18446744073709551616 := by have := S12.out.2.2; omega
      have hk : ((h12 : Int) + x12 + y12) = (c12 : Int) := by omega
      have Hk := Lib.hid hk
      clear hk hc M12 A12 B12
      rw [rounds_succ]
      go_wp2
      go_quiet ((go_at_call 72; refine (hM _).mono ?_; rintro e w' ⟨rfl, rfl⟩; exact ⟨rfl, ⟨_, rfl⟩⟩))
      go_wp2
      rw [Hk.out]
      clear hM hA hB hx hy hh hb Hk
      obtain ⟨h13, l13, hM, M13⟩ := mul_ex a1 b3 HA1.out HB3.out
      obtain ⟨o13, x13, hA, A13⟩ := add_ex r4 l13 HR4.out M13.out.2.1
      obtain ⟨p13, y13, hB, B13⟩ := add_ex o13 c12 A13.out.2.1 S12.out.2.2
      obtain ⟨c13, hc⟩ : ∃ c, c = h13 + x13 + y13 := ⟨_, rfl⟩
      have S13 := Lib.hid (step_eq M13.out A13.out B13.out hc HR4.out S12.out.2.2)
      have hx : x13 ≤ 1 := A13.out.2.2
      have hy : y13 ≤ 1 := B13.out.2.2
      have hh : h13 ≤ 18446744073709551614 := M13.out.2.2.1
      have hb : h13 + x13 + y13 < 18446744073709551616 := by have := S13.out.2.2; omega
      have hk : ((h13 : Int) + x13 + y13) = (c13 : Int) := by omega
      have Hk := Lib.hid hk
      clear hk hc M13 A13 B13
      rw [rounds_succ]
      go_wp2
      go_quiet ((go_at_call 72; refine (hM _).mono ?_; rintro e w' ⟨rfl, rfl⟩; exact ⟨rfl, ⟨_, rfl⟩⟩))
      go_wp2
      rw [Hk.out]
      clear hM hA hB hx hy hh hb Hk
      rw [rounds_succ]
      go_wp2
      go_roundw
      case rel =>
        refine ⟨2, r0, p10, p11, p12, p13, c13, r6, r7, by omega, rfl, ⟨_, rfl⟩, HR0.out, S10.out.2.1, S11.out.2.1, S12.out.2.1, S13.out.2.1, S13.out.2.2, HR6.out, HR7.out, Or.inr (Or.inr (Or.inl ⟨rfl, ?_⟩))⟩
        have hrow := row_eq S10.out.1 S11.out.1 S12.out.1 S13.out.1
        have hv := HV.out
        clear S10 S11 S12 S13 HV HR0 HR1 HR2 HR3 HR4 HR5 HR6 HR7 HA0 HA1 HA2 HA3 HB0 HB1 HB2 HB3 HZ HH
        generalize a0 * (b0 + 18446744073709551616 * (b1 + 18446744073709551616 * (b2 + 18446744073709551616 * (b3)))) = T0 at *; generalize a1 * (b0 + 18446744073709551616 * (b1 + 18446744073709551616 * (b2 + 18446744073709551616 * (b3)))) = T1 at *; generalize a2 * (b0 + 18446744073709551616 * (b1 + 18446744073709551616 * (b2 + 18446744073709551616 * (b3)))) = T2 at *; generalize a3 * (b0 + 18446744073709551616 * (b1 + 18446744073709551616 * (b2 + 18446744073709551616 * (b3)))) = T3 at *
        omega
      case measure => simp [intOf] <;> omega
    · have HV := Lib.hid hv
      clear hv hi
      rw [show ((2 : Nat) : Int) = 2 from rfl]
      go_wp2
      refine wp_loop_rounds 5 ?_
      obtain ⟨h20, l20, hM, M20⟩ := mul_ex a2 b0 HA2.out HB0.out
      obtain ⟨o20, x20, hA, A20⟩ := add_ex r2 l20 HR2.out M20.out.2.1
      obtain ⟨p20, y20, hB, B20⟩ := add_ex o20 0 A20.out.2.1 HZ.out
      simp only [show ((0 : Nat) : Int) = 0 from rfl] at hB
      obtain ⟨c20, hc⟩ : ∃ c, c = h20 + x20 + y20 := ⟨_, rfl⟩
      have S20 := Lib.hid (step_eq M20.out A20.out B20.out hc HR2.out HZ.out)
      have hx : x20 ≤ 1 := A20.out.2.2
      have hy : y20 ≤ 1 := B20.out.2.2
      have hh : h20 ≤ 18446744073709551614 := M20.out.2.2.1
      have hb : h20 + x20 + y20 < 18446744073709551616 := by have := S20.out.2.2; omega
      have hk : ((h20 : Int) + x20 + y20) = (c20 : Int) := by omega
      have Hk := Lib.hid hk
      clear hk hc M20 A20 B20
      rw [rounds_succ]
      go_wp2
      go_quiet ((go_at_call 72; refine (hM _).mono ?_; rintro e w' ⟨rfl, rfl⟩; exact ⟨rfl, ⟨_, rfl⟩⟩))
      go_wp2
      rw [Hk.out]
      clear hM hA hB hx hy hh hb Hk
      obtain ⟨h21, l21, hM, M21⟩ := mul_ex a2 b1 HA2.out HB1.out
      obtain ⟨o21, x21, hA, A21⟩ := add_ex r3 l21 HR3.out M21.out.2.1
      obtain ⟨p21, y21, hB, B21⟩ := add_ex o21 c20 A21.out.2.1 S20.out.2.2
      obtain ⟨c21, hc⟩ : ∃ c, c = h21 + x21 + y21 := ⟨_, rfl⟩
      have S21 := Lib.hid (step_eq M21.out A21.out B21.out hc HR3.out S20.out.2.2)
      have hx : x21 ≤ 1 := A21.out.2.2
      have hy : y21 ≤ 1 := B21.out.2.2
      have hh : h21 ≤ 18446744073709551614 := M21.out.2.2.1
      have hb : h21 + x21 + y21 < 18446744073709551616 := by have := S21.out.2.2; omega
      have hk : ((h21 : Int) + x21 + y21) = (c21 : Int) := by omega
      have Hk := Lib.hid hk
      clear hk hc M21 A21 B21
      rw [rounds_succ]
      go_wp2
      go_quiet ((go_at_call 72; refine (hM _).mono ?_; rintro e w' ⟨rfl, rfl⟩; exact ⟨rfl, ⟨_, rfl⟩⟩))
      go_wp2
      rw [Hk.out]
      clear hM hA hB hx hy hh hb Hk
      obtain ⟨h22, l22, hM, M22⟩ := mul_ex a2 b2 HA2.out HB2.out
      obtain ⟨o22, x22, hA, A22⟩ := add_ex r4 l22 HR4.out M22.out.2.1
      obtain ⟨p22, y22, hB, B22⟩ := add_ex o22 c21 A22.out.2.1 S21.out.2.2
      obtain ⟨c22, hc⟩ : ∃ c, c = h22 + x22 + y22 := ⟨_, rfl⟩
      have S22 := Lib.hid (step_eq M22.out A22.out B22.out hc HR4.out S21.out.2.2)
      have hx : x22 ≤ 1 := A22.out.2.2
      have hy : y22 ≤ 1 := B22.out.2.2
      have hh : h22 ≤ 18446744073709551614 := M22.out.2.2.1
      have hb : h22 + x22 + y22 < 18446744073709551616 := by have := S22.out.2.2; omega
      have hk : ((h22 : Int) + x22 + y22) = (c22 : Int) := by omega
      have Hk := Lib.hid hk
      clear hk hc M22 A22 B22
      rw [rounds_succ]
      go_wp2
      go_quiet ((go_at_call 72; refine (hM _).mono ?_; rintro e w' ⟨rfl, rfl⟩; exact ⟨rfl, ⟨_, rfl⟩⟩))
      go_wp2
      rw [Hk.out]
      clear hM hA hB hx hy hh hb Hk
      obtain ⟨h23, l23, hM, M23⟩ := mul_ex a2 b3 HA2.out HB3.out
      obtain ⟨o23, x23, hA, A23⟩ := add_ex r5 l23 HR5.out M23.out.2.1
      obtain ⟨p23, y23, hB, B23⟩ := add_ex o23 c22 A23.out.2.1 S22.out.2.2
      obtain ⟨c23, hc⟩ : ∃ c, c = h23 + x23 + y23 := ⟨_, rfl⟩
      have S23 := Lib.hid (step_eq M23.out A23.out B23.out hc HR5.out S22.out.2.2)
      have hx : x23 ≤ 1 := A23.out.2.2
      have hy : y23 ≤ 1 := B23.out.2.2
      have hh : h23 ≤ 18446744073709551614 := M23.out.2.2.1
      have hb : h23 + x23 + y23 < 18446744073709551616 := by have := S23.out.2.2; omega
      have hk : ((h23 : Int) + x23 + y23) = (c23 : Int) := by omega
      have Hk := Lib.hid hk
      clear hk hc M23 A23 B23
      rw [rounds_succ]
      go_wp2
      go_quiet ((go_at_call 72; refine (hM _).mono ?_; rintro e w' ⟨rfl, rfl⟩; exact ⟨rfl, ⟨_, rfl⟩⟩))
      go_wp2
      rw [Hk.out]
      clear hM hA hB hx hy hh hb Hk
      rw [rounds_succ]
      go_wp2
      go_roundw
      case rel =>
        refine ⟨3, r0, r1, p20, p21, p22, p23, c23, r7, by omega, rfl, ⟨_, rfl⟩, HR0.out, HR1.out, S20.out.2.1, S21.out.2.1, S22.out.2.1, S23.out.2.1, S23.out.2.2, HR7.out, Or.inr (Or.inr (Or.inr (Or.inl ⟨rfl, ?_⟩)))⟩
        have hrow := row_eq S20.out.1 S21.out.1 S22.out.1 S23.out.1
        have hv := HV.out
        clear S20 S21 S22 S23 HV HR0 HR1 HR2 HR3 HR4 HR5 HR6 HR7 HA0 HA1 HA2 HA3 HB0 HB1 HB2 HB3 HZ HH
        generalize a0 * (b0 + 18446744073709551616 * (b1 + 18446744073709551616 * (b2 + 18446744073709551616 * (b3)))) = T0 at *; generalize a1 * (b0 + 18446744073709551616 * (b1 + 18446744073709551616 * (b2 + 18446744073709551616 * (b3)))) = T1 at *; generalize a2 * (b0 + 18446744073709551616 * (b1 + 18446744073709551616 * (b2 + 18446744073709551616 * (b3)))) = T2 at *; generalize a3 * (b0 + 18446744073709551616 * (b1 + 18446744073709551616 * (b2 + 18446744073709551616 * (b3)))) = T3 at *
        omega
      case measure => simp [intOf] <;> omega
    · have HV := Lib.hid hv
      clear hv hi
      rw [show ((3 : Nat) : Int) = 3 from rfl]
      go_wp2
      refine wp_loop_rounds 5 ?_
      obtain ⟨h30, l30, hM, M30⟩ := mul_ex a3 b0 HA3.out HB0.out
      obtain ⟨o30, x30, hA, A30⟩ := add_ex r3 l30 HR3.out M30.out.2.1
      obtain ⟨p30, y30, hB, B30⟩ := add_ex o30 0 A30.out.2.1 HZ.out
      simp only [show ((0 : Nat) : Int) = 0 from rfl] at hB
      obtain ⟨c30, hc⟩ : ∃ c, c = h30 + x30 + y30 := ⟨_, rfl⟩
      have S30 := Lib.hid (step_eq M30.out A30.out B30.out hc HR3.out HZ.out)
      have hx : x30 ≤ 1 := A30.out.2.2
      have hy : y30 ≤ 1 := B30.out.2.2
      have hh : h30 ≤ 18446744073709551614 := M30.out.2.2.1
      have hb : h30 + x30 + y30 < 18446744073709551616 := by have := S30.out.2.2; omega
      have hk : ((h30 : Int) + x30 + y30) = (c30 : Int) := by omega
      have Hk := Lib.hid hk
      clear hk hc M30 A30 B30
      rw [rounds_succ]
      go_wp2
      go_quiet ((go_at_call 72; refine (hM _).mono ?_; rintro e w' ⟨rfl, rfl⟩; exact ⟨rfl, ⟨_, rfl⟩⟩))
      go_wp2
      rw [Hk.out]
      clear hM hA hB hx hy hh hb Hk
      obtain ⟨h31, l31, hM, M31⟩ := mul_ex a3 b1 HA3.out HB1.out
      obtain ⟨o31, x31, hA, A31⟩ := add_ex r4 l31 HR4.out M31.out.2.1
      obtain ⟨p31, y31, hB, B31⟩ := add_ex o31 c30 A31.out.2.1 S30.out.2.2
      obtain ⟨c31, hc⟩ : ∃ c, c = h31 + x31 + y31 := ⟨_, rfl⟩
      have S31 := Lib.hid (step_eq M31.out A31.out B31.out hc HR4.out S30.out.2.2)
      have hx : x31 ≤ 1 := A31.out.2.2
      have hy : y31 ≤ 1 := B31.out.2.2
      have hh : h31 ≤ 18446744073709551614 := M31.out.2.2.1
      have hb : h31 + x31 + y31 < 18446744073709551616 := by have := S31.out.2.2; omega
      have hk : ((h31 : Int) + x31 + y31) = (c31 : Int) := by omega
      have Hk := Lib.hid hk
      clear hk hc M31 A31 B31
      rw [rounds_succ]
      go_wp2
      go_quiet ((go_at_call 72; refine (hM _).mono ?_; rintro e w' ⟨rfl, rfl⟩; exact ⟨rfl, ⟨_, rfl⟩⟩))
      go_wp2
      rw [Hk.out]
      clear hM hA hB hx hy hh hb Hk
      obtain ⟨h32, l32, hM, M32⟩ := mul_ex a3 b2 HA3.out HB2.out
      obtain ⟨o32, x32, hA, A32⟩ := add_ex r5 l32 HR5.out M32.out.2.1
      obtain ⟨p32, y32, hB, B32⟩ := add_ex o32 c31 A32.out.2.1 S31.out.2.2
      obtain ⟨c32, hc⟩ : ∃ c, c = h32 + x32 + y32 := ⟨_, rfl⟩
      have S32 := Lib.hid (step_eq M32.out A32.out B32.out hc HR5.out S31.out.2.2)
      have hx : x32 ≤ 1 := A32.out.2.2
      have hy : y32 ≤ 1 := B32.out.2.2
      have hh : h32 ≤ 18446744073709551614 := M32.out.2.2.1
      have hb : h32 + x32 + y32 < 18446744073709551616 := by have := S32.out.2.2; omega
      have hk : ((h32 : Int) + x32 + y32) = (c32 : Int) := by omega
      have Hk := Lib.hid hk
      clear hk hc M32 A32 B32
      rw [rounds_succ]
      go_wp2
      go_quiet ((go_at_call 72; refine (hM _).mono ?_; rintro e w' ⟨rfl, rfl⟩; exact ⟨rfl, ⟨_, rfl⟩⟩))
      go_wp2
      rw [Hk.out]
      clear hM hA hB hx hy hh hb Hk
      obtain ⟨h33, l33, hM, M33⟩ := mul_ex a3 b3 HA3.out HB3.out
      obtain ⟨o33, x33, hA, A33⟩ := add_ex r6 l33 HR6.out M33.out.2.1
      obtain ⟨p33, y33, hB, B33⟩ := add_ex o33 c32 A33.out.2.1 S32.out.2.2
      obtain ⟨c33, hc⟩ : ∃ c, c = h33 + x33 + y33 := ⟨_, rfl⟩
      have S33 := Lib.hid (step_eq M33.out A33.out B33.out hc HR6.out S32.out.2.2)
      have hx : x33 ≤ 1 := A33.out.2.2
      have hy : y33 ≤ 1 := B33.out.2.2
      have hh : h33 ≤ 18446744073709551614 := M33.out.2.2.1
      have hb : h33 + x33 + y33 < 18446744073709551616 := by have := S33.out.2.2; omega
      have hk : ((h33 : Int) + x33 + y33) = (c33 : Int) := by omega
      have Hk := Lib.hid hk
      clear hk hc M33 A33 B33
      rw [rounds_succ]
      go_wp2
      go_quiet ((go_at_call 72; refine (hM _).mono ?_; rintro e w' ⟨rfl, rfl⟩; exact ⟨rfl, ⟨_, rfl⟩⟩))
      go_wp2
      rw [Hk.out]
      clear hM hA hB hx hy hh hb Hk
      rw [rounds_succ]
      go_wp2
      go_roundw
      case rel =>
        refine ⟨4, r0, r1, r2, p30, p31, p32, p33, c33, by omega, rfl, ⟨_, rfl⟩, HR0.out, HR1.out, HR2.out, S30.out.2.1, S31.out.2.1, S32.out.2.1, S33.out.2.1, S33.out.2.2, Or.inr (Or.inr (Or.inr (Or.inr (⟨rfl, ?_⟩))))⟩
        have hrow := row_eq S30.out.1 S31.out.1 S32.out.1 S33.out.1
        have hv := HV.out
        clear S30 S31 S32 S33 HV HR0 HR1 HR2 HR3 HR4 HR5 HR6 HR7 HA0 HA1 HA2 HA3 HB0 HB1 HB2 HB3 HZ HH
        generalize a0 * (b0 + 18446744073709551616 * (b1 + 18446744073709551616 * (b2 + 18446744073709551616 * (b3)))) = T0 at *; generalize a1 * (b0 + 18446744073709551616 * (b1 + 18446744073709551616 * (b2 + 18446744073709551616 * (b3)))) = T1 at *; generalize a2 * (b0 + 18446744073709551616 * (b1 + 18446744073709551616 * (b2 + 18446744073709551616 * (b3)))) = T2 at *; generalize a3 * (b0 + 18446744073709551616 * (b1 + 18446744073709551616 * (b2 + 18446744073709551616 * (b3)))) = T3 at *
        omega
      case measure => simp [intOf] <;> omega
    · have HV := Lib.hid hv
      clear hv hi
      rw [show ((4 : Nat) : Int) = 4 from rfl]
      go_wp2
      go_region
      go_wp2
      obtain ⟨e1, e2⟩ := HH.out r0 r1 r2 r3 r4 r5 r6 r7 HR0.out HR1.out HR2.out HR3.out HR4.out HR5.out HR6.out HR7.out (HV.out.trans (prod_eq _ _ _ _ _))
      refine bodyPost_ret (v := .tuple #[lo, hi]) (by rw [e1, e2]; simp [results, Try.results31, go_sem]) rfl ⟨rfl, ?_⟩
      have dN : ∀ (B : Nat) (a w : World) (n : Nat), Below B a w → Below B a (w.drewN n) := fun B a w n h => ⟨h.os, h.tape, h.output, h.size, h.block⟩
      repeat first | exact Below.refl _ _ | refine Below.drew ?_ | refine dN _ _ _ _ ?_ | (refine Below.setCell ?_ (by (try simp) <;> omega) _) | (refine Below.alloc ?_ (by (try simp) <;> omega) _)

end Go.Proofs.Ytmecomgifmkkfaa
