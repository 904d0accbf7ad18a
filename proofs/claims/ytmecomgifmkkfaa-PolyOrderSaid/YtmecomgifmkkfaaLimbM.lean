/- What is left of a number of 512 bits, by the program and by the page: what each call answers. -/
import Derived.Test.YtmecomgifmkkfaaProg
import Derived.Test.YtmecomgifmkkfaaNum
import Derived.Test.YtmecomgifmkkfaaShelf
import Derived.Test.YtmecomgifmkkfaaLimbA
import Derived.Test.YtmecomgifmkkfaaEqs
import Derived.WalkSpells
import Derived.WalkLawsBesides
import Derived.Handy
import Derived.Lib.Hide
import Derived.RegionTactic
import Derived.ChangeAlike
import Derived.BigRegion
import Derived.BigQuiet
import Derived.Test.YtmecomgifmkkfaaLimbB
import Derived.Test.YtmecomgifmkkfaaLimbC
import Derived.Test.YtmecomgifmkkfaaMem
import Derived.Test.YtmecomgifmkkfaaOrd
import Derived.WalkSmall
import Derived.Deep.Cut
import Derived.Deep.RegionHeld3
namespace Go.Proofs.Ytmecomgifmkkfaa
set_option linter.unusedVariables false
set_option linter.unusedSimpArgs false
open Go.RowKit

/-- A bit of the two numbers' one. -/
theorem mod_bit {hi lo b i : Nat} (hh : hi < W256) (hl : lo < W256) (hb : b = (hi * W256 + lo) / 2 ^ i % 2) (hi' : i < 512) :
    (256 ≤ i → bitI hi ((i : Int) % 256) = (b : Int)) ∧ (¬ 256 ≤ i → bitI lo ((i : Int) % 256) = (b : Int)) := by
  have hn : ¬ ((i : Int) % 256 < 0) := by omega
  unfold bitI
  simp only [if_neg hn]
  rw [W256_pow] at *
  constructor
  · intro h
    rw [show ((i : Int) % 256).toNat = i - 256 by omega, hb]
    congr 2
    obtain ⟨k, rfl⟩ : ∃ k, i = 256 + k := ⟨i - 256, by omega⟩
    rw [Nat.pow_add, ← Nat.div_div_eq_div_mul, Nat.mul_comm hi, Nat.mul_add_div (Nat.two_pow_pos _), Nat.div_eq_of_lt hl]
    simp
  · intro h
    rw [show ((i : Int) % 256).toNat = i by omega, hb]
    congr 1
    obtain ⟨k, hk⟩ : ∃ k, 256 = i + 1 + k := ⟨255 - i, by omega⟩
    have e : hi * 2 ^ 256 = 2 ^ i * (2 * (hi * 2 ^ k)) := by
      rw [hk, Nat.pow_add, Nat.pow_succ]
      simp only [Nat.mul_assoc, Nat.mul_left_comm]
    rw [e, Nat.mul_add_div (Nat.two_pow_pos _), Nat.add_comm, Nat.add_mul_mod_self_left]

theorem mod_even {y r b : Nat} (hy : y = (r + r) % W256) (hb : b ≤ 1) (hr : r < W256) :
    bits .or .u64 (dg y 0 : Nat) (b : Int) = (dg (y + b) 0 : Nat) ∧ dg (y + b) 1 = dg y 1 ∧ dg (y + b) 2 = dg y 2 ∧ dg (y + b) 3 = dg y 3 := by
  have he : y % 2 = 0 := by unfold W256 at *; omega
  have hd := dg_lt y 0
  have h0 : dg y 0 % 2 = 0 := by rw [dg0]; omega
  refine ⟨?_, ?_, ?_, ?_⟩
  · rw [bits_or_u64_nat _ b hd (by omega)]
    have : dg y 0 ||| b = dg y 0 + b := by
      obtain ⟨k, hk⟩ : ∃ k, dg y 0 = 2 ^ 1 * k := ⟨dg y 0 / 2, by omega⟩
      rw [hk, ← Nat.two_pow_add_eq_or_of_lt (by omega)]
    rw [this, dg0, dg0]
    congr 1
    omega
  · rw [dg1, dg1]; omega
  · rw [dg2, dg2]; omega
  · rw [dg3, dg3]; omega

theorem mod_fin {X y r b m i : Nat} (hy : y = (r + r) % W256) (hb : b = X / 2 ^ i % 2) (hr : X / 2 ^ (i + 1) % m = r) (hrW : r < W256) (hm : m < W256) (hm0 : 0 < m) :
    (dg r 3 / 9223372036854775808 = 1 → (y + b + W256 - m) % W256 = X / 2 ^ i % m) ∧
    (¬ dg r 3 / 9223372036854775808 = 1 → m ≤ y + b → (y + b + W256 - m) % W256 = X / 2 ^ i % m) ∧
    (¬ dg r 3 / 9223372036854775808 = 1 → ¬ m ≤ y + b → y + b = X / 2 ^ i % m) ∧ y + b < W256 := by
  have e1 : X / 2 ^ i = 2 * (X / 2 ^ (i + 1)) + b := by
    rw [Nat.pow_succ, ← Nat.div_div_eq_div_mul]; omega
  have e2 : X / 2 ^ i % m = (2 * r + b) % m := by
    rw [e1, ← hr, Nat.add_mod, Nat.mul_mod, Nat.add_mod (2 * (X / 2 ^ (i + 1) % m)), Nat.mul_mod 2 (X / 2 ^ (i + 1) % m), Nat.mod_mod]
  have hrm : r < m := by rw [← hr]; exact Nat.mod_lt _ hm0
  have hb1 : b ≤ 1 := by omega
  rw [e2]
  have h3 : dg r 3 = r / 6277101735386680763835789423207666416102355444464034512896 := by
    rw [dg3, Nat.mod_eq_of_lt]; unfold W256 at hrW; omega
  have e3 : ∀ k, m ≤ k → k < 2 * m → k % m = k - m := fun k h1 h2 => by
    rw [Nat.mod_eq_sub_mod h1, Nat.mod_eq_of_lt (by omega)]
  rw [h3]
  clear hb hr e1 e2 h3
  refine ⟨fun h => ?_, fun h h' => ?_, fun h h' => ?_, ?_⟩
  · rw [e3 _ (by unfold W256 at *; omega) (by omega)]
    unfold W256 at *; omega
  · have hy' : y = r + r := by unfold W256 at *; omega
    rw [e3 _ (by omega) (by omega)]
    unfold W256 at *; omega
  · have hy' : y = r + r := by unfold W256 at *; omega
    rw [Nat.mod_eq_of_lt (by omega)]
    omega
  · unfold W256 at *; omega


/-- Blocks b, b + 1, .. hold these numbers. -/
def ModAt (w : World) (hi lo m r : Nat) (w' : World) : Prop :=
  Below w.heap.size w w' ∧ NumAt w' w.heap.size hi ∧ NumAt w' (w.heap.size + 1) lo ∧ NumAt w' (w.heap.size + 1 + 1) m ∧ NumAt w' (w.heap.size + 1 + 1 + 1) 0 ∧ NumAt w' (w.heap.size + 1 + 1 + 1 + 1) r

set_option maxHeartbeats 400000 in
set_option maxRecDepth 100000 in
theorem mod_calls (hi lo m : Nat) (hh : hi < W256) (hl : lo < W256) (hm : m < W256) (hm0 : m ≠ 0) (w : World) :
    Calls Try.prog 25 #[numV hi, numV lo, numV m] w fun e w' => e = .returned (.tuple #[numV ((hi * W256 + lo) % m), .int .i64 0]) ∧ Below w.heap.size w w' := by
  have hE := fun w => eq_num_zero hm w
  have hd : decide (m = 0) = false := decide_eq_false hm0
  simp only [hd] at hE
  have hg := eqGuard_num
  have HH := Lib.hid hh; have HL := Lib.hid hl; have HM := Lib.hid hm; have HM0 := Lib.hid hm0
  clear hh hl hm hm0 hd
  rw [numV_eq hi, numV_eq lo, numV_eq m]
  go_enter Try.func25, Try.ntmps25
  go_wp2
  go_loopw [9] (fun t wr => ∃ k : Nat, k ≤ 512 ∧ t = .int .i64 ((k : Int) - 1) ∧ ModAt w hi lo m ((hi * W256 + lo) / 2 ^ k % m) wr) (fun t _ => (intOf t + 1).toNat)
  case atStart =>
    have hX : (hi * W256 + lo) / 2 ^ 512 % m = 0 := by
      have h1 := HH.out
      have h2 := HL.out
      rw [Nat.div_eq_of_lt, Nat.zero_mod]
      unfold W256 at *
      omega
    rw [show ((511 : Int)) = ((512 : Nat) : Int) - 1 from rfl]
    refine ⟨512, by omega, rfl, ?_⟩
    rw [hX]
    refine ⟨?_, ?_, ?_, ?_, ?_, ?_⟩
    · repeat first | exact Below.refl _ _ | refine Below.drew ?_ | (refine Below.setCell ?_ (by (try simp) <;> omega) _) | (refine Below.alloc ?_ (by (try simp) <;> omega) _)
    · exact ((((NumAt.new w hi).alloc _).alloc _).alloc _).alloc _
    · exact (((NumAt.newAt _ _ lo (by simp)).alloc _).alloc _).alloc _
    · exact ((NumAt.newAt _ _ m (by simp)).alloc _).alloc _
    · exact (NumAt.newAt _ _ 0 (by simp)).alloc _
    · exact NumAt.newAt _ _ 0 (by simp)
  case round =>
    obtain ⟨k, hk, rfl, hB, Nhi, Nlo, Nm, Nz, Nr⟩ := hrel
    by_cases h0 : k = 0
    · subst h0
      rw [Nat.pow_zero, Nat.div_one] at Nr
      have Fr := Nr.facts; have Fz := Nz.facts
      have s3 := Nz.lt; have s4 := Nr.lt
      go_wp2
      refine bodyPost_ret (v := .tuple #[numV ((hi * W256 + lo) % m), .int .i64 0]) (by unfold numV; simp [results, Try.results25, go_sem, Fz, Fr]) rfl ⟨rfl, ?_⟩
      exact below_put (below_put (below_put (below_put hB (by omega) _ _) (by omega) _ _) (by omega) _ _) (by omega) _ _
    · obtain ⟨i, rfl⟩ : ∃ i, k = i + 1 := ⟨k - 1, by omega⟩
      rw [show ((i + 1 : Nat) : Int) - 1 = i by omega]
      clear h0
      have hi' : i < 512 := by omega
      generalize hr : (hi * W256 + lo) / 2 ^ (i + 1) % m = r at *
      have Hr := Lib.hid hr
      clear hr
      have Fhi := Nhi.facts; have Flo := Nlo.facts; have Fr := Nr.facts; have Fm := Nm.facts
      have s0 := Nhi.lt; have s1 := Nlo.lt; have s2 := Nm.lt; have s3 := Nz.lt; have s4 := Nr.lt
      obtain ⟨b, hb, hb1⟩ : ∃ b : Nat, b = (hi * W256 + lo) / 2 ^ i % 2 ∧ b ≤ 1 := ⟨_, rfl, by omega⟩
      have Hb := Lib.hid hb
      clear hb
      have hrW : r < W256 := by have h1 := Nat.mod_lt ((hi * W256 + lo) / 2 ^ (i + 1)) (Nat.pos_of_ne_zero HM0.out); rw [Hr.out] at h1; exact Nat.lt_trans h1 HM.out
      have HR := Lib.hid hrW
      clear hrW
      by_cases hge : 256 ≤ i
      · have hbit : bitI hi ((i : Int) % 256) = (b : Int) := by
          have h1 := mod_bit HH.out HL.out Hb.out hi'
          exact h1.1 (by omega)
        have Hbit := Lib.hid hbit
        clear hbit
        go_wp2_with fail
        refine (add_calls r r HR.out HR.out _).mono ?_
        rintro e w2 ⟨rfl, hB2⟩
        have Nx2 := (NumAt.new wr hi).kept hB2
        have Nhi2 := (Nhi.alloc _).kept hB2; have Nlo2 := (Nlo.alloc _).kept hB2; have Nm2 := (Nm.alloc _).kept hB2; have Nz2 := (Nz.alloc _).kept hB2; have Nr2 := (Nr.alloc _).kept hB2
        have hBw2 : Below w.heap.size w w2 := (hB.alloc (by omega) _).trans (hB2.mono (by (try simp) <;> omega))
        clear Fhi Flo Fr Fm hB2 hB Nhi Nlo Nm Nz Nr
        have F2 := Nr2.facts
        obtain ⟨y, hy⟩ : ∃ y, y = (r + r) % W256 := ⟨_, rfl⟩
        rw [← hy, numV_eq y]
        have Hy := Lib.hid hy
        clear hy
        go_upto_region 12 with (fail)
        refine abs_world (fun w3 => Below w.heap.size w w3 ∧ NumAt w3 w.heap.size hi ∧ NumAt w3 (w.heap.size + 1) lo ∧ NumAt w3 (w.heap.size + 1 + 1) m ∧ NumAt w3 (w.heap.size + 1 + 1 + 1) 0 ∧ NumAt w3 (w.heap.size + 1 + 1 + 1 + 1) y ∧ NumAt w3 wr.heap.size hi) ?_ ?_
        · have ne : ∀ k : Nat, k < wr.heap.size → wr.heap.size ≠ k := fun k h => by omega
          refine ⟨below_put (below_put (below_put (below_put hBw2 (by omega) _ _) (by omega) _ _) (by omega) _ _) (by omega) _ _, ?_, ?_, ?_, ?_, Nr2.put y, ?_⟩
          · exact (((Nhi2.other _ _ (by (try simp) <;> omega)).other _ _ (by (try simp) <;> omega)).other _ _ (by (try simp) <;> omega)).other _ _ (by (try simp) <;> omega)
          · exact (((Nlo2.other _ _ (by (try simp) <;> omega)).other _ _ (by (try simp) <;> omega)).other _ _ (by (try simp) <;> omega)).other _ _ (by (try simp) <;> omega)
          · exact (((Nm2.other _ _ (by (try simp) <;> omega)).other _ _ (by (try simp) <;> omega)).other _ _ (by (try simp) <;> omega)).other _ _ (by (try simp) <;> omega)
          · exact (((Nz2.other _ _ (by (try simp) <;> omega)).other _ _ (by (try simp) <;> omega)).other _ _ (by (try simp) <;> omega)).other _ _ (by (try simp) <;> omega)
          · exact (((Nx2.other _ _ (ne _ s4)).other _ _ (ne _ s4)).other _ _ (ne _ s4)).other _ _ (ne _ s4)
        clear F2 hBw2 Nx2 Nhi2 Nlo2 Nm2 Nz2 Nr2
        intro w3 ⟨hB3, Nhi3, Nlo3, Nm3, Nz3, Nr3, Nx3⟩
        have Gr : ∀ z : Ext w3, z.w.cell? ⟨w.heap.size + 1 + 1 + 1 + 1, 0, none⟩ = some (.int .u64 (dg y 0 : Nat)) := fun z => (Nr3.kept z.below).cell 0 (by decide)
        have Gx0 : ∀ z : Ext w3, z.w.cell? ⟨wr.heap.size, 0, none⟩ = some (.int .u64 (dg hi 0 : Nat)) := fun z => (Nx3.kept z.below).cell 0 (by decide)
        have Gx1 : ∀ z : Ext w3, z.w.cell? ⟨wr.heap.size, 1, none⟩ = some (.int .u64 (dg hi 1 : Nat)) := fun z => (Nx3.kept z.below).cell 1 (by decide)
        have Gx2 : ∀ z : Ext w3, z.w.cell? ⟨wr.heap.size, 2, none⟩ = some (.int .u64 (dg hi 2 : Nat)) := fun z => (Nx3.kept z.below).cell 2 (by decide)
        have Gx3 : ∀ z : Ext w3, z.w.cell? ⟨wr.heap.size, 3, none⟩ = some (.int .u64 (dg hi 3 : Nat)) := fun z => (Nx3.kept z.below).cell 3 (by decide)
        refine ext_region_tail 9 (by kernel_rfl) (by kernel_rfl) ?_
        simp only [List.take_succ_cons, List.take_zero, List.drop_succ_cons, List.drop_zero]
        repeat (go_big_quiet_step ((go_at_call 36; refine (bit_calls hi ((i : Int) % 256) HH.out _).mono ?_; rintro e w4 ⟨rfl, hB4⟩; rw [Hbit.out]; exact ⟨rfl, Ext.on _ hB4⟩)))
        refine wpQuiet_nil ?_
        intro z
        clear Gr Gx0 Gx1 Gx2 Gx3
        have Nhi4 := Nhi3.kept z.below; have Nlo4 := Nlo3.kept z.below; have Nm4 := Nm3.kept z.below; have Nz4 := Nz3.kept z.below; have Nr4 := Nr3.kept z.below
        have hB4 := hB3.trans (z.below.mono hB3.size)
        generalize z.w = w4 at *
        clear Nhi3 Nlo3 Nm3 Nz3 Nr3 Nx3 hB3 z
        have F4 := Nr4.facts
        have hyW : y < W256 := by have := Hy.out; rw [this]; exact Nat.mod_lt _ W256_pos
        have hev := mod_even Hy.out hb1 HR.out
        go_upto_region 13 with (fail)
        refine abs_world (fun w5 => ModAt w hi lo m (y + b) w5) ?_ ?_
        · exact ⟨below_put hB4 (by omega) _ _, Nhi4.other _ _ (by (try simp) <;> omega), Nlo4.other _ _ (by (try simp) <;> omega), Nm4.other _ _ (by (try simp) <;> omega), Nz4.other _ _ (by (try simp) <;> omega), Nr4.put0 rfl hev.2.1 hev.2.2.1 hev.2.2.2⟩
        have Hev := Lib.hid (mod_fin Hy.out Hb.out Hr.out HR.out HM.out (Nat.pos_of_ne_zero HM0.out))
        clear hev hyW F4 hB4 Nhi4 Nlo4 Nm4 Nz4 Nr4 w4 w3 w2 s0 s1 s2 s3 s4
        generalize hs : y + b = s at *
        clear hs
        intro w5 ⟨hB5, Nhi5, Nlo5, Nm5, Nz5, Nr5⟩
        have s0 := Nhi5.lt; have s1 := Nlo5.lt; have s2 := Nm5.lt; have s3 := Nz5.lt; have s4 := Nr5.lt
        have Fm5 := Nm5.facts; have Fr5 := Nr5.facts
        by_cases ho : dg r 3 / 9223372036854775808 = 1
        · have ho1 : ((dg r 3 : Int) / 9223372036854775808 == 1) = true := by rw [beq_iff_eq]; omega
          have Hfin := Lib.hid (Hev.out.1 ho)
          have HS := Lib.hid Hev.out.2.2.2
          clear Hev ho
          go_wp2_with fail
          refine (sub_calls s m HS.out HM.out _).mono ?_
          rintro e w6 ⟨rfl, hB6⟩
          rw [numV_eq ((s + W256 - m) % W256)]
          have Nhi6 := Nhi5.kept hB6; have Nlo6 := Nlo5.kept hB6; have Nm6 := Nm5.kept hB6; have Nz6 := Nz5.kept hB6; have Nr6 := Nr5.kept hB6
          have hB7 := hB5.trans (hB6.mono hB5.size)
          clear Fm5 Fr5
          have F6 := Nr6.facts
          go_wp2
          go_roundw
          case rel =>
            refine ⟨i, by omega, rfl, ?_⟩
            rw [← Hfin.out]
            refine ⟨below_put (below_put (below_put (below_put hB7 (by omega) _ _) (by omega) _ _) (by omega) _ _) (by omega) _ _, ?_, ?_, ?_, ?_, Nr6.put _⟩
            · exact (((Nhi6.other _ _ (by (try simp) <;> omega)).other _ _ (by (try simp) <;> omega)).other _ _ (by (try simp) <;> omega)).other _ _ (by (try simp) <;> omega)
            · exact (((Nlo6.other _ _ (by (try simp) <;> omega)).other _ _ (by (try simp) <;> omega)).other _ _ (by (try simp) <;> omega)).other _ _ (by (try simp) <;> omega)
            · exact (((Nm6.other _ _ (by (try simp) <;> omega)).other _ _ (by (try simp) <;> omega)).other _ _ (by (try simp) <;> omega)).other _ _ (by (try simp) <;> omega)
            · exact (((Nz6.other _ _ (by (try simp) <;> omega)).other _ _ (by (try simp) <;> omega)).other _ _ (by (try simp) <;> omega)).other _ _ (by (try simp) <;> omega)
          case measure => simp [intOf] <;> omega
        · have ho1 : ((dg r 3 : Int) / 9223372036854775808 == 1) = false := by rw [beq_eq_false_iff_ne]; omega
          have HS := Lib.hid Hev.out.2.2.2
          by_cases hms : m ≤ s
          · have hcm : 0 ≤ cmpI s m := by unfold cmpI; rw [if_neg (by omega)]; split <;> omega
            have Hfin := Lib.hid (Hev.out.2.1 ho hms)
            clear Hev ho hms
            go_wp2_with fail
            refine (cmp_calls s m HS.out HM.out _).mono ?_
            rintro e w6 ⟨rfl, hB6⟩
            have Nhi6 := Nhi5.kept hB6; have Nlo6 := Nlo5.kept hB6; have Nm6 := Nm5.kept hB6; have Nz6 := Nz5.kept hB6; have Nr6 := Nr5.kept hB6
            have hB7 := hB5.trans (hB6.mono hB5.size)
            clear Fm5 Fr5 hB5 Nhi5 Nlo5 Nm5 Nz5 Nr5 hB6
            have Fm6 := Nm6.facts; have Fr6 := Nr6.facts
            go_wp2_with fail
            refine (sub_calls s m HS.out HM.out _).mono ?_
            rintro e w8 ⟨rfl, hB8⟩
            rw [numV_eq ((s + W256 - m) % W256)]
            have Nhi8 := Nhi6.kept hB8; have Nlo8 := Nlo6.kept hB8; have Nm8 := Nm6.kept hB8; have Nz8 := Nz6.kept hB8; have Nr8 := Nr6.kept hB8
            have hB9 := hB7.trans (hB8.mono hB7.size)
            clear Fm6 Fr6
            have F8 := Nr8.facts
            go_wp2
            go_roundw
            case rel =>
              refine ⟨i, by omega, rfl, ?_⟩
              rw [← Hfin.out]
              refine ⟨below_put (below_put (below_put (below_put hB9 (by omega) _ _) (by omega) _ _) (by omega) _ _) (by omega) _ _, ?_, ?_, ?_, ?_, Nr8.put _⟩
              · exact (((Nhi8.other _ _ (by (try simp) <;> omega)).other _ _ (by (try simp) <;> omega)).other _ _ (by (try simp) <;> omega)).other _ _ (by (try simp) <;> omega)
              · exact (((Nlo8.other _ _ (by (try simp) <;> omega)).other _ _ (by (try simp) <;> omega)).other _ _ (by (try simp) <;> omega)).other _ _ (by (try simp) <;> omega)
              · exact (((Nm8.other _ _ (by (try simp) <;> omega)).other _ _ (by (try simp) <;> omega)).other _ _ (by (try simp) <;> omega)).other _ _ (by (try simp) <;> omega)
              · exact (((Nz8.other _ _ (by (try simp) <;> omega)).other _ _ (by (try simp) <;> omega)).other _ _ (by (try simp) <;> omega)).other _ _ (by (try simp) <;> omega)
            case measure => simp [intOf] <;> omega
          · have hcm : cmpI s m < 0 := by unfold cmpI; rw [if_pos (by omega)]; omega
            have Hfin := Lib.hid (Hev.out.2.2.1 ho hms)
            clear Hev ho hms
            go_wp2_with fail
            refine (cmp_calls s m HS.out HM.out _).mono ?_
            rintro e w6 ⟨rfl, hB6⟩
            have Nhi6 := Nhi5.kept hB6; have Nlo6 := Nlo5.kept hB6; have Nm6 := Nm5.kept hB6; have Nz6 := Nz5.kept hB6; have Nr6 := Nr5.kept hB6
            have hB7 := hB5.trans (hB6.mono hB5.size)
            clear Fm5 Fr5 hB5 Nhi5 Nlo5 Nm5 Nz5 Nr5 hB6
            go_wp2
            go_roundw
            case rel =>
              refine ⟨i, by omega, rfl, ?_⟩
              rw [← Hfin.out]
              exact ⟨hB7, Nhi6, Nlo6, Nm6, Nz6, Nr6⟩
            case measure => simp [intOf] <;> omega
      · have hbit : bitI lo ((i : Int) % 256) = (b : Int) := by
          have h1 := mod_bit HH.out HL.out Hb.out hi'
          exact h1.2 (by omega)
        have Hbit := Lib.hid hbit
        clear hbit
        go_wp2_with fail
        refine (add_calls r r HR.out HR.out _).mono ?_
        rintro e w2 ⟨rfl, hB2⟩
        have Nx2 := (NumAt.new wr lo).kept hB2
        have Nhi2 := (Nhi.alloc _).kept hB2; have Nlo2 := (Nlo.alloc _).kept hB2; have Nm2 := (Nm.alloc _).kept hB2; have Nz2 := (Nz.alloc _).kept hB2; have Nr2 := (Nr.alloc _).kept hB2
        have hBw2 : Below w.heap.size w w2 := (hB.alloc (by omega) _).trans (hB2.mono (by (try simp) <;> omega))
        clear Fhi Flo Fr Fm hB2 hB Nhi Nlo Nm Nz Nr
        have F2 := Nr2.facts
        obtain ⟨y, hy⟩ : ∃ y, y = (r + r) % W256 := ⟨_, rfl⟩
        rw [← hy, numV_eq y]
        have Hy := Lib.hid hy
        clear hy
        go_upto_region 12 with (fail)
        refine abs_world (fun w3 => Below w.heap.size w w3 ∧ NumAt w3 w.heap.size hi ∧ NumAt w3 (w.heap.size + 1) lo ∧ NumAt w3 (w.heap.size + 1 + 1) m ∧ NumAt w3 (w.heap.size + 1 + 1 + 1) 0 ∧ NumAt w3 (w.heap.size + 1 + 1 + 1 + 1) y ∧ NumAt w3 wr.heap.size lo) ?_ ?_
        · have ne : ∀ k : Nat, k < wr.heap.size → wr.heap.size ≠ k := fun k h => by omega
          refine ⟨below_put (below_put (below_put (below_put hBw2 (by omega) _ _) (by omega) _ _) (by omega) _ _) (by omega) _ _, ?_, ?_, ?_, ?_, Nr2.put y, ?_⟩
          · exact (((Nhi2.other _ _ (by (try simp) <;> omega)).other _ _ (by (try simp) <;> omega)).other _ _ (by (try simp) <;> omega)).other _ _ (by (try simp) <;> omega)
          · exact (((Nlo2.other _ _ (by (try simp) <;> omega)).other _ _ (by (try simp) <;> omega)).other _ _ (by (try simp) <;> omega)).other _ _ (by (try simp) <;> omega)
          · exact (((Nm2.other _ _ (by (try simp) <;> omega)).other _ _ (by (try simp) <;> omega)).other _ _ (by (try simp) <;> omega)).other _ _ (by (try simp) <;> omega)
          · exact (((Nz2.other _ _ (by (try simp) <;> omega)).other _ _ (by (try simp) <;> omega)).other _ _ (by (try simp) <;> omega)).other _ _ (by (try simp) <;> omega)
          · exact (((Nx2.other _ _ (ne _ s4)).other _ _ (ne _ s4)).other _ _ (ne _ s4)).other _ _ (ne _ s4)
        clear F2 hBw2 Nx2 Nhi2 Nlo2 Nm2 Nz2 Nr2
        intro w3 ⟨hB3, Nhi3, Nlo3, Nm3, Nz3, Nr3, Nx3⟩
        have Gr : ∀ z : Ext w3, z.w.cell? ⟨w.heap.size + 1 + 1 + 1 + 1, 0, none⟩ = some (.int .u64 (dg y 0 : Nat)) := fun z => (Nr3.kept z.below).cell 0 (by decide)
        have Gx0 : ∀ z : Ext w3, z.w.cell? ⟨wr.heap.size, 0, none⟩ = some (.int .u64 (dg lo 0 : Nat)) := fun z => (Nx3.kept z.below).cell 0 (by decide)
        have Gx1 : ∀ z : Ext w3, z.w.cell? ⟨wr.heap.size, 1, none⟩ = some (.int .u64 (dg lo 1 : Nat)) := fun z => (Nx3.kept z.below).cell 1 (by decide)
        have Gx2 : ∀ z : Ext w3, z.w.cell? ⟨wr.heap.size, 2, none⟩ = some (.int .u64 (dg lo 2 : Nat)) := fun z => (Nx3.kept z.below).cell 2 (by decide)
        have Gx3 : ∀ z : Ext w3, z.w.cell? ⟨wr.heap.size, 3, none⟩ = some (.int .u64 (dg lo 3 : Nat)) := fun z => (Nx3.kept z.below).cell 3 (by decide)
        refine ext_region_tail 9 (by kernel_rfl) (by kernel_rfl) ?_
        simp only [List.take_succ_cons, List.take_zero, List.drop_succ_cons, List.drop_zero]
        repeat (go_big_quiet_step ((go_at_call 36; refine (bit_calls lo ((i : Int) % 256) HL.out _).mono ?_; rintro e w4 ⟨rfl, hB4⟩; rw [Hbit.out]; exact ⟨rfl, Ext.on _ hB4⟩)))
        refine wpQuiet_nil ?_
        intro z
        clear Gr Gx0 Gx1 Gx2 Gx3
        have Nhi4 := Nhi3.kept z.below; have Nlo4 := Nlo3.kept z.below; have Nm4 := Nm3.kept z.below; have Nz4 := Nz3.kept z.below; have Nr4 := Nr3.kept z.below
        have hB4 := hB3.trans (z.below.mono hB3.size)
        generalize z.w = w4 at *
        clear Nhi3 Nlo3 Nm3 Nz3 Nr3 Nx3 hB3 z
        have F4 := Nr4.facts
        have hyW : y < W256 := by have := Hy.out; rw [this]; exact Nat.mod_lt _ W256_pos
        have hev := mod_even Hy.out hb1 HR.out
        go_upto_region 13 with (fail)
        refine abs_world (fun w5 => ModAt w hi lo m (y + b) w5) ?_ ?_
        · exact ⟨below_put hB4 (by omega) _ _, Nhi4.other _ _ (by (try simp) <;> omega), Nlo4.other _ _ (by (try simp) <;> omega), Nm4.other _ _ (by (try simp) <;> omega), Nz4.other _ _ (by (try simp) <;> omega), Nr4.put0 rfl hev.2.1 hev.2.2.1 hev.2.2.2⟩
        have Hev := Lib.hid (mod_fin Hy.out Hb.out Hr.out HR.out HM.out (Nat.pos_of_ne_zero HM0.out))
        clear hev hyW F4 hB4 Nhi4 Nlo4 Nm4 Nz4 Nr4 w4 w3 w2 s0 s1 s2 s3 s4
        generalize hs : y + b = s at *
        clear hs
        intro w5 ⟨hB5, Nhi5, Nlo5, Nm5, Nz5, Nr5⟩
        have s0 := Nhi5.lt; have s1 := Nlo5.lt; have s2 := Nm5.lt; have s3 := Nz5.lt; have s4 := Nr5.lt
        have Fm5 := Nm5.facts; have Fr5 := Nr5.facts
        by_cases ho : dg r 3 / 9223372036854775808 = 1
        · have ho1 : ((dg r 3 : Int) / 9223372036854775808 == 1) = true := by rw [beq_iff_eq]; omega
          have Hfin := Lib.hid (Hev.out.1 ho)
          have HS := Lib.hid Hev.out.2.2.2
          clear Hev ho
          go_wp2_with fail
          refine (sub_calls s m HS.out HM.out _).mono ?_
          rintro e w6 ⟨rfl, hB6⟩
          rw [numV_eq ((s + W256 - m) % W256)]
          have Nhi6 := Nhi5.kept hB6; have Nlo6 := Nlo5.kept hB6; have Nm6 := Nm5.kept hB6; have Nz6 := Nz5.kept hB6; have Nr6 := Nr5.kept hB6
          have hB7 := hB5.trans (hB6.mono hB5.size)
          clear Fm5 Fr5
          have F6 := Nr6.facts
          go_wp2
          go_roundw
          case rel =>
            refine ⟨i, by omega, rfl, ?_⟩
            rw [← Hfin.out]
            refine ⟨below_put (below_put (below_put (below_put hB7 (by omega) _ _) (by omega) _ _) (by omega) _ _) (by omega) _ _, ?_, ?_, ?_, ?_, Nr6.put _⟩
            · exact (((Nhi6.other _ _ (by (try simp) <;> omega)).other _ _ (by (try simp) <;> omega)).other _ _ (by (try simp) <;> omega)).other _ _ (by (try simp) <;> omega)
            · exact (((Nlo6.other _ _ (by (try simp) <;> omega)).other _ _ (by (try simp) <;> omega)).other _ _ (by (try simp) <;> omega)).other _ _ (by (try simp) <;> omega)
            · exact (((Nm6.other _ _ (by (try simp) <;> omega)).other _ _ (by (try simp) <;> omega)).other _ _ (by (try simp) <;> omega)).other _ _ (by (try simp) <;> omega)
            · exact (((Nz6.other _ _ (by (try simp) <;> omega)).other _ _ (by (try simp) <;> omega)).other _ _ (by (try simp) <;> omega)).other _ _ (by (try simp) <;> omega)
          case measure => simp [intOf] <;> omega
        · have ho1 : ((dg r 3 : Int) / 9223372036854775808 == 1) = false := by rw [beq_eq_false_iff_ne]; omega
          have HS := Lib.hid Hev.out.2.2.2
          by_cases hms : m ≤ s
          · have hcm : 0 ≤ cmpI s m := by unfold cmpI; rw [if_neg (by omega)]; split <;> omega
            have Hfin := Lib.hid (Hev.out.2.1 ho hms)
            clear Hev ho hms
            go_wp2_with fail
            refine (cmp_calls s m HS.out HM.out _).mono ?_
            rintro e w6 ⟨rfl, hB6⟩
            have Nhi6 := Nhi5.kept hB6; have Nlo6 := Nlo5.kept hB6; have Nm6 := Nm5.kept hB6; have Nz6 := Nz5.kept hB6; have Nr6 := Nr5.kept hB6
            have hB7 := hB5.trans (hB6.mono hB5.size)
            clear Fm5 Fr5 hB5 Nhi5 Nlo5 Nm5 Nz5 Nr5 hB6
            have Fm6 := Nm6.facts; have Fr6 := Nr6.facts
            go_wp2_with fail
            refine (sub_calls s m HS.out HM.out _).mono ?_
            rintro e w8 ⟨rfl, hB8⟩
            rw [numV_eq ((s + W256 - m) % W256)]
            have Nhi8 := Nhi6.kept hB8; have Nlo8 := Nlo6.kept hB8; have Nm8 := Nm6.kept hB8; have Nz8 := Nz6.kept hB8; have Nr8 := Nr6.kept hB8
            have hB9 := hB7.trans (hB8.mono hB7.size)
            clear Fm6 Fr6
            have F8 := Nr8.facts
            go_wp2
            go_roundw
            case rel =>
              refine ⟨i, by omega, rfl, ?_⟩
              rw [← Hfin.out]
              refine ⟨below_put (below_put (below_put (below_put hB9 (by omega) _ _) (by omega) _ _) (by omega) _ _) (by omega) _ _, ?_, ?_, ?_, ?_, Nr8.put _⟩
              · exact (((Nhi8.other _ _ (by (try simp) <;> omega)).other _ _ (by (try simp) <;> omega)).other _ _ (by (try simp) <;> omega)).other _ _ (by (try simp) <;> omega)
              · exact (((Nlo8.other _ _ (by (try simp) <;> omega)).other _ _ (by (try simp) <;> omega)).other _ _ (by (try simp) <;> omega)).other _ _ (by (try simp) <;> omega)
              · exact (((Nm8.other _ _ (by (try simp) <;> omega)).other _ _ (by (try simp) <;> omega)).other _ _ (by (try simp) <;> omega)).other _ _ (by (try simp) <;> omega)
              · exact (((Nz8.other _ _ (by (try simp) <;> omega)).other _ _ (by (try simp) <;> omega)).other _ _ (by (try simp) <;> omega)).other _ _ (by (try simp) <;> omega)
            case measure => simp [intOf] <;> omega
          · have hcm : cmpI s m < 0 := by unfold cmpI; rw [if_pos (by omega)]; omega
            have Hfin := Lib.hid (Hev.out.2.2.1 ho hms)
            clear Hev ho hms
            go_wp2_with fail
            refine (cmp_calls s m HS.out HM.out _).mono ?_
            rintro e w6 ⟨rfl, hB6⟩
            have Nhi6 := Nhi5.kept hB6; have Nlo6 := Nlo5.kept hB6; have Nm6 := Nm5.kept hB6; have Nz6 := Nz5.kept hB6; have Nr6 := Nr5.kept hB6
            have hB7 := hB5.trans (hB6.mono hB5.size)
            clear Fm5 Fr5 hB5 Nhi5 Nlo5 Nm5 Nz5 Nr5 hB6
            go_wp2
            go_roundw
            case rel =>
              refine ⟨i, by omega, rfl, ?_⟩
              rw [← Hfin.out]
              exact ⟨hB7, Nhi6, Nlo6, Nm6, Nz6, Nr6⟩
            case measure => simp [intOf] <;> omega

end Go.Proofs.Ytmecomgifmkkfaa
