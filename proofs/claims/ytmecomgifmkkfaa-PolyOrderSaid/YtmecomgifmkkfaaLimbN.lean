/- What is left of a number of 512 bits, by the page: what the call answers. -/
import Derived.Test.YtmecomgifmkkfaaProg
import Derived.Test.YtmecomgifmkkfaaNum
import Derived.Test.YtmecomgifmkkfaaShelf
import Derived.Test.YtmecomgifmkkfaaLimbA
import Derived.Test.YtmecomgifmkkfaaEqs
import Derived.WalkSpells
import Derived.WalkLawsBesides
import Derived.Handy
import Derived.Lib.Hide
import Derived.RegionTactic
import Derived.ChangeAlike
import Derived.BigRegion
import Derived.BigQuiet
import Derived.Test.YtmecomgifmkkfaaLimbM
namespace Go.Proofs.Ytmecomgifmkkfaa
set_option linter.unusedVariables false
set_option linter.unusedSimpArgs false
open Go.RowKit

theorem top_bit {r : Nat} (h : r < W256) : bitI r 255 = ((dg r 3 / 9223372036854775808 : Nat) : Int) := by
  unfold bitI
  rw [if_neg (by decide), dg3]
  congr 1
  rw [show ((255 : Int)).toNat = 255 from rfl]
  unfold W256 at h
  omega

set_option maxHeartbeats 400000 in
set_option maxRecDepth 100000 in
theorem rmod_calls (hi lo m : Nat) (hh : hi < W256) (hl : lo < W256) (hm : m < W256) (hm0 : m ≠ 0) (w : World) :
    Calls Try.prog 27 #[numV hi, numV lo, numV m] w fun e w' => e = .returned (numV ((hi * W256 + lo) % m)) ∧ Below w.heap.size w w' := by
  have HH := Lib.hid hh; have HL := Lib.hid hl; have HM := Lib.hid hm; have HM0 := Lib.hid hm0
  clear hh hl hm hm0
  rw [numV_eq hi, numV_eq lo, numV_eq m]
  go_enter Try.func27, Try.ntmps27
  go_wp2
  go_loopw [8] (fun t wr => ∃ k : Nat, k ≤ 512 ∧ t = .int .i64 ((k : Int) - 1) ∧ ModAt w hi lo m ((hi * W256 + lo) / 2 ^ k % m) wr) (fun t _ => (intOf t + 1).toNat)
  case atStart =>
    have hX : (hi * W256 + lo) / 2 ^ 512 % m = 0 := by
      have h1 := HH.out
      have h2 := HL.out
      rw [Nat.div_eq_of_lt, Nat.zero_mod]
      unfold W256 at *
      omega
    rw [show ((511 : Int)) = ((512 : Nat) : Int) - 1 from rfl]
    refine ⟨512, by omega, rfl, ?_⟩
    rw [hX]
    refine ⟨?_, ?_, ?_, ?_, ?_, ?_⟩
    · repeat first | exact Below.refl _ _ | refine Below.drew ?_ | (refine Below.setCell ?_ (by (try simp) <;> omega) _) | (refine Below.alloc ?_ (by (try simp) <;> omega) _)
    · exact ((((NumAt.new w hi).alloc _).alloc _).alloc _).alloc _
    · exact (((NumAt.newAt _ _ lo (by simp)).alloc _).alloc _).alloc _
    · exact ((NumAt.newAt _ _ m (by simp)).alloc _).alloc _
    · exact (NumAt.newAt _ _ 0 (by simp)).alloc _
    · exact NumAt.newAt _ _ 0 (by simp)
  case round =>
    obtain ⟨k, hk, rfl, hB, Nhi, Nlo, Nm, Nz, Nr⟩ := hrel
    by_cases h0 : k = 0
    · subst h0
      rw [Nat.pow_zero, Nat.div_one] at Nr
      have Fr := Nr.facts; have Fz := Nz.facts
      have s3 := Nz.lt; have s4 := Nr.lt
      go_wp2
      refine bodyPost_ret (v := numV ((hi * W256 + lo) % m)) (by unfold numV; simp [results, Try.results27, go_sem, Fz, Fr]) rfl ⟨rfl, ?_⟩
      exact below_put (below_put (below_put (below_put hB (by omega) _ _) (by omega) _ _) (by omega) _ _) (by omega) _ _
    · obtain ⟨i, rfl⟩ : ∃ i, k = i + 1 := ⟨k - 1, by omega⟩
      rw [show ((i + 1 : Nat) : Int) - 1 = i by omega]
      clear h0
      have hi' : i < 512 := by omega
      generalize hr : (hi * W256 + lo) / 2 ^ (i + 1) % m = r at *
      have Hr := Lib.hid hr
      clear hr
      have Fhi := Nhi.facts; have Flo := Nlo.facts; have Fr := Nr.facts; have Fm := Nm.facts
      obtain ⟨b, hb, hb1⟩ : ∃ b : Nat, b = (hi * W256 + lo) / 2 ^ i % 2 ∧ b ≤ 1 := ⟨_, rfl, by omega⟩
      have Hb := Lib.hid hb
      clear hb
      have hrW : r < W256 := by have h1 := Nat.mod_lt ((hi * W256 + lo) / 2 ^ (i + 1)) (Nat.pos_of_ne_zero HM0.out); rw [Hr.out] at h1; exact Nat.lt_trans h1 HM.out
      have HR := Lib.hid hrW
      obtain ⟨t, ht⟩ : ∃ t : Nat, t = dg r 3 / 9223372036854775808 := ⟨_, rfl⟩
      have Htop := Lib.hid (ht ▸ top_bit hrW : bitI r 255 = (t : Int))
      have Ht := Lib.hid ht
      clear ht
      clear hrW
      by_cases hge : 256 ≤ i
      · have hbit : bitI hi ((i : Int) - 256) = (b : Int) := by
          have h1 := mod_bit HH.out HL.out Hb.out hi'
          have h2 := h1.1 (by omega)
          rwa [show ((i : Int) % 256) = ((i : Int) - 256) by omega] at h2
        have Hbit := Lib.hid hbit
        clear hbit
        go_wp2_with fail
        refine (rbit_calls lo i HL.out _).mono ?_
        rintro e w1 ⟨rfl, hB1⟩
        have Nhi1 := Nhi.kept hB1; have Nlo1 := Nlo.kept hB1; have Nm1 := Nm.kept hB1; have Nz1 := Nz.kept hB1; have Nr1 := Nr.kept hB1
        have hBb := hB.trans (hB1.mono hB.size)
        clear Fhi Flo Fr Fm hB1 hB Nhi Nlo Nm Nz Nr
        have Fhi := Nhi1.facts; have Fr := Nr1.facts
        go_wp2_with fail
        refine (rbit_calls hi ((i : Int) - 256) HH.out _).mono ?_
        rintro e w2 ⟨rfl, hB2⟩
        rw [Hbit.out]
        have Nhi2 := Nhi1.kept hB2; have Nlo2 := Nlo1.kept hB2; have Nm2 := Nm1.kept hB2; have Nz2 := Nz1.kept hB2; have Nr2 := Nr1.kept hB2
        have hBc := hBb.trans (hB2.mono hBb.size)
        clear Fhi Fr hB2 hBb Nhi1 Nlo1 Nm1 Nz1 Nr1
        have Fr := Nr2.facts
        go_wp2_with fail
        refine (rbit_calls r 255 HR.out _).mono ?_
        rintro e w3 ⟨rfl, hB3⟩
        rw [Htop.out]
        have Nhi3 := Nhi2.kept hB3; have Nlo3 := Nlo2.kept hB3; have Nm3 := Nm2.kept hB3; have Nz3 := Nz2.kept hB3; have Nr3 := Nr2.kept hB3
        have hBd := hBc.trans (hB3.mono hBc.size)
        clear Fr hB3 hBc Nhi2 Nlo2 Nm2 Nz2 Nr2
        have Fr := Nr3.facts
        go_wp2_with fail
        refine (radd_calls r r HR.out HR.out _).mono ?_
        rintro e w4 ⟨rfl, hB4⟩
        obtain ⟨y, hy⟩ : ∃ y, y = (r + r) % W256 := ⟨_, rfl⟩
        rw [← hy, numV_eq y]
        have Hy := Lib.hid hy
        clear hy
        have Nhi4 := Nhi3.kept hB4; have Nlo4 := Nlo3.kept hB4; have Nm4 := Nm3.kept hB4; have Nz4 := Nz3.kept hB4; have Nr4 := Nr3.kept hB4
        have hBe := hBd.trans (hB4.mono hBd.size)
        clear Fr hB4 hBd Nhi3 Nlo3 Nm3 Nz3 Nr3
        have F4 := Nr4.facts
        have s0 := Nhi4.lt; have s1 := Nlo4.lt; have s2 := Nm4.lt; have s3 := Nz4.lt; have s4 := Nr4.lt
        have hev := mod_even Hy.out hb1 HR.out
        go_upto_region 11 with (fail)
        refine abs_world (fun w5 => ModAt w hi lo m (y + b) w5) ?_ ?_
        · exact ⟨below_put (below_put (below_put (below_put (below_put hBe (by omega) _ _) (by omega) _ _) (by omega) _ _) (by omega) _ _) (by omega) _ _,
            ((((Nhi4.other _ _ (by (try simp) <;> omega)).other _ _ (by (try simp) <;> omega)).other _ _ (by (try simp) <;> omega)).other _ _ (by (try simp) <;> omega)).other _ _ (by (try simp) <;> omega), ((((Nlo4.other _ _ (by (try simp) <;> omega)).other _ _ (by (try simp) <;> omega)).other _ _ (by (try simp) <;> omega)).other _ _ (by (try simp) <;> omega)).other _ _ (by (try simp) <;> omega), ((((Nm4.other _ _ (by (try simp) <;> omega)).other _ _ (by (try simp) <;> omega)).other _ _ (by (try simp) <;> omega)).other _ _ (by (try simp) <;> omega)).other _ _ (by (try simp) <;> omega), ((((Nz4.other _ _ (by (try simp) <;> omega)).other _ _ (by (try simp) <;> omega)).other _ _ (by (try simp) <;> omega)).other _ _ (by (try simp) <;> omega)).other _ _ (by (try simp) <;> omega), (Nr4.put y).put0 rfl hev.2.1 hev.2.2.1 hev.2.2.2⟩
        have Hev := Lib.hid (mod_fin Hy.out Hb.out Hr.out HR.out HM.out (Nat.pos_of_ne_zero HM0.out))
        clear hev F4 hBe Nhi4 Nlo4 Nm4 Nz4 Nr4 w4 s0 s1 s2 s3 s4
        generalize hs : y + b = s at *
        clear hs
        intro w5 ⟨hB5, Nhi5, Nlo5, Nm5, Nz5, Nr5⟩
        have s0 := Nhi5.lt; have s1 := Nlo5.lt; have s2 := Nm5.lt; have s3 := Nz5.lt; have s4 := Nr5.lt
        have Fm5 := Nm5.facts; have Fr5 := Nr5.facts
        by_cases ho : dg r 3 / 9223372036854775808 = 1
        · obtain rfl : t = 1 := Ht.out.trans ho
          rw [show ((1 : Nat) : Int) = 1 from rfl]
          have Hfin := Lib.hid (Hev.out.1 ho)
          have HS := Lib.hid Hev.out.2.2.2
          clear Hev ho
          go_wp2_with fail
          refine (rsub_calls s m HS.out HM.out _).mono ?_
          rintro e w6 ⟨rfl, hB6⟩
          rw [numV_eq ((s + W256 - m) % W256)]
          have Nhi6 := Nhi5.kept hB6; have Nlo6 := Nlo5.kept hB6; have Nm6 := Nm5.kept hB6; have Nz6 := Nz5.kept hB6; have Nr6 := Nr5.kept hB6
          have hB7 := hB5.trans (hB6.mono hB5.size)
          clear Fm5 Fr5
          have F6 := Nr6.facts
          go_wp2
          go_roundw
          case rel =>
            refine ⟨i, by omega, rfl, ?_⟩
            rw [← Hfin.out]
            refine ⟨below_put (below_put (below_put (below_put hB7 (by omega) _ _) (by omega) _ _) (by omega) _ _) (by omega) _ _, ?_, ?_, ?_, ?_, Nr6.put _⟩
            · exact (((Nhi6.other _ _ (by (try simp) <;> omega)).other _ _ (by (try simp) <;> omega)).other _ _ (by (try simp) <;> omega)).other _ _ (by (try simp) <;> omega)
            · exact (((Nlo6.other _ _ (by (try simp) <;> omega)).other _ _ (by (try simp) <;> omega)).other _ _ (by (try simp) <;> omega)).other _ _ (by (try simp) <;> omega)
            · exact (((Nm6.other _ _ (by (try simp) <;> omega)).other _ _ (by (try simp) <;> omega)).other _ _ (by (try simp) <;> omega)).other _ _ (by (try simp) <;> omega)
            · exact (((Nz6.other _ _ (by (try simp) <;> omega)).other _ _ (by (try simp) <;> omega)).other _ _ (by (try simp) <;> omega)).other _ _ (by (try simp) <;> omega)
          case measure => simp [intOf] <;> omega
        · obtain rfl : t = 0 := by have := dg_lt r 3; have := Ht.out; omega
          rw [show ((0 : Nat) : Int) = 0 from rfl]
          have HS := Lib.hid Hev.out.2.2.2
          by_cases hms : m ≤ s
          · have hcm : 0 ≤ cmpI s m := by unfold cmpI; rw [if_neg (by omega)]; split <;> omega
            have Hfin := Lib.hid (Hev.out.2.1 ho hms)
            clear Hev ho hms
            go_wp2_with fail
            refine (rcmp_calls s m HS.out HM.out _).mono ?_
            rintro e w6 ⟨rfl, hB6⟩
            have Nhi6 := Nhi5.kept hB6; have Nlo6 := Nlo5.kept hB6; have Nm6 := Nm5.kept hB6; have Nz6 := Nz5.kept hB6; have Nr6 := Nr5.kept hB6
            have hB7 := hB5.trans (hB6.mono hB5.size)
            clear Fm5 Fr5 hB5 Nhi5 Nlo5 Nm5 Nz5 Nr5 hB6
            have Fm6 := Nm6.facts; have Fr6 := Nr6.facts
            go_wp2_with fail
            refine (rsub_calls s m HS.out HM.out _).mono ?_
            rintro e w8 ⟨rfl, hB8⟩
            rw [numV_eq ((s + W256 - m) % W256)]
            have Nhi8 := Nhi6.kept hB8; have Nlo8 := Nlo6.kept hB8; have Nm8 := Nm6.kept hB8; have Nz8 := Nz6.kept hB8; have Nr8 := Nr6.kept hB8
            have hB9 := hB7.trans (hB8.mono hB7.size)
            clear Fm6 Fr6
            have F8 := Nr8.facts
            go_wp2
            go_roundw
            case rel =>
              refine ⟨i, by omega, rfl, ?_⟩
              rw [← Hfin.out]
              refine ⟨below_put (below_put (below_put (below_put hB9 (by omega) _ _) (by omega) _ _) (by omega) _ _) (by omega) _ _, ?_, ?_, ?_, ?_, Nr8.put _⟩
              · exact (((Nhi8.other _ _ (by (try simp) <;> omega)).other _ _ (by (try simp) <;> omega)).other _ _ (by (try simp) <;> omega)).other _ _ (by (try simp) <;> omega)
              · exact (((Nlo8.other _ _ (by (try simp) <;> omega)).other _ _ (by (try simp) <;> omega)).other _ _ (by (try simp) <;> omega)).other _ _ (by (try simp) <;> omega)
              · exact (((Nm8.other _ _ (by (try simp) <;> omega)).other _ _ (by (try simp) <;> omega)).other _ _ (by (try simp) <;> omega)).other _ _ (by (try simp) <;> omega)
              · exact (((Nz8.other _ _ (by (try simp) <;> omega)).other _ _ (by (try simp) <;> omega)).other _ _ (by (try simp) <;> omega)).other _ _ (by (try simp) <;> omega)
            case measure => simp [intOf] <;> omega
          · have hcm : cmpI s m < 0 := by unfold cmpI; rw [if_pos (by omega)]; omega
            have Hfin := Lib.hid (Hev.out.2.2.1 ho hms)
            clear Hev ho hms
            go_wp2_with fail
            refine (rcmp_calls s m HS.out HM.out _).mono ?_
            rintro e w6 ⟨rfl, hB6⟩
            have Nhi6 := Nhi5.kept hB6; have Nlo6 := Nlo5.kept hB6; have Nm6 := Nm5.kept hB6; have Nz6 := Nz5.kept hB6; have Nr6 := Nr5.kept hB6
            have hB7 := hB5.trans (hB6.mono hB5.size)
            clear Fm5 Fr5 hB5 Nhi5 Nlo5 Nm5 Nz5 Nr5 hB6
            go_wp2
            go_roundw
            case rel =>
              refine ⟨i, by omega, rfl, ?_⟩
              rw [← Hfin.out]
              exact ⟨hB7, Nhi6, Nlo6, Nm6, Nz6, Nr6⟩
            case measure => simp [intOf] <;> omega
      · have hbit : bitI lo (i : Int) = (b : Int) := by
          have h1 := mod_bit HH.out HL.out Hb.out hi'
          have h2 := h1.2 (by omega)
          rwa [show ((i : Int) % 256) = (i : Int) by omega] at h2
        have Hbit := Lib.hid hbit
        clear hbit
        go_wp2_with fail
        refine (rbit_calls lo i HL.out _).mono ?_
        rintro e w1 ⟨rfl, hB1⟩
        have Nhi1 := Nhi.kept hB1; have Nlo1 := Nlo.kept hB1; have Nm1 := Nm.kept hB1; have Nz1 := Nz.kept hB1; have Nr1 := Nr.kept hB1
        have hBb := hB.trans (hB1.mono hB.size)
        clear Fhi Flo Fr Fm hB1 hB Nhi Nlo Nm Nz Nr
        have Fhi := Nhi1.facts; have Fr := Nr1.facts
        rw [Hbit.out]
        clear Fhi
        go_wp2_with fail
        refine (rbit_calls r 255 HR.out _).mono ?_
        rintro e w3 ⟨rfl, hB3⟩
        rw [Htop.out]
        have Nhi3 := Nhi1.kept hB3; have Nlo3 := Nlo1.kept hB3; have Nm3 := Nm1.kept hB3; have Nz3 := Nz1.kept hB3; have Nr3 := Nr1.kept hB3
        have hBd := hBb.trans (hB3.mono hBb.size)
        clear Fr hB3 hBb Nhi1 Nlo1 Nm1 Nz1 Nr1
        have Fr := Nr3.facts
        go_wp2_with fail
        refine (radd_calls r r HR.out HR.out _).mono ?_
        rintro e w4 ⟨rfl, hB4⟩
        obtain ⟨y, hy⟩ : ∃ y, y = (r + r) % W256 := ⟨_, rfl⟩
        rw [← hy, numV_eq y]
        have Hy := Lib.hid hy
        clear hy
        have Nhi4 := Nhi3.kept hB4; have Nlo4 := Nlo3.kept hB4; have Nm4 := Nm3.kept hB4; have Nz4 := Nz3.kept hB4; have Nr4 := Nr3.kept hB4
        have hBe := hBd.trans (hB4.mono hBd.size)
        clear Fr hB4 hBd Nhi3 Nlo3 Nm3 Nz3 Nr3
        have F4 := Nr4.facts
        have s0 := Nhi4.lt; have s1 := Nlo4.lt; have s2 := Nm4.lt; have s3 := Nz4.lt; have s4 := Nr4.lt
        have hev := mod_even Hy.out hb1 HR.out
        go_upto_region 11 with (fail)
        refine abs_world (fun w5 => ModAt w hi lo m (y + b) w5) ?_ ?_
        · exact ⟨below_put (below_put (below_put (below_put (below_put hBe (by omega) _ _) (by omega) _ _) (by omega) _ _) (by omega) _ _) (by omega) _ _,
            ((((Nhi4.other _ _ (by (try simp) <;> omega)).other _ _ (by (try simp) <;> omega)).other _ _ (by (try simp) <;> omega)).other _ _ (by (try simp) <;> omega)).other _ _ (by (try simp) <;> omega), ((((Nlo4.other _ _ (by (try simp) <;> omega)).other _ _ (by (try simp) <;> omega)).other _ _ (by (try simp) <;> omega)).other _ _ (by (try simp) <;> omega)).other _ _ (by (try simp) <;> omega), ((((Nm4.other _ _ (by (try simp) <;> omega)).other _ _ (by (try simp) <;> omega)).other _ _ (by (try simp) <;> omega)).other _ _ (by (try simp) <;> omega)).other _ _ (by (try simp) <;> omega), ((((Nz4.other _ _ (by (try simp) <;> omega)).other _ _ (by (try simp) <;> omega)).other _ _ (by (try simp) <;> omega)).other _ _ (by (try simp) <;> omega)).other _ _ (by (try simp) <;> omega), (Nr4.put y).put0 rfl hev.2.1 hev.2.2.1 hev.2.2.2⟩
        have Hev := Lib.hid (mod_fin Hy.out Hb.out Hr.out HR.out HM.out (Nat.pos_of_ne_zero HM0.out))
        clear hev F4 hBe Nhi4 Nlo4 Nm4 Nz4 Nr4 w4 s0 s1 s2 s3 s4
        generalize hs : y + b = s at *
        clear hs
        intro w5 ⟨hB5, Nhi5, Nlo5, Nm5, Nz5, Nr5⟩
        have s0 := Nhi5.lt; have s1 := Nlo5.lt; have s2 := Nm5.lt; have s3 := Nz5.lt; have s4 := Nr5.lt
        have Fm5 := Nm5.facts; have Fr5 := Nr5.facts
        by_cases ho : dg r 3 / 9223372036854775808 = 1
        · obtain rfl : t = 1 := Ht.out.trans ho
          rw [show ((1 : Nat) : Int) = 1 from rfl]
          have Hfin := Lib.hid (Hev.out.1 ho)
          have HS := Lib.hid Hev.out.2.2.2
          clear Hev ho
          go_wp2_with fail
          refine (rsub_calls s m HS.out HM.out _).mono ?_
          rintro e w6 ⟨rfl, hB6⟩
          rw [numV_eq ((s + W256 - m) % W256)]
          have Nhi6 := Nhi5.kept hB6; have Nlo6 := Nlo5.kept hB6; have Nm6 := Nm5.kept hB6; have Nz6 := Nz5.kept hB6; have Nr6 := Nr5.kept hB6
          have hB7 := hB5.trans (hB6.mono hB5.size)
          clear Fm5 Fr5
          have F6 := Nr6.facts
          go_wp2
          go_roundw
          case rel =>
            refine ⟨i, by omega, rfl, ?_⟩
            rw [← Hfin.out]
            refine ⟨below_put (below_put (below_put (below_put hB7 (by omega) _ _) (by omega) _ _) (by omega) _ _) (by omega) _ _, ?_, ?_, ?_, ?_, Nr6.put _⟩
            · exact (((Nhi6.other _ _ (by (try simp) <;> omega)).other _ _ (by (try simp) <;> omega)).other _ _ (by (try simp) <;> omega)).other _ _ (by (try simp) <;> omega)
            · exact (((Nlo6.other _ _ (by (try simp) <;> omega)).other _ _ (by (try simp) <;> omega)).other _ _ (by (try simp) <;> omega)).other _ _ (by (try simp) <;> omega)
            · exact (((Nm6.other _ _ (by (try simp) <;> omega)).other _ _ (by (try simp) <;> omega)).other _ _ (by (try simp) <;> omega)).other _ _ (by (try simp) <;> omega)
            · exact (((Nz6.other _ _ (by (try simp) <;> omega)).other _ _ (by (try simp) <;> omega)).other _ _ (by (try simp) <;> omega)).other _ _ (by (try simp) <;> omega)
          case measure => simp [intOf] <;> omega
        · obtain rfl : t = 0 := by have := dg_lt r 3; have := Ht.out; omega
          rw [show ((0 : Nat) : Int) = 0 from rfl]
          have HS := Lib.hid Hev.out.2.2.2
          by_cases hms : m ≤ s
          · have hcm : 0 ≤ cmpI s m := by unfold cmpI; rw [if_neg (by omega)]; split <;> omega
            have Hfin := Lib.hid (Hev.out.2.1 ho hms)
            clear Hev ho hms
            go_wp2_with fail
            refine (rcmp_calls s m HS.out HM.out _).mono ?_
            rintro e w6 ⟨rfl, hB6⟩
            have Nhi6 := Nhi5.kept hB6; have Nlo6 := Nlo5.kept hB6; have Nm6 := Nm5.kept hB6; have Nz6 := Nz5.kept hB6; have Nr6 := Nr5.kept hB6
            have hB7 := hB5.trans (hB6.mono hB5.size)
            clear Fm5 Fr5 hB5 Nhi5 Nlo5 Nm5 Nz5 Nr5 hB6
            have Fm6 := Nm6.facts; have Fr6 := Nr6.facts
            go_wp2_with fail
            refine (rsub_calls s m HS.out HM.out _).mono ?_
            rintro e w8 ⟨rfl, hB8⟩
            rw [numV_eq ((s + W256 - m) % W256)]
            have Nhi8 := Nhi6.kept hB8; have Nlo8 := Nlo6.kept hB8; have Nm8 := Nm6.kept hB8; have Nz8 := Nz6.kept hB8; have Nr8 := Nr6.kept hB8
            have hB9 := hB7.trans (hB8.mono hB7.size)
            clear Fm6 Fr6
            have F8 := Nr8.facts
            go_wp2
            go_roundw
            case rel =>
              refine ⟨i, by omega, rfl, ?_⟩
              rw [← Hfin.out]
              refine ⟨below_put (below_put (below_put (below_put hB9 (by omega) _ _) (by omega) _ _) (by omega) _ _) (by omega) _ _, ?_, ?_, ?_, ?_, Nr8.put _⟩
              · exact (((Nhi8.other _ _ (by (try simp) <;> omega)).other _ _ (by (try simp) <;> omega)).other _ _ (by (try simp) <;> omega)).other _ _ (by (try simp) <;> omega)
              · exact (((Nlo8.other _ _ (by (try simp) <;> omega)).other _ _ (by (try simp) <;> omega)).other _ _ (by (try simp) <;> omega)).other _ _ (by (try simp) <;> omega)
              · exact (((Nm8.other _ _ (by (try simp) <;> omega)).other _ _ (by (try simp) <;> omega)).other _ _ (by (try simp) <;> omega)).other _ _ (by (try simp) <;> omega)
              · exact (((Nz8.other _ _ (by (try simp) <;> omega)).other _ _ (by (try simp) <;> omega)).other _ _ (by (try simp) <;> omega)).other _ _ (by (try simp) <;> omega)
            case measure => simp [intOf] <;> omega
          · have hcm : cmpI s m < 0 := by unfold cmpI; rw [if_pos (by omega)]; omega
            have Hfin := Lib.hid (Hev.out.2.2.1 ho hms)
            clear Hev ho hms
            go_wp2_with fail
            refine (rcmp_calls s m HS.out HM.out _).mono ?_
            rintro e w6 ⟨rfl, hB6⟩
            have Nhi6 := Nhi5.kept hB6; have Nlo6 := Nlo5.kept hB6; have Nm6 := Nm5.kept hB6; have Nz6 := Nz5.kept hB6; have Nr6 := Nr5.kept hB6
            have hB7 := hB5.trans (hB6.mono hB5.size)
            clear Fm5 Fr5 hB5 Nhi5 Nlo5 Nm5 Nz5 Nr5 hB6
            go_wp2
            go_roundw
            case rel =>
              refine ⟨i, by omega, rfl, ?_⟩
              rw [← Hfin.out]
              exact ⟨hB7, Nhi6, Nlo6, Nm6, Nz6, Nr6⟩
            case measure => simp [intOf] <;> omega

end Go.Proofs.Ytmecomgifmkkfaa
