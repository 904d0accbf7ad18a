/- LimbBytes: a number's bytes lead back to it, and bytes to theirs; the first byte is the highest; the length is that of the highest bit; for every input, no condition. -/
import Derived.Test.YtmecomgifmkkfaaProg
import Derived.Test.YtmecomgifmkkfaaNum
import Derived.Test.YtmecomgifmkkfaaBits
import Derived.Test.YtmecomgifmkkfaaBytes
import Derived.Test.YtmecomgifmkkfaaMem
import Derived.Test.YtmecomgifmkkfaaOrd
import Derived.Test.YtmecomgifmkkfaaEqs
import Derived.Test.YtmecomgifmkkfaaLimbA
import Derived.Test.YtmecomgifmkkfaaLimbB
import Derived.Test.YtmecomgifmkkfaaLimbC
import Derived.Test.YtmecomgifmkkfaaLimbF
import Derived.Test.YtmecomgifmkkfaaLimbG
import Derived.Test.YtmecomgifmkkfaaLimbM
import Derived.Test.YtmecomgifmkkfaaLimbN
import Derived.Test.YtmecomgifmkkfaaLimbW
import Derived.Test.YtmecomgifmkkfaaRows
import Derived.Test.YtmecomgifmkkfaaOpen
import Derived.Test.YtmecomgifmkkfaaAux
import Derived.WalkSpells
import Derived.WalkLawsBesides
import Derived.Handy
import Derived.Lib.Hide
import Derived.RegionTactic
import Derived.BigQuiet
import Derived.Deep.Cut
import Derived.ProofKit
import Derived.OpenShut
import Derived.Test.YtmecomgifmkkfaaOrdA
import Derived.Deep.WholeRow
import Derived.Laws.CopyOwn
namespace Go.Proofs.Ytmecomgifmkkfaa
set_option linter.unusedVariables false
set_option linter.unusedSimpArgs false
open Go.ChangeShapes Go.WideShapes Go.ChangeAt Go.RowKit

theorem run_alloc_b32 {o : Oper} (a : Act) (w : World) (h : o.op = .alloc 42) : (execOp a.eval o).run Try.prog w = .ok (.value (.pointer (some ⟨w.heap.size, 0, none⟩))) (w.alloc (.cells (b32C 0) 42)) := by
  obtain ⟨d, op, t, p, af, g⟩ := o
  simp only at h
  subst h
  rfl
/-- Block b holds the bytes of n. -/
def RowAt (w : World) (b n : Nat) : Prop := w.heap[b]? = some (.cells (b32C n) 42 (0, 0))
theorem RowAt.lt {w : World} {b n : Nat} (h : RowAt w b n) : b < w.heap.size := (Array.getElem?_eq_some_iff.1 h).1
theorem RowAt.kept {w w1 : World} {b n : Nat} (h : RowAt w b n) (hB : Below w.heap.size w w1) : RowAt w1 b n := (hB.block b h.lt).trans h
theorem RowAt.drew {w : World} {b n : Nat} (h : RowAt w b n) : RowAt w.drew b n := h
theorem RowAt.cell {w : World} {b n : Nat} (h : RowAt w b n) (i : Nat) (hi : i < 32) : w.cell? ⟨b, i, none⟩ = some (.int .u8 ((by8 n (31 - i) : Nat) : Int)) := by
  rw [cell_of_row w b i _ _ _ h]; exact b32C_get n i hi
theorem RowAt.free {w : World} {b n : Nat} (h : RowAt w b n) (i : Nat) : w.frozen? ⟨b, i, none⟩ = false := frozen_of_row w b i _ _ h
theorem NumAt.row {w : World} {b n g : Nat} (h : NumAt w b n) (c : Array Value) (hne : b ≠ g) : NumAt (w.setRow g c) b n := (setRow_other w g b c hne).trans h

theorem eq_b32 (n : Nat) (w : World) : (Op.equalIn 10000 42 (.agg (b32C n)) (.agg (b32C n))).run Try.prog w = .ok true w := by
  have hu : Try.prog.underlying 42 = some (.array 32 5) := by kernel_rfl
  have hs : ∀ w : World, (sizeOf 5).run Try.prog w = .ok 1 w := fun w => by kernel_rfl
  have ha : ∀ w : World, (isAgg 5).run Try.prog w = .ok false w := fun w => by kernel_rfl
  have he : ∀ (x y : Int) (w : World), (Op.equalIn 9999 5 (.int .u8 x) (.int .u8 y)).run Try.prog w = .ok (x == y) w := fun x y w => by
    exact run_equalIn_int w 9998 5 .u8 .u8 x y Try.underlying5
  have hp : ∀ i, i < 32 → ∀ w : World, (part 5 (b32C n) i).run Try.prog w = .ok (.int .u8 ((by8 n (31 - i) : Nat) : Int)) w := fun i hi w => by
    have hg := b32C_get n i hi
    simp [part, ha, hg]
  rw [show (10000 : Nat) = 9999 + 1 from rfl, Op.equalIn]
  generalize hd : (9999 : Nat) = d at *
  simp only [Sem.run_bind, run_underlying hu, Result.andThen_ok, hs, Std.Legacy.Range.forIn_eq_forIn_range', Std.Legacy.Range.size]
  have key : ∀ (f : Nat → Option Bool × PUnit → Sem (ForInStep (Option Bool × PUnit))), (∀ i, i < 32 → ∀ s w, (f i s).run Try.prog w = .ok (.yield (none, ⟨⟩)) w) →
      ∀ l : List Nat, (∀ i ∈ l, i < 32) → ∀ w, Sem.run Try.prog (forIn l ((none, ⟨⟩) : Option Bool × PUnit) f) w = .ok (none, ⟨⟩) w := by
    intro f hf l
    induction l with
    | nil => intro _ w; rfl
    | cons i l ih =>
      intro hl w
      rw [List.forIn_cons, Sem.run_bind, hf i (hl i (by simp)), Result.andThen_ok]
      exact ih (fun j hj => hl j (by simp [hj])) w
  rw [key _ (fun i hi s w => by simp [hp i hi, he]) _ (fun i hi => by simpa using hi)]
  rfl
theorem loadE_row {W : World} {o : Oper} {a : Act} (ty : TypeId) (x : Operand) (ho : o.op = .load ty x) (g : Nat) (hx : a.eval x = .pointer (some ⟨g, 0, none⟩)) (t : TypeId) (cs : Array Value) (fr : Nat × Nat) (n : Nat) (e : TypeId)
    (hg : ∀ z : Ext W, z.w.heap[g]? = some (.cells cs t fr)) (hu : Try.prog.underlying ty = some (.array n e)) (hi : (Try.prog.info? ty).map (·.size) = some cs.size) : EAt Try.prog o a W (.agg cs) := by
  intro z
  unfold execOp
  simp only [ho, hx, Instr.loadAt, Instr.sureAddr, Sem.run_bind, Sem.run_pure, Result.andThen_ok, run_loadVar_row z.w g t ty cs fr _ (hg z) hu rfl hi]
  exact ⟨rfl, rfl⟩

theorem bitI_nat (a i : Nat) : bitI a i = ((a / 2 ^ i % 2 : Nat) : Int) := by
  unfold bitI
  rw [if_neg (by omega), Int.toNat_natCast]
/-- A bit of a byte is a bit of the number. -/
theorem bit_of_byte (b i : Nat) : ((by8 b (i / 8) / 2 ^ (i % 8) % 2 : Nat) : Int) = bitI b i := by
  rw [bitI_nat]
  unfold by8
  have h := Nat.testBit_mod_two_pow (b / 256 ^ (i / 8)) 8 (i % 8)
  rw [Nat.testBit_eq_decide_div_mod_eq, Nat.testBit_eq_decide_div_mod_eq, Nat.div_div_eq_div_mul, pow256, ← Nat.pow_add, Nat.div_add_mod] at h
  have hi : i % 8 < 8 := Nat.mod_lt _ (by decide)
  simp only [hi, decide_true, Bool.true_and, decide_eq_decide] at h
  rw [show (256 : Nat) = 2 ^ 8 from rfl, ← Nat.pow_mul]
  have h1 : b / 2 ^ (8 * (i / 8)) % 2 ^ 8 / 2 ^ (i % 8) % 2 < 2 := Nat.mod_lt _ (by decide)
  have h2 : b / 2 ^ i % 2 < 2 := Nat.mod_lt _ (by decide)
  generalize b / 2 ^ (8 * (i / 8)) % 2 ^ 8 / 2 ^ (i % 8) % 2 = s at *
  generalize b / 2 ^ i % 2 = t at *
  omega
theorem shr_and {c e : Nat} (hc : c < 256) : wrap64 (bits BinOp.and IntKind.u8 ((c : Int) / 2 ^ e) 1) = ((c / 2 ^ e % 2 : Nat) : Int) := by
  have h : ∀ y : Fin 256, wrap64 (bits BinOp.and IntKind.u8 ((y.val : Nat) : Int) 1) = ((y.val % 2 : Nat) : Int) := by decide +kernel
  have h1 : c / 2 ^ e < 256 := Nat.lt_of_le_of_lt (Nat.div_le_self _ _) hc
  rw [show (c : Int) / 2 ^ e = ((c / 2 ^ e : Nat) : Int) by simp]
  exact h ⟨c / 2 ^ e, h1⟩
theorem len_one {b i : Nat} (h : bitI b i = 1) : lenN (b % 2 ^ (i + 1)) = i + 1 := by
  rw [bitI_nat] at h
  have h1 : b / 2 ^ i % 2 = 1 := by omega
  refine lenN_of ?_ (Nat.mod_lt _ (Nat.two_pow_pos _))
  rw [Nat.pow_succ, Nat.mod_mul, h1]
  omega
theorem len_zero {b i : Nat} (h : bitI b i = 0) : b % 2 ^ (i + 1) = b % 2 ^ i := by
  rw [bitI_nat] at h
  have h1 : b / 2 ^ i % 2 = 0 := by omega
  rw [Nat.pow_succ, Nat.mod_mul, h1, Nat.mul_zero, Nat.add_zero]

set_option maxHeartbeats 1000000 in
set_option maxRecDepth 100000 in
theorem limbBytes_walk (b : Nat) (w_b : b < W256) (w : World) :
    Calls Try.prog 10 #[b32V b] w fun e w' => e = .returned (.bool true) ∧ Below w.heap.size w w' := by
  have hg := eqGuard_num
  have hgb : Try.prog.eqGuardType Try.prog.depth 42 = false := by kernel_rfl
  have hS := @eq_same
  have hSb := @eq_b32
  have BB := Lib.hid w_b
  clear w_b
  have hsz : ∀ m, (Try.prog.info? 42).map (·.size) = some (b32C m).size := fun m => by rw [b32C_size]; kernel_rfl
  have Hsz := Lib.hid hsz
  clear hsz
  unfold b32V
  go_enter Try.func10, Try.ntmps10
  go_upto_region 1 with (fail)
  refine wp_region_lit ?_
  refine wpList_load_row rfl 42 (.tmp 1) rfl w.heap.size rfl 42 (b32C b) (0, 0) _ (heap_alloc_new _ _) Try.underlying42 rfl (Hsz.out b) ?_
  go_wp2_with fail
  refine (of_calls b BB.out _).mono ?_
  rintro e w1 ⟨rfl, hB1⟩
  rw [numV_eq b]
  have hR0 : RowAt (w.alloc (.cells (b32C b) 42)) w.heap.size b := heap_alloc_new _ _
  have R1 := hR0.kept hB1
  have hWw1 : Below w.heap.size w w1 := ((Below.refl _ _).alloc (by (try simp) <;> omega) _).trans (hB1.mono (by (try simp) <;> omega))
  clear hR0 hB1
  go_upto_region 2 with (fail)
  have zz := hWw1.size
  refine abs_world (fun w' => Below w.heap.size w w' ∧ RowAt w' w.heap.size b ∧ NumAt w' w1.heap.size b) ⟨hWw1.alloc zz _, (heap_alloc_old _ _ R1.lt).trans R1, NumAt.newAt _ _ b rfl⟩ ?_
  clear zz R1 hWw1
  intro w2 ⟨hWw2, R_b, N_n⟩
  have G_n0 : ∀ z : Ext w2, z.w.cell? ⟨w1.heap.size, 0, none⟩ = some (.int .u64 (dg b 0 : Nat)) := fun z => (N_n.kept z.below).cell 0 (by decide)
  have G_n1 : ∀ z : Ext w2, z.w.cell? ⟨w1.heap.size, 1, none⟩ = some (.int .u64 (dg b 1 : Nat)) := fun z => (N_n.kept z.below).cell 1 (by decide)
  have G_n2 : ∀ z : Ext w2, z.w.cell? ⟨w1.heap.size, 2, none⟩ = some (.int .u64 (dg b 2 : Nat)) := fun z => (N_n.kept z.below).cell 2 (by decide)
  have G_n3 : ∀ z : Ext w2, z.w.cell? ⟨w1.heap.size, 3, none⟩ = some (.int .u64 (dg b 3 : Nat)) := fun z => (N_n.kept z.below).cell 3 (by decide)
  refine ext_region_alloc 10 10 (fun _ => .cells #[] 0) (by kernel_rfl) (by kernel_rfl) (by decide) (fun i o h1 h2 _ => absurd h1 (by omega)) ?_
  simp only [List.take_succ_cons, List.take_zero, List.drop_succ_cons, List.drop_zero]
  (refine wpE_step (fun K hK => ?_); go_simp; refine hK _ ?_; clear hK K)
  refine wpE_step (fun K hK => ?_)
  go_simp
  apply Exists.intro
  refine ⟨fun _ => ?_, hK _ ?_⟩
  · (refine (bytes_calls b BB.out _).mono ?_; rintro e wz ⟨rfl, hBz⟩; exact ⟨rfl, hBz⟩)
  clear hK K
  refine wpE_step (fun K hK => ?_)
  rw [if_pos (by rfl)]
  refine ⟨.agg (b32C b), loadE_row 42 (.tmp 1) rfl w.heap.size rfl 42 (b32C b) (0, 0) _ _ (fun z => R_b.kept z.below) Try.underlying42 (Hsz.out b), hK _ ?_⟩
  clear hK K
  simp only [go_sem]
  unfold b32V
  repeat (refine wpE_step (fun K hK => ?_); go_simp; refine hK _ ?_; clear hK K)
  refine wpE_step (fun K hK => ?_)
  go_simp
  apply Exists.intro
  refine ⟨fun _ => ?_, hK _ ?_⟩
  · (refine (bytes_calls b BB.out _).mono ?_; rintro e wz ⟨rfl, hBz⟩; exact ⟨rfl, hBz⟩)
  clear hK K
  unfold b32V
  refine wpE_step (fun K hK => ?_)
  go_simp
  apply Exists.intro
  refine ⟨fun _ => ?_, hK _ ?_⟩
  · (refine (of_calls b BB.out _).mono ?_; rintro e wz ⟨rfl, hBz⟩; exact ⟨rfl, hBz⟩)
  clear hK K
  rw [numV_eq b]
  repeat (refine wpE_step (fun K hK => ?_); go_simp; refine hK _ ?_; clear hK K)
  refine wpE_nil ?_
  intro z _
  have hWz := hWw2.trans (z.below.mono hWw2.size)
  have R_z := R_b.kept z.below
  have N_z := N_n.kept z.below
  clear G_n0 G_n1 G_n2 G_n3 R_b N_n hWw2
  generalize z.w = w3 at *
  clear z
  go_wp2
  go_loopw [5, 4] (fun t l wr => ∃ i : Nat, i ≤ 256 ∧ t = .int .i64 (i : Int) ∧ l = .int .i64 ((lenN (b % 2 ^ i) : Nat) : Int) ∧ Below w.heap.size w wr ∧ RowAt wr w.heap.size b ∧ NumAt wr w1.heap.size b) (fun t _ _ => (256 - intOf t).toNat)
  case atStart => exact ⟨0, by omega, rfl, by rw [Nat.pow_zero, Nat.mod_one]; rfl, hWz, R_z, N_z⟩
  case round =>
    clear hWz R_z N_z
    obtain ⟨i, hi, rfl, rfl, hWr, R_b, N_b⟩ := hrel
    by_cases hlt : i < 256
    · obtain ⟨j, hj, hj32⟩ : ∃ j : Nat, 31 - (i : Int) / 8 = (j : Int) ∧ j < 32 ∧ 31 - j = i / 8 := ⟨31 - i / 8, by omega, by omega, by omega⟩
      obtain ⟨e, he, he8⟩ : ∃ e : Nat, (i : Int) % 8 = (e : Int) ∧ e < 8 ∧ e = i % 8 := ⟨i % 8, by omega, by omega, by omega⟩
      have cx := R_b.cell j hj32.1; have fx := R_b.free j
      rw [hj32.2] at cx
      have hbit := bit_of_byte b i
      rw [← he8.2] at hbit
      have HBit := Lib.hid hbit
      clear hbit
      have c8 := by8_lt b (i / 8)
      generalize by8 b (i / 8) = c at *
      have e8 := he8.1
      have j32 := hj32.1
      clear he8 hj32
      go_upto_region 9 with (fail)
      rw [shr_and c8, HBit.out]
      clear HBit
      generalize bits BinOp.and IntKind.u8 ((c : Int) / 2 ^ e) 1 = c1
      generalize (c : Int) / 2 ^ e = c2
      clear he hj
      rcases bitI_01 b i with hb | hb
      · skip
        have Hb := Lib.hid hb
        rw [hb]
        clear hb
        have F_b := N_b.facts; have L_b := N_b.lt
        go_wp2_with fail
        refine (bit_calls b (i : Int) BB.out _).mono ?_
        rintro e1 w11 ⟨rfl, hB11⟩
        rw [Hb.out]
        have R' := R_b.kept hB11
        have N' := N_b.kept hB11
        have W' := hWr.trans (hB11.mono hWr.size)
        clear F_b L_b hB11 R_b N_b hWr cx fx
        go_wp2
        go_roundw
        case rel => exact ⟨i + 1, by omega, by go_num, by rw [len_zero Hb.out], W', R', N'⟩
        case measure => simp [intOf] <;> omega
      · skip
        have Hb := Lib.hid hb
        rw [hb]
        clear hb
        have F_b := N_b.facts; have L_b := N_b.lt
        go_wp2_with fail
        refine (bit_calls b (i : Int) BB.out _).mono ?_
        rintro e1 w11 ⟨rfl, hB11⟩
        rw [Hb.out]
        have R' := R_b.kept hB11
        have N' := N_b.kept hB11
        have W' := hWr.trans (hB11.mono hWr.size)
        clear F_b L_b hB11 R_b N_b hWr cx fx
        go_wp2
        go_roundw
        case rel => exact ⟨i + 1, by omega, by go_num, by rw [len_one Hb.out]; go_num, W', R', N'⟩
        case measure => simp [intOf] <;> omega
    · obtain rfl : i = 256 := by omega
      have hl : b % 2 ^ 256 = b := Nat.mod_eq_of_lt (by rw [← W256_pow]; exact BB.out)
      rw [hl]
      clear hl
      have hm1 := Lib.hid (bitI_out (i := -1) BB.out (by omega)); have h256 := Lib.hid (bitI_out (i := 256) BB.out (by omega))
      have F_b := N_b.facts; have L_b := N_b.lt
      go_wp2_with fail
      refine (len_calls b BB.out _).mono ?_
      rintro e w11 ⟨rfl, hB11⟩
      clear F_b L_b
      have zw11 := hWr.size
      have M_b := N_b.kept hB11
      have hWw11 : Below w.heap.size w w11 := hWr.trans (hB11.mono (by (try simp) <;> omega))
      clear N_b hWr zw11 hB11
      have N_b := M_b
      clear M_b
      have F_b := N_b.facts; have L_b := N_b.lt
      go_wp2_with fail
      refine (bit_calls b (-1) BB.out _).mono ?_
      rintro e w12 ⟨rfl, hB12⟩
      rw [hm1.out]
      clear F_b L_b
      have zw12 := hWw11.size
      have M_b := N_b.kept hB12
      have hWw12 : Below w.heap.size w w12 := hWw11.trans (hB12.mono (by (try simp) <;> omega))
      clear N_b hWw11 zw12 hB12
      have N_b := M_b
      clear M_b
      have F_b := N_b.facts; have L_b := N_b.lt
      go_wp2_with fail
      refine (bit_calls b 256 BB.out _).mono ?_
      rintro e w13 ⟨rfl, hB13⟩
      rw [h256.out]
      clear F_b L_b
      have zw13 := hWw12.size
      have M_b := N_b.kept hB13
      have hWw13 : Below w.heap.size w w13 := hWw12.trans (hB13.mono (by (try simp) <;> omega))
      clear N_b hWw12 zw13 hB13
      have N_b := M_b
      clear M_b
      go_wp2_with fail
      refine (wakes1_calls _).mono ?_
      rintro e w14 ⟨rfl, hB14⟩
      have zw14 := hWw13.size
      have M_b := N_b.kept hB14
      have hWw14 : Below w.heap.size w w14 := hWw13.trans (hB14.mono (by (try simp) <;> omega))
      clear N_b hWw13 zw14 hB14
      have N_b := M_b
      clear M_b
      go_wp2
      go_ret
      have zz := hWw14.size
      refine ⟨rfl, ?_⟩
      repeat first | exact Below.refl _ _ | assumption | refine Below.drew ?_ | (refine Below.alloc ?_ (by (try simp) <;> omega) _)

set_option maxRecDepth 100000 in
theorem limbBytes_lifted (os : Os) (started : os.Started) (H : Type) (enc : TypeId × Value → H) :
    ReturnsInHanded {} Try.checked os 10 .any (Rows.limbBytesSpec.pre6 enc Try.prog Try.f10 Rows.limbBytesRow.domain false) (Rows.limbBytesSpec.post enc Try.prog Try.f10 false true false false) := by
  refine returnsInHanded_of_change (C := Try.checked) own started (by kernel_rfl) Try.func10
    (ChangeSpec.witness6 (enc := enc) (C := Try.checked) false ⟨#[], #[b32V 0], []⟩ 8 (by kernel_rfl) (by kernel_rfl) (by kernel_rfl) (by kernel_rfl)) ?_
  intro W base args ds gs before hval0 hW hcnd _
  have hval : ∀ (j : Nat) t v, Try.f10.params[j]? = some t → args[j]? = some v → Value.okWide Try.prog W .any base t v := hval0
  have hW' := hW
  obtain ⟨p, q, hA0, hV, rfl, hfz, hnd⟩ := hW
  have hA : DataW.TrodAll enc Try.prog W 0 (fun _ => true) true Try.f10.params.toList args.toList ds p := hA0
  rw [Try.params10] at hA hval
  obtain ⟨v0, vs0, d0, ds0, p0, q0, hargs, rfl, rfl, h0, r0⟩ := trodAll_cons hA
  obtain ⟨rfl, rfl, rfl⟩ := trodAll_nil r0
  obtain rfl : args = #[v0] := by cases args; simp_all
  obtain ⟨rfl, rfl⟩ := trodVars_none hV
  have k0 := h0
  have lt0 : ∀ x ∈ p0, x.block < W.heap.size := by obtain ⟨m, hm⟩ := k0; exact DataW.trod_lt m _ _ _ hm
  obtain ⟨b, w_b, rfl⟩ := open_b32 (hval 0 42 v0 rfl rfl) h0
  clear hA0 hval0
  refine (limbBytes_walk b w_b W).mono fun e W' ⟨he, bel⟩ => ?_
  subst he
  exact ⟨_, rfl, _, _, _, [], _, [], hW', trodAll_mk1 (shut_bool Try.underlying4 _), (trodAll_cons_mk (Below.trod laidOut (by kernel_rfl) (of_decide_eq_true (by kernel_rfl)) k0 bel lt0) trodAll_mk0), rfl, bel.frame _, fun h => by cases h⟩

theorem limbBytes_holds : Rows.LimbBytesSaid :=
  OpenClaim.holds_of_wide 10 Try.f10 rfl rfl rfl rfl rfl rfl rfl ⟨rfl, rfl, rfl, rfl, rfl⟩ rfl rfl rfl rfl rfl (by kernel_rfl) Try.func10 (by kernel_rfl)
    (of_decide_eq_true (by kernel_rfl)) (by unfold Func.isWrapper; first | (rw [if_pos (by decide +kernel)]; kernel_rfl) | (rw [if_neg (by decide +kernel)]; exact ⟨rfl, rfl⟩))
    (fun os started H enc _ => limbBytes_lifted os started H enc)

end Go.Proofs.Ytmecomgifmkkfaa
