/- LimbOrders: numbers stand to one another as their bytes do, from the first on; who is below another one, that is below a third, is below that; for every input, no condition. -/
import Derived.Test.YtmecomgifmkkfaaProg
import Derived.Test.YtmecomgifmkkfaaNum
import Derived.Test.YtmecomgifmkkfaaBits
import Derived.Test.YtmecomgifmkkfaaBytes
import Derived.Test.YtmecomgifmkkfaaMem
import Derived.Test.YtmecomgifmkkfaaOrd
import Derived.Test.YtmecomgifmkkfaaEqs
import Derived.Test.YtmecomgifmkkfaaLimbA
import Derived.Test.YtmecomgifmkkfaaLimbB
import Derived.Test.YtmecomgifmkkfaaLimbC
import Derived.Test.YtmecomgifmkkfaaLimbF
import Derived.Test.YtmecomgifmkkfaaLimbG
import Derived.Test.YtmecomgifmkkfaaLimbM
import Derived.Test.YtmecomgifmkkfaaLimbN
import Derived.Test.YtmecomgifmkkfaaLimbW
import Derived.Test.YtmecomgifmkkfaaRows
import Derived.Test.YtmecomgifmkkfaaOpen
import Derived.Test.YtmecomgifmkkfaaAux
import Derived.WalkSpells
import Derived.WalkLawsBesides
import Derived.Handy
import Derived.Lib.Hide
import Derived.RegionTactic
import Derived.BigQuiet
import Derived.Deep.Cut
import Derived.ProofKit
import Derived.OpenShut
import Derived.Test.YtmecomgifmkkfaaOrdA
import Derived.Deep.WholeRow
import Derived.Laws.CopyOwn
namespace Go.Proofs.Ytmecomgifmkkfaa
set_option linter.unusedVariables false
set_option linter.unusedSimpArgs false
open Go.ChangeShapes Go.WideShapes Go.ChangeAt Go.RowKit

theorem run_alloc_b32 {o : Oper} (a : Act) (w : World) (h : o.op = .alloc 42) : (execOp a.eval o).run Try.prog w = .ok (.value (.pointer (some ⟨w.heap.size, 0, none⟩))) (w.alloc (.cells (b32C 0) 42)) := by
  obtain ⟨d, op, t, p, af, g⟩ := o
  simp only at h
  subst h
  rfl
/-- Block b holds the bytes of n. -/
def RowAt (w : World) (b n : Nat) : Prop := w.heap[b]? = some (.cells (b32C n) 42 (0, 0))
theorem RowAt.lt {w : World} {b n : Nat} (h : RowAt w b n) : b < w.heap.size := (Array.getElem?_eq_some_iff.1 h).1
theorem RowAt.kept {w w1 : World} {b n : Nat} (h : RowAt w b n) (hB : Below w.heap.size w w1) : RowAt w1 b n := (hB.block b h.lt).trans h
theorem RowAt.drew {w : World} {b n : Nat} (h : RowAt w b n) : RowAt w.drew b n := h
theorem RowAt.cell {w : World} {b n : Nat} (h : RowAt w b n) (i : Nat) (hi : i < 32) : w.cell? ⟨b, i, none⟩ = some (.int .u8 ((by8 n (31 - i) : Nat) : Int)) := by
  rw [cell_of_row w b i _ _ _ h]; exact b32C_get n i hi
theorem RowAt.free {w : World} {b n : Nat} (h : RowAt w b n) (i : Nat) : w.frozen? ⟨b, i, none⟩ = false := frozen_of_row w b i _ _ h
theorem NumAt.row {w : World} {b n g : Nat} (h : NumAt w b n) (c : Array Value) (hne : b ≠ g) : NumAt (w.setRow g c) b n := (setRow_other w g b c hne).trans h

/-- One byte more decides, or leaves it to those below. -/
theorem mod_byte (a j : Nat) : a % 256 ^ (j + 1) = by8 a j * 256 ^ j + a % 256 ^ j := by
  unfold by8
  rw [Nat.pow_succ, Nat.mod_mul, Nat.mul_comm (256 ^ j), Nat.add_comm]
theorem byte_lt {a b j : Nat} (h : by8 a j < by8 b j) : cmpI (a % 256 ^ (j + 1)) (b % 256 ^ (j + 1)) = -1 := by
  refine cmpI_lt ?_
  rw [mod_byte, mod_byte]
  have h1 : a % 256 ^ j < 256 ^ j := Nat.mod_lt _ (Nat.pow_pos (by decide))
  have h2 : (by8 a j + 1) * 256 ^ j ≤ by8 b j * 256 ^ j := Nat.mul_le_mul_right _ h
  rw [Nat.add_mul, Nat.one_mul] at h2
  omega
theorem byte_gt {a b j : Nat} (h : by8 b j < by8 a j) : cmpI (a % 256 ^ (j + 1)) (b % 256 ^ (j + 1)) = 1 := by
  refine cmpI_gt ?_
  rw [mod_byte, mod_byte]
  have h1 : b % 256 ^ j < 256 ^ j := Nat.mod_lt _ (Nat.pow_pos (by decide))
  have h2 : (by8 b j + 1) * 256 ^ j ≤ by8 a j * 256 ^ j := Nat.mul_le_mul_right _ h
  rw [Nat.add_mul, Nat.one_mul] at h2
  omega
theorem byte_same {a b j : Nat} (h : by8 a j = by8 b j) : cmpI (a % 256 ^ j) (b % 256 ^ j) = cmpI (a % 256 ^ (j + 1)) (b % 256 ^ (j + 1)) := by
  rw [mod_byte, mod_byte, h]
  unfold cmpI
  simp only [Nat.add_lt_add_iff_left]
theorem cmpI_all (a b : Nat) : (a < b ∧ cmpI a b = -1) ∨ (a = b ∧ cmpI a b = 0) ∨ (b < a ∧ cmpI a b = 1) := by
  rcases Nat.lt_trichotomy a b with h | h | h
  · exact .inl ⟨h, cmpI_lt h⟩
  · exact .inr (.inl ⟨h, cmpI_same h⟩)
  · exact .inr (.inr ⟨h, cmpI_gt h⟩)
theorem lenN_mono {a b : Nat} (h : lenN a < lenN b) : a < b := by
  rcases Nat.lt_or_ge a b with h1 | h1
  · exact h1
  · have := lenN_le (Nat.lt_of_le_of_lt h1 (lenN_lt a)); omega

set_option maxHeartbeats 1000000 in
set_option maxRecDepth 100000 in
theorem limbOrders_walk (a : Nat) (b : Nat) (c : Nat) (w_a : a < W256) (w_b : b < W256) (w_c : c < W256) (w : World) :
    Calls Try.prog 9 #[numV a, numV b, numV c] w fun e w' => e = .returned (.bool true) ∧ Below w.heap.size w w' := by
  have BA := Lib.hid w_a; have BB := Lib.hid w_b; have BC := Lib.hid w_c
  clear w_a w_b w_c
  have hsz : ∀ m, (Try.prog.info? 42).map (·.size) = some (b32C m).size := fun m => by rw [b32C_size]; kernel_rfl
  have Hsz := Lib.hid hsz
  clear hsz
  rw [numV_eq a, numV_eq b, numV_eq c]
  go_enter Try.func9, Try.ntmps9
  go_upto_region 1 with (fail)
  refine abs_world (fun w' => Below w.heap.size w w' ∧ NumAt w' (w.heap.size) a ∧ NumAt w' (w.heap.size + 1) b ∧ NumAt w' (w.heap.size + 1 + 1) c) ⟨((((Below.refl _ _).alloc (by (try simp) <;> omega) _).alloc (by (try simp) <;> omega) _).alloc (by (try simp) <;> omega) _), (((NumAt.newAt _ (w.heap.size) a (by first | rfl | simp)).alloc _).alloc _), ((NumAt.newAt _ (w.heap.size + 1) b (by first | rfl | simp)).alloc _), (NumAt.newAt _ (w.heap.size + 1 + 1) c (by first | rfl | simp))⟩ ?_
  intro w1 ⟨hWw1, N_a, N_b, N_c⟩
  have G_a0 : ∀ z : Ext w1, z.w.cell? ⟨w.heap.size, 0, none⟩ = some (.int .u64 (dg a 0 : Nat)) := fun z => (N_a.kept z.below).cell 0 (by decide)
  have G_a1 : ∀ z : Ext w1, z.w.cell? ⟨w.heap.size, 1, none⟩ = some (.int .u64 (dg a 1 : Nat)) := fun z => (N_a.kept z.below).cell 1 (by decide)
  have G_a2 : ∀ z : Ext w1, z.w.cell? ⟨w.heap.size, 2, none⟩ = some (.int .u64 (dg a 2 : Nat)) := fun z => (N_a.kept z.below).cell 2 (by decide)
  have G_a3 : ∀ z : Ext w1, z.w.cell? ⟨w.heap.size, 3, none⟩ = some (.int .u64 (dg a 3 : Nat)) := fun z => (N_a.kept z.below).cell 3 (by decide)
  have G_b0 : ∀ z : Ext w1, z.w.cell? ⟨w.heap.size + 1, 0, none⟩ = some (.int .u64 (dg b 0 : Nat)) := fun z => (N_b.kept z.below).cell 0 (by decide)
  have G_b1 : ∀ z : Ext w1, z.w.cell? ⟨w.heap.size + 1, 1, none⟩ = some (.int .u64 (dg b 1 : Nat)) := fun z => (N_b.kept z.below).cell 1 (by decide)
  have G_b2 : ∀ z : Ext w1, z.w.cell? ⟨w.heap.size + 1, 2, none⟩ = some (.int .u64 (dg b 2 : Nat)) := fun z => (N_b.kept z.below).cell 2 (by decide)
  have G_b3 : ∀ z : Ext w1, z.w.cell? ⟨w.heap.size + 1, 3, none⟩ = some (.int .u64 (dg b 3 : Nat)) := fun z => (N_b.kept z.below).cell 3 (by decide)
  refine ext_region_alloc 4 6 (fun _ => .cells (b32C 0) 42) (by kernel_rfl) (by kernel_rfl) (by decide) ?_ ?_
  · intro i o h1 h2 h3
    rcases (by omega : i = 4 ∨ i = 5) with rfl | rfl
    · obtain rfl := Option.some.inj h3; exact ⟨rfl, fun a w => run_alloc_b32 a w rfl⟩
    · obtain rfl := Option.some.inj h3; exact ⟨rfl, fun a w => run_alloc_b32 a w rfl⟩
  simp only [List.take_succ_cons, List.take_zero, List.drop_succ_cons, List.drop_zero]
  repeat (refine wpE_step (fun K hK => ?_); go_simp; refine hK _ ?_; clear hK K)
  refine wpE_step (fun K hK => ?_)
  go_simp
  apply Exists.intro
  refine ⟨fun _ => ?_, hK _ ?_⟩
  · (refine (bytes_calls a BA.out _).mono ?_; rintro e wz ⟨rfl, hBz⟩; exact ⟨rfl, hBz⟩)
  clear hK K
  repeat (refine wpE_step (fun K hK => ?_); go_simp; refine hK _ ?_; clear hK K)
  refine wpE_step (fun K hK => ?_)
  go_simp
  apply Exists.intro
  refine ⟨fun _ => ?_, hK _ ?_⟩
  · (refine (bytes_calls b BB.out _).mono ?_; rintro e wz ⟨rfl, hBz⟩; exact ⟨rfl, hBz⟩)
  clear hK K
  repeat (refine wpE_step (fun K hK => ?_); go_simp; refine hK _ ?_; clear hK K)
  refine wpE_nil ?_
  intro β_x hβ_x hu_x
  intro β_y hβ_y hu_y
  intro z hz
  clear G_a0 G_a1 G_a2 G_a3 G_b0 G_b1 G_b2 G_b3
  have Q_a_x : w.heap.size < β_x := Nat.lt_of_lt_of_le N_a.lt hβ_x
  have Q_a_y : w.heap.size < β_y := Nat.lt_of_lt_of_le N_a.lt hβ_y
  have M_a := N_a.kept z.below
  have Q_b_x : w.heap.size + 1 < β_x := Nat.lt_of_lt_of_le N_b.lt hβ_x
  have Q_b_y : w.heap.size + 1 < β_y := Nat.lt_of_lt_of_le N_b.lt hβ_y
  have M_b := N_b.kept z.below
  have Q_c_x : w.heap.size + 1 + 1 < β_x := Nat.lt_of_lt_of_le N_c.lt hβ_x
  have Q_c_y : w.heap.size + 1 + 1 < β_y := Nat.lt_of_lt_of_le N_c.lt hβ_y
  have M_c := N_c.kept z.below
  have M_y : RowAt z.w β_y 0 := hz.2
  have M_x : RowAt z.w β_x 0 := hz.1.2
  have D_x_y : β_y ≠ β_x := fun h => hu_y (Or.inl h)
  have hβw_x : w.heap.size ≤ β_x := Nat.le_trans hWw1.size hβ_x
  have hβw_y : w.heap.size ≤ β_y := Nat.le_trans hWw1.size hβ_y
  have hWw1x := hWw1.trans (z.below.mono hWw1.size)
  clear hz N_a N_b N_c hWw1 hβ_x hu_x hβ_y hu_y
  generalize z.w = w1x at *
  clear z
  have N_a := M_a
  have N_b := M_b
  have N_c := M_c
  have N_x := M_x
  have N_y := M_y
  clear M_a M_b M_c M_x M_y
  refine wpList_store_row rfl 42 (.tmp 7) (.tmp 12) rfl β_x (b32C a) rfl rfl 42 (b32C 0) N_x (Hsz.out a) (by rw [b32C_size, b32C_size]) (b32C_one a) ?_
  refine wpList_store_row rfl 42 (.tmp 8) (.tmp 14) rfl β_y (b32C b) rfl rfl 42 (b32C 0) ((setRow_other _ _ _ _ D_x_y).trans N_y) (Hsz.out b) (by rw [b32C_size, b32C_size]) (b32C_one b) ?_
  have hX : RowAt ((w1x.setRow β_x (b32C a)).setRow β_y (b32C b)) β_x a := (setRow_other _ _ _ _ (Ne.symm D_x_y)).trans (setRow_heap _ _ _ _ _ _ N_x)
  have hY : RowAt ((w1x.setRow β_x (b32C a)).setRow β_y (b32C b)) β_y b := setRow_heap _ _ _ _ _ _ ((setRow_other _ _ _ _ D_x_y).trans N_y)
  have hA := (N_a.row (b32C a) (Nat.ne_of_lt Q_a_x)).row (b32C b) (Nat.ne_of_lt Q_a_y)
  have hB := (N_b.row (b32C a) (Nat.ne_of_lt Q_b_x)).row (b32C b) (Nat.ne_of_lt Q_b_y)
  have hC := (N_c.row (b32C a) (Nat.ne_of_lt Q_c_x)).row (b32C b) (Nat.ne_of_lt Q_c_y)
  have hWB := below_setRow (below_setRow hWw1x hβw_x (b32C a)) hβw_y (b32C b)
  clear N_x N_y N_a N_b N_c hWw1x D_x_y Q_a_x Q_a_y Q_b_x Q_b_y Q_c_x Q_c_y
  revert hX hY hA hB hC hWB
  generalize ((w1x.setRow β_x (b32C a)).setRow β_y (b32C b)) = wb
  intro hX hY hA hB hC hWB
  go_wp2
  go_loopw [10, 9] (fun i t wr => ∃ k : Nat, k ≤ 32 ∧ i = .int .i64 ((k : Int) - 1) ∧ t = .int .i64 (cmpI (a % 256 ^ (32 - k)) (b % 256 ^ (32 - k))) ∧ Below w.heap.size w wr ∧ NumAt wr w.heap.size a ∧ NumAt wr (w.heap.size + 1) b ∧ NumAt wr (w.heap.size + 1 + 1) c ∧ RowAt wr β_x a ∧ RowAt wr β_y b) (fun i _ _ => (intOf i + 1).toNat)
  case atStart => exact ⟨32, by omega, rfl, by rw [show 32 - 32 = 0 from rfl, Nat.pow_zero, Nat.mod_one, Nat.mod_one]; rfl, hWB, hA, hB, hC, hX, hY⟩
  case round =>
    clear hX hY hA hB hC hWB
    obtain ⟨k, hk, rfl, rfl, hWr, N_a, N_b, N_c, N_x, N_y⟩ := hrel
    by_cases h0 : k = 0
    · subst h0
      obtain ⟨u, hu⟩ : ∃ u, u = cmpI a b := ⟨_, rfl⟩
      have hu' : cmpI (a % 256 ^ (32 - 0)) (b % 256 ^ (32 - 0)) = u := by
        rw [hu, Nat.mod_eq_of_lt (by have := BA.out; unfold W256 at this; omega), Nat.mod_eq_of_lt (by have := BB.out; unfold W256 at this; omega)]
      rw [hu']
      clear hu'
      have U := Lib.hid hu
      clear hu hk
      obtain ⟨v, hv⟩ : ∃ v, v = cmpI b c := ⟨_, rfl⟩
      have V := Lib.hid hv; clear hv
      obtain ⟨t, ht⟩ : ∃ t, t = cmpI a c := ⟨_, rfl⟩
      have T := Lib.hid ht; clear ht
      obtain ⟨la, hla⟩ : ∃ la, la = lenN a := ⟨_, rfl⟩
      obtain ⟨lb, hlb⟩ : ∃ lb, lb = lenN b := ⟨_, rfl⟩
      have la256 : la ≤ 256 := by rw [hla]; exact lenN_256 BA.out
      have lb256 : lb ≤ 256 := by rw [hlb]; exact lenN_256 BB.out
      have hu1 : u = -1 ∨ u = 0 ∨ u = 1 := by rw [U.out]; rcases cmpI_all a b with h | h | h <;> simp [h.2]
      have hlen : lb ≤ la ∨ (la < lb ∧ u < 0) := by
        rcases Nat.lt_or_ge la lb with h | h
        · right; refine ⟨h, ?_⟩
          rw [U.out, cmpI_lt (lenN_mono (by rw [← hla, ← hlb]; exact h))]; decide
        · exact .inl h
      have htr : 0 < u ∨ (u ≤ 0 ∧ 0 < v) ∨ (u ≤ 0 ∧ v ≤ 0 ∧ t ≤ 0) := by
        rw [U.out, V.out, T.out]
        rcases cmpI_all a b with h1 | h1 | h1 <;> rcases cmpI_all b c with h2 | h2 | h2 <;> rcases cmpI_all a c with h3 | h3 | h3 <;> rw [h1.2, h2.2, h3.2] <;> omega
      have LAh := Lib.hid hla; have LBh := Lib.hid hlb
      clear hla hlb
      rcases hlen with hlen | ⟨hlen, hneg⟩ <;> rcases htr with h1 | ⟨h1, h2⟩ | ⟨h1, h2, h3⟩
      · skip
        clear N_x N_y
        have F_a := N_a.facts; have L_a := N_a.lt
        have F_b := N_b.facts; have L_b := N_b.lt
        have L1_b : w.heap.size < wr.heap.size := by omega
        have F_c := N_c.facts; have L_c := N_c.lt
        have L1_c : w.heap.size + 1 < wr.heap.size := by omega
        have L2_c : w.heap.size < wr.heap.size := by omega
        go_wp2_with fail
        refine (cmp_calls a b BA.out BB.out _).mono ?_
        rintro e w1 ⟨rfl, hB1⟩
        rw [← U.out]
        clear F_a L_a F_b L_b L1_b F_c L_c L1_c L2_c
        have zw1 := hWr.size
        have M_a := N_a.kept hB1
        have M_b := N_b.kept hB1
        have M_c := N_c.kept hB1
        have hWw1 : Below w.heap.size w w1 := hWr.trans (hB1.mono (by (try simp) <;> omega))
        clear N_a N_b N_c hWr zw1 hB1
        have N_a := M_a
        have N_b := M_b
        have N_c := M_c
        clear M_a M_b M_c
        have F_a := N_a.facts; have L_a := N_a.lt
        have F_b := N_b.facts; have L_b := N_b.lt
        have L1_b : w.heap.size < w1.heap.size := by omega
        have F_c := N_c.facts; have L_c := N_c.lt
        have L1_c : w.heap.size + 1 < w1.heap.size := by omega
        have L2_c : w.heap.size < w1.heap.size := by omega
        go_wp2_with fail
        refine (cmp_calls a b BA.out BB.out _).mono ?_
        rintro e w2 ⟨rfl, hB2⟩
        rw [← U.out]
        clear F_a L_a F_b L_b L1_b F_c L_c L1_c L2_c
        have zw2 := hWw1.size
        have M_a := N_a.kept hB2
        have M_b := N_b.kept hB2
        have M_c := N_c.kept hB2
        have hWw2 : Below w.heap.size w w2 := hWw1.trans (hB2.mono (by (try simp) <;> omega))
        clear N_a N_b N_c hWw1 zw2 hB2
        have N_a := M_a
        have N_b := M_b
        have N_c := M_c
        clear M_a M_b M_c
        have F_a := N_a.facts; have L_a := N_a.lt
        have F_b := N_b.facts; have L_b := N_b.lt
        have L1_b : w.heap.size < w2.heap.size := by omega
        have F_c := N_c.facts; have L_c := N_c.lt
        have L1_c : w.heap.size + 1 < w2.heap.size := by omega
        have L2_c : w.heap.size < w2.heap.size := by omega
        go_upto_region 14 with (fail)
        clear F_a L_a F_b L_b L1_b F_c L_c L1_c L2_c
        have zz := hWw2.size
        refine abs_world (fun w' => Below w.heap.size w w' ∧ NumAt w' (w.heap.size) a ∧ NumAt w' (w.heap.size + 1) b ∧ NumAt w' (w.heap.size + 1 + 1) c) ⟨hWw2, N_a, N_b, N_c⟩ ?_
        clear N_a N_b N_c hWw2 zz
        intro w3 ⟨hWw3, N_a, N_b, N_c⟩
        clear hu1 h1; have hl1 : (lb : Int) ≤ (la : Int) := by omega
        have G_a0 : ∀ z : Ext w3, z.w.cell? ⟨w.heap.size, 0, none⟩ = some (.int .u64 (dg a 0 : Nat)) := fun z => (N_a.kept z.below).cell 0 (by decide)
        have G_a1 : ∀ z : Ext w3, z.w.cell? ⟨w.heap.size, 1, none⟩ = some (.int .u64 (dg a 1 : Nat)) := fun z => (N_a.kept z.below).cell 1 (by decide)
        have G_a2 : ∀ z : Ext w3, z.w.cell? ⟨w.heap.size, 2, none⟩ = some (.int .u64 (dg a 2 : Nat)) := fun z => (N_a.kept z.below).cell 2 (by decide)
        have G_a3 : ∀ z : Ext w3, z.w.cell? ⟨w.heap.size, 3, none⟩ = some (.int .u64 (dg a 3 : Nat)) := fun z => (N_a.kept z.below).cell 3 (by decide)
        have G_b0 : ∀ z : Ext w3, z.w.cell? ⟨w.heap.size + 1, 0, none⟩ = some (.int .u64 (dg b 0 : Nat)) := fun z => (N_b.kept z.below).cell 0 (by decide)
        have G_b1 : ∀ z : Ext w3, z.w.cell? ⟨w.heap.size + 1, 1, none⟩ = some (.int .u64 (dg b 1 : Nat)) := fun z => (N_b.kept z.below).cell 1 (by decide)
        have G_b2 : ∀ z : Ext w3, z.w.cell? ⟨w.heap.size + 1, 2, none⟩ = some (.int .u64 (dg b 2 : Nat)) := fun z => (N_b.kept z.below).cell 2 (by decide)
        have G_b3 : ∀ z : Ext w3, z.w.cell? ⟨w.heap.size + 1, 3, none⟩ = some (.int .u64 (dg b 3 : Nat)) := fun z => (N_b.kept z.below).cell 3 (by decide)
        refine ext_region (by kernel_rfl) (by kernel_rfl) ?_
        repeat (go_big_quiet_step (fail))
        go_big_quiet_step ((refine (len_calls a BA.out _).mono ?_; rintro e wz ⟨rfl, hBz⟩; rw [← LAh.out]; exact ⟨rfl, Ext.on _ hBz⟩))
        repeat (go_big_quiet_step (fail))
        go_big_quiet_step ((refine (len_calls b BB.out _).mono ?_; rintro e wz ⟨rfl, hBz⟩; rw [← LBh.out]; exact ⟨rfl, Ext.on _ hBz⟩))
        repeat (go_big_quiet_step (fail))
        go_big_quiet_step ((refine (wakes1_calls _).mono ?_; rintro e wz ⟨rfl, hBz⟩; exact ⟨rfl, Ext.on _ hBz⟩))
        repeat (go_big_quiet_step (fail))
        refine wpQuiet_nil ?_
        intro z
        clear G_a0 G_a1 G_a2 G_a3 G_b0 G_b1 G_b2 G_b3
        have M_a := N_a.kept z.below
        have M_b := N_b.kept z.below
        have M_c := N_c.kept z.below
        have hWw3x := hWw3.trans (z.below.mono hWw3.size)
        clear N_a N_b N_c hWw3
        generalize z.w = w3x at *
        clear z
        have N_a := M_a
        have N_b := M_b
        have N_c := M_c
        clear M_a M_b M_c
        go_wp2
        go_ret
        have zz := hWw3x.size
        refine ⟨rfl, ?_⟩
        repeat first | exact Below.refl _ _ | assumption | refine Below.drew ?_ | (refine Below.alloc ?_ (by (try simp) <;> omega) _)
      · skip
        clear N_x N_y
        have F_a := N_a.facts; have L_a := N_a.lt
        have F_b := N_b.facts; have L_b := N_b.lt
        have L1_b : w.heap.size < wr.heap.size := by omega
        have F_c := N_c.facts; have L_c := N_c.lt
        have L1_c : w.heap.size + 1 < wr.heap.size := by omega
        have L2_c : w.heap.size < wr.heap.size := by omega
        go_wp2_with fail
        refine (cmp_calls a b BA.out BB.out _).mono ?_
        rintro e w1 ⟨rfl, hB1⟩
        rw [← U.out]
        clear F_a L_a F_b L_b L1_b F_c L_c L1_c L2_c
        have zw1 := hWr.size
        have M_a := N_a.kept hB1
        have M_b := N_b.kept hB1
        have M_c := N_c.kept hB1
        have hWw1 : Below w.heap.size w w1 := hWr.trans (hB1.mono (by (try simp) <;> omega))
        clear N_a N_b N_c hWr zw1 hB1
        have N_a := M_a
        have N_b := M_b
        have N_c := M_c
        clear M_a M_b M_c
        have F_a := N_a.facts; have L_a := N_a.lt
        have F_b := N_b.facts; have L_b := N_b.lt
        have L1_b : w.heap.size < w1.heap.size := by omega
        have F_c := N_c.facts; have L_c := N_c.lt
        have L1_c : w.heap.size + 1 < w1.heap.size := by omega
        have L2_c : w.heap.size < w1.heap.size := by omega
        go_wp2_with fail
        refine (cmp_calls a b BA.out BB.out _).mono ?_
        rintro e w2 ⟨rfl, hB2⟩
        rw [← U.out]
        clear F_a L_a F_b L_b L1_b F_c L_c L1_c L2_c
        have zw2 := hWw1.size
        have M_a := N_a.kept hB2
        have M_b := N_b.kept hB2
        have M_c := N_c.kept hB2
        have hWw2 : Below w.heap.size w w2 := hWw1.trans (hB2.mono (by (try simp) <;> omega))
        clear N_a N_b N_c hWw1 zw2 hB2
        have N_a := M_a
        have N_b := M_b
        have N_c := M_c
        clear M_a M_b M_c
        have F_a := N_a.facts; have L_a := N_a.lt
        have F_b := N_b.facts; have L_b := N_b.lt
        have L1_b : w.heap.size < w2.heap.size := by omega
        have F_c := N_c.facts; have L_c := N_c.lt
        have L1_c : w.heap.size + 1 < w2.heap.size := by omega
        have L2_c : w.heap.size < w2.heap.size := by omega
        go_wp2_with fail
        refine (cmp_calls b c BB.out BC.out _).mono ?_
        rintro e w3 ⟨rfl, hB3⟩
        rw [← V.out]
        clear F_a L_a F_b L_b L1_b F_c L_c L1_c L2_c
        have zw3 := hWw2.size
        have M_a := N_a.kept hB3
        have M_b := N_b.kept hB3
        have M_c := N_c.kept hB3
        have hWw3 : Below w.heap.size w w3 := hWw2.trans (hB3.mono (by (try simp) <;> omega))
        clear N_a N_b N_c hWw2 zw3 hB3
        have N_a := M_a
        have N_b := M_b
        have N_c := M_c
        clear M_a M_b M_c
        have F_a := N_a.facts; have L_a := N_a.lt
        have F_b := N_b.facts; have L_b := N_b.lt
        have L1_b : w.heap.size < w3.heap.size := by omega
        have F_c := N_c.facts; have L_c := N_c.lt
        have L1_c : w.heap.size + 1 < w3.heap.size := by omega
        have L2_c : w.heap.size < w3.heap.size := by omega
        go_upto_region 14 with (fail)
        clear F_a L_a F_b L_b L1_b F_c L_c L1_c L2_c
        have zz := hWw3.size
        refine abs_world (fun w' => Below w.heap.size w w' ∧ NumAt w' (w.heap.size) a ∧ NumAt w' (w.heap.size + 1) b ∧ NumAt w' (w.heap.size + 1 + 1) c) ⟨hWw3, N_a, N_b, N_c⟩ ?_
        clear N_a N_b N_c hWw3 zz
        intro w4 ⟨hWw4, N_a, N_b, N_c⟩
        clear hu1 h1 h2; have hl1 : (lb : Int) ≤ (la : Int) := by omega
        have G_a0 : ∀ z : Ext w4, z.w.cell? ⟨w.heap.size, 0, none⟩ = some (.int .u64 (dg a 0 : Nat)) := fun z => (N_a.kept z.below).cell 0 (by decide)
        have G_a1 : ∀ z : Ext w4, z.w.cell? ⟨w.heap.size, 1, none⟩ = some (.int .u64 (dg a 1 : Nat)) := fun z => (N_a.kept z.below).cell 1 (by decide)
        have G_a2 : ∀ z : Ext w4, z.w.cell? ⟨w.heap.size, 2, none⟩ = some (.int .u64 (dg a 2 : Nat)) := fun z => (N_a.kept z.below).cell 2 (by decide)
        have G_a3 : ∀ z : Ext w4, z.w.cell? ⟨w.heap.size, 3, none⟩ = some (.int .u64 (dg a 3 : Nat)) := fun z => (N_a.kept z.below).cell 3 (by decide)
        have G_b0 : ∀ z : Ext w4, z.w.cell? ⟨w.heap.size + 1, 0, none⟩ = some (.int .u64 (dg b 0 : Nat)) := fun z => (N_b.kept z.below).cell 0 (by decide)
        have G_b1 : ∀ z : Ext w4, z.w.cell? ⟨w.heap.size + 1, 1, none⟩ = some (.int .u64 (dg b 1 : Nat)) := fun z => (N_b.kept z.below).cell 1 (by decide)
        have G_b2 : ∀ z : Ext w4, z.w.cell? ⟨w.heap.size + 1, 2, none⟩ = some (.int .u64 (dg b 2 : Nat)) := fun z => (N_b.kept z.below).cell 2 (by decide)
        have G_b3 : ∀ z : Ext w4, z.w.cell? ⟨w.heap.size + 1, 3, none⟩ = some (.int .u64 (dg b 3 : Nat)) := fun z => (N_b.kept z.below).cell 3 (by decide)
        refine ext_region (by kernel_rfl) (by kernel_rfl) ?_
        repeat (go_big_quiet_step (fail))
        go_big_quiet_step ((refine (len_calls a BA.out _).mono ?_; rintro e wz ⟨rfl, hBz⟩; rw [← LAh.out]; exact ⟨rfl, Ext.on _ hBz⟩))
        repeat (go_big_quiet_step (fail))
        go_big_quiet_step ((refine (len_calls b BB.out _).mono ?_; rintro e wz ⟨rfl, hBz⟩; rw [← LBh.out]; exact ⟨rfl, Ext.on _ hBz⟩))
        repeat (go_big_quiet_step (fail))
        go_big_quiet_step ((refine (wakes1_calls _).mono ?_; rintro e wz ⟨rfl, hBz⟩; exact ⟨rfl, Ext.on _ hBz⟩))
        repeat (go_big_quiet_step (fail))
        refine wpQuiet_nil ?_
        intro z
        clear G_a0 G_a1 G_a2 G_a3 G_b0 G_b1 G_b2 G_b3
        have M_a := N_a.kept z.below
        have M_b := N_b.kept z.below
        have M_c := N_c.kept z.below
        have hWw4x := hWw4.trans (z.below.mono hWw4.size)
        clear N_a N_b N_c hWw4
        generalize z.w = w4x at *
        clear z
        have N_a := M_a
        have N_b := M_b
        have N_c := M_c
        clear M_a M_b M_c
        go_wp2
        go_ret
        have zz := hWw4x.size
        refine ⟨rfl, ?_⟩
        repeat first | exact Below.refl _ _ | assumption | refine Below.drew ?_ | (refine Below.alloc ?_ (by (try simp) <;> omega) _)
      · skip
        clear N_x N_y
        have F_a := N_a.facts; have L_a := N_a.lt
        have F_b := N_b.facts; have L_b := N_b.lt
        have L1_b : w.heap.size < wr.heap.size := by omega
        have F_c := N_c.facts; have L_c := N_c.lt
        have L1_c : w.heap.size + 1 < wr.heap.size := by omega
        have L2_c : w.heap.size < wr.heap.size := by omega
        go_wp2_with fail
        refine (cmp_calls a b BA.out BB.out _).mono ?_
        rintro e w1 ⟨rfl, hB1⟩
        rw [← U.out]
        clear F_a L_a F_b L_b L1_b F_c L_c L1_c L2_c
        have zw1 := hWr.size
        have M_a := N_a.kept hB1
        have M_b := N_b.kept hB1
        have M_c := N_c.kept hB1
        have hWw1 : Below w.heap.size w w1 := hWr.trans (hB1.mono (by (try simp) <;> omega))
        clear N_a N_b N_c hWr zw1 hB1
        have N_a := M_a
        have N_b := M_b
        have N_c := M_c
        clear M_a M_b M_c
        have F_a := N_a.facts; have L_a := N_a.lt
        have F_b := N_b.facts; have L_b := N_b.lt
        have L1_b : w.heap.size < w1.heap.size := by omega
        have F_c := N_c.facts; have L_c := N_c.lt
        have L1_c : w.heap.size + 1 < w1.heap.size := by omega
        have L2_c : w.heap.size < w1.heap.size := by omega
        go_wp2_with fail
        refine (cmp_calls a b BA.out BB.out _).mono ?_
        rintro e w2 ⟨rfl, hB2⟩
        rw [← U.out]
        clear F_a L_a F_b L_b L1_b F_c L_c L1_c L2_c
        have zw2 := hWw1.size
        have M_a := N_a.kept hB2
        have M_b := N_b.kept hB2
        have M_c := N_c.kept hB2
        have hWw2 : Below w.heap.size w w2 := hWw1.trans (hB2.mono (by (try simp) <;> omega))
        clear N_a N_b N_c hWw1 zw2 hB2
        have N_a := M_a
        have N_b := M_b
        have N_c := M_c
        clear M_a M_b M_c
        have F_a := N_a.facts; have L_a := N_a.lt
        have F_b := N_b.facts; have L_b := N_b.lt
        have L1_b : w.heap.size < w2.heap.size := by omega
        have F_c := N_c.facts; have L_c := N_c.lt
        have L1_c : w.heap.size + 1 < w2.heap.size := by omega
        have L2_c : w.heap.size < w2.heap.size := by omega
        go_wp2_with fail
        refine (cmp_calls b c BB.out BC.out _).mono ?_
        rintro e w3 ⟨rfl, hB3⟩
        rw [← V.out]
        clear F_a L_a F_b L_b L1_b F_c L_c L1_c L2_c
        have zw3 := hWw2.size
        have M_a := N_a.kept hB3
        have M_b := N_b.kept hB3
        have M_c := N_c.kept hB3
        have hWw3 : Below w.heap.size w w3 := hWw2.trans (hB3.mono (by (try simp) <;> omega))
        clear N_a N_b N_c hWw2 zw3 hB3
        have N_a := M_a
        have N_b := M_b
        have N_c := M_c
        clear M_a M_b M_c
        have F_a := N_a.facts; have L_a := N_a.lt
        have F_b := N_b.facts; have L_b := N_b.lt
        have L1_b : w.heap.size < w3.heap.size := by omega
        have F_c := N_c.facts; have L_c := N_c.lt
        have L1_c : w.heap.size + 1 < w3.heap.size := by omega
        have L2_c : w.heap.size < w3.heap.size := by omega
        go_wp2_with fail
        refine (cmp_calls a c BA.out BC.out _).mono ?_
        rintro e w4 ⟨rfl, hB4⟩
        rw [← T.out]
        clear F_a L_a F_b L_b L1_b F_c L_c L1_c L2_c
        have zw4 := hWw3.size
        have M_a := N_a.kept hB4
        have M_b := N_b.kept hB4
        have M_c := N_c.kept hB4
        have hWw4 : Below w.heap.size w w4 := hWw3.trans (hB4.mono (by (try simp) <;> omega))
        clear N_a N_b N_c hWw3 zw4 hB4
        have N_a := M_a
        have N_b := M_b
        have N_c := M_c
        clear M_a M_b M_c
        have F_a := N_a.facts; have L_a := N_a.lt
        have F_b := N_b.facts; have L_b := N_b.lt
        have L1_b : w.heap.size < w4.heap.size := by omega
        have F_c := N_c.facts; have L_c := N_c.lt
        have L1_c : w.heap.size + 1 < w4.heap.size := by omega
        have L2_c : w.heap.size < w4.heap.size := by omega
        go_upto_region 14 with (fail)
        clear F_a L_a F_b L_b L1_b F_c L_c L1_c L2_c
        have zz := hWw4.size
        refine abs_world (fun w' => Below w.heap.size w w' ∧ NumAt w' (w.heap.size) a ∧ NumAt w' (w.heap.size + 1) b ∧ NumAt w' (w.heap.size + 1 + 1) c) ⟨hWw4, N_a, N_b, N_c⟩ ?_
        clear N_a N_b N_c hWw4 zz
        intro w5 ⟨hWw5, N_a, N_b, N_c⟩
        clear hu1 h1 h2 h3; have hl1 : (lb : Int) ≤ (la : Int) := by omega
        have G_a0 : ∀ z : Ext w5, z.w.cell? ⟨w.heap.size, 0, none⟩ = some (.int .u64 (dg a 0 : Nat)) := fun z => (N_a.kept z.below).cell 0 (by decide)
        have G_a1 : ∀ z : Ext w5, z.w.cell? ⟨w.heap.size, 1, none⟩ = some (.int .u64 (dg a 1 : Nat)) := fun z => (N_a.kept z.below).cell 1 (by decide)
        have G_a2 : ∀ z : Ext w5, z.w.cell? ⟨w.heap.size, 2, none⟩ = some (.int .u64 (dg a 2 : Nat)) := fun z => (N_a.kept z.below).cell 2 (by decide)
        have G_a3 : ∀ z : Ext w5, z.w.cell? ⟨w.heap.size, 3, none⟩ = some (.int .u64 (dg a 3 : Nat)) := fun z => (N_a.kept z.below).cell 3 (by decide)
        have G_b0 : ∀ z : Ext w5, z.w.cell? ⟨w.heap.size + 1, 0, none⟩ = some (.int .u64 (dg b 0 : Nat)) := fun z => (N_b.kept z.below).cell 0 (by decide)
        have G_b1 : ∀ z : Ext w5, z.w.cell? ⟨w.heap.size + 1, 1, none⟩ = some (.int .u64 (dg b 1 : Nat)) := fun z => (N_b.kept z.below).cell 1 (by decide)
        have G_b2 : ∀ z : Ext w5, z.w.cell? ⟨w.heap.size + 1, 2, none⟩ = some (.int .u64 (dg b 2 : Nat)) := fun z => (N_b.kept z.below).cell 2 (by decide)
        have G_b3 : ∀ z : Ext w5, z.w.cell? ⟨w.heap.size + 1, 3, none⟩ = some (.int .u64 (dg b 3 : Nat)) := fun z => (N_b.kept z.below).cell 3 (by decide)
        refine ext_region (by kernel_rfl) (by kernel_rfl) ?_
        repeat (go_big_quiet_step (fail))
        go_big_quiet_step ((refine (len_calls a BA.out _).mono ?_; rintro e wz ⟨rfl, hBz⟩; rw [← LAh.out]; exact ⟨rfl, Ext.on _ hBz⟩))
        repeat (go_big_quiet_step (fail))
        go_big_quiet_step ((refine (len_calls b BB.out _).mono ?_; rintro e wz ⟨rfl, hBz⟩; rw [← LBh.out]; exact ⟨rfl, Ext.on _ hBz⟩))
        repeat (go_big_quiet_step (fail))
        go_big_quiet_step ((refine (wakes1_calls _).mono ?_; rintro e wz ⟨rfl, hBz⟩; exact ⟨rfl, Ext.on _ hBz⟩))
        repeat (go_big_quiet_step (fail))
        refine wpQuiet_nil ?_
        intro z
        clear G_a0 G_a1 G_a2 G_a3 G_b0 G_b1 G_b2 G_b3
        have M_a := N_a.kept z.below
        have M_b := N_b.kept z.below
        have M_c := N_c.kept z.below
        have hWw5x := hWw5.trans (z.below.mono hWw5.size)
        clear N_a N_b N_c hWw5
        generalize z.w = w5x at *
        clear z
        have N_a := M_a
        have N_b := M_b
        have N_c := M_c
        clear M_a M_b M_c
        go_wp2
        go_ret
        have zz := hWw5x.size
        refine ⟨rfl, ?_⟩
        repeat first | exact Below.refl _ _ | assumption | refine Below.drew ?_ | (refine Below.alloc ?_ (by (try simp) <;> omega) _)
      · skip
        exact absurd h1 (by omega)
      · skip
        clear N_x N_y
        have F_a := N_a.facts; have L_a := N_a.lt
        have F_b := N_b.facts; have L_b := N_b.lt
        have L1_b : w.heap.size < wr.heap.size := by omega
        have F_c := N_c.facts; have L_c := N_c.lt
        have L1_c : w.heap.size + 1 < wr.heap.size := by omega
        have L2_c : w.heap.size < wr.heap.size := by omega
        go_wp2_with fail
        refine (cmp_calls a b BA.out BB.out _).mono ?_
        rintro e w1 ⟨rfl, hB1⟩
        rw [← U.out]
        clear F_a L_a F_b L_b L1_b F_c L_c L1_c L2_c
        have zw1 := hWr.size
        have M_a := N_a.kept hB1
        have M_b := N_b.kept hB1
        have M_c := N_c.kept hB1
        have hWw1 : Below w.heap.size w w1 := hWr.trans (hB1.mono (by (try simp) <;> omega))
        clear N_a N_b N_c hWr zw1 hB1
        have N_a := M_a
        have N_b := M_b
        have N_c := M_c
        clear M_a M_b M_c
        have F_a := N_a.facts; have L_a := N_a.lt
        have F_b := N_b.facts; have L_b := N_b.lt
        have L1_b : w.heap.size < w1.heap.size := by omega
        have F_c := N_c.facts; have L_c := N_c.lt
        have L1_c : w.heap.size + 1 < w1.heap.size := by omega
        have L2_c : w.heap.size < w1.heap.size := by omega
        go_wp2_with fail
        refine (cmp_calls a b BA.out BB.out _).mono ?_
        rintro e w2 ⟨rfl, hB2⟩
        rw [← U.out]
        clear F_a L_a F_b L_b L1_b F_c L_c L1_c L2_c
        have zw2 := hWw1.size
        have M_a := N_a.kept hB2
        have M_b := N_b.kept hB2
        have M_c := N_c.kept hB2
        have hWw2 : Below w.heap.size w w2 := hWw1.trans (hB2.mono (by (try simp) <;> omega))
        clear N_a N_b N_c hWw1 zw2 hB2
        have N_a := M_a
        have N_b := M_b
        have N_c := M_c
        clear M_a M_b M_c
        have F_a := N_a.facts; have L_a := N_a.lt
        have F_b := N_b.facts; have L_b := N_b.lt
        have L1_b : w.heap.size < w2.heap.size := by omega
        have F_c := N_c.facts; have L_c := N_c.lt
        have L1_c : w.heap.size + 1 < w2.heap.size := by omega
        have L2_c : w.heap.size < w2.heap.size := by omega
        go_wp2_with fail
        refine (cmp_calls b c BB.out BC.out _).mono ?_
        rintro e w3 ⟨rfl, hB3⟩
        rw [← V.out]
        clear F_a L_a F_b L_b L1_b F_c L_c L1_c L2_c
        have zw3 := hWw2.size
        have M_a := N_a.kept hB3
        have M_b := N_b.kept hB3
        have M_c := N_c.kept hB3
        have hWw3 : Below w.heap.size w w3 := hWw2.trans (hB3.mono (by (try simp) <;> omega))
        clear N_a N_b N_c hWw2 zw3 hB3
        have N_a := M_a
        have N_b := M_b
        have N_c := M_c
        clear M_a M_b M_c
        have F_a := N_a.facts; have L_a := N_a.lt
        have F_b := N_b.facts; have L_b := N_b.lt
        have L1_b : w.heap.size < w3.heap.size := by omega
        have F_c := N_c.facts; have L_c := N_c.lt
        have L1_c : w.heap.size + 1 < w3.heap.size := by omega
        have L2_c : w.heap.size < w3.heap.size := by omega
        go_upto_region 14 with (fail)
        clear F_a L_a F_b L_b L1_b F_c L_c L1_c L2_c
        have zz := hWw3.size
        refine abs_world (fun w' => Below w.heap.size w w' ∧ NumAt w' (w.heap.size) a ∧ NumAt w' (w.heap.size + 1) b ∧ NumAt w' (w.heap.size + 1 + 1) c) ⟨hWw3, N_a, N_b, N_c⟩ ?_
        clear N_a N_b N_c hWw3 zz
        intro w4 ⟨hWw4, N_a, N_b, N_c⟩
        clear hu1 h1 h2; have hl1 : ¬ (lb : Int) ≤ (la : Int) := by omega
        have G_a0 : ∀ z : Ext w4, z.w.cell? ⟨w.heap.size, 0, none⟩ = some (.int .u64 (dg a 0 : Nat)) := fun z => (N_a.kept z.below).cell 0 (by decide)
        have G_a1 : ∀ z : Ext w4, z.w.cell? ⟨w.heap.size, 1, none⟩ = some (.int .u64 (dg a 1 : Nat)) := fun z => (N_a.kept z.below).cell 1 (by decide)
        have G_a2 : ∀ z : Ext w4, z.w.cell? ⟨w.heap.size, 2, none⟩ = some (.int .u64 (dg a 2 : Nat)) := fun z => (N_a.kept z.below).cell 2 (by decide)
        have G_a3 : ∀ z : Ext w4, z.w.cell? ⟨w.heap.size, 3, none⟩ = some (.int .u64 (dg a 3 : Nat)) := fun z => (N_a.kept z.below).cell 3 (by decide)
        have G_b0 : ∀ z : Ext w4, z.w.cell? ⟨w.heap.size + 1, 0, none⟩ = some (.int .u64 (dg b 0 : Nat)) := fun z => (N_b.kept z.below).cell 0 (by decide)
        have G_b1 : ∀ z : Ext w4, z.w.cell? ⟨w.heap.size + 1, 1, none⟩ = some (.int .u64 (dg b 1 : Nat)) := fun z => (N_b.kept z.below).cell 1 (by decide)
        have G_b2 : ∀ z : Ext w4, z.w.cell? ⟨w.heap.size + 1, 2, none⟩ = some (.int .u64 (dg b 2 : Nat)) := fun z => (N_b.kept z.below).cell 2 (by decide)
        have G_b3 : ∀ z : Ext w4, z.w.cell? ⟨w.heap.size + 1, 3, none⟩ = some (.int .u64 (dg b 3 : Nat)) := fun z => (N_b.kept z.below).cell 3 (by decide)
        refine ext_region (by kernel_rfl) (by kernel_rfl) ?_
        repeat (go_big_quiet_step (fail))
        go_big_quiet_step ((refine (len_calls a BA.out _).mono ?_; rintro e wz ⟨rfl, hBz⟩; rw [← LAh.out]; exact ⟨rfl, Ext.on _ hBz⟩))
        repeat (go_big_quiet_step (fail))
        go_big_quiet_step ((refine (len_calls b BB.out _).mono ?_; rintro e wz ⟨rfl, hBz⟩; rw [← LBh.out]; exact ⟨rfl, Ext.on _ hBz⟩))
        repeat (go_big_quiet_step (fail))
        go_big_quiet_step ((refine (wakes1_calls _).mono ?_; rintro e wz ⟨rfl, hBz⟩; exact ⟨rfl, Ext.on _ hBz⟩))
        repeat (go_big_quiet_step (fail))
        refine wpQuiet_nil ?_
        intro z
        clear G_a0 G_a1 G_a2 G_a3 G_b0 G_b1 G_b2 G_b3
        have M_a := N_a.kept z.below
        have M_b := N_b.kept z.below
        have M_c := N_c.kept z.below
        have hWw4x := hWw4.trans (z.below.mono hWw4.size)
        clear N_a N_b N_c hWw4
        generalize z.w = w4x at *
        clear z
        have N_a := M_a
        have N_b := M_b
        have N_c := M_c
        clear M_a M_b M_c
        go_wp2
        go_ret
        have zz := hWw4x.size
        refine ⟨rfl, ?_⟩
        repeat first | exact Below.refl _ _ | assumption | refine Below.drew ?_ | (refine Below.alloc ?_ (by (try simp) <;> omega) _)
      · skip
        clear N_x N_y
        have F_a := N_a.facts; have L_a := N_a.lt
        have F_b := N_b.facts; have L_b := N_b.lt
        have L1_b : w.heap.size < wr.heap.size := by omega
        have F_c := N_c.facts; have L_c := N_c.lt
        have L1_c : w.heap.size + 1 < wr.heap.size := by omega
        have L2_c : w.heap.size < wr.heap.size := by omega
        go_wp2_with fail
        refine (cmp_calls a b BA.out BB.out _).mono ?_
        rintro e w1 ⟨rfl, hB1⟩
        rw [← U.out]
        clear F_a L_a F_b L_b L1_b F_c L_c L1_c L2_c
        have zw1 := hWr.size
        have M_a := N_a.kept hB1
        have M_b := N_b.kept hB1
        have M_c := N_c.kept hB1
        have hWw1 : Below w.heap.size w w1 := hWr.trans (hB1.mono (by (try simp) <;> omega))
        clear N_a N_b N_c hWr zw1 hB1
        have N_a := M_a
        have N_b := M_b
        have N_c := M_c
        clear M_a M_b M_c
        have F_a := N_a.facts; have L_a := N_a.lt
        have F_b := N_b.facts; have L_b := N_b.lt
        have L1_b : w.heap.size < w1.heap.size := by omega
        have F_c := N_c.facts; have L_c := N_c.lt
        have L1_c : w.heap.size + 1 < w1.heap.size := by omega
        have L2_c : w.heap.size < w1.heap.size := by omega
        go_wp2_with fail
        refine (cmp_calls a b BA.out BB.out _).mono ?_
        rintro e w2 ⟨rfl, hB2⟩
        rw [← U.out]
        clear F_a L_a F_b L_b L1_b F_c L_c L1_c L2_c
        have zw2 := hWw1.size
        have M_a := N_a.kept hB2
        have M_b := N_b.kept hB2
        have M_c := N_c.kept hB2
        have hWw2 : Below w.heap.size w w2 := hWw1.trans (hB2.mono (by (try simp) <;> omega))
        clear N_a N_b N_c hWw1 zw2 hB2
        have N_a := M_a
        have N_b := M_b
        have N_c := M_c
        clear M_a M_b M_c
        have F_a := N_a.facts; have L_a := N_a.lt
        have F_b := N_b.facts; have L_b := N_b.lt
        have L1_b : w.heap.size < w2.heap.size := by omega
        have F_c := N_c.facts; have L_c := N_c.lt
        have L1_c : w.heap.size + 1 < w2.heap.size := by omega
        have L2_c : w.heap.size < w2.heap.size := by omega
        go_wp2_with fail
        refine (cmp_calls b c BB.out BC.out _).mono ?_
        rintro e w3 ⟨rfl, hB3⟩
        rw [← V.out]
        clear F_a L_a F_b L_b L1_b F_c L_c L1_c L2_c
        have zw3 := hWw2.size
        have M_a := N_a.kept hB3
        have M_b := N_b.kept hB3
        have M_c := N_c.kept hB3
        have hWw3 : Below w.heap.size w w3 := hWw2.trans (hB3.mono (by (try simp) <;> omega))
        clear N_a N_b N_c hWw2 zw3 hB3
        have N_a := M_a
        have N_b := M_b
        have N_c := M_c
        clear M_a M_b M_c
        have F_a := N_a.facts; have L_a := N_a.lt
        have F_b := N_b.facts; have L_b := N_b.lt
        have L1_b : w.heap.size < w3.heap.size := by omega
        have F_c := N_c.facts; have L_c := N_c.lt
        have L1_c : w.heap.size + 1 < w3.heap.size := by omega
        have L2_c : w.heap.size < w3.heap.size := by omega
        go_wp2_with fail
        refine (cmp_calls a c BA.out BC.out _).mono ?_
        rintro e w4 ⟨rfl, hB4⟩
        rw [← T.out]
        clear F_a L_a F_b L_b L1_b F_c L_c L1_c L2_c
        have zw4 := hWw3.size
        have M_a := N_a.kept hB4
        have M_b := N_b.kept hB4
        have M_c := N_c.kept hB4
        have hWw4 : Below w.heap.size w w4 := hWw3.trans (hB4.mono (by (try simp) <;> omega))
        clear N_a N_b N_c hWw3 zw4 hB4
        have N_a := M_a
        have N_b := M_b
        have N_c := M_c
        clear M_a M_b M_c
        have F_a := N_a.facts; have L_a := N_a.lt
        have F_b := N_b.facts; have L_b := N_b.lt
        have L1_b : w.heap.size < w4.heap.size := by omega
        have F_c := N_c.facts; have L_c := N_c.lt
        have L1_c : w.heap.size + 1 < w4.heap.size := by omega
        have L2_c : w.heap.size < w4.heap.size := by omega
        go_upto_region 14 with (fail)
        clear F_a L_a F_b L_b L1_b F_c L_c L1_c L2_c
        have zz := hWw4.size
        refine abs_world (fun w' => Below w.heap.size w w' ∧ NumAt w' (w.heap.size) a ∧ NumAt w' (w.heap.size + 1) b ∧ NumAt w' (w.heap.size + 1 + 1) c) ⟨hWw4, N_a, N_b, N_c⟩ ?_
        clear N_a N_b N_c hWw4 zz
        intro w5 ⟨hWw5, N_a, N_b, N_c⟩
        clear hu1 h1 h2 h3; have hl1 : ¬ (lb : Int) ≤ (la : Int) := by omega
        have G_a0 : ∀ z : Ext w5, z.w.cell? ⟨w.heap.size, 0, none⟩ = some (.int .u64 (dg a 0 : Nat)) := fun z => (N_a.kept z.below).cell 0 (by decide)
        have G_a1 : ∀ z : Ext w5, z.w.cell? ⟨w.heap.size, 1, none⟩ = some (.int .u64 (dg a 1 : Nat)) := fun z => (N_a.kept z.below).cell 1 (by decide)
        have G_a2 : ∀ z : Ext w5, z.w.cell? ⟨w.heap.size, 2, none⟩ = some (.int .u64 (dg a 2 : Nat)) := fun z => (N_a.kept z.below).cell 2 (by decide)
        have G_a3 : ∀ z : Ext w5, z.w.cell? ⟨w.heap.size, 3, none⟩ = some (.int .u64 (dg a 3 : Nat)) := fun z => (N_a.kept z.below).cell 3 (by decide)
        have G_b0 : ∀ z : Ext w5, z.w.cell? ⟨w.heap.size + 1, 0, none⟩ = some (.int .u64 (dg b 0 : Nat)) := fun z => (N_b.kept z.below).cell 0 (by decide)
        have G_b1 : ∀ z : Ext w5, z.w.cell? ⟨w.heap.size + 1, 1, none⟩ = some (.int .u64 (dg b 1 : Nat)) := fun z => (N_b.kept z.below).cell 1 (by decide)
        have G_b2 : ∀ z : Ext w5, z.w.cell? ⟨w.heap.size + 1, 2, none⟩ = some (.int .u64 (dg b 2 : Nat)) := fun z => (N_b.kept z.below).cell 2 (by decide)
        have G_b3 : ∀ z : Ext w5, z.w.cell? ⟨w.heap.size + 1, 3, none⟩ = some (.int .u64 (dg b 3 : Nat)) := fun z => (N_b.kept z.below).cell 3 (by decide)
        refine ext_region (by kernel_rfl) (by kernel_rfl) ?_
        repeat (go_big_quiet_step (fail))
        go_big_quiet_step ((refine (len_calls a BA.out _).mono ?_; rintro e wz ⟨rfl, hBz⟩; rw [← LAh.out]; exact ⟨rfl, Ext.on _ hBz⟩))
        repeat (go_big_quiet_step (fail))
        go_big_quiet_step ((refine (len_calls b BB.out _).mono ?_; rintro e wz ⟨rfl, hBz⟩; rw [← LBh.out]; exact ⟨rfl, Ext.on _ hBz⟩))
        repeat (go_big_quiet_step (fail))
        go_big_quiet_step ((refine (wakes1_calls _).mono ?_; rintro e wz ⟨rfl, hBz⟩; exact ⟨rfl, Ext.on _ hBz⟩))
        repeat (go_big_quiet_step (fail))
        refine wpQuiet_nil ?_
        intro z
        clear G_a0 G_a1 G_a2 G_a3 G_b0 G_b1 G_b2 G_b3
        have M_a := N_a.kept z.below
        have M_b := N_b.kept z.below
        have M_c := N_c.kept z.below
        have hWw5x := hWw5.trans (z.below.mono hWw5.size)
        clear N_a N_b N_c hWw5
        generalize z.w = w5x at *
        clear z
        have N_a := M_a
        have N_b := M_b
        have N_c := M_c
        clear M_a M_b M_c
        go_wp2
        go_ret
        have zz := hWw5x.size
        refine ⟨rfl, ?_⟩
        repeat first | exact Below.refl _ _ | assumption | refine Below.drew ?_ | (refine Below.alloc ?_ (by (try simp) <;> omega) _)
    · obtain ⟨m, rfl⟩ : ∃ m, k = m + 1 := ⟨k - 1, by omega⟩
      have hm : ((m + 1 : Nat) : Int) - 1 = m := by omega
      rw [hm]
      clear hm h0
      have cx := N_x.cell m (by omega); have fx := N_x.free m
      have cy := N_y.cell m (by omega); have fy := N_y.free m
      have c8 := by8_lt a (31 - m); have d8 := by8_lt b (31 - m)
      have hj : 32 - m = 31 - m + 1 := by omega
      have hj' : 32 - (m + 1) = 31 - m := by omega
      rw [hj']
      rcases Nat.lt_trichotomy (by8 a (31 - m)) (by8 b (31 - m)) with hb | hb | hb
      · have Hn := Lib.hid (byte_lt hb)
        generalize by8 a (31 - m) = p at *
        generalize by8 b (31 - m) = q at *
        go_wp2
        go_region
        go_wp2
        go_roundw
        case rel => exact ⟨m, by omega, by go_num, by rw [hj, Hn.out], hWr.drew, N_a.drew, N_b.drew, N_c.drew, N_x.drew, N_y.drew⟩
        case measure => simp [intOf] <;> omega
      · have Hn := Lib.hid (byte_same hb)
        have hb' : ¬ by8 a (31 - m) < by8 b (31 - m) := by omega
        have hb'' : ¬ by8 b (31 - m) < by8 a (31 - m) := by omega
        generalize by8 a (31 - m) = p at *
        generalize by8 b (31 - m) = q at *
        go_wp2
        go_region
        go_wp2
        go_region
        go_wp2
        go_roundw
        case rel => exact ⟨m, by omega, by go_num, by rw [hj, Hn.out], hWr.drew.drew, N_a.drew, N_b.drew, N_c.drew, N_x.drew, N_y.drew⟩
        case measure => simp [intOf] <;> omega
      · have Hn := Lib.hid (byte_gt hb)
        have hb' : ¬ by8 a (31 - m) < by8 b (31 - m) := by omega
        generalize by8 a (31 - m) = p at *
        generalize by8 b (31 - m) = q at *
        go_wp2
        go_region
        go_wp2
        go_region
        go_wp2
        go_roundw
        case rel => exact ⟨m, by omega, by go_num, by rw [hj, Hn.out], hWr.drew.drew, N_a.drew, N_b.drew, N_c.drew, N_x.drew, N_y.drew⟩
        case measure => simp [intOf] <;> omega

set_option maxRecDepth 100000 in
theorem limbOrders_lifted (os : Os) (started : os.Started) (H : Type) (enc : TypeId × Value → H) :
    ReturnsInHanded {} Try.checked os 9 .any (Rows.limbOrdersSpec.pre6 enc Try.prog Try.f9 Rows.limbOrdersRow.domain false) (Rows.limbOrdersSpec.post enc Try.prog Try.f9 false true false false) := by
  refine returnsInHanded_of_change (C := Try.checked) own started (by kernel_rfl) Try.func9
    (ChangeSpec.witness6 (enc := enc) (C := Try.checked) false ⟨#[], #[.agg #[.int .u64 0, .int .u64 0, .int .u64 0, .int .u64 0], .agg #[.int .u64 0, .int .u64 0, .int .u64 0, .int .u64 0], .agg #[.int .u64 0, .int .u64 0, .int .u64 0, .int .u64 0]], []⟩ 8 (by kernel_rfl) (by kernel_rfl) (by kernel_rfl) (by kernel_rfl)) ?_
  intro W base args ds gs before hval0 hW hcnd _
  have hval : ∀ (j : Nat) t v, Try.f9.params[j]? = some t → args[j]? = some v → Value.okWide Try.prog W .any base t v := hval0
  have hW' := hW
  obtain ⟨p, q, hA0, hV, rfl, hfz, hnd⟩ := hW
  have hA : DataW.TrodAll enc Try.prog W 0 (fun _ => true) true Try.f9.params.toList args.toList ds p := hA0
  rw [Try.params9] at hA hval
  obtain ⟨v0, vs0, d0, ds0, p0, q0, hargs, rfl, rfl, h0, r0⟩ := trodAll_cons hA
  obtain ⟨v1, vs1, d1, ds1, p1, q1, rfl, rfl, rfl, h1, r1⟩ := trodAll_cons r0
  obtain ⟨v2, vs2, d2, ds2, p2, q2, rfl, rfl, rfl, h2, r2⟩ := trodAll_cons r1
  obtain ⟨rfl, rfl, rfl⟩ := trodAll_nil r2
  obtain rfl : args = #[v0, v1, v2] := by cases args; simp_all
  obtain ⟨rfl, rfl⟩ := trodVars_none hV
  have k0 := h0
  have lt0 : ∀ x ∈ p0, x.block < W.heap.size := by obtain ⟨m, hm⟩ := k0; exact DataW.trod_lt m _ _ _ hm
  have k1 := h1
  have lt1 : ∀ x ∈ p1, x.block < W.heap.size := by obtain ⟨m, hm⟩ := k1; exact DataW.trod_lt m _ _ _ hm
  have k2 := h2
  have lt2 : ∀ x ∈ p2, x.block < W.heap.size := by obtain ⟨m, hm⟩ := k2; exact DataW.trod_lt m _ _ _ hm
  obtain ⟨a, w_a, rfl⟩ := open_num (hval 0 24 v0 rfl rfl) h0
  obtain ⟨b, w_b, rfl⟩ := open_num (hval 1 24 v1 rfl rfl) h1
  obtain ⟨c, w_c, rfl⟩ := open_num (hval 2 24 v2 rfl rfl) h2
  clear hA0 hval0
  refine (limbOrders_walk a b c w_a w_b w_c W).mono fun e W' ⟨he, bel⟩ => ?_
  subst he
  exact ⟨_, rfl, _, _, _, [], _, [], hW', trodAll_mk1 (shut_bool Try.underlying4 _), (trodAll_cons_mk (Below.trod laidOut (by kernel_rfl) (of_decide_eq_true (by kernel_rfl)) k0 bel lt0) (trodAll_cons_mk (Below.trod laidOut (by kernel_rfl) (of_decide_eq_true (by kernel_rfl)) k1 bel lt1) (trodAll_cons_mk (Below.trod laidOut (by kernel_rfl) (of_decide_eq_true (by kernel_rfl)) k2 bel lt2) trodAll_mk0))), rfl, bel.frame _, fun h => by cases h⟩

theorem limbOrders_holds : Rows.LimbOrdersSaid :=
  OpenClaim.holds_of_wide 9 Try.f9 rfl rfl rfl rfl rfl rfl rfl ⟨rfl, rfl, rfl, rfl, rfl⟩ rfl rfl rfl rfl rfl (by kernel_rfl) Try.func9 (by kernel_rfl)
    (of_decide_eq_true (by kernel_rfl)) (by unfold Func.isWrapper; first | (rw [if_pos (by decide +kernel)]; kernel_rfl) | (rw [if_neg (by decide +kernel)]; exact ⟨rfl, rfl⟩))
    (fun os started H enc _ => limbOrders_lifted os started H enc)

end Go.Proofs.Ytmecomgifmkkfaa
