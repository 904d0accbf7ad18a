/- What an argument of type api.Num, or [32]byte, is. -/
import Derived.Test.YtmecomgifmkkfaaRows
import Derived.Test.YtmecomgifmkkfaaNum
import Derived.Test.YtmecomgifmkkfaaLimbF
import Derived.WalkKit
import Derived.ProofKit
import Derived.OpenShut
import Derived.ShutString
import Derived.ChangeOld
import Derived.Below
namespace Go.Proofs.Ytmecomgifmkkfaa
set_option linter.unusedVariables false
set_option linter.unusedSimpArgs false
open Go.ChangeShapes Go.WideShapes Go.ChangeAt Go.RowKit

theorem mapM_some {α β : Type} {f : α → Option β} : ∀ (l : List α) (xs : List β), l.mapM f = some xs → ∀ a ∈ l, ∃ y, f a = some y
  | [], _, _, a, ha => by cases ha
  | x :: l, xs, h, a, ha => by
    rw [List.mapM_cons] at h
    simp only [bind, Option.bind_eq_some_iff, pure, Option.some.injEq] at h
    obtain ⟨y, hy, ys, hys, _⟩ := h
    rcases List.mem_cons.1 ha with rfl | h1
    · exact ⟨y, hy⟩
    · exact mapM_some l ys hys a h1

/-- The cells of an array of whole numbers, out of its reading. -/
theorem trod_ints {H : Type} {enc : TypeId × Value → H} {P : Program} {W : World} {base : Nat} {sp : Nat → Bool} {held : Bool} {t e : TypeId} {n : Nat} {q : IntKind} (ht : P.underlying t = some (.array n e)) (he : P.underlying e = some (.int q)) (hce : P.cellsOf e = 1)
    {fuel : Nat} {cs : List Value} {x : DataW H × List MemPlace} (hn : cs.length = n) (h : DataW.trod enc P W base sp held fuel t cs = some x) :
    ∀ i, i < n → ∃ m : Int, cs[i]? = some (.int q m) ∧ (Lit.int q m).wf = true := by
  intro i hi
  cases fuel with
  | zero => simp [DataW.trod] at h
  | succ k =>
    unfold DataW.trod at h
    rw [ht] at h
    simp only at h
    split at h
    · simp only [Option.map_eq_some_iff] at h
      obtain ⟨xs, hxs, _⟩ := h
      obtain ⟨y, hy⟩ := mapM_some _ _ hxs i (List.mem_range.2 hi)
      rw [hce, Nat.mul_one] at hy
      have hlt : i < cs.length := by omega
      rw [show (cs.drop i).take 1 = [cs[i]] by rw [List.drop_eq_getElem_cons hlt]; rfl] at hy
      cases k with
      | zero => simp [DataW.trod] at hy
      | succ k =>
        unfold DataW.trod at hy
        rw [he] at hy
        rw [List.getElem?_eq_getElem hlt]
        generalize cs[i] = v at *
        cases v <;> simp at hy
        rename_i k' m
        obtain ⟨⟨rfl, hw⟩, _⟩ := hy
        exact ⟨m, rfl, hw⟩
    · cases h

theorem okWide_array {P : Program} {W : World} {r : Reach} {b0 : Nat} {t e : TypeId} {n : Nat} {v : Value} (ht : P.underlying t = some (.array n e)) (h : Value.okWide P W r b0 t v) : ∃ cs : Array Value, v = .agg cs ∧ cs.size = P.cellsOf t := by
  simp only [Value.okWide, ht] at h
  obtain ⟨cs, h1, h2, _⟩ := h
  exact ⟨cs, h1, h2⟩

theorem wf_u64 {m : Int} (h : (Lit.int .u64 m).wf = true) : ∃ k : Nat, m = k ∧ k < 18446744073709551616 := by
  have h' : (decide (IntKind.min .u64 ≤ m) && decide (m ≤ IntKind.max .u64)) = true := h
  rw [Bool.and_eq_true, decide_eq_true_eq, decide_eq_true_eq] at h'
  have h1 : (0 : Int) ≤ m := h'.1
  have h2 : m ≤ 18446744073709551615 := h'.2
  exact ⟨m.toNat, by omega, by omega⟩
theorem wf_u8 {m : Int} (h : (Lit.int .u8 m).wf = true) : ∃ k : Nat, m = k ∧ k < 256 := by
  have h' : (decide (IntKind.min .u8 ≤ m) && decide (m ≤ IntKind.max .u8)) = true := h
  rw [Bool.and_eq_true, decide_eq_true_eq, decide_eq_true_eq] at h'
  have h1 : (0 : Int) ≤ m := h'.1
  have h2 : m ≤ 255 := h'.2
  exact ⟨m.toNat, by omega, by omega⟩
theorem wf_i64 {m : Int} (h : (Lit.int .i64 m).wf = true) : -9223372036854775808 ≤ m ∧ m ≤ 9223372036854775807 := by
  have h' : (decide (IntKind.min .i64 ≤ m) && decide (m ≤ IntKind.max .i64)) = true := h
  rw [Bool.and_eq_true, decide_eq_true_eq, decide_eq_true_eq] at h'
  have h1 : (-9223372036854775808 : Int) ≤ m := h'.1
  have h2 : m ≤ 9223372036854775807 := h'.2
  omega

theorem num_ty : Try.prog.underlying 24 = some (.array 4 22) := by kernel_rfl
theorem b32_ty : Try.prog.underlying 42 = some (.array 32 5) := by kernel_rfl
theorem cells_num : Try.prog.cellsOf 24 = 4 := by kernel_rfl
theorem cells_u64 : Try.prog.cellsOf 22 = 1 := by kernel_rfl
theorem cells_b32 : Try.prog.cellsOf 42 = 32 := by kernel_rfl
theorem cells_u8 : Try.prog.cellsOf 5 = 1 := by kernel_rfl

/-- Four cells that are digits are a number. -/
theorem num_of_cells {cs : List Value} (hn : cs.length = 4) (h : ∀ i, i < 4 → ∃ m : Int, cs[i]? = some (.int .u64 m) ∧ (Lit.int .u64 m).wf = true) : ∃ n, n < W256 ∧ Value.agg cs.toArray = numV n := by
  match cs, hn with
  | [c0, c1, c2, c3], _ =>
    obtain ⟨m0, e0, w0⟩ := h 0 (by decide)
    obtain ⟨m1, e1, w1⟩ := h 1 (by decide)
    obtain ⟨m2, e2, w2⟩ := h 2 (by decide)
    obtain ⟨m3, e3, w3⟩ := h 3 (by decide)
    obtain ⟨k0, rfl, b0⟩ := wf_u64 w0
    obtain ⟨k1, rfl, b1⟩ := wf_u64 w1
    obtain ⟨k2, rfl, b2⟩ := wf_u64 w2
    obtain ⟨k3, rfl, b3⟩ := wf_u64 w3
    simp at e0 e1 e2 e3
    subst e0 e1 e2 e3
    exact ⟨_, by unfold W256; omega, numV_of b0 b1 b2 b3 rfl⟩

theorem open_num {H : Type} {enc : TypeId × Value → H} {W : World} {base : Nat} {sp : Nat → Bool} {held : Bool} {r : Reach} {b0 : Nat} {v : Value} {d : DataW H} {ps : List MemPlace}
    (hv : Value.okWide Try.prog W r b0 24 v) (hd : DataW.Trod enc Try.prog W base sp held 24 v d ps) : ∃ n, n < W256 ∧ v = numV n := by
  obtain ⟨cs, rfl, hs⟩ := okWide_array num_ty hv
  rw [cells_num] at hs
  obtain ⟨fuel, hf⟩ := hd
  obtain ⟨n, hn, he⟩ := num_of_cells (cs := cs.toList) (by simpa using hs) (trod_ints num_ty Try.underlying22 cells_u64 (by simpa using hs) hf)
  exact ⟨n, hn, by simpa using he⟩

/-- 32 bytes are a number. -/
theorem open_b32 {H : Type} {enc : TypeId × Value → H} {W : World} {base : Nat} {sp : Nat → Bool} {held : Bool} {r : Reach} {b0 : Nat} {v : Value} {d : DataW H} {ps : List MemPlace}
    (hv : Value.okWide Try.prog W r b0 42 v) (hd : DataW.Trod enc Try.prog W base sp held 42 v d ps) : ∃ n, n < W256 ∧ v = b32V n := by
  obtain ⟨cs, rfl, hs⟩ := okWide_array b32_ty hv
  rw [cells_b32] at hs
  obtain ⟨fuel, hf⟩ := hd
  have hc := trod_ints b32_ty Try.underlying5 cells_u8 (by simpa [Value.cells] using hs) hf
  have hb : ∀ i, i < 32 → ∃ k : Nat, k < 256 ∧ cs[i]? = some (.int .u8 (k : Int)) := fun i hi => by
    obtain ⟨m, e, w⟩ := hc i hi
    obtain ⟨k, rfl, hk⟩ := wf_u8 w
    exact ⟨k, hk, by simpa [Value.cells] using e⟩
  -- the number of the first i bytes
  have key : ∀ i, i ≤ 32 → ∃ n, n < 256 ^ i ∧ ∀ j, j < i → cs[j]? = some (.int .u8 ((by8 n (i - 1 - j) : Nat) : Int)) := by
    intro i
    induction i with
    | zero => exact fun _ => ⟨0, by decide, fun j hj => by omega⟩
    | succ i ih =>
      intro hi
      obtain ⟨n, hn, hj⟩ := ih (by omega)
      obtain ⟨k, hk, hk'⟩ := hb i (by omega)
      refine ⟨n * 256 + k, by rw [Nat.pow_succ]; omega, fun j hj' => ?_⟩
      rcases Nat.lt_or_ge j i with h | h
      · rw [hj j h]
        congr 3
        unfold by8
        rw [show i + 1 - 1 - j = (i - 1 - j) + 1 by omega, Nat.pow_succ, Nat.mul_comm (256 ^ (i - 1 - j)), ← Nat.div_div_eq_div_mul]
        congr 2
        omega
      · obtain rfl : j = i := by omega
        rw [hk']
        congr 3
        unfold by8
        rw [show j + 1 - 1 - j = 0 by omega]
        omega
  obtain ⟨n, hn, hj⟩ := key 32 (Nat.le_refl _)
  refine ⟨n, by simpa [W256] using hn, ?_⟩
  unfold b32V
  congr 1
  apply Array.ext_getElem?
  intro i
  rcases Nat.lt_or_ge i 32 with h | h
  · rw [hj i h, b32C_get n i h]
  · rw [Array.getElem?_eq_none (by omega), Array.getElem?_eq_none (by rw [b32C_size]; omega)]

theorem own : ownKnob Try.prog.godebug = none := by kernel_rfl
theorem laidOut : laidOutB Try.prog = true := by kernel_rfl

end Go.Proofs.Ytmecomgifmkkfaa
