/- The calculus of walks: slices of numbers, read at whatever place. -/
import Derived.Test.YtmecomgifmkkfaaSymS
import Derived.Test.YtmecomgifmkkfaaSymA
namespace Go.Proofs.Ytmecomgifmkkfaa
set_option linter.unusedVariables false
set_option linter.unusedSimpArgs false
open Go.RowKit

/-- The k-th number. -/
def ix (xs : List Nat) (k : Nat) : Nat := (nthO xs k).getD 0
theorem nthO_ix {xs : List Nat} {k : Nat} (h : k < xs.length) : nthO xs k = some (ix xs k) := by
  unfold ix
  rw [nthO_eq, List.getElem?_eq_getElem h]; rfl
theorem ix_eq {xs : List Nat} {k : Nat} (h : k < xs.length) : ix xs k = xs[k] := by
  have := nthO_ix h
  rw [nthO_eq, List.getElem?_eq_getElem h] at this
  exact (Option.some.inj this).symm
theorem ix_lt {xs : List Nat} {k : Nat} (hb : ∀ x ∈ xs, x < W256) : ix xs k < W256 := by
  rcases Nat.lt_or_ge k xs.length with h | h
  · rw [ix_eq h]; exact hb _ (List.getElem_mem h)
  · unfold ix; rw [nthO_eq, List.getElem?_eq_none h]; exact W256_pos
theorem rowL_ne {xs : List Nat} {k : Nat} (h : k < xs.length) : rowL xs ≠ [] := by
  intro h0
  have := rowL_len xs
  rw [h0] at this
  simp at this
  omega
theorem range_sub {w : World} {β o : Nat} {xs : List Nat} {k n : Nat} (hr : w.rangeAt β o (rowL xs)) (hn : nthO xs k = some n) : w.rangeAt β (o + k * 4) (numC n).toList := by
  intro j v hj
  have := hr (4 * k + j) v (rowL_at xs k n hn j v hj)
  rw [show o + k * 4 + j = o + (4 * k + j) by omega]
  exact this
theorem old_range {w0 w : World} {β o : Nat} {cs : List Value} {M : Mem} (hr : w0.rangeAt β o cs) (hne : cs ≠ []) (hst : St (fun _ => False) w0 w M) : w.rangeAt β o cs :=
  rangeAt_block hr (hst.frame β (rangeAt_lt hr hne) id)
theorem own_range {X : Nat → Prop} {w0 w : World} {β o : Nat} {cur : Array Value} {t : TypeId} {fz : Nat × Nat} {cs : List Value} {M : Mem} (hm : (β, Obj.cells cur t fz) ∈ M) (hst : St X w0 w M) (h : ∀ j v, cs[j]? = some v → cur[o + j]? = some v) : w.rangeAt β o cs :=
  rangeAt_cells (hst.own _ hm) h
theorem row_range {X : Nat → Prop} {w0 w : World} {β : Nat} {xs : List Nat} {M : Mem} (hm : (β, rowO xs) ∈ M) (hst : St X w0 w M) : w.rangeAt β 0 (rowL xs) :=
  own_range hm hst (fun j v hj => by rw [Nat.zero_add]; simpa using hj)
theorem row_holds {X : Nat → Prop} {w0 w : World} {β : Nat} {xs : List Nat} {M : Mem} (hm : (β, rowO xs) ∈ M) (hst : St X w0 w M) : Holds w (some ⟨β, 0, none⟩) (rowL xs) := .inr ⟨β, 0, rfl, row_range hm hst⟩
theorem rowL_one (xs : List Nat) : ∀ u ∈ rowL xs, u.oneCell' = true := by
  induction xs with
  | nil => intro u hu; cases hu
  | cons x xs ih =>
    intro u hu
    rcases List.mem_append.1 hu with h | h
    · have := Array.all_eq_true_iff_forall_mem.1 (one4 x) u (by simpa using h)
      exact this
    · exact ih u h
theorem rowL_append (xs ys : List Nat) : rowL (xs ++ ys) = rowL xs ++ rowL ys := by
  induction xs with
  | nil => rfl
  | cons x xs ih => simp only [List.cons_append, rowL, ih, List.append_assoc]
theorem numBytes : (Try.prog.info? 24).map (·.bytes) = some 32 := by kernel_rfl

section
variable {X : Nat → Prop} {w0 : World} {l : List Value} {M : Mem} {R : List Oper} {kd : Nat → Kd} {N : List Value → Mem → Prop} {π : List Nat} {i : Nat} {dst : Option Tmp} {ty : TypeId} {pos : String} {aft : Array Edge} {gd : Option (Nat × Bool)}
/-- One number of a slice is read. -/
theorem wk_ldA {x : Operand} {β o k : Nat} {xs : List Nat} (ho : nthO R i = some ⟨dst, .load 24 x, ty, pos, aft, gd⟩) (hg : gok R gd l = true) (hk : kd i = .L)
    (hx : ev l x = .pointer (some ⟨β, o + k * 4, none⟩)) (hr : ∀ M' w, (∀ p ∈ M, p ∈ M') → St X w0 w M' → w.rangeAt β o (rowL xs)) (hlt : k < xs.length)
    (h : Wk Try.prog X w0 R kd N π (putL l dst (numV (ix xs k))) M) : Wk Try.prog X w0 R kd N (i :: π) l M :=
  wk_ldMid (d := .array 4 22) ho hg hk hx (fun M' w hm hst => range_sub (hr M' w hm hst) (nthO_ix hlt)) nunder rfl ninfo h
end

/-- What a polynomial is worth. -/
def evalL (m : Nat) : List Nat → Nat → Nat
  | [], _ => 0
  | c :: cs, x => (evalL m cs x * x % m + c) % m
theorem evalL_lt {m : Nat} (hm : 0 < m) (hW : m < W256) (xs : List Nat) (x : Nat) : evalL m xs x < W256 := by
  cases xs with
  | nil => exact W256_pos
  | cons c cs => exact Nat.lt_trans (Nat.mod_lt _ hm) hW
theorem evalL_step {m : Nat} {xs : List Nat} {k x y : Nat} {i : Int} (hi : i = (k : Int) - 1) (h0 : 0 ≤ i) (hk : k ≤ xs.length) (hy : y = evalL m (xs.drop k) x) : (y * x % m + ix xs (k - 1)) % m = evalL m (xs.drop (k - 1)) x := by
  have hlt : k - 1 < xs.length := by omega
  rw [List.drop_eq_getElem_cons hlt, evalL, hy, ix_eq hlt, show k - 1 + 1 = k by omega]
theorem evalL_end {m : Nat} {xs : List Nat} {k x y : Nat} {i : Int} (hi : i = (k : Int) - 1) (h0 : ¬ 0 ≤ i) (hy : y = evalL m (xs.drop k) x) : y = evalL m xs x := by
  obtain rfl : k = 0 := by omega
  exact hy
end Go.Proofs.Ytmecomgifmkkfaa
