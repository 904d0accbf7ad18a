/- The calculus of walks, at slices of numbers of four digits. -/
import Derived.Test.YtmecomgifmkkfaaSymB
import Derived.Test.YtmecomgifmkkfaaSymD
namespace Go.Proofs.Ytmecomgifmkkfaa
set_option linter.unusedVariables false
set_option linter.unusedSimpArgs false
open Go.RowKit

/-- The cells of numbers, side by side. -/
def rowL : List Nat → List Value
  | [] => []
  | n :: xs => (numC n).toList ++ rowL xs
def rowO (xs : List Nat) : Obj := .cells (rowL xs).toArray 24 (0, 0)
theorem rowL_len : ∀ xs : List Nat, (rowL xs).length = 4 * xs.length
  | [] => rfl
  | n :: xs => by rw [rowL, List.length_append, rowL_len xs, List.length_cons]; show 4 + _ = _; omega
/-- The cells of the i-th one. -/
theorem rowL_at : ∀ (xs : List Nat) (i : Nat) (n : Nat), nthO xs i = some n → ∀ (j : Nat) (v : Value), (numC n).toList[j]? = some v → (rowL xs)[4 * i + j]? = some v
  | [], i, n, h => by cases i <;> simp [nthO] at h
  | x :: xs, 0, n, h => by
    intro j v hj
    obtain rfl : x = n := by simpa [nthO] using h
    have hlt := (List.getElem?_eq_some_iff.1 hj).1
    rw [rowL, Nat.mul_zero, Nat.zero_add, List.getElem?_append_left hlt]; exact hj
  | x :: xs, i + 1, n, h => by
    intro j v hj
    have h4 : (numC x).toList.length = 4 := rfl
    rw [rowL, List.getElem?_append_right (by rw [h4]; omega), h4, show 4 * (i + 1) + j - 4 = 4 * i + j by omega]
    exact rowL_at xs i n (by simpa [nthO] using h) j v hj

section
variable {X : Nat → Prop} {w0 : World} {l : List Value} {M : Mem} {R : List Oper} {kd : Nat → Kd} {N : List Value → Mem → Prop} {π : List Nat} {i : Nat} {dst : Option Tmp} {ty : TypeId} {pos : String} {aft : Array Edge} {gd : Option (Nat × Bool)}

theorem range_row {w : World} {β : Nat} {xs : List Nat} {k n : Nat} {t : TypeId} {fz : Nat × Nat} (hw : w.heap[β]? = some (.cells (rowL xs).toArray t fz)) (hn : nthO xs k = some n) : w.rangeAt β (4 * k) (numC n).toList := by
  intro j v hj
  rw [cell_of_row w β _ _ _ _ hw]
  simpa using rowL_at xs k n hn j v hj
/-- One number of a slice is read. -/
theorem wk_ldR {x : Operand} {β o n : Nat} {xs : List Nat} (j k : Nat) (ho : nthO R i = some ⟨dst, .load 24 x, ty, pos, aft, gd⟩) (hg : gok R gd l = true) (hk : kd i = .L)
    (hx : ev l x = .pointer (some ⟨β, o, none⟩)) (hj : nthO M j = some (β, rowO xs)) (ho4 : o = 4 * k) (hn : nthO xs k = some n)
    (h : Wk Try.prog X w0 R kd N π (putL l dst (numV n)) M) : Wk Try.prog X w0 R kd N (i :: π) l M :=
  wk_look _ ho hg hk (fun w hw => by
    have hm : (β, rowO xs) ∈ M := by rw [nthO_eq] at hj; exact List.mem_of_getElem? hj
    subst ho4
    have := run_loadAt_mid (P := Try.prog) w β (4 * k) 24 (numC n).toList (.array 4 22) (range_row (hw _ hm) hn) nunder rfl ninfo
    simp only [execOp, hx, Sem.run_bind, this]
    rfl) h
/-- How long a slice is. -/
theorem wk_len {xs : Operand} {t e : TypeId} {a : Option Addr} {n c : Nat} (ho : nthO R i = some ⟨dst, .call ⟨.builtin .len, #[xs], #[t]⟩, ty, pos, aft, gd⟩) (hg : gok R gd l = true) (hk : kd i = .P)
    (hx : ev l xs = .slice a n c) (ht : Try.prog.underlying t = some (.slice e))
    (h : Wk Try.prog X w0 R kd N π (putL l dst (.int .i64 (n : Int))) M) : Wk Try.prog X w0 R kd N (i :: π) l M :=
  wk_val _ ho hg hk (fun w => by simp [execOp, resolve, hx, invoke, builtin, Builtin.len_, run_underlying ht, goInt]) h
/-- The place of a slice's element. -/
theorem wk_idxS {t e : TypeId} {x y : Operand} {β o n c : Nat} {k : IntKind} {p : Int} (j q : Nat) (ho : nthO R i = some ⟨dst, .indexAddr t x y, ty, pos, aft, gd⟩) (hg : gok R gd l = true) (hk : kd i = .P)
    (hx : ev l x = .slice (some ⟨β, o, none⟩) n c) (hy : ev l y = .int k p) (ht : Try.prog.underlying t = some (.slice e)) (hs : (Try.prog.info? e).map (·.size) = some q) (hp : p = (j : Int)) (hj : j < n)
    (h : Wk Try.prog X w0 R kd N π (putL l dst (.pointer (some ⟨β, o + j * q, none⟩))) M) : Wk Try.prog X w0 R kd N (i :: π) l M :=
  wk_val _ ho hg hk (fun w => by
    subst hp
    cases hq : Try.prog.info? e with
    | none => simp [hq] at hs
    | some d =>
      have hd : d.size = q := by simpa [hq] using hs
      have e1 : (⟨β, o, none⟩ : Addr).add (j * q) = ⟨β, o + j * q, none⟩ := Addr.add_mid β o _
      simp [execOp, hx, hy, Instr.indexAt, asIntOf, Sem.run_bind, run_underlying ht, sizeOf, typeInfo, hq, hd, hj, e1]) h
end
end Go.Proofs.Ytmecomgifmkkfaa
