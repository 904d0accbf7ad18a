/- The calculus of walks: an operation whose guard has itself not come up. -/
import Derived.Test.YtmecomgifmkkfaaSym
namespace Go.Proofs.Ytmecomgifmkkfaa
set_option linter.unusedVariables false
set_option linter.unusedSimpArgs false
open Go.RowKit

/-- The operation that this one hangs on has yielded nothing. -/
def gun (R : List Oper) (gd : Option (Nat × Bool)) (l : List Value) : Bool :=
  match gd with
  | none => false
  | some (g, _) => match nthO R g with
    | some o => match o.dst with
      | some d => match nthO l d with | some (.tuple _) => true | _ => false
      | none => false
    | none => false
section
variable {P : Program} {X : Nat → Prop} {w0 : World} {l : List Value} {M : Mem} {R : List Oper} {kd : Nat → Kd} {N : List Value → Mem → Prop} {π : List Nat} {i : Nat} {dst : Option Tmp} {op : Op} {ty : TypeId} {pos : String} {aft : Array Edge} {gd : Option (Nat × Bool)}
theorem gun_wanted (h : gun R gd l = true) : Region.wanted ⟨dst, op, ty, pos, aft, gd⟩ (yielded R.toArray (env l).tmps) = false := by
  cases gd with
  | none => cases h
  | some gb =>
    obtain ⟨g, b⟩ := gb
    simp only [gun] at h
    split at h <;> try cases h
    rename_i o ho
    split at h <;> try cases h
    rename_i d hd
    split at h <;> try cases h
    rename_i vs hv
    have hy : yielded R.toArray (env l).tmps g = none := by
      unfold yielded
      rw [nthO_arr ho]
      rw [nthO_eq] at hv
      simp only [Option.bind_some, hd, env]
      simp [hv]
    simp [Region.wanted, hy]
/-- It does not come up. -/
theorem wk_skip2 (ho : nthO R i = some ⟨dst, op, ty, pos, aft, gd⟩) (hg : gun R gd l = true) (hk : kd i ≠ .A) (h : Wk P X w0 R kd N π (putL l dst undef) M) : Wk P X w0 R kd N (i :: π) l M := by
  refine ⟨⟨_, nthO_arr ho, ?_⟩⟩
  have h2 : walk P X w0 R.toArray kd (WQ N) π ((env l).put dst undef) M := by rw [put_env]; exact h.out
  have hw := gun_wanted (dst := dst) (op := op) (ty := ty) (pos := pos) (aft := aft) hg
  cases hkk : kd i
  · exact ⟨undef, .inr ⟨hw, rfl⟩, h2⟩
  · exact ⟨undef, .inr ⟨hw, rfl⟩, h2⟩
  · exact ⟨fun v δ => v = undef ∧ δ = [], ⟨_, _, rfl, rfl⟩, .inr ⟨hw, rfl, rfl⟩, fun v δ ⟨e1, e2⟩ => by subst e1 e2; rw [List.append_nil]; exact h2⟩
  · exact absurd hkk hk
  · exact .inr ⟨hw, h2⟩
  · exact ⟨fun v M1 => v = undef ∧ M1 = M, ⟨_, _, rfl, rfl⟩, .inr ⟨hw, rfl, rfl⟩, fun v M1 ⟨e1, e2⟩ => by subst e1 e2; exact h2⟩
  · exact ⟨undef, .inr ⟨hw, rfl⟩, h2⟩
end
end Go.Proofs.Ytmecomgifmkkfaa
