/- The calculus of walks: new blocks at the head of what is known; slices of one's own, read; shares (pairs of numbers). -/
import Derived.Test.YtmecomgifmkkfaaPolyN
namespace Go.Proofs.Ytmecomgifmkkfaa
set_option linter.unusedVariables false
set_option linter.unusedSimpArgs false
open Go.RowKit

section
variable {P : Program} {X : Nat → Prop} {w0 : World} {Q : Exit → List Value → Mem → Prop} {l : List Value} {M : Mem} {c : Code}
  {R : List Oper} {kd : Nat → Kd} {N : List Value → Mem → Prop} {π : List Nat} {i : Nat} {dst : Option Tmp} {op : Op} {ty : TypeId} {pos : String} {aft : Array Edge} {gd : Option (Nat × Bool)}

theorem perm_mid (A S B : Mem) : (A ++ (S ++ B)).Perm (S ++ (A ++ B)) := by
  rw [← List.append_assoc, ← List.append_assoc]
  exact List.perm_append_comm.append_right B

/-- A slice of one's own, as it is read. -/
theorem OwnS.shape {e : TypeId} {size : Nat} {v : Value} {n : Nat} {xs : List Value} {S : Mem} (h : OwnS e size v n xs S) :
    ∃ a cp, v = .slice a n cp ∧ n ≤ cp ∧ (xs = [] ∨ ∃ β, a = some ⟨β, 0, none⟩ ∧ ∀ w : World, (∀ p ∈ S, w.heap[p.1]? = some p.2) → w.rangeAt β 0 xs) := by
  obtain ⟨hl, ⟨rfl, rfl, rfl⟩ | ⟨g, cap, cur, rfl, rfl, hc, _, _, ht⟩⟩ := h
  · exact ⟨none, 0, rfl, Nat.le_refl _, .inl (List.eq_nil_of_length_eq_zero (by simpa using hl))⟩
  · refine ⟨some ⟨g, 0, none⟩, cap, rfl, hc, .inr ⟨g, rfl, fun w hS => rangeAt_cells (hS _ (List.mem_singleton.2 rfl)) fun j v hj => ?_⟩⟩
    rw [← ht, List.getElem?_take] at hj
    split at hj
    · simpa using hj
    · cases hj
theorem OwnS.len {e : TypeId} {size : Nat} {v : Value} {n : Nat} {xs : List Value} {S : Mem} (h : OwnS e size v n xs S) : xs.length = n * size := h.1
/-- xs[:j]. -/
theorem wk_sliceHi {t e : TypeId} {x y : Operand} {a : Option Addr} {n cp : Nat} {k : IntKind} {p : Int} (j : Nat) (ho : nthO R i = some ⟨dst, .slice t x none (some y) none, ty, pos, aft, gd⟩) (hg : gok R gd l = true) (hk : kd i = .P)
    (hx : ev l x = .slice a n cp) (hy : ev l y = .int k p) (ht : P.underlying t = some (.slice e)) (hs : (P.info? e).isSome = true) (hp : p = (j : Int)) (hj : j ≤ cp)
    (h : Wk P X w0 R kd N π (putL l dst (.slice a j cp)) M) : Wk P X w0 R kd N (i :: π) l M :=
  wk_val _ ho hg hk (fun w => by
    subst hp
    obtain ⟨d, hq⟩ := Option.isSome_iff_exists.1 hs
    have hz : ∀ (ad : Addr), ad.add (0 * d.size) = ad := fun ad => by simp [Addr.add]
    cases a <;> simp [execOp, hx, hy, Instr.sliceAt, run_underlying ht, Instr.slice, Instr.sliceBounds, Instr.sliceBound, asIntOf, Sem.run_bind, hj, sizeOf, typeInfo, hq, Addr.add]) h
/-- The place of a struct's field. -/
theorem wk_field {t : TypeId} {x : Operand} {β o f : Nat} (v : Value) (ho : nthO R i = some ⟨dst, .fieldAddr t x f, ty, pos, aft, gd⟩) (hg : gok R gd l = true) (hk : kd i = .P)
    (hv : ∀ w, (execOp (ev l) ⟨dst, .fieldAddr t x f, ty, pos, aft, gd⟩).run P w = .ok (.value v) w)
    (h : Wk P X w0 R kd N π (putL l dst v) M) : Wk P X w0 R kd N (i :: π) l M := wk_val v ho hg hk hv h
end

end Go.Proofs.Ytmecomgifmkkfaa
