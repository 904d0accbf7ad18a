/- A calculus of walks: what a walk knows of memory is a list of blocks (each with what it holds); worlds stand nowhere in the goals. A region that draws its order is walked once, in one order. No program in sight. -/
/- The calculus of walks: regions that draw their order: one walk serves, in any order in which operations that do not wait for one another may pass one another. No program in sight. -/
/- The calculus of walks: the slots as a list; the rules for codes, operations, calls. No program in sight. -/
import Derived.WalkKit
import Derived.BigQuiet
import Derived.Deep.WholeRow
import Derived.Deep.MidRow
import Derived.Shelf.Lay
namespace Go.Proofs.Ytmecomgifmkkfaa
set_option linter.unusedVariables false
set_option linter.unusedSimpArgs false
open Go.RowKit

abbrev Mem := List (Nat × Obj)

/-- What is known of a world in the midst of a call that began at w0: the blocks of M hold what M says; all that was there at first is as it was, but in X. -/
structure St (X : Nat → Prop) (w0 w : World) (M : Mem) : Prop where
  os : w.os = w0.os
  tape : w.tape = w0.tape
  output : w.output = w0.output
  size : w0.heap.size ≤ w.heap.size
  frame : ∀ k, k < w0.heap.size → ¬ X k → w.heap[k]? = w0.heap[k]?
  own : ∀ p ∈ M, w.heap[p.1]? = some p.2
  free : ∀ p ∈ M, w0.heap.size ≤ p.1 ∨ X p.1
  nodup : (M.map Prod.fst).Nodup

section
variable {X : Nat → Prop} {w0 : World}

theorem St.start (w : World) : St (fun _ => False) w w [] :=
  ⟨rfl, rfl, rfl, Nat.le_refl _, fun _ _ _ => rfl, (fun _ h => by cases h), (fun _ h => by cases h), List.nodup_nil⟩
theorem St.below {w : World} {M : Mem} (h : St (fun _ => False) w0 w M) : Below w0.heap.size w0 w :=
  ⟨h.os, h.tape, h.output, h.size, fun k hk => h.frame k hk id⟩
theorem St.perm {w : World} {M M' : Mem} (h : St X w0 w M) (hp : M.Perm M') : St X w0 w M' :=
  ⟨h.os, h.tape, h.output, h.size, h.frame, fun p hm => h.own p (hp.mem_iff.2 hm), fun p hm => h.free p (hp.mem_iff.2 hm), (hp.map Prod.fst).nodup_iff.1 h.nodup⟩
theorem St.drew {w : World} {M : Mem} (h : St X w0 w M) : St X w0 w.drew M := ⟨h.os, h.tape, h.output, h.size, h.frame, h.own, h.free, h.nodup⟩
theorem St.lt {w : World} {M : Mem} (h : St X w0 w M) {p : Nat × Obj} (hm : p ∈ M) : p.1 < w.heap.size := (Array.getElem?_eq_some_iff.1 (h.own p hm)).1
/-- A call that turns nothing. -/
theorem St.kept {w w' : World} {M : Mem} (h : St X w0 w M) (hB : Below w.heap.size w w') : St X w0 w' M :=
  ⟨hB.os.trans h.os, hB.tape.trans h.tape, hB.output.trans h.output, Nat.le_trans h.size hB.size,
    fun k hk hx => (hB.block k (Nat.lt_of_lt_of_le hk h.size)).trans (h.frame k hk hx),
    fun p hm => (hB.block _ (h.lt hm)).trans (h.own p hm), h.free, h.nodup⟩
theorem St.alloc {w : World} {M : Mem} (h : St X w0 w M) (o : Obj) : St X w0 (w.alloc o) (M ++ [(w.heap.size, o)]) := by
  have hB : Below w.heap.size w (w.alloc o) := (Below.refl _ _).alloc (Nat.le_refl _) _
  have k := h.kept hB
  refine ⟨k.os, k.tape, k.output, k.size, k.frame, fun p hm => ?_, fun p hm => ?_, ?_⟩
  · rcases List.mem_append.1 hm with hm | hm
    · exact k.own p hm
    · obtain rfl := List.mem_singleton.1 hm; exact heap_alloc_new _ _
  · rcases List.mem_append.1 hm with hm | hm
    · exact k.free p hm
    · obtain rfl := List.mem_singleton.1 hm; exact .inl h.size
  · rw [List.map_append, List.map_singleton]
    refine List.nodup_append.2 ⟨h.nodup, List.nodup_cons.2 ⟨by simp, List.nodup_nil⟩, fun a ha b hb => ?_⟩
    obtain ⟨p, hm, rfl⟩ := List.mem_map.1 ha
    obtain rfl := List.mem_singleton.1 hb
    exact Nat.ne_of_lt (h.lt hm)
/-- Less is known. -/
theorem St.less {w : World} {M M' : Mem} (h : St X w0 w M) (hs : M'.Sublist M) : St X w0 w M' :=
  ⟨h.os, h.tape, h.output, h.size, h.frame, fun p hm => h.own p (hs.subset hm), fun p hm => h.free p (hs.subset hm), h.nodup.sublist (hs.map Prod.fst)⟩
/-- One block is turned. -/
theorem St.turn {w w' : World} {M : Mem} {j b : Nat} {o o' : Obj} (h : St X w0 w M) (hj : M[j]? = some (b, o)) (hos : w'.os = w.os) (htape : w'.tape = w.tape) (hout : w'.output = w.output)
    (hsize : w'.heap.size = w.heap.size) (hoth : ∀ k, k ≠ b → w'.heap[k]? = w.heap[k]?) (hb : w'.heap[b]? = some o') : St X w0 w' (M.set j (b, o')) := by
  have hmem : (b, o) ∈ M := List.mem_of_getElem? hj
  have hlt : j < M.length := (List.getElem?_eq_some_iff.1 hj).1
  have hkeys : (M.set j (b, o')).map Prod.fst = M.map Prod.fst := by
    rw [List.map_set]
    refine List.ext_getElem? fun i => ?_
    rw [List.getElem?_set]
    split
    · rename_i e
      subst e
      rw [List.getElem?_map, hj]
      simp [hlt]
    · rfl
  refine ⟨hos.trans h.os, htape.trans h.tape, hout.trans h.output, by rw [hsize]; exact h.size, fun k hk hx => ?_, fun p hm => ?_, fun p hm => ?_, by rw [hkeys]; exact h.nodup⟩
  · rw [hoth k (fun e => by subst e; rcases h.free _ hmem with h1 | h1; exact absurd hk (Nat.not_lt.2 h1); exact hx h1)]
    exact h.frame k hk hx
  · obtain ⟨i, hi⟩ := List.getElem?_of_mem hm
    rw [List.getElem?_set] at hi
    split at hi
    · obtain rfl := Option.some.inj hi; exact hb
    · rename_i hne
      have hpm := List.mem_of_getElem? hi
      have hpb : p.1 ≠ b := fun e => hne (by
        have h1 : (M.map Prod.fst)[i]? = some b := by rw [List.getElem?_map, hi, Option.map_some, e]
        have h2 : (M.map Prod.fst)[j]? = some b := by rw [List.getElem?_map, hj]; rfl
        obtain ⟨hi1, hi2⟩ := List.getElem?_eq_some_iff.1 h1
        obtain ⟨hj1, hj2⟩ := List.getElem?_eq_some_iff.1 h2
        have hnd := List.pairwise_iff_getElem.1 h.nodup
        rcases Nat.lt_trichotomy j i with hl | hl | hl
        · exact absurd (hj2.trans hi2.symm) (hnd j i hj1 hi1 hl)
        · exact hl
        · exact absurd (hi2.trans hj2.symm) (hnd i j hi1 hj1 hl))
      rw [hoth _ hpb]; exact h.own p hpm
  · obtain ⟨i, hi⟩ := List.getElem?_of_mem hm
    rw [List.getElem?_set] at hi
    split at hi
    · obtain rfl := Option.some.inj hi; exact (h.free _ hmem :)
    · exact h.free p (List.mem_of_getElem? hi)
end

/-! ### The kinds of operations, and what is asked of each -/

/-- P: a value, in whatever world. L: a value, by what is known of memory. G: it may make memory, and turns none. A: one new block. W: whatever. V: it turns what is known, and nothing beside. O: a value, by what was there at first. -/
inductive Kd where
  | P | L | G | A | W | V | O
  deriving DecidableEq

/-- May the second one come ahead of the first one, where neither waits for the other? -/
def Kd.mayPass : Kd → Kd → Bool
  | .P, _ | .O, _ => true
  | .L, .W | .L, .V => false
  | .L, _ => true
  | .G, .P | .G, .A => true
  | .A, .P | .A, .A => true
  | .V, .P | .V, .A => true
  | _, _ => false

section
variable (P : Program) (X : Nat → Prop) (w0 : World) (ops : Array Oper)

def GUpon (Φ : Value → Mem → Prop) (M : Mem) : Result Next → Prop
  | .ok (.value v) w' => ∃ δ, Φ v δ ∧ St X w0 w' (M ++ δ)
  | .ok .skip w' => Φ undef [] ∧ St X w0 w' M
  | .ok (.enter f args) w' => Calls P f args w' fun e w'' => ∃ v δ, e = .returned v ∧ Φ v δ ∧ St X w0 w'' (M ++ δ)
  | _ => False

def WUpon (K : Act → Mem → Prop) (a : Act) (o : Oper) : Result Next → Prop
  | .ok (.value v) w' => ∃ M', St X w0 w' M' ∧ K (a.put o.dst v) M'
  | .ok .skip w' => ∃ M', St X w0 w' M' ∧ K (a.put o.dst undef) M'
  | .ok (.enter f args) w' => Calls P f args w' fun e w'' => ∃ v M', e = .returned v ∧ St X w0 w'' M' ∧ K (a.put o.dst v) M'
  | _ => False

/-- The operation comes up, and has the value v, by what M says. -/
def YieldsL (o : Oper) (v : Value) (a : Act) (M : Mem) : Prop :=
  (Region.wanted o (yielded ops a.tmps) = true ∧ ∀ M' w, (∀ p ∈ M, p ∈ M') → St X w0 w M' → (execOp a.eval o).run P w = .ok (.value v) w) ∨
  (Region.wanted o (yielded ops a.tmps) = false ∧ v = undef)
def Grows (o : Oper) (Φ : Value → Mem → Prop) (a : Act) (M : Mem) : Prop :=
  (Region.wanted o (yielded ops a.tmps) = true ∧ ∀ M' w, (∀ p ∈ M, p ∈ M') → St X w0 w M' → GUpon P X w0 Φ M' ((execOp a.eval o).run P w)) ∨
  (Region.wanted o (yielded ops a.tmps) = false ∧ Φ undef [])
def Makes (o : Oper) (z : Obj) (mk : Nat → Value) (a : Act) : Prop :=
  o.guard = none ∧ ∀ w : World, (execOp a.eval o).run P w = .ok (.value (mk w.heap.size)) (w.alloc z)
def Works (K : Act → Mem → Prop) (o : Oper) (a : Act) (M : Mem) : Prop :=
  (Region.wanted o (yielded ops a.tmps) = true ∧ ∀ w, St X w0 w M → WUpon P X w0 K a o ((execOp a.eval o).run P w)) ∨
  (Region.wanted o (yielded ops a.tmps) = false ∧ K (a.put o.dst undef) M)

/-- It turns what is known, and nothing beside. -/
def TurnsV (o : Oper) (Φ : Value → Mem → Prop) (a : Act) (M : Mem) : Prop :=
  (Region.wanted o (yielded ops a.tmps) = true ∧ ∀ F w, St X w0 w (M ++ F) → ∃ v M' w', (execOp a.eval o).run P w = .ok (.value v) w' ∧ Φ v M' ∧ St X w0 w' (M' ++ F)) ∨
  (Region.wanted o (yielded ops a.tmps) = false ∧ Φ undef M)

def T : Kd → Oper → (Act → Mem → Prop) → Act → Mem → Prop
  | .P, o, K, a, M => ∃ v, Yields P ops o v a ∧ K (a.put o.dst v) M
  | .L, o, K, a, M => ∃ v, YieldsL P X w0 ops o v a M ∧ K (a.put o.dst v) M
  | .G, o, K, a, M => ∃ Φ : Value → Mem → Prop, (∃ v δ, Φ v δ) ∧ Grows P X w0 ops o Φ a M ∧ ∀ v δ, Φ v δ → K (a.put o.dst v) (M ++ δ)
  | .A, o, K, a, M => ∃ z mk, Makes P o z mk a ∧ ∀ β, K (a.put o.dst (mk β)) (M ++ [(β, z)])
  | .W, o, K, a, M => Works P X w0 ops K o a M
  | .O, o, K, a, M => ∃ v, YieldsL P X w0 ops o v a [] ∧ K (a.put o.dst v) M
  | .V, o, K, a, M => ∃ Φ : Value → Mem → Prop, (∃ v M', Φ v M') ∧ TurnsV P X w0 ops o Φ a M ∧ ∀ v M', Φ v M' → K (a.put o.dst v) M'
end

section
variable {P : Program} {X : Nat → Prop} {w0 : World} {ops : Array Oper}

theorem WUpon.mono {K K' : Act → Mem → Prop} (h : ∀ a M, K a M → K' a M) {a : Act} {o : Oper} {r : Result Next} (hr : WUpon P X w0 K a o r) : WUpon P X w0 K' a o r := by
  cases r with
  | ok n w' =>
    cases n <;> simp only [WUpon] at hr ⊢
    case value v => obtain ⟨M', h1, h2⟩ := hr; exact ⟨M', h1, h _ _ h2⟩
    case skip => obtain ⟨M', h1, h2⟩ := hr; exact ⟨M', h1, h _ _ h2⟩
    case enter f args => exact Calls.mono hr fun e w'' ⟨v, M', h1, h2, h3⟩ => ⟨v, M', h1, h2, h _ _ h3⟩
  | halt x w' => simp only [WUpon] at hr

theorem T_mono {K K' : Act → Mem → Prop} (h : ∀ a M, K a M → K' a M) {k : Kd} {o : Oper} {a : Act} {M : Mem} (ht : T P X w0 ops k o K a M) : T P X w0 ops k o K' a M := by
  cases k <;> simp only [T] at ht ⊢
  · obtain ⟨v, h1, h2⟩ := ht; exact ⟨v, h1, h _ _ h2⟩
  · obtain ⟨v, h1, h2⟩ := ht; exact ⟨v, h1, h _ _ h2⟩
  · obtain ⟨Φ, h0, h1, h2⟩ := ht; exact ⟨Φ, h0, h1, fun v δ hv => h _ _ (h2 v δ hv)⟩
  · obtain ⟨z, mk, h1, h2⟩ := ht; exact ⟨z, mk, h1, fun β => h _ _ (h2 β)⟩
  · rcases ht with ⟨h1, h2⟩ | ⟨h1, h2⟩
    · exact .inl ⟨h1, fun w hw => (h2 w hw).mono h⟩
    · exact .inr ⟨h1, h _ _ h2⟩
  · obtain ⟨Φ, h0, h1, h2⟩ := ht; exact ⟨Φ, h0, h1, fun v M' hv => h _ _ (h2 v M' hv)⟩
  · obtain ⟨v, h1, h2⟩ := ht; exact ⟨v, h1, h _ _ h2⟩

/-- A goal that does not look at the order in which blocks were made. -/
def Permed (K : Act → Mem → Prop) : Prop := ∀ a M M', M.Perm M' → K a M → K a M'

theorem T_perm {K : Act → Mem → Prop} (hK : Permed K) (k : Kd) (o : Oper) : Permed (T P X w0 ops k o K) := by
  intro a M M' hp ht
  cases k <;> simp only [T] at ht ⊢
  · obtain ⟨v, h1, h2⟩ := ht; exact ⟨v, h1, hK _ _ _ hp h2⟩
  · obtain ⟨v, h1, h2⟩ := ht
    refine ⟨v, ?_, hK _ _ _ hp h2⟩
    rcases h1 with ⟨h1, h3⟩ | h1
    · exact .inl ⟨h1, fun M1 w hm hw => h3 M1 w (fun p hpm => hm p (hp.mem_iff.1 hpm)) hw⟩
    · exact .inr h1
  · obtain ⟨Φ, h0, h1, h2⟩ := ht
    refine ⟨Φ, h0, ?_, fun v δ hv => hK _ _ _ (hp.append_right δ) (h2 v δ hv)⟩
    rcases h1 with ⟨h1, h3⟩ | h1
    · exact .inl ⟨h1, fun M1 w hm hw => h3 M1 w (fun p hpm => hm p (hp.mem_iff.1 hpm)) hw⟩
    · exact .inr h1
  · obtain ⟨z, mk, h1, h2⟩ := ht; exact ⟨z, mk, h1, fun β => hK _ _ _ (hp.append_right _) (h2 β)⟩
  · rcases ht with ⟨h1, h2⟩ | ⟨h1, h2⟩
    · exact .inl ⟨h1, fun w hw => h2 w (hw.perm hp.symm)⟩
    · exact .inr ⟨h1, hK _ _ _ hp h2⟩
  · obtain ⟨Φ, h0, h1, h2⟩ := ht
    rcases h1 with ⟨h1, h3⟩ | ⟨h1, h3⟩
    · exact ⟨Φ, h0, .inl ⟨h1, fun F w hw => h3 F w (hw.perm (hp.symm.append_right F))⟩, h2⟩
    · exact ⟨fun v M1 => v = undef ∧ M1 = M', ⟨_, _, rfl, rfl⟩, .inr ⟨h1, rfl, rfl⟩, fun v M1 ⟨e1, e2⟩ => by subst e1 e2; exact hK _ _ _ hp (h2 _ _ h3)⟩
  · obtain ⟨v, h1, h2⟩ := ht; exact ⟨v, h1, hK _ _ _ hp h2⟩

/-- Every kind says what is asked of 'whatever'. -/
theorem T_works {K : Act → Mem → Prop} {k : Kd} {o : Oper} {a : Act} {M : Mem} (ht : T P X w0 ops k o K a M) : Works P X w0 ops K o a M := by
  cases k <;> simp only [T] at ht
  · obtain ⟨v, h1, h2⟩ := ht
    rcases h1 with ⟨h1, h3⟩ | ⟨h1, rfl⟩
    · exact .inl ⟨h1, fun w hw => by rw [h3 w]; exact ⟨M, hw, h2⟩⟩
    · exact .inr ⟨h1, h2⟩
  · obtain ⟨v, h1, h2⟩ := ht
    rcases h1 with ⟨h1, h3⟩ | ⟨h1, rfl⟩
    · exact .inl ⟨h1, fun w hw => by rw [h3 M w (fun _ h => h) hw]; exact ⟨M, hw, h2⟩⟩
    · exact .inr ⟨h1, h2⟩
  · obtain ⟨Φ, _, h1, h2⟩ := ht
    rcases h1 with ⟨h1, h3⟩ | ⟨h1, h3⟩
    · refine .inl ⟨h1, fun w hw => ?_⟩
      have h4 := h3 M w (fun _ h => h) hw
      generalize (execOp a.eval o).run P w = r at *
      cases r with
      | ok n w' =>
        cases n <;> simp only [GUpon] at h4 <;> simp only [WUpon]
        case value v => obtain ⟨δ, h5, h6⟩ := h4; exact ⟨_, h6, h2 _ _ h5⟩
        case skip => obtain ⟨h5, h6⟩ := h4; exact ⟨_, h6, by simpa using h2 _ _ h5⟩
        case enter f args => exact Calls.mono h4 fun e w'' ⟨v, δ, h5, h6, h7⟩ => ⟨v, _, h5, h7, h2 _ _ h6⟩
      | halt x w' => simp only [GUpon] at h4
    · exact .inr ⟨h1, by simpa using h2 _ _ h3⟩
  · obtain ⟨z, mk, ⟨hg, h1⟩, h2⟩ := ht
    exact .inl ⟨by simp [Region.wanted, hg], fun w hw => by rw [h1 w]; exact ⟨_, hw.alloc z, h2 _⟩⟩
  · exact ht
  · obtain ⟨Φ, _, h1, h2⟩ := ht
    rcases h1 with ⟨h1, h3⟩ | ⟨h1, h3⟩
    · refine .inl ⟨h1, fun w hw => ?_⟩
      obtain ⟨v, M', w', hr, hv, hst⟩ := h3 [] w (by rw [List.append_nil]; exact hw)
      rw [List.append_nil] at hst
      rw [hr]
      exact ⟨M', hst, h2 _ _ hv⟩
    · exact .inr ⟨h1, h2 _ _ h3⟩
  · obtain ⟨v, h1, h2⟩ := ht
    rcases h1 with ⟨h1, h3⟩ | ⟨h1, rfl⟩
    · exact .inl ⟨h1, fun w hw => by rw [h3 M w (fun _ h => by cases h) hw]; exact ⟨M, hw, h2⟩⟩
    · exact .inr ⟨h1, h2⟩

theorem Works.op {K : Act → Mem → Prop} {Q : Exit → Act → World → Prop} {K' : Act → World → Prop} {i : Nat} {o : Oper} {a : Act} {M : Mem} (hi : ops[i]? = some o) (h : Works P X w0 ops K o a M)
    {w : World} (hw : St X w0 w M) (hK : ∀ a M w, St X w0 w M → K a M → K' a w) : wpOp P ops Q i K' a w := by
  unfold wpOp
  simp only [hi]
  rcases h with ⟨h1, h2⟩ | ⟨h1, h2⟩
  · rw [if_pos h1]
    refine .inl ?_
    unfold Oper.wp
    have h3 := h2 w hw
    generalize (execOp a.eval o).run P w = r at *
    cases r with
    | ok n w' =>
      cases n <;> simp only [WUpon] at h3 <;> simp only [Oper.upon]
      case value v => obtain ⟨M', h4, h5⟩ := h3; exact hK _ _ _ h4 h5
      case skip => obtain ⟨M', h4, h5⟩ := h3; exact hK _ _ _ h4 h5
      case enter f args =>
        refine Calls.mono h3 fun e w'' ⟨v, M', h4, h5, h6⟩ => ?_
        subst h4
        exact hK _ _ _ h5 h6
    | halt x w' => simp only [WUpon] at h3
  · rw [if_neg (by rw [h1]; exact Bool.false_ne_true)]
    exact hK _ _ _ hw h2
end
end Go.Proofs.Ytmecomgifmkkfaa

namespace Go.Proofs.Ytmecomgifmkkfaa
set_option linter.unusedVariables false
set_option linter.unusedSimpArgs false
open Go.RowKit

section
variable {P : Program} {X : Nat → Prop} {w0 : World} {ops : Array Oper}

theorem World.alloc_inj {w : World} {z z' : Obj} (h : w.alloc z = w.alloc z') : z = z' := by
  have h1 : (w.alloc z).heap[w.heap.size]? = (w.alloc z').heap[w.heap.size]? := by rw [h]
  rw [heap_alloc_new, heap_alloc_new] at h1
  exact Option.some.inj h1

theorem Yields.uniq {o : Oper} {u v : Value} {a : Act} (h1 : Yields P ops o u a) (h2 : Yields P ops o v a) : u = v := by
  rcases h1 with ⟨h1, h3⟩ | ⟨h1, rfl⟩ <;> rcases h2 with ⟨h2, h4⟩ | ⟨h2, rfl⟩
  · have := (h3 default).symm.trans (h4 default)
    injection this with this
    injection this
  · rw [h1] at h2; cases h2
  · rw [h1] at h2; cases h2
  · rfl
theorem Makes.uniq {o : Oper} {z z' : Obj} {mk mk' : Nat → Value} {a : Act} (h1 : Makes P o z mk a) (h2 : Makes P o z' mk' a) : z = z' ∧ ∀ w : World, mk w.heap.size = mk' w.heap.size := by
  refine ⟨?_, fun w => ?_⟩
  · have := (h1.2 default).symm.trans (h2.2 default)
    injection this with _ h
    exact World.alloc_inj h
  · have := (h1.2 w).symm.trans (h2.2 w)
    injection this with h _
    injection h
theorem Makes.uniqAt {o : Oper} {z z' : Obj} {mk mk' : Nat → Value} {a : Act} (h1 : Makes P o z mk a) (h2 : Makes P o z' mk' a) : z = z' ∧ mk = mk' := by
  have h := Makes.uniq h1 h2
  refine ⟨h.1, funext fun n => ?_⟩
  have := h.2 { (default : World) with heap := Array.replicate n default }
  simpa using this

/-- What an operation is told does not change by what another one, apart from it, leaves in its slot. -/
theorem same_put {o : Oper} (hs : ∀ cs b, o.op ≠ .select cs b) (a : Act) (dst : Option Tmp) (v : Value) (h : ∀ d, dst = some d → d ∉ o.looksAt ops) :
    execOp (a.put dst v).eval o = execOp a.eval o ∧ Region.wanted o (yielded ops (a.put dst v).tmps) = Region.wanted o (yielded ops a.tmps) :=
  ⟨execOp_put o hs a dst v h, wanted_put o a dst v h⟩

theorem YieldsL.same {o : Oper} {v : Value} {a a' : Act} {M M' : Mem} (hy : YieldsL P X w0 ops o v a M) (he : execOp a'.eval o = execOp a.eval o)
    (hw : Region.wanted o (yielded ops a'.tmps) = Region.wanted o (yielded ops a.tmps)) (hM : ∀ p ∈ M, p ∈ M') : YieldsL P X w0 ops o v a' M' := by
  unfold YieldsL at *
  rw [he, hw]
  rcases hy with ⟨h1, h2⟩ | h1
  · exact .inl ⟨h1, fun M1 w hm hst => h2 M1 w (fun p hp => hm p (hM p hp)) hst⟩
  · exact .inr h1
theorem Grows.same {o : Oper} {Φ : Value → Mem → Prop} {a a' : Act} {M M' : Mem} (hy : Grows P X w0 ops o Φ a M) (he : execOp a'.eval o = execOp a.eval o)
    (hw : Region.wanted o (yielded ops a'.tmps) = Region.wanted o (yielded ops a.tmps)) (hM : ∀ p ∈ M, p ∈ M') : Grows P X w0 ops o Φ a' M' := by
  unfold Grows at *
  rw [he, hw]
  rcases hy with ⟨h1, h2⟩ | h1
  · exact .inl ⟨h1, fun M1 w hm hst => h2 M1 w (fun p hp => hm p (hM p hp)) hst⟩
  · exact .inr h1
theorem Makes.same {o : Oper} {z : Obj} {mk : Nat → Value} {a a' : Act} (hy : Makes P o z mk a) (he : execOp a'.eval o = execOp a.eval o) : Makes P o z mk a' := by
  unfold Makes at *
  rw [he]
  exact hy

/-- A value that hangs on the text and on memory as it is known: the first one passes the second one. -/
theorem T_pass_val {oi oj : Oper} {kj : Kd} {v : Value} {K : Act → Mem → Prop} {a : Act} {M : Mem} (hkj : kj ≠ .W) (hkj' : kj ≠ .V)
    (hsi : ∀ cs b, oi.op ≠ .select cs b) (hsj : ∀ cs b, oj.op ≠ .select cs b) (hap : oi.apart ops oj = true)
    (h : T P X w0 ops kj oj K (a.put oi.dst v) M) (V : Act → Mem → Prop)
    (hV : V a M) (keep : ∀ u δ, V a M → V (a.put oj.dst u) (M ++ δ)) :
    T P X w0 ops kj oj (fun a' M' => V a' M' ∧ K (a'.put oi.dst v) M') a M := by
  obtain ⟨h1, h2, h3⟩ := Oper.apart_spec hap
  obtain ⟨e1, e2⟩ := same_put hsj a oi.dst v h1
  have keep0 : ∀ u, V a M → V (a.put oj.dst u) M := fun u hv => by simpa using keep u [] hv
  cases kj <;> simp only [T] at h ⊢
  · obtain ⟨u, hy, hK⟩ := h
    exact ⟨u, hy.of_same e1.symm e2.symm, keep0 _ hV, by rw [← Act.put_comm a v u h2]; exact hK⟩
  · obtain ⟨u, hy, hK⟩ := h
    exact ⟨u, hy.same e1.symm e2.symm (fun _ h => h), keep0 _ hV, by rw [← Act.put_comm a v u h2]; exact hK⟩
  · obtain ⟨Φ, h0, hy, hK⟩ := h
    exact ⟨Φ, h0, hy.same e1.symm e2.symm (fun _ h => h), fun u δ hu => ⟨keep _ _ hV, by rw [← Act.put_comm a v u h2]; exact hK u δ hu⟩⟩
  · obtain ⟨z, mk, hy, hK⟩ := h
    exact ⟨z, mk, hy.same e1.symm, fun β => ⟨keep _ _ hV, by rw [← Act.put_comm a v _ h2]; exact hK β⟩⟩
  · exact absurd rfl hkj
  · exact absurd rfl hkj'
  · obtain ⟨u, hy, hK⟩ := h
    exact ⟨u, hy.same e1.symm e2.symm (fun _ h => h), keep0 _ hV, by rw [← Act.put_comm a v u h2]; exact hK⟩

theorem TurnsV.same {o : Oper} {Φ : Value → Mem → Prop} {a a' : Act} {M : Mem} (hy : TurnsV P X w0 ops o Φ a M) (he : execOp a'.eval o = execOp a.eval o)
    (hw : Region.wanted o (yielded ops a'.tmps) = Region.wanted o (yielded ops a.tmps)) : TurnsV P X w0 ops o Φ a' M := by
  unfold TurnsV at *
  rw [he, hw]
  exact hy

theorem T_comm {oi oj : Oper} {ki kj : Kd} {K : Act → Mem → Prop} (hK : Permed K) (hp : ki.mayPass kj = true)
    (hsi : ∀ cs b, oi.op ≠ .select cs b) (hsj : ∀ cs b, oj.op ≠ .select cs b) (hap : oi.apart ops oj = true) {a : Act} {M : Mem}
    (h : T P X w0 ops ki oi (T P X w0 ops kj oj K) a M) : T P X w0 ops kj oj (T P X w0 ops ki oi K) a M := by
  obtain ⟨h1, h2, h3⟩ := Oper.apart_spec hap
  have ei := fun (a : Act) (v : Value) => same_put hsi a oj.dst v h3
  have ej := fun (a : Act) (v : Value) => same_put hsj a oi.dst v h1
  cases ki <;> simp only [Kd.mayPass] at hp
  · -- P
    simp only [T] at h
    obtain ⟨v, hy, hT⟩ := h
    by_cases hkj : kj = .W
    · subst hkj
      simp only [T] at hT ⊢
      have keep : ∀ u, Yields P ops oi v (a.put oj.dst u) := fun u => hy.of_same (ei a u).1 (ei a u).2
      rcases hT with ⟨hw, hr⟩ | ⟨hw, hr⟩
      · refine .inl ⟨(ej a v).2.symm.trans hw, fun w hst => ?_⟩
        have hr' := hr w hst
        rw [(ej a v).1] at hr'
        generalize (execOp a.eval oj).run P w = r at *
        cases r with
        | ok n w' =>
          cases n <;> simp only [WUpon] at hr' ⊢
          case value u => obtain ⟨M', h5, h6⟩ := hr'; exact ⟨M', h5, v, keep u, by rw [← Act.put_comm a v u h2]; exact h6⟩
          case skip => obtain ⟨M', h5, h6⟩ := hr'; exact ⟨M', h5, v, keep _, by rw [← Act.put_comm a v _ h2]; exact h6⟩
          case enter f args => exact Calls.mono hr' fun e w'' ⟨u, M', h4, h5, h6⟩ => ⟨u, M', h4, h5, v, keep u, by rw [← Act.put_comm a v u h2]; exact h6⟩
        | halt x w' => simp only [WUpon] at hr'
      · exact .inr ⟨(ej a v).2.symm.trans hw, v, keep _, by rw [← Act.put_comm a v _ h2]; exact hr⟩
    · by_cases hkv : kj = .V
      · subst hkv
        simp only [T] at hT ⊢
        obtain ⟨Φ, h0, hu, hK1⟩ := hT
        exact ⟨Φ, h0, hu.same (ej a v).1.symm (ej a v).2.symm, fun u M' hu' => ⟨v, hy.of_same (ei a u).1 (ei a u).2, by rw [← Act.put_comm a v u h2]; exact hK1 u M' hu'⟩⟩
      have := T_pass_val hkj hkv hsi hsj hap hT (fun a' _ => Yields P ops oi v a') hy (fun u _ _ => hy.of_same (ei a u).1 (ei a u).2)
      exact T_mono (fun a' M' ⟨h4, h5⟩ => by simp only [T]; exact ⟨v, h4, h5⟩) this
  · -- L
    have hkj : kj ≠ .W := by rintro rfl; cases hp
    have hkv : kj ≠ .V := by rintro rfl; cases hp
    simp only [T] at h
    obtain ⟨v, hy, hT⟩ := h
    have := T_pass_val hkj hkv hsi hsj hap hT (fun a' M' => YieldsL P X w0 ops oi v a' M') hy (fun u δ _ => hy.same (ei a u).1 (ei a u).2 (fun p hp => List.mem_append_left _ hp))
    exact T_mono (fun a' M' ⟨h4, h5⟩ => by simp only [T]; exact ⟨v, h4, h5⟩) this
  · -- G
    simp only [T] at h
    obtain ⟨Φ, ⟨v0, δ0, h0⟩, hy, hT⟩ := h
    cases kj <;> simp only [Kd.mayPass, Bool.false_eq_true] at hp
    · simp only [T] at hT ⊢
      obtain ⟨u, hu, _⟩ := hT v0 δ0 h0
      have hu' : Yields P ops oj u a := hu.of_same (ej a v0).1.symm (ej a v0).2.symm
      refine ⟨u, hu', Φ, ⟨v0, δ0, h0⟩, hy.same (ei a u).1 (ei a u).2 (fun _ h => h), fun v δ hv => ?_⟩
      obtain ⟨u1, hu1, hK1⟩ := hT v δ hv
      obtain rfl := Yields.uniq (hu1.of_same (ej a v).1.symm (ej a v).2.symm) hu'
      rw [← Act.put_comm a v u1 h2]; exact hK1
    · simp only [T] at hT ⊢
      obtain ⟨z, mk, hu, _⟩ := hT v0 δ0 h0
      have hu' : Makes P oj z mk a := hu.same (ej a v0).1.symm
      refine ⟨z, mk, hu', fun β => ⟨Φ, ⟨v0, δ0, h0⟩, hy.same (ei a _).1 (ei a _).2 (fun p hp => List.mem_append_left _ hp), fun v δ hv => ?_⟩⟩
      obtain ⟨z1, mk1, hu1, hK1⟩ := hT v δ hv
      obtain ⟨rfl, rfl⟩ := Makes.uniqAt (hu1.same (ej a v).1.symm) hu'
      have := hK1 β
      rw [← Act.put_comm a v _ h2]
      refine hK _ _ _ ?_ this
      rw [List.append_assoc, List.append_assoc]
      exact List.Perm.append_left _ List.perm_append_comm
  · -- A
    simp only [T] at h
    obtain ⟨z, mk, hy, hT⟩ := h
    cases kj <;> simp only [Kd.mayPass, Bool.false_eq_true] at hp
    · simp only [T] at hT ⊢
      obtain ⟨u, hu, _⟩ := hT 0
      have hu' : Yields P ops oj u a := hu.of_same (ej a _).1.symm (ej a _).2.symm
      refine ⟨u, hu', z, mk, hy.same (ei a u).1, fun β => ?_⟩
      obtain ⟨u1, hu1, hK1⟩ := hT β
      obtain rfl := Yields.uniq (hu1.of_same (ej a _).1.symm (ej a _).2.symm) hu'
      rw [← Act.put_comm a _ u1 h2]; exact hK1
    · simp only [T] at hT ⊢
      obtain ⟨y, mk2, hu, _⟩ := hT 0
      have hu' : Makes P oj y mk2 a := hu.same (ej a _).1.symm
      refine ⟨y, mk2, hu', fun γ => ⟨z, mk, hy.same (ei a _).1, fun β => ?_⟩⟩
      obtain ⟨y1, mk1, hu1, hK1⟩ := hT β
      obtain ⟨rfl, rfl⟩ := Makes.uniqAt (hu1.same (ej a _).1.symm) hu'
      have := hK1 γ
      rw [← Act.put_comm a _ _ h2]
      refine hK _ _ _ ?_ this
      rw [List.append_assoc, List.append_assoc]
      exact List.Perm.append_left _ List.perm_append_comm
  · cases hp
  · -- V
    simp only [T] at h
    obtain ⟨Φ, ⟨v0, M0, h0⟩, hy, hT⟩ := h
    cases kj <;> simp only [Kd.mayPass, Bool.false_eq_true] at hp
    · simp only [T] at hT ⊢
      obtain ⟨u, hu, _⟩ := hT v0 M0 h0
      have hu' : Yields P ops oj u a := hu.of_same (ej a v0).1.symm (ej a v0).2.symm
      refine ⟨u, hu', Φ, ⟨v0, M0, h0⟩, hy.same (ei a u).1 (ei a u).2, fun v M' hv => ?_⟩
      obtain ⟨u1, hu1, hK1⟩ := hT v M' hv
      obtain rfl := Yields.uniq (hu1.of_same (ej a v).1.symm (ej a v).2.symm) hu'
      rw [← Act.put_comm a v u1 h2]; exact hK1
    · simp only [T] at hT ⊢
      obtain ⟨z, mk, hu, _⟩ := hT v0 M0 h0
      have hu' : Makes P oj z mk a := hu.same (ej a v0).1.symm
      refine ⟨z, mk, hu', fun β => ⟨fun v M'' => ∃ M', M'' = M' ++ [(β, z)] ∧ Φ v M', ⟨v0, _, M0, rfl, h0⟩, ?_, ?_⟩⟩
      · have hy' := hy.same (ei a (mk β)).1 (ei a (mk β)).2
        rcases hy' with ⟨hy1, hy2⟩ | ⟨hy1, hy2⟩
        · refine .inl ⟨hy1, fun F w hw => ?_⟩
          rw [List.append_assoc] at hw
          obtain ⟨v, M', w', hr, hv, hst⟩ := hy2 _ w hw
          exact ⟨v, _, w', hr, ⟨M', rfl, hv⟩, by rw [List.append_assoc]; exact hst⟩
        · exact .inr ⟨hy1, M, rfl, hy2⟩
      · rintro v _ ⟨M', rfl, hv⟩
        obtain ⟨z1, mk1, hu1, hK1⟩ := hT v M' hv
        obtain ⟨rfl, rfl⟩ := Makes.uniqAt (hu1.same (ej a v).1.symm) hu'
        rw [← Act.put_comm a v _ h2]
        exact hK1 β
  · -- O
    simp only [T] at h
    obtain ⟨v, hy, hT⟩ := h
    by_cases hkj : kj = .W
    · subst hkj
      simp only [T] at hT ⊢
      have keep : ∀ u, YieldsL P X w0 ops oi v (a.put oj.dst u) [] := fun u => hy.same (ei a u).1 (ei a u).2 (fun _ h => h)
      rcases hT with ⟨hw, hr⟩ | ⟨hw, hr⟩
      · refine .inl ⟨(ej a v).2.symm.trans hw, fun w hst => ?_⟩
        have hr' := hr w hst
        rw [(ej a v).1] at hr'
        generalize (execOp a.eval oj).run P w = r at *
        cases r with
        | ok n w' =>
          cases n <;> simp only [WUpon] at hr' ⊢
          case value u => obtain ⟨M', h5, h6⟩ := hr'; exact ⟨M', h5, v, keep u, by rw [← Act.put_comm a v u h2]; exact h6⟩
          case skip => obtain ⟨M', h5, h6⟩ := hr'; exact ⟨M', h5, v, keep _, by rw [← Act.put_comm a v _ h2]; exact h6⟩
          case enter f args => exact Calls.mono hr' fun e w'' ⟨u, M', h4, h5, h6⟩ => ⟨u, M', h4, h5, v, keep u, by rw [← Act.put_comm a v u h2]; exact h6⟩
        | halt x w' => simp only [WUpon] at hr'
      · exact .inr ⟨(ej a v).2.symm.trans hw, v, keep _, by rw [← Act.put_comm a v _ h2]; exact hr⟩
    · by_cases hkv : kj = .V
      · subst hkv
        simp only [T] at hT ⊢
        obtain ⟨Φ, h0, hu, hK1⟩ := hT
        exact ⟨Φ, h0, hu.same (ej a v).1.symm (ej a v).2.symm, fun u M' hu' => ⟨v, hy.same (ei a u).1 (ei a u).2 (fun _ h => h), by rw [← Act.put_comm a v u h2]; exact hK1 u M' hu'⟩⟩
      have := T_pass_val hkj hkv hsi hsj hap hT (fun a' _ => YieldsL P X w0 ops oi v a' []) hy (fun u _ _ => hy.same (ei a u).1 (ei a u).2 (fun _ h => h))
      exact T_mono (fun a' M' ⟨h4, h5⟩ => by simp only [T]; exact ⟨v, h4, h5⟩) this

/-- Which operations have not come up. -/
def unl (ops : Array Oper) (listed : Array Bool) : List Nat := (List.range ops.size).filter fun i => !listed.getD i true

theorem unl_len {i : Nat} {listed : Array Bool} (hi : i < ops.size) (h : listed.getD i true = false) : (unl ops listed).length = (unl ops (listed.setIfInBounds i true)).length + 1 := by
  have hlt : i < listed.size := by
    rcases Nat.lt_or_ge i listed.size with h1 | h1
    · exact h1
    · rw [Array.getD_eq_getD_getElem?, Array.getElem?_eq_none h1] at h; cases h
  have hnd : (unl ops listed).Nodup := List.Pairwise.filter _ List.nodup_range
  have hm : i ∈ unl ops listed := List.mem_filter.2 ⟨List.mem_range.2 hi, by rw [h]; rfl⟩
  have he : unl ops (listed.setIfInBounds i true) = (unl ops listed).erase i := by
    rw [hnd.erase_eq_filter]
    unfold unl
    rw [List.filter_filter]
    refine List.filter_congr fun j _ => ?_
    by_cases hj : i = j
    · subst hj; simp [hlt]
    · rw [getD_set_ne true hj]
      have : (j != i) = true := by simp; exact fun e => hj e.symm
      rw [this, Bool.true_and]
  rw [he, List.length_erase_of_mem hm]
  have : 0 < (unl ops listed).length := List.length_pos_of_mem hm
  omega

/-- What has come up has come up behind what it waits for. -/
def closedL (ops : Array Oper) (listed : Array Bool) : Prop := ∀ (k : Nat) (ok : Oper), ops[k]? = some ok → listed.getD k true = true → ∀ e ∈ ok.after, Region.binds .any e = true → listed.getD e.on false = true

theorem closed_set {listed : Array Bool} {j : Nat} (h : closedL ops listed) (hj : j ∈ Region.ready .any ops listed) : closedL ops (listed.setIfInBounds j true) := by
  obtain ⟨hju, oj, hoj, hall⟩ := mem_ready.1 hj
  intro k ok hk hl e he hb
  refine getD_set_true ?_
  by_cases hjk : j = k
  · subst hjk
    obtain rfl := Option.some.inj (hoj.symm.trans hk)
    exact hall e he hb
  · rw [getD_set_ne true hjk] at hl
    exact h k ok hk hl e he hb

/-- Those that wait for i, at first hand or not: a mask of bits. -/
def waitFor : List Oper → Nat → Nat → Nat
  | [], _, D => D
  | o :: l, j, D => waitFor l (j + 1) (bif o.after.toList.any (fun e => Region.binds .any e && D.testBit e.on) then D ||| (1 <<< j) else D)

theorem waitFor_spec {i : Nat} {listed : Array Bool} (hcl : closedL ops listed) (hi : listed.getD i true = false) :
    ∀ (l : List Oper) (j D : Nat), (∀ m, m < l.length → l[m]? = ops[j + m]?) →
      (∀ k, D.testBit k = true → listed.getD k true = false ∧ (k = i ∨ k ∉ Region.ready .any ops listed)) →
      ∀ k, (waitFor l j D).testBit k = true → listed.getD k true = false ∧ (k = i ∨ k ∉ Region.ready .any ops listed)
  | [], _, _, _, hD => hD
  | o :: l, j, D, hl, hD => by
    refine waitFor_spec hcl hi l (j + 1) _ (fun m hm => by have := hl (m + 1) (by simp; omega); simpa [Nat.add_assoc, Nat.add_comm 1 m] using this) ?_
    have h0 : ops[j]? = some o := by simpa using (hl 0 (by simp)).symm
    intro k hk
    cases hc : o.after.toList.any (fun e => Region.binds .any e && D.testBit e.on) with
    | false => rw [hc] at hk; exact hD k hk
    | true =>
      rw [hc] at hk
      simp only [cond_true, Nat.testBit_or, Bool.or_eq_true] at hk
      rcases hk with hk | hk
      · exact hD k hk
      · rw [Nat.one_shiftLeft, Nat.testBit_two_pow] at hk
        obtain rfl : j = k := by simpa using hk
        obtain ⟨e, he, hb⟩ := List.any_eq_true.1 hc
        simp only [Bool.and_eq_true] at hb
        have hun := (hD _ hb.2).1
        have he' : e ∈ o.after := by simpa using he
        have hone : listed.getD e.on false = true → False := fun h => by
          rcases Nat.lt_or_ge e.on listed.size with h' | h'
          · simp [h'] at hun h; rw [hun] at h; cases h
          · simp [Array.getElem?_eq_none h'] at h
        refine ⟨?_, .inr fun hr => ?_⟩
        · cases hjl : listed.getD j true with
          | false => rfl
          | true => exact (hone (hcl j o h0 hjl e he' hb.1)).elim
        · obtain ⟨_, oj, hoj, hall⟩ := mem_ready.1 hr
          obtain rfl := Option.some.inj (hoj.symm.trans h0)
          exact hone (hall e he' hb.1)

/-- Whatever order the operations take. -/
def anyS (P : Program) (X : Nat → Prop) (w0 : World) (ops : Array Oper) (kd : Nat → Kd) (Q : Act → Mem → Prop) : Nat → Array Bool → Act → Mem → Prop
  | 0, listed, a, M => Region.ready .any ops listed = [] ∧ Q a M
  | f + 1, listed, a, M => Region.ready .any ops listed ≠ [] ∧ ∀ i ∈ Region.ready .any ops listed, ∃ o, ops[i]? = some o ∧ T P X w0 ops (kd i) o (anyS P X w0 ops kd Q f (listed.setIfInBounds i true)) a M

variable {kd : Nat → Kd} {Q : Act → Mem → Prop}

theorem anyS_perm (hQ : Permed Q) : ∀ (f : Nat) (listed : Array Bool), Permed (anyS P X w0 ops kd Q f listed)
  | 0, _ => fun _ _ _ hp h => ⟨h.1, hQ _ _ _ hp h.2⟩
  | f + 1, listed => fun _ _ _ hp h => ⟨h.1, fun i hi => by
      obtain ⟨o, ho, ht⟩ := h.2 i hi
      exact ⟨o, ho, T_perm (anyS_perm hQ f _) _ _ _ _ _ hp ht⟩⟩

theorem anyS_first {i : Nat} {oi : Oper} (hQ : Permed Q) (hi : ops[i]? = some oi) (hsel : ∀ (j : Nat) (o : Oper) cs b, ops[j]? = some o → o.op ≠ .select cs b) :
    ∀ (f : Nat) (listed : Array Bool) (a : Act) (M : Mem), (unl ops listed).length = f + 1 → closedL ops listed →
      (∀ listed' j oj, closedL ops listed' → (∀ k, listed.getD k true = true → listed'.getD k true = true) → listed'.getD i true = false → ops[j]? = some oj → j ∈ Region.ready .any ops listed' → j ≠ i → oi.apart ops oj = true ∧ (kd i).mayPass (kd j) = true) →
      i ∈ Region.ready .any ops listed → T P X w0 ops (kd i) oi (anyS P X w0 ops kd Q f (listed.setIfInBounds i true)) a M → anyS P X w0 ops kd Q (f + 1) listed a M := by
  intro f
  induction f with
  | zero =>
    intro listed a M hlen _ _ hr H
    refine ⟨fun h => (by rw [h] at hr; cases hr), fun j hj => ?_⟩
    by_cases hji : j = i
    · subst hji; exact ⟨oi, hi, H⟩
    · exfalso
      have h1 : i ∈ unl ops listed := List.mem_filter.2 ⟨List.mem_range.2 (Array.getElem?_eq_some_iff.1 hi).1, by rw [(mem_ready.1 hr).1]; rfl⟩
      obtain ⟨hjun, oj, hoj, _⟩ := mem_ready.1 hj
      have h2 : j ∈ unl ops listed := List.mem_filter.2 ⟨List.mem_range.2 (Array.getElem?_eq_some_iff.1 hoj).1, by rw [hjun]; rfl⟩
      match h3 : unl ops listed, hlen with
      | [x], _ =>
        rw [h3] at h1 h2
        rw [List.mem_singleton] at h1 h2
        exact hji (h2.trans h1.symm)
  | succ f ih =>
    intro listed a M hlen hcl hfree hr H
    refine ⟨fun h => (by rw [h] at hr; cases hr), fun j hj => ?_⟩
    by_cases hji : j = i
    · subst hji; exact ⟨oi, hi, H⟩
    · obtain ⟨hjun, oj, hoj, hall⟩ := mem_ready.1 hj
      have hun := (mem_ready.1 hr).1
      obtain ⟨hap, hpass⟩ := hfree listed j oj hcl (fun _ h => h) hun hoj hj hji
      refine ⟨oj, hoj, ?_⟩
      have h1 : T P X w0 ops (kd i) oi (T P X w0 ops (kd j) oj (anyS P X w0 ops kd Q f ((listed.setIfInBounds i true).setIfInBounds j true))) a M :=
        T_mono (fun a' M' h => by
          obtain ⟨o', ho', h'⟩ := h.2 j (ready_mono hj hji)
          obtain rfl := Option.some.inj (ho'.symm.trans hoj)
          exact h') H
      have h2 := T_comm (anyS_perm hQ f _) hpass (fun cs b => hsel i oi cs b hi) (fun cs b => hsel j oj cs b hoj) hap h1
      refine T_mono (fun a' M' h3 => ?_) h2
      refine ih (listed.setIfInBounds j true) a' M' ?_ (closed_set hcl hj) ?_ (ready_mono hr (Ne.symm hji)) (by rw [Array.setIfInBounds_comm _ _ hji]; exact h3)
      · have := unl_len (ops := ops) (Array.getElem?_eq_some_iff.1 hoj).1 hjun
        omega
      · intro listed' k ok hcl' hsub hiu hk hkr hki
        refine hfree listed' k ok hcl' (fun m hm => hsub m ?_) hiu hk hkr hki
        by_cases hjm : j = m
        · subst hjm; rw [hjun] at hm; cases hm
        · rw [getD_set_ne true hjm]; exact hm

/-- The walk, in the order π. -/
def walk (P : Program) (X : Nat → Prop) (w0 : World) (ops : Array Oper) (kd : Nat → Kd) (Q : Act → Mem → Prop) : List Nat → Act → Mem → Prop
  | [], a, M => Q a M
  | i :: l, a, M => ∃ o, ops[i]? = some o ∧ T P X w0 ops (kd i) o (walk P X w0 ops kd Q l) a M

/-- May a region be walked in this order, whatever order it draws? -/
def okOrder (ops : Array Oper) (kd : Nat → Kd) : List Nat → Array Bool → Bool
  | [], listed => (Region.ready .any ops listed).isEmpty && (unl ops listed).isEmpty
  | i :: l, listed => (Region.ready .any ops listed).contains i &&
      (let D := waitFor ops.toList 0 (1 <<< i)
       (List.range ops.size).all fun j => D.testBit j || listed.getD j true || match ops[i]?, ops[j]? with
        | some oi, some oj => oi.apart ops oj && (kd i).mayPass (kd j)
        | _, _ => true) && okOrder ops kd l (listed.setIfInBounds i true)

theorem walk_any (hQ : Permed Q) (hs : Region.noSelect ops = true) : ∀ (l : List Nat) (listed : Array Bool) (a : Act) (M : Mem), closedL ops listed → okOrder ops kd l listed = true → walk P X w0 ops kd Q l a M →
    (unl ops listed).length = l.length ∧ anyS P X w0 ops kd Q l.length listed a M
  | [], listed, a, M, _, hok, h => by
    simp only [okOrder, Bool.and_eq_true, List.isEmpty_iff] at hok
    exact ⟨by rw [hok.2], hok.1, h⟩
  | i :: l, listed, a, M, hcl, hok, h => by
    simp only [okOrder, Bool.and_eq_true, List.contains_iff_mem] at hok
    obtain ⟨⟨hr, hf⟩, hok'⟩ := hok
    obtain ⟨o, ho, ht⟩ := h
    have hun := (mem_ready.1 hr).1
    have hlen := unl_len (ops := ops) (Array.getElem?_eq_some_iff.1 ho).1 hun
    have hl : (unl ops (listed.setIfInBounds i true)).length = l.length := by
      -- the count hangs on the order alone
      clear ht hlen hr hf hun hcl
      revert hok'
      generalize listed.setIfInBounds i true = x
      clear ho
      induction l generalizing x with
      | nil => intro h; simp only [okOrder, Bool.and_eq_true, List.isEmpty_iff] at h; rw [h.2]
      | cons k l ih =>
        intro h
        simp only [okOrder, Bool.and_eq_true, List.contains_iff_mem] at h
        obtain ⟨hku, ok, hok, _⟩ := mem_ready.1 h.1.1
        have := unl_len (ops := ops) (Array.getElem?_eq_some_iff.1 hok).1 hku
        rw [this, ih _ h.2]; rfl
    refine ⟨by rw [hlen, hl]; rfl, ?_⟩
    refine anyS_first hQ ho (Region.noSelect_spec hs) l.length listed a M (by rw [hlen, hl]) hcl ?_ hr (T_mono (fun a' M' h' => (walk_any hQ hs l _ a' M' (closed_set hcl hr) hok' h').2) ht)
    intro listed' j oj hcl' hsub hiu hj hjr hne
    have h1 := List.all_eq_true.1 hf j (List.mem_range.2 (Array.getElem?_eq_some_iff.1 hj).1)
    simp only [ho, hj, Bool.or_eq_true, Bool.and_eq_true] at h1
    rcases h1 with (h1 | h1) | h1
    · have := (waitFor_spec hcl' hiu ops.toList 0 (1 <<< i) (fun m hm => by simp) (fun k hk => by
        rw [Nat.one_shiftLeft, Nat.testBit_two_pow] at hk
        obtain rfl : i = k := by simpa using hk
        exact ⟨hiu, .inl rfl⟩) j h1).2
      rcases this with h | h
      · exact absurd h hne
      · exact absurd hjr h
    · have := hsub j h1
      rw [(mem_ready.1 hjr).1] at this; cases this
    · exact h1

theorem any_wp {Q' : Exit → Act → World → Prop} (hQ' : ∀ a M w, St X w0 w M → Q a M → Q' .normal a w) : ∀ (f : Nat) (listed : Array Bool) (a : Act) (M : Mem) (w : World), St X w0 w M →
    anyS P X w0 ops kd Q f listed a M → wpAny P .any ops Q' f listed a w
  | 0, _, _, _, _, hw, h => ⟨h.1, hQ' _ _ _ hw h.2⟩
  | f + 1, listed, a, M, w, hw, h => ⟨fun h0 => absurd h0 h.1, fun i hi => by
      obtain ⟨o, ho, ht⟩ := h.2 i hi
      exact Works.op ho (T_works ht) hw (fun a' M' w' hw' h' => any_wp hQ' f _ a' M' w' hw' h')⟩

/-- What is asked of a code: from every world of which M says what is known. -/
def swp (P : Program) (X : Nat → Prop) (w0 : World) (c : Code) (Q : Exit → Act → Mem → Prop) (a : Act) (M : Mem) : Prop :=
  ∀ w, St X w0 w M → c.wp P (fun e a' w' => ∃ M', St X w0 w' M' ∧ Q e a' M') a w

/-- A region that draws. -/
theorem swp_draw {id : Nat} {Q : Exit → Act → Mem → Prop} {a : Act} {M : Mem} (π : List Nat) (hm : P.follows .mixedOrders = true) (hs : Region.noSelect ops = true)
    (hok : okOrder ops kd π (Array.replicate ops.size false) = true)
    (h : walk P X w0 ops kd (Q .normal) π a M) : swp P X w0 (.region id ops true) Q a M := by
  intro w hw
  refine wp_region_any hm ?_
  have hw' : St X w0 { w with drawn := w.drawn + 1 } M := hw.drew
  let Q1 : Act → Mem → Prop := fun a M => ∃ M', M'.Perm M ∧ Q .normal a M'
  have hQ1 : Permed Q1 := fun a M M' hp ⟨M1, h1, h2⟩ => ⟨M1, h1.trans hp, h2⟩
  have mono : ∀ (l : List Nat) (a : Act) (M : Mem), walk P X w0 ops kd (Q .normal) l a M → walk P X w0 ops kd Q1 l a M := by
    intro l
    induction l with
    | nil => exact fun a M h => ⟨M, List.Perm.refl _, h⟩
    | cons i l ih => exact fun a M ⟨o, ho, ht⟩ => ⟨o, ho, T_mono ih ht⟩
  have hcl0 : closedL ops (Array.replicate ops.size false) := fun k ok hk hl e he hb => by
    have hlt := (Array.getElem?_eq_some_iff.1 hk).1
    simp [hlt] at hl
  obtain ⟨hlen, hany⟩ := walk_any hQ1 hs π _ a M hcl0 hok (mono π a M h)
  have hsz : π.length = ops.size := by
    rw [← hlen]
    unfold unl
    rw [List.filter_eq_self.2, List.length_range]
    intro i hi
    have := List.mem_range.1 hi
    simp [this]
  rw [← hsz]
  have hany' : anyS P X w0 ops kd Q1 π.length (Array.replicate ops.size false) a M := hany
  rw [hsz] at hany' ⊢
  refine any_wp (Q := Q1) ?_ _ _ _ _ _ hw' hany'
  rintro a M w hw ⟨M', hp, hq⟩
  exact ⟨M', hw.perm hp.symm, hq⟩

/-- A region that does not. -/
theorem swp_region {id : Nat} {Q : Exit → Act → Mem → Prop} {a : Act} {M : Mem} (h : walk P X w0 ops kd (Q .normal) (List.range ops.size) a M) : swp P X w0 (.region id ops false) Q a M := by
  intro w hw
  refine wp_region ?_
  revert h
  generalize List.range ops.size = l
  intro h
  induction l generalizing a M w with
  | nil => exact (show ∃ M', St X w0 w M' ∧ Q .normal a M' from ⟨M, hw, h⟩)
  | cons i l ih =>
    obtain ⟨o, ho, ht⟩ := h
    rw [wpOps_cons]
    exact Works.op ho (T_works ht) hw (fun a' M' w' hw' h' => ih (a := a') (M := M') w' hw' h')

end
end Go.Proofs.Ytmecomgifmkkfaa

namespace Go.Proofs.Ytmecomgifmkkfaa
set_option linter.unusedVariables false
set_option linter.unusedSimpArgs false
open Go.RowKit

def nthD : List Value → Nat → Value
  | [], _ => undef
  | x :: _, 0 => x
  | _ :: l, n + 1 => nthD l n
def setL : List Value → Nat → Value → List Value
  | [], _, _ => []
  | _ :: l, 0, v => v :: l
  | x :: l, n + 1, v => x :: setL l n v
def nthO {α : Type} : List α → Nat → Option α
  | [], _ => none
  | x :: _, 0 => some x
  | _ :: l, n + 1 => nthO l n

def ev (l : List Value) : Operand → Value
  | .tmp t => nthD l t
  | .const v => v
  | .global g => .pointer (some ⟨g, 0, none⟩)
  | .func f => .func (.func f) #[] #[]
def putL (l : List Value) : Option Tmp → Value → List Value
  | some d, v => setL l d v
  | none, _ => l
def env (l : List Value) : Act := { tmps := l.toArray, defers := [] }

theorem nthD_eq : ∀ (l : List Value) (n : Nat), nthD l n = l[n]?.getD undef
  | [], _ => by simp [nthD]
  | x :: _, 0 => by simp [nthD]
  | _ :: l, n + 1 => by simp [nthD, nthD_eq l n]
theorem setL_eq : ∀ (l : List Value) (n : Nat) (v : Value), setL l n v = l.set n v
  | [], _, _ => by simp [setL]
  | x :: _, 0, _ => by simp [setL]
  | _ :: l, n + 1, v => by simp [setL, setL_eq l n v]
theorem nthO_eq {α : Type} : ∀ (l : List α) (n : Nat), nthO l n = l[n]?
  | [], _ => by simp [nthO]
  | x :: _, 0 => by simp [nthO]
  | _ :: l, n + 1 => by simp [nthO, nthO_eq l n]
theorem eval_env (l : List Value) : (env l).eval = ev l := by
  funext x
  cases x <;> simp [Act.eval, env, ev, nthD_eq]
theorem put_env (l : List Value) (d : Option Tmp) (v : Value) : (env l).put d v = env (putL l d v) := by
  cases d
  · rfl
  · simp [Act.put, env, putL, setL_eq]

/-- What a code's head is. -/
def isSeq : Code → Bool | .seq .. => true | _ => false
def fstC : Code → Code | .seq a _ => a | c => c
def sndC : Code → Code | .seq _ b => b | c => c
def isReg (d : Bool) : Code → Bool | .region _ _ d' => d == d' | _ => false
def opsC : Code → List Oper | .region _ ops _ => ops.toList | _ => []
def isCond : Code → Bool | .cond .. => true | _ => false
def condC : Code → Operand | .cond c _ _ => c | _ => .const undef
def thnC : Code → Code | .cond _ a _ => a | c => c
def elsC : Code → Code | .cond _ _ b => b | c => c
def isBlk : Code → Bool | .block .. => true | _ => false
def idC : Code → Nat | .block i _ => i | .exit i => i | _ => 0
def bodyC : Code → Code | .block _ b => b | .loop b => b | c => c
def isLoop : Code → Bool | .loop _ => true | _ => false
def isExit : Code → Bool | .exit _ => true | _ => false
def isRet : Code → Bool | .ret => true | _ => false
def isSkip : Code → Bool | .skip => true | _ => false

/-- The kinds, by the operation's own head, or as told. -/
def opKd : Op → Kd
  | .move _ | .assign _ | .pick .. | .build .. | .extract .. | .binOp .. | .unOp .. | .convert .. | .fieldAddr .. | .indexAddr .. | .field .. | .index .. | .slice .. | .nilCheck _ | .makeInterface .. | .typeAssert .. | .sliceToArrayPointer .. => .P
  | .load .. => .L
  | .alloc _ | .box .. | .buildSlice .. | .makeSlice .. => .A
  | .call c => match c.callee with
    | .value _ => .G
    | .builtin .len | .builtin .cap | .builtin .min | .builtin .max => .P
    | _ => .W
  | _ => .W
def kdOf (ov : List (Nat × Kd)) (R : List Oper) (i : Nat) : Kd :=
  match ov.find? (·.1 == i) with
  | some (_, k) => k
  | none => match nthO R i with
    | some o => opKd o.op
    | none => .W

section
variable (P : Program) (X : Nat → Prop) (w0 : World)

/-- However the blocks are listed. -/
def WQ (N : List Value → Mem → Prop) (a : Act) (M : Mem) : Prop := ∃ M', M'.Perm M ∧ ∃ l', a = env l' ∧ N l' M'
theorem WQ.permed (N : List Value → Mem → Prop) : Permed (WQ N) := fun _ _ _ hp ⟨M1, h1, h2⟩ => ⟨M1, h1.trans hp, h2⟩
/-- The walk over a region's operations, slots as a list. -/
structure Wk (R : List Oper) (kd : Nat → Kd) (Q : List Value → Mem → Prop) (π : List Nat) (l : List Value) (M : Mem) : Prop where
  out : walk P X w0 R.toArray kd (WQ Q) π (env l) M
/-- What is asked of a code. -/
structure Sp (c : Code) (Q : Exit → List Value → Mem → Prop) (l : List Value) (M : Mem) : Prop where
  out : swp P X w0 c (fun e a M => ∃ l', a = env l' ∧ Q e l' M) (env l) M
def thenQ (n : List Value → Mem → Prop) (Q : Exit → List Value → Mem → Prop) : Exit → List Value → Mem → Prop
  | .normal, l, M => n l M
  | e, l, M => Q e l M
def blockQ (id : Nat) (Q : Exit → List Value → Mem → Prop) : Exit → List Value → Mem → Prop
  | .exit j, l, M => bif j == id then Q .normal l M else Q (.exit j) l M
  | e, l, M => Q e l M
end

section
variable {P : Program} {X : Nat → Prop} {w0 : World} {Q : Exit → List Value → Mem → Prop} {l : List Value} {M : Mem} {c : Code}

theorem sp_seq (hc : isSeq c = true) (h : Sp P X w0 (fstC c) (thenQ (Sp P X w0 (sndC c) Q) Q) l M) : Sp P X w0 c Q l M := by
  cases c <;> simp only [isSeq, Bool.false_eq_true] at hc
  rename_i a b
  refine ⟨fun w hw => wp_seq (Code.wp_mono ?_ (h.out w hw))⟩
  rintro e a' w' ⟨M', hst, l', rfl, hq⟩
  cases e with
  | normal => exact hq.out w' hst
  | _ => exact ⟨M', hst, l', rfl, hq⟩
theorem sp_cond (hc : isCond c = true) (b : Bool) (hb : ev l (condC c) = .bool b) (h : Sp P X w0 (if b then thnC c else elsC c) Q l M) : Sp P X w0 c Q l M := by
  cases c <;> simp only [isCond, Bool.false_eq_true] at hc
  exact ⟨fun w hw => wp_cond (by rw [eval_env]; exact hb) (h.out w hw)⟩
theorem sp_true (hc : isCond c = true) (hb : ev l (condC c) = .bool true) (h : Sp P X w0 (thnC c) Q l M) : Sp P X w0 c Q l M := sp_cond hc true hb h
theorem sp_false (hc : isCond c = true) (hb : ev l (condC c) = .bool false) (h : Sp P X w0 (elsC c) Q l M) : Sp P X w0 c Q l M := sp_cond hc false hb h
theorem sp_block (hc : isBlk c = true) (h : Sp P X w0 (bodyC c) (blockQ (idC c) Q) l M) : Sp P X w0 c Q l M := by
  cases c <;> simp only [isBlk, Bool.false_eq_true] at hc
  rename_i id b
  refine ⟨fun w hw => wp_block (Code.wp_mono ?_ (h.out w hw))⟩
  rintro e a' w' ⟨M', hst, l', rfl, hq⟩
  cases e with
  | exit j =>
    simp only [Go.Exit.inBlock]
    simp only [blockQ, idC] at hq
    by_cases hj : j = id
    · rw [if_pos hj]
      rw [show (j == id) = true by simpa using hj] at hq
      exact ⟨M', hst, l', rfl, hq⟩
    · rw [if_neg hj]
      rw [show (j == id) = false by simpa using hj] at hq
      exact ⟨M', hst, l', rfl, hq⟩
  | _ => exact ⟨M', hst, l', rfl, hq⟩
theorem sp_exit (hc : isExit c = true) (h : Q (.exit (idC c)) l M) : Sp P X w0 c Q l M := by
  cases c <;> simp only [isExit, Bool.false_eq_true] at hc
  exact ⟨fun w hw => wp_exit ⟨M, hw, l, rfl, h⟩⟩
theorem sp_ret (hc : isRet c = true) (h : Q .ret l M) : Sp P X w0 c Q l M := by
  cases c <;> simp only [isRet, Bool.false_eq_true] at hc
  exact ⟨fun w hw => wp_ret ⟨M, hw, l, rfl, h⟩⟩
theorem sp_skip (hc : isSkip c = true) (h : Q .normal l M) : Sp P X w0 c Q l M := by
  cases c <;> simp only [isSkip, Bool.false_eq_true] at hc
  exact ⟨fun w hw => wp_skip ⟨M, hw, l, rfl, h⟩⟩
/-- Some of what is known is let go. -/
theorem sp_less {M' : Mem} (hs : M'.Sublist M) (h : Sp P X w0 c Q l M') : Sp P X w0 c Q l M := ⟨fun w hw => h.out w (hw.less hs)⟩
theorem sp_loop (hc : isLoop c = true) (I : List Value → Mem → Prop) (μ : List Value → Mem → Nat) (h0 : I l M)
    (round : ∀ l M, I l M → Sp P X w0 (bodyC c) (thenQ (fun l' M' => ∃ M2, M2.Sublist M' ∧ I l' M2 ∧ μ l' M2 < μ l M) Q) l M) : Sp P X w0 c Q l M := by
  cases c <;> simp only [isLoop, Bool.false_eq_true] at hc
  rename_i b
  refine ⟨fun w hw => ?_⟩
  intro fb k cs
  have key : ∀ n l M w, μ l M = n → I l M → St X w0 w M → ∃ e a' w', (∃ M', St X w0 w' M' ∧ ∃ l', a' = env l' ∧ Q e l' M') ∧ Arrives P (lone (fb.at (env l) (.code b :: .inLoop b :: k)) cs w) fb k cs e a' w' := by
    intro n
    induction n using Nat.strongRecOn with
    | _ n ih =>
      intro l M w hn hI hst
      obtain ⟨e, a1, w1, ⟨M1, hst1, l1, rfl, hq⟩, harr⟩ := (round l M hI).out w hst fb (.inLoop b :: k) cs
      cases e with
      | normal =>
        obtain ⟨M2, hsub, hI2, hlt⟩ := hq
        obtain ⟨e2, a2, w2, hq2, harr2⟩ := ih (μ l1 M2) (hn ▸ hlt) l1 M2 w1 rfl hI2 (hst1.less hsub)
        exact ⟨e2, a2, w2, hq2, .of_steps (Steps.trans harr (.one step_inLoop)) harr2⟩
      | exit id => exact ⟨_, _, w1, ⟨M1, hst1, l1, rfl, hq⟩, .pass (x := .inLoop b) rfl (fun _ _ => .inl (by simp)) harr⟩
      | goto g => exact ⟨_, _, w1, ⟨M1, hst1, l1, rfl, hq⟩, .pass (x := .inLoop b) rfl (fun _ _ => .inl (by simp)) harr⟩
      | ret => exact ⟨_, _, w1, ⟨M1, hst1, l1, rfl, hq⟩, .pass (x := .inLoop b) rfl (fun _ _ => .inl (by simp)) harr⟩
      | panic ch => exact ⟨_, _, w1, ⟨M1, hst1, l1, rfl, hq⟩, .pass (x := .inLoop b) rfl (fun _ _ => .inl (by simp)) harr⟩
      | outgrown => exact ⟨_, _, w1, ⟨M1, hst1, l1, rfl, hq⟩, .pass (x := .inLoop b) rfl (fun _ _ => .inl (by simp)) harr⟩
  obtain ⟨e, a', w', hq, harr⟩ := key _ l M w rfl h0 hw
  exact ⟨e, a', w', hq, .of_steps (.one step_loop) harr⟩

theorem sp_loopg (hc : isLoop c = true) (I : Nat → List Value → Mem → Prop) (n0 : Nat) (h0 : I n0 l M)
    (round : ∀ n l M, I n l M → Sp P X w0 (bodyC c) (thenQ (fun l' M' => ∃ M2 n', M2.Sublist M' ∧ I n' l' M2 ∧ n' < n) Q) l M) : Sp P X w0 c Q l M := by
  cases c <;> simp only [isLoop, Bool.false_eq_true] at hc
  rename_i b
  refine ⟨fun w hw => ?_⟩
  intro fb k cs
  have key : ∀ n l M w, I n l M → St X w0 w M → ∃ e a' w', (∃ M', St X w0 w' M' ∧ ∃ l', a' = env l' ∧ Q e l' M') ∧ Arrives P (lone (fb.at (env l) (.code b :: .inLoop b :: k)) cs w) fb k cs e a' w' := by
    intro n
    induction n using Nat.strongRecOn with
    | _ n ih =>
      intro l M w hI hst
      obtain ⟨e, a1, w1, ⟨M1, hst1, l1, rfl, hq⟩, harr⟩ := (round n l M hI).out w hst fb (.inLoop b :: k) cs
      cases e with
      | normal =>
        obtain ⟨M2, n', hsub, hI2, hlt⟩ := hq
        obtain ⟨e2, a2, w2, hq2, harr2⟩ := ih n' hlt l1 M2 w1 hI2 (hst1.less hsub)
        exact ⟨e2, a2, w2, hq2, .of_steps (Steps.trans harr (.one step_inLoop)) harr2⟩
      | exit id => exact ⟨_, _, w1, ⟨M1, hst1, l1, rfl, hq⟩, .pass (x := .inLoop b) rfl (fun _ _ => .inl (by simp)) harr⟩
      | goto g => exact ⟨_, _, w1, ⟨M1, hst1, l1, rfl, hq⟩, .pass (x := .inLoop b) rfl (fun _ _ => .inl (by simp)) harr⟩
      | ret => exact ⟨_, _, w1, ⟨M1, hst1, l1, rfl, hq⟩, .pass (x := .inLoop b) rfl (fun _ _ => .inl (by simp)) harr⟩
      | panic ch => exact ⟨_, _, w1, ⟨M1, hst1, l1, rfl, hq⟩, .pass (x := .inLoop b) rfl (fun _ _ => .inl (by simp)) harr⟩
      | outgrown => exact ⟨_, _, w1, ⟨M1, hst1, l1, rfl, hq⟩, .pass (x := .inLoop b) rfl (fun _ _ => .inl (by simp)) harr⟩
  obtain ⟨e, a', w', hq, harr⟩ := key _ l M w h0 hw
  exact ⟨e, a', w', hq, .of_steps (.one step_loop) harr⟩

/-- A loop that goes round n times at most, round by round. -/
def Un (P : Program) (X : Nat → Prop) (w0 : World) (b : Code) (Q : Exit → List Value → Mem → Prop) : Nat → List Value → Mem → Prop
  | 0, _, _ => False
  | n + 1, l, M => Sp P X w0 b (thenQ (Un P X w0 b Q n) Q) l M
theorem un_step {n : Nat} {b : Code} (h : Sp P X w0 b (thenQ (Un P X w0 b Q n) Q) l M) : Un P X w0 b Q (n + 1) l M := h
theorem sp_unroll (n : Nat) (hc : isLoop c = true) (h : Un P X w0 (bodyC c) Q n l M) : Sp P X w0 c Q l M := by
  cases c <;> simp only [isLoop, Bool.false_eq_true] at hc
  rename_i b
  refine ⟨fun w hw => ?_⟩
  intro fb k cs
  have key : ∀ n l M w, Un P X w0 b Q n l M → St X w0 w M → ∃ e a' w', (∃ M', St X w0 w' M' ∧ ∃ l', a' = env l' ∧ Q e l' M') ∧ Arrives P (lone (fb.at (env l) (.code b :: .inLoop b :: k)) cs w) fb k cs e a' w' := by
    intro n
    induction n with
    | zero => exact fun _ _ _ h => h.elim
    | succ n ih =>
      intro l M w h hst
      obtain ⟨e, a1, w1, ⟨M1, hst1, l1, rfl, hq⟩, harr⟩ := h.out w hst fb (.inLoop b :: k) cs
      cases e with
      | normal =>
        obtain ⟨e2, a2, w2, hq2, harr2⟩ := ih l1 M1 w1 hq hst1
        exact ⟨e2, a2, w2, hq2, .of_steps (Steps.trans harr (.one step_inLoop)) harr2⟩
      | exit id => exact ⟨_, _, w1, ⟨M1, hst1, l1, rfl, hq⟩, .pass (x := .inLoop b) rfl (fun _ _ => .inl (by simp)) harr⟩
      | goto g => exact ⟨_, _, w1, ⟨M1, hst1, l1, rfl, hq⟩, .pass (x := .inLoop b) rfl (fun _ _ => .inl (by simp)) harr⟩
      | ret => exact ⟨_, _, w1, ⟨M1, hst1, l1, rfl, hq⟩, .pass (x := .inLoop b) rfl (fun _ _ => .inl (by simp)) harr⟩
      | panic ch => exact ⟨_, _, w1, ⟨M1, hst1, l1, rfl, hq⟩, .pass (x := .inLoop b) rfl (fun _ _ => .inl (by simp)) harr⟩
      | outgrown => exact ⟨_, _, w1, ⟨M1, hst1, l1, rfl, hq⟩, .pass (x := .inLoop b) rfl (fun _ _ => .inl (by simp)) harr⟩
  obtain ⟨e, a', w', hq, harr⟩ := key n l M w h hw
  exact ⟨e, a', w', hq, .of_steps (.one step_loop) harr⟩

theorem swp_unperm {a : Act} (h : swp P X w0 c (fun e => WQ (Q e)) a M) : swp P X w0 c (fun e a M => ∃ l', a = env l' ∧ Q e l' M) a M :=
  fun w hw => Code.wp_mono (fun _ _ _ ⟨_, hst, M1, hp, h2⟩ => ⟨M1, hst.perm hp.symm, h2⟩) (h w hw)
/-- Regions. -/
theorem sp_region {π : List Nat} (ov : List (Nat × Kd)) (hc : isReg false c = true) (hπ : List.range (opsC c).length = π) (h : Wk P X w0 (opsC c) (kdOf ov (opsC c)) (Q .normal) π l M) : Sp P X w0 c Q l M := by
  cases c <;> simp only [isReg, Bool.false_eq_true] at hc
  rename_i id ops d
  obtain rfl : d = false := by simpa using hc.symm
  refine ⟨?_⟩
  have h1 := h.out
  rw [← hπ] at h1
  simp only [opsC, Array.toArray_toList, Array.length_toList] at h1
  exact swp_unperm (swp_region (Q := fun e => WQ (Q e)) (kd := kdOf ov (opsC (.region id ops false))) h1)
theorem sp_draw (π : List Nat) (ov : List (Nat × Kd)) (hm : P.follows .mixedOrders = true) (hc : isReg true c = true) (hs : Region.noSelect (opsC c).toArray = true)
    (hok : okOrder (opsC c).toArray (kdOf ov (opsC c)) π (Array.replicate (opsC c).toArray.size false) = true) (h : Wk P X w0 (opsC c) (kdOf ov (opsC c)) (Q .normal) π l M) : Sp P X w0 c Q l M := by
  cases c <;> simp only [isReg, Bool.false_eq_true] at hc
  rename_i id ops d
  obtain rfl : d = true := by simpa using hc.symm
  refine ⟨?_⟩
  have h1 := h.out
  simp only [opsC, Array.toArray_toList] at h1 hs hok
  exact swp_unperm (swp_draw (Q := fun e => WQ (Q e)) (kd := kdOf ov (opsC (.region id ops true))) π hm hs hok h1)

/-! ### Operations -/
variable {R : List Oper} {kd : Nat → Kd} {N : List Value → Mem → Prop} {π : List Nat} {i : Nat} {dst : Option Tmp} {op : Op} {ty : TypeId} {pos : String} {aft : Array Edge}

theorem wk_nil (h : N l M) : Wk P X w0 R kd N [] l M := ⟨⟨M, List.Perm.refl _, l, rfl, h⟩⟩
theorem wk_perm {M' : Mem} (hp : M'.Perm M) (h : Wk P X w0 R kd N π l M') : Wk P X w0 R kd N π l M := by
  refine ⟨?_⟩
  have key : ∀ (π : List Nat), Permed (walk P X w0 R.toArray kd (WQ N) π) := by
    intro π
    induction π with
    | nil => exact WQ.permed N
    | cons i π ih => exact fun a M M' hp ⟨o, ho, ht⟩ => ⟨o, ho, T_perm ih _ _ _ _ _ hp ht⟩
  exact key π _ _ _ hp h.out

theorem nthO_arr {o : Oper} (ho : nthO R i = some o) : R.toArray[i]? = some o := by rw [nthO_eq] at ho; simpa using ho
/-- Does the operation come up? -/
def gok (R : List Oper) (gd : Option (Nat × Bool)) (l : List Value) : Bool :=
  match gd with
  | none => true
  | some (g, b) => match nthO R g with
    | some o => match o.dst with
      | some d => match nthO l d with | some (.bool b') => b' == b | _ => false
      | none => false
    | none => false
/-- Does it surely not? -/
def gno (R : List Oper) (gd : Option (Nat × Bool)) (l : List Value) : Bool :=
  match gd with
  | none => false
  | some (g, b) => match nthO R g with
    | some o => match o.dst with
      | some d => match nthO l d with | some (.bool b') => b' != b | _ => false
      | none => false
    | none => false
theorem yielded_of {g : Nat} {o : Oper} {d : Tmp} {b : Bool} (h1 : nthO R g = some o) (h2 : o.dst = some d) (h3 : nthO l d = some (.bool b)) : yielded R.toArray (env l).tmps g = some b := by
  unfold yielded
  rw [nthO_arr h1]
  rw [nthO_eq] at h3
  simp only [Option.bind_some, h2, env]
  simp [h3]
variable {gd : Option (Nat × Bool)}
theorem gok_wanted (h : gok R gd l = true) : Region.wanted ⟨dst, op, ty, pos, aft, gd⟩ (yielded R.toArray (env l).tmps) = true := by
  cases gd with
  | none => rfl
  | some gb =>
    obtain ⟨g, b⟩ := gb
    simp only [gok] at h
    split at h <;> try cases h
    rename_i o ho
    split at h <;> try cases h
    rename_i d hd
    split at h <;> try cases h
    rename_i b' hb
    have hy := yielded_of ho hd hb
    have : b' = b := by simpa using h
    subst this
    simp [Region.wanted, hy]
theorem gno_wanted (h : gno R gd l = true) : Region.wanted ⟨dst, op, ty, pos, aft, gd⟩ (yielded R.toArray (env l).tmps) = false := by
  cases gd with
  | none => cases h
  | some gb =>
    obtain ⟨g, b⟩ := gb
    simp only [gno] at h
    split at h <;> try cases h
    rename_i o ho
    split at h <;> try cases h
    rename_i d hd
    split at h <;> try cases h
    rename_i b' hb
    have hy := yielded_of ho hd hb
    simp only [Region.wanted, hy]
    cases b <;> cases b' <;> simp_all

/-- It does not come up. -/
theorem wk_skip (ho : nthO R i = some ⟨dst, op, ty, pos, aft, gd⟩) (hg : gno R gd l = true) (hk : kd i ≠ .A) (h : Wk P X w0 R kd N π (putL l dst undef) M) : Wk P X w0 R kd N (i :: π) l M := by
  refine ⟨⟨_, nthO_arr ho, ?_⟩⟩
  have h2 : walk P X w0 R.toArray kd (WQ N) π ((env l).put dst undef) M := by rw [put_env]; exact h.out
  have hw := gno_wanted (dst := dst) (op := op) (ty := ty) (pos := pos) (aft := aft) hg
  cases hkk : kd i
  · exact ⟨undef, .inr ⟨hw, rfl⟩, h2⟩
  · exact ⟨undef, .inr ⟨hw, rfl⟩, h2⟩
  · exact ⟨fun v δ => v = undef ∧ δ = [], ⟨_, _, rfl, rfl⟩, .inr ⟨hw, rfl, rfl⟩, fun v δ ⟨e1, e2⟩ => by subst e1 e2; rw [List.append_nil]; exact h2⟩
  · exact absurd hkk hk
  · exact .inr ⟨hw, h2⟩
  · exact ⟨fun v M1 => v = undef ∧ M1 = M, ⟨_, _, rfl, rfl⟩, .inr ⟨hw, rfl, rfl⟩, fun v M1 ⟨e1, e2⟩ => by subst e1 e2; exact h2⟩
  · exact ⟨undef, .inr ⟨hw, rfl⟩, h2⟩

/-- A value, in whatever world. -/
theorem wk_val (v : Value) (ho : nthO R i = some ⟨dst, op, ty, pos, aft, gd⟩) (hg : gok R gd l = true) (hk : kd i = .P) (hv : ∀ w, (execOp (ev l) ⟨dst, op, ty, pos, aft, gd⟩).run P w = .ok (.value v) w)
    (h : Wk P X w0 R kd N π (putL l dst v) M) : Wk P X w0 R kd N (i :: π) l M := by
  refine ⟨⟨_, nthO_arr ho, ?_⟩⟩
  rw [hk]
  refine ⟨v, .inl ⟨gok_wanted hg, fun w => by rw [eval_env]; exact hv w⟩, ?_⟩
  rw [put_env]; exact h.out
theorem wk_move {x : Operand} (v : Value) (ho : nthO R i = some ⟨dst, .move x, ty, pos, aft, gd⟩) (hg : gok R gd l = true) (hk : kd i = .P) (hv : ev l x = v) (h : Wk P X w0 R kd N π (putL l dst v) M) : Wk P X w0 R kd N (i :: π) l M :=
  wk_val _ ho hg hk (fun _ => by rw [← hv]; rfl) h
theorem wk_assign {x : Operand} (v : Value) (ho : nthO R i = some ⟨dst, .assign x, ty, pos, aft, gd⟩) (hg : gok R gd l = true) (hk : kd i = .P) (hv : ev l x = v) (h : Wk P X w0 R kd N π (putL l dst v) M) : Wk P X w0 R kd N (i :: π) l M :=
  wk_val _ ho hg hk (fun _ => by rw [← hv]; rfl) h
theorem wk_ext {x : Operand} {n : Nat} {vs : Array Value} (v : Value) (ho : nthO R i = some ⟨dst, .extract x n, ty, pos, aft, gd⟩) (hg : gok R gd l = true) (hk : kd i = .P) (hx : ev l x = .tuple vs) (hv : nthO vs.toList n = some v)
    (h : Wk P X w0 R kd N π (putL l dst v) M) : Wk P X w0 R kd N (i :: π) l M :=
  wk_val _ ho hg hk (fun w => by rw [nthO_eq] at hv; simp at hv; simp [execOp, hx, Instr.extract, hv]) h
theorem wk_not {x : Operand} (b : Bool) {xt : TypeId} (ho : nthO R i = some ⟨dst, .unOp .not xt x, ty, pos, aft, gd⟩) (hg : gok R gd l = true) (hk : kd i = .P) (hx : ev l x = .bool b)
    (h : Wk P X w0 R kd N π (putL l dst (.bool (!b))) M) : Wk P X w0 R kd N (i :: π) l M :=
  wk_val _ ho hg hk (fun w => by simp [execOp, hx, Op.unary]) h
theorem wk_pick {x y z : Operand} (b : Bool) (v : Value) (ho : nthO R i = some ⟨dst, .pick x y z, ty, pos, aft, gd⟩) (hg : gok R gd l = true) (hk : kd i = .P) (hx : ev l x = .bool b) (hv : (bif b then ev l y else ev l z) = v)
    (h : Wk P X w0 R kd N π (putL l dst v) M) : Wk P X w0 R kd N (i :: π) l M :=
  wk_val _ ho hg hk (fun w => by subst hv; cases b <;> simp [execOp, hx, asBool]) h

/-- What two whole numbers yield; none: a panic. -/
def iop (op : BinOp) (k : IntKind) (p q : Int) : Option Value :=
  match op with
  | .add => some (.int k (k.wrap (p + q)))
  | .sub => some (.int k (k.wrap (p - q)))
  | .mul => some (.int k (k.wrap (p * q)))
  | .quo => if q = 0 then none else some (.int k (k.wrap (p.tdiv q)))
  | .rem => if q = 0 then none else some (.int k (p.tmod q))
  | .and => some (.int k (k.wrap (BitVec.ofInt k.bits p &&& BitVec.ofInt k.bits q).toNat))
  | .or => some (.int k (k.wrap (BitVec.ofInt k.bits p ||| BitVec.ofInt k.bits q).toNat))
  | .xor => some (.int k (k.wrap (BitVec.ofInt k.bits p ^^^ BitVec.ofInt k.bits q).toNat))
  | .andNot => some (.int k (k.wrap (BitVec.ofInt k.bits p &&& ~~~(BitVec.ofInt k.bits q)).toNat))
  | .shl => if q < 0 then none else some (.int k (k.wrap (p * 2 ^ (min q.toNat k.bits))))
  | .shr => if q < 0 then none else some (.int k (p.fdiv (2 ^ (min q.toNat k.bits))))
  | .eql => some (.bool (p == q))
  | .neq => some (.bool (p != q))
  | .lss => some (.bool (decide (p < q)))
  | .leq => some (.bool (decide (p ≤ q)))
  | .gtr => some (.bool (decide (p > q)))
  | .geq => some (.bool (decide (p ≥ q)))
def isShift : BinOp → Bool | .shl | .shr => true | _ => false

theorem wk_iop {x y : Operand} {op : BinOp} {xt yt : TypeId} {k k' : IntKind} {p q : Int} (v : Value) (ho : nthO R i = some ⟨dst, .binOp op xt x y yt, ty, pos, aft, gd⟩) (hg : gok R gd l = true) (hk : kd i = .P)
    (hx : ev l x = .int k p) (hy : ev l y = .int k' q) (hs : (isShift op || decide (k = k')) = true) (hv : iop op k p q = some v)
    (h : Wk P X w0 R kd N π (putL l dst v) M) : Wk P X w0 R kd N (i :: π) l M :=
  wk_val v ho hg hk (fun w => by
    cases op <;> simp only [isShift, Bool.false_or, decide_eq_true_eq] at hs <;> (try subst hs) <;> simp only [iop, Option.some.injEq] at hv
    case quo => split at hv; cases hv; rename_i h0; obtain rfl := Option.some.inj hv; simp [execOp, hx, hy, eqGuard, binOp, Op.intDiv, h0]
    case rem => split at hv; cases hv; rename_i h0; obtain rfl := Option.some.inj hv; simp [execOp, hx, hy, eqGuard, binOp, Op.intDiv, h0]
    case shl => split at hv; cases hv; rename_i h0; obtain rfl := Option.some.inj hv; simp [execOp, hx, hy, eqGuard, binOp, Op.shift, h0]
    case shr => split at hv; cases hv; rename_i h0; obtain rfl := Option.some.inj hv; simp [execOp, hx, hy, eqGuard, binOp, Op.shift, h0]
    all_goals subst hv; simp [execOp, hx, hy, eqGuard, binOp, Op.intArith, Op.intBits, Op.intCmp]) h

section iops
variable {k : IntKind} {p q : Int}
theorem iop_lss_t (h : p < q) : iop .lss k p q = some (.bool true) := by simp [iop, h]
theorem iop_lss_f (h : ¬ p < q) : iop .lss k p q = some (.bool false) := by simp [iop]; omega
theorem iop_leq_t (h : p ≤ q) : iop .leq k p q = some (.bool true) := by simp [iop, h]
theorem iop_leq_f (h : ¬ p ≤ q) : iop .leq k p q = some (.bool false) := by simp [iop]; omega
theorem iop_gtr_t (h : q < p) : iop .gtr k p q = some (.bool true) := by simp [iop, h]
theorem iop_gtr_f (h : ¬ q < p) : iop .gtr k p q = some (.bool false) := by simp [iop]; omega
theorem iop_geq_t (h : q ≤ p) : iop .geq k p q = some (.bool true) := by simp [iop, h]
theorem iop_geq_f (h : ¬ q ≤ p) : iop .geq k p q = some (.bool false) := by simp [iop]; omega
theorem iop_eql_t (h : p = q) : iop .eql k p q = some (.bool true) := by simp [iop, h]
theorem iop_eql_f (h : ¬ p = q) : iop .eql k p q = some (.bool false) := by simp [iop, h]
theorem iop_neq_t (h : ¬ p = q) : iop .neq k p q = some (.bool true) := by simp [iop, h]
theorem iop_neq_f (h : p = q) : iop .neq k p q = some (.bool false) := by simp [iop, h]
theorem wrap_i64 {n : Int} (h1 : -9223372036854775808 ≤ n) (h2 : n ≤ 9223372036854775807) : IntKind.i64.wrap n = n := by
  rw [IntKind.wrap_i64]; omega
theorem wrap_u64 {n : Int} (h1 : 0 ≤ n) (h2 : n < 18446744073709551616) : IntKind.u64.wrap n = n := by
  rw [IntKind.wrap_u64]; omega
theorem iop_add (h1 : -9223372036854775808 ≤ p + q) (h2 : p + q ≤ 9223372036854775807) : iop .add .i64 p q = some (.int .i64 (p + q)) := by
  simp only [iop]; rw [wrap_i64 h1 h2]
theorem iop_sub (h1 : -9223372036854775808 ≤ p - q) (h2 : p - q ≤ 9223372036854775807) : iop .sub .i64 p q = some (.int .i64 (p - q)) := by
  simp only [iop]; rw [wrap_i64 h1 h2]
theorem iop_mul (h1 : -9223372036854775808 ≤ p * q) (h2 : p * q ≤ 9223372036854775807) : iop .mul .i64 p q = some (.int .i64 (p * q)) := by
  simp only [iop]; rw [wrap_i64 h1 h2]
theorem iop_addu (h1 : 0 ≤ p + q) (h2 : p + q < 18446744073709551616) : iop .add .u64 p q = some (.int .u64 (p + q)) := by
  simp only [iop]; rw [wrap_u64 h1 h2]
theorem iop_to {op : BinOp} {k : IntKind} {p q r : Int} {v : Value} (h : iop op k p q = some v) (e : v = .int k r) : iop op k p q = some (.int k r) := by rw [h, e]
end iops

/-- A new block. -/
theorem wk_make {z : Obj} {mk : Nat → Value} (ho : nthO R i = some ⟨dst, op, ty, pos, aft, none⟩) (hk : kd i = .A) (hv : ∀ w : World, (execOp (ev l) ⟨dst, op, ty, pos, aft, none⟩).run P w = .ok (.value (mk w.heap.size)) (w.alloc z))
    (h : ∀ β, Wk P X w0 R kd N π (putL l dst (mk β)) (M ++ [(β, z)])) : Wk P X w0 R kd N (i :: π) l M := by
  refine ⟨⟨_, nthO_arr ho, ?_⟩⟩
  rw [hk]
  refine ⟨z, mk, ⟨rfl, fun w => by rw [eval_env]; exact hv w⟩, fun β => ?_⟩
  rw [put_env]; exact (h β).out
theorem wk_alloc {t : TypeId} {z : Value} (ho : nthO R i = some ⟨dst, .alloc t, ty, pos, aft, none⟩) (hk : kd i = .A) (hz : (P.info? t).bind (·.zero) = some z)
    (h : ∀ β, Wk P X w0 R kd N π (putL l dst (.pointer (some ⟨β, 0, none⟩))) (M ++ [(β, .cells z.cells t (0, 0))])) : Wk P X w0 R kd N (i :: π) l M := by
  refine wk_make (mk := fun β => .pointer (some ⟨β, 0, none⟩)) ho hk (fun w => ?_) h
  cases hq : P.info? t with
  | none => simp [hq] at hz
  | some d =>
    have hz' : d.zero = some z := by simpa [hq] using hz
    simp [execOp, Instr.alloc, zeroValue, typeInfo, hq, hz', newVar, newRow, Value.cells]
theorem wk_box {t : TypeId} {x : Operand} (v : Value) (ho : nthO R i = some ⟨dst, .box t x, ty, pos, aft, none⟩) (hk : kd i = .A) (hv : ev l x = v)
    (h : ∀ β, Wk P X w0 R kd N π (putL l dst (.pointer (some ⟨β, 0, none⟩))) (M ++ [(β, .cells v.cells t (0, 0))])) : Wk P X w0 R kd N (i :: π) l M :=
  wk_make (mk := fun β => .pointer (some ⟨β, 0, none⟩)) ho hk (fun w => by simp [execOp, hv, Instr.box, newVar, newRow]) h

/-- A new block, at the head of what is known. -/
theorem wkf_make {z : Obj} {mk : Nat → Value} (ho : nthO R i = some ⟨dst, op, ty, pos, aft, none⟩) (hk : kd i = .A) (hv : ∀ w : World, (execOp (ev l) ⟨dst, op, ty, pos, aft, none⟩).run P w = .ok (.value (mk w.heap.size)) (w.alloc z))
    (h : ∀ β, Wk P X w0 R kd N π (putL l dst (mk β)) ((β, z) :: M)) : Wk P X w0 R kd N (i :: π) l M :=
  wk_make ho hk hv (fun β => wk_perm (List.perm_append_comm (l₁ := [(β, z)])) (h β))
theorem wkf_alloc {t : TypeId} {z : Value} (ho : nthO R i = some ⟨dst, .alloc t, ty, pos, aft, none⟩) (hk : kd i = .A) (hz : (P.info? t).bind (·.zero) = some z)
    (h : ∀ β, Wk P X w0 R kd N π (putL l dst (.pointer (some ⟨β, 0, none⟩))) ((β, .cells z.cells t (0, 0)) :: M)) : Wk P X w0 R kd N (i :: π) l M :=
  wk_alloc ho hk hz (fun β => wk_perm (List.perm_append_comm (l₁ := [(β, _)])) (h β))
theorem wkf_box {t : TypeId} {x : Operand} (v : Value) (ho : nthO R i = some ⟨dst, .box t x, ty, pos, aft, none⟩) (hk : kd i = .A) (hv : ev l x = v)
    (h : ∀ β, Wk P X w0 R kd N π (putL l dst (.pointer (some ⟨β, 0, none⟩))) ((β, .cells v.cells t (0, 0)) :: M)) : Wk P X w0 R kd N (i :: π) l M :=
  wk_box v ho hk hv (fun β => wk_perm (List.perm_append_comm (l₁ := [(β, _)])) (h β))

/-- A value that hangs on memory. -/
theorem wk_look (v : Value) (ho : nthO R i = some ⟨dst, op, ty, pos, aft, gd⟩) (hg : gok R gd l = true) (hk : kd i = .L)
    (hv : ∀ w, (∀ p ∈ M, w.heap[p.1]? = some p.2) → (execOp (ev l) ⟨dst, op, ty, pos, aft, gd⟩).run P w = .ok (.value v) w)
    (h : Wk P X w0 R kd N π (putL l dst v) M) : Wk P X w0 R kd N (i :: π) l M := by
  refine ⟨⟨_, nthO_arr ho, ?_⟩⟩
  rw [hk]
  refine ⟨v, .inl ⟨gok_wanted hg, fun M' w hm hw => by rw [eval_env]; exact hv w (fun p hp => hw.own p (hm p hp))⟩, ?_⟩
  rw [put_env]; exact h.out
/-- A whole variable (a struct, an array) is read. -/
theorem wk_load {t t' : TypeId} {x : Operand} {β : Nat} {cs : Array Value} {fz : Nat × Nat} {d : TypeDesc} (j : Nat) (ho : nthO R i = some ⟨dst, .load t x, ty, pos, aft, gd⟩) (hg : gok R gd l = true) (hk : kd i = .L)
    (hx : ev l x = .pointer (some ⟨β, 0, none⟩)) (hj : nthO M j = some (β, .cells cs t' fz)) (hu : P.underlying t = some d) (hd : d.isRow = true) (hn : (P.info? t).map (·.size) = some cs.size)
    (h : Wk P X w0 R kd N π (putL l dst (.agg cs)) M) : Wk P X w0 R kd N (i :: π) l M :=
  wk_look _ ho hg hk (fun w hw => by
    have hm : (β, Obj.cells cs t' fz) ∈ M := by rw [nthO_eq] at hj; exact List.mem_of_getElem? hj
    simp only [execOp, hx, Instr.loadAt, Instr.sureAddr, Sem.run_bind, Sem.run_pure, Result.andThen_ok, run_loadVar_row w β t' t cs fz d (hw _ hm) hu (by cases d <;> first | rfl | exact hd) hn]) h
/-- One cell is read. -/
theorem wk_cell {t t' : TypeId} {x : Operand} {β o : Nat} {cs : Array Value} {fz : Nat × Nat} {d : TypeDesc} {v : Value} (j : Nat) (ho : nthO R i = some ⟨dst, .load t x, ty, pos, aft, gd⟩) (hg : gok R gd l = true) (hk : kd i = .L)
    (hx : ev l x = .pointer (some ⟨β, o, none⟩)) (hj : nthO M j = some (β, .cells cs t' fz)) (hu : P.underlying t = some d) (hd : d.isRow = false) (hv : cs[o]? = some v)
    (h : Wk P X w0 R kd N π (putL l dst v) M) : Wk P X w0 R kd N (i :: π) l M :=
  wk_look _ ho hg hk (fun w hw => by
    have hm : (β, Obj.cells cs t' fz) ∈ M := by rw [nthO_eq] at hj; exact List.mem_of_getElem? hj
    have hagg : (isAgg t).run P w = .ok false w := by
      unfold isAgg
      rw [Sem.run_bind, run_underlying hu w]
      cases d <;> simp_all
    have hc : w.cell? ⟨β, o, none⟩ = some v := by rw [cell_of_row w β o cs t' fz (hw _ hm)]; exact hv
    simp [execOp, hx, Instr.loadAt, Instr.sureAddr, loadVar, hagg, hc]) h

/-- A block is turned. -/
theorem wk_turn {β : Nat} {o' : Obj} (j : Nat) {ob : Obj} (ho : nthO R i = some ⟨dst, op, ty, pos, aft, gd⟩) (hg : gok R gd l = true) (hk : kd i = .W) (hj : nthO M j = some (β, ob))
    (hv : ∀ w, w.heap[β]? = some ob → ∃ w', (execOp (ev l) ⟨dst, op, ty, pos, aft, gd⟩).run P w = .ok .skip w' ∧ w'.os = w.os ∧ w'.tape = w.tape ∧ w'.output = w.output ∧ w'.heap.size = w.heap.size ∧ (∀ k, k ≠ β → w'.heap[k]? = w.heap[k]?) ∧ w'.heap[β]? = some o')
    (h : Wk P X w0 R kd N π (putL l dst undef) (M.set j (β, o'))) : Wk P X w0 R kd N (i :: π) l M := by
  refine ⟨⟨_, nthO_arr ho, ?_⟩⟩
  rw [hk]
  refine .inl ⟨gok_wanted hg, fun w hw => ?_⟩
  rw [nthO_eq] at hj
  rw [eval_env]
  obtain ⟨w', e, h1, h2, h3, h4, h5, h6⟩ := hv w (hw.own _ (List.mem_of_getElem? hj))
  rw [e]
  exact ⟨_, hw.turn hj h1 h2 h3 h4 h5 h6, by rw [put_env]; exact h.out⟩
theorem setRow_facts {w : World} {β : Nat} {old : Array Value} {t : TypeId} {fz : Nat × Nat} (cs : Array Value) (hg : w.heap[β]? = some (.cells old t fz)) :
    (w.setRow β cs).os = w.os ∧ (w.setRow β cs).tape = w.tape ∧ (w.setRow β cs).output = w.output ∧ (w.setRow β cs).heap.size = w.heap.size ∧ (∀ k, k ≠ β → (w.setRow β cs).heap[k]? = w.heap[k]?) ∧ (w.setRow β cs).heap[β]? = some (.cells cs t fz) :=
  ⟨rfl, rfl, rfl, by simp [World.setRow], fun k hk => setRow_other w β k cs hk, setRow_heap w β old cs t fz hg⟩
/-- A whole variable is written. -/
theorem wk_store {t t' : TypeId} {x y : Operand} {β : Nat} {old cells : Array Value} (j : Nat) (ho : nthO R i = some ⟨dst, .store t x y, ty, pos, aft, gd⟩) (hg : gok R gd l = true) (hk : kd i = .W)
    (hx : ev l x = .pointer (some ⟨β, 0, none⟩)) (hy : ev l y = .agg cells) (hj : nthO M j = some (β, .cells old t' (0, 0))) (hn : (P.info? t).map (·.size) = some cells.size) (hs : old.size = cells.size) (h1 : cells.all (·.oneCell') = true)
    (h : Wk P X w0 R kd N π (putL l dst undef) (M.set j (β, .cells cells t' (0, 0)))) : Wk P X w0 R kd N (i :: π) l M :=
  wk_turn j ho hg hk hj (fun w hw => ⟨w.setRow β cells, by
    simp [execOp, hx, hy, Instr.storeAt, Instr.sureAddr, run_storeVar_row w β t' t old cells hw hn hs h1], setRow_facts cells hw⟩) h

/-- The place of an array's element. -/
theorem wk_idx {t e : TypeId} {x y : Operand} {β o n : Nat} {k : IntKind} {p : Int} (j q : Nat) (ho : nthO R i = some ⟨dst, .indexAddr t x y, ty, pos, aft, gd⟩) (hg : gok R gd l = true) (hk : kd i = .P)
    (hx : ev l x = .pointer (some ⟨β, o, none⟩)) (hy : ev l y = .int k p) (ht : P.underlying t = some (.array n e)) (hs : (P.info? e).map (·.size) = some q) (hp : p = (j : Int)) (hj : j < n)
    (h : Wk P X w0 R kd N π (putL l dst (.pointer (some ⟨β, o + j * q, none⟩))) M) : Wk P X w0 R kd N (i :: π) l M :=
  wk_val _ ho hg hk (fun w => by
    subst hp
    cases hq : P.info? e with
    | none => simp [hq] at hs
    | some d =>
      have hd : d.size = q := by simpa [hq] using hs
      have e1 : (⟨β, o, none⟩ : Addr).add (j * q) = ⟨β, o + j * q, none⟩ := Addr.add_mid β o _
      simp [execOp, hx, hy, Instr.indexAt, asIntOf, Sem.run_bind, run_underlying ht, Instr.sureAddr, sizeOf, typeInfo, hq, hd, hj, e1]) h

/-- Which function a call enters. -/
def Enters (P : Program) (f : FuncId) : Prop := ∀ (args : Array Value) (w : World), (callFunc f args).run P w = .ok (.enter f args) w

def mapV (l : List Value) : List Operand → List Value
  | [] => []
  | x :: xs => ev l x :: mapV l xs
theorem mapV_eq (l : List Value) : ∀ xs : List Operand, mapV l xs = xs.map (ev l)
  | [] => rfl
  | x :: xs => by rw [mapV, mapV_eq l xs]; rfl
theorem run_enter {f : FuncId} {xs : Array Operand} {ts : Array TypeId} {vs : List Value} (hE : Enters P f) (hx : mapV l xs.toList = vs) (w : World) :
    (execOp (ev l) ⟨dst, .call ⟨.value (.func f), xs, ts⟩, ty, pos, aft, gd⟩).run P w = .ok (.enter f vs.toArray) w := by
  have hxs : xs.map (ev l) = vs.toArray := by rw [← hx, mapV_eq, ← Array.toList_map, Array.toArray_toList]
  simp only [execOp, resolve, hxs, ev, Deferred.ofValue, invoke, pure_bind, Array.empty_append, Array.append_empty]
  exact hE _ w
/-- A call that turns nothing, and makes nothing that is known. -/
theorem wk_call {f : FuncId} {xs : Array Operand} {ts : Array TypeId} (vs : List Value) (v : Value) (ho : nthO R i = some ⟨dst, .call ⟨.value (.func f), xs, ts⟩, ty, pos, aft, gd⟩) (hg : gok R gd l = true) (hk : kd i = .G) (hE : Enters P f)
    (hx : mapV l xs.toList = vs) (hc : ∀ w, Calls P f vs.toArray w fun e w' => e = .returned v ∧ Below w.heap.size w w')
    (h : Wk P X w0 R kd N π (putL l dst v) M) : Wk P X w0 R kd N (i :: π) l M := by
  refine ⟨⟨_, nthO_arr ho, ?_⟩⟩
  rw [hk]
  refine ⟨fun u δ => u = v ∧ δ = [], ⟨_, _, rfl, rfl⟩, .inl ⟨gok_wanted hg, fun M' w hm hw => ?_⟩, fun u δ ⟨e1, e2⟩ => ?_⟩
  · rw [eval_env, run_enter hE hx]
    exact (hc w).mono fun e w' ⟨e1, hB⟩ => ⟨v, [], e1, ⟨rfl, rfl⟩, by rw [List.append_nil]; exact hw.kept hB⟩
  · subst e1 e2
    rw [put_env, List.append_nil]; exact h.out
theorem conv {f : FuncId} {args : Array Value} {v v' : Value} (h : v = v') (hc : ∀ w, Calls P f args w fun e w' => e = .returned v ∧ Below w.heap.size w w') : ∀ w, Calls P f args w fun e w' => e = .returned v' ∧ Below w.heap.size w w' := h ▸ hc

/-- What a function hands back. -/
structure RetS (P : Program) (w0 : World) (X : Nat → Prop) (fn : Func) (R : Ending → World → Prop) (l : List Value) (M : Mem) : Prop where
  out : ∃ v, (∀ w', St X w0 w' M → (results fn l.toArray).run P w' = .ok v w') ∧ ∀ w', St X w0 w' M → R (.returned v) w'
def RetQ (P : Program) (w0 : World) (X : Nat → Prop) (fn : Func) (R : Ending → World → Prop) : Exit → List Value → Mem → Prop
  | .normal, l, M | .ret, l, M => RetS P w0 X fn R l M
  | _, _, _ => False
def bodyF (fn : Func) : Code := match fn.body with | some c => c | none => .skip
theorem fn_calls {f : FuncId} {fn : Func} {args : Array Value} {w : World} {Rr : Ending → World → Prop} {l0 : List Value} (hf : P.funcs[f]? = some fn) (hb0 : fn.body.isSome = true)
    (hl : args.toList ++ List.replicate (fn.ntmps - args.size) undef = l0) (M : Mem) (hM : St X w w M) (h : Sp P X w (bodyF fn) (RetQ P w X fn Rr) l0 M) : Calls P f args w Rr := by
  have hb : fn.body = some (bodyF fn) := by unfold bodyF; cases h : fn.body with | none => rw [h] at hb0; cases hb0 | some c => rfl
  refine calls_of_wp hf hb ?_
  have h1 := h.out w hM
  have he : env l0 = { tmps := args ++ Array.replicate (fn.ntmps - args.size) undef, defers := [] } := by
    rw [← hl]; simp [env]
  rw [he] at h1
  refine Code.wp_mono ?_ h1
  rintro e a w' ⟨M', hst, l', rfl, hq⟩
  cases e <;> simp only [RetQ] at hq
  · obtain ⟨v, h2, h3⟩ := hq.out; exact ⟨rfl, v, h2 w' hst, h3 w' hst⟩
  · obtain ⟨v, h2, h3⟩ := hq.out; exact ⟨rfl, v, h2 w' hst, h3 w' hst⟩
theorem ret_tmps {fn : Func} {Rr : Ending → World → Prop} {v : Value} (hv : ∀ w', (results fn l.toArray).run P w' = .ok v w') (h : ∀ w', St X w0 w' M → Rr (.returned v) w') : RetS P w0 X fn Rr l M := ⟨v, fun w' _ => hv w', h⟩
end
end Go.Proofs.Ytmecomgifmkkfaa
