/- A calculus of walks: what a walk knows of memory is a list of blocks (each with what it holds); worlds stand nowhere in the goals. A region that draws its order is walked once, in one order. No program in sight. -/
import Derived.WalkKit
import Derived.BigQuiet
import Derived.Deep.WholeRow
import Derived.Deep.MidRow
namespace Go.Proofs.Ytmecomgifmkkfaa
set_option linter.unusedVariables false
set_option linter.unusedSimpArgs false
open Go.RowKit

abbrev Mem := List (Nat × Obj)

/-- What is known of a world in the midst of a call that began at w0: the blocks of M hold what M says; all that was there at first is as it was, but in X. -/
structure St (X : Nat → Prop) (w0 w : World) (M : Mem) : Prop where
  os : w.os = w0.os
  tape : w.tape = w0.tape
  output : w.output = w0.output
  size : w0.heap.size ≤ w.heap.size
  frame : ∀ k, k < w0.heap.size → ¬ X k → w.heap[k]? = w0.heap[k]?
  own : ∀ p ∈ M, w.heap[p.1]? = some p.2
  free : ∀ p ∈ M, w0.heap.size ≤ p.1 ∨ X p.1
  nodup : (M.map Prod.fst).Nodup

section
variable {X : Nat → Prop} {w0 : World}

theorem St.start (w : World) : St (fun _ => False) w w [] :=
  ⟨rfl, rfl, rfl, Nat.le_refl _, fun _ _ _ => rfl, (fun _ h => by cases h), (fun _ h => by cases h), List.nodup_nil⟩
theorem St.below {w : World} {M : Mem} (h : St (fun _ => False) w0 w M) : Below w0.heap.size w0 w :=
  ⟨h.os, h.tape, h.output, h.size, fun k hk => h.frame k hk id⟩
theorem St.perm {w : World} {M M' : Mem} (h : St X w0 w M) (hp : M.Perm M') : St X w0 w M' :=
  ⟨h.os, h.tape, h.output, h.size, h.frame, fun p hm => h.own p (hp.mem_iff.2 hm), fun p hm => h.free p (hp.mem_iff.2 hm), (hp.map Prod.fst).nodup_iff.1 h.nodup⟩
theorem St.drew {w : World} {M : Mem} (h : St X w0 w M) : St X w0 w.drew M := ⟨h.os, h.tape, h.output, h.size, h.frame, h.own, h.free, h.nodup⟩
theorem St.lt {w : World} {M : Mem} (h : St X w0 w M) {p : Nat × Obj} (hm : p ∈ M) : p.1 < w.heap.size := (Array.getElem?_eq_some_iff.1 (h.own p hm)).1
/-- A call that turns nothing. -/
theorem St.kept {w w' : World} {M : Mem} (h : St X w0 w M) (hB : Below w.heap.size w w') : St X w0 w' M :=
  ⟨hB.os.trans h.os, hB.tape.trans h.tape, hB.output.trans h.output, Nat.le_trans h.size hB.size,
    fun k hk hx => (hB.block k (Nat.lt_of_lt_of_le hk h.size)).trans (h.frame k hk hx),
    fun p hm => (hB.block _ (h.lt hm)).trans (h.own p hm), h.free, h.nodup⟩
theorem St.alloc {w : World} {M : Mem} (h : St X w0 w M) (o : Obj) : St X w0 (w.alloc o) (M ++ [(w.heap.size, o)]) := by
  have hB : Below w.heap.size w (w.alloc o) := (Below.refl _ _).alloc (Nat.le_refl _) _
  have k := h.kept hB
  refine ⟨k.os, k.tape, k.output, k.size, k.frame, fun p hm => ?_, fun p hm => ?_, ?_⟩
  · rcases List.mem_append.1 hm with hm | hm
    · exact k.own p hm
    · obtain rfl := List.mem_singleton.1 hm; exact heap_alloc_new _ _
  · rcases List.mem_append.1 hm with hm | hm
    · exact k.free p hm
    · obtain rfl := List.mem_singleton.1 hm; exact .inl h.size
  · rw [List.map_append, List.map_singleton]
    refine List.nodup_append.2 ⟨h.nodup, List.nodup_cons.2 ⟨by simp, List.nodup_nil⟩, fun a ha b hb => ?_⟩
    obtain ⟨p, hm, rfl⟩ := List.mem_map.1 ha
    obtain rfl := List.mem_singleton.1 hb
    exact Nat.ne_of_lt (h.lt hm)
/-- Less is known. -/
theorem St.less {w : World} {M M' : Mem} (h : St X w0 w M) (hs : M'.Sublist M) : St X w0 w M' :=
  ⟨h.os, h.tape, h.output, h.size, h.frame, fun p hm => h.own p (hs.subset hm), fun p hm => h.free p (hs.subset hm), h.nodup.sublist (hs.map Prod.fst)⟩
/-- One block is turned. -/
theorem St.turn {w w' : World} {M : Mem} {j b : Nat} {o o' : Obj} (h : St X w0 w M) (hj : M[j]? = some (b, o)) (hos : w'.os = w.os) (htape : w'.tape = w.tape) (hout : w'.output = w.output)
    (hsize : w'.heap.size = w.heap.size) (hoth : ∀ k, k ≠ b → w'.heap[k]? = w.heap[k]?) (hb : w'.heap[b]? = some o') : St X w0 w' (M.set j (b, o')) := by
  have hmem : (b, o) ∈ M := List.mem_of_getElem? hj
  have hlt : j < M.length := (List.getElem?_eq_some_iff.1 hj).1
  have hkeys : (M.set j (b, o')).map Prod.fst = M.map Prod.fst := by
    rw [List.map_set]
    refine List.ext_getElem? fun i => ?_
    rw [List.getElem?_set]
    split
    · rename_i e
      subst e
      rw [List.getElem?_map, hj]
      simp [hlt]
    · rfl
  refine ⟨hos.trans h.os, htape.trans h.tape, hout.trans h.output, by rw [hsize]; exact h.size, fun k hk hx => ?_, fun p hm => ?_, fun p hm => ?_, by rw [hkeys]; exact h.nodup⟩
  · rw [hoth k (fun e => by subst e; rcases h.free _ hmem with h1 | h1; exact absurd hk (Nat.not_lt.2 h1); exact hx h1)]
    exact h.frame k hk hx
  · obtain ⟨i, hi⟩ := List.getElem?_of_mem hm
    rw [List.getElem?_set] at hi
    split at hi
    · obtain rfl := Option.some.inj hi; exact hb
    · rename_i hne
      have hpm := List.mem_of_getElem? hi
      have hpb : p.1 ≠ b := fun e => hne (by
        have h1 : (M.map Prod.fst)[i]? = some b := by rw [List.getElem?_map, hi, Option.map_some, e]
        have h2 : (M.map Prod.fst)[j]? = some b := by rw [List.getElem?_map, hj]; rfl
        obtain ⟨hi1, hi2⟩ := List.getElem?_eq_some_iff.1 h1
        obtain ⟨hj1, hj2⟩ := List.getElem?_eq_some_iff.1 h2
        have hnd := List.pairwise_iff_getElem.1 h.nodup
        rcases Nat.lt_trichotomy j i with hl | hl | hl
        · exact absurd (hj2.trans hi2.symm) (hnd j i hj1 hi1 hl)
        · exact hl
        · exact absurd (hi2.trans hj2.symm) (hnd i j hi1 hj1 hl))
      rw [hoth _ hpb]; exact h.own p hpm
  · obtain ⟨i, hi⟩ := List.getElem?_of_mem hm
    rw [List.getElem?_set] at hi
    split at hi
    · obtain rfl := Option.some.inj hi; exact (h.free _ hmem :)
    · exact h.free p (List.mem_of_getElem? hi)
end

/-! ### The kinds of operations, and what is asked of each -/

/-- P: a value, in whatever world. L: a value, by what is known of memory. G: it may make memory, and turns none. A: one new block. W: whatever. -/
inductive Kd where
  | P | L | G | A | W
  deriving DecidableEq

/-- May the second one come ahead of the first one, where neither waits for the other? -/
def Kd.mayPass : Kd → Kd → Bool
  | .P, _ => true
  | .L, .W => false
  | .L, _ => true
  | .G, .P | .G, .A => true
  | .A, .P | .A, .A => true
  | _, _ => false

section
variable (P : Program) (X : Nat → Prop) (w0 : World) (ops : Array Oper)

def GUpon (Φ : Value → Mem → Prop) (M : Mem) : Result Next → Prop
  | .ok (.value v) w' => ∃ δ, Φ v δ ∧ St X w0 w' (M ++ δ)
  | .ok .skip w' => Φ undef [] ∧ St X w0 w' M
  | .ok (.enter f args) w' => Calls P f args w' fun e w'' => ∃ v δ, e = .returned v ∧ Φ v δ ∧ St X w0 w'' (M ++ δ)
  | _ => False

def WUpon (K : Act → Mem → Prop) (a : Act) (o : Oper) : Result Next → Prop
  | .ok (.value v) w' => ∃ M', St X w0 w' M' ∧ K (a.put o.dst v) M'
  | .ok .skip w' => ∃ M', St X w0 w' M' ∧ K (a.put o.dst undef) M'
  | .ok (.enter f args) w' => Calls P f args w' fun e w'' => ∃ v M', e = .returned v ∧ St X w0 w'' M' ∧ K (a.put o.dst v) M'
  | _ => False

/-- The operation comes up, and has the value v, by what M says. -/
def YieldsL (o : Oper) (v : Value) (a : Act) (M : Mem) : Prop :=
  (Region.wanted o (yielded ops a.tmps) = true ∧ ∀ M' w, (∀ p ∈ M, p ∈ M') → St X w0 w M' → (execOp a.eval o).run P w = .ok (.value v) w) ∨
  (Region.wanted o (yielded ops a.tmps) = false ∧ v = undef)
def Grows (o : Oper) (Φ : Value → Mem → Prop) (a : Act) (M : Mem) : Prop :=
  (Region.wanted o (yielded ops a.tmps) = true ∧ ∀ M' w, (∀ p ∈ M, p ∈ M') → St X w0 w M' → GUpon P X w0 Φ M' ((execOp a.eval o).run P w)) ∨
  (Region.wanted o (yielded ops a.tmps) = false ∧ Φ undef [])
def Makes (o : Oper) (z : Obj) (mk : Nat → Value) (a : Act) : Prop :=
  o.guard = none ∧ ∀ w : World, (execOp a.eval o).run P w = .ok (.value (mk w.heap.size)) (w.alloc z)
def Works (K : Act → Mem → Prop) (o : Oper) (a : Act) (M : Mem) : Prop :=
  (Region.wanted o (yielded ops a.tmps) = true ∧ ∀ w, St X w0 w M → WUpon P X w0 K a o ((execOp a.eval o).run P w)) ∨
  (Region.wanted o (yielded ops a.tmps) = false ∧ K (a.put o.dst undef) M)

def T : Kd → Oper → (Act → Mem → Prop) → Act → Mem → Prop
  | .P, o, K, a, M => ∃ v, Yields P ops o v a ∧ K (a.put o.dst v) M
  | .L, o, K, a, M => ∃ v, YieldsL P X w0 ops o v a M ∧ K (a.put o.dst v) M
  | .G, o, K, a, M => ∃ Φ : Value → Mem → Prop, (∃ v δ, Φ v δ) ∧ Grows P X w0 ops o Φ a M ∧ ∀ v δ, Φ v δ → K (a.put o.dst v) (M ++ δ)
  | .A, o, K, a, M => ∃ z mk, Makes P o z mk a ∧ ∀ β, K (a.put o.dst (mk β)) (M ++ [(β, z)])
  | .W, o, K, a, M => Works P X w0 ops K o a M
end

section
variable {P : Program} {X : Nat → Prop} {w0 : World} {ops : Array Oper}

theorem WUpon.mono {K K' : Act → Mem → Prop} (h : ∀ a M, K a M → K' a M) {a : Act} {o : Oper} {r : Result Next} (hr : WUpon P X w0 K a o r) : WUpon P X w0 K' a o r := by
  cases r with
  | ok n w' =>
    cases n <;> simp only [WUpon] at hr ⊢
    case value v => obtain ⟨M', h1, h2⟩ := hr; exact ⟨M', h1, h _ _ h2⟩
    case skip => obtain ⟨M', h1, h2⟩ := hr; exact ⟨M', h1, h _ _ h2⟩
    case enter f args => exact Calls.mono hr fun e w'' ⟨v, M', h1, h2, h3⟩ => ⟨v, M', h1, h2, h _ _ h3⟩
  | halt x w' => simp only [WUpon] at hr

theorem T_mono {K K' : Act → Mem → Prop} (h : ∀ a M, K a M → K' a M) {k : Kd} {o : Oper} {a : Act} {M : Mem} (ht : T P X w0 ops k o K a M) : T P X w0 ops k o K' a M := by
  cases k <;> simp only [T] at ht ⊢
  · obtain ⟨v, h1, h2⟩ := ht; exact ⟨v, h1, h _ _ h2⟩
  · obtain ⟨v, h1, h2⟩ := ht; exact ⟨v, h1, h _ _ h2⟩
  · obtain ⟨Φ, h0, h1, h2⟩ := ht; exact ⟨Φ, h0, h1, fun v δ hv => h _ _ (h2 v δ hv)⟩
  · obtain ⟨z, mk, h1, h2⟩ := ht; exact ⟨z, mk, h1, fun β => h _ _ (h2 β)⟩
  · rcases ht with ⟨h1, h2⟩ | ⟨h1, h2⟩
    · exact .inl ⟨h1, fun w hw => (h2 w hw).mono h⟩
    · exact .inr ⟨h1, h _ _ h2⟩

/-- A goal that does not look at the order in which blocks were made. -/
def Permed (K : Act → Mem → Prop) : Prop := ∀ a M M', M.Perm M' → K a M → K a M'

theorem T_perm {K : Act → Mem → Prop} (hK : Permed K) (k : Kd) (o : Oper) : Permed (T P X w0 ops k o K) := by
  intro a M M' hp ht
  cases k <;> simp only [T] at ht ⊢
  · obtain ⟨v, h1, h2⟩ := ht; exact ⟨v, h1, hK _ _ _ hp h2⟩
  · obtain ⟨v, h1, h2⟩ := ht
    refine ⟨v, ?_, hK _ _ _ hp h2⟩
    rcases h1 with ⟨h1, h3⟩ | h1
    · exact .inl ⟨h1, fun M1 w hm hw => h3 M1 w (fun p hpm => hm p (hp.mem_iff.1 hpm)) hw⟩
    · exact .inr h1
  · obtain ⟨Φ, h0, h1, h2⟩ := ht
    refine ⟨Φ, h0, ?_, fun v δ hv => hK _ _ _ (hp.append_right δ) (h2 v δ hv)⟩
    rcases h1 with ⟨h1, h3⟩ | h1
    · exact .inl ⟨h1, fun M1 w hm hw => h3 M1 w (fun p hpm => hm p (hp.mem_iff.1 hpm)) hw⟩
    · exact .inr h1
  · obtain ⟨z, mk, h1, h2⟩ := ht; exact ⟨z, mk, h1, fun β => hK _ _ _ (hp.append_right _) (h2 β)⟩
  · rcases ht with ⟨h1, h2⟩ | ⟨h1, h2⟩
    · exact .inl ⟨h1, fun w hw => h2 w (hw.perm hp.symm)⟩
    · exact .inr ⟨h1, hK _ _ _ hp h2⟩

/-- Every kind says what is asked of 'whatever'. -/
theorem T_works {K : Act → Mem → Prop} {k : Kd} {o : Oper} {a : Act} {M : Mem} (ht : T P X w0 ops k o K a M) : Works P X w0 ops K o a M := by
  cases k <;> simp only [T] at ht
  · obtain ⟨v, h1, h2⟩ := ht
    rcases h1 with ⟨h1, h3⟩ | ⟨h1, rfl⟩
    · exact .inl ⟨h1, fun w hw => by rw [h3 w]; exact ⟨M, hw, h2⟩⟩
    · exact .inr ⟨h1, h2⟩
  · obtain ⟨v, h1, h2⟩ := ht
    rcases h1 with ⟨h1, h3⟩ | ⟨h1, rfl⟩
    · exact .inl ⟨h1, fun w hw => by rw [h3 M w (fun _ h => h) hw]; exact ⟨M, hw, h2⟩⟩
    · exact .inr ⟨h1, h2⟩
  · obtain ⟨Φ, _, h1, h2⟩ := ht
    rcases h1 with ⟨h1, h3⟩ | ⟨h1, h3⟩
    · refine .inl ⟨h1, fun w hw => ?_⟩
      have h4 := h3 M w (fun _ h => h) hw
      generalize (execOp a.eval o).run P w = r at *
      cases r with
      | ok n w' =>
        cases n <;> simp only [GUpon] at h4 <;> simp only [WUpon]
        case value v => obtain ⟨δ, h5, h6⟩ := h4; exact ⟨_, h6, h2 _ _ h5⟩
        case skip => obtain ⟨h5, h6⟩ := h4; exact ⟨_, h6, by simpa using h2 _ _ h5⟩
        case enter f args => exact Calls.mono h4 fun e w'' ⟨v, δ, h5, h6, h7⟩ => ⟨v, _, h5, h7, h2 _ _ h6⟩
      | halt x w' => simp only [GUpon] at h4
    · exact .inr ⟨h1, by simpa using h2 _ _ h3⟩
  · obtain ⟨z, mk, ⟨hg, h1⟩, h2⟩ := ht
    exact .inl ⟨by simp [Region.wanted, hg], fun w hw => by rw [h1 w]; exact ⟨_, hw.alloc z, h2 _⟩⟩
  · exact ht

theorem Works.op {K : Act → Mem → Prop} {Q : Exit → Act → World → Prop} {K' : Act → World → Prop} {i : Nat} {o : Oper} {a : Act} {M : Mem} (hi : ops[i]? = some o) (h : Works P X w0 ops K o a M)
    {w : World} (hw : St X w0 w M) (hK : ∀ a M w, St X w0 w M → K a M → K' a w) : wpOp P ops Q i K' a w := by
  unfold wpOp
  simp only [hi]
  rcases h with ⟨h1, h2⟩ | ⟨h1, h2⟩
  · rw [if_pos h1]
    refine .inl ?_
    unfold Oper.wp
    have h3 := h2 w hw
    generalize (execOp a.eval o).run P w = r at *
    cases r with
    | ok n w' =>
      cases n <;> simp only [WUpon] at h3 <;> simp only [Oper.upon]
      case value v => obtain ⟨M', h4, h5⟩ := h3; exact hK _ _ _ h4 h5
      case skip => obtain ⟨M', h4, h5⟩ := h3; exact hK _ _ _ h4 h5
      case enter f args =>
        refine Calls.mono h3 fun e w'' ⟨v, M', h4, h5, h6⟩ => ?_
        subst h4
        exact hK _ _ _ h5 h6
    | halt x w' => simp only [WUpon] at h3
  · rw [if_neg (by rw [h1]; exact Bool.false_ne_true)]
    exact hK _ _ _ hw h2
end
end Go.Proofs.Ytmecomgifmkkfaa
