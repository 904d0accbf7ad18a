/- The calculus of walks: the slots as a list; the rules for codes, operations, calls. No program in sight. -/
import Derived.Test.YtmecomgifmkkfaaSymR
import Derived.Shelf.Lay
namespace Go.Proofs.Ytmecomgifmkkfaa
set_option linter.unusedVariables false
set_option linter.unusedSimpArgs false
open Go.RowKit

def nthD : List Value → Nat → Value
  | [], _ => undef
  | x :: _, 0 => x
  | _ :: l, n + 1 => nthD l n
def setL : List Value → Nat → Value → List Value
  | [], _, _ => []
  | _ :: l, 0, v => v :: l
  | x :: l, n + 1, v => x :: setL l n v
def nthO {α : Type} : List α → Nat → Option α
  | [], _ => none
  | x :: _, 0 => some x
  | _ :: l, n + 1 => nthO l n

def ev (l : List Value) : Operand → Value
  | .tmp t => nthD l t
  | .const v => v
  | .global g => .pointer (some ⟨g, 0, none⟩)
  | .func f => .func (.func f) #[] #[]
def putL (l : List Value) : Option Tmp → Value → List Value
  | some d, v => setL l d v
  | none, _ => l
def env (l : List Value) : Act := { tmps := l.toArray, defers := [] }

theorem nthD_eq : ∀ (l : List Value) (n : Nat), nthD l n = l[n]?.getD undef
  | [], _ => by simp [nthD]
  | x :: _, 0 => by simp [nthD]
  | _ :: l, n + 1 => by simp [nthD, nthD_eq l n]
theorem setL_eq : ∀ (l : List Value) (n : Nat) (v : Value), setL l n v = l.set n v
  | [], _, _ => by simp [setL]
  | x :: _, 0, _ => by simp [setL]
  | _ :: l, n + 1, v => by simp [setL, setL_eq l n v]
theorem nthO_eq {α : Type} : ∀ (l : List α) (n : Nat), nthO l n = l[n]?
  | [], _ => by simp [nthO]
  | x :: _, 0 => by simp [nthO]
  | _ :: l, n + 1 => by simp [nthO, nthO_eq l n]
theorem eval_env (l : List Value) : (env l).eval = ev l := by
  funext x
  cases x <;> simp [Act.eval, env, ev, nthD_eq]
theorem put_env (l : List Value) (d : Option Tmp) (v : Value) : (env l).put d v = env (putL l d v) := by
  cases d
  · rfl
  · simp [Act.put, env, putL, setL_eq]

/-- What a code's head is. -/
def isSeq : Code → Bool | .seq .. => true | _ => false
def fstC : Code → Code | .seq a _ => a | c => c
def sndC : Code → Code | .seq _ b => b | c => c
def isReg (d : Bool) : Code → Bool | .region _ _ d' => d == d' | _ => false
def opsC : Code → List Oper | .region _ ops _ => ops.toList | _ => []
def isCond : Code → Bool | .cond .. => true | _ => false
def condC : Code → Operand | .cond c _ _ => c | _ => .const undef
def thnC : Code → Code | .cond _ a _ => a | c => c
def elsC : Code → Code | .cond _ _ b => b | c => c
def isBlk : Code → Bool | .block .. => true | _ => false
def idC : Code → Nat | .block i _ => i | .exit i => i | _ => 0
def bodyC : Code → Code | .block _ b => b | .loop b => b | c => c
def isLoop : Code → Bool | .loop _ => true | _ => false
def isExit : Code → Bool | .exit _ => true | _ => false
def isRet : Code → Bool | .ret => true | _ => false
def isSkip : Code → Bool | .skip => true | _ => false

/-- The kinds, by the operation's own head, or as told. -/
def opKd : Op → Kd
  | .move _ | .assign _ | .pick .. | .build .. | .extract .. | .binOp .. | .unOp .. | .convert .. | .fieldAddr .. | .indexAddr .. | .field .. | .index .. | .slice .. | .nilCheck _ | .makeInterface .. | .typeAssert .. | .sliceToArrayPointer .. => .P
  | .load .. => .L
  | .alloc _ | .box .. | .buildSlice .. | .makeSlice .. => .A
  | .call c => match c.callee with
    | .value _ => .G
    | .builtin .len | .builtin .cap | .builtin .min | .builtin .max => .P
    | _ => .W
  | _ => .W
def kdOf (ov : List (Nat × Kd)) (R : List Oper) (i : Nat) : Kd :=
  match ov.find? (·.1 == i) with
  | some (_, k) => k
  | none => match nthO R i with
    | some o => opKd o.op
    | none => .W

section
variable (P : Program) (X : Nat → Prop) (w0 : World)

/-- The walk over a region's operations, slots as a list. -/
structure Wk (R : List Oper) (kd : Nat → Kd) (Q : List Value → Mem → Prop) (π : List Nat) (l : List Value) (M : Mem) : Prop where
  out : walk P X w0 R.toArray kd (fun a M => ∃ l', a = env l' ∧ Q l' M) π (env l) M
/-- What is asked of a code. -/
structure Sp (c : Code) (Q : Exit → List Value → Mem → Prop) (l : List Value) (M : Mem) : Prop where
  out : swp P X w0 c (fun e a M => ∃ l', a = env l' ∧ Q e l' M) (env l) M
def thenQ (n : List Value → Mem → Prop) (Q : Exit → List Value → Mem → Prop) : Exit → List Value → Mem → Prop
  | .normal, l, M => n l M
  | e, l, M => Q e l M
def blockQ (id : Nat) (Q : Exit → List Value → Mem → Prop) : Exit → List Value → Mem → Prop
  | .exit j, l, M => bif j == id then Q .normal l M else Q (.exit j) l M
  | e, l, M => Q e l M
end

section
variable {P : Program} {X : Nat → Prop} {w0 : World} {Q : Exit → List Value → Mem → Prop} {l : List Value} {M : Mem} {c : Code}

theorem sp_seq (hc : isSeq c = true) (h : Sp P X w0 (fstC c) (thenQ (Sp P X w0 (sndC c) Q) Q) l M) : Sp P X w0 c Q l M := by
  cases c <;> simp only [isSeq, Bool.false_eq_true] at hc
  rename_i a b
  refine ⟨fun w hw => wp_seq (Code.wp_mono ?_ (h.out w hw))⟩
  rintro e a' w' ⟨M', hst, l', rfl, hq⟩
  cases e with
  | normal => exact hq.out w' hst
  | _ => exact ⟨M', hst, l', rfl, hq⟩
theorem sp_cond (hc : isCond c = true) (b : Bool) (hb : ev l (condC c) = .bool b) (h : Sp P X w0 (if b then thnC c else elsC c) Q l M) : Sp P X w0 c Q l M := by
  cases c <;> simp only [isCond, Bool.false_eq_true] at hc
  exact ⟨fun w hw => wp_cond (by rw [eval_env]; exact hb) (h.out w hw)⟩
theorem sp_true (hc : isCond c = true) (hb : ev l (condC c) = .bool true) (h : Sp P X w0 (thnC c) Q l M) : Sp P X w0 c Q l M := sp_cond hc true hb h
theorem sp_false (hc : isCond c = true) (hb : ev l (condC c) = .bool false) (h : Sp P X w0 (elsC c) Q l M) : Sp P X w0 c Q l M := sp_cond hc false hb h
theorem sp_block (hc : isBlk c = true) (h : Sp P X w0 (bodyC c) (blockQ (idC c) Q) l M) : Sp P X w0 c Q l M := by
  cases c <;> simp only [isBlk, Bool.false_eq_true] at hc
  rename_i id b
  refine ⟨fun w hw => wp_block (Code.wp_mono ?_ (h.out w hw))⟩
  rintro e a' w' ⟨M', hst, l', rfl, hq⟩
  cases e with
  | exit j =>
    simp only [Go.Exit.inBlock]
    simp only [blockQ, idC] at hq
    by_cases hj : j = id
    · rw [if_pos hj]
      rw [show (j == id) = true by simpa using hj] at hq
      exact ⟨M', hst, l', rfl, hq⟩
    · rw [if_neg hj]
      rw [show (j == id) = false by simpa using hj] at hq
      exact ⟨M', hst, l', rfl, hq⟩
  | _ => exact ⟨M', hst, l', rfl, hq⟩
theorem sp_exit (hc : isExit c = true) (h : Q (.exit (idC c)) l M) : Sp P X w0 c Q l M := by
  cases c <;> simp only [isExit, Bool.false_eq_true] at hc
  exact ⟨fun w hw => wp_exit ⟨M, hw, l, rfl, h⟩⟩
theorem sp_ret (hc : isRet c = true) (h : Q .ret l M) : Sp P X w0 c Q l M := by
  cases c <;> simp only [isRet, Bool.false_eq_true] at hc
  exact ⟨fun w hw => wp_ret ⟨M, hw, l, rfl, h⟩⟩
theorem sp_skip (hc : isSkip c = true) (h : Q .normal l M) : Sp P X w0 c Q l M := by
  cases c <;> simp only [isSkip, Bool.false_eq_true] at hc
  exact ⟨fun w hw => wp_skip ⟨M, hw, l, rfl, h⟩⟩
/-- Some of what is known is let go. -/
theorem sp_less {M' : Mem} (hs : M'.Sublist M) (h : Sp P X w0 c Q l M') : Sp P X w0 c Q l M := ⟨fun w hw => h.out w (hw.less hs)⟩
theorem sp_loop (hc : isLoop c = true) (I : List Value → Mem → Prop) (μ : List Value → Mem → Nat) (h0 : I l M)
    (round : ∀ l M, I l M → Sp P X w0 (bodyC c) (thenQ (fun l' M' => ∃ M2, M2.Sublist M' ∧ I l' M2 ∧ μ l' M2 < μ l M) Q) l M) : Sp P X w0 c Q l M := by
  cases c <;> simp only [isLoop, Bool.false_eq_true] at hc
  rename_i b
  refine ⟨fun w hw => ?_⟩
  intro fb k cs
  have key : ∀ n l M w, μ l M = n → I l M → St X w0 w M → ∃ e a' w', (∃ M', St X w0 w' M' ∧ ∃ l', a' = env l' ∧ Q e l' M') ∧ Arrives P (lone (fb.at (env l) (.code b :: .inLoop b :: k)) cs w) fb k cs e a' w' := by
    intro n
    induction n using Nat.strongRecOn with
    | _ n ih =>
      intro l M w hn hI hst
      obtain ⟨e, a1, w1, ⟨M1, hst1, l1, rfl, hq⟩, harr⟩ := (round l M hI).out w hst fb (.inLoop b :: k) cs
      cases e with
      | normal =>
        obtain ⟨M2, hsub, hI2, hlt⟩ := hq
        obtain ⟨e2, a2, w2, hq2, harr2⟩ := ih (μ l1 M2) (hn ▸ hlt) l1 M2 w1 rfl hI2 (hst1.less hsub)
        exact ⟨e2, a2, w2, hq2, .of_steps (Steps.trans harr (.one step_inLoop)) harr2⟩
      | exit id => exact ⟨_, _, w1, ⟨M1, hst1, l1, rfl, hq⟩, .pass (x := .inLoop b) rfl (fun _ _ => .inl (by simp)) harr⟩
      | goto g => exact ⟨_, _, w1, ⟨M1, hst1, l1, rfl, hq⟩, .pass (x := .inLoop b) rfl (fun _ _ => .inl (by simp)) harr⟩
      | ret => exact ⟨_, _, w1, ⟨M1, hst1, l1, rfl, hq⟩, .pass (x := .inLoop b) rfl (fun _ _ => .inl (by simp)) harr⟩
      | panic ch => exact ⟨_, _, w1, ⟨M1, hst1, l1, rfl, hq⟩, .pass (x := .inLoop b) rfl (fun _ _ => .inl (by simp)) harr⟩
      | outgrown => exact ⟨_, _, w1, ⟨M1, hst1, l1, rfl, hq⟩, .pass (x := .inLoop b) rfl (fun _ _ => .inl (by simp)) harr⟩
  obtain ⟨e, a', w', hq, harr⟩ := key _ l M w rfl h0 hw
  exact ⟨e, a', w', hq, .of_steps (.one step_loop) harr⟩

theorem sp_loopg (hc : isLoop c = true) (I : Nat → List Value → Mem → Prop) (n0 : Nat) (h0 : I n0 l M)
    (round : ∀ n l M, I n l M → Sp P X w0 (bodyC c) (thenQ (fun l' M' => ∃ M2 n', M2.Sublist M' ∧ I n' l' M2 ∧ n' < n) Q) l M) : Sp P X w0 c Q l M := by
  cases c <;> simp only [isLoop, Bool.false_eq_true] at hc
  rename_i b
  refine ⟨fun w hw => ?_⟩
  intro fb k cs
  have key : ∀ n l M w, I n l M → St X w0 w M → ∃ e a' w', (∃ M', St X w0 w' M' ∧ ∃ l', a' = env l' ∧ Q e l' M') ∧ Arrives P (lone (fb.at (env l) (.code b :: .inLoop b :: k)) cs w) fb k cs e a' w' := by
    intro n
    induction n using Nat.strongRecOn with
    | _ n ih =>
      intro l M w hI hst
      obtain ⟨e, a1, w1, ⟨M1, hst1, l1, rfl, hq⟩, harr⟩ := (round n l M hI).out w hst fb (.inLoop b :: k) cs
      cases e with
      | normal =>
        obtain ⟨M2, n', hsub, hI2, hlt⟩ := hq
        obtain ⟨e2, a2, w2, hq2, harr2⟩ := ih n' hlt l1 M2 w1 hI2 (hst1.less hsub)
        exact ⟨e2, a2, w2, hq2, .of_steps (Steps.trans harr (.one step_inLoop)) harr2⟩
      | exit id => exact ⟨_, _, w1, ⟨M1, hst1, l1, rfl, hq⟩, .pass (x := .inLoop b) rfl (fun _ _ => .inl (by simp)) harr⟩
      | goto g => exact ⟨_, _, w1, ⟨M1, hst1, l1, rfl, hq⟩, .pass (x := .inLoop b) rfl (fun _ _ => .inl (by simp)) harr⟩
      | ret => exact ⟨_, _, w1, ⟨M1, hst1, l1, rfl, hq⟩, .pass (x := .inLoop b) rfl (fun _ _ => .inl (by simp)) harr⟩
      | panic ch => exact ⟨_, _, w1, ⟨M1, hst1, l1, rfl, hq⟩, .pass (x := .inLoop b) rfl (fun _ _ => .inl (by simp)) harr⟩
      | outgrown => exact ⟨_, _, w1, ⟨M1, hst1, l1, rfl, hq⟩, .pass (x := .inLoop b) rfl (fun _ _ => .inl (by simp)) harr⟩
  obtain ⟨e, a', w', hq, harr⟩ := key _ l M w h0 hw
  exact ⟨e, a', w', hq, .of_steps (.one step_loop) harr⟩

/-- A loop that goes round n times at most, round by round. -/
def Un (P : Program) (X : Nat → Prop) (w0 : World) (b : Code) (Q : Exit → List Value → Mem → Prop) : Nat → List Value → Mem → Prop
  | 0, _, _ => False
  | n + 1, l, M => Sp P X w0 b (thenQ (Un P X w0 b Q n) Q) l M
theorem un_step {n : Nat} {b : Code} (h : Sp P X w0 b (thenQ (Un P X w0 b Q n) Q) l M) : Un P X w0 b Q (n + 1) l M := h
theorem sp_unroll (n : Nat) (hc : isLoop c = true) (h : Un P X w0 (bodyC c) Q n l M) : Sp P X w0 c Q l M := by
  cases c <;> simp only [isLoop, Bool.false_eq_true] at hc
  rename_i b
  refine ⟨fun w hw => ?_⟩
  intro fb k cs
  have key : ∀ n l M w, Un P X w0 b Q n l M → St X w0 w M → ∃ e a' w', (∃ M', St X w0 w' M' ∧ ∃ l', a' = env l' ∧ Q e l' M') ∧ Arrives P (lone (fb.at (env l) (.code b :: .inLoop b :: k)) cs w) fb k cs e a' w' := by
    intro n
    induction n with
    | zero => exact fun _ _ _ h => h.elim
    | succ n ih =>
      intro l M w h hst
      obtain ⟨e, a1, w1, ⟨M1, hst1, l1, rfl, hq⟩, harr⟩ := h.out w hst fb (.inLoop b :: k) cs
      cases e with
      | normal =>
        obtain ⟨e2, a2, w2, hq2, harr2⟩ := ih l1 M1 w1 hq hst1
        exact ⟨e2, a2, w2, hq2, .of_steps (Steps.trans harr (.one step_inLoop)) harr2⟩
      | exit id => exact ⟨_, _, w1, ⟨M1, hst1, l1, rfl, hq⟩, .pass (x := .inLoop b) rfl (fun _ _ => .inl (by simp)) harr⟩
      | goto g => exact ⟨_, _, w1, ⟨M1, hst1, l1, rfl, hq⟩, .pass (x := .inLoop b) rfl (fun _ _ => .inl (by simp)) harr⟩
      | ret => exact ⟨_, _, w1, ⟨M1, hst1, l1, rfl, hq⟩, .pass (x := .inLoop b) rfl (fun _ _ => .inl (by simp)) harr⟩
      | panic ch => exact ⟨_, _, w1, ⟨M1, hst1, l1, rfl, hq⟩, .pass (x := .inLoop b) rfl (fun _ _ => .inl (by simp)) harr⟩
      | outgrown => exact ⟨_, _, w1, ⟨M1, hst1, l1, rfl, hq⟩, .pass (x := .inLoop b) rfl (fun _ _ => .inl (by simp)) harr⟩
  obtain ⟨e, a', w', hq, harr⟩ := key n l M w h hw
  exact ⟨e, a', w', hq, .of_steps (.one step_loop) harr⟩

/-- Regions. -/
theorem sp_region {π : List Nat} (ov : List (Nat × Kd)) (hc : isReg false c = true) (hπ : List.range (opsC c).length = π) (h : Wk P X w0 (opsC c) (kdOf ov (opsC c)) (Q .normal) π l M) : Sp P X w0 c Q l M := by
  cases c <;> simp only [isReg, Bool.false_eq_true] at hc
  rename_i id ops d
  obtain rfl : d = false := by simpa using hc.symm
  refine ⟨?_⟩
  have h1 := h.out
  rw [← hπ] at h1
  simp only [opsC, Array.toArray_toList, Array.length_toList] at h1
  exact swp_region (kd := kdOf ov (opsC (.region id ops false))) h1
theorem sp_draw (π : List Nat) (ov : List (Nat × Kd)) (hm : P.follows .mixedOrders = true) (hc : isReg true c = true) (hs : Region.noSelect (opsC c).toArray = true)
    (hok : okOrder (opsC c).toArray (kdOf ov (opsC c)) π (Array.replicate (opsC c).toArray.size false) = true) (h : Wk P X w0 (opsC c) (kdOf ov (opsC c)) (Q .normal) π l M) : Sp P X w0 c Q l M := by
  cases c <;> simp only [isReg, Bool.false_eq_true] at hc
  rename_i id ops d
  obtain rfl : d = true := by simpa using hc.symm
  refine ⟨?_⟩
  have h1 := h.out
  simp only [opsC, Array.toArray_toList] at h1 hs hok
  exact swp_draw (kd := kdOf ov (opsC (.region id ops true))) π hm hs hok h1

/-! ### Operations -/
variable {R : List Oper} {kd : Nat → Kd} {N : List Value → Mem → Prop} {π : List Nat} {i : Nat} {dst : Option Tmp} {op : Op} {ty : TypeId} {pos : String} {aft : Array Edge}

theorem wk_nil (h : N l M) : Wk P X w0 R kd N [] l M := ⟨⟨l, rfl, h⟩⟩

theorem nthO_arr {o : Oper} (ho : nthO R i = some o) : R.toArray[i]? = some o := by rw [nthO_eq] at ho; simpa using ho
/-- Does the operation come up? -/
def gok (R : List Oper) (gd : Option (Nat × Bool)) (l : List Value) : Bool :=
  match gd with
  | none => true
  | some (g, b) => match nthO R g with
    | some o => match o.dst with
      | some d => match nthO l d with | some (.bool b') => b' == b | _ => false
      | none => false
    | none => false
/-- Does it surely not? -/
def gno (R : List Oper) (gd : Option (Nat × Bool)) (l : List Value) : Bool :=
  match gd with
  | none => false
  | some (g, b) => match nthO R g with
    | some o => match o.dst with
      | some d => match nthO l d with | some (.bool b') => b' != b | _ => false
      | none => false
    | none => false
theorem yielded_of {g : Nat} {o : Oper} {d : Tmp} {b : Bool} (h1 : nthO R g = some o) (h2 : o.dst = some d) (h3 : nthO l d = some (.bool b)) : yielded R.toArray (env l).tmps g = some b := by
  unfold yielded
  rw [nthO_arr h1]
  rw [nthO_eq] at h3
  simp only [Option.bind_some, h2, env]
  simp [h3]
variable {gd : Option (Nat × Bool)}
theorem gok_wanted (h : gok R gd l = true) : Region.wanted ⟨dst, op, ty, pos, aft, gd⟩ (yielded R.toArray (env l).tmps) = true := by
  cases gd with
  | none => rfl
  | some gb =>
    obtain ⟨g, b⟩ := gb
    simp only [gok] at h
    split at h <;> try cases h
    rename_i o ho
    split at h <;> try cases h
    rename_i d hd
    split at h <;> try cases h
    rename_i b' hb
    have hy := yielded_of ho hd hb
    have : b' = b := by simpa using h
    subst this
    simp [Region.wanted, hy]
theorem gno_wanted (h : gno R gd l = true) : Region.wanted ⟨dst, op, ty, pos, aft, gd⟩ (yielded R.toArray (env l).tmps) = false := by
  cases gd with
  | none => cases h
  | some gb =>
    obtain ⟨g, b⟩ := gb
    simp only [gno] at h
    split at h <;> try cases h
    rename_i o ho
    split at h <;> try cases h
    rename_i d hd
    split at h <;> try cases h
    rename_i b' hb
    have hy := yielded_of ho hd hb
    simp only [Region.wanted, hy]
    cases b <;> cases b' <;> simp_all

/-- It does not come up. -/
theorem wk_skip (ho : nthO R i = some ⟨dst, op, ty, pos, aft, gd⟩) (hg : gno R gd l = true) (hk : kd i ≠ .A) (h : Wk P X w0 R kd N π (putL l dst undef) M) : Wk P X w0 R kd N (i :: π) l M := by
  refine ⟨⟨_, nthO_arr ho, ?_⟩⟩
  have h2 : walk P X w0 R.toArray kd (fun a M => ∃ l', a = env l' ∧ N l' M) π ((env l).put dst undef) M := by rw [put_env]; exact h.out
  have hw := gno_wanted (dst := dst) (op := op) (ty := ty) (pos := pos) (aft := aft) hg
  cases hkk : kd i
  · exact ⟨undef, .inr ⟨hw, rfl⟩, h2⟩
  · exact ⟨undef, .inr ⟨hw, rfl⟩, h2⟩
  · exact ⟨fun v δ => v = undef ∧ δ = [], ⟨_, _, rfl, rfl⟩, .inr ⟨hw, rfl, rfl⟩, fun v δ ⟨e1, e2⟩ => by subst e1 e2; rw [List.append_nil]; exact h2⟩
  · exact absurd hkk hk
  · exact .inr ⟨hw, h2⟩

/-- A value, in whatever world. -/
theorem wk_val (v : Value) (ho : nthO R i = some ⟨dst, op, ty, pos, aft, gd⟩) (hg : gok R gd l = true) (hk : kd i = .P) (hv : ∀ w, (execOp (ev l) ⟨dst, op, ty, pos, aft, gd⟩).run P w = .ok (.value v) w)
    (h : Wk P X w0 R kd N π (putL l dst v) M) : Wk P X w0 R kd N (i :: π) l M := by
  refine ⟨⟨_, nthO_arr ho, ?_⟩⟩
  rw [hk]
  refine ⟨v, .inl ⟨gok_wanted hg, fun w => by rw [eval_env]; exact hv w⟩, ?_⟩
  rw [put_env]; exact h.out
theorem wk_move {x : Operand} (v : Value) (ho : nthO R i = some ⟨dst, .move x, ty, pos, aft, gd⟩) (hg : gok R gd l = true) (hk : kd i = .P) (hv : ev l x = v) (h : Wk P X w0 R kd N π (putL l dst v) M) : Wk P X w0 R kd N (i :: π) l M :=
  wk_val _ ho hg hk (fun _ => by rw [← hv]; rfl) h
theorem wk_assign {x : Operand} (v : Value) (ho : nthO R i = some ⟨dst, .assign x, ty, pos, aft, gd⟩) (hg : gok R gd l = true) (hk : kd i = .P) (hv : ev l x = v) (h : Wk P X w0 R kd N π (putL l dst v) M) : Wk P X w0 R kd N (i :: π) l M :=
  wk_val _ ho hg hk (fun _ => by rw [← hv]; rfl) h
theorem wk_ext {x : Operand} {n : Nat} {vs : Array Value} (v : Value) (ho : nthO R i = some ⟨dst, .extract x n, ty, pos, aft, gd⟩) (hg : gok R gd l = true) (hk : kd i = .P) (hx : ev l x = .tuple vs) (hv : nthO vs.toList n = some v)
    (h : Wk P X w0 R kd N π (putL l dst v) M) : Wk P X w0 R kd N (i :: π) l M :=
  wk_val _ ho hg hk (fun w => by rw [nthO_eq] at hv; simp at hv; simp [execOp, hx, Instr.extract, hv]) h
theorem wk_not {x : Operand} (b : Bool) {xt : TypeId} (ho : nthO R i = some ⟨dst, .unOp .not xt x, ty, pos, aft, gd⟩) (hg : gok R gd l = true) (hk : kd i = .P) (hx : ev l x = .bool b)
    (h : Wk P X w0 R kd N π (putL l dst (.bool (!b))) M) : Wk P X w0 R kd N (i :: π) l M :=
  wk_val _ ho hg hk (fun w => by simp [execOp, hx, Op.unary]) h
theorem wk_pick {x y z : Operand} (b : Bool) (v : Value) (ho : nthO R i = some ⟨dst, .pick x y z, ty, pos, aft, gd⟩) (hg : gok R gd l = true) (hk : kd i = .P) (hx : ev l x = .bool b) (hv : (bif b then ev l y else ev l z) = v)
    (h : Wk P X w0 R kd N π (putL l dst v) M) : Wk P X w0 R kd N (i :: π) l M :=
  wk_val _ ho hg hk (fun w => by subst hv; cases b <;> simp [execOp, hx, asBool]) h

/-- What two whole numbers yield; none: a panic. -/
def iop (op : BinOp) (k : IntKind) (p q : Int) : Option Value :=
  match op with
  | .add => some (.int k (k.wrap (p + q)))
  | .sub => some (.int k (k.wrap (p - q)))
  | .mul => some (.int k (k.wrap (p * q)))
  | .quo => if q = 0 then none else some (.int k (k.wrap (p.tdiv q)))
  | .rem => if q = 0 then none else some (.int k (p.tmod q))
  | .and => some (.int k (k.wrap (BitVec.ofInt k.bits p &&& BitVec.ofInt k.bits q).toNat))
  | .or => some (.int k (k.wrap (BitVec.ofInt k.bits p ||| BitVec.ofInt k.bits q).toNat))
  | .xor => some (.int k (k.wrap (BitVec.ofInt k.bits p ^^^ BitVec.ofInt k.bits q).toNat))
  | .andNot => some (.int k (k.wrap (BitVec.ofInt k.bits p &&& ~~~(BitVec.ofInt k.bits q)).toNat))
  | .shl => if q < 0 then none else some (.int k (k.wrap (p * 2 ^ (min q.toNat k.bits))))
  | .shr => if q < 0 then none else some (.int k (p.fdiv (2 ^ (min q.toNat k.bits))))
  | .eql => some (.bool (p == q))
  | .neq => some (.bool (p != q))
  | .lss => some (.bool (decide (p < q)))
  | .leq => some (.bool (decide (p ≤ q)))
  | .gtr => some (.bool (decide (p > q)))
  | .geq => some (.bool (decide (p ≥ q)))
def isShift : BinOp → Bool | .shl | .shr => true | _ => false

theorem wk_iop {x y : Operand} {op : BinOp} {xt yt : TypeId} {k k' : IntKind} {p q : Int} (v : Value) (ho : nthO R i = some ⟨dst, .binOp op xt x y yt, ty, pos, aft, gd⟩) (hg : gok R gd l = true) (hk : kd i = .P)
    (hx : ev l x = .int k p) (hy : ev l y = .int k' q) (hs : (isShift op || decide (k = k')) = true) (hv : iop op k p q = some v)
    (h : Wk P X w0 R kd N π (putL l dst v) M) : Wk P X w0 R kd N (i :: π) l M :=
  wk_val v ho hg hk (fun w => by
    cases op <;> simp only [isShift, Bool.false_or, decide_eq_true_eq] at hs <;> (try subst hs) <;> simp only [iop, Option.some.injEq] at hv
    case quo => split at hv; cases hv; rename_i h0; obtain rfl := Option.some.inj hv; simp [execOp, hx, hy, eqGuard, binOp, Op.intDiv, h0]
    case rem => split at hv; cases hv; rename_i h0; obtain rfl := Option.some.inj hv; simp [execOp, hx, hy, eqGuard, binOp, Op.intDiv, h0]
    case shl => split at hv; cases hv; rename_i h0; obtain rfl := Option.some.inj hv; simp [execOp, hx, hy, eqGuard, binOp, Op.shift, h0]
    case shr => split at hv; cases hv; rename_i h0; obtain rfl := Option.some.inj hv; simp [execOp, hx, hy, eqGuard, binOp, Op.shift, h0]
    all_goals subst hv; simp [execOp, hx, hy, eqGuard, binOp, Op.intArith, Op.intBits, Op.intCmp]) h

section iops
variable {k : IntKind} {p q : Int}
theorem iop_lss_t (h : p < q) : iop .lss k p q = some (.bool true) := by simp [iop, h]
theorem iop_lss_f (h : ¬ p < q) : iop .lss k p q = some (.bool false) := by simp [iop]; omega
theorem iop_leq_t (h : p ≤ q) : iop .leq k p q = some (.bool true) := by simp [iop, h]
theorem iop_leq_f (h : ¬ p ≤ q) : iop .leq k p q = some (.bool false) := by simp [iop]; omega
theorem iop_gtr_t (h : q < p) : iop .gtr k p q = some (.bool true) := by simp [iop, h]
theorem iop_gtr_f (h : ¬ q < p) : iop .gtr k p q = some (.bool false) := by simp [iop]; omega
theorem iop_geq_t (h : q ≤ p) : iop .geq k p q = some (.bool true) := by simp [iop, h]
theorem iop_geq_f (h : ¬ q ≤ p) : iop .geq k p q = some (.bool false) := by simp [iop]; omega
theorem iop_eql_t (h : p = q) : iop .eql k p q = some (.bool true) := by simp [iop, h]
theorem iop_eql_f (h : ¬ p = q) : iop .eql k p q = some (.bool false) := by simp [iop, h]
theorem iop_neq_t (h : ¬ p = q) : iop .neq k p q = some (.bool true) := by simp [iop, h]
theorem iop_neq_f (h : p = q) : iop .neq k p q = some (.bool false) := by simp [iop, h]
theorem wrap_i64 {n : Int} (h1 : -9223372036854775808 ≤ n) (h2 : n ≤ 9223372036854775807) : IntKind.i64.wrap n = n := by
  rw [IntKind.wrap_i64]; omega
theorem wrap_u64 {n : Int} (h1 : 0 ≤ n) (h2 : n < 18446744073709551616) : IntKind.u64.wrap n = n := by
  rw [IntKind.wrap_u64]; omega
theorem iop_add (h1 : -9223372036854775808 ≤ p + q) (h2 : p + q ≤ 9223372036854775807) : iop .add .i64 p q = some (.int .i64 (p + q)) := by
  simp only [iop]; rw [wrap_i64 h1 h2]
theorem iop_sub (h1 : -9223372036854775808 ≤ p - q) (h2 : p - q ≤ 9223372036854775807) : iop .sub .i64 p q = some (.int .i64 (p - q)) := by
  simp only [iop]; rw [wrap_i64 h1 h2]
theorem iop_mul (h1 : -9223372036854775808 ≤ p * q) (h2 : p * q ≤ 9223372036854775807) : iop .mul .i64 p q = some (.int .i64 (p * q)) := by
  simp only [iop]; rw [wrap_i64 h1 h2]
theorem iop_addu (h1 : 0 ≤ p + q) (h2 : p + q < 18446744073709551616) : iop .add .u64 p q = some (.int .u64 (p + q)) := by
  simp only [iop]; rw [wrap_u64 h1 h2]
theorem iop_to {op : BinOp} {k : IntKind} {p q r : Int} {v : Value} (h : iop op k p q = some v) (e : v = .int k r) : iop op k p q = some (.int k r) := by rw [h, e]
end iops

/-- A new block. -/
theorem wk_make {z : Obj} {mk : Nat → Value} (ho : nthO R i = some ⟨dst, op, ty, pos, aft, none⟩) (hk : kd i = .A) (hv : ∀ w : World, (execOp (ev l) ⟨dst, op, ty, pos, aft, none⟩).run P w = .ok (.value (mk w.heap.size)) (w.alloc z))
    (h : ∀ β, Wk P X w0 R kd N π (putL l dst (mk β)) (M ++ [(β, z)])) : Wk P X w0 R kd N (i :: π) l M := by
  refine ⟨⟨_, nthO_arr ho, ?_⟩⟩
  rw [hk]
  refine ⟨z, mk, ⟨rfl, fun w => by rw [eval_env]; exact hv w⟩, fun β => ?_⟩
  rw [put_env]; exact (h β).out
theorem wk_alloc {t : TypeId} {z : Value} (ho : nthO R i = some ⟨dst, .alloc t, ty, pos, aft, none⟩) (hk : kd i = .A) (hz : (P.info? t).bind (·.zero) = some z)
    (h : ∀ β, Wk P X w0 R kd N π (putL l dst (.pointer (some ⟨β, 0, none⟩))) (M ++ [(β, .cells z.cells t (0, 0))])) : Wk P X w0 R kd N (i :: π) l M := by
  refine wk_make (mk := fun β => .pointer (some ⟨β, 0, none⟩)) ho hk (fun w => ?_) h
  cases hq : P.info? t with
  | none => simp [hq] at hz
  | some d =>
    have hz' : d.zero = some z := by simpa [hq] using hz
    simp [execOp, Instr.alloc, zeroValue, typeInfo, hq, hz', newVar, newRow, Value.cells]
theorem wk_box {t : TypeId} {x : Operand} (v : Value) (ho : nthO R i = some ⟨dst, .box t x, ty, pos, aft, none⟩) (hk : kd i = .A) (hv : ev l x = v)
    (h : ∀ β, Wk P X w0 R kd N π (putL l dst (.pointer (some ⟨β, 0, none⟩))) (M ++ [(β, .cells v.cells t (0, 0))])) : Wk P X w0 R kd N (i :: π) l M :=
  wk_make (mk := fun β => .pointer (some ⟨β, 0, none⟩)) ho hk (fun w => by simp [execOp, hv, Instr.box, newVar, newRow]) h

/-- A value that hangs on memory. -/
theorem wk_look (v : Value) (ho : nthO R i = some ⟨dst, op, ty, pos, aft, gd⟩) (hg : gok R gd l = true) (hk : kd i = .L)
    (hv : ∀ w, (∀ p ∈ M, w.heap[p.1]? = some p.2) → (execOp (ev l) ⟨dst, op, ty, pos, aft, gd⟩).run P w = .ok (.value v) w)
    (h : Wk P X w0 R kd N π (putL l dst v) M) : Wk P X w0 R kd N (i :: π) l M := by
  refine ⟨⟨_, nthO_arr ho, ?_⟩⟩
  rw [hk]
  refine ⟨v, .inl ⟨gok_wanted hg, fun M' w hm hw => by rw [eval_env]; exact hv w (fun p hp => hw.own p (hm p hp))⟩, ?_⟩
  rw [put_env]; exact h.out
/-- A whole variable (a struct, an array) is read. -/
theorem wk_load {t t' : TypeId} {x : Operand} {β : Nat} {cs : Array Value} {fz : Nat × Nat} {d : TypeDesc} (j : Nat) (ho : nthO R i = some ⟨dst, .load t x, ty, pos, aft, gd⟩) (hg : gok R gd l = true) (hk : kd i = .L)
    (hx : ev l x = .pointer (some ⟨β, 0, none⟩)) (hj : nthO M j = some (β, .cells cs t' fz)) (hu : P.underlying t = some d) (hd : d.isRow = true) (hn : (P.info? t).map (·.size) = some cs.size)
    (h : Wk P X w0 R kd N π (putL l dst (.agg cs)) M) : Wk P X w0 R kd N (i :: π) l M :=
  wk_look _ ho hg hk (fun w hw => by
    have hm : (β, Obj.cells cs t' fz) ∈ M := by rw [nthO_eq] at hj; exact List.mem_of_getElem? hj
    simp only [execOp, hx, Instr.loadAt, Instr.sureAddr, Sem.run_bind, Sem.run_pure, Result.andThen_ok, run_loadVar_row w β t' t cs fz d (hw _ hm) hu (by cases d <;> first | rfl | exact hd) hn]) h
/-- One cell is read. -/
theorem wk_cell {t t' : TypeId} {x : Operand} {β o : Nat} {cs : Array Value} {fz : Nat × Nat} {d : TypeDesc} {v : Value} (j : Nat) (ho : nthO R i = some ⟨dst, .load t x, ty, pos, aft, gd⟩) (hg : gok R gd l = true) (hk : kd i = .L)
    (hx : ev l x = .pointer (some ⟨β, o, none⟩)) (hj : nthO M j = some (β, .cells cs t' fz)) (hu : P.underlying t = some d) (hd : d.isRow = false) (hv : cs[o]? = some v)
    (h : Wk P X w0 R kd N π (putL l dst v) M) : Wk P X w0 R kd N (i :: π) l M :=
  wk_look _ ho hg hk (fun w hw => by
    have hm : (β, Obj.cells cs t' fz) ∈ M := by rw [nthO_eq] at hj; exact List.mem_of_getElem? hj
    have hagg : (isAgg t).run P w = .ok false w := by
      unfold isAgg
      rw [Sem.run_bind, run_underlying hu w]
      cases d <;> simp_all
    have hc : w.cell? ⟨β, o, none⟩ = some v := by rw [cell_of_row w β o cs t' fz (hw _ hm)]; exact hv
    simp [execOp, hx, Instr.loadAt, Instr.sureAddr, loadVar, hagg, hc]) h

/-- A block is turned. -/
theorem wk_turn {β : Nat} {o' : Obj} (j : Nat) {ob : Obj} (ho : nthO R i = some ⟨dst, op, ty, pos, aft, gd⟩) (hg : gok R gd l = true) (hk : kd i = .W) (hj : nthO M j = some (β, ob))
    (hv : ∀ w, w.heap[β]? = some ob → ∃ w', (execOp (ev l) ⟨dst, op, ty, pos, aft, gd⟩).run P w = .ok .skip w' ∧ w'.os = w.os ∧ w'.tape = w.tape ∧ w'.output = w.output ∧ w'.heap.size = w.heap.size ∧ (∀ k, k ≠ β → w'.heap[k]? = w.heap[k]?) ∧ w'.heap[β]? = some o')
    (h : Wk P X w0 R kd N π (putL l dst undef) (M.set j (β, o'))) : Wk P X w0 R kd N (i :: π) l M := by
  refine ⟨⟨_, nthO_arr ho, ?_⟩⟩
  rw [hk]
  refine .inl ⟨gok_wanted hg, fun w hw => ?_⟩
  rw [nthO_eq] at hj
  rw [eval_env]
  obtain ⟨w', e, h1, h2, h3, h4, h5, h6⟩ := hv w (hw.own _ (List.mem_of_getElem? hj))
  rw [e]
  exact ⟨_, hw.turn hj h1 h2 h3 h4 h5 h6, by rw [put_env]; exact h.out⟩
theorem setRow_facts {w : World} {β : Nat} {old : Array Value} {t : TypeId} {fz : Nat × Nat} (cs : Array Value) (hg : w.heap[β]? = some (.cells old t fz)) :
    (w.setRow β cs).os = w.os ∧ (w.setRow β cs).tape = w.tape ∧ (w.setRow β cs).output = w.output ∧ (w.setRow β cs).heap.size = w.heap.size ∧ (∀ k, k ≠ β → (w.setRow β cs).heap[k]? = w.heap[k]?) ∧ (w.setRow β cs).heap[β]? = some (.cells cs t fz) :=
  ⟨rfl, rfl, rfl, by simp [World.setRow], fun k hk => setRow_other w β k cs hk, setRow_heap w β old cs t fz hg⟩
/-- A whole variable is written. -/
theorem wk_store {t t' : TypeId} {x y : Operand} {β : Nat} {old cells : Array Value} (j : Nat) (ho : nthO R i = some ⟨dst, .store t x y, ty, pos, aft, gd⟩) (hg : gok R gd l = true) (hk : kd i = .W)
    (hx : ev l x = .pointer (some ⟨β, 0, none⟩)) (hy : ev l y = .agg cells) (hj : nthO M j = some (β, .cells old t' (0, 0))) (hn : (P.info? t).map (·.size) = some cells.size) (hs : old.size = cells.size) (h1 : cells.all (·.oneCell') = true)
    (h : Wk P X w0 R kd N π (putL l dst undef) (M.set j (β, .cells cells t' (0, 0)))) : Wk P X w0 R kd N (i :: π) l M :=
  wk_turn j ho hg hk hj (fun w hw => ⟨w.setRow β cells, by
    simp [execOp, hx, hy, Instr.storeAt, Instr.sureAddr, run_storeVar_row w β t' t old cells hw hn hs h1], setRow_facts cells hw⟩) h

/-- The place of an array's element. -/
theorem wk_idx {t e : TypeId} {x y : Operand} {β o n : Nat} {k : IntKind} {p : Int} (j q : Nat) (ho : nthO R i = some ⟨dst, .indexAddr t x y, ty, pos, aft, gd⟩) (hg : gok R gd l = true) (hk : kd i = .P)
    (hx : ev l x = .pointer (some ⟨β, o, none⟩)) (hy : ev l y = .int k p) (ht : P.underlying t = some (.array n e)) (hs : (P.info? e).map (·.size) = some q) (hp : p = (j : Int)) (hj : j < n)
    (h : Wk P X w0 R kd N π (putL l dst (.pointer (some ⟨β, o + j * q, none⟩))) M) : Wk P X w0 R kd N (i :: π) l M :=
  wk_val _ ho hg hk (fun w => by
    subst hp
    cases hq : P.info? e with
    | none => simp [hq] at hs
    | some d =>
      have hd : d.size = q := by simpa [hq] using hs
      have e1 : (⟨β, o, none⟩ : Addr).add (j * q) = ⟨β, o + j * q, none⟩ := Addr.add_mid β o _
      simp [execOp, hx, hy, Instr.indexAt, asIntOf, Sem.run_bind, run_underlying ht, Instr.sureAddr, sizeOf, typeInfo, hq, hd, hj, e1]) h

/-- Which function a call enters. -/
def Enters (P : Program) (f : FuncId) : Prop := ∀ (args : Array Value) (w : World), (callFunc f args).run P w = .ok (.enter f args) w

def mapV (l : List Value) : List Operand → List Value
  | [] => []
  | x :: xs => ev l x :: mapV l xs
theorem mapV_eq (l : List Value) : ∀ xs : List Operand, mapV l xs = xs.map (ev l)
  | [] => rfl
  | x :: xs => by rw [mapV, mapV_eq l xs]; rfl
theorem run_enter {f : FuncId} {xs : Array Operand} {ts : Array TypeId} {vs : List Value} (hE : Enters P f) (hx : mapV l xs.toList = vs) (w : World) :
    (execOp (ev l) ⟨dst, .call ⟨.value (.func f), xs, ts⟩, ty, pos, aft, gd⟩).run P w = .ok (.enter f vs.toArray) w := by
  have hxs : xs.map (ev l) = vs.toArray := by rw [← hx, mapV_eq, ← Array.toList_map, Array.toArray_toList]
  simp only [execOp, resolve, hxs, ev, Deferred.ofValue, invoke, pure_bind, Array.empty_append, Array.append_empty]
  exact hE _ w
/-- A call that turns nothing, and makes nothing that is known. -/
theorem wk_call {f : FuncId} {xs : Array Operand} {ts : Array TypeId} (vs : List Value) (v : Value) (ho : nthO R i = some ⟨dst, .call ⟨.value (.func f), xs, ts⟩, ty, pos, aft, gd⟩) (hg : gok R gd l = true) (hk : kd i = .G) (hE : Enters P f)
    (hx : mapV l xs.toList = vs) (hc : ∀ w, Calls P f vs.toArray w fun e w' => e = .returned v ∧ Below w.heap.size w w')
    (h : Wk P X w0 R kd N π (putL l dst v) M) : Wk P X w0 R kd N (i :: π) l M := by
  refine ⟨⟨_, nthO_arr ho, ?_⟩⟩
  rw [hk]
  refine ⟨fun u δ => u = v ∧ δ = [], ⟨_, _, rfl, rfl⟩, .inl ⟨gok_wanted hg, fun M' w hm hw => ?_⟩, fun u δ ⟨e1, e2⟩ => ?_⟩
  · rw [eval_env, run_enter hE hx]
    exact (hc w).mono fun e w' ⟨e1, hB⟩ => ⟨v, [], e1, ⟨rfl, rfl⟩, by rw [List.append_nil]; exact hw.kept hB⟩
  · subst e1 e2
    rw [put_env, List.append_nil]; exact h.out
theorem conv {f : FuncId} {args : Array Value} {v v' : Value} (h : v = v') (hc : ∀ w, Calls P f args w fun e w' => e = .returned v ∧ Below w.heap.size w w') : ∀ w, Calls P f args w fun e w' => e = .returned v' ∧ Below w.heap.size w w' := h ▸ hc

/-- What a function hands back. -/
structure RetS (P : Program) (w0 : World) (X : Nat → Prop) (fn : Func) (R : Ending → World → Prop) (l : List Value) (M : Mem) : Prop where
  out : ∃ v, (∀ w', St X w0 w' M → (results fn l.toArray).run P w' = .ok v w') ∧ ∀ w', St X w0 w' M → R (.returned v) w'
def RetQ (P : Program) (w0 : World) (X : Nat → Prop) (fn : Func) (R : Ending → World → Prop) : Exit → List Value → Mem → Prop
  | .normal, l, M | .ret, l, M => RetS P w0 X fn R l M
  | _, _, _ => False
def bodyF (fn : Func) : Code := match fn.body with | some c => c | none => .skip
theorem fn_calls {f : FuncId} {fn : Func} {args : Array Value} {w : World} {Rr : Ending → World → Prop} {l0 : List Value} (hf : P.funcs[f]? = some fn) (hb0 : fn.body.isSome = true)
    (hl : args.toList ++ List.replicate (fn.ntmps - args.size) undef = l0) (M : Mem) (hM : St X w w M) (h : Sp P X w (bodyF fn) (RetQ P w X fn Rr) l0 M) : Calls P f args w Rr := by
  have hb : fn.body = some (bodyF fn) := by unfold bodyF; cases h : fn.body with | none => rw [h] at hb0; cases hb0 | some c => rfl
  refine calls_of_wp hf hb ?_
  have h1 := h.out w hM
  have he : env l0 = { tmps := args ++ Array.replicate (fn.ntmps - args.size) undef, defers := [] } := by
    rw [← hl]; simp [env]
  rw [he] at h1
  refine Code.wp_mono ?_ h1
  rintro e a w' ⟨M', hst, l', rfl, hq⟩
  cases e <;> simp only [RetQ] at hq
  · obtain ⟨v, h2, h3⟩ := hq.out; exact ⟨rfl, v, h2 w' hst, h3 w' hst⟩
  · obtain ⟨v, h2, h3⟩ := hq.out; exact ⟨rfl, v, h2 w' hst, h3 w' hst⟩
theorem ret_tmps {fn : Func} {Rr : Ending → World → Prop} {v : Value} (hv : ∀ w', (results fn l.toArray).run P w' = .ok v w') (h : ∀ w', St X w0 w' M → Rr (.returned v) w') : RetS P w0 X fn Rr l M := ⟨v, fun w' _ => hv w', h⟩
end
end Go.Proofs.Ytmecomgifmkkfaa
