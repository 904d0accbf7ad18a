/- The calculus of walks: regions that draw their order: one walk serves, in any order in which operations that do not wait for one another may pass one another. No program in sight. -/
import Derived.Test.YtmecomgifmkkfaaSym
namespace Go.Proofs.Ytmecomgifmkkfaa
set_option linter.unusedVariables false
set_option linter.unusedSimpArgs false
open Go.RowKit

section
variable {P : Program} {X : Nat → Prop} {w0 : World} {ops : Array Oper}

theorem World.alloc_inj {w : World} {z z' : Obj} (h : w.alloc z = w.alloc z') : z = z' := by
  have h1 : (w.alloc z).heap[w.heap.size]? = (w.alloc z').heap[w.heap.size]? := by rw [h]
  rw [heap_alloc_new, heap_alloc_new] at h1
  exact Option.some.inj h1

theorem Yields.uniq {o : Oper} {u v : Value} {a : Act} (h1 : Yields P ops o u a) (h2 : Yields P ops o v a) : u = v := by
  rcases h1 with ⟨h1, h3⟩ | ⟨h1, rfl⟩ <;> rcases h2 with ⟨h2, h4⟩ | ⟨h2, rfl⟩
  · have := (h3 default).symm.trans (h4 default)
    injection this with this
    injection this
  · rw [h1] at h2; cases h2
  · rw [h1] at h2; cases h2
  · rfl
theorem Makes.uniq {o : Oper} {z z' : Obj} {mk mk' : Nat → Value} {a : Act} (h1 : Makes P o z mk a) (h2 : Makes P o z' mk' a) : z = z' ∧ ∀ w : World, mk w.heap.size = mk' w.heap.size := by
  refine ⟨?_, fun w => ?_⟩
  · have := (h1.2 default).symm.trans (h2.2 default)
    injection this with _ h
    exact World.alloc_inj h
  · have := (h1.2 w).symm.trans (h2.2 w)
    injection this with h _
    injection h
theorem Makes.uniqAt {o : Oper} {z z' : Obj} {mk mk' : Nat → Value} {a : Act} (h1 : Makes P o z mk a) (h2 : Makes P o z' mk' a) : z = z' ∧ mk = mk' := by
  have h := Makes.uniq h1 h2
  refine ⟨h.1, funext fun n => ?_⟩
  have := h.2 { (default : World) with heap := Array.replicate n default }
  simpa using this

/-- What an operation is told does not change by what another one, apart from it, leaves in its slot. -/
theorem same_put {o : Oper} (hs : ∀ cs b, o.op ≠ .select cs b) (a : Act) (dst : Option Tmp) (v : Value) (h : ∀ d, dst = some d → d ∉ o.looksAt ops) :
    execOp (a.put dst v).eval o = execOp a.eval o ∧ Region.wanted o (yielded ops (a.put dst v).tmps) = Region.wanted o (yielded ops a.tmps) :=
  ⟨execOp_put o hs a dst v h, wanted_put o a dst v h⟩

theorem YieldsL.same {o : Oper} {v : Value} {a a' : Act} {M M' : Mem} (hy : YieldsL P X w0 ops o v a M) (he : execOp a'.eval o = execOp a.eval o)
    (hw : Region.wanted o (yielded ops a'.tmps) = Region.wanted o (yielded ops a.tmps)) (hM : ∀ p ∈ M, p ∈ M') : YieldsL P X w0 ops o v a' M' := by
  unfold YieldsL at *
  rw [he, hw]
  rcases hy with ⟨h1, h2⟩ | h1
  · exact .inl ⟨h1, fun M1 w hm hst => h2 M1 w (fun p hp => hm p (hM p hp)) hst⟩
  · exact .inr h1
theorem Grows.same {o : Oper} {Φ : Value → Mem → Prop} {a a' : Act} {M M' : Mem} (hy : Grows P X w0 ops o Φ a M) (he : execOp a'.eval o = execOp a.eval o)
    (hw : Region.wanted o (yielded ops a'.tmps) = Region.wanted o (yielded ops a.tmps)) (hM : ∀ p ∈ M, p ∈ M') : Grows P X w0 ops o Φ a' M' := by
  unfold Grows at *
  rw [he, hw]
  rcases hy with ⟨h1, h2⟩ | h1
  · exact .inl ⟨h1, fun M1 w hm hst => h2 M1 w (fun p hp => hm p (hM p hp)) hst⟩
  · exact .inr h1
theorem Makes.same {o : Oper} {z : Obj} {mk : Nat → Value} {a a' : Act} (hy : Makes P o z mk a) (he : execOp a'.eval o = execOp a.eval o) : Makes P o z mk a' := by
  unfold Makes at *
  rw [he]
  exact hy

/-- A value that hangs on the text and on memory as it is known: the first one passes the second one. -/
theorem T_pass_val {oi oj : Oper} {kj : Kd} {v : Value} {K : Act → Mem → Prop} {a : Act} {M : Mem} (hkj : kj ≠ .W)
    (hsi : ∀ cs b, oi.op ≠ .select cs b) (hsj : ∀ cs b, oj.op ≠ .select cs b) (hap : oi.apart ops oj = true)
    (h : T P X w0 ops kj oj K (a.put oi.dst v) M) (V : Act → Mem → Prop)
    (hV : V a M) (keep : ∀ u δ, V a M → V (a.put oj.dst u) (M ++ δ)) :
    T P X w0 ops kj oj (fun a' M' => V a' M' ∧ K (a'.put oi.dst v) M') a M := by
  obtain ⟨h1, h2, h3⟩ := Oper.apart_spec hap
  obtain ⟨e1, e2⟩ := same_put hsj a oi.dst v h1
  have keep0 : ∀ u, V a M → V (a.put oj.dst u) M := fun u hv => by simpa using keep u [] hv
  cases kj <;> simp only [T] at h ⊢
  · obtain ⟨u, hy, hK⟩ := h
    exact ⟨u, hy.of_same e1.symm e2.symm, keep0 _ hV, by rw [← Act.put_comm a v u h2]; exact hK⟩
  · obtain ⟨u, hy, hK⟩ := h
    exact ⟨u, hy.same e1.symm e2.symm (fun _ h => h), keep0 _ hV, by rw [← Act.put_comm a v u h2]; exact hK⟩
  · obtain ⟨Φ, h0, hy, hK⟩ := h
    exact ⟨Φ, h0, hy.same e1.symm e2.symm (fun _ h => h), fun u δ hu => ⟨keep _ _ hV, by rw [← Act.put_comm a v u h2]; exact hK u δ hu⟩⟩
  · obtain ⟨z, mk, hy, hK⟩ := h
    exact ⟨z, mk, hy.same e1.symm, fun β => ⟨keep _ _ hV, by rw [← Act.put_comm a v _ h2]; exact hK β⟩⟩
  · exact absurd rfl hkj

theorem T_comm {oi oj : Oper} {ki kj : Kd} {K : Act → Mem → Prop} (hK : Permed K) (hp : ki.mayPass kj = true)
    (hsi : ∀ cs b, oi.op ≠ .select cs b) (hsj : ∀ cs b, oj.op ≠ .select cs b) (hap : oi.apart ops oj = true) {a : Act} {M : Mem}
    (h : T P X w0 ops ki oi (T P X w0 ops kj oj K) a M) : T P X w0 ops kj oj (T P X w0 ops ki oi K) a M := by
  obtain ⟨h1, h2, h3⟩ := Oper.apart_spec hap
  have ei := fun (a : Act) (v : Value) => same_put hsi a oj.dst v h3
  have ej := fun (a : Act) (v : Value) => same_put hsj a oi.dst v h1
  cases ki <;> simp only [Kd.mayPass] at hp
  · -- P
    simp only [T] at h
    obtain ⟨v, hy, hT⟩ := h
    by_cases hkj : kj = .W
    · subst hkj
      simp only [T] at hT ⊢
      have keep : ∀ u, Yields P ops oi v (a.put oj.dst u) := fun u => hy.of_same (ei a u).1 (ei a u).2
      rcases hT with ⟨hw, hr⟩ | ⟨hw, hr⟩
      · refine .inl ⟨(ej a v).2.symm.trans hw, fun w hst => ?_⟩
        have hr' := hr w hst
        rw [(ej a v).1] at hr'
        generalize (execOp a.eval oj).run P w = r at *
        cases r with
        | ok n w' =>
          cases n <;> simp only [WUpon] at hr' ⊢
          case value u => obtain ⟨M', h5, h6⟩ := hr'; exact ⟨M', h5, v, keep u, by rw [← Act.put_comm a v u h2]; exact h6⟩
          case skip => obtain ⟨M', h5, h6⟩ := hr'; exact ⟨M', h5, v, keep _, by rw [← Act.put_comm a v _ h2]; exact h6⟩
          case enter f args => exact Calls.mono hr' fun e w'' ⟨u, M', h4, h5, h6⟩ => ⟨u, M', h4, h5, v, keep u, by rw [← Act.put_comm a v u h2]; exact h6⟩
        | halt x w' => simp only [WUpon] at hr'
      · exact .inr ⟨(ej a v).2.symm.trans hw, v, keep _, by rw [← Act.put_comm a v _ h2]; exact hr⟩
    · have := T_pass_val hkj hsi hsj hap hT (fun a' _ => Yields P ops oi v a') hy (fun u _ _ => hy.of_same (ei a u).1 (ei a u).2)
      exact T_mono (fun a' M' ⟨h4, h5⟩ => by simp only [T]; exact ⟨v, h4, h5⟩) this
  · -- L
    have hkj : kj ≠ .W := by rintro rfl; cases hp
    simp only [T] at h
    obtain ⟨v, hy, hT⟩ := h
    have := T_pass_val hkj hsi hsj hap hT (fun a' M' => YieldsL P X w0 ops oi v a' M') hy (fun u δ _ => hy.same (ei a u).1 (ei a u).2 (fun p hp => List.mem_append_left _ hp))
    exact T_mono (fun a' M' ⟨h4, h5⟩ => by simp only [T]; exact ⟨v, h4, h5⟩) this
  · -- G
    simp only [T] at h
    obtain ⟨Φ, ⟨v0, δ0, h0⟩, hy, hT⟩ := h
    cases kj <;> simp only [Kd.mayPass, Bool.false_eq_true] at hp
    · simp only [T] at hT ⊢
      obtain ⟨u, hu, _⟩ := hT v0 δ0 h0
      have hu' : Yields P ops oj u a := hu.of_same (ej a v0).1.symm (ej a v0).2.symm
      refine ⟨u, hu', Φ, ⟨v0, δ0, h0⟩, hy.same (ei a u).1 (ei a u).2 (fun _ h => h), fun v δ hv => ?_⟩
      obtain ⟨u1, hu1, hK1⟩ := hT v δ hv
      obtain rfl := Yields.uniq (hu1.of_same (ej a v).1.symm (ej a v).2.symm) hu'
      rw [← Act.put_comm a v u1 h2]; exact hK1
    · simp only [T] at hT ⊢
      obtain ⟨z, mk, hu, _⟩ := hT v0 δ0 h0
      have hu' : Makes P oj z mk a := hu.same (ej a v0).1.symm
      refine ⟨z, mk, hu', fun β => ⟨Φ, ⟨v0, δ0, h0⟩, hy.same (ei a _).1 (ei a _).2 (fun p hp => List.mem_append_left _ hp), fun v δ hv => ?_⟩⟩
      obtain ⟨z1, mk1, hu1, hK1⟩ := hT v δ hv
      obtain ⟨rfl, rfl⟩ := Makes.uniqAt (hu1.same (ej a v).1.symm) hu'
      have := hK1 β
      rw [← Act.put_comm a v _ h2]
      refine hK _ _ _ ?_ this
      rw [List.append_assoc, List.append_assoc]
      exact List.Perm.append_left _ List.perm_append_comm
  · -- A
    simp only [T] at h
    obtain ⟨z, mk, hy, hT⟩ := h
    cases kj <;> simp only [Kd.mayPass, Bool.false_eq_true] at hp
    · simp only [T] at hT ⊢
      obtain ⟨u, hu, _⟩ := hT 0
      have hu' : Yields P ops oj u a := hu.of_same (ej a _).1.symm (ej a _).2.symm
      refine ⟨u, hu', z, mk, hy.same (ei a u).1, fun β => ?_⟩
      obtain ⟨u1, hu1, hK1⟩ := hT β
      obtain rfl := Yields.uniq (hu1.of_same (ej a _).1.symm (ej a _).2.symm) hu'
      rw [← Act.put_comm a _ u1 h2]; exact hK1
    · simp only [T] at hT ⊢
      obtain ⟨y, mk2, hu, _⟩ := hT 0
      have hu' : Makes P oj y mk2 a := hu.same (ej a _).1.symm
      refine ⟨y, mk2, hu', fun γ => ⟨z, mk, hy.same (ei a _).1, fun β => ?_⟩⟩
      obtain ⟨y1, mk1, hu1, hK1⟩ := hT β
      obtain ⟨rfl, rfl⟩ := Makes.uniqAt (hu1.same (ej a _).1.symm) hu'
      have := hK1 γ
      rw [← Act.put_comm a _ _ h2]
      refine hK _ _ _ ?_ this
      rw [List.append_assoc, List.append_assoc]
      exact List.Perm.append_left _ List.perm_append_comm
  · cases hp

/-- Which operations have not come up. -/
def unl (ops : Array Oper) (listed : Array Bool) : List Nat := (List.range ops.size).filter fun i => !listed.getD i true

theorem unl_len {i : Nat} {listed : Array Bool} (hi : i < ops.size) (h : listed.getD i true = false) : (unl ops listed).length = (unl ops (listed.setIfInBounds i true)).length + 1 := by
  have hlt : i < listed.size := by
    rcases Nat.lt_or_ge i listed.size with h1 | h1
    · exact h1
    · rw [Array.getD_eq_getD_getElem?, Array.getElem?_eq_none h1] at h; cases h
  have hnd : (unl ops listed).Nodup := List.Pairwise.filter _ List.nodup_range
  have hm : i ∈ unl ops listed := List.mem_filter.2 ⟨List.mem_range.2 hi, by rw [h]; rfl⟩
  have he : unl ops (listed.setIfInBounds i true) = (unl ops listed).erase i := by
    rw [hnd.erase_eq_filter]
    unfold unl
    rw [List.filter_filter]
    refine List.filter_congr fun j _ => ?_
    by_cases hj : i = j
    · subst hj; simp [hlt]
    · rw [getD_set_ne true hj]
      have : (j != i) = true := by simp; exact fun e => hj e.symm
      rw [this, Bool.true_and]
  rw [he, List.length_erase_of_mem hm]
  have : 0 < (unl ops listed).length := List.length_pos_of_mem hm
  omega

/-- What has come up has come up behind what it waits for. -/
def closedL (ops : Array Oper) (listed : Array Bool) : Prop := ∀ (k : Nat) (ok : Oper), ops[k]? = some ok → listed.getD k true = true → ∀ e ∈ ok.after, Region.binds .any e = true → listed.getD e.on false = true

theorem closed_set {listed : Array Bool} {j : Nat} (h : closedL ops listed) (hj : j ∈ Region.ready .any ops listed) : closedL ops (listed.setIfInBounds j true) := by
  obtain ⟨hju, oj, hoj, hall⟩ := mem_ready.1 hj
  intro k ok hk hl e he hb
  refine getD_set_true ?_
  by_cases hjk : j = k
  · subst hjk
    obtain rfl := Option.some.inj (hoj.symm.trans hk)
    exact hall e he hb
  · rw [getD_set_ne true hjk] at hl
    exact h k ok hk hl e he hb

/-- Those that wait for i, at first hand or not: a mask of bits. -/
def waitFor : List Oper → Nat → Nat → Nat
  | [], _, D => D
  | o :: l, j, D => waitFor l (j + 1) (bif o.after.toList.any (fun e => Region.binds .any e && D.testBit e.on) then D ||| (1 <<< j) else D)

theorem waitFor_spec {i : Nat} {listed : Array Bool} (hcl : closedL ops listed) (hi : listed.getD i true = false) :
    ∀ (l : List Oper) (j D : Nat), (∀ m, m < l.length → l[m]? = ops[j + m]?) →
      (∀ k, D.testBit k = true → listed.getD k true = false ∧ (k = i ∨ k ∉ Region.ready .any ops listed)) →
      ∀ k, (waitFor l j D).testBit k = true → listed.getD k true = false ∧ (k = i ∨ k ∉ Region.ready .any ops listed)
  | [], _, _, _, hD => hD
  | o :: l, j, D, hl, hD => by
    refine waitFor_spec hcl hi l (j + 1) _ (fun m hm => by have := hl (m + 1) (by simp; omega); simpa [Nat.add_assoc, Nat.add_comm 1 m] using this) ?_
    have h0 : ops[j]? = some o := by simpa using (hl 0 (by simp)).symm
    intro k hk
    cases hc : o.after.toList.any (fun e => Region.binds .any e && D.testBit e.on) with
    | false => rw [hc] at hk; exact hD k hk
    | true =>
      rw [hc] at hk
      simp only [cond_true, Nat.testBit_or, Bool.or_eq_true] at hk
      rcases hk with hk | hk
      · exact hD k hk
      · rw [Nat.one_shiftLeft, Nat.testBit_two_pow] at hk
        obtain rfl : j = k := by simpa using hk
        obtain ⟨e, he, hb⟩ := List.any_eq_true.1 hc
        simp only [Bool.and_eq_true] at hb
        have hun := (hD _ hb.2).1
        have he' : e ∈ o.after := by simpa using he
        have hone : listed.getD e.on false = true → False := fun h => by
          rcases Nat.lt_or_ge e.on listed.size with h' | h'
          · simp [h'] at hun h; rw [hun] at h; cases h
          · simp [Array.getElem?_eq_none h'] at h
        refine ⟨?_, .inr fun hr => ?_⟩
        · cases hjl : listed.getD j true with
          | false => rfl
          | true => exact (hone (hcl j o h0 hjl e he' hb.1)).elim
        · obtain ⟨_, oj, hoj, hall⟩ := mem_ready.1 hr
          obtain rfl := Option.some.inj (hoj.symm.trans h0)
          exact hone (hall e he' hb.1)

/-- Whatever order the operations take. -/
def anyS (P : Program) (X : Nat → Prop) (w0 : World) (ops : Array Oper) (kd : Nat → Kd) (Q : Act → Mem → Prop) : Nat → Array Bool → Act → Mem → Prop
  | 0, listed, a, M => Region.ready .any ops listed = [] ∧ Q a M
  | f + 1, listed, a, M => Region.ready .any ops listed ≠ [] ∧ ∀ i ∈ Region.ready .any ops listed, ∃ o, ops[i]? = some o ∧ T P X w0 ops (kd i) o (anyS P X w0 ops kd Q f (listed.setIfInBounds i true)) a M

variable {kd : Nat → Kd} {Q : Act → Mem → Prop}

theorem anyS_perm (hQ : Permed Q) : ∀ (f : Nat) (listed : Array Bool), Permed (anyS P X w0 ops kd Q f listed)
  | 0, _ => fun _ _ _ hp h => ⟨h.1, hQ _ _ _ hp h.2⟩
  | f + 1, listed => fun _ _ _ hp h => ⟨h.1, fun i hi => by
      obtain ⟨o, ho, ht⟩ := h.2 i hi
      exact ⟨o, ho, T_perm (anyS_perm hQ f _) _ _ _ _ _ hp ht⟩⟩

theorem anyS_first {i : Nat} {oi : Oper} (hQ : Permed Q) (hi : ops[i]? = some oi) (hsel : ∀ (j : Nat) (o : Oper) cs b, ops[j]? = some o → o.op ≠ .select cs b) :
    ∀ (f : Nat) (listed : Array Bool) (a : Act) (M : Mem), (unl ops listed).length = f + 1 → closedL ops listed →
      (∀ listed' j oj, closedL ops listed' → (∀ k, listed.getD k true = true → listed'.getD k true = true) → listed'.getD i true = false → ops[j]? = some oj → j ∈ Region.ready .any ops listed' → j ≠ i → oi.apart ops oj = true ∧ (kd i).mayPass (kd j) = true) →
      i ∈ Region.ready .any ops listed → T P X w0 ops (kd i) oi (anyS P X w0 ops kd Q f (listed.setIfInBounds i true)) a M → anyS P X w0 ops kd Q (f + 1) listed a M := by
  intro f
  induction f with
  | zero =>
    intro listed a M hlen _ _ hr H
    refine ⟨fun h => (by rw [h] at hr; cases hr), fun j hj => ?_⟩
    by_cases hji : j = i
    · subst hji; exact ⟨oi, hi, H⟩
    · exfalso
      have h1 : i ∈ unl ops listed := List.mem_filter.2 ⟨List.mem_range.2 (Array.getElem?_eq_some_iff.1 hi).1, by rw [(mem_ready.1 hr).1]; rfl⟩
      obtain ⟨hjun, oj, hoj, _⟩ := mem_ready.1 hj
      have h2 : j ∈ unl ops listed := List.mem_filter.2 ⟨List.mem_range.2 (Array.getElem?_eq_some_iff.1 hoj).1, by rw [hjun]; rfl⟩
      match h3 : unl ops listed, hlen with
      | [x], _ =>
        rw [h3] at h1 h2
        rw [List.mem_singleton] at h1 h2
        exact hji (h2.trans h1.symm)
  | succ f ih =>
    intro listed a M hlen hcl hfree hr H
    refine ⟨fun h => (by rw [h] at hr; cases hr), fun j hj => ?_⟩
    by_cases hji : j = i
    · subst hji; exact ⟨oi, hi, H⟩
    · obtain ⟨hjun, oj, hoj, hall⟩ := mem_ready.1 hj
      have hun := (mem_ready.1 hr).1
      obtain ⟨hap, hpass⟩ := hfree listed j oj hcl (fun _ h => h) hun hoj hj hji
      refine ⟨oj, hoj, ?_⟩
      have h1 : T P X w0 ops (kd i) oi (T P X w0 ops (kd j) oj (anyS P X w0 ops kd Q f ((listed.setIfInBounds i true).setIfInBounds j true))) a M :=
        T_mono (fun a' M' h => by
          obtain ⟨o', ho', h'⟩ := h.2 j (ready_mono hj hji)
          obtain rfl := Option.some.inj (ho'.symm.trans hoj)
          exact h') H
      have h2 := T_comm (anyS_perm hQ f _) hpass (fun cs b => hsel i oi cs b hi) (fun cs b => hsel j oj cs b hoj) hap h1
      refine T_mono (fun a' M' h3 => ?_) h2
      refine ih (listed.setIfInBounds j true) a' M' ?_ (closed_set hcl hj) ?_ (ready_mono hr (Ne.symm hji)) (by rw [Array.setIfInBounds_comm _ _ hji]; exact h3)
      · have := unl_len (ops := ops) (Array.getElem?_eq_some_iff.1 hoj).1 hjun
        omega
      · intro listed' k ok hcl' hsub hiu hk hkr hki
        refine hfree listed' k ok hcl' (fun m hm => hsub m ?_) hiu hk hkr hki
        by_cases hjm : j = m
        · subst hjm; rw [hjun] at hm; cases hm
        · rw [getD_set_ne true hjm]; exact hm

/-- The walk, in the order π. -/
def walk (P : Program) (X : Nat → Prop) (w0 : World) (ops : Array Oper) (kd : Nat → Kd) (Q : Act → Mem → Prop) : List Nat → Act → Mem → Prop
  | [], a, M => Q a M
  | i :: l, a, M => ∃ o, ops[i]? = some o ∧ T P X w0 ops (kd i) o (walk P X w0 ops kd Q l) a M

/-- May a region be walked in this order, whatever order it draws? -/
def okOrder (ops : Array Oper) (kd : Nat → Kd) : List Nat → Array Bool → Bool
  | [], listed => (Region.ready .any ops listed).isEmpty && (unl ops listed).isEmpty
  | i :: l, listed => (Region.ready .any ops listed).contains i &&
      (let D := waitFor ops.toList 0 (1 <<< i)
       (List.range ops.size).all fun j => D.testBit j || listed.getD j true || match ops[i]?, ops[j]? with
        | some oi, some oj => oi.apart ops oj && (kd i).mayPass (kd j)
        | _, _ => true) && okOrder ops kd l (listed.setIfInBounds i true)

theorem walk_any (hQ : Permed Q) (hs : Region.noSelect ops = true) : ∀ (l : List Nat) (listed : Array Bool) (a : Act) (M : Mem), closedL ops listed → okOrder ops kd l listed = true → walk P X w0 ops kd Q l a M →
    (unl ops listed).length = l.length ∧ anyS P X w0 ops kd Q l.length listed a M
  | [], listed, a, M, _, hok, h => by
    simp only [okOrder, Bool.and_eq_true, List.isEmpty_iff] at hok
    exact ⟨by rw [hok.2], hok.1, h⟩
  | i :: l, listed, a, M, hcl, hok, h => by
    simp only [okOrder, Bool.and_eq_true, List.contains_iff_mem] at hok
    obtain ⟨⟨hr, hf⟩, hok'⟩ := hok
    obtain ⟨o, ho, ht⟩ := h
    have hun := (mem_ready.1 hr).1
    have hlen := unl_len (ops := ops) (Array.getElem?_eq_some_iff.1 ho).1 hun
    have hl : (unl ops (listed.setIfInBounds i true)).length = l.length := by
      -- the count hangs on the order alone
      clear ht hlen hr hf hun hcl
      revert hok'
      generalize listed.setIfInBounds i true = x
      clear ho
      induction l generalizing x with
      | nil => intro h; simp only [okOrder, Bool.and_eq_true, List.isEmpty_iff] at h; rw [h.2]
      | cons k l ih =>
        intro h
        simp only [okOrder, Bool.and_eq_true, List.contains_iff_mem] at h
        obtain ⟨hku, ok, hok, _⟩ := mem_ready.1 h.1.1
        have := unl_len (ops := ops) (Array.getElem?_eq_some_iff.1 hok).1 hku
        rw [this, ih _ h.2]; rfl
    refine ⟨by rw [hlen, hl]; rfl, ?_⟩
    refine anyS_first hQ ho (Region.noSelect_spec hs) l.length listed a M (by rw [hlen, hl]) hcl ?_ hr (T_mono (fun a' M' h' => (walk_any hQ hs l _ a' M' (closed_set hcl hr) hok' h').2) ht)
    intro listed' j oj hcl' hsub hiu hj hjr hne
    have h1 := List.all_eq_true.1 hf j (List.mem_range.2 (Array.getElem?_eq_some_iff.1 hj).1)
    simp only [ho, hj, Bool.or_eq_true, Bool.and_eq_true] at h1
    rcases h1 with (h1 | h1) | h1
    · have := (waitFor_spec hcl' hiu ops.toList 0 (1 <<< i) (fun m hm => by simp) (fun k hk => by
        rw [Nat.one_shiftLeft, Nat.testBit_two_pow] at hk
        obtain rfl : i = k := by simpa using hk
        exact ⟨hiu, .inl rfl⟩) j h1).2
      rcases this with h | h
      · exact absurd h hne
      · exact absurd hjr h
    · have := hsub j h1
      rw [(mem_ready.1 hjr).1] at this; cases this
    · exact h1

theorem any_wp {Q' : Exit → Act → World → Prop} (hQ' : ∀ a M w, St X w0 w M → Q a M → Q' .normal a w) : ∀ (f : Nat) (listed : Array Bool) (a : Act) (M : Mem) (w : World), St X w0 w M →
    anyS P X w0 ops kd Q f listed a M → wpAny P .any ops Q' f listed a w
  | 0, _, _, _, _, hw, h => ⟨h.1, hQ' _ _ _ hw h.2⟩
  | f + 1, listed, a, M, w, hw, h => ⟨fun h0 => absurd h0 h.1, fun i hi => by
      obtain ⟨o, ho, ht⟩ := h.2 i hi
      exact Works.op ho (T_works ht) hw (fun a' M' w' hw' h' => any_wp hQ' f _ a' M' w' hw' h')⟩

/-- What is asked of a code: from every world of which M says what is known. -/
def swp (P : Program) (X : Nat → Prop) (w0 : World) (c : Code) (Q : Exit → Act → Mem → Prop) (a : Act) (M : Mem) : Prop :=
  ∀ w, St X w0 w M → c.wp P (fun e a' w' => ∃ M', St X w0 w' M' ∧ Q e a' M') a w

/-- A region that draws. -/
theorem swp_draw {id : Nat} {Q : Exit → Act → Mem → Prop} {a : Act} {M : Mem} (π : List Nat) (hm : P.follows .mixedOrders = true) (hs : Region.noSelect ops = true)
    (hok : okOrder ops kd π (Array.replicate ops.size false) = true)
    (h : walk P X w0 ops kd (Q .normal) π a M) : swp P X w0 (.region id ops true) Q a M := by
  intro w hw
  refine wp_region_any hm ?_
  have hw' : St X w0 { w with drawn := w.drawn + 1 } M := hw.drew
  let Q1 : Act → Mem → Prop := fun a M => ∃ M', M'.Perm M ∧ Q .normal a M'
  have hQ1 : Permed Q1 := fun a M M' hp ⟨M1, h1, h2⟩ => ⟨M1, h1.trans hp, h2⟩
  have mono : ∀ (l : List Nat) (a : Act) (M : Mem), walk P X w0 ops kd (Q .normal) l a M → walk P X w0 ops kd Q1 l a M := by
    intro l
    induction l with
    | nil => exact fun a M h => ⟨M, List.Perm.refl _, h⟩
    | cons i l ih => exact fun a M ⟨o, ho, ht⟩ => ⟨o, ho, T_mono ih ht⟩
  have hcl0 : closedL ops (Array.replicate ops.size false) := fun k ok hk hl e he hb => by
    have hlt := (Array.getElem?_eq_some_iff.1 hk).1
    simp [hlt] at hl
  obtain ⟨hlen, hany⟩ := walk_any hQ1 hs π _ a M hcl0 hok (mono π a M h)
  have hsz : π.length = ops.size := by
    rw [← hlen]
    unfold unl
    rw [List.filter_eq_self.2, List.length_range]
    intro i hi
    have := List.mem_range.1 hi
    simp [this]
  rw [← hsz]
  have hany' : anyS P X w0 ops kd Q1 π.length (Array.replicate ops.size false) a M := hany
  rw [hsz] at hany' ⊢
  refine any_wp (Q := Q1) ?_ _ _ _ _ _ hw' hany'
  rintro a M w hw ⟨M', hp, hq⟩
  exact ⟨M', hw.perm hp.symm, hq⟩

/-- A region that does not. -/
theorem swp_region {id : Nat} {Q : Exit → Act → Mem → Prop} {a : Act} {M : Mem} (h : walk P X w0 ops kd (Q .normal) (List.range ops.size) a M) : swp P X w0 (.region id ops false) Q a M := by
  intro w hw
  refine wp_region ?_
  revert h
  generalize List.range ops.size = l
  intro h
  induction l generalizing a M w with
  | nil => exact (show ∃ M', St X w0 w M' ∧ Q .normal a M' from ⟨M, hw, h⟩)
  | cons i l ih =>
    obtain ⟨o, ho, ht⟩ := h
    rw [wpOps_cons]
    exact Works.op ho (T_works ht) hw (fun a' M' w' hw' h' => ih (a := a') (M := M') w' hw' h')

end
end Go.Proofs.Ytmecomgifmkkfaa
