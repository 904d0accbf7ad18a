/- Regions that draw their order and hold calls that make new memory AND 'alloc's of their own: the calls ahead, the allocs behind them in the text, then operations in one forced order. One walk in the order of the text serves every order. No program in sight. -/
import Derived.Test.YtmecomgifmkkfaaOrd
namespace Go.Proofs.Ytmecomgifmkkfaa
set_option linter.unusedVariables false
set_option linter.unusedSimpArgs false
open Go.RowKit

/-- What is asked of an operation's outcome in the world w: the value v, and of a call, that all that was there stays. -/
def EUpon (P : Program) (w : World) (v : Value) : Result Next → Prop
  | .ok (.value u) w' => w' = w ∧ u = v
  | .ok .skip w' => w' = w ∧ v = undef
  | .ok (.enter f args) w' => w' = w ∧ Calls P f args w (fun e w'' => e = .returned v ∧ Below w.heap.size w w'')
  | _ => False

/-- ONE VALUE, IN EVERY WORLD THAT KEEPS ALL OF W. -/
def EAt (P : Program) (o : Oper) (a : Act) (W : World) (v : Value) : Prop := ∀ x : Ext W, EUpon P x.w v ((execOp a.eval o).run P x.w)

def quietE (P : Program) (o : Oper) (a : Act) (W : World) (next : Act → Prop) : Prop := ∃ v, EAt P o a W v ∧ next (a.put o.dst v)

/-- The walk in the order of the text. -/
def wpE (P : Program) (ops : Array Oper) (W : World) (Q : Act → Prop) : List Oper → Act → Prop
  | [], a => Q a
  | o :: rest, a => if Region.wanted o (yielded ops a.tmps) then quietE P o a W (wpE P ops W Q rest) else wpE P ops W Q rest (a.put o.dst undef)

section
variable {P : Program} {ops : Array Oper} {md : Region.Mode} {W : World}

/-- What the operation leaves in its slot. -/
def YieldsE (P : Program) (ops : Array Oper) (W : World) (o : Oper) (v : Value) (a : Act) : Prop :=
  (Region.wanted o (yielded ops a.tmps) = true ∧ EAt P o a W v) ∨ (Region.wanted o (yielded ops a.tmps) = false ∧ v = undef)

theorem YieldsE.of_same {o : Oper} {v : Value} {a a' : Act} (hy : YieldsE P ops W o v a) (he : execOp a'.eval o = execOp a.eval o)
    (hw : Region.wanted o (yielded ops a'.tmps) = Region.wanted o (yielded ops a.tmps)) : YieldsE P ops W o v a' := by
  unfold YieldsE EAt at *
  rw [he, hw]
  exact hy

theorem yieldsE_of_wpE {o : Oper} {a : Act} {K : Act → Prop} (h : if Region.wanted o (yielded ops a.tmps) then quietE P o a W K else K (a.put o.dst undef)) : ∃ v, YieldsE P ops W o v a ∧ K (a.put o.dst v) := by
  by_cases hw : Region.wanted o (yielded ops a.tmps) = true
  · rw [if_pos hw] at h
    obtain ⟨v, h1, h2⟩ := h
    exact ⟨v, .inl ⟨hw, h1⟩, h2⟩
  · rw [if_neg hw] at h
    exact ⟨undef, .inr ⟨by simpa using hw, rfl⟩, h⟩

/-- What is known of the world behind the allocs, and their places. -/
structure Know where
  holds : World → Prop
  used : Nat → Prop
  bound : ∃ M, ∀ n, used n → n < M
def Know.plus (F : Know) (β : Nat) (o : Obj) : Know := ⟨fun w => F.holds w ∧ w.heap[β]? = some o, fun n => n = β ∨ F.used n, by
  obtain ⟨M, hM⟩ := F.bound
  exact ⟨max M (β + 1), fun n hn => by rcases hn with h | h; omega; have := hM n h; omega⟩⟩
def Know.none : Know := ⟨fun _ => True, fun _ => False, ⟨0, fun _ h => h.elim⟩⟩
theorem Know.fresh (F : Know) (B : Nat) : ∃ β, B ≤ β ∧ ¬ F.used β := by
  obtain ⟨M, hM⟩ := F.bound
  exact ⟨max B M, by omega, fun h => by have := hM _ h; omega⟩
/-- F' says more than F. -/
def Know.more (F' F : Know) : Prop := (∀ w, F'.holds w → F.holds w) ∧ ∀ n, F.used n → F'.used n
theorem Know.more_plus {F' F : Know} (h : F'.more F) (β : Nat) (o : Obj) : (F'.plus β o).more (F.plus β o) :=
  ⟨fun w hw => ⟨h.1 w hw.1, hw.2⟩, fun n hn => hn.elim .inl (fun hu => .inr (h.2 n hu))⟩
theorem Know.swap (F : Know) (β γ : Nat) (o o' : Obj) : ((F.plus γ o').plus β o).more ((F.plus β o).plus γ o') :=
  ⟨fun w hw => ⟨⟨hw.1.1, hw.2⟩, hw.1.2⟩, fun n hn => by
    rcases hn with h | h | h
    · exact .inr (.inl h)
    · exact .inl h
    · exact .inr (.inr h)⟩

/-- Operation i comes up: below k it is quiet; from k on it is an alloc, of whatever place. F: what is known of the world. -/
def eOp (P : Program) (ops : Array Oper) (W : World) (k : Nat) (z : Oper → Obj) (i : Nat) (K : Act → Know → Prop) (a : Act) (F : Know) : Prop :=
  ∃ o, ops[i]? = some o ∧
    if i < k then ∃ v, YieldsE P ops W o v a ∧ K (a.put o.dst v) F
    else ∀ β, W.heap.size ≤ β → ¬ F.used β → K (a.put o.dst (.pointer (some ⟨β, 0, none⟩))) (F.plus β (z o))

def anyE (P : Program) (md : Region.Mode) (ops : Array Oper) (W : World) (k n : Nat) (z : Oper → Obj) (L : Array Bool → Act → Know → Prop) : Nat → Array Bool → Act → Know → Prop
  | 0, listed, a, F => L listed a F
  | f + 1, listed, a, F => Region.ready md ops listed ≠ [] ∧ ∀ i ∈ Region.ready md ops listed, i < n ∧ eOp P ops W k z i (anyE P md ops W k n z L f (listed.setIfInBounds i true)) a F

theorem eOp_mono {k i : Nat} {z : Oper → Obj} {a : Act} {F : Know} {K K' : Act → Know → Prop} (h : ∀ a F, K a F → K' a F) (hh : eOp P ops W k z i K a F) : eOp P ops W k z i K' a F := by
  obtain ⟨o, ho, hr⟩ := hh
  refine ⟨o, ho, ?_⟩
  split
  · rename_i hk; rw [if_pos hk] at hr; obtain ⟨v, h1, h2⟩ := hr; exact ⟨v, h1, h _ _ h2⟩
  · rename_i hk; rw [if_neg hk] at hr; exact fun β hβ hu => h _ _ (hr β hβ hu)

/-- Knowing more serves, too. -/
theorem anyE_more {k n : Nat} {z : Oper → Obj} {L : Array Bool → Act → Know → Prop} (hL : ∀ listed a F F', (F'.more F) → L listed a F → L listed a F') :
    ∀ (f : Nat) (listed : Array Bool) (a : Act) (F F' : Know), (F'.more F) → anyE P md ops W k n z L f listed a F → anyE P md ops W k n z L f listed a F'
  | 0, _, _, _, _, hF, h => hL _ _ _ _ hF h
  | f + 1, listed, a, F, F', hF, h => ⟨h.1, fun i hi => ⟨(h.2 i hi).1, by
      obtain ⟨o, ho, hr⟩ := (h.2 i hi).2
      refine ⟨o, ho, ?_⟩
      split
      · rename_i hk; rw [if_pos hk] at hr; obtain ⟨v, h1, h2⟩ := hr; exact ⟨v, h1, anyE_more hL f _ _ _ _ hF h2⟩
      · rename_i hk; rw [if_neg hk] at hr; exact fun β hβ hu => anyE_more hL f _ _ _ _ (Know.more_plus hF β _) (hr β hβ (fun h => hu (hF.2 _ h)))⟩⟩

/-- The operation oi, apart from oj, has its value ahead of oj as well as behind it. -/
theorem eOp_put {k j : Nat} {z : Oper → Obj} {oi oj : Oper} {v : Value} (hj : ops[j]? = some oj) (hap : oi.apart ops oj = true)
    (hsi : ∀ cs b, oi.op ≠ .select cs b) (hsj : ∀ cs b, oj.op ≠ .select cs b) {K : Act → Know → Prop} {a : Act} {F : Know}
    (hy : YieldsE P ops W oi v a) (h : eOp P ops W k z j K (a.put oi.dst v) F) :
    eOp P ops W k z j (fun a' F' => YieldsE P ops W oi v a' ∧ K (a'.put oi.dst v) F') a F := by
  obtain ⟨h1, h2, h3⟩ := Oper.apart_spec hap
  have keep : ∀ (a : Act), YieldsE P ops W oi v a → ∀ u, YieldsE P ops W oi v (a.put oj.dst u) := fun a hy u =>
    hy.of_same (execOp_put oi hsi a oj.dst u h3) (wanted_put oi a oj.dst u h3)
  obtain ⟨o, ho, hr⟩ := h
  obtain rfl : o = oj := Option.some.inj (ho.symm.trans hj)
  refine ⟨o, ho, ?_⟩
  split
  · rename_i hk
    rw [if_pos hk] at hr
    obtain ⟨u, hu, hn⟩ := hr
    refine ⟨u, hu.of_same (execOp_put o hsj a oi.dst v h1).symm (wanted_put o a oi.dst v h1).symm, keep a hy u, ?_⟩
    rw [← Act.put_comm a v u h2]; exact hn
  · rename_i hk
    rw [if_neg hk] at hr
    exact fun β hβ hu => ⟨keep a hy _, by rw [← Act.put_comm a v _ h2]; exact hr β hβ hu⟩

/-- A quiet operation that may come up now may be taken first. -/
theorem anyE_first {k n i : Nat} {z : Oper → Obj} {oi : Oper} {v : Value} {L : Array Bool → Act → Know → Prop} (hi : ops[i]? = some oi) (hsel : ∀ (j : Nat) (o : Oper) cs b, ops[j]? = some o → o.op ≠ .select cs b)
    (hs : Region.sinkB md ops n = true) (hc : Region.chainB md ops n = true) (hn : n < ops.size) (hin : i < n) (hik : i < k)
    (hdone : ∀ listed a F, L listed a F → ∀ j ∈ Region.ready md ops listed, n ≤ j) :
    ∀ (f : Nat) (listed : Array Bool) (a : Act) (F : Know), HeadInv md ops n listed →
      (∀ j oj, ops[j]? = some oj → j ≠ i → listed.getD j true = false → (∀ e ∈ oj.after, Region.binds md e = true → e.on ≠ i) → oi.apart ops oj = true) →
      i ∈ Region.ready md ops listed → YieldsE P ops W oi v a →
      anyE P md ops W k n z L f (listed.setIfInBounds i true) (a.put oi.dst v) F → anyE P md ops W k n z L (f + 1) listed a F := by
  intro f
  induction f with
  | zero =>
    intro listed a F inv _ hr hy H
    refine ⟨fun h => (by rw [h] at hr; cases hr), fun j hj => ?_⟩
    have hjn : j < n := by
      rcases Nat.lt_or_ge j n with h | h
      · exact h
      · exact absurd hj (tail_waits hs hc hn inv _ i rfl hin (mem_ready.1 hr).1 j h)
    refine ⟨hjn, ?_⟩
    by_cases hji : j = i
    · subst hji; exact ⟨oi, hi, by rw [if_pos hik]; exact ⟨v, hy, H⟩⟩
    · have := hdone _ _ _ H j (ready_mono hj hji)
      omega
  | succ f ih =>
    intro listed a F inv hfree hr hy H
    have hun := (mem_ready.1 hr).1
    refine ⟨fun h => (by rw [h] at hr; cases hr), fun j hj => ?_⟩
    have hjn : j < n := by
      rcases Nat.lt_or_ge j n with h | h
      · exact h
      · exact absurd hj (tail_waits hs hc hn inv _ i rfl hin hun j h)
    refine ⟨hjn, ?_⟩
    by_cases hji : j = i
    · subst hji; exact ⟨oi, hi, by rw [if_pos hik]; exact ⟨v, hy, H⟩⟩
    · have h1 := (H.2 j (ready_mono hj hji)).2
      obtain ⟨hjun, oj, hoj, hall⟩ := mem_ready.1 hj
      have hnot : ∀ e ∈ oj.after, Region.binds md e = true → e.on ≠ i := fun e he hb heq => by
        have h1 := hall e he hb
        rw [heq, getD_both hun] at h1
        cases h1
      have h2 := eOp_put hoj (hfree j oj hoj hji hjun hnot) (fun cs b => hsel i oi cs b hi) (fun cs b => hsel j oj cs b hoj) hy h1
      have hfree' : ∀ k ok, ops[k]? = some ok → k ≠ i → (listed.setIfInBounds j true).getD k true = false →
          (∀ e ∈ ok.after, Region.binds md e = true → e.on ≠ i) → oi.apart ops ok = true := fun k ok hk hki hku hno => by
        refine hfree k ok hk hki ?_ hno
        by_cases hjk : j = k
        · subst hjk; exact hjun
        · rw [getD_set_ne true hjk] at hku; exact hku
      refine eOp_mono (fun a' F' h3 => ih (listed.setIfInBounds j true) a' F' (inv.set hj hjn) hfree' (ready_mono hr (Ne.symm hji)) h3.1 ?_) h2
      rw [Array.setIfInBounds_comm _ _ hji]
      exact h3.2

/-- An alloc that may come up now may be taken first, where all that is left of the head are allocs. -/
theorem anyE_alloc {k n i : Nat} {z : Oper → Obj} {oi : Oper} {L : Array Bool → Act → Know → Prop} (hi : ops[i]? = some oi) (hsel : ∀ (j : Nat) (o : Oper) cs b, ops[j]? = some o → o.op ≠ .select cs b)
    (hL : ∀ listed a F F', (F'.more F) → L listed a F → L listed a F')
    (hs : Region.sinkB md ops n = true) (hc : Region.chainB md ops n = true) (hn : n < ops.size) (hin : i < n) (hik : ¬ i < k)
    (hdone : ∀ listed a F, L listed a F → ∀ j ∈ Region.ready md ops listed, n ≤ j) :
    ∀ (f : Nat) (listed : Array Bool) (a : Act) (F : Know), HeadInv md ops n listed → (∀ j, j < k → listed.getD j true = true) →
      (∀ j oj, ops[j]? = some oj → j ≠ i → listed.getD j true = false → (∀ e ∈ oj.after, Region.binds md e = true → e.on ≠ i) → oi.apart ops oj = true) →
      i ∈ Region.ready md ops listed →
      (∀ β, W.heap.size ≤ β → ¬ F.used β → anyE P md ops W k n z L f (listed.setIfInBounds i true) (a.put oi.dst (.pointer (some ⟨β, 0, none⟩))) (F.plus β (z oi))) → anyE P md ops W k n z L (f + 1) listed a F := by
  intro f
  induction f with
  | zero =>
    intro listed a F inv _ _ hr H
    refine ⟨fun h => (by rw [h] at hr; cases hr), fun j hj => ?_⟩
    have hjn : j < n := by
      rcases Nat.lt_or_ge j n with h | h
      · exact h
      · exact absurd hj (tail_waits hs hc hn inv _ i rfl hin (mem_ready.1 hr).1 j h)
    refine ⟨hjn, ?_⟩
    by_cases hji : j = i
    · subst hji; exact ⟨oi, hi, by rw [if_neg hik]; exact H⟩
    · obtain ⟨β, hβ, hu⟩ := F.fresh W.heap.size
      have := hdone _ _ _ (H β hβ (hu)) j (ready_mono hj hji)
      omega
  | succ f ih =>
    intro listed a F inv hq hfree hr H
    have hun := (mem_ready.1 hr).1
    refine ⟨fun h => (by rw [h] at hr; cases hr), fun j hj => ?_⟩
    have hjn : j < n := by
      rcases Nat.lt_or_ge j n with h | h
      · exact h
      · exact absurd hj (tail_waits hs hc hn inv _ i rfl hin hun j h)
    refine ⟨hjn, ?_⟩
    by_cases hji : j = i
    · subst hji; exact ⟨oi, hi, by rw [if_neg hik]; exact H⟩
    · obtain ⟨hjun, oj, hoj, hall⟩ := mem_ready.1 hj
      have hjk : ¬ j < k := fun h => by rw [hq j h] at hjun; cases hjun
      have hnot : ∀ e ∈ oj.after, Region.binds md e = true → e.on ≠ i := fun e he hb heq => by
        have h1 := hall e he hb
        rw [heq, getD_both hun] at h1
        cases h1
      obtain ⟨h1, h2, h3⟩ := Oper.apart_spec (hfree j oj hoj hji hjun hnot)
      have hfree' : ∀ k ok, ops[k]? = some ok → k ≠ i → (listed.setIfInBounds j true).getD k true = false →
          (∀ e ∈ ok.after, Region.binds md e = true → e.on ≠ i) → oi.apart ops ok = true := fun k ok hk hki hku hno => by
        refine hfree k ok hk hki ?_ hno
        by_cases hjk : j = k
        · subst hjk; exact hjun
        · rw [getD_set_ne true hjk] at hku; exact hku
      refine ⟨oj, hoj, ?_⟩
      rw [if_neg hjk]
      intro γ hγ hγu
      refine ih (listed.setIfInBounds j true) _ _ (inv.set hj hjn) (fun m hm => by
        have := hq m hm
        rcases Nat.lt_or_ge m listed.size with hlt | hge
        · by_cases hmj : j = m
          · subst hmj; exact absurd hm hjk
          · rw [getD_set_ne true hmj]; exact this
        · rw [Array.getD_eq_getD_getElem?, Array.getElem?_eq_none (by simpa using hge)]; rfl) hfree' (ready_mono hr (Ne.symm hji)) ?_
      intro β hβ hβu
      have h4 := (H β hβ (fun h => hβu (.inr h))).2 j (ready_mono hj hji)
      obtain ⟨o', ho', h5⟩ := h4.2
      obtain rfl : o' = oj := Option.some.inj (ho'.symm.trans hoj)
      rw [if_neg hjk] at h5
      have h6 := h5 γ hγ (fun h => by
        rcases h with h | h
        · exact hβu (.inl h.symm)
        · exact hγu h)
      rw [Array.setIfInBounds_comm _ _ hji, ← Act.put_comm a _ _ h2]
      exact anyE_more hL f _ _ _ _ (F.swap β γ _ _) h6

/-- The allocs in the order of the text. -/
def allocs (W : World) (z : Oper → Obj) (Lq : Act → World → Prop) : List Oper → Act → Know → Prop
  | [], a, F => ∀ x : Ext W, F.holds x.w → Lq a x.w
  | o :: rest, a, F => ∀ β, W.heap.size ≤ β → ¬ F.used β → allocs W z Lq rest (a.put o.dst (.pointer (some ⟨β, 0, none⟩))) (F.plus β (z o))

theorem anyE_lexB {k n g : Nat} {z : Oper → Obj} {Lq : Act → World → Prop} (hsel : Region.noSelect ops = true) (hs : Region.sinkB md ops n = true) (hc : Region.chainB md ops n = true) (hn : n < ops.size) :
    ∀ (l : List Oper) (j : Nat) (listed : Array Bool) (a : Act) (F : Know), (∀ i, i < l.length → l[i]? = ops[j + i]?) → j + l.length = n → k ≤ j → HeadInv md ops n listed → (∀ i, i < k → listed.getD i true = true) →
    Region.lexHead md ops g l.length j listed = true → allocs W z Lq l a F →
    anyE P md ops W k n z (fun listed' a' F' => Region.seqB md ops g n listed' = true ∧ ∀ x : Ext W, F'.holds x.w → Lq a' x.w) l.length listed a F
  | [], j, listed, a, F, _, hj, _, _, _, hB, h => by
    have : j = n := by simpa using hj
    subst this
    exact ⟨by simpa [Region.lexHead] using hB, h⟩
  | o :: l, j, listed, a, F, hl, hj, hkj, inv, hq, hB, h => by
    have h0 : ops[j]? = some o := by simpa using (hl 0 (by simp)).symm
    simp only [List.length_cons, Region.lexHead, Bool.and_eq_true] at hB
    obtain ⟨⟨hr, hf⟩, hB'⟩ := hB
    have hjn : j < n := by simp only [List.length_cons] at hj; omega
    have hr' : j ∈ Region.ready md ops listed := by simpa using hr
    refine anyE_alloc h0 (Region.noSelect_spec hsel) (fun listed a F F' hF hh => ⟨hh.1, fun x hx => hh.2 x (hF.1 _ hx)⟩) hs hc hn hjn (by omega) (fun listed' a' F' hL => seqB_ready hL.1) l.length listed a F inv hq (Region.free_spec h0 hf) hr' ?_
    intro β hβ hu
    exact anyE_lexB hsel hs hc hn l (j + 1) _ _ _ (fun i hi => by have := hl (i + 1) (by simp; omega); simpa [Nat.add_assoc, Nat.add_comm 1 i] using this) (by simp only [List.length_cons] at hj; omega) (by omega) (inv.set hr' hjn) (fun i hi => by
      have := hq i hi
      rcases Nat.lt_or_ge i listed.size with hlt | hge
      · by_cases hij : j = i
        · subst hij; omega
        · rw [getD_set_ne true hij]; exact this
      · rw [Array.getD_eq_getD_getElem?, Array.getElem?_eq_none (by simpa using hge)]; rfl) hB' (h β hβ hu)

theorem anyE_lexA {k n g : Nat} {z : Oper → Obj} {Lq : Act → World → Prop} (hsel : Region.noSelect ops = true) (hs : Region.sinkB md ops n = true) (hc : Region.chainB md ops n = true) (hn : n < ops.size) (B : List Oper) (hkn : k + B.length = n) (hBl : ∀ i, i < B.length → B[i]? = ops[k + i]?) (F : Know) :
    ∀ (l : List Oper) (j : Nat) (listed : Array Bool) (a : Act), (∀ i, i < l.length → l[i]? = ops[j + i]?) → j + l.length = k → HeadInv md ops n listed → (∀ i, i < j → listed.getD i true = true) →
    Region.lexHead md ops g (l.length + B.length) j listed = true → wpE P ops W (fun a' => allocs W z Lq B a' F) l a →
    anyE P md ops W k n z (fun listed' a' F' => Region.seqB md ops g n listed' = true ∧ ∀ x : Ext W, F'.holds x.w → Lq a' x.w) (l.length + B.length) listed a F
  | [], j, listed, a, _, hj, inv, hq, hB, h => by
    have : j = k := by simpa using hj
    subst this
    simp only [List.length_nil, Nat.zero_add] at hB ⊢
    exact anyE_lexB hsel hs hc hn B j listed a F hBl hkn (Nat.le_refl _) inv hq hB h
  | o :: l, j, listed, a, hl, hj, inv, hq, hB, h => by
    have h0 : ops[j]? = some o := by simpa using (hl 0 (by simp)).symm
    have e : (o :: l).length + B.length = (l.length + B.length) + 1 := by simp only [List.length_cons]; omega
    rw [e] at hB ⊢
    simp only [Region.lexHead, Bool.and_eq_true] at hB
    obtain ⟨⟨hr, hf⟩, hB'⟩ := hB
    have hjk : j < k := by simp only [List.length_cons] at hj; omega
    have hr' : j ∈ Region.ready md ops listed := by simpa using hr
    obtain ⟨v, hy, hK⟩ := yieldsE_of_wpE h
    refine anyE_first h0 (Region.noSelect_spec hsel) hs hc hn (by omega) hjk (fun listed' a' F' hL => seqB_ready hL.1) (l.length + B.length) listed a F inv (Region.free_spec h0 hf) hr' hy ?_
    have hjs : j < listed.size := by rw [inv.size]; omega
    exact anyE_lexA hsel hs hc hn B hkn hBl F l (j + 1) _ _ (fun i hi => by have := hl (i + 1) (by simp; omega); simpa [Nat.add_assoc, Nat.add_comm 1 i] using this) (by simp only [List.length_cons] at hj; omega) (inv.set hr' (by omega)) (fun i hi => by
      by_cases hij : j = i
      · subst hij; simp [hjs]
      · rw [getD_set_ne true hij]; exact hq i (by omega)) hB' hK

/-- The run: from every world that keeps W and of which F holds. -/
theorem any_of_anyE {k n g : Nat} {z : Oper → Obj} {L : Array Bool → Act → Know → Prop} {Q' : Exit → Act → World → Prop}
    (hz : ∀ i o, k ≤ i → i < n → ops[i]? = some o → o.guard = none ∧ ∀ (a : Act) (w : World), (execOp a.eval o).run P w = .ok (.value (.pointer (some ⟨w.heap.size, 0, none⟩))) (w.alloc (z o)))
    (hL : ∀ listed a (F : Know) (x : Ext W), F.holds x.w → L listed a F → wpAny P md ops Q' g listed a x.w) :
    ∀ (f : Nat) (listed : Array Bool) (a : Act) (F : Know) (x : Ext W), (∀ w w', F.holds w → Below w.heap.size w w' → F.holds w') → (∀ n, F.used n → n < x.w.heap.size) → F.holds x.w → anyE P md ops W k n z L f listed a F → wpAny P md ops Q' (f + g) listed a x.w
  | 0, listed, a, F, x, _, _, hF, h => by rw [Nat.zero_add]; exact hL _ _ _ _ hF h
  | f + 1, listed, a, F, x, hcl, hus, hF, h => by
    rw [show f + 1 + g = (f + g) + 1 by omega]
    refine ⟨fun h0 => absurd h0 h.1, fun i hi => ?_⟩
    obtain ⟨hin, o, ho, hr⟩ := h.2 i hi
    unfold wpOp
    simp only [ho]
    by_cases hk : i < k
    · rw [if_pos hk] at hr
      obtain ⟨v, hy, hn⟩ := hr
      rcases hy with ⟨hw, hv⟩ | ⟨hw, rfl⟩
      · rw [if_pos hw]
        refine .inl ?_
        have h3 := hv x
        unfold Oper.wp
        generalize (execOp a.eval o).run P x.w = r at *
        cases r with
        | ok nx w' =>
          cases nx <;> simp only [EUpon] at h3 <;> simp only [Oper.upon]
          case value u =>
            obtain ⟨e1, e2⟩ := h3
            rw [e1, e2]
            exact any_of_anyE hz hL f _ _ F x hcl hus hF hn
          case skip =>
            obtain ⟨e1, e2⟩ := h3
            rw [e1, ← e2]
            exact any_of_anyE hz hL f _ _ F x hcl hus hF hn
          case enter fn args =>
            obtain ⟨e1, hc⟩ := h3
            rw [e1]
            refine hc.mono fun e w'' ⟨he, hb⟩ => ?_
            subst he
            obtain ⟨y, hy'⟩ := Ext.on x hb
            subst hy'
            exact any_of_anyE hz hL f _ _ F y hcl (fun n hn => Nat.lt_of_lt_of_le (hus n hn) hb.size) (hcl _ _ hF hb) hn
        | halt y w' => simp only [EUpon] at h3
      · rw [if_neg (by rw [hw]; exact Bool.false_ne_true)]
        exact any_of_anyE hz hL f _ _ F x hcl hus hF hn
    · rw [if_neg hk] at hr
      obtain ⟨hg, hrun⟩ := hz i o (by omega) hin ho
      rw [if_pos (by simp [Region.wanted, hg])]
      refine .inl ?_
      unfold Oper.wp
      rw [hrun]
      simp only [Oper.upon]
      have hb : Below x.w.heap.size x.w (x.w.alloc (z o)) := (Below.refl _ _).alloc (Nat.le_refl _) _
      obtain ⟨y, hy'⟩ := Ext.on x hb
      have hn := hr x.w.heap.size x.below.size (fun h => by have := hus _ h; omega)
      rw [hy'] at hb ⊢
      refine any_of_anyE hz hL f _ _ (F.plus x.w.heap.size (z o)) y (fun w w' hw hbw => ⟨hcl _ _ hw.1 hbw, by
        have hlt : x.w.heap.size < w.heap.size := (Array.getElem?_eq_some_iff.1 hw.2).1
        exact (hbw.block _ hlt).trans hw.2⟩) (fun n hn => by
        have hs : y.w.heap.size = x.w.heap.size + 1 := by rw [← hy']; simp
        rcases hn with h | h
        · omega
        · have := hus n h; omega) ⟨hcl _ _ hF hb, ?_⟩ hn
      rw [← hy']
      exact heap_alloc_new _ _

/-- **THE REGION**: k quiet operations, then allocs up to the n-th, then operations in one forced order. -/
theorem ext_region_alloc {id : Nat} {Q : Exit → Act → World → Prop} {a : Act} {l : List Oper} (k n : Nat) (z : Oper → Obj) (hm : P.follows .mixedOrders = true) (hB : Region.lexTailB .any l.toArray n = true) (hkn : k ≤ n)
    (hz : ∀ i o, k ≤ i → i < n → l[i]? = some o → o.guard = none ∧ ∀ (a : Act) (w : World), (execOp a.eval o).run P w = .ok (.value (.pointer (some ⟨w.heap.size, 0, none⟩))) (w.alloc (z o)))
    (h : wpE P l.toArray W (fun a' => allocs W z (fun a'' w => wpList P l.toArray Q (l.drop n) a'' w) ((l.take n).drop k) a' Know.none) (l.take k) a) : (Code.region id l.toArray true).wp P Q a W := by
  simp only [Region.lexTailB, Bool.and_eq_true, decide_eq_true_eq] at hB
  obtain ⟨⟨⟨⟨hsel, hn⟩, hs⟩, hc⟩, hlex⟩ := hB
  have hn' : n < l.length := by simpa using hn
  have htl : (l.take k).length = k := by simp; omega
  have hbl : ((l.take n).drop k).length = n - k := by simp; omega
  have hdl : (l.drop n).length = l.toArray.size - n := by simp
  have inv0 : HeadInv .any l.toArray n (Array.replicate l.toArray.size false) :=
    ⟨by simp, fun j oj _ hl => (by rw [getD_replicate_false] at hl; cases hl), fun t _ ht => getD_in (by simpa using ht) (getD_replicate_false _ _)⟩
  have hsum : (l.take k).length + ((l.take n).drop k).length = n := by rw [htl, hbl]; omega
  have H := anyE_lexA (k := k) (n := n) (P := P) (W := W) (z := z) (Lq := fun a'' w => wpList P l.toArray Q (l.drop n) a'' w) (md := .any) (g := l.toArray.size - n) hsel hs hc hn ((l.take n).drop k) (by rw [hbl]; omega) (fun i hi => by
      rw [hbl] at hi
      simp [List.getElem?_drop, List.getElem?_take, show k + i < n by omega]) Know.none (l.take k) 0 _ a (fun j hj => by
      have hj' : j < k := by rw [htl] at hj; exact hj
      simp [hj']) (by simpa using htl) inv0 (fun i hi => by omega) (by rw [hsum]; exact hlex) h
  refine wp_region_any hm ?_
  obtain ⟨x0, hx0⟩ := Ext.start W
  have := any_of_anyE (Q' := Q) (g := l.toArray.size - n) (fun i o h1 h2 h3 => hz i o h1 h2 (by simpa using h3)) (fun listed a' F x hF hL => by
    have := wpAny_of_seq (md := .any) (Q' := Q) (l.drop n) n listed a' x.w (fun j => by simp [List.getElem?_drop]) (by rw [hdl]; exact hL.1) (hL.2 x hF)
    rwa [hdl] at this) _ _ _ Know.none x0 (fun _ _ _ _ => trivial) (fun _ h => False.elim h) trivial H
  rw [hsum, show n + (l.toArray.size - n) = l.toArray.size by omega, ← hx0] at this
  exact this

/-- The walk's steps. -/
theorem wpE_nil {Q : Act → Prop} {a : Act} (h : Q a) : wpE P ops W Q [] a := h
theorem wpE_step {Q : Act → Prop} {a : Act} {o : Oper} {rest : List Oper}
    (h : ∀ K : Act → Prop, (∀ a, wpE P ops W Q rest a → K a) → if Region.wanted o (yielded ops a.tmps) then quietE P o a W K else K (a.put o.dst undef)) : wpE P ops W Q (o :: rest) a :=
  h _ (fun _ h => h)
end
attribute [go_sem] quietE EAt EUpon
end Go.Proofs.Ytmecomgifmkkfaa
