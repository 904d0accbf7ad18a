/- The calculus of walks: slices: what is read through one, one that grows, calls that read memory, calls that hand back slices of their own. No program in sight. -/
/- The calculus of walks: append to a slice that grows; make. No program in sight. -/
import Derived.Test.YtmecomgifmkkfaaSym
import Derived.Laws.AppendOwn
import Derived.Laws.MakeOwn
namespace Go.Proofs.Ytmecomgifmkkfaa
set_option linter.unusedVariables false
set_option linter.unusedSimpArgs false
open Go.RowKit

/-- The cells cs lie behind a slice's base. -/
def Holds (w : World) (a : Option Addr) (cs : List Value) : Prop := cs = [] ∨ ∃ β o, a = some ⟨β, o, none⟩ ∧ w.rangeAt β o cs
theorem Holds.nil (w : World) (a : Option Addr) : Holds w a [] := .inl rfl
theorem Holds.at_ {w : World} {a : Option Addr} {cs : List Value} (h : Holds w a cs) (hn : cs ≠ []) : ∃ β o, a = some ⟨β, o, none⟩ ∧ w.rangeAt β o cs := h.resolve_left hn
theorem rangeAt_lt {w : World} {β o : Nat} {cs : List Value} (h : w.rangeAt β o cs) (hn : cs ≠ []) : β < w.heap.size := by
  cases cs with
  | nil => exact absurd rfl hn
  | cons c cs =>
    have := h 0 c rfl
    simp only [World.cell?] at this
    rcases Nat.lt_or_ge β w.heap.size with h1 | h1
    · exact h1
    · rw [Array.getElem?_eq_none h1] at this; cases this
theorem rangeAt_block {w w' : World} {β o : Nat} {cs : List Value} (h : w.rangeAt β o cs) (hb : w'.heap[β]? = w.heap[β]?) : w'.rangeAt β o cs := by
  intro j v hj
  have := h j v hj
  rw [← this]
  exact World.cell?_of_block hb
theorem rangeAt_cells {w : World} {β o : Nat} {cur : Array Value} {t : TypeId} {fz : Nat × Nat} {cs : List Value} (hw : w.heap[β]? = some (.cells cur t fz)) (h : ∀ j v, cs[j]? = some v → cur[o + j]? = some v) : w.rangeAt β o cs := by
  intro j v hj
  rw [cell_of_row w β _ _ _ _ hw]
  exact h j v hj
/-- What was there at first is there. -/
theorem Holds.old {w0 w : World} {a : Option Addr} {cs : List Value} {M : Mem} (h : Holds w0 a cs) (hst : St (fun _ => False) w0 w M) : Holds w a cs := by
  rcases h with h | ⟨β, o, e, h⟩
  · exact .inl h
  · cases cs with
    | nil => exact .inl rfl
    | cons c cs => exact .inr ⟨β, o, e, rangeAt_block h (hst.frame β (rangeAt_lt h (by simp)) id)⟩
theorem Holds.kept {w w' : World} {a : Option Addr} {cs : List Value} (h : Holds w a cs) (hB : Below w.heap.size w w') : Holds w' a cs := by
  rcases h with h | ⟨β, o, e, h⟩
  · exact .inl h
  · cases cs with
    | nil => exact .inl rfl
    | cons c cs => exact .inr ⟨β, o, e, rangeAt_block h (hB.block β (rangeAt_lt h (by simp)))⟩

/-- A slice that grows, and its block: v has n elements of 'size' cells each, xs; S is its one block, or none. -/
def OwnS (e : TypeId) (size : Nat) (v : Value) (n : Nat) (xs : List Value) (S : Mem) : Prop :=
  xs.length = n * size ∧ ((v = .slice none 0 0 ∧ n = 0 ∧ S = []) ∨
    ∃ g cap cur, v = .slice (some ⟨g, 0, none⟩) n cap ∧ S = [(g, .cells cur e (0, 0))] ∧ n ≤ cap ∧ cap ≤ maxLen ∧ cur.size = cap * size ∧ cur.toList.take (n * size) = xs)
theorem OwnS.nil (e : TypeId) (size : Nat) : OwnS e size (.slice none 0 0) 0 [] [] := ⟨by simp, .inl ⟨rfl, rfl, rfl⟩⟩
theorem OwnS.holds {e : TypeId} {size : Nat} {v : Value} {n : Nat} {xs : List Value} {S : Mem} (h : OwnS e size v n xs S) {w : World} (hS : ∀ p ∈ S, w.heap[p.1]? = some p.2) : ∃ a c, v = .slice a n c ∧ Holds w a xs := by
  obtain ⟨hl, ⟨rfl, rfl, rfl⟩ | ⟨g, cap, cur, rfl, rfl, _, _, _, ht⟩⟩ := h
  · exact ⟨none, 0, rfl, .inl (List.eq_nil_of_length_eq_zero (by simpa using hl))⟩
  · refine ⟨some ⟨g, 0, none⟩, cap, rfl, .inr ⟨g, 0, rfl, rangeAt_cells (hS _ (List.mem_singleton.2 rfl)) fun j v hj => ?_⟩⟩
    rw [← ht, List.getElem?_take] at hj
    split at hj
    · simpa using hj
    · cases hj
theorem OwnS.exists {e : TypeId} {size n : Nat} {xs : List Value} (hl : xs.length = n * size) (hn : n ≤ maxLen) : ∃ v S, OwnS e size v n xs S :=
  ⟨.slice (some ⟨0, 0, none⟩) n n, [(0, .cells xs.toArray e (0, 0))], hl, .inr ⟨0, n, xs.toArray, rfl, rfl, Nat.le_refl _, hn, by simpa using hl, by rw [List.toList_toArray, ← hl, List.take_length]⟩⟩

section
variable {P : Program} {X : Nat → Prop} {w0 : World} {Q : Exit → List Value → Mem → Prop} {l : List Value} {M : Mem} {c : Code}
  {R : List Oper} {kd : Nat → Kd} {N : List Value → Mem → Prop} {π : List Nat} {i : Nat} {dst : Option Tmp} {op : Op} {ty : TypeId} {pos : String} {aft : Array Edge} {gd : Option (Nat × Bool)}

theorem sp_perm {M' : Mem} (hp : M.Perm M') (h : Sp P X w0 c Q l M') : Sp P X w0 c Q l M := ⟨fun w hw => h.out w (hw.perm hp)⟩
/-- What was made by a call is known of too. -/
theorem St.plus {w w' : World} {S : Mem} (h : St X w0 w M) (hB : Below w.heap.size w w') (hS : ∀ p ∈ S, w'.heap[p.1]? = some p.2 ∧ w.heap.size ≤ p.1) (hn : (S.map Prod.fst).Nodup) : St X w0 w' (M ++ S) := by
  have k := h.kept hB
  refine ⟨k.os, k.tape, k.output, k.size, k.frame, fun p hm => ?_, fun p hm => ?_, ?_⟩
  · rcases List.mem_append.1 hm with hm | hm
    · exact k.own p hm
    · exact (hS p hm).1
  · rcases List.mem_append.1 hm with hm | hm
    · exact k.free p hm
    · exact .inl (Nat.le_trans h.size (hS p hm).2)
  · rw [List.map_append]
    refine List.nodup_append.2 ⟨h.nodup, hn, fun a ha b hb => ?_⟩
    obtain ⟨p, hm, rfl⟩ := List.mem_map.1 ha
    obtain ⟨q, hq, rfl⟩ := List.mem_map.1 hb
    have := h.lt hm
    have := (hS q hq).2
    omega

/-- A call that turns nothing, and reads memory. -/
theorem wk_callW {f : FuncId} {xs : Array Operand} {ts : Array TypeId} (vs : List Value) (v : Value) (ho : nthO R i = some ⟨dst, .call ⟨.value (.func f), xs, ts⟩, ty, pos, aft, gd⟩) (hg : gok R gd l = true) (hk : kd i = .G) (hE : Enters P f)
    (hx : mapV l xs.toList = vs) (hc : ∀ M' w, (∀ p ∈ M, p ∈ M') → St X w0 w M' → Calls P f vs.toArray w fun e w' => e = .returned v ∧ Below w.heap.size w w')
    (h : Wk P X w0 R kd N π (putL l dst v) M) : Wk P X w0 R kd N (i :: π) l M := by
  refine ⟨⟨_, nthO_arr ho, ?_⟩⟩
  rw [hk]
  refine ⟨fun u δ => u = v ∧ δ = [], ⟨_, _, rfl, rfl⟩, .inl ⟨gok_wanted hg, fun M' w hm hw => ?_⟩, fun u δ ⟨e1, e2⟩ => ?_⟩
  · rw [eval_env, run_enter hE hx]
    exact (hc M' w hm hw).mono fun e w' ⟨e1, hB⟩ => ⟨v, [], e1, ⟨rfl, rfl⟩, by rw [List.append_nil]; exact hw.kept hB⟩
  · subst e1 e2
    rw [put_env, List.append_nil]; exact h.out

/-- What a call leaves that turns nothing and hands back a slice of its own (and perhaps more: res). -/
def NewS (e : TypeId) (size : Nat) (res : Value → Value) (n : Nat) (cs : List Value) (w : World) : Ending → World → Prop := fun r w' =>
  ∃ v S, r = .returned (res v) ∧ OwnS e size v n cs S ∧ Below w.heap.size w w' ∧ ∀ p ∈ S, w'.heap[p.1]? = some p.2 ∧ w.heap.size ≤ p.1
theorem OwnS.nodup {e : TypeId} {size : Nat} {v : Value} {n : Nat} {xs : List Value} {S : Mem} (h : OwnS e size v n xs S) : (S.map Prod.fst).Nodup := by
  obtain ⟨_, ⟨_, _, rfl⟩ | ⟨g, cap, cur, _, rfl, _⟩⟩ := h <;> simp

theorem wk_callS {f : FuncId} {xs : Array Operand} {ts : Array TypeId} {e : TypeId} {size n : Nat} {cs : List Value} (vs : List Value) (res : Value → Value) (ho : nthO R i = some ⟨dst, .call ⟨.value (.func f), xs, ts⟩, ty, pos, aft, gd⟩) (hg : gok R gd l = true) (hk : kd i = .G) (hE : Enters P f)
    (hx : mapV l xs.toList = vs) (hlen : cs.length = n * size) (hmax : n ≤ maxLen) (hc : ∀ M' w, (∀ p ∈ M, p ∈ M') → St X w0 w M' → Calls P f vs.toArray w (NewS e size res n cs w))
    (h : ∀ v S, OwnS e size v n cs S → Wk P X w0 R kd N π (putL l dst (res v)) (M ++ S)) : Wk P X w0 R kd N (i :: π) l M := by
  refine ⟨⟨_, nthO_arr ho, ?_⟩⟩
  rw [hk]
  obtain ⟨v1, S1, h1⟩ := OwnS.exists (e := e) hlen hmax
  refine ⟨fun u δ => ∃ v, u = res v ∧ OwnS e size v n cs δ, ⟨_, _, _, rfl, h1⟩, .inl ⟨gok_wanted hg, fun M' w hm hw => ?_⟩, fun u δ ⟨v, e1, e2⟩ => ?_⟩
  · rw [eval_env, run_enter hE hx]
    exact (hc M' w hm hw).mono fun e w' ⟨v, S, e1, hO, hB, hS⟩ => ⟨res v, S, e1, ⟨v, rfl, hO⟩, hw.plus hB hS hO.nodup⟩
  · subst e1
    rw [put_env]; exact (h v δ e2).out

/-- One value of memory is read, by what is known of the world. -/
theorem wk_lookS (v : Value) (ho : nthO R i = some ⟨dst, op, ty, pos, aft, gd⟩) (hg : gok R gd l = true) (hk : kd i = .L)
    (hv : ∀ M' w, (∀ p ∈ M, p ∈ M') → St X w0 w M' → (execOp (ev l) ⟨dst, op, ty, pos, aft, gd⟩).run P w = .ok (.value v) w)
    (h : Wk P X w0 R kd N π (putL l dst v) M) : Wk P X w0 R kd N (i :: π) l M := by
  refine ⟨⟨_, nthO_arr ho, ?_⟩⟩
  rw [hk]
  refine ⟨v, .inl ⟨gok_wanted hg, fun M' w hm hw => by rw [eval_env]; exact hv M' w hm hw⟩, ?_⟩
  rw [put_env]; exact h.out
/-- A struct or an array in the midst of a block is read. -/
theorem wk_ldMid {t : TypeId} {x : Operand} {β o : Nat} {cs : List Value} {d : TypeDesc} (ho : nthO R i = some ⟨dst, .load t x, ty, pos, aft, gd⟩) (hg : gok R gd l = true) (hk : kd i = .L)
    (hx : ev l x = .pointer (some ⟨β, o, none⟩)) (hr : ∀ M' w, (∀ p ∈ M, p ∈ M') → St X w0 w M' → w.rangeAt β o cs) (hu : P.underlying t = some d) (hd : d.isRow = true) (hn : (P.info? t).map (·.size) = some cs.length)
    (h : Wk P X w0 R kd N π (putL l dst (.agg cs.toArray)) M) : Wk P X w0 R kd N (i :: π) l M :=
  wk_lookS _ ho hg hk (fun M' w hm hw => by
    have := run_loadAt_mid (P := P) w β o t cs d (hr M' w hm hw) hu hd hn
    simp only [execOp, hx, Sem.run_bind, this]
    rfl) h
/-- One value of memory as it was at first. -/
theorem wk_lookO (v : Value) (ho : nthO R i = some ⟨dst, op, ty, pos, aft, gd⟩) (hg : gok R gd l = true) (hk : kd i = .O)
    (hv : ∀ M' w, St X w0 w M' → (execOp (ev l) ⟨dst, op, ty, pos, aft, gd⟩).run P w = .ok (.value v) w)
    (h : Wk P X w0 R kd N π (putL l dst v) M) : Wk P X w0 R kd N (i :: π) l M := by
  refine ⟨⟨_, nthO_arr ho, ?_⟩⟩
  rw [hk]
  refine ⟨v, .inl ⟨gok_wanted hg, fun M' w _ hw => by rw [eval_env]; exact hv M' w hw⟩, ?_⟩
  rw [put_env]; exact h.out
theorem wk_ldMidO {t : TypeId} {x : Operand} {β o : Nat} {cs : List Value} {d : TypeDesc} (ho : nthO R i = some ⟨dst, .load t x, ty, pos, aft, gd⟩) (hg : gok R gd l = true) (hk : kd i = .O)
    (hx : ev l x = .pointer (some ⟨β, o, none⟩)) (hr : ∀ M' w, St X w0 w M' → w.rangeAt β o cs) (hu : P.underlying t = some d) (hd : d.isRow = true) (hn : (P.info? t).map (·.size) = some cs.length)
    (h : Wk P X w0 R kd N π (putL l dst (.agg cs.toArray)) M) : Wk P X w0 R kd N (i :: π) l M :=
  wk_lookO _ ho hg hk (fun M' w hw => by
    have := run_loadAt_mid (P := P) w β o t cs d (hr M' w hw) hu hd hn
    simp only [execOp, hx, Sem.run_bind, this]
    rfl) h
/-- The place of a slice's element, its base told beside. -/
theorem wk_idxA {t e : TypeId} {x y : Operand} {a : Option Addr} {β o n cp : Nat} {k : IntKind} {p : Int} (j q : Nat) (ho : nthO R i = some ⟨dst, .indexAddr t x y, ty, pos, aft, gd⟩) (hg : gok R gd l = true) (hk : kd i = .P)
    (hx : ev l x = .slice a n cp) (ha : a = some ⟨β, o, none⟩) (hy : ev l y = .int k p) (ht : P.underlying t = some (.slice e)) (hs : (P.info? e).map (·.size) = some q) (hp : p = (j : Int)) (hj : j < n)
    (h : Wk P X w0 R kd N π (putL l dst (.pointer (some ⟨β, o + j * q, none⟩))) M) : Wk P X w0 R kd N (i :: π) l M :=
  wk_val _ ho hg hk (fun w => by
    subst hp ha
    cases hq : P.info? e with
    | none => simp [hq] at hs
    | some d =>
      have hd : d.size = q := by simpa [hq] using hs
      have e1 : (⟨β, o, none⟩ : Addr).add (j * q) = ⟨β, o + j * q, none⟩ := Addr.add_mid β o _
      simp [execOp, hx, hy, Instr.indexAt, asIntOf, Sem.run_bind, run_underlying ht, sizeOf, typeInfo, hq, hd, hj, e1]) h
/-- How long a slice is. -/
theorem wk_lenA {xs : Operand} {t e : TypeId} {a : Option Addr} {n cp : Nat} (ho : nthO R i = some ⟨dst, .call ⟨.builtin .len, #[xs], #[t]⟩, ty, pos, aft, gd⟩) (hg : gok R gd l = true) (hk : kd i = .P)
    (hx : ev l xs = .slice a n cp) (ht : P.underlying t = some (.slice e))
    (h : Wk P X w0 R kd N π (putL l dst (.int .i64 (n : Int))) M) : Wk P X w0 R kd N (i :: π) l M :=
  wk_val _ ho hg hk (fun w => by simp [execOp, resolve, hx, invoke, builtin, Builtin.len_, run_underlying ht, goInt]) h
end
end Go.Proofs.Ytmecomgifmkkfaa

namespace Go.Proofs.Ytmecomgifmkkfaa
set_option linter.unusedVariables false
set_option linter.unusedSimpArgs false
open Go.RowKit

section
variable {P : Program} {X : Nat → Prop} {w0 : World}

theorem run_append_zero (w : World) (t ty e : TypeId) (i : TypeInfo) (ht : P.underlying t = some (.slice e)) (hi : P.info? e = some i) (b a : Option Addr) (n cap c : Nat) (hn : n ≤ cap) :
    (Builtin.append_ #[t, t] ty #[.slice b n cap, .slice a 0 c]).run P w = .ok (.slice b n cap) w := by
  cases a <;> cases b <;> simp [Builtin.append_, run_underlying ht, sizeOf, typeInfo, hi, Builtin.lenOf, Builtin.firstCells, loadCells, loadCellsFrom, hn, storeCells]

theorem append_step {w : World} {t ty e : TypeId} {size bytes : Nat} {z : Value} (ht : P.underlying t = some (.slice e)) (hs : (P.info? e).map (·.size) = some size) (hb : (P.info? e).map (·.bytes) = some bytes) (hz : (P.info? e).bind (·.zero) = some z)
    (hzs : z.cells.size = size) (hsz : 0 < size) {v : Value} {n : Nat} {xs : List Value} {S F : Mem} (hO : OwnS e size v n xs S) (hst : St X w0 w (S ++ F))
    {a : Option Addr} {m c : Nat} {news : List Value} (hl : news.length = m * size) (hH : Holds w a news) (h1 : ∀ u ∈ news, u.oneCell' = true) (hbytes : (n + m) * bytes ≤ 140737488355328) (h63 : n + m ≤ 4611686018427387904) :
    ∃ v' S' w', (Builtin.append_ #[t, t] ty #[v, .slice a m c]).run P w = .ok v' w' ∧ OwnS e size v' (n + m) (xs ++ news) S' ∧ St X w0 w' (F ++ S') := by
  cases hq : P.info? e with
  | none => simp [hq] at hs
  | some i =>
    have hsize : i.size = size := by simpa [hq] using hs
    have hby : i.bytes = bytes := by simpa [hq] using hb
    have hz' : i.zero = some z := by simpa [hq] using hz
    subst hsize hby
    have hxl := hO.1
    by_cases hm : m = 0
    · subst hm
      have hnews : news = [] := List.eq_nil_of_length_eq_zero (by simpa using hl)
      subst hnews
      have hO' : OwnS e i.size v (n + 0) (xs ++ []) S := by rw [List.append_nil, Nat.add_zero]; exact hO
      obtain ⟨b, cap, hv, hcap⟩ : ∃ b cap, v = .slice b n cap ∧ n ≤ cap := by
        rcases hO.2 with ⟨rfl, rfl, _⟩ | ⟨g, cap, cur, rfl, _, h, _⟩
        · exact ⟨none, 0, rfl, Nat.le_refl _⟩
        · exact ⟨_, cap, rfl, h⟩
      exact ⟨v, S, w, by rw [hv]; exact run_append_zero w t ty e i ht hq b a n cap c hcap, hO', hst.perm List.perm_append_comm⟩
    · have hne : news ≠ [] := fun h => hm (by
        have h3 : m * i.size = 0 := by rw [← hl, h]; rfl
        have h4 := Nat.mul_eq_zero.1 h3
        omega)
      obtain ⟨β, o, rfl, hr⟩ := hH.at_ hne
      have hnews : ∀ j u, news[j]? = some u → w.cell? ((⟨β, o, none⟩ : Addr).add j) = some u := fun j u hu => by rw [Addr.add_mid]; exact hr j u hu
      have hlen : (xs ++ news).length = (n + m) * i.size := by rw [List.length_append, hxl, hl, Nat.add_mul]
      have h63' : n + m ≤ maxLen := by simp only [maxLen]; omega
      have grown : ∀ (old : Nat), old < n + m → OwnS e i.size (.slice (some ⟨w.heap.size, 0, none⟩) (n + m) (grownCap w (n + m) old e)) (n + m) (xs ++ news)
          [(w.heap.size, .cells (xs.toArray ++ news.toArray ++ Builtin.zeroCells z.cells (grownCap w (n + m) old e - (n + m))) e (0, 0))] := by
        intro old ho
        have hge := grownCap_ge w (n + m) old e
        refine ⟨hlen, .inr ⟨_, _, _, rfl, rfl, hge, grownCap_le_maxLen w (n + m) old e h63', ?_, ?_⟩⟩
        · simp only [Array.size_append, List.size_toArray, size_zeroCells, hzs, hxl, hl, ← Nat.add_mul]
          congr 1
          omega
        · simp only [Array.toList_append, List.append_assoc]
          rw [← List.append_assoc, ← hlen]
          exact List.take_left
      have hF : St X w0 w F := hst.less (List.sublist_append_right _ _)
      rcases hO.2 with ⟨rfl, rfl, rfl⟩ | ⟨g, cap, cur, rfl, rfl, hnc, hcm, hcs, htake⟩
      · have hx : xs = [] := List.eq_nil_of_length_eq_zero (by simpa using hxl)
        subst hx
        have hr' := run_append_nil (P := P) w t ty e i z ht hq hz' ⟨β, o, none⟩ m c news hl hnews (by omega) (by omega) (by have hb := hbytes; simp only [Nat.zero_add] at hb; omega)
        have hgr := grown 0 (by omega)
        simp only [Nat.zero_add, List.nil_append, Array.empty_append] at hgr ⊢
        exact ⟨_, _, _, hr', hgr, hF.drew.alloc _⟩
      · by_cases hroom : n + m ≤ cap
        · have hg := hst.own _ (List.mem_append_left _ (List.mem_singleton.2 rfl))
          have hfit : n * i.size + news.length ≤ cur.size := by rw [hl, hcs, ← Nat.add_mul]; exact Nat.mul_le_mul_right _ hroom
          have hr' := run_append_room (P := P) w t ty e i ht hq g n cap cur hg ⟨β, o, none⟩ m c news hl hnews h1 hroom hfit
          refine ⟨_, [(g, .cells (cur.toList.take (n * i.size) ++ news ++ cur.toList.drop (n * i.size + news.length)).toArray e (0, 0))], _, hr', ⟨hlen, .inr ⟨g, cap, _, rfl, rfl, hroom, hcm, ?_, ?_⟩⟩, ?_⟩
          · simp only [List.size_toArray, List.length_append, List.length_take, List.length_drop, Array.length_toList]
            omega
          · rw [htake, ← hlen]
            exact List.take_left
          · have hf := setRow_facts (cur.toList.take (n * i.size) ++ news ++ cur.toList.drop (n * i.size + news.length)).toArray hg
            have := hst.turn (j := 0) (b := g) (o := .cells cur e (0, 0)) rfl hf.1 hf.2.1 hf.2.2.1 hf.2.2.2.1 hf.2.2.2.2.1 hf.2.2.2.2.2
            have this' : St X w0 _ ([(g, Obj.cells (cur.toList.take (n * i.size) ++ news ++ cur.toList.drop (n * i.size + news.length)).toArray e (0, 0))] ++ F) := this
            exact this'.perm List.perm_append_comm
        · have hg := hst.own _ (List.mem_append_left _ (List.mem_singleton.2 rfl))
          have holds : ∀ j u, xs[j]? = some u → w.cell? ((⟨g, 0, none⟩ : Addr).add j) = some u := fun j u hu => by
            rw [Addr.add_mid, Nat.zero_add, cell_of_row w g j _ _ _ hg]
            rw [← htake, List.getElem?_take] at hu
            split at hu
            · simpa using hu
            · cases hu
          have hr' := run_append_grow (P := P) w t ty e i z ht hq hz' ⟨g, 0, none⟩ n cap xs hxl holds ⟨β, o, none⟩ m c news hl hnews (by omega) (by omega) (growslice_fits (by omega) hbytes)
          exact ⟨_, _, _, hr', grown cap (by omega), hF.drew.alloc _⟩
end

section
variable {P : Program} {X : Nat → Prop} {w0 : World} {l : List Value} {M : Mem}
  {R : List Oper} {kd : Nat → Kd} {N : List Value → Mem → Prop} {π : List Nat} {i : Nat} {dst : Option Tmp} {op : Op} {ty : TypeId} {pos : String} {aft : Array Edge} {gd : Option (Nat × Bool)}

/-- append(v, x...): S is v's own block, F all else. -/
theorem wk_append {s x : Operand} {t e : TypeId} {size bytes : Nat} {z : Value} {v : Value} {n : Nat} {xs : List Value} {S : Mem} {a : Option Addr} {m c : Nat} {news : List Value} (F : Mem)
    (ho : nthO R i = some ⟨dst, .call ⟨.builtin .append, #[s, x], #[t, t]⟩, ty, pos, aft, gd⟩) (hg : gok R gd l = true) (hk : kd i = .W)
    (hv : ev l s = v) (hx : ev l x = .slice a m c) (ht : P.underlying t = some (.slice e)) (hs : (P.info? e).map (·.size) = some size) (hb : (P.info? e).map (·.bytes) = some bytes) (hz : (P.info? e).bind (·.zero) = some z)
    (hzs : z.cells.size = size) (hsz : 0 < size) (hO : OwnS e size v n xs S) (hp : M.Perm (S ++ F)) (hl : news.length = m * size) (hH : ∀ w, St X w0 w M → Holds w a news) (h1 : ∀ u ∈ news, u.oneCell' = true)
    (hbytes : (n + m) * bytes ≤ 140737488355328) (h63 : n + m ≤ 4611686018427387904)
    (h : ∀ v' S', OwnS e size v' (n + m) (xs ++ news) S' → Wk P X w0 R kd N π (putL l dst v') (F ++ S')) : Wk P X w0 R kd N (i :: π) l M := by
  refine ⟨⟨_, nthO_arr ho, ?_⟩⟩
  rw [hk]
  refine .inl ⟨gok_wanted hg, fun w hw => ?_⟩
  rw [eval_env]
  obtain ⟨v', S', w', hr, hO', hst'⟩ := append_step (ty := ty) ht hs hb hz hzs hsz hO (hw.perm hp) (c := c) hl (hH w hw) h1 hbytes h63
  have : (execOp (ev l) ⟨dst, .call ⟨.builtin .append, #[s, x], #[t, t]⟩, ty, pos, aft, gd⟩).run P w = .ok (.value v') w' := by
    simp only [execOp, resolve, invoke, builtin, Sem.run_bind, Sem.run_pure, Result.andThen_ok, List.map_toArray, List.map_cons, List.map_nil, hv, hx, hr]
  rw [this]
  exact ⟨_, hst', by rw [put_env]; exact (h v' S' hO').out⟩
/-- .. and nothing beside is turned. -/
theorem wk_appendV {s x : Operand} {t e : TypeId} {size bytes : Nat} {z : Value} {v : Value} {n : Nat} {xs : List Value} {S : Mem} {a : Option Addr} {m c : Nat} {news : List Value} (F : Mem)
    (ho : nthO R i = some ⟨dst, .call ⟨.builtin .append, #[s, x], #[t, t]⟩, ty, pos, aft, gd⟩) (hg : gok R gd l = true) (hk : kd i = .V)
    (hv : ev l s = v) (hx : ev l x = .slice a m c) (ht : P.underlying t = some (.slice e)) (hs : (P.info? e).map (·.size) = some size) (hb : (P.info? e).map (·.bytes) = some bytes) (hz : (P.info? e).bind (·.zero) = some z)
    (hzs : z.cells.size = size) (hsz : 0 < size) (hO : OwnS e size v n xs S) (hp : M.Perm (S ++ F)) (hmx : n + m ≤ maxLen) (hl : news.length = m * size) (hH : ∀ w, St X w0 w M → Holds w a news) (h1 : ∀ u ∈ news, u.oneCell' = true)
    (hbytes : (n + m) * bytes ≤ 140737488355328) (h63 : n + m ≤ 4611686018427387904)
    (h : ∀ v' S', OwnS e size v' (n + m) (xs ++ news) S' → Wk P X w0 R kd N π (putL l dst v') (F ++ S')) : Wk P X w0 R kd N (i :: π) l M := by
  refine ⟨⟨_, nthO_arr ho, ?_⟩⟩
  rw [hk]
  have hlen : (xs ++ news).length = (n + m) * size := by rw [List.length_append, hO.1, hl, Nat.add_mul]
  obtain ⟨v1, S1, h1'⟩ := OwnS.exists (e := e) hlen hmx
  refine ⟨fun u M' => ∃ S', M' = F ++ S' ∧ OwnS e size u (n + m) (xs ++ news) S', ⟨_, _, S1, rfl, h1'⟩, .inl ⟨gok_wanted hg, fun F' w hw => ?_⟩, ?_⟩
  · rw [eval_env]
    have hw0 : St X w0 w M := hw.less (List.sublist_append_left _ _)
    obtain ⟨v', S', w', hr, hO', hst'⟩ := append_step (ty := ty) (F := F ++ F') ht hs hb hz hzs hsz hO (hw.perm ((hp.append_right F').trans (List.Perm.of_eq (List.append_assoc ..)))) (c := c) hl (hH w hw0) h1 hbytes h63
    refine ⟨v', _, w', ?_, ⟨S', rfl, hO'⟩, hst'.perm ?_⟩
    · simp only [execOp, resolve, invoke, builtin, Sem.run_bind, Sem.run_pure, Result.andThen_ok, List.map_toArray, List.map_cons, List.map_nil, hv, hx, hr]
    · rw [List.append_assoc, List.append_assoc]
      exact List.Perm.append_left _ List.perm_append_comm
  · rintro u _ ⟨S', rfl, hO'⟩
    rw [put_env]; exact (h u S' hO').out
/-- make([]T, n). -/
theorem wk_makeS {t e : TypeId} {x y : Operand} {kl kc : IntKind} {size bytes n : Nat} {p q : Int} {z : Value} (ho : nthO R i = some ⟨dst, .makeSlice t x y, ty, pos, aft, none⟩) (hk : kd i = .A) (hx : ev l x = .int kl p) (hy : ev l y = .int kc q)
    (ht : P.underlying t = some (.slice e)) (hs : (P.info? e).map (·.size) = some size) (hb : (P.info? e).map (·.bytes) = some bytes) (hz : (P.info? e).bind (·.zero) = some z) (hp : p = (n : Int)) (hq : q = (n : Int)) (hbytes : bytes * n ≤ 140737488355328) (h63 : n ≤ 4611686018427387904)
    (h : ∀ β, Wk P X w0 R kd N π (putL l dst (.slice (some ⟨β, 0, none⟩) n n)) (M ++ [(β, .cells (madeCells z.cells (n * size)) e (0, 0))])) : Wk P X w0 R kd N (i :: π) l M := by
  refine wk_make (mk := fun β => .slice (some ⟨β, 0, none⟩) n n) ho hk (fun w => ?_) h
  subst hp hq
  cases hqq : P.info? e with
  | none => simp [hqq] at hs
  | some i =>
    have hsize : i.size = size := by simpa [hqq] using hs
    have hby : i.bytes = bytes := by simpa [hqq] using hb
    have hz' : i.zero = some z := by simpa [hqq] using hz
    subst hsize hby
    have hb' : (i.bytes : Int) * (n : Int) ≤ 281474976710656 := by
      have h : ((i.bytes * n : Nat) : Int) ≤ 281474976710656 := by omega
      rwa [Int.natCast_mul] at h
    have := run_make (P := P) w t e i z ht hqq hz' kl kc n n (by omega) (Int.le_refl _) hb' (by omega)
    simp only [Int.toNat_natCast] at this
    simp only [execOp, hx, hy, Sem.run_bind, this]
    rfl
end
end Go.Proofs.Ytmecomgifmkkfaa
