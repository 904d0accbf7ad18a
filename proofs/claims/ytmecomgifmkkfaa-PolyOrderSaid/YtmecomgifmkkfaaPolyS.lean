/- The calculus of walks: shares (a place and what it is worth there), slices of them. -/
/- The calculus of walks: rows of numbers that are written at whatever place; make; fields of shares in a slice; slices of one's own, read. -/
import Derived.Test.YtmecomgifmkkfaaSymF
import Derived.Deep.MidRow
namespace Go.Proofs.Ytmecomgifmkkfaa
set_option linter.unusedVariables false
set_option linter.unusedSimpArgs false
open Go.RowKit

/-- The cells of a share. -/
def shC (s : Nat × Nat) : Array Value := #[.int .u64 (dg s.1 0 : Nat), .int .u64 (dg s.1 1 : Nat), .int .u64 (dg s.1 2 : Nat), .int .u64 (dg s.1 3 : Nat), .int .u64 (dg s.2 0 : Nat), .int .u64 (dg s.2 1 : Nat), .int .u64 (dg s.2 2 : Nat), .int .u64 (dg s.2 3 : Nat)]
def shV (s : Nat × Nat) : Value := .agg (shC s)
def shO (s : Nat × Nat) : Obj := .cells (shC s) 65 (0, 0)
def shL : List (Nat × Nat) → List Value
  | [] => []
  | s :: ss => (shC s).toList ++ shL ss
def shsO (ss : List (Nat × Nat)) : Obj := .cells (shL ss).toArray 65 (0, 0)
theorem shL_len : ∀ ss : List (Nat × Nat), (shL ss).length = ss.length * 8
  | [] => rfl
  | s :: ss => by rw [shL, List.length_append, shL_len ss, List.length_cons]; show 8 + _ = _; omega
theorem shL_append (xs ys : List (Nat × Nat)) : shL (xs ++ ys) = shL xs ++ shL ys := by
  induction xs with
  | nil => rfl
  | cons x xs ih => simp only [List.cons_append, shL, ih, List.append_assoc]
theorem sh_one4 (s : Nat × Nat) : (shC s).all (·.oneCell') = true := by unfold shC; simp [Value.oneCell']
theorem shL_one (xs : List (Nat × Nat)) : ∀ u ∈ shL xs, u.oneCell' = true := by
  induction xs with
  | nil => intro u hu; cases hu
  | cons x xs ih =>
    intro u hu
    rcases List.mem_append.1 hu with h | h
    · exact Array.all_eq_true_iff_forall_mem.1 (sh_one4 x) u (by simpa using h)
    · exact ih u h
/-- The k-th share. -/
def sx (ss : List (Nat × Nat)) (k : Nat) : Nat × Nat := (nthO ss k).getD (0, 0)
theorem nthO_sx {ss : List (Nat × Nat)} {k : Nat} (h : k < ss.length) : nthO ss k = some (sx ss k) := by
  unfold sx
  rw [nthO_eq, List.getElem?_eq_getElem h]; rfl
theorem sx_eq {ss : List (Nat × Nat)} {k : Nat} (h : k < ss.length) : sx ss k = ss[k] := by
  have := nthO_sx h
  rw [nthO_eq, List.getElem?_eq_getElem h] at this
  exact (Option.some.inj this).symm
def ShBound (ss : List (Nat × Nat)) : Prop := ∀ s ∈ ss, s.1 < W256 ∧ s.2 < W256
theorem sx_lt1 {ss : List (Nat × Nat)} {k : Nat} (hb : ShBound ss) : (sx ss k).1 < W256 := by
  rcases Nat.lt_or_ge k ss.length with h | h
  · rw [sx_eq h]; exact (hb _ (List.getElem_mem h)).1
  · unfold sx; rw [nthO_eq, List.getElem?_eq_none h]; exact W256_pos
theorem sx_lt2 {ss : List (Nat × Nat)} {k : Nat} (hb : ShBound ss) : (sx ss k).2 < W256 := by
  rcases Nat.lt_or_ge k ss.length with h | h
  · rw [sx_eq h]; exact (hb _ (List.getElem_mem h)).2
  · unfold sx; rw [nthO_eq, List.getElem?_eq_none h]; exact W256_pos
theorem shL_ne {ss : List (Nat × Nat)} {k : Nat} (h : k < ss.length) : shL ss ≠ [] := by
  intro h0
  have := shL_len ss
  rw [h0] at this
  simp at this
  omega
theorem shL_at : ∀ (xs : List (Nat × Nat)) (i : Nat) (n : Nat × Nat), nthO xs i = some n → ∀ (j : Nat) (v : Value), (shC n).toList[j]? = some v → (shL xs)[8 * i + j]? = some v
  | [], i, n, h => by cases i <;> simp [nthO] at h
  | x :: xs, 0, n, h => by
    intro j v hj
    obtain rfl : x = n := by simpa [nthO] using h
    have hlt := (List.getElem?_eq_some_iff.1 hj).1
    rw [shL, Nat.mul_zero, Nat.zero_add, List.getElem?_append_left hlt]; exact hj
  | x :: xs, i + 1, n, h => by
    intro j v hj
    have h4 : (shC x).toList.length = 8 := rfl
    rw [shL, List.getElem?_append_right (by rw [h4]; omega), h4, show 8 * (i + 1) + j - 8 = 8 * i + j by omega]
    exact shL_at xs i n (by simpa [nthO] using h) j v hj
theorem sh_range_sub {w : World} {β o : Nat} {xs : List (Nat × Nat)} {k : Nat} {n : Nat × Nat} (hr : w.rangeAt β o (shL xs)) (hn : nthO xs k = some n) : w.rangeAt β (o + k * 8) (shC n).toList := by
  intro j v hj
  have := hr (8 * k + j) v (shL_at xs k n hn j v hj)
  rw [show o + k * 8 + j = o + (8 * k + j) by omega]
  exact this
theorem shs_holds {X : Nat → Prop} {w0 w : World} {β : Nat} {xs : List (Nat × Nat)} {M : Mem} (hm : (β, shsO xs) ∈ M) (hst : St X w0 w M) : Holds w (some ⟨β, 0, none⟩) (shL xs) :=
  .inr ⟨β, 0, rfl, own_range hm hst (fun j v hj => by rw [Nat.zero_add]; simpa using hj)⟩
theorem shInfo : (Try.prog.info? 65).map (·.size) = some 8 := by kernel_rfl
theorem shBytes : (Try.prog.info? 65).map (·.bytes) = some 64 := by kernel_rfl
theorem shZero : (Try.prog.info? 65).bind (·.zero) = some (shV (0, 0)) := by kernel_rfl

section
variable {X : Nat → Prop} {w0 : World} {l : List Value} {M : Mem} {R : List Oper} {kd : Nat → Kd} {N : List Value → Mem → Prop} {π : List Nat} {i : Nat} {dst : Option Tmp} {ty : TypeId} {pos : String} {aft : Array Edge} {gd : Option (Nat × Bool)}
/-- One share of a slice is read. -/
theorem wk_ldSA {x : Operand} {β o k : Nat} {xs : List (Nat × Nat)} (ho : nthO R i = some ⟨dst, .load 65 x, ty, pos, aft, gd⟩) (hg : gok R gd l = true) (hk : kd i = .L)
    (hx : ev l x = .pointer (some ⟨β, o + k * 8, none⟩)) (hr : ∀ M' w, (∀ p ∈ M, p ∈ M') → St X w0 w M' → w.rangeAt β o (shL xs)) (hlt : k < xs.length)
    (h : Wk Try.prog X w0 R kd N π (putL l dst (shV (sx xs k))) M) : Wk Try.prog X w0 R kd N (i :: π) l M := by
  refine wk_ldMid (cs := (shC (sx xs k)).toList) ho hg hk hx (fun M' w hm hst => sh_range_sub (hr M' w hm hst) (nthO_sx hlt)) Try.underlying65 rfl shInfo ?_
  exact h
theorem wkf_newS (ho : nthO R i = some ⟨dst, .alloc 65, ty, pos, aft, none⟩) (hk : kd i = .A)
    (h : ∀ β, Wk Try.prog X w0 R kd N π (putL l dst (.pointer (some ⟨β, 0, none⟩))) ((β, shO (0, 0)) :: M)) : Wk Try.prog X w0 R kd N (i :: π) l M := wkf_alloc ho hk shZero h
theorem wkf_boxSh {x : Operand} (n : Nat × Nat) (ho : nthO R i = some ⟨dst, .box 65 x, ty, pos, aft, none⟩) (hk : kd i = .A) (hv : ev l x = shV n)
    (h : ∀ β, Wk Try.prog X w0 R kd N π (putL l dst (.pointer (some ⟨β, 0, none⟩))) ((β, shO n) :: M)) : Wk Try.prog X w0 R kd N (i :: π) l M := wkf_box (shV n) ho hk hv h
theorem wk_stS {x y : Operand} {β : Nat} {n : Nat × Nat} (j : Nat) (m : Nat × Nat) (ho : nthO R i = some ⟨dst, .store 65 x y, ty, pos, aft, gd⟩) (hg : gok R gd l = true) (hk : kd i = .W)
    (hx : ev l x = .pointer (some ⟨β, 0, none⟩)) (hy : ev l y = shV m) (hj : nthO M j = some (β, shO n))
    (h : Wk Try.prog X w0 R kd N π (putL l dst undef) (M.set j (β, shO m))) : Wk Try.prog X w0 R kd N (i :: π) l M := wk_store j ho hg hk hx hy hj shInfo rfl (sh_one4 m) h
theorem wk_ldS {x : Operand} {β : Nat} {n : Nat × Nat} (j : Nat) (ho : nthO R i = some ⟨dst, .load 65 x, ty, pos, aft, gd⟩) (hg : gok R gd l = true) (hk : kd i = .L)
    (hx : ev l x = .pointer (some ⟨β, 0, none⟩)) (hj : nthO M j = some (β, shO n))
    (h : Wk Try.prog X w0 R kd N π (putL l dst (shV n)) M) : Wk Try.prog X w0 R kd N (i :: π) l M := wk_load j ho hg hk hx hj Try.underlying65 rfl shInfo h
/-- A share's place, or worth. -/
theorem wk_ldX {x : Operand} {β : Nat} {n : Nat × Nat} (j : Nat) (ho : nthO R i = some ⟨dst, .load 24 x, ty, pos, aft, gd⟩) (hg : gok R gd l = true) (hk : kd i = .L)
    (hx : ev l x = .pointer (some ⟨β, 0, none⟩)) (hj : nthO M j = some (β, shO n))
    (h : Wk Try.prog X w0 R kd N π (putL l dst (numV n.1)) M) : Wk Try.prog X w0 R kd N (i :: π) l M := by
  have hm : (β, shO n) ∈ M := by rw [nthO_eq] at hj; exact List.mem_of_getElem? hj
  refine wk_ldMid (cs := (numC n.1).toList) (d := .array 4 22) ho hg hk hx (fun M' w hm' hst => own_range (hm' _ hm) hst ?_) nunder rfl ninfo h
  intro j v hj
  rcases (by have := (List.getElem?_eq_some_iff.1 hj).1; simp [numC] at this; omega : j = 0 ∨ j = 1 ∨ j = 2 ∨ j = 3) with rfl | rfl | rfl | rfl <;> simpa [numC, shC] using hj
theorem wk_ldY {x : Operand} {β : Nat} {n : Nat × Nat} (j : Nat) (ho : nthO R i = some ⟨dst, .load 24 x, ty, pos, aft, gd⟩) (hg : gok R gd l = true) (hk : kd i = .L)
    (hx : ev l x = .pointer (some ⟨β, 4, none⟩)) (hj : nthO M j = some (β, shO n))
    (h : Wk Try.prog X w0 R kd N π (putL l dst (numV n.2)) M) : Wk Try.prog X w0 R kd N (i :: π) l M := by
  have hm : (β, shO n) ∈ M := by rw [nthO_eq] at hj; exact List.mem_of_getElem? hj
  refine wk_ldMid (cs := (numC n.2).toList) (d := .array 4 22) ho hg hk hx (fun M' w hm' hst => own_range (hm' _ hm) hst ?_) nunder rfl ninfo h
  intro j v hj
  rcases (by have := (List.getElem?_eq_some_iff.1 hj).1; simp [numC] at this; omega : j = 0 ∨ j = 1 ∨ j = 2 ∨ j = 3) with rfl | rfl | rfl | rfl <;> simpa [numC, shC] using hj
end
/-- The places of shares. -/
def xsS (ss : List (Nat × Nat)) : List Nat := ss.map Prod.fst
theorem xsS_len (ss : List (Nat × Nat)) : (xsS ss).length = ss.length := by simp [xsS]
theorem xsS_bound {ss : List (Nat × Nat)} (h : ShBound ss) : ∀ x ∈ xsS ss, x < W256 := by
  intro x hx
  obtain ⟨s, hs, rfl⟩ := List.mem_map.1 hx
  exact (h s hs).1
theorem xsS_ix {ss : List (Nat × Nat)} {k : Nat} (h : k < ss.length) : ix (xsS ss) k = (sx ss k).1 := by
  rw [ix_eq (by rw [xsS_len]; exact h), sx_eq h]; simp [xsS]
theorem xsS_take {ss : List (Nat × Nat)} {k : Nat} (h : k < ss.length) : xsS (ss.take (k + 1)) = xsS (ss.take k) ++ [(sx ss k).1] := by
  rw [sx_eq h]
  unfold xsS
  rw [List.take_succ_eq_append_getElem h, List.map_append]; rfl
end Go.Proofs.Ytmecomgifmkkfaa

namespace Go.Proofs.Ytmecomgifmkkfaa
set_option linter.unusedVariables false
set_option linter.unusedSimpArgs false
open Go.RowKit

theorem setCell_facts {w : World} {β o : Nat} {cur : Array Value} {t : TypeId} {fz : Nat × Nat} (v : Value) (hw : w.heap[β]? = some (.cells cur t fz)) :
    (w.setCell ⟨β, o, none⟩ v).os = w.os ∧ (w.setCell ⟨β, o, none⟩ v).tape = w.tape ∧ (w.setCell ⟨β, o, none⟩ v).output = w.output ∧ (w.setCell ⟨β, o, none⟩ v).heap.size = w.heap.size ∧
    (∀ k, k ≠ β → (w.setCell ⟨β, o, none⟩ v).heap[k]? = w.heap[k]?) ∧ (w.setCell ⟨β, o, none⟩ v).heap[β]? = some (.cells (cur.setIfInBounds o v) t fz) := by
  refine ⟨rfl, rfl, rfl, by simp [World.setCell], fun k hk => ?_, ?_⟩
  · simp only [World.setCell, Array.getElem?_modify]
    rw [if_neg (fun h => hk h.symm)]
  · simp [World.setCell, Array.getElem?_modify, hw]
/-- Cells, written one after another. -/
def putA (cur : Array Value) : Nat → List Value → Array Value
  | _, [] => cur
  | o, v :: vs => putA (cur.setIfInBounds o v) (o + 1) vs
theorem setCells_facts {β : Nat} {t : TypeId} {fz : Nat × Nat} : ∀ (vs : List Value) (w : World) (o : Nat) (cur : Array Value), w.heap[β]? = some (.cells cur t fz) →
    (w.setCells β o vs).os = w.os ∧ (w.setCells β o vs).tape = w.tape ∧ (w.setCells β o vs).output = w.output ∧ (w.setCells β o vs).heap.size = w.heap.size ∧
    (∀ k, k ≠ β → (w.setCells β o vs).heap[k]? = w.heap[k]?) ∧ (w.setCells β o vs).heap[β]? = some (.cells (putA cur o vs) t fz)
  | [], w, o, cur, hw => ⟨rfl, rfl, rfl, rfl, fun _ _ => rfl, hw⟩
  | v :: vs, w, o, cur, hw => by
    obtain ⟨a1, a2, a3, a4, a5, a6⟩ := setCell_facts (o := o) v hw
    obtain ⟨b1, b2, b3, b4, b5, b6⟩ := setCells_facts vs (w.setCell ⟨β, o, none⟩ v) (o + 1) _ a6
    exact ⟨b1.trans a1, b2.trans a2, b3.trans a3, b4.trans a4, fun k hk => (b5 k hk).trans (a5 k hk), b6⟩
theorem putA_toList : ∀ (vs : List Value) (cur : List Value) (o : Nat), o + vs.length ≤ cur.length → (putA cur.toArray o vs).toList = cur.take o ++ vs ++ cur.drop (o + vs.length)
  | [], cur, o, h => by simp [putA]
  | v :: vs, cur, o, h => by
    simp only [List.length_cons] at h
    rw [putA, show cur.toArray.setIfInBounds o v = (cur.set o v).toArray by simp, putA_toList vs (cur.set o v) (o + 1) (by simp only [List.length_set]; omega)]
    have h1 : (cur.set o v).take (o + 1) = cur.take o ++ [v] := by
      rw [List.take_add_one]
      rw [List.take_set_of_le (by omega)]
      simp [List.getElem?_set, show o < cur.length by omega]
    rw [h1, List.drop_set_of_lt (by omega)]
    simp [Nat.add_comm, Nat.add_left_comm]
theorem rowL_set : ∀ (xs : List Nat) (k v : Nat), k < xs.length → (rowL xs).take (k * 4) ++ (numC v).toList ++ (rowL xs).drop (k * 4 + 4) = rowL (xs.set k v)
  | [], k, v, h => by simp at h
  | x :: xs, 0, v, h => by
    have h4 : (numC x).toList.length = 4 := rfl
    rw [List.set_cons_zero, rowL, rowL, Nat.zero_mul, Nat.zero_add, List.take_zero, List.nil_append, ← h4, List.drop_left]
  | x :: xs, k + 1, v, h => by
    have h4 : (numC x).toList.length = 4 := rfl
    simp only [List.length_cons] at h
    rw [List.set_cons_succ, rowL, rowL, ← rowL_set xs k v (by omega), show (k + 1) * 4 = 4 + k * 4 by omega, show 4 + k * 4 + 4 = 4 + (k * 4 + 4) by omega, ← h4, List.take_length_add_append, List.drop_append, List.drop_of_length_le (by omega)]
    simp [h4, Nat.add_sub_cancel_left]
theorem num_one4 (v : Nat) : (numC v).all (·.oneCell') = true := one4 v

section
variable {X : Nat → Prop} {w0 : World} {l : List Value} {M : Mem} {R : List Oper} {kd : Nat → Kd} {N : List Value → Mem → Prop} {π : List Nat} {i : Nat} {dst : Option Tmp} {ty : TypeId} {pos : String} {aft : Array Edge} {gd : Option (Nat × Bool)}

/-- One number of a row of one's own is written. -/
theorem wk_stRow {x y : Operand} {β k v : Nat} {xs : List Nat} (j : Nat) (ho : nthO R i = some ⟨dst, .store 24 x y, ty, pos, aft, gd⟩) (hg : gok R gd l = true) (hk : kd i = .W)
    (hx : ev l x = .pointer (some ⟨β, 0 + k * 4, none⟩)) (hy : ev l y = numV v) (hj : nthO M j = some (β, rowO xs)) (hlt : k < xs.length)
    (h : Wk Try.prog X w0 R kd N π (putL l dst undef) (M.set j (β, rowO (xs.set k v)))) : Wk Try.prog X w0 R kd N (i :: π) l M :=
  wk_turn j ho hg hk hj (fun w hw => by
    have hw' : w.heap[β]? = some (.cells (rowL xs).toArray 24 (0, 0)) := hw
    have hlen := rowL_len xs
    have hthere : w.there β (0 + k * 4) (numC v).size := fun j hj => by
      have hj : j < 4 := hj
      constructor
      · rw [cell_of_row w β _ _ _ _ hw']
        have : 0 + k * 4 + j < (rowL xs).toArray.size := by rw [List.size_toArray, hlen]; omega
        rw [Array.getElem?_eq_getElem this]; rfl
      · simp [World.frozen?, hw']
    have hf := setCells_facts (numC v).toList w (0 + k * 4) (rowL xs).toArray hw'
    refine ⟨w.setCells β (0 + k * 4) (numC v).toList, ?_, hf.1, hf.2.1, hf.2.2.1, hf.2.2.2.1, hf.2.2.2.2.1, ?_⟩
    · have := run_storeAt_mid (P := Try.prog) w β (0 + k * 4) 24 (numC v) hthere ninfo (num_one4 v)
      have hy' : ev l y = .agg (numC v) := hy
      simp only [execOp, hx, hy', Sem.run_bind]
      rw [this]; rfl
    · rw [hf.2.2.2.2.2]
      unfold rowO
      have hp : (putA (rowL xs).toArray (k * 4) (numC v).toList).toList = _ := putA_toList (numC v).toList (rowL xs) (k * 4) (by rw [hlen]; show k * 4 + 4 ≤ _; omega)
      rw [← rowL_set xs k v hlt, Nat.zero_add]
      change _ = some (Obj.cells (List.take (k * 4) (rowL xs) ++ (numC v).toList ++ List.drop (k * 4 + (numC v).toList.length) (rowL xs)).toArray 24 (0, 0))
      rw [← hp]) h
/-- One number of a row of one's own is read. -/
theorem wk_ldRow {x : Operand} {β k : Nat} {xs : List Nat} (j : Nat) (ho : nthO R i = some ⟨dst, .load 24 x, ty, pos, aft, gd⟩) (hg : gok R gd l = true) (hk : kd i = .L)
    (hx : ev l x = .pointer (some ⟨β, 0 + k * 4, none⟩)) (hj : nthO M j = some (β, rowO xs)) (hlt : k < xs.length)
    (h : Wk Try.prog X w0 R kd N π (putL l dst (numV (ix xs k))) M) : Wk Try.prog X w0 R kd N (i :: π) l M :=
  wk_ldA ho hg hk hx (fun M' w hm hst => row_range (hm _ (by rw [nthO_eq] at hj; exact List.mem_of_getElem? hj)) hst) hlt h
theorem made_cell (x : Nat) : (numC 0)[x % (numC 0).size]! = .int .u64 0 := by
  have : x % (numC 0).size < 4 := Nat.mod_lt x (by decide)
  rcases (by omega : x % (numC 0).size = 0 ∨ x % (numC 0).size = 1 ∨ x % (numC 0).size = 2 ∨ x % (numC 0).size = 3) with h | h | h | h <;> rw [h] <;> rfl
theorem rowL_zeros : ∀ n : Nat, rowL (List.replicate n 0) = List.replicate (n * 4) (.int .u64 0)
  | 0 => by simp [rowL]
  | n + 1 => by
    rw [List.replicate_succ, rowL, rowL_zeros n, show (n + 1) * 4 = n * 4 + 1 + 1 + 1 + 1 by omega]
    rfl
theorem made_row (n : Nat) : (madeCells (numC 0) (n * 4)).toList = rowL (List.replicate n 0) := by
  rw [rowL_zeros]
  unfold madeCells
  rw [show (fun x => (numC 0)[x % (numC 0).size]!) = fun _ => Value.int .u64 0 from funext made_cell]
  simp [List.eq_replicate_iff]
theorem nzeroV : (Try.prog.info? 24).bind (·.zero) = some (.agg (numC 0)) := nzero
/-- make([]Num, n). -/
theorem wkf_makeN {t : TypeId} {x y : Operand} {kl kc : IntKind} {n : Nat} {p q : Int} (ho : nthO R i = some ⟨dst, .makeSlice t x y, ty, pos, aft, none⟩) (hk : kd i = .A) (hx : ev l x = .int kl p) (hy : ev l y = .int kc q)
    (ht : Try.prog.underlying t = some (.slice 24)) (hp : p = (n : Int)) (hq : q = (n : Int)) (hn : n ≤ 2199023255552)
    (h : ∀ β, Wk Try.prog X w0 R kd N π (putL l dst (.slice (some ⟨β, 0, none⟩) n n)) ((β, rowO (List.replicate n 0)) :: M)) : Wk Try.prog X w0 R kd N (i :: π) l M :=
  wk_makeS ho hk hx hy ht ninfo numBytes nzeroV hp hq (by omega) (by omega) (fun β => by
    have e : Obj.cells (madeCells (Value.agg (numC 0)).cells (n * 4)) 24 (0, 0) = rowO (List.replicate n 0) := by
      unfold rowO
      rw [← made_row n]
      rfl
    rw [e]
    exact wk_perm (List.perm_append_comm (l₁ := [(β, _)])) (h β))
theorem wk_ldSO {x : Operand} {β o k : Nat} {xs : List (Nat × Nat)} (ho : nthO R i = some ⟨dst, .load 65 x, ty, pos, aft, gd⟩) (hg : gok R gd l = true) (hk : kd i = .O)
    (hx : ev l x = .pointer (some ⟨β, o + k * 8, none⟩)) (hr : ∀ M' w, St X w0 w M' → w.rangeAt β o (shL xs)) (hlt : k < xs.length)
    (h : Wk Try.prog X w0 R kd N π (putL l dst (shV (sx xs k))) M) : Wk Try.prog X w0 R kd N (i :: π) l M := by
  refine wk_ldMidO (cs := (shC (sx xs k)).toList) ho hg hk hx (fun M' w hst => sh_range_sub (hr M' w hst) (nthO_sx hlt)) Try.underlying65 rfl shInfo ?_
  exact h
theorem wk_ldXO {x : Operand} {β o k : Nat} {ss : List (Nat × Nat)} (ho : nthO R i = some ⟨dst, .load 24 x, ty, pos, aft, gd⟩) (hg : gok R gd l = true) (hk : kd i = .O)
    (hx : ev l x = .pointer (some ⟨β, o + k * 8, none⟩)) (hr : ∀ M' w, St X w0 w M' → w.rangeAt β o (shL ss)) (hlt : k < ss.length)
    (h : Wk Try.prog X w0 R kd N π (putL l dst (numV (sx ss k).1)) M) : Wk Try.prog X w0 R kd N (i :: π) l M :=
  wk_ldMidO (cs := (numC (sx ss k).1).toList) (d := .array 4 22) ho hg hk hx (fun M' w hst j v hj => by
    refine sh_range_sub (hr M' w hst) (nthO_sx hlt) j v ?_
    rcases (by have := (List.getElem?_eq_some_iff.1 hj).1; simp [numC] at this; omega : j = 0 ∨ j = 1 ∨ j = 2 ∨ j = 3) with rfl | rfl | rfl | rfl <;> simpa [numC, shC] using hj) nunder rfl ninfo h
/-- A share's place in a slice, or its worth. -/
theorem wk_ldXA {x : Operand} {β o k : Nat} {ss : List (Nat × Nat)} (ho : nthO R i = some ⟨dst, .load 24 x, ty, pos, aft, gd⟩) (hg : gok R gd l = true) (hk : kd i = .L)
    (hx : ev l x = .pointer (some ⟨β, o + k * 8, none⟩)) (hr : ∀ M' w, (∀ p ∈ M, p ∈ M') → St X w0 w M' → w.rangeAt β o (shL ss)) (hlt : k < ss.length)
    (h : Wk Try.prog X w0 R kd N π (putL l dst (numV (sx ss k).1)) M) : Wk Try.prog X w0 R kd N (i :: π) l M :=
  wk_ldMid (cs := (numC (sx ss k).1).toList) (d := .array 4 22) ho hg hk hx (fun M' w hm hst j v hj => by
    refine sh_range_sub (hr M' w hm hst) (nthO_sx hlt) j v ?_
    rcases (by have := (List.getElem?_eq_some_iff.1 hj).1; simp [numC] at this; omega : j = 0 ∨ j = 1 ∨ j = 2 ∨ j = 3) with rfl | rfl | rfl | rfl <;> simpa [numC, shC] using hj) nunder rfl ninfo h
theorem wk_ldYA {x : Operand} {β o k : Nat} {ss : List (Nat × Nat)} (ho : nthO R i = some ⟨dst, .load 24 x, ty, pos, aft, gd⟩) (hg : gok R gd l = true) (hk : kd i = .L)
    (hx : ev l x = .pointer (some ⟨β, o + k * 8 + 4, none⟩)) (hr : ∀ M' w, (∀ p ∈ M, p ∈ M') → St X w0 w M' → w.rangeAt β o (shL ss)) (hlt : k < ss.length)
    (h : Wk Try.prog X w0 R kd N π (putL l dst (numV (sx ss k).2)) M) : Wk Try.prog X w0 R kd N (i :: π) l M :=
  wk_ldMid (cs := (numC (sx ss k).2).toList) (d := .array 4 22) ho hg hk hx (fun M' w hm hst j v hj => by
    rw [show o + k * 8 + 4 + j = o + k * 8 + (4 + j) by omega]
    refine sh_range_sub (hr M' w hm hst) (nthO_sx hlt) (4 + j) v ?_
    rcases (by have := (List.getElem?_eq_some_iff.1 hj).1; simp [numC] at this; omega : j = 0 ∨ j = 1 ∨ j = 2 ∨ j = 3) with rfl | rfl | rfl | rfl <;> simpa [numC, shC] using hj) nunder rfl ninfo h
end
theorem set_lt {xs : List Nat} {k v B : Nat} (h : ∀ x ∈ xs, x < B) (hv : v < B) : ∀ x ∈ xs.set k v, x < B := by
  intro x hx
  rcases List.mem_or_eq_of_mem_set hx with h1 | rfl
  · exact h x h1
  · exact hv
theorem set_len {xs : List Nat} {n : Nat} (k v : Nat) (h : xs.length = n) : (xs.set k v).length = n := (List.length_set ..).trans h
theorem zeros_len (n : Nat) : (List.replicate n (0 : Nat)).length = n := List.length_replicate ..
theorem own_row {xs : List Nat} {n β : Nat} (h : xs.length = n) (hn : n ≤ maxLen) : OwnS 24 4 (.slice (some ⟨β, 0, none⟩) n n) n (rowL xs) [(β, rowO xs)] := by
  have hl := rowL_len xs
  refine ⟨by omega, .inr ⟨β, n, (rowL xs).toArray, rfl, rfl, Nat.le_refl _, hn, by rw [List.size_toArray]; omega, ?_⟩⟩
  rw [show (rowL xs).toArray.toList = rowL xs from rfl, List.take_of_length_le (by omega)]
theorem zeros_lt (n : Nat) : ∀ x ∈ List.replicate n 0, x < W256 := by
  intro x hx
  rw [(List.mem_replicate.1 hx).2]; exact W256_pos
/-- What is known of a slice of one's own, as it is read. -/
def Reads (a : Option Addr) (cs : List Value) (S : Mem) : Prop := cs = [] ∨ ∃ β, a = some ⟨β, 0, none⟩ ∧ ∀ w : World, (∀ p ∈ S, w.heap[p.1]? = some p.2) → w.rangeAt β 0 cs
theorem Reads.at_ {a : Option Addr} {cs : List Value} {S : Mem} (h : Reads a cs S) (hn : cs ≠ []) : ∃ β, a = some ⟨β, 0, none⟩ ∧ ∀ w : World, (∀ p ∈ S, w.heap[p.1]? = some p.2) → w.rangeAt β 0 cs := h.resolve_left hn
theorem Reads.holds {a : Option Addr} {cs : List Value} {S : Mem} (h : Reads a cs S) {X : Nat → Prop} {w0 w : World} {M : Mem} (hst : St X w0 w M) (hS : ∀ p ∈ S, p ∈ M) : Holds w a cs := by
  rcases h with h | ⟨β, e, h⟩
  · exact .inl h
  · exact .inr ⟨β, 0, e, h w (fun p hp => hst.own p (hS p hp))⟩
theorem OwnS.reads {e : TypeId} {size : Nat} {v : Value} {n : Nat} {xs : List Value} {S : Mem} (h : OwnS e size v n xs S) : ∃ a cp, v = .slice a n cp ∧ n ≤ cp ∧ Reads a xs S := h.shape
end Go.Proofs.Ytmecomgifmkkfaa
