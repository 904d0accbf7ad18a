/- The calculus of walks, at numbers of four digits. -/
import Derived.Test.YtmecomgifmkkfaaSym
import Derived.Test.YtmecomgifmkkfaaMem
import Derived.Test.YtmecomgifmkkfaaEqs
namespace Go.Proofs.Ytmecomgifmkkfaa
set_option linter.unusedVariables false
set_option linter.unusedSimpArgs false
open Go.RowKit

theorem enters_of {P : Program} {f : FuncId} {fn : Func} (hf : P.funcs[f]? = some fn) (hn : (fn.name == "runtime.NumGoroutine") = false) (hb : fn.body.isNone = false) : Enters P f := by
  intro args w
  have hn' : ¬ fn.name = "runtime.NumGoroutine" := by simpa using hn
  have hb' : ¬ fn.body = none := by intro h; rw [h] at hb; cases hb
  simp [callFunc, hf, hn', hb']

/-- A block that holds a number. -/
def numO (n : Nat) : Obj := .cells (numC n) 24 (0, 0)
theorem ninfo : (Try.prog.info? 24).map (·.size) = some 4 := by kernel_rfl
theorem nzero : (Try.prog.info? 24).bind (·.zero) = some (numV 0) := by kernel_rfl
theorem nunder : Try.prog.underlying 24 = some (.array 4 22) := by kernel_rfl
theorem one4 (n : Nat) : (numC n).all (·.oneCell') = true := by unfold numC; simp [Value.oneCell']
theorem mixed : Try.prog.follows .mixedOrders = true := by kernel_rfl

section
variable {X : Nat → Prop} {w0 : World} {Q : Exit → List Value → Mem → Prop} {l : List Value} {M : Mem} {c : Code} {R : List Oper} {kd : Nat → Kd} {N : List Value → Mem → Prop} {π : List Nat} {i : Nat} {dst : Option Tmp} {op : Op} {ty : TypeId} {pos : String} {aft : Array Edge} {gd : Option (Nat × Bool)}

theorem wk_newN (ho : nthO R i = some ⟨dst, .alloc 24, ty, pos, aft, none⟩) (hk : kd i = .A)
    (h : ∀ β, Wk Try.prog X w0 R kd N π (putL l dst (.pointer (some ⟨β, 0, none⟩))) (M ++ [(β, numO 0)])) : Wk Try.prog X w0 R kd N (i :: π) l M := wk_alloc ho hk nzero h
theorem wk_boxN {x : Operand} (n : Nat) (ho : nthO R i = some ⟨dst, .box 24 x, ty, pos, aft, none⟩) (hk : kd i = .A) (hv : ev l x = numV n)
    (h : ∀ β, Wk Try.prog X w0 R kd N π (putL l dst (.pointer (some ⟨β, 0, none⟩))) (M ++ [(β, numO n)])) : Wk Try.prog X w0 R kd N (i :: π) l M := wk_box (numV n) ho hk hv h
theorem wkf_newN (ho : nthO R i = some ⟨dst, .alloc 24, ty, pos, aft, none⟩) (hk : kd i = .A)
    (h : ∀ β, Wk Try.prog X w0 R kd N π (putL l dst (.pointer (some ⟨β, 0, none⟩))) ((β, numO 0) :: M)) : Wk Try.prog X w0 R kd N (i :: π) l M := wkf_alloc ho hk nzero h
theorem wkf_boxN {x : Operand} (n : Nat) (ho : nthO R i = some ⟨dst, .box 24 x, ty, pos, aft, none⟩) (hk : kd i = .A) (hv : ev l x = numV n)
    (h : ∀ β, Wk Try.prog X w0 R kd N π (putL l dst (.pointer (some ⟨β, 0, none⟩))) ((β, numO n) :: M)) : Wk Try.prog X w0 R kd N (i :: π) l M := wkf_box (numV n) ho hk hv h
theorem wk_ldN {x : Operand} {β n : Nat} (j : Nat) (ho : nthO R i = some ⟨dst, .load 24 x, ty, pos, aft, gd⟩) (hg : gok R gd l = true) (hk : kd i = .L)
    (hx : ev l x = .pointer (some ⟨β, 0, none⟩)) (hj : nthO M j = some (β, numO n))
    (h : Wk Try.prog X w0 R kd N π (putL l dst (numV n)) M) : Wk Try.prog X w0 R kd N (i :: π) l M := wk_load j ho hg hk hx hj nunder rfl ninfo h
theorem wk_stN {x y : Operand} {β n : Nat} (j m : Nat) (ho : nthO R i = some ⟨dst, .store 24 x y, ty, pos, aft, gd⟩) (hg : gok R gd l = true) (hk : kd i = .W)
    (hx : ev l x = .pointer (some ⟨β, 0, none⟩)) (hy : ev l y = numV m) (hj : nthO M j = some (β, numO n))
    (h : Wk Try.prog X w0 R kd N π (putL l dst undef) (M.set j (β, numO m))) : Wk Try.prog X w0 R kd N (i :: π) l M := wk_store j ho hg hk hx hy hj ninfo rfl (one4 m) h
/-- One digit is read. -/
theorem wk_digit {x : Operand} {β n : Nat} (j k : Nat) (v : Int) (hk4 : k < 4) (hv : ((dg n k : Nat) : Int) = v) (ho : nthO R i = some ⟨dst, .load 22 x, ty, pos, aft, gd⟩) (hg : gok R gd l = true) (hk : kd i = .L)
    (hx : ev l x = .pointer (some ⟨β, k, none⟩)) (hj : nthO M j = some (β, numO n))
    (h : Wk Try.prog X w0 R kd N π (putL l dst (.int .u64 v)) M) : Wk Try.prog X w0 R kd N (i :: π) l M :=
  wk_cell j ho hg hk hx hj Try.underlying22 rfl (by subst hv; rcases (by omega : k = 0 ∨ k = 1 ∨ k = 2 ∨ k = 3) with rfl | rfl | rfl | rfl <;> rfl) h

/-- One digit is written. -/
theorem wk_stD {x y : Operand} {β n : Nat} {v : Int} (j k m : Nat) (ho : nthO R i = some ⟨dst, .store 22 x y, ty, pos, aft, gd⟩) (hg : gok R gd l = true) (hk : kd i = .W)
    (hx : ev l x = .pointer (some ⟨β, k, none⟩)) (hy : ev l y = .int .u64 v) (hj : nthO M j = some (β, numO n)) (hv : (numC n).setIfInBounds k (.int .u64 v) = numC m) (hk4 : k < 4)
    (h : Wk Try.prog X w0 R kd N π (putL l dst undef) (M.set j (β, numO m))) : Wk Try.prog X w0 R kd N (i :: π) l M :=
  wk_turn j ho hg hk hj (fun w hw => ⟨w.setCell ⟨β, k, none⟩ (.int .u64 v), by
    have hc : (w.cell? ⟨β, k, none⟩).isSome = true := by
      rw [cell_of_row w β k _ _ _ hw]
      rcases (by omega : k = 0 ∨ k = 1 ∨ k = 2 ∨ k = 3) with rfl | rfl | rfl | rfl <;> rfl
    have hf : w.frozen? ⟨β, k, none⟩ = false := frozen_of_row w β k _ _ hw
    obtain ⟨u, hu⟩ := Option.isSome_iff_exists.1 hc
    have hi : (sizeOf 22).run Try.prog w = .ok 1 w := by kernel_rfl
    simp [execOp, hx, hy, Instr.storeAt, Instr.sureAddr, storeVar, Value.cells, hi, storeCells, hu, hf, Addr.add, run_store_int, stored], by
    rw [setCell_eq_setRow w β k (numC n) 24 (0, 0) _ hw, hv]
    exact setRow_facts (numC m) hw⟩) h

/-- Two numbers are held against one another. -/
theorem wk_eqN {x y : Operand} {yt : TypeId} {a b : Nat} (t : Bool) (ho : nthO R i = some ⟨dst, .binOp .eql 24 x y yt, ty, pos, aft, gd⟩) (hg : gok R gd l = true) (hk : kd i = .P) (hx : ev l x = numV a) (hy : ev l y = numV b) (ha : a < W256) (hb : b < W256)
    (ht : decide (a = b) = t) (h : Wk Try.prog X w0 R kd N π (putL l dst (.bool t)) M) : Wk Try.prog X w0 R kd N (i :: π) l M :=
  wk_val _ ho hg hk (fun w => by
    have := eq_num ha hb w
    subst ht
    simp [execOp, hx, hy, numV, eqGuard, eqGuard_num, binOp, Op.equal, Op.maxDepth, this]) h
theorem wk_neN {x y : Operand} {yt : TypeId} {a b : Nat} (t : Bool) (ho : nthO R i = some ⟨dst, .binOp .neq 24 x y yt, ty, pos, aft, gd⟩) (hg : gok R gd l = true) (hk : kd i = .P) (hx : ev l x = numV a) (hy : ev l y = numV b) (ha : a < W256) (hb : b < W256)
    (ht : decide (a = b) = !t) (h : Wk Try.prog X w0 R kd N π (putL l dst (.bool t)) M) : Wk Try.prog X w0 R kd N (i :: π) l M :=
  wk_val _ ho hg hk (fun w => by
    have := eq_num ha hb w
    have ht' : t = !decide (a = b) := by rw [ht, Bool.not_not]
    subst ht'
    simp [execOp, hx, hy, numV, eqGuard, eqGuard_num, binOp, Op.equal, Op.maxDepth, this]) h
theorem one_digit {x : Nat} (h : x < 18446744073709551616) : Value.agg #[.int .u64 (x : Int), .int .u64 0, .int .u64 0, .int .u64 0] = numV x := numV_of (a := x) (b := 0) (c := 0) (d := 0) h (by decide) (by decide) (by decide) (by omega)

/-- The result is the number in a block. -/
theorem ret_numC {fn : Func} {p : Tmp} {β n : Nat} {Rr : Ending → World → Prop} (j : Nat) (hr : fn.results = #[.cell p 24]) (hp : nthD l p = .pointer (some ⟨β, 0, none⟩)) (hj : nthO M j = some (β, numO n))
    (h : ∀ w', St X w0 w' M → Rr (.returned (numV n)) w') : RetS Try.prog w0 X fn Rr l M :=
  ⟨numV n, fun w' hw => results_cell_row hr _ w' β 24 (numC n) (0, 0) (.array 4 22) (by rw [← hp, nthD_eq]; simp) (hw.own _ (by rw [nthO_eq] at hj; exact List.mem_of_getElem? hj)) nunder rfl ninfo, h⟩
end

theorem ret_numCT {X : Nat → Prop} {w0 : World} {l : List Value} {M : Mem} {fn : Func} {p q : Tmp} {β n : Nat} {v : Value} {Rr : Ending → World → Prop} (j : Nat) (hr : fn.results = #[.cell p 24, .tmp q]) (hp : nthD l p = .pointer (some ⟨β, 0, none⟩)) (hj : nthO M j = some (β, numO n)) (hv : nthD l q = v)
    (h : ∀ w', St X w0 w' M → Rr (.returned (.tuple #[numV n, v])) w') : RetS Try.prog w0 X fn Rr l M :=
  ⟨.tuple #[numV n, v], fun w' hw => by
    have hg := hw.own _ (by rw [nthO_eq] at hj; exact List.mem_of_getElem? hj)
    have hp' : l[p]?.getD undef = .pointer (some ⟨β, 0, none⟩) := by rw [← hp, nthD_eq]
    have hv' : l[q]?.getD undef = v := by rw [← hv, nthD_eq]
    have := run_loadVar_row (P := Try.prog) w' β 24 24 (numC n) (0, 0) (.array 4 22) hg nunder rfl ninfo
    simp [results, hr, hp', hv', asAddr, this, numV, numC], h⟩

/-- The end of a function that turns nothing and hands back one value. -/
theorem pure_end {w0 w' : World} {M : Mem} {v : Value} (h : St (fun _ => False) w0 w' M) : (fun e w' => e = Ending.returned v ∧ Below w0.heap.size w0 w') (.returned v) w' := ⟨rfl, h.below⟩
end Go.Proofs.Ytmecomgifmkkfaa
