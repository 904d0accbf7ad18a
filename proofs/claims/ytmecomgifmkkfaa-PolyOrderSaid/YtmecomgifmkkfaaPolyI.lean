/- The statements' own helper 'wakes': two shares. -/
/- Shares whose fields are written; shares that are worth the same everywhere: what they tell. -/
import Derived.Test.YtmecomgifmkkfaaPolyH
import Derived.Test.YtmecomgifmkkfaaPolyG
namespace Go.Proofs.Ytmecomgifmkkfaa
set_option linter.unusedVariables false
set_option linter.unusedSimpArgs false
open Go.RowKit

theorem wake_unlike : Unlike (modW 1) (xsS [(1, 5), (2, 8)]) (xsS [(1, 5), (2, 8)]).length := by
  intro i hi k hk
  have hi' : i < 2 := hi
  obtain ⟨rfl, rfl⟩ : i = 1 ∧ k = 0 := by omega
  decide
theorem wake_wrong : wrongI (modW 1) (xsS [(1, 5), (2, 8)]) = 0 := wrongI_ok (by decide) wake_unlike
theorem wake_two : zeroTo (modW 1) (weightsTo (modW 1) (xsS [(1, 5), (2, 8)]) (xsS [(1, 5), (2, 8)]).length) [(1, 5), (2, 8)] ([(1, 5), (2, 8)] : List (Nat × Nat)).length = 2 := by
  rw [zero_nat (modW_prime ok1) wake_unlike (cs := [2, 3]) (by decide) (fun i hi => by
    have hi' : i < 2 := hi
    rcases (by omega : i = 0 ∨ i = 1) with rfl | rfl <;> decide)]
  decide
theorem wake_bound : ShBound [(1, 5), (2, 8)] := by
  intro s hs
  rcases List.mem_cons.1 hs with rfl | hs
  · exact ⟨by decide, by decide⟩
  · obtain rfl := List.mem_singleton.1 hs
    exact ⟨by decide, by decide⟩
theorem wake_zero (a : Option Addr) (w : World) (hH : Holds w a (shL [(1, 5), (2, 8)])) : Calls Try.prog 62 #[.slice a 2 2] w fun e w' => e = .returned (.tuple #[numV 2, .int .i64 0]) ∧ Below w.heap.size w w' := by
  have h := zero_ok [(1, 5), (2, 8)] 2 a 2 rfl wake_bound (by decide) (Nat.le_refl _) wake_wrong w hH
  rw [wake_two] at h
  exact h

set_option maxRecDepth 20000 in
set_option maxHeartbeats 400000 in
theorem wakes6_calls  (w : World) : Calls Try.prog 61 #[] w fun r w' => r = .returned (.bool true) ∧ Below w.heap.size w w' := by
  refine fn_calls (l0 := [undef, undef, undef, undef, undef, undef, undef, undef, undef, undef, undef, undef, undef, undef, undef, undef, undef, undef, undef, undef, undef]) Try.func61 rfl rfl [] (St.start w) ?_
  refine sp_seq rfl ?_
  refine sp_region (π := [0]) [] rfl rfl ?_
  refine wk_assign (.bool false) rfl rfl rfl rfl ?_
  dsimp only [putL, setL, List.set_cons_zero, List.set_cons_succ, List.nil_append, List.cons_append]
  refine wk_nil ?_
  refine sp_seq rfl ?_
  refine sp_region (π := [0, 1, 2, 3, 4, 5, 6, 7, 8, 9, 10, 11, 12, 13]) [] rfl rfl ?_
  refine wk_val (numV 1) rfl rfl rfl (fun w => by kernel_rfl) ?_
  dsimp only [putL, setL, List.set_cons_zero, List.set_cons_succ, List.nil_append, List.cons_append]
  refine wk_val (numV 5) rfl rfl rfl (fun w => by kernel_rfl) ?_
  dsimp only [putL, setL, List.set_cons_zero, List.set_cons_succ, List.nil_append, List.cons_append]
  refine wk_val (shV (1, 5)) rfl rfl rfl (fun w => by kernel_rfl) ?_
  dsimp only [putL, setL, List.set_cons_zero, List.set_cons_succ, List.nil_append, List.cons_append]
  refine wk_val (numV 2) rfl rfl rfl (fun w => by kernel_rfl) ?_
  dsimp only [putL, setL, List.set_cons_zero, List.set_cons_succ, List.nil_append, List.cons_append]
  refine wk_val (numV 8) rfl rfl rfl (fun w => by kernel_rfl) ?_
  dsimp only [putL, setL, List.set_cons_zero, List.set_cons_succ, List.nil_append, List.cons_append]
  refine wk_val (shV (2, 8)) rfl rfl rfl (fun w => by kernel_rfl) ?_
  dsimp only [putL, setL, List.set_cons_zero, List.set_cons_succ, List.nil_append, List.cons_append]
  refine wkf_make (z := shsO [(1, 5), (2, 8)]) (mk := fun β => .slice (some ⟨β, 0, none⟩) 2 2) rfl rfl (fun w => by kernel_rfl) fun β1 => ?_
  dsimp only [putL, setL, List.set_cons_zero, List.set_cons_succ, List.nil_append, List.cons_append]
  refine wk_callW [(.slice (some ⟨β1, 0, none⟩) 2 2)] (.tuple #[(numV 2), (.int .i64 0)]) rfl rfl rfl (enters_of Try.func62 (by kernel_rfl) (by kernel_rfl)) rfl (fun M' w' hm hst => wake_zero _ w' (shs_holds (hm _ (List.mem_of_getElem? (i := 0) rfl)) hst)) ?_
  dsimp only [putL, setL, List.set_cons_zero, List.set_cons_succ, List.nil_append, List.cons_append]
  refine wk_move (.tuple #[(numV 2), (.int .i64 0)]) rfl rfl rfl rfl ?_
  dsimp only [putL, setL, List.set_cons_zero, List.set_cons_succ, List.nil_append, List.cons_append]
  refine wk_ext (numV 2) rfl rfl rfl rfl rfl ?_
  dsimp only [putL, setL, List.set_cons_zero, List.set_cons_succ, List.nil_append, List.cons_append]
  refine wk_ext (.int .i64 0) rfl rfl rfl rfl rfl ?_
  dsimp only [putL, setL, List.set_cons_zero, List.set_cons_succ, List.nil_append, List.cons_append]
  refine wkf_newN rfl rfl fun β2 => ?_
  dsimp only [putL, setL, List.set_cons_zero, List.set_cons_succ, List.nil_append, List.cons_append]
  refine wk_stN 0 2 rfl rfl rfl rfl rfl rfl ?_
  dsimp only [putL, setL, List.set_cons_zero, List.set_cons_succ, List.nil_append, List.cons_append]
  refine wk_assign (.int .i64 0) rfl rfl rfl rfl ?_
  dsimp only [putL, setL, List.set_cons_zero, List.set_cons_succ, List.nil_append, List.cons_append]
  refine wk_nil ?_
  refine sp_seq rfl ?_
  refine sp_region (π := [0, 1, 2, 3, 4, 5, 6, 7]) [] rfl rfl ?_
  refine wk_move (.int .i64 0) rfl rfl rfl rfl ?_
  dsimp only [putL, setL, List.set_cons_zero, List.set_cons_succ, List.nil_append, List.cons_append]
  refine wk_iop (.bool true) rfl rfl rfl rfl rfl rfl (iop_eql_t (by decide)) ?_
  dsimp only [putL, setL, List.set_cons_zero, List.set_cons_succ, List.nil_append, List.cons_append]
  refine wk_move (.bool true) rfl rfl rfl rfl ?_
  dsimp only [putL, setL, List.set_cons_zero, List.set_cons_succ, List.nil_append, List.cons_append]
  refine wk_ldN 0 rfl rfl rfl rfl rfl ?_
  dsimp only [putL, setL, List.set_cons_zero, List.set_cons_succ, List.nil_append, List.cons_append]
  refine wk_val (numV 2) rfl rfl rfl (fun w => by kernel_rfl) ?_
  dsimp only [putL, setL, List.set_cons_zero, List.set_cons_succ, List.nil_append, List.cons_append]
  refine wk_eqN true rfl rfl rfl rfl rfl (by decide) (by decide) (decide_eq_true rfl) ?_
  dsimp only [putL, setL, List.set_cons_zero, List.set_cons_succ, List.nil_append, List.cons_append]
  refine wk_pick true (.bool true) rfl rfl rfl rfl rfl ?_
  dsimp only [putL, setL, List.set_cons_zero, List.set_cons_succ, List.nil_append, List.cons_append]
  refine wk_assign (.bool true) rfl rfl rfl rfl ?_
  dsimp only [putL, setL, List.set_cons_zero, List.set_cons_succ, List.nil_append, List.cons_append]
  refine wk_nil ?_
  refine sp_ret rfl ?_
  exact ret_tmps (v := (.bool true)) (fun w' => by kernel_rfl) fun w' hw => ⟨rfl, hw.below⟩

end Go.Proofs.Ytmecomgifmkkfaa

namespace Go.Proofs.Ytmecomgifmkkfaa
set_option linter.unusedVariables false
set_option linter.unusedSimpArgs false
open Go.RowKit

section
variable {X : Nat → Prop} {w0 : World} {l : List Value} {M : Mem} {R : List Oper} {kd : Nat → Kd} {N : List Value → Mem → Prop} {π : List Nat} {i : Nat} {dst : Option Tmp} {ty : TypeId} {pos : String} {aft : Array Edge} {gd : Option (Nat × Bool)}
/-- A share's place is written. -/
theorem wk_stX {x y : Operand} {β v : Nat} {s : Nat × Nat} (j : Nat) (ho : nthO R i = some ⟨dst, .store 24 x y, ty, pos, aft, gd⟩) (hg : gok R gd l = true) (hk : kd i = .W)
    (hx : ev l x = .pointer (some ⟨β, 0, none⟩)) (hy : ev l y = numV v) (hj : nthO M j = some (β, shO s))
    (h : Wk Try.prog X w0 R kd N π (putL l dst undef) (M.set j (β, shO (v, s.2)))) : Wk Try.prog X w0 R kd N (i :: π) l M :=
  wk_turn j ho hg hk hj (fun w hw => by
    have hw' : w.heap[β]? = some (.cells (shC s) 65 (0, 0)) := hw
    have hthere : w.there β 0 (numC v).size := fun j hj => by
      have hj : j < 4 := hj
      constructor
      · rw [cell_of_row w β _ _ _ _ hw']
        rcases (by omega : j = 0 ∨ j = 1 ∨ j = 2 ∨ j = 3) with rfl | rfl | rfl | rfl <;> rfl
      · simp [World.frozen?, hw']
    have hf := setCells_facts (numC v).toList w 0 (shC s) hw'
    refine ⟨w.setCells β 0 (numC v).toList, ?_, hf.1, hf.2.1, hf.2.2.1, hf.2.2.2.1, hf.2.2.2.2.1, ?_⟩
    · have := run_storeAt_mid (P := Try.prog) w β 0 24 (numC v) hthere ninfo (num_one4 v)
      have hy' : ev l y = .agg (numC v) := hy
      simp only [execOp, hx, hy', Sem.run_bind]
      rw [this]; rfl
    · rw [hf.2.2.2.2.2]; rfl) h
/-- A digit of a share's place is read. -/
theorem wk_ldDX {x : Operand} {β : Nat} {s : Nat × Nat} (j k : Nat) (v : Int) (hk4 : k < 4) (hv : ((dg s.1 k : Nat) : Int) = v) (ho : nthO R i = some ⟨dst, .load 22 x, ty, pos, aft, gd⟩) (hg : gok R gd l = true) (hk : kd i = .L)
    (hx : ev l x = .pointer (some ⟨β, k, none⟩)) (hj : nthO M j = some (β, shO s))
    (h : Wk Try.prog X w0 R kd N π (putL l dst (.int .u64 v)) M) : Wk Try.prog X w0 R kd N (i :: π) l M :=
  wk_cell j ho hg hk hx hj Try.underlying22 rfl (by subst hv; rcases (by omega : k = 0 ∨ k = 1 ∨ k = 2 ∨ k = 3) with rfl | rfl | rfl | rfl <;> rfl) h
/-- A digit of a share's place is written. -/
theorem wk_stDX {x y : Operand} {β : Nat} {s : Nat × Nat} {v : Int} (j k m : Nat) (ho : nthO R i = some ⟨dst, .store 22 x y, ty, pos, aft, gd⟩) (hg : gok R gd l = true) (hk : kd i = .W)
    (hx : ev l x = .pointer (some ⟨β, k, none⟩)) (hy : ev l y = .int .u64 v) (hj : nthO M j = some (β, shO s)) (hv : (shC s).setIfInBounds k (.int .u64 v) = shC (m, s.2)) (hk4 : k < 4)
    (h : Wk Try.prog X w0 R kd N π (putL l dst undef) (M.set j (β, shO (m, s.2)))) : Wk Try.prog X w0 R kd N (i :: π) l M :=
  wk_turn j ho hg hk hj (fun w hw => ⟨w.setCell ⟨β, k, none⟩ (.int .u64 v), by
    have hw' : w.heap[β]? = some (.cells (shC s) 65 (0, 0)) := hw
    have hc : (w.cell? ⟨β, k, none⟩).isSome = true := by
      rw [cell_of_row w β k _ _ _ hw']
      rcases (by omega : k = 0 ∨ k = 1 ∨ k = 2 ∨ k = 3) with rfl | rfl | rfl | rfl <;> rfl
    have hf : w.frozen? ⟨β, k, none⟩ = false := by simp [World.frozen?, hw']
    obtain ⟨u, hu⟩ := Option.isSome_iff_exists.1 hc
    have hi : (sizeOf 22).run Try.prog w = .ok 1 w := by kernel_rfl
    have hs := setCell_facts (o := k) (.int .u64 v) hw'
    rw [hv] at hs
    refine ⟨?_, hs⟩
    simp [execOp, hx, hy, Instr.storeAt, Instr.sureAddr, storeVar, Value.cells, hi, storeCells, hu, hf, Addr.add, run_store_int, stored]⟩) h
end
theorem shC_set0 {n m y : Nat} {v : Int} (h0 : v = ((dg m 0 : Nat) : Int)) (h1 : dg n 1 = dg m 1) (h2 : dg n 2 = dg m 2) (h3 : dg n 3 = dg m 3) : (shC (n, y)).setIfInBounds 0 (.int .u64 v) = shC (m, y) := by
  subst h0
  show #[_, Value.int .u64 (dg n 1 : Nat), Value.int .u64 (dg n 2 : Nat), Value.int .u64 (dg n 3 : Nat), _, _, _, _] = _
  rw [h1, h2, h3]
  rfl
theorem iop_wrap_succ {i : Nat} (h : i < 1000) : iop .add .u64 (IntKind.u64.wrap (i : Int)) 1 = some (.int .u64 ((i + 1 : Nat) : Int)) := by
  have e : IntKind.u64.wrap (i : Int) = i := by simp only [IntKind.wrap]; show (i : Int) % 18446744073709551616 = i; omega
  rw [e]
  have e2 : IntKind.u64.wrap ((i : Int) + 1) = ((i + 1 : Nat) : Int) := by show ((i : Int) + 1) % 18446744073709551616 = _; omega
  simp only [iop, e2]

/-- i shares at the places 1, 2, .., all worth x. -/
def bS (x : Nat) : Nat → List (Nat × Nat)
  | 0 => []
  | i + 1 => bS x i ++ [(i + 1, x)]
theorem bS_len (x : Nat) : ∀ i, (bS x i).length = i
  | 0 => rfl
  | i + 1 => by rw [bS, List.length_append, bS_len x i]; rfl
theorem bS_bound {x : Nat} (hx : x < W256) : ∀ i, i < 1000 → ShBound (bS x i)
  | 0, _ => fun s hs => by cases hs
  | i + 1, h => fun s hs => by
    rcases List.mem_append.1 hs with h1 | h1
    · exact bS_bound hx i (by omega) s h1
    · obtain rfl := List.mem_singleton.1 h1
      exact ⟨Nat.lt_trans h (by decide), hx⟩
theorem sx_append_left {a b : List (Nat × Nat)} {k : Nat} (h : k < a.length) : sx (a ++ b) k = sx a k := by
  rw [sx_eq (by rw [List.length_append]; omega), sx_eq h, List.getElem_append_left h]
theorem sx_append_right {a : List (Nat × Nat)} {s : Nat × Nat} {k : Nat} (h : k = a.length) : sx (a ++ [s]) k = s := by
  subst h
  rw [sx_eq (by rw [List.length_append]; exact Nat.lt_succ_self _), List.getElem_append_right (Nat.le_refl _)]
  simp
theorem bS_at (x : Nat) : ∀ i k, k < i → sx (bS x i) k = (k + 1, x)
  | 0, k, h => by omega
  | i + 1, k, h => by
    have hl := bS_len x i
    rw [bS]
    rcases Nat.lt_or_ge k i with h1 | h1
    · rw [sx_append_left (by omega)]; exact bS_at x i k h1
    · rw [sx_append_right (by omega), show k = i by omega]
theorem bS_unlike (x : Nat) {i : Nat} (h : i < 1000) : Unlike (modW 1) (xsS (bS x i)) (xsS (bS x i)).length := by
  have hl := bS_len x i
  intro a ha b hb h0
  rw [xsS_len] at ha
  rw [xsS_ix (by omega), xsS_ix (by omega), bS_at x i a (by omega), bS_at x i b (by omega)] at h0
  have h1 := (subM_zero (modW_pos ok1)).1 h0
  have hm : 1000 < modW 1 := by decide
  simp only at h1
  rw [Nat.mod_eq_of_lt (by omega), Nat.mod_eq_of_lt (by omega)] at h1
  omega
theorem bS_bad (x : Nat) {i : Nat} (h : i = 0 ∨ 64 < i) : wrongI (modW 1) (xsS (bS x i)) = 4 := wrongI_len (by rw [xsS_len, bS_len]; exact h)
theorem bS_ok (x : Nat) {i : Nat} (h : ¬ (i = 0 ∨ 64 < i)) : wrongI (modW 1) (xsS (bS x i)) = 0 := wrongI_ok (by rw [xsS_len, bS_len]; exact h) (bS_unlike x (by omega))
theorem bS_zero (x : Nat) {i : Nat} (h : ¬ (i = 0 ∨ 64 < i)) : zeroTo (modW 1) (weightsTo (modW 1) (xsS (bS x i)) (xsS (bS x i)).length) (bS x i) (bS x i).length = x % modW 1 := by
  have hl := bS_len x i
  rw [zero_nat (modW_prime ok1) (bS_unlike x (by omega)) (cs := [x]) (by rw [hl]; simp only [List.length_cons, List.length_nil]; omega) (fun k hk => by
    rw [bS_at x i k (by omega)]
    simp only [evalL, Nat.zero_mul, Nat.zero_mod, Nat.zero_add])]
  rfl
theorem bS_thru (x : Nat) {i : Nat} (h : ¬ (i = 0 ∨ 64 < i)) : thruL (modW 1) (bS x i) = (x % modW 1) :: List.replicate (i - 1) 0 := by
  have hl := bS_len x i
  refine (thru_eq (modW_prime ok1) (bS_unlike x (by omega)) ⟨?_, ?_, fun k hk => ?_⟩).symm
  · rw [List.length_cons, List.length_replicate]; omega
  · intro c hc
    rcases List.mem_cons.1 hc with rfl | hc
    · exact Nat.mod_lt _ (modW_pos ok1)
    · rw [(List.mem_replicate.1 hc).2]; exact modW_pos ok1
  · rw [bS_at x i k (by omega)]
    have : Cg (modW 1) (pv (ints (List.replicate (i - 1) 0)) ((k + 1 : Nat) : Int)) 0 := pv_zero (fun q hq => by
      obtain ⟨n, hn, rfl⟩ := List.mem_map.1 hq
      rw [(List.mem_replicate.1 hn).2]; exact Cg.refl _) _
    exact ((Cg.mod x).add ((Cg.refl ((k + 1 : Nat) : Int)).mul this)).trans (Cg.of (by grind))
theorem bS_c0 (x : Nat) {i : Nat} (h : ¬ (i = 0 ∨ 64 < i)) : ix (thruL (modW 1) (bS x i)) 0 = x % modW 1 := by rw [bS_thru x h]; rfl
theorem bS_ck (x : Nat) {i k : Nat} (h : ¬ (i = 0 ∨ 64 < i)) (hk : 0 < k) : ix (thruL (modW 1) (bS x i)) k = 0 := by
  rw [bS_thru x h]
  obtain ⟨k, rfl⟩ : ∃ j, k = j + 1 := ⟨k - 1, by omega⟩
  show ix (List.replicate (i - 1) 0) k = 0
  exact ix_zeros _ _
theorem conv_post {P : Program} {f : FuncId} {args : Array Value} {w : World} {v v' : Value} (h : v = v') (hc : Calls P f args w fun e w' => e = .returned v ∧ Below w.heap.size w w') : Calls P f args w fun e w' => e = .returned v' ∧ Below w.heap.size w w' := h ▸ hc
theorem bS_row (x i : Nat) : shL (bS x (i + 1)) = shL (bS x i) ++ shL [(i + 1, x)] := by rw [bS, shL_append]
theorem bS_tint (x : Nat) {i : Nat} (h : ¬ (i = 0 ∨ 64 < i)) : (thruL (modW 1) (bS x i)).length = i := by
  rw [bS_thru x h, List.length_cons, List.length_replicate]; omega
theorem bS_trow (x : Nat) {i : Nat} (h : ¬ (i = 0 ∨ 64 < i)) : (rowL (thruL (modW 1) (bS x i))).length = i * 4 := by rw [rowL_len, bS_tint x h, Nat.mul_comm]
theorem bS_tlt (x : Nat) {i : Nat} (h : ¬ (i = 0 ∨ 64 < i)) : ∀ y ∈ thruL (modW 1) (bS x i), y < W256 := by
  rw [bS_thru x h]
  intro y hy
  rcases List.mem_cons.1 hy with rfl | hy
  · exact Nat.lt_trans (Nat.mod_lt _ (modW_pos ok1)) (modW_lt 1)
  · rw [(List.mem_replicate.1 hy).2]; exact W256_pos
theorem tw_len (x i : Nat) (p : Nat × Nat) : (bS x i ++ [p]).length = i + 1 := by rw [List.length_append, bS_len]; rfl
theorem tw_bound {x i : Nat} {p : Nat × Nat} (h : ShBound (bS x i)) (h1 : p.1 < W256) (h2 : p.2 < W256) : ShBound (bS x i ++ [p]) := fun s hs => by
  rcases List.mem_append.1 hs with h3 | h3
  · exact h s h3
  · obtain rfl := List.mem_singleton.1 h3; exact ⟨h1, h2⟩
theorem bS_first (x : Nat) {i : Nat} (h : ¬ (i = 0 ∨ 64 < i)) : (sx (bS x i) 0).1 % modW 1 = 1 := by
  rw [bS_at x i 0 (by omega)]
  show 1 % modW 1 = 1
  decide
/-- One share more, at the first one's place. -/
theorem bS_twice (x : Nat) {i : Nat} (h : ¬ (i = 0 ∨ 64 < i)) (h64 : i ≠ 64) {p : Nat × Nat} (ha : p.1 % modW 1 = 1) : wrongI (modW 1) (xsS (bS x i ++ [p])) = 6 := by
  have hl := bS_len x i
  have hl2 : (xsS (bS x i ++ [p])).length = i + 1 := by rw [xsS_len, List.length_append, hl]; rfl
  refine wrongI_no (by omega) (fun hu => hu i (by omega) 0 (by omega) ?_)
  rw [xsS_ix (by rw [xsS_len] at hl2; omega), xsS_ix (by rw [xsS_len] at hl2; omega), sx_append_right hl.symm, sx_append_left (by omega), bS_at x i 0 (by omega)]
  exact (subM_zero (modW_pos ok1)).2 (ha.trans (show 1 = 1 % modW 1 by decide))
end Go.Proofs.Ytmecomgifmkkfaa
