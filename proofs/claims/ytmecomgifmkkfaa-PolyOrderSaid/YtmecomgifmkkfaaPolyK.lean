/- Whole numbers in slices; numbers laid anew; lists that are the same: what the statements' helpers answer. -/
import Derived.Test.YtmecomgifmkkfaaPolyL
import Derived.Test.YtmecomgifmkkfaaOpenS
namespace Go.Proofs.Ytmecomgifmkkfaa
set_option linter.unusedVariables false
set_option linter.unusedSimpArgs false
open Go.RowKit

/-- The k-th whole number. -/
def ixI (xs : List Int) (k : Nat) : Int := (nthO xs k).getD 0
theorem intL_len : ∀ xs : List Int, (intL xs).length = xs.length
  | [] => rfl
  | x :: xs => by rw [intL, List.length_cons, intL_len xs, List.length_cons]
theorem intL_ne {xs : List Int} {k : Nat} (h : k < xs.length) : intL xs ≠ [] := by
  intro h0
  have := intL_len xs
  rw [h0] at this
  simp at this
  omega
theorem intL_at : ∀ {xs : List Int} {k : Nat}, k < xs.length → (intL xs)[k]? = some (.int .i64 (ixI xs k))
  | x :: xs, 0, _ => rfl
  | x :: xs, k + 1, h => intL_at (xs := xs) (k := k) (by simpa using h)
  | [], k, h => by simp at h
section
variable {X : Nat → Prop} {w0 : World} {l : List Value} {M : Mem} {R : List Oper} {kd : Nat → Kd} {N : List Value → Mem → Prop} {π : List Nat} {i : Nat} {dst : Option Tmp} {ty : TypeId} {pos : String} {aft : Array Edge} {gd : Option (Nat × Bool)}
/-- One whole number of a slice is read. -/
theorem wk_ldI {x : Operand} {β o k : Nat} {xs : List Int} (ho : nthO R i = some ⟨dst, .load 3 x, ty, pos, aft, gd⟩) (hg : gok R gd l = true) (hk : kd i = .L)
    (hx : ev l x = .pointer (some ⟨β, o + k * 1, none⟩)) (hr : ∀ M' w, (∀ p ∈ M, p ∈ M') → St X w0 w M' → w.rangeAt β o (intL xs)) (hlt : k < xs.length)
    (h : Wk Try.prog X w0 R kd N π (putL l dst (.int .i64 (ixI xs k))) M) : Wk Try.prog X w0 R kd N (i :: π) l M :=
  wk_lookS _ ho hg hk (fun M' w hm hst => by
    have hc : w.cell? ⟨β, o + k * 1, none⟩ = some (.int .i64 (ixI xs k)) := by rw [Nat.mul_one]; exact hr M' w hm hst k _ (intL_at hlt)
    have hagg : (isAgg 3).run Try.prog w = .ok false w := by
      unfold isAgg
      rw [Sem.run_bind, run_underlying Try.underlying3 w]
      rfl
    rw [Nat.mul_one] at hc
    simp [execOp, hx, Instr.loadAt, Instr.sureAddr, loadVar, hagg, hc]) h
end

set_option maxRecDepth 20000 in
set_option maxHeartbeats 400000 in
theorem twin_calls (xs : List Nat) (nn : Nat) (a : Option Addr) (c : Nat) (hl : xs.length = nn) (hxs : ∀ y ∈ xs, y < W256) (hn : nn ≤ 1099511627776) (w : World) (hH : Holds w a (rowL xs)) : Calls Try.prog 63 #[.slice a nn c] w (NewS 24 4 (fun v => v) nn (rowL xs) w) := by
  refine fn_calls (l0 := [(.slice a nn c), undef, undef, undef, undef, undef, undef]) Try.func63 rfl rfl [] (St.start w) ?_
  refine sp_seq rfl ?_
  refine sp_region (π := [0]) [] rfl rfl ?_
  refine wk_assign (.slice none 0 0) rfl rfl rfl rfl ?_
  dsimp only [putL, setL, List.set_cons_zero, List.set_cons_succ, List.nil_append, List.cons_append]
  refine wk_nil ?_
  refine sp_seq rfl ?_
  refine sp_region (π := [0]) [] rfl rfl ?_
  refine wk_assign (.slice none 0 0) rfl rfl rfl rfl ?_
  dsimp only [putL, setL, List.set_cons_zero, List.set_cons_succ, List.nil_append, List.cons_append]
  refine wk_nil ?_
  refine sp_seq rfl ?_
  refine sp_region (π := [0, 1, 2, 3]) [] rfl rfl ?_
  refine wk_move (.slice none 0 0) rfl rfl rfl rfl ?_
  dsimp only [putL, setL, List.set_cons_zero, List.set_cons_succ, List.nil_append, List.cons_append]
  refine wk_move (.slice a nn c) rfl rfl rfl rfl ?_
  dsimp only [putL, setL, List.set_cons_zero, List.set_cons_succ, List.nil_append, List.cons_append]
  refine wk_append (news := (rowL xs)) (F := []) rfl rfl rfl rfl rfl Try.underlying57 ninfo numBytes nzero rfl (by decide) (OwnS.nil _ _) (List.Perm.refl _) (by rw [rowL_len, hl, Nat.mul_comm]) (fun w' hst => hH.old hst) (rowL_one _) (by omega) (by omega) fun v1 S1 hO1 => ?_
  dsimp only [putL, setL, List.set_cons_zero, List.set_cons_succ, List.nil_append, List.cons_append]
  refine wk_assign v1 rfl rfl rfl rfl ?_
  dsimp only [putL, setL, List.set_cons_zero, List.set_cons_succ, List.nil_append, List.cons_append]
  refine wk_nil ?_
  refine sp_ret rfl ?_
  exact ret_tmps (v := v1) (fun w' => by kernel_rfl) fun w' hw => ⟨v1, S1, rfl, by have h := hO1; rw [Nat.zero_add, List.nil_append] at h; exact h, hw.below, fun p hp => ⟨hw.own p (by simp [hp]), (hw.free p (by simp [hp])).resolve_right id⟩⟩

set_option maxRecDepth 20000 in
set_option maxHeartbeats 400000 in
theorem nums_same (xs : List Nat) (nn : Nat) (a : Option Addr) (c : Nat) (hl : xs.length = nn) (hxs : ∀ y ∈ xs, y < W256) (hn : nn ≤ 1099511627776) (b : Option Addr) (d : Nat) (w : World) (hH : Holds w a (rowL xs)) (hG : Holds w b (rowL xs)): Calls Try.prog 65 #[.slice a nn c, .slice b nn d] w fun r w' => r = .returned (.bool true) ∧ Below w.heap.size w w' := by
  refine fn_calls (l0 := [(.slice a nn c), (.slice b nn d), undef, undef, undef, undef, undef, undef, undef, undef, undef, undef, undef, undef, undef, undef, undef, undef, undef, undef, undef, undef, undef, undef, undef, undef]) Try.func65 rfl rfl [] (St.start w) ?_
  refine sp_seq rfl ?_
  refine sp_region (π := [0]) [] rfl rfl ?_
  refine wk_assign (.bool false) rfl rfl rfl rfl ?_
  dsimp only [putL, setL, List.set_cons_zero, List.set_cons_succ, List.nil_append, List.cons_append]
  refine wk_nil ?_
  refine sp_seq rfl ?_
  refine sp_seq rfl ?_
  refine sp_region (π := [0, 1, 2, 3, 4]) [] rfl rfl ?_
  refine wk_move (.slice a nn c) rfl rfl rfl rfl ?_
  dsimp only [putL, setL, List.set_cons_zero, List.set_cons_succ, List.nil_append, List.cons_append]
  refine wk_lenA rfl rfl rfl rfl Try.underlying57 ?_
  dsimp only [putL, setL, List.set_cons_zero, List.set_cons_succ, List.nil_append, List.cons_append]
  refine wk_move (.slice b nn d) rfl rfl rfl rfl ?_
  dsimp only [putL, setL, List.set_cons_zero, List.set_cons_succ, List.nil_append, List.cons_append]
  refine wk_lenA rfl rfl rfl rfl Try.underlying57 ?_
  dsimp only [putL, setL, List.set_cons_zero, List.set_cons_succ, List.nil_append, List.cons_append]
  refine wk_iop (.bool false) rfl rfl rfl rfl rfl rfl (iop_neq_f rfl) ?_
  dsimp only [putL, setL, List.set_cons_zero, List.set_cons_succ, List.nil_append, List.cons_append]
  refine wk_nil ?_
  refine sp_false rfl rfl ?_
  refine sp_skip rfl ?_
  refine sp_seq rfl ?_
  refine sp_seq rfl ?_
  refine sp_region (π := [0]) [] rfl rfl ?_
  refine wk_assign (.int .i64 0) rfl rfl rfl rfl ?_
  dsimp only [putL, setL, List.set_cons_zero, List.set_cons_succ, List.nil_append, List.cons_append]
  refine wk_nil ?_
  refine sp_block rfl ?_
  refine sp_loopg rfl (fun n l M => ∃ i : Nat, ∃ d4 : Value, ∃ d11 : Value, ∃ d12 : Value, ∃ d13 : Value, ∃ d14 : Value, ∃ d15 : Value, ∃ d16 : Value, ∃ d17 : Value, ∃ d18 : Value, ∃ d19 : Value, ∃ d20 : Value, ∃ d21 : Value, ∃ d22 : Value, ∃ d23 : Value, ∃ d24 : Value, ∃ d25 : Value, l = [(.slice a nn c), (.slice b nn d), undef, undef, d4, (.int .i64 (i : Int)), (.slice a nn c), (.int .i64 ((nn : Nat) : Int)), (.slice b nn d), (.int .i64 ((nn : Nat) : Int)), (.bool false), d11, d12, d13, d14, d15, d16, d17, d18, d19, d20, d21, d22, d23, d24, d25] ∧ [] = M ∧ (i ≤ nn) ∧ n = nn - i) (nn - 0) ?_ ?_
  · exact ⟨0, (.bool false), undef, undef, undef, undef, undef, undef, undef, undef, undef, undef, undef, undef, undef, undef, undef, rfl, rfl, (Nat.zero_le _), rfl⟩
  · skip
    intro n l M
    refine exists_imp.2 fun i => ?_
    refine exists_imp.2 fun d4 => ?_
    refine exists_imp.2 fun d11 => ?_
    refine exists_imp.2 fun d12 => ?_
    refine exists_imp.2 fun d13 => ?_
    refine exists_imp.2 fun d14 => ?_
    refine exists_imp.2 fun d15 => ?_
    refine exists_imp.2 fun d16 => ?_
    refine exists_imp.2 fun d17 => ?_
    refine exists_imp.2 fun d18 => ?_
    refine exists_imp.2 fun d19 => ?_
    refine exists_imp.2 fun d20 => ?_
    refine exists_imp.2 fun d21 => ?_
    refine exists_imp.2 fun d22 => ?_
    refine exists_imp.2 fun d23 => ?_
    refine exists_imp.2 fun d24 => ?_
    refine exists_imp.2 fun d25 => ?_
    rintro ⟨rfl, rfl, hf0, rfl⟩
    refine sp_seq rfl ?_
    refine sp_seq rfl ?_
    refine sp_region (π := [0, 1, 2, 3]) [] rfl rfl ?_
    refine wk_move (.int .i64 (i : Int)) rfl rfl rfl rfl ?_
    dsimp only [putL, setL, List.set_cons_zero, List.set_cons_succ, List.nil_append, List.cons_append]
    refine wk_move (.slice a nn c) rfl rfl rfl rfl ?_
    dsimp only [putL, setL, List.set_cons_zero, List.set_cons_succ, List.nil_append, List.cons_append]
    refine wk_lenA rfl rfl rfl rfl Try.underlying57 ?_
    dsimp only [putL, setL, List.set_cons_zero, List.set_cons_succ, List.nil_append, List.cons_append]
    by_cases hc1 : (i : Int) < ((nn : Nat) : Int)
    · skip
      refine wk_iop (.bool true) rfl rfl rfl rfl rfl rfl (iop_lss_t hc1) ?_
      dsimp only [putL, setL, List.set_cons_zero, List.set_cons_succ, List.nil_append, List.cons_append]
      refine wk_nil ?_
      refine sp_true rfl rfl ?_
      refine sp_skip rfl ?_
      refine sp_seq rfl ?_
      refine sp_block rfl ?_
      refine sp_seq rfl ?_
      refine sp_draw [0, 1, 2, 3, 4, 5, 6, 7, 8] [] mixed rfl (by kernel_rfl) (by kernel_rfl) ?_
      refine wk_move (.slice a nn c) rfl rfl rfl rfl ?_
      dsimp only [putL, setL, List.set_cons_zero, List.set_cons_succ, List.nil_append, List.cons_append]
      refine wk_move (.int .i64 (i : Int)) rfl rfl rfl rfl ?_
      dsimp only [putL, setL, List.set_cons_zero, List.set_cons_succ, List.nil_append, List.cons_append]
      obtain ⟨β2, o2, ha2, hr2⟩ := hH.at_ (rowL_ne (k := i) (by have h0 := hl; omega))
      refine wk_idxA i 4 rfl rfl rfl rfl ha2 rfl Try.underlying57 (by kernel_rfl) rfl (by omega) ?_
      dsimp only [putL, setL, List.set_cons_zero, List.set_cons_succ, List.nil_append, List.cons_append]
      refine wk_ldA rfl rfl rfl rfl (fun M' w' hm hst => old_range hr2 (rowL_ne (k := i) (by omega)) hst) (by have h0 := hl; omega) ?_
      dsimp only [putL, setL, List.set_cons_zero, List.set_cons_succ, List.nil_append, List.cons_append]
      refine wk_move (.slice b nn d) rfl rfl rfl rfl ?_
      dsimp only [putL, setL, List.set_cons_zero, List.set_cons_succ, List.nil_append, List.cons_append]
      refine wk_move (.int .i64 (i : Int)) rfl rfl rfl rfl ?_
      dsimp only [putL, setL, List.set_cons_zero, List.set_cons_succ, List.nil_append, List.cons_append]
      obtain ⟨β3, o3, ha3, hr3⟩ := hG.at_ (rowL_ne (k := i) (by have h0 := hl; omega))
      refine wk_idxA i 4 rfl rfl rfl rfl ha3 rfl Try.underlying57 (by kernel_rfl) rfl (by omega) ?_
      dsimp only [putL, setL, List.set_cons_zero, List.set_cons_succ, List.nil_append, List.cons_append]
      refine wk_ldA rfl rfl rfl rfl (fun M' w' hm hst => old_range hr3 (rowL_ne (k := i) (by omega)) hst) (by have h0 := hl; omega) ?_
      dsimp only [putL, setL, List.set_cons_zero, List.set_cons_succ, List.nil_append, List.cons_append]
      refine wk_neN false rfl rfl rfl rfl rfl (ix_lt hxs) (ix_lt hxs) (decide_eq_true rfl) ?_
      dsimp only [putL, setL, List.set_cons_zero, List.set_cons_succ, List.nil_append, List.cons_append]
      refine wk_nil ?_
      refine sp_false rfl rfl ?_
      refine sp_skip rfl ?_
      refine sp_region (π := [0, 1, 2]) [] rfl rfl ?_
      refine wk_move (.int .i64 (i : Int)) rfl rfl rfl rfl ?_
      dsimp only [putL, setL, List.set_cons_zero, List.set_cons_succ, List.nil_append, List.cons_append]
      refine wk_iop (.int .i64 ((i : Int) + 1)) rfl rfl rfl rfl rfl rfl (iop_add (by omega) (by omega)) ?_
      dsimp only [putL, setL, List.set_cons_zero, List.set_cons_succ, List.nil_append, List.cons_append]
      refine wk_assign (.int .i64 ((i : Int) + 1)) rfl rfl rfl rfl ?_
      dsimp only [putL, setL, List.set_cons_zero, List.set_cons_succ, List.nil_append, List.cons_append]
      refine wk_nil ?_
      exact ⟨[], _, List.Sublist.refl _, ⟨(i + 1), d4, (.int .i64 (i : Int)), (.slice a nn c), (.int .i64 ((nn : Nat) : Int)), (.bool true), (.int .i64 (i : Int)), (.int .i64 ((i : Int) + 1)), (.slice a nn c), (.int .i64 (i : Int)), (.pointer (some ⟨β2, o2 + i * 4, none⟩)), (numV (ix xs i)), (.slice b nn d), (.int .i64 (i : Int)), (.pointer (some ⟨β3, o3 + i * 4, none⟩)), (numV (ix xs i)), (.bool false), rfl, rfl, (by omega), rfl⟩, (by omega)⟩
    · skip
      refine wk_iop (.bool false) rfl rfl rfl rfl rfl rfl (iop_lss_f hc1) ?_
      dsimp only [putL, setL, List.set_cons_zero, List.set_cons_succ, List.nil_append, List.cons_append]
      refine wk_nil ?_
      refine sp_false rfl rfl ?_
      refine sp_exit rfl ?_
      refine sp_seq rfl ?_
      refine sp_region (π := [0]) [] rfl rfl ?_
      refine wk_assign (.bool true) rfl rfl rfl rfl ?_
      dsimp only [putL, setL, List.set_cons_zero, List.set_cons_succ, List.nil_append, List.cons_append]
      refine wk_nil ?_
      refine sp_ret rfl ?_
      exact ret_tmps (v := (.bool true)) (fun w' => by kernel_rfl) fun w' hw => ⟨rfl, hw.below⟩

end Go.Proofs.Ytmecomgifmkkfaa
