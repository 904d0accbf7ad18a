/- Places of shares, and what shares tell at 0, in poly: what the calls answer. -/
import Derived.Test.YtmecomgifmkkfaaPolyD
import Derived.Test.YtmecomgifmkkfaaPolyS
namespace Go.Proofs.Ytmecomgifmkkfaa
set_option linter.unusedVariables false
set_option linter.unusedSimpArgs false
open Go.RowKit

theorem eval_calls' (xs : List Nat) (n : Nat) (a : Option Addr) (c : Nat) (hl : xs.length = n) (hxs : ∀ y ∈ xs, y < W256) (hn : n ≤ 4611686018427387904) (x : Nat) (hx : x < W256) (w : World) (hH : Holds w a (rowL xs)) :
    Calls Try.prog 59 #[.slice a n c, numV x] w fun e w' => e = .returned (numV (evalL (modW 1) xs x)) ∧ Below w.heap.size w w' := by
  subst hl; exact eval_calls xs x a c hx hxs hn w hH
theorem reval_calls' (xs : List Nat) (n : Nat) (a : Option Addr) (c : Nat) (hl : xs.length = n) (hxs : ∀ y ∈ xs, y < W256) (hn : n ≤ 4611686018427387904) (x : Nat) (hx : x < W256) (w : World) (hH : Holds w a (rowL xs)) :
    Calls Try.prog 64 #[.slice a n c, numV x] w fun e w' => e = .returned (numV (evalL (modW 1) xs x)) ∧ Below w.heap.size w w' := by
  subst hl; exact reval_calls xs x a c hx hxs hn w hH
theorem wrong_calls' (xs : List Nat) (n : Nat) (a : Option Addr) (c : Nat) (hl : xs.length = n) (hxs : ∀ y ∈ xs, y < W256) (hn : n ≤ 4611686018427387904) (hc : n ≤ c) (w : World) (hH : Holds w a (rowL xs)) :
    Calls Try.prog 81 #[.slice a n c] w fun e w' => e = .returned (.int .i64 (wrongI (modW 1) xs)) ∧ Below w.heap.size w w' := by
  subst hl; exact wrong_calls xs a c hxs hn hc w hH
theorem weights_ok' (xs : List Nat) (n : Nat) (a : Option Addr) (c : Nat) (hl : xs.length = n) (hxs : ∀ y ∈ xs, y < W256) (hn : n ≤ 1099511627776) (hc : n ≤ c) (hw0 : wrongI (modW 1) xs = 0) (w : World) (hH : Holds w a (rowL xs)) :
    Calls Try.prog 60 #[.slice a n c] w (NewS 24 4 (fun v => .tuple #[v, .int .i64 0]) n (rowL (weightsTo (modW 1) xs xs.length)) w) := by
  subst hl; exact weights_ok xs a c hxs hn hc hw0 w hH
theorem weights_no' (xs : List Nat) (n : Nat) (a : Option Addr) (c : Nat) (hl : xs.length = n) (hxs : ∀ y ∈ xs, y < W256) (hn : n ≤ 1099511627776) (hc : n ≤ c) (hw0 : ¬ wrongI (modW 1) xs = 0) (w : World) (hH : Holds w a (rowL xs)) :
    Calls Try.prog 60 #[.slice a n c] w fun e w' => e = .returned (.tuple #[.slice none 0 0, .int .i64 (wrongI (modW 1) xs)]) ∧ Below w.heap.size w w' := by
  subst hl; exact weights_no xs a c hxs hn hc hw0 w hH
theorem xsS_row {ss : List (Nat × Nat)} {n : Nat} (hl : ss.length = n) : (rowL (xsS ss)).length = n * 4 := by rw [rowL_len, xsS_len, hl, Nat.mul_comm]
theorem weightsTo_row {m : Nat} {xs : List Nat} {n : Nat} (hl : xs.length = n) : (rowL (weightsTo m xs xs.length)).length = n * 4 := by rw [rowL_len, weightsTo_len, hl, Nat.mul_comm]
theorem weightsTo_lt {f : Int} (ok : okW f) (xs : List Nat) : ∀ i, ∀ y ∈ weightsTo (modW f) xs i, y < W256
  | 0 => by intro y hy; cases hy
  | i + 1 => by
    intro y hy
    rcases List.mem_append.1 hy with h | h
    · exact weightsTo_lt ok xs i y h
    · obtain rfl := List.mem_singleton.1 h
      exact Nat.lt_trans (Nat.mod_lt _ (modW_pos ok)) (modW_lt f)
theorem places_row {ss : List (Nat × Nat)} {i : Nat} (h : i < ss.length) : rowL (xsS (ss.take (i + 1))) = rowL (xsS (ss.take i)) ++ rowL [(sx ss i).1] := by rw [xsS_take h, rowL_append]
/-- What shares tell at 0, with weights ws, up to the i-th share. -/
def zeroTo (m : Nat) (ws : List Nat) (ss : List (Nat × Nat)) : Nat → Nat
  | 0 => 0
  | i + 1 => (zeroTo m ws ss i + ix ws i * (sx ss i).2 % m) % m
theorem zeroTo_lt {m : Nat} (hm : 0 < m) (hW : m < W256) (ws : List Nat) (ss : List (Nat × Nat)) (i : Nat) : zeroTo m ws ss i < W256 := by
  cases i with
  | zero => exact W256_pos
  | succ i => exact Nat.lt_trans (Nat.mod_lt _ hm) hW

set_option maxRecDepth 20000 in
set_option maxHeartbeats 400000 in
theorem places_calls (ss : List (Nat × Nat)) (nn : Nat) (a : Option Addr) (c : Nat) (hl : ss.length = nn) (hss : ShBound ss) (hn : nn ≤ 1099511627776) (w : World) (hH : Holds w a (shL ss)) : Calls Try.prog 84 #[.slice a nn c] w (NewS 24 4 (fun v => v) nn (rowL (xsS ss)) w) := by
  refine fn_calls (l0 := [(.slice a nn c), undef, undef, undef, undef, undef, undef, undef, undef, undef, undef, undef, undef, undef, undef, undef, undef, undef, undef]) Try.func84 rfl rfl [] (St.start w) ?_
  refine sp_seq rfl ?_
  refine sp_region (π := [0]) [] rfl rfl ?_
  refine wk_assign (.slice none 0 0) rfl rfl rfl rfl ?_
  dsimp only [putL, setL, List.set_cons_zero, List.set_cons_succ, List.nil_append, List.cons_append]
  refine wk_nil ?_
  refine sp_seq rfl ?_
  refine sp_region (π := [0]) [] rfl rfl ?_
  refine wk_assign (.slice none 0 0) rfl rfl rfl rfl ?_
  dsimp only [putL, setL, List.set_cons_zero, List.set_cons_succ, List.nil_append, List.cons_append]
  refine wk_nil ?_
  refine sp_seq rfl ?_
  refine sp_seq rfl ?_
  refine sp_region (π := [0, 1, 2]) [] rfl rfl ?_
  refine wk_move (.slice a nn c) rfl rfl rfl rfl ?_
  dsimp only [putL, setL, List.set_cons_zero, List.set_cons_succ, List.nil_append, List.cons_append]
  refine wk_lenA rfl rfl rfl rfl Try.underlying63 ?_
  dsimp only [putL, setL, List.set_cons_zero, List.set_cons_succ, List.nil_append, List.cons_append]
  refine wk_move (.int .i64 0) rfl rfl rfl rfl ?_
  dsimp only [putL, setL, List.set_cons_zero, List.set_cons_succ, List.nil_append, List.cons_append]
  refine wk_nil ?_
  refine sp_block rfl ?_
  refine sp_loopg rfl (fun n l M => ∃ i : Nat, ∃ v : Value, ∃ S : Mem, ∃ d5 : Value, ∃ d9 : Value, ∃ d10 : Value, ∃ d11 : Value, ∃ d12 : Value, ∃ d13 : Value, ∃ d14 : Value, ∃ d15 : Value, ∃ d16 : Value, ∃ d17 : Value, l = [(.slice a nn c), undef, (.slice none 0 0), v, undef, d5, (.slice a nn c), (.int .i64 ((nn : Nat) : Int)), (.int .i64 (i : Int)), d9, d10, d11, d12, d13, d14, d15, d16, d17, undef] ∧ S = M ∧ (i ≤ nn) ∧ (OwnS 24 4 v i (rowL (xsS (ss.take i))) S) ∧ n = nn - i) (nn - 0) ?_ ?_
  · exact ⟨0, (.slice none 0 0), [], undef, undef, undef, undef, undef, undef, undef, undef, undef, undef, rfl, rfl, (Nat.zero_le _), (OwnS.nil _ _), rfl⟩
  · skip
    rintro n l M ⟨i, v, S, d5, d9, d10, d11, d12, d13, d14, d15, d16, d17, rfl, rfl, hf0, hf1, rfl⟩
    refine sp_seq rfl ?_
    refine sp_region (π := [0]) [] rfl rfl ?_
    by_cases hc1 : (i : Int) < ((nn : Nat) : Int)
    · skip
      refine wk_iop (.bool true) rfl rfl rfl rfl rfl rfl (iop_lss_t hc1) ?_
      dsimp only [putL, setL, List.set_cons_zero, List.set_cons_succ, List.nil_append, List.cons_append]
      refine wk_nil ?_
      refine sp_seq rfl ?_
      refine sp_true rfl rfl ?_
      refine sp_skip rfl ?_
      refine sp_seq rfl ?_
      refine sp_block rfl ?_
      refine sp_seq rfl ?_
      refine sp_region (π := [0, 1, 2, 3]) [] rfl rfl ?_
      obtain ⟨β2, o2, ha2, hr2⟩ := hH.at_ (shL_ne (k := i) (by have h0 := hl; omega))
      refine wk_idxA i 8 rfl rfl rfl rfl ha2 rfl Try.underlying63 (by kernel_rfl) rfl (by omega) ?_
      dsimp only [putL, setL, List.set_cons_zero, List.set_cons_succ, List.nil_append, List.cons_append]
      refine wk_ldSA rfl rfl rfl rfl (fun M' w' hm hst => old_range hr2 (shL_ne (k := i) (by omega)) hst) (by have h0 := hl; omega) ?_
      dsimp only [putL, setL, List.set_cons_zero, List.set_cons_succ, List.nil_append, List.cons_append]
      refine wkf_newS rfl rfl fun β3 => ?_
      dsimp only [putL, setL, List.set_cons_zero, List.set_cons_succ, List.nil_append, List.cons_append]
      refine wk_stS 0 (sx ss i) rfl rfl rfl rfl rfl rfl ?_
      dsimp only [putL, setL, List.set_cons_zero, List.set_cons_succ, List.nil_append, List.cons_append]
      refine wk_nil ?_
      refine sp_region (π := [0, 1, 2, 3, 4, 5]) [] rfl rfl ?_
      refine wk_move v rfl rfl rfl rfl ?_
      dsimp only [putL, setL, List.set_cons_zero, List.set_cons_succ, List.nil_append, List.cons_append]
      refine wk_val (.pointer (some ⟨β3, 0, none⟩)) rfl rfl rfl (fun w => by kernel_rfl) ?_
      dsimp only [putL, setL, List.set_cons_zero, List.set_cons_succ, List.nil_append, List.cons_append]
      refine wk_ldX 0 rfl rfl rfl rfl rfl ?_
      dsimp only [putL, setL, List.set_cons_zero, List.set_cons_succ, List.nil_append, List.cons_append]
      refine wkf_make (z := rowO [(sx ss i).1]) (mk := fun β => .slice (some ⟨β, 0, none⟩) 1 1) rfl rfl (fun w => by kernel_rfl) fun β4 => ?_
      dsimp only [putL, setL, List.set_cons_zero, List.set_cons_succ, List.nil_append, List.cons_append]
      refine wk_append (news := (rowL [(sx ss i).1])) (F := [(β4, rowO [(sx ss i).1]), (β3, shO (sx ss i))]) rfl rfl rfl rfl rfl Try.underlying57 ninfo numBytes nzero rfl (by decide) hf1 (List.perm_append_comm (l₁ := [(β4, rowO [(sx ss i).1]), (β3, shO (sx ss i))]) (l₂ := S)) rfl (fun w' hst => row_holds (List.mem_of_getElem? (i := 0) rfl) hst) (rowL_one _) (by omega) (by omega) fun v5 S5 hO5 => ?_
      dsimp only [putL, setL, List.set_cons_zero, List.set_cons_succ, List.nil_append, List.cons_append]
      refine wk_assign v5 rfl rfl rfl rfl ?_
      dsimp only [putL, setL, List.set_cons_zero, List.set_cons_succ, List.nil_append, List.cons_append]
      refine wk_nil ?_
      refine sp_region (π := [0, 1]) [] rfl rfl ?_
      refine wk_iop (.int .i64 ((i : Int) + 1)) rfl rfl rfl rfl rfl rfl (iop_add (by omega) (by omega)) ?_
      dsimp only [putL, setL, List.set_cons_zero, List.set_cons_succ, List.nil_append, List.cons_append]
      refine wk_move (.int .i64 ((i : Int) + 1)) rfl rfl rfl rfl ?_
      dsimp only [putL, setL, List.set_cons_zero, List.set_cons_succ, List.nil_append, List.cons_append]
      refine wk_nil ?_
      exact ⟨S5, _, by exact List.Sublist.cons _ <| List.Sublist.cons _ <| List.Sublist.refl _, ⟨(i + 1), v5, S5, (.pointer (some ⟨β3, 0, none⟩)), (.bool true), (.pointer (some ⟨β2, o2 + i * 8, none⟩)), (shV (sx ss i)), v, (.pointer (some ⟨β3, 0, none⟩)), (numV (sx ss i).1), (.slice (some ⟨β4, 0, none⟩) 1 1), v5, (.int .i64 ((i : Int) + 1)), rfl, rfl, (by omega), (by rw [places_row (by omega)]; exact hO5), rfl⟩, (by omega)⟩
    · skip
      refine wk_iop (.bool false) rfl rfl rfl rfl rfl rfl (iop_lss_f hc1) ?_
      dsimp only [putL, setL, List.set_cons_zero, List.set_cons_succ, List.nil_append, List.cons_append]
      refine wk_nil ?_
      refine sp_seq rfl ?_
      refine sp_false rfl rfl ?_
      refine sp_exit rfl ?_
      refine sp_seq rfl ?_
      refine sp_region (π := [0, 1]) [] rfl rfl ?_
      refine wk_move v rfl rfl rfl rfl ?_
      dsimp only [putL, setL, List.set_cons_zero, List.set_cons_succ, List.nil_append, List.cons_append]
      refine wk_assign v rfl rfl rfl rfl ?_
      dsimp only [putL, setL, List.set_cons_zero, List.set_cons_succ, List.nil_append, List.cons_append]
      refine wk_nil ?_
      refine sp_ret rfl ?_
      have hii : i = ss.length := by omega
      rw [hii, List.take_length, hl] at hf1
      exact ret_tmps (v := v) (fun w' => by kernel_rfl) fun w' hw => ⟨v, S, rfl, hf1, hw.below, fun p hp => ⟨hw.own p (by simp [hp]), (hw.free p (by simp [hp])).resolve_right id⟩⟩

set_option maxRecDepth 20000 in
set_option maxHeartbeats 400000 in
theorem zero_ok (ss : List (Nat × Nat)) (nn : Nat) (a : Option Addr) (c : Nat) (hl : ss.length = nn) (hss : ShBound ss) (hn : nn ≤ 1099511627776) (hc : nn ≤ c) (hw0 : wrongI (modW 1) (xsS ss) = 0) (w : World) (hH : Holds w a (shL ss)) : Calls Try.prog 62 #[.slice a nn c] w (fun e w' => e = .returned (.tuple #[numV (zeroTo (modW 1) (weightsTo (modW 1) (xsS ss) (xsS ss).length) ss ss.length), .int .i64 0]) ∧ Below w.heap.size w w') := by
  refine fn_calls (l0 := [(.slice a nn c), undef, undef, undef, undef, undef, undef, undef, undef, undef, undef, undef, undef, undef, undef, undef, undef, undef, undef, undef, undef, undef, undef, undef, undef, undef, undef, undef, undef, undef, undef, undef, undef, undef, undef, undef, undef]) Try.func62 rfl rfl [] (St.start w) ?_
  refine sp_seq rfl ?_
  refine sp_region (π := [0, 1]) [] rfl rfl ?_
  refine wkf_newN rfl rfl fun β1 => ?_
  dsimp only [putL, setL, List.set_cons_zero, List.set_cons_succ, List.nil_append, List.cons_append]
  refine wk_assign (.int .i64 0) rfl rfl rfl rfl ?_
  dsimp only [putL, setL, List.set_cons_zero, List.set_cons_succ, List.nil_append, List.cons_append]
  refine wk_nil ?_
  refine sp_seq rfl ?_
  refine sp_region (π := [0, 1, 2, 3, 4, 5, 6, 7]) [] rfl rfl ?_
  refine wk_move (.slice a nn c) rfl rfl rfl rfl ?_
  dsimp only [putL, setL, List.set_cons_zero, List.set_cons_succ, List.nil_append, List.cons_append]
  refine wk_callS (e := 24) (size := 4) (n := nn) (cs := (rowL (xsS ss))) [(.slice a nn c)] (fun v => v) rfl rfl rfl (enters_of Try.func84 (by kernel_rfl) (by kernel_rfl)) rfl (xsS_row hl) (by simp only [maxLen]; omega) (fun M' w' hm hst => places_calls ss nn _ _ hl hss (by omega) w' (hH.old hst)) fun v2 S2 hO2 => ?_
  dsimp only [putL, setL, List.set_cons_zero, List.set_cons_succ, List.nil_append, List.cons_append]
  obtain ⟨a3, cp3, hv3, hcp3, hsh3⟩ := hO2.reads
  subst hv3
  refine wk_callS (e := 24) (size := 4) (n := nn) (cs := (rowL (weightsTo (modW 1) (xsS ss) (xsS ss).length))) [(.slice a3 nn cp3)] (fun v => .tuple #[v, .int .i64 0]) rfl rfl rfl (enters_of Try.func60 (by kernel_rfl) (by kernel_rfl)) rfl (weightsTo_row ((xsS_len ss).trans hl)) (by simp only [maxLen]; omega) (fun M' w' hm hst => weights_ok' (xsS ss) nn _ _ ((xsS_len ss).trans hl) (xsS_bound hss) (by omega) hcp3 hw0 w' (hsh3.holds hst (fun p hp => hm p (by simp [hp])))) fun v4 S4 hO4 => ?_
  dsimp only [putL, setL, List.set_cons_zero, List.set_cons_succ, List.nil_append, List.cons_append]
  try simp only [List.append_assoc]
  obtain ⟨a5, cp5, hv5, hcp5, hsh5⟩ := hO4.reads
  subst hv5
  refine wk_move (.tuple #[(.slice a5 nn cp5), (.int .i64 0)]) rfl rfl rfl rfl ?_
  dsimp only [putL, setL, List.set_cons_zero, List.set_cons_succ, List.nil_append, List.cons_append]
  refine wk_ext (.slice a5 nn cp5) rfl rfl rfl rfl rfl ?_
  dsimp only [putL, setL, List.set_cons_zero, List.set_cons_succ, List.nil_append, List.cons_append]
  refine wk_ext (.int .i64 0) rfl rfl rfl rfl rfl ?_
  dsimp only [putL, setL, List.set_cons_zero, List.set_cons_succ, List.nil_append, List.cons_append]
  refine wk_assign (.slice a5 nn cp5) rfl rfl rfl rfl ?_
  dsimp only [putL, setL, List.set_cons_zero, List.set_cons_succ, List.nil_append, List.cons_append]
  refine wk_assign (.int .i64 0) rfl rfl rfl rfl ?_
  dsimp only [putL, setL, List.set_cons_zero, List.set_cons_succ, List.nil_append, List.cons_append]
  refine wk_nil ?_
  refine sp_seq rfl ?_
  refine sp_seq rfl ?_
  refine sp_region (π := [0, 1]) [] rfl rfl ?_
  refine wk_move (.int .i64 0) rfl rfl rfl rfl ?_
  dsimp only [putL, setL, List.set_cons_zero, List.set_cons_succ, List.nil_append, List.cons_append]
  refine wk_iop (.bool false) rfl rfl rfl rfl rfl rfl (iop_neq_f (by decide)) ?_
  dsimp only [putL, setL, List.set_cons_zero, List.set_cons_succ, List.nil_append, List.cons_append]
  refine wk_nil ?_
  refine sp_false rfl rfl ?_
  refine sp_skip rfl ?_
  refine sp_seq rfl ?_
  refine sp_region (π := [0]) [] rfl rfl ?_
  refine wkf_newN rfl rfl fun β6 => ?_
  dsimp only [putL, setL, List.set_cons_zero, List.set_cons_succ, List.nil_append, List.cons_append]
  refine wk_nil ?_
  refine sp_seq rfl ?_
  refine sp_seq rfl ?_
  refine sp_region (π := [0, 1, 2]) [] rfl rfl ?_
  refine wk_move (.slice a nn c) rfl rfl rfl rfl ?_
  dsimp only [putL, setL, List.set_cons_zero, List.set_cons_succ, List.nil_append, List.cons_append]
  refine wk_lenA rfl rfl rfl rfl Try.underlying63 ?_
  dsimp only [putL, setL, List.set_cons_zero, List.set_cons_succ, List.nil_append, List.cons_append]
  refine wk_move (.int .i64 0) rfl rfl rfl rfl ?_
  dsimp only [putL, setL, List.set_cons_zero, List.set_cons_succ, List.nil_append, List.cons_append]
  refine wk_nil ?_
  refine sp_block rfl ?_
  refine sp_loopg rfl (fun n l M => ∃ i : Nat, ∃ y : Nat, ∃ d7 : Value, ∃ d8 : Value, ∃ d22 : Value, ∃ d23 : Value, ∃ d24 : Value, ∃ d25 : Value, ∃ d26 : Value, ∃ d27 : Value, ∃ d28 : Value, ∃ d29 : Value, ∃ d30 : Value, ∃ d31 : Value, ∃ d32 : Value, ∃ d33 : Value, ∃ d34 : Value, ∃ d35 : Value, l = [(.slice a nn c), undef, (.pointer (some ⟨β1, 0, none⟩)), (.int .i64 0), (.slice a5 nn cp5), (.int .i64 0), (.pointer (some ⟨β6, 0, none⟩)), d7, d8, (.tuple #[(.slice a5 nn cp5), (.int .i64 0)]), (.slice a nn c), (.slice a3 nn cp3), (.tuple #[(.slice a5 nn cp5), (.int .i64 0)]), (.slice a5 nn cp5), (.int .i64 0), (.int .i64 0), (.bool false), undef, undef, (.slice a nn c), (.int .i64 ((nn : Nat) : Int)), (.int .i64 (i : Int)), d22, d23, d24, d25, d26, d27, d28, d29, d30, d31, d32, d33, d34, d35, undef] ∧ (β6, numO y) :: (β1, numO 0) :: (S2 ++ S4) = M ∧ (i ≤ nn) ∧ (y = zeroTo (modW 1) (weightsTo (modW 1) (xsS ss) (xsS ss).length) ss i) ∧ n = nn - i) (nn - 0) ?_ ?_
  · exact ⟨0, 0, undef, undef, undef, undef, undef, undef, undef, undef, undef, undef, undef, undef, undef, undef, undef, undef, rfl, rfl, (Nat.zero_le _), rfl, rfl⟩
  · skip
    rintro n l M ⟨i, y, d7, d8, d22, d23, d24, d25, d26, d27, d28, d29, d30, d31, d32, d33, d34, d35, rfl, rfl, hf0, hf1, rfl⟩
    have hy : y < W256 := by rw [hf1]; exact zeroTo_lt (modW_pos ok1) (modW_lt 1) _ _ _
    refine sp_seq rfl ?_
    refine sp_region (π := [0]) [] rfl rfl ?_
    by_cases hc7 : (i : Int) < ((nn : Nat) : Int)
    · skip
      refine wk_iop (.bool true) rfl rfl rfl rfl rfl rfl (iop_lss_t hc7) ?_
      dsimp only [putL, setL, List.set_cons_zero, List.set_cons_succ, List.nil_append, List.cons_append]
      refine wk_nil ?_
      refine sp_seq rfl ?_
      refine sp_true rfl rfl ?_
      refine sp_skip rfl ?_
      refine sp_seq rfl ?_
      refine sp_block rfl ?_
      refine sp_seq rfl ?_
      refine sp_region (π := [0, 1, 2, 3, 4, 5]) [] rfl rfl ?_
      refine wk_move (.int .i64 (i : Int)) rfl rfl rfl rfl ?_
      dsimp only [putL, setL, List.set_cons_zero, List.set_cons_succ, List.nil_append, List.cons_append]
      obtain ⟨β8, o8, ha8, hr8⟩ := hH.at_ (shL_ne (k := i) (by have h0 := hl; omega))
      refine wk_idxA i 8 rfl rfl rfl rfl ha8 rfl Try.underlying63 (by kernel_rfl) rfl (by omega) ?_
      dsimp only [putL, setL, List.set_cons_zero, List.set_cons_succ, List.nil_append, List.cons_append]
      refine wk_ldSA rfl rfl rfl rfl (fun M' w' hm hst => old_range hr8 (shL_ne (k := i) (by omega)) hst) (by have h0 := hl; omega) ?_
      dsimp only [putL, setL, List.set_cons_zero, List.set_cons_succ, List.nil_append, List.cons_append]
      refine wkf_newS rfl rfl fun β9 => ?_
      dsimp only [putL, setL, List.set_cons_zero, List.set_cons_succ, List.nil_append, List.cons_append]
      refine wk_assign (.int .i64 (i : Int)) rfl rfl rfl rfl ?_
      dsimp only [putL, setL, List.set_cons_zero, List.set_cons_succ, List.nil_append, List.cons_append]
      refine wk_stS 0 (sx ss i) rfl rfl rfl rfl rfl rfl ?_
      dsimp only [putL, setL, List.set_cons_zero, List.set_cons_succ, List.nil_append, List.cons_append]
      refine wk_nil ?_
      refine sp_draw [0, 1, 2, 3, 4, 5, 6, 7, 8, 9] [] mixed rfl (by kernel_rfl) (by kernel_rfl) ?_
      refine wk_ldN 1 rfl rfl rfl rfl rfl ?_
      dsimp only [putL, setL, List.set_cons_zero, List.set_cons_succ, List.nil_append, List.cons_append]
      refine wk_move (.slice a5 nn cp5) rfl rfl rfl rfl ?_
      dsimp only [putL, setL, List.set_cons_zero, List.set_cons_succ, List.nil_append, List.cons_append]
      refine wk_move (.int .i64 (i : Int)) rfl rfl rfl rfl ?_
      dsimp only [putL, setL, List.set_cons_zero, List.set_cons_succ, List.nil_append, List.cons_append]
      obtain ⟨β10, ha10, hr10⟩ := hsh5.at_ (rowL_ne (k := i) (by have h0 := ((weightsTo_len (modW 1) (xsS ss) (xsS ss).length).trans ((xsS_len ss).trans hl)); omega))
      refine wk_idxA i 4 rfl rfl rfl rfl ha10 rfl Try.underlying57 (by kernel_rfl) rfl (by omega) ?_
      dsimp only [putL, setL, List.set_cons_zero, List.set_cons_succ, List.nil_append, List.cons_append]
      refine wk_ldA rfl rfl rfl rfl (fun M' w' hm hst => hr10 w' (fun p hp => hst.own p (hm p (by simp [hp])))) (by have h0 := ((weightsTo_len (modW 1) (xsS ss) (xsS ss).length).trans ((xsS_len ss).trans hl)); omega) ?_
      dsimp only [putL, setL, List.set_cons_zero, List.set_cons_succ, List.nil_append, List.cons_append]
      refine wk_val (.pointer (some ⟨β9, 4, none⟩)) rfl rfl rfl (fun w => by kernel_rfl) ?_
      dsimp only [putL, setL, List.set_cons_zero, List.set_cons_succ, List.nil_append, List.cons_append]
      refine wk_ldY 0 rfl rfl rfl rfl rfl ?_
      dsimp only [putL, setL, List.set_cons_zero, List.set_cons_succ, List.nil_append, List.cons_append]
      refine wk_call [(numV (ix (weightsTo (modW 1) (xsS ss) (xsS ss).length) i)), (numV (sx ss i).2)] (numV ((ix (weightsTo (modW 1) (xsS ss) (xsS ss).length) i) * (sx ss i).2 % modW 1)) rfl rfl rfl (enters_of Try.func80 (by kernel_rfl) (by kernel_rfl)) rfl (pmul_calls (ix (weightsTo (modW 1) (xsS ss) (xsS ss).length) i) (sx ss i).2 (ix_lt (weightsTo_lt ok1 _ _)) (sx_lt2 hss)) ?_
      dsimp only [putL, setL, List.set_cons_zero, List.set_cons_succ, List.nil_append, List.cons_append]
      refine wk_call [(numV y), (numV ((ix (weightsTo (modW 1) (xsS ss) (xsS ss).length) i) * (sx ss i).2 % modW 1))] (numV ((y + ((ix (weightsTo (modW 1) (xsS ss) (xsS ss).length) i) * (sx ss i).2 % modW 1)) % modW 1)) rfl rfl rfl (enters_of Try.func79 (by kernel_rfl) (by kernel_rfl)) rfl (padd_calls y ((ix (weightsTo (modW 1) (xsS ss) (xsS ss).length) i) * (sx ss i).2 % modW 1) hy (Nat.lt_trans (Nat.mod_lt _ (modW_pos ok1)) (modW_lt 1))) ?_
      dsimp only [putL, setL, List.set_cons_zero, List.set_cons_succ, List.nil_append, List.cons_append]
      refine wk_stN 1 ((y + ((ix (weightsTo (modW 1) (xsS ss) (xsS ss).length) i) * (sx ss i).2 % modW 1)) % modW 1) rfl rfl rfl rfl rfl rfl ?_
      dsimp only [putL, setL, List.set_cons_zero, List.set_cons_succ, List.nil_append, List.cons_append]
      refine wk_nil ?_
      refine sp_region (π := [0, 1]) [] rfl rfl ?_
      refine wk_iop (.int .i64 ((i : Int) + 1)) rfl rfl rfl rfl rfl rfl (iop_add (by omega) (by omega)) ?_
      dsimp only [putL, setL, List.set_cons_zero, List.set_cons_succ, List.nil_append, List.cons_append]
      refine wk_move (.int .i64 ((i : Int) + 1)) rfl rfl rfl rfl ?_
      dsimp only [putL, setL, List.set_cons_zero, List.set_cons_succ, List.nil_append, List.cons_append]
      refine wk_nil ?_
      exact ⟨(β6, numO ((y + ((ix (weightsTo (modW 1) (xsS ss) (xsS ss).length) i) * (sx ss i).2 % modW 1)) % modW 1)) :: (β1, numO 0) :: (S2 ++ S4), _, by exact List.Sublist.cons _ <| List.Sublist.cons_cons _ <| List.Sublist.cons_cons _ <| List.Sublist.refl _, ⟨(i + 1), ((y + ((ix (weightsTo (modW 1) (xsS ss) (xsS ss).length) i) * (sx ss i).2 % modW 1)) % modW 1), (.int .i64 (i : Int)), (.pointer (some ⟨β9, 0, none⟩)), (.bool true), (.int .i64 (i : Int)), (.pointer (some ⟨β8, o8 + i * 8, none⟩)), (shV (sx ss i)), (numV y), (.slice a5 nn cp5), (.int .i64 (i : Int)), (.pointer (some ⟨β10, 0 + i * 4, none⟩)), (numV (ix (weightsTo (modW 1) (xsS ss) (xsS ss).length) i)), (.pointer (some ⟨β9, 4, none⟩)), (numV (sx ss i).2), (numV ((ix (weightsTo (modW 1) (xsS ss) (xsS ss).length) i) * (sx ss i).2 % modW 1)), (numV ((y + ((ix (weightsTo (modW 1) (xsS ss) (xsS ss).length) i) * (sx ss i).2 % modW 1)) % modW 1)), (.int .i64 ((i : Int) + 1)), rfl, rfl, (by omega), (by rw [zeroTo, hf1]), rfl⟩, (by omega)⟩
    · skip
      refine wk_iop (.bool false) rfl rfl rfl rfl rfl rfl (iop_lss_f hc7) ?_
      dsimp only [putL, setL, List.set_cons_zero, List.set_cons_succ, List.nil_append, List.cons_append]
      refine wk_nil ?_
      refine sp_seq rfl ?_
      refine sp_false rfl rfl ?_
      refine sp_exit rfl ?_
      refine sp_seq rfl ?_
      refine sp_region (π := [0, 1, 2]) [] rfl rfl ?_
      refine wk_ldN 0 rfl rfl rfl rfl rfl ?_
      dsimp only [putL, setL, List.set_cons_zero, List.set_cons_succ, List.nil_append, List.cons_append]
      refine wk_stN 1 y rfl rfl rfl rfl rfl rfl ?_
      dsimp only [putL, setL, List.set_cons_zero, List.set_cons_succ, List.nil_append, List.cons_append]
      refine wk_assign (.int .i64 0) rfl rfl rfl rfl ?_
      dsimp only [putL, setL, List.set_cons_zero, List.set_cons_succ, List.nil_append, List.cons_append]
      refine wk_nil ?_
      refine sp_ret rfl ?_
      exact ret_numCT 1 rfl rfl rfl rfl fun w' hw => ⟨by rw [hf1, show i = ss.length by omega]; rfl, hw.below⟩

set_option maxRecDepth 20000 in
set_option maxHeartbeats 400000 in
theorem zero_no (ss : List (Nat × Nat)) (nn : Nat) (a : Option Addr) (c : Nat) (hl : ss.length = nn) (hss : ShBound ss) (hn : nn ≤ 1099511627776) (hc : nn ≤ c) (hw0 : ¬ wrongI (modW 1) (xsS ss) = 0) (w : World) (hH : Holds w a (shL ss)) : Calls Try.prog 62 #[.slice a nn c] w (fun e w' => e = .returned (.tuple #[numV 0, .int .i64 (wrongI (modW 1) (xsS ss))]) ∧ Below w.heap.size w w') := by
  refine fn_calls (l0 := [(.slice a nn c), undef, undef, undef, undef, undef, undef, undef, undef, undef, undef, undef, undef, undef, undef, undef, undef, undef, undef, undef, undef, undef, undef, undef, undef, undef, undef, undef, undef, undef, undef, undef, undef, undef, undef, undef, undef]) Try.func62 rfl rfl [] (St.start w) ?_
  refine sp_seq rfl ?_
  refine sp_region (π := [0, 1]) [] rfl rfl ?_
  refine wkf_newN rfl rfl fun β1 => ?_
  dsimp only [putL, setL, List.set_cons_zero, List.set_cons_succ, List.nil_append, List.cons_append]
  refine wk_assign (.int .i64 0) rfl rfl rfl rfl ?_
  dsimp only [putL, setL, List.set_cons_zero, List.set_cons_succ, List.nil_append, List.cons_append]
  refine wk_nil ?_
  refine sp_seq rfl ?_
  refine sp_region (π := [0, 1, 2, 3, 4, 5, 6, 7]) [] rfl rfl ?_
  refine wk_move (.slice a nn c) rfl rfl rfl rfl ?_
  dsimp only [putL, setL, List.set_cons_zero, List.set_cons_succ, List.nil_append, List.cons_append]
  refine wk_callS (e := 24) (size := 4) (n := nn) (cs := (rowL (xsS ss))) [(.slice a nn c)] (fun v => v) rfl rfl rfl (enters_of Try.func84 (by kernel_rfl) (by kernel_rfl)) rfl (xsS_row hl) (by simp only [maxLen]; omega) (fun M' w' hm hst => places_calls ss nn _ _ hl hss (by omega) w' (hH.old hst)) fun v2 S2 hO2 => ?_
  dsimp only [putL, setL, List.set_cons_zero, List.set_cons_succ, List.nil_append, List.cons_append]
  obtain ⟨a3, cp3, hv3, hcp3, hsh3⟩ := hO2.reads
  subst hv3
  refine wk_callW [(.slice a3 nn cp3)] (.tuple #[(.slice none 0 0), (.int .i64 (wrongI (modW 1) (xsS ss)))]) rfl rfl rfl (enters_of Try.func60 (by kernel_rfl) (by kernel_rfl)) rfl (fun M' w' hm hst => weights_no' (xsS ss) nn _ _ ((xsS_len ss).trans hl) (xsS_bound hss) (by omega) hcp3 hw0 w' (hsh3.holds hst (fun p hp => hm p (by simp [hp])))) ?_
  dsimp only [putL, setL, List.set_cons_zero, List.set_cons_succ, List.nil_append, List.cons_append]
  refine wk_move (.tuple #[(.slice none 0 0), (.int .i64 (wrongI (modW 1) (xsS ss)))]) rfl rfl rfl rfl ?_
  dsimp only [putL, setL, List.set_cons_zero, List.set_cons_succ, List.nil_append, List.cons_append]
  refine wk_ext (.slice none 0 0) rfl rfl rfl rfl rfl ?_
  dsimp only [putL, setL, List.set_cons_zero, List.set_cons_succ, List.nil_append, List.cons_append]
  refine wk_ext (.int .i64 (wrongI (modW 1) (xsS ss))) rfl rfl rfl rfl rfl ?_
  dsimp only [putL, setL, List.set_cons_zero, List.set_cons_succ, List.nil_append, List.cons_append]
  refine wk_assign (.slice none 0 0) rfl rfl rfl rfl ?_
  dsimp only [putL, setL, List.set_cons_zero, List.set_cons_succ, List.nil_append, List.cons_append]
  refine wk_assign (.int .i64 (wrongI (modW 1) (xsS ss))) rfl rfl rfl rfl ?_
  dsimp only [putL, setL, List.set_cons_zero, List.set_cons_succ, List.nil_append, List.cons_append]
  refine wk_nil ?_
  refine sp_seq rfl ?_
  refine sp_seq rfl ?_
  refine sp_region (π := [0, 1]) [] rfl rfl ?_
  refine wk_move (.int .i64 (wrongI (modW 1) (xsS ss))) rfl rfl rfl rfl ?_
  dsimp only [putL, setL, List.set_cons_zero, List.set_cons_succ, List.nil_append, List.cons_append]
  refine wk_iop (.bool true) rfl rfl rfl rfl rfl rfl (iop_neq_t hw0) ?_
  dsimp only [putL, setL, List.set_cons_zero, List.set_cons_succ, List.nil_append, List.cons_append]
  refine wk_nil ?_
  refine sp_true rfl rfl ?_
  refine sp_seq rfl ?_
  refine sp_region (π := [0, 1, 2, 3]) [] rfl rfl ?_
  refine wk_val (numV 0) rfl rfl rfl (fun w => by kernel_rfl) ?_
  dsimp only [putL, setL, List.set_cons_zero, List.set_cons_succ, List.nil_append, List.cons_append]
  refine wk_move (.int .i64 (wrongI (modW 1) (xsS ss))) rfl rfl rfl rfl ?_
  dsimp only [putL, setL, List.set_cons_zero, List.set_cons_succ, List.nil_append, List.cons_append]
  refine wk_stN 0 0 rfl rfl rfl rfl rfl rfl ?_
  dsimp only [putL, setL, List.set_cons_zero, List.set_cons_succ, List.nil_append, List.cons_append]
  refine wk_assign (.int .i64 (wrongI (modW 1) (xsS ss))) rfl rfl rfl rfl ?_
  dsimp only [putL, setL, List.set_cons_zero, List.set_cons_succ, List.nil_append, List.cons_append]
  refine wk_nil ?_
  refine sp_ret rfl ?_
  exact ret_numCT 0 rfl rfl rfl rfl fun w' hw => ⟨rfl, hw.below⟩

end Go.Proofs.Ytmecomgifmkkfaa
