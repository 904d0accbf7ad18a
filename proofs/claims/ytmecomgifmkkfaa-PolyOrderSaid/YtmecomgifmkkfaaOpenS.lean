/- What an argument of type []api.Num, []int, []api.Share is. -/
import Derived.Test.YtmecomgifmkkfaaOpen
import Derived.Test.YtmecomgifmkkfaaPolyS
import Derived.Deep.Slices
namespace Go.Proofs.Ytmecomgifmkkfaa
set_option linter.unusedVariables false
set_option linter.unusedSimpArgs false
open Go.ChangeShapes Go.WideShapes Go.ChangeAt Go.RowKit Go.Deep

/-- The cells of whole numbers. -/
def intL : List Int → List Value
  | [] => []
  | x :: xs => Value.int .i64 x :: intL xs

section
variable {H : Type} {enc : TypeId × Value → H} {W : World} {base : Nat} {sp : Nat → Bool} {held : Bool} {r : Reach} {b0 : Nat} {v : Value} {d : DataW H} {ps : List MemPlace}

theorem cells_get {w : World} {base : Nat} {a : Addr} {n : Nat} {cs : List Value} (h : w.cells? base a n = some cs) : cs.length = n ∧ ∀ i v, cs[i]? = some v → w.cell? (a.add i) = some v := by
  obtain ⟨_, h1, h2⟩ := World.cells?_some h
  refine ⟨h1, fun i v hi => ?_⟩
  have hlt := (List.getElem?_eq_some_iff.1 hi).1
  rw [h2 i (by omega), hi]

/-- A slice's elements, out of its reading: 'el n' are the cells of the element n. -/
theorem open_els {α : Type} {t e : TypeId} {q : Nat} (el : α → List Value) (ok : α → Prop) (cat : List α → List Value) (hc0 : cat [] = []) (hcs : ∀ x xs, cat (x :: xs) = el x ++ cat xs) (hcl : ∀ x, (el x).length = q)
    (ht : Try.prog.underlying t = some (.slice e)) (hq : Try.prog.cellsOf e = q) (hq0 : 0 < q)
    (one : ∀ fuel cs y, cs.length = q → DataW.trod enc Try.prog W base sp held fuel e cs = some y → ∃ x, ok x ∧ cs = el x)
    (hv : Value.okWide Try.prog W r b0 t v) (hd : DataW.Trod enc Try.prog W base sp held t v d ps) : ∃ a xs c, v = .slice a xs.length c ∧ (∀ x ∈ xs, ok x) ∧ xs.length ≤ c ∧ c ≤ maxLen ∧ Holds W a (cat xs) := by
  obtain ⟨a0, len0, cap0, rfl⟩ := okWide_slice ht hv
  obtain ⟨fuel, hf⟩ := hd
  rcases open_slice ht hf with ⟨h1, _⟩ | ⟨a, len, cap, m, n, D, Pl, h1, hb, hl, hm, hmm, _, hx⟩
  · obtain ⟨rfl, rfl, rfl⟩ : a0 = none ∧ len0 = 0 ∧ cap0 = 0 := by simpa [Value.cells] using h1
    exact ⟨none, [], 0, rfl, fun x hx => (List.not_mem_nil hx).elim, Nat.le_refl _, Nat.zero_le _, by rw [hc0]; exact Holds.nil _ _⟩
  · obtain ⟨rfl, rfl, rfl⟩ : a0 = some a ∧ len0 = len ∧ cap0 = cap := by simpa [Value.cells] using h1
    have hlm : len0 ≤ m := by rw [hmm]; split <;> omega
    rw [hq] at hx
    have key : ∀ k j, j + k = len0 → ∃ xs : List α, xs.length = k ∧ (∀ x ∈ xs, ok x) ∧ ∀ i v, (cat xs)[i]? = some v → W.cell? (a.add (j * q + i)) = some v := by
      intro k
      induction k with
      | zero => exact fun j _ => ⟨[], rfl, fun x hx => (List.not_mem_nil hx).elim, fun i v hi => by rw [hc0] at hi; simp at hi⟩
      | succ k ih =>
        intro j hj
        obtain ⟨xs, hxl, hxo, hxc⟩ := ih (j + 1) (by omega)
        obtain ⟨cs, hcs1, htr⟩ := hx j (by omega)
        obtain ⟨hlen, hget⟩ := cells_get hcs1
        obtain ⟨x, hox, rfl⟩ := one _ _ _ hlen htr
        refine ⟨x :: xs, by rw [List.length_cons, hxl], fun y hy => ?_, fun i v hi => ?_⟩
        · rcases List.mem_cons.1 hy with rfl | hy
          · exact hox
          · exact hxo y hy
        · rw [hcs] at hi
          rcases Nat.lt_or_ge i q with h | h
          · rw [List.getElem?_append_left (by rw [hlen]; exact h)] at hi
            have := hget i v hi
            rw [add_add] at this
            exact this
          · rw [List.getElem?_append_right (by rw [hlen]; exact h), hlen] at hi
            have := hxc (i - q) v hi
            rw [Nat.succ_mul] at this
            rw [show j * q + i = j * q + q + (i - q) by omega]
            exact this
    obtain ⟨xs, hxl, hxo, hxc⟩ := key len0 0 (by omega)
    subst hxl
    refine ⟨some a, xs, cap0, rfl, hxo, hl, hm, ?_⟩
    cases xs with
    | nil => exact .inl hc0
    | cons x xs =>
      right
      have hsp : a.spot = none := by
        have hne : 0 < (cat (x :: xs)).length := by rw [hcs, List.length_append, hcl]; omega
        have this := hxc 0 _ (List.getElem?_eq_getElem hne)
        simp only [Nat.zero_mul, Nat.add_zero, Addr.add, if_pos] at this
        unfold World.cell? at this
        split at this
        · split at this
          · cases this
          · rename_i h; simpa using h
        · cases this
      obtain ⟨β, o, spot⟩ := a
      obtain rfl : spot = none := hsp
      refine ⟨β, o, rfl, fun i v hi => ?_⟩
      have := hxc i v hi
      rw [Nat.zero_mul, Nat.zero_add, Addr.add_mid] at this
      exact this

theorem num_cells {cs : List Value} (hn : cs.length = 4) (h : ∀ i, i < 4 → ∃ m : Int, cs[i]? = some (.int .u64 m) ∧ (Lit.int .u64 m).wf = true) : ∃ n, n < W256 ∧ cs = (numC n).toList := by
  obtain ⟨n, h1, h2⟩ := num_of_cells hn h
  have h3 : cs.toArray = numC n := Value.agg.inj h2
  exact ⟨n, h1, by rw [← h3]⟩
theorem trod_num {fuel : Nat} {cs : List Value} {y : DataW H × List MemPlace} (hl : cs.length = 4) (h : DataW.trod enc Try.prog W base sp held fuel 24 cs = some y) : ∃ n, n < W256 ∧ cs = (numC n).toList :=
  num_cells hl (trod_ints num_ty Try.underlying22 cells_u64 hl h)
theorem open_nums (hv : Value.okWide Try.prog W r b0 57 v) (hd : DataW.Trod enc Try.prog W base sp held 57 v d ps) :
    ∃ a xs c, v = .slice a xs.length c ∧ (∀ x ∈ xs, x < W256) ∧ xs.length ≤ c ∧ c ≤ maxLen ∧ Holds W a (rowL xs) :=
  open_els (fun n => (numC n).toList) (· < W256) rowL rfl (fun _ _ => rfl) (fun _ => rfl) Try.underlying57 cells_num (by decide) (fun fuel cs y hl h => trod_num hl h) hv hd
theorem open_ints (hv : Value.okWide Try.prog W r b0 58 v) (hd : DataW.Trod enc Try.prog W base sp held 58 v d ps) :
    ∃ a xs c, v = .slice a xs.length c ∧ (∀ x ∈ xs, -9223372036854775808 ≤ x ∧ x ≤ 9223372036854775807) ∧ xs.length ≤ c ∧ c ≤ maxLen ∧ Holds W a (intL xs) :=
  open_els (fun n => [.int .i64 n]) (fun x => -9223372036854775808 ≤ x ∧ x ≤ 9223372036854775807) intL rfl (fun _ _ => rfl) (fun _ => rfl) Try.underlying58 (by kernel_rfl) (by decide) (fun fuel cs y hl h => by
    obtain ⟨n, rfl, _, hw⟩ := DataW.trod_int Try.underlying3 h
    exact ⟨n, wf_i64 hw, rfl⟩) hv hd
theorem share_ty : ∃ fs, Try.prog.underlying 65 = some (.struct fs) ∧ ∃ f0 f1, fs[0]? = some f0 ∧ fs[1]? = some f1 ∧ f0.type = 24 ∧ f0.offset = 0 ∧ f1.type = 24 ∧ f1.offset = 4 ∧ fs.size = 2 :=
  ⟨_, Try.underlying65, _, _, rfl, rfl, rfl, rfl, rfl, rfl, rfl⟩
theorem trod_share {fuel : Nat} {cs : List Value} {y : DataW H × List MemPlace} (hl : cs.length = 8) (h : DataW.trod enc Try.prog W base sp held fuel 65 cs = some y) : ∃ s : Nat × Nat, (s.1 < W256 ∧ s.2 < W256) ∧ cs = (shC s).toList := by
  obtain ⟨fs, hty, f0, f1, e0, e1, t0, o0, t1, o1, hsz⟩ := share_ty
  obtain ⟨xs, n, _, _, _, hxl, hx⟩ := DataW.trod_struct hty h
  have h0 := hx 0 f0 e0
  have h1 := hx 1 f1 e1
  rw [t0, o0, cells_num, List.drop_zero, List.getElem?_eq_getElem (by omega)] at h0
  rw [t1, o1, cells_num, List.getElem?_eq_getElem (by omega)] at h1
  obtain ⟨a, ha, ea⟩ := trod_num (by rw [List.length_take, hl]; rfl) h0
  obtain ⟨b, hb, eb⟩ := trod_num (by rw [List.length_take, List.length_drop, hl]; rfl) h1
  refine ⟨(a, b), ⟨ha, hb⟩, ?_⟩
  have e : cs = cs.take 4 ++ (cs.drop 4).take 4 := by
    conv => lhs; rw [← List.take_append_drop 4 cs]
    rw [List.take_of_length_le (l := cs.drop 4) (by rw [List.length_drop, hl]; decide)]
  rw [e, ea, eb]
  rfl
theorem open_shares (hv : Value.okWide Try.prog W r b0 63 v) (hd : DataW.Trod enc Try.prog W base sp held 63 v d ps) :
    ∃ a xs c, v = .slice a xs.length c ∧ ShBound xs ∧ xs.length ≤ c ∧ c ≤ maxLen ∧ Holds W a (shL xs) :=
  open_els (fun n => (shC n).toList) (fun s => s.1 < W256 ∧ s.2 < W256) shL rfl (fun _ _ => rfl) (fun _ => rfl) Try.underlying63 (by kernel_rfl) (by decide) (fun fuel cs y hl h => trod_share hl h) hv hd
end
end Go.Proofs.Ytmecomgifmkkfaa
