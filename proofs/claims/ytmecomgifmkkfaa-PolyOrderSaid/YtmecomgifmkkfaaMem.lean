/- A number in a block of memory: small facts for the walks. -/
/- More small facts about numbers in memory. -/
import Derived.Test.YtmecomgifmkkfaaProg
import Derived.Test.YtmecomgifmkkfaaNum
import Derived.WalkSpells
import Derived.WalkLawsBesides
import Derived.Deep.WholeRow
namespace Go.Proofs.Ytmecomgifmkkfaa
set_option linter.unusedVariables false
set_option linter.unusedSimpArgs false
open Go.RowKit

/-- The four cells of a number. -/
def numC (n : Nat) : Array Value := #[.int .u64 (dg n 0 : Nat), .int .u64 (dg n 1 : Nat), .int .u64 (dg n 2 : Nat), .int .u64 (dg n 3 : Nat)]

/-- Block b holds the number n. -/
def NumAt (w : World) (b n : Nat) : Prop := w.heap[b]? = some (.cells (numC n) 24 (0, 0))

theorem NumAt.lt {w : World} {b n : Nat} (h : NumAt w b n) : b < w.heap.size := (Array.getElem?_eq_some_iff.1 h).1
theorem NumAt.keep {w w1 : World} {B b n : Nat} (h : NumAt w b n) (hB : Below B w w1) (hb : b < B) : NumAt w1 b n := (hB.block b hb).trans h
theorem NumAt.kept {w w1 : World} {b n : Nat} (h : NumAt w b n) (hB : Below w.heap.size w w1) : NumAt w1 b n := h.keep hB h.lt
theorem NumAt.drew {w : World} {b n : Nat} (h : NumAt w b n) : NumAt w.drew b n := h
theorem NumAt.alloc {w : World} {b n : Nat} (h : NumAt w b n) (o : Obj) : NumAt (w.alloc o) b n := (heap_alloc_old _ _ h.lt).trans h
theorem NumAt.new (w : World) (n : Nat) : NumAt (w.alloc (.cells (numC n) 24)) w.heap.size n := heap_alloc_new _ _
theorem NumAt.newAt (w : World) (k n : Nat) (h : w.heap.size = k) : NumAt (w.alloc (.cells (numC n) 24)) k n := h ▸ NumAt.new w n
theorem NumAt.other {w : World} {b n : Nat} (h : NumAt w b n) (a : Addr) (v : Value) (hne : b ≠ a.block) : NumAt (w.setCell a v) b n :=
  (heap_setCell_other w a b v hne).trans h
theorem NumAt.cell {w : World} {b n : Nat} (h : NumAt w b n) (i : Nat) (hi : i < 4) : w.cell? ⟨b, i, none⟩ = some (.int .u64 (dg n i : Nat)) := by
  rw [cell_of_row w b i _ _ _ h]
  rcases (by omega : i = 0 ∨ i = 1 ∨ i = 2 ∨ i = 3) with rfl | rfl | rfl | rfl <;> rfl
theorem NumAt.free {w : World} {b n : Nat} (h : NumAt w b n) (i : Nat) : w.frozen? ⟨b, i, none⟩ = false := frozen_of_row w b i _ _ h
/-- What the walk wants of it. -/
theorem NumAt.facts {w : World} {b n : Nat} (h : NumAt w b n) :
    (w.cell? ⟨b, 0, none⟩ = some (.int .u64 (dg n 0 : Nat)) ∧ w.cell? ⟨b, 1, none⟩ = some (.int .u64 (dg n 1 : Nat)) ∧ w.cell? ⟨b, 2, none⟩ = some (.int .u64 (dg n 2 : Nat)) ∧ w.cell? ⟨b, 3, none⟩ = some (.int .u64 (dg n 3 : Nat))) ∧
    (w.frozen? ⟨b, 0, none⟩ = false ∧ w.frozen? ⟨b, 1, none⟩ = false ∧ w.frozen? ⟨b, 2, none⟩ = false ∧ w.frozen? ⟨b, 3, none⟩ = false) :=
  ⟨⟨h.cell 0 (by decide), h.cell 1 (by decide), h.cell 2 (by decide), h.cell 3 (by decide)⟩, ⟨h.free 0, h.free 1, h.free 2, h.free 3⟩⟩
/-- One digit is written. -/
theorem NumAt.set {w : World} {b n : Nat} {c : Array Value} (h : w.heap[b]? = some (.cells c 24 (0, 0))) (i : Nat) (v : Value) : (w.setCell ⟨b, i, none⟩ v).heap[b]? = some (.cells (c.setIfInBounds i v) 24 (0, 0)) :=
  heap_setCell_same w b i c _ v h
/-- All four are written. -/
theorem NumAt.put {w : World} {b n : Nat} (h : NumAt w b n) (m : Nat) :
    NumAt ((((w.setCell ⟨b, 0, none⟩ (.int .u64 (dg m 0 : Nat))).setCell ⟨b, 1, none⟩ (.int .u64 (dg m 1 : Nat))).setCell ⟨b, 2, none⟩ (.int .u64 (dg m 2 : Nat))).setCell ⟨b, 3, none⟩ (.int .u64 (dg m 3 : Nat))) b m :=
  NumAt.set (n := n) (NumAt.set (n := n) (NumAt.set (n := n) (NumAt.set (n := n) h 0 _) 1 _) 2 _) 3 _
/-- The lowest is written. -/
theorem NumAt.put0 {w : World} {b n : Nat} (h : NumAt w b n) {m : Nat} {v : Int} (h0 : v = (dg m 0 : Nat)) (h1 : dg m 1 = dg n 1) (h2 : dg m 2 = dg n 2) (h3 : dg m 3 = dg n 3) :
    NumAt (w.setCell ⟨b, 0, none⟩ (.int .u64 v)) b m := by
  subst h0
  refine (NumAt.set (n := n) h 0 _).trans ?_
  unfold numC
  rw [h1, h2, h3]
  rfl

/-- A walk goes on from whatever world is like the one at hand. -/
theorem abs_world {P : Program} {c : Code} {Q : Exit → Act → World → Prop} {a : Act} {W : World} (R : World → Prop) (h : R W) (k : ∀ w, R w → c.wp P Q a w) : c.wp P Q a W := k W h

theorem below_put {B b : Nat} {w0 w : World} (h : Below B w0 w) (hb : B ≤ b) (i : Nat) (v : Value) : Below B w0 (w.setCell ⟨b, i, none⟩ v) := h.setCell hb v

end Go.Proofs.Ytmecomgifmkkfaa

namespace Go.Proofs.Ytmecomgifmkkfaa
set_option linter.unusedVariables false
set_option linter.unusedSimpArgs false
open Go.RowKit

theorem NumAt.put_zero {w : World} {b n : Nat} (h : NumAt w b n) :
    NumAt ((((w.setCell ⟨b, 0, none⟩ (.int .u64 0)).setCell ⟨b, 1, none⟩ (.int .u64 0)).setCell ⟨b, 2, none⟩ (.int .u64 0)).setCell ⟨b, 3, none⟩ (.int .u64 0)) b 0 := h.put 0

end Go.Proofs.Ytmecomgifmkkfaa
