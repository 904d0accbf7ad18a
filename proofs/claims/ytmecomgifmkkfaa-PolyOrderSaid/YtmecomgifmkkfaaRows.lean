/-
  No cell of these rows narrows 'for every input' (looked for: loops, veiled, ifaces, maps, wideKeys, modest, calm, conditions, laid).
  DERIVED. THE GIVEN ROWS OF THIS SEAT. 22 by the template 'for every input the law returns true; each argument reads behind the call as it read before'; 0 by the template 'total and deterministic' (their statements: YtmecomgifmkkfaaTotals.lean).
  GIVEN WITH THE SEED: the statements are not yours to turn. If you find one false, say at which input.
  Laid BY PROGRAM, IN A SANDBOX (cutbox-rows.mjs): the forced cells as the released guide's own fill.sh prints them over the translation 05839222ddc4fdd9… (all of the seat's roots in one cut). By AI agents, Wed Nov 11 2026. No macro, syntax, notation, axiom, sorry.
-/
import Derived.Test.YtmecomgifmkkfaaChecked
import GoSem.Claim
import GoSem.ClaimJoined
import GoSem.ClaimMapViews
import Derived.JoinedTies
import Derived.KernelRfl
namespace Go.Proofs.Ytmecomgifmkkfaa
/- THE CELL 'sum', in the pinned program and in every row, IS THE sha256 OF THE DUMP (.gsa) THAT YtmecomgifmkkfaaProg.lean LOADS. Nothing in Lean hashes anything: it is a label: what it is worth is what the hold of that sum in a sandbox is worth. -/
noncomputable def Try.pinned : Pinned := { name := "ytmecomgifmkkfaa", sum := "05839222ddc4fdd955371dc31ccff1f99026d9bf6c873ee7e0bd7817545970cf", checked := Try.checked }
namespace Rows
def none {H : Type} : Left H := { results := [], args := [] }

/-- 'witanlaw01.LimbMods': WHATEVER THE INPUT: true; the input reads as it did. -/
def limbModsSpec : ChangeSpec := { name := "limbMods", fn := fun _ => fun
  | [d1, d2, d3] => { results := [.lit (.bool true)], args := [d1, d2, d3] }
  | _ => none }
def limbModsRow : OpenClaim := { program := "ytmecomgifmkkfaa", sum := "05839222ddc4fdd955371dc31ccff1f99026d9bf6c873ee7e0bd7817545970cf", func := "witan/witanlaw01.LimbMods", spec := "limbMods", inPlace := ["math/bits.Add64", "math/bits.Sub64"], apart := false }
def LimbModsSaid : Prop := limbModsRow.holds Try.pinned (OpenSpec.ofChange limbModsSpec)

/-- ITS FALSE NEIGHBOUR: 'it returns false'. Refute it at one input. -/
def limbModsWrong : ChangeSpec := { name := "limbMods", fn := fun _ => fun
  | [d1, d2, d3] => { results := [.lit (.bool false)], args := [d1, d2, d3] }
  | _ => none }
def LimbModsWrongFalsely : Prop := limbModsRow.holds Try.pinned (OpenSpec.ofChange limbModsWrong)

/-- 'witanlaw01.LimbBack': WHATEVER THE INPUT: true; the input reads as it did. -/
def limbBackSpec : ChangeSpec := { name := "limbBack", fn := fun _ => fun
  | [d1, d2, d3] => { results := [.lit (.bool true)], args := [d1, d2, d3] }
  | _ => none }
def limbBackRow : OpenClaim := { program := "ytmecomgifmkkfaa", sum := "05839222ddc4fdd955371dc31ccff1f99026d9bf6c873ee7e0bd7817545970cf", func := "witan/witanlaw01.LimbBack", spec := "limbBack", inPlace := ["math/bits.Add64", "math/bits.Sub64"], apart := false }
def LimbBackSaid : Prop := limbBackRow.holds Try.pinned (OpenSpec.ofChange limbBackSpec)

/-- ITS FALSE NEIGHBOUR: 'it returns false'. Refute it at one input. -/
def limbBackWrong : ChangeSpec := { name := "limbBack", fn := fun _ => fun
  | [d1, d2, d3] => { results := [.lit (.bool false)], args := [d1, d2, d3] }
  | _ => none }
def LimbBackWrongFalsely : Prop := limbBackRow.holds Try.pinned (OpenSpec.ofChange limbBackWrong)

/-- 'witanlaw01.LimbRests': WHATEVER THE INPUT: true; the input reads as it did. -/
def limbRestsSpec : ChangeSpec := { name := "limbRests", fn := fun _ => fun
  | [d1, d2, d3] => { results := [.lit (.bool true)], args := [d1, d2, d3] }
  | _ => none }
def limbRestsRow : OpenClaim := { program := "ytmecomgifmkkfaa", sum := "05839222ddc4fdd955371dc31ccff1f99026d9bf6c873ee7e0bd7817545970cf", func := "witan/witanlaw01.LimbRests", spec := "limbRests", inPlace := ["math/bits.Add64", "math/bits.Sub64"], apart := false }
def LimbRestsSaid : Prop := limbRestsRow.holds Try.pinned (OpenSpec.ofChange limbRestsSpec)

/-- ITS FALSE NEIGHBOUR: 'it returns false'. Refute it at one input. -/
def limbRestsWrong : ChangeSpec := { name := "limbRests", fn := fun _ => fun
  | [d1, d2, d3] => { results := [.lit (.bool false)], args := [d1, d2, d3] }
  | _ => none }
def LimbRestsWrongFalsely : Prop := limbRestsRow.holds Try.pinned (OpenSpec.ofChange limbRestsWrong)

/-- 'witanlaw01.LimbSquares': WHATEVER THE INPUT: true; the input reads as it did. -/
def limbSquaresSpec : ChangeSpec := { name := "limbSquares", fn := fun _ => fun
  | [d1, d2] => { results := [.lit (.bool true)], args := [d1, d2] }
  | _ => none }
def limbSquaresRow : OpenClaim := { program := "ytmecomgifmkkfaa", sum := "05839222ddc4fdd955371dc31ccff1f99026d9bf6c873ee7e0bd7817545970cf", func := "witan/witanlaw01.LimbSquares", spec := "limbSquares", inPlace := ["math/bits.Add64", "math/bits.Sub64"], apart := false }
def LimbSquaresSaid : Prop := limbSquaresRow.holds Try.pinned (OpenSpec.ofChange limbSquaresSpec)

/-- ITS FALSE NEIGHBOUR: 'it returns false'. Refute it at one input. -/
def limbSquaresWrong : ChangeSpec := { name := "limbSquares", fn := fun _ => fun
  | [d1, d2] => { results := [.lit (.bool false)], args := [d1, d2] }
  | _ => none }
def LimbSquaresWrongFalsely : Prop := limbSquaresRow.holds Try.pinned (OpenSpec.ofChange limbSquaresWrong)

/-- 'witanlaw01.LimbExact': WHATEVER THE INPUT: true; the input reads as it did. -/
def limbExactSpec : ChangeSpec := { name := "limbExact", fn := fun _ => fun
  | [d1, d2, d3] => { results := [.lit (.bool true)], args := [d1, d2, d3] }
  | _ => none }
def limbExactRow : OpenClaim := { program := "ytmecomgifmkkfaa", sum := "05839222ddc4fdd955371dc31ccff1f99026d9bf6c873ee7e0bd7817545970cf", func := "witan/witanlaw01.LimbExact", spec := "limbExact", inPlace := ["math/bits.Add64", "math/bits.Sub64"], apart := false }
def LimbExactSaid : Prop := limbExactRow.holds Try.pinned (OpenSpec.ofChange limbExactSpec)

/-- ITS FALSE NEIGHBOUR: 'it returns false'. Refute it at one input. -/
def limbExactWrong : ChangeSpec := { name := "limbExact", fn := fun _ => fun
  | [d1, d2, d3] => { results := [.lit (.bool false)], args := [d1, d2, d3] }
  | _ => none }
def LimbExactWrongFalsely : Prop := limbExactRow.holds Try.pinned (OpenSpec.ofChange limbExactWrong)

/-- 'witanlaw01.LimbPowers': WHATEVER THE INPUT: true; the input reads as it did. -/
def limbPowersSpec : ChangeSpec := { name := "limbPowers", fn := fun _ => fun
  | [d1, d2] => { results := [.lit (.bool true)], args := [d1, d2] }
  | _ => none }
def limbPowersRow : OpenClaim := { program := "ytmecomgifmkkfaa", sum := "05839222ddc4fdd955371dc31ccff1f99026d9bf6c873ee7e0bd7817545970cf", func := "witan/witanlaw01.LimbPowers", spec := "limbPowers", inPlace := ["math/bits.Add64", "math/bits.Sub64"], apart := false }
def LimbPowersSaid : Prop := limbPowersRow.holds Try.pinned (OpenSpec.ofChange limbPowersSpec)

/-- ITS FALSE NEIGHBOUR: 'it returns false'. Refute it at one input. -/
def limbPowersWrong : ChangeSpec := { name := "limbPowers", fn := fun _ => fun
  | [d1, d2] => { results := [.lit (.bool false)], args := [d1, d2] }
  | _ => none }
def LimbPowersWrongFalsely : Prop := limbPowersRow.holds Try.pinned (OpenSpec.ofChange limbPowersWrong)

/-- 'witanlaw01.LimbOrders': WHATEVER THE INPUT: true; the input reads as it did. -/
def limbOrdersSpec : ChangeSpec := { name := "limbOrders", fn := fun _ => fun
  | [d1, d2, d3] => { results := [.lit (.bool true)], args := [d1, d2, d3] }
  | _ => none }
def limbOrdersRow : OpenClaim := { program := "ytmecomgifmkkfaa", sum := "05839222ddc4fdd955371dc31ccff1f99026d9bf6c873ee7e0bd7817545970cf", func := "witan/witanlaw01.LimbOrders", spec := "limbOrders", inPlace := ["math/bits.Add64", "math/bits.Sub64"], apart := false }
def LimbOrdersSaid : Prop := limbOrdersRow.holds Try.pinned (OpenSpec.ofChange limbOrdersSpec)

/-- ITS FALSE NEIGHBOUR: 'it returns false'. Refute it at one input. -/
def limbOrdersWrong : ChangeSpec := { name := "limbOrders", fn := fun _ => fun
  | [d1, d2, d3] => { results := [.lit (.bool false)], args := [d1, d2, d3] }
  | _ => none }
def LimbOrdersWrongFalsely : Prop := limbOrdersRow.holds Try.pinned (OpenSpec.ofChange limbOrdersWrong)

/-- 'witanlaw01.LimbBytes': WHATEVER THE INPUT: true; the input reads as it did. -/
def limbBytesSpec : ChangeSpec := { name := "limbBytes", fn := fun _ => fun
  | [d] => { results := [.lit (.bool true)], args := [d] }
  | _ => none }
def limbBytesRow : OpenClaim := { program := "ytmecomgifmkkfaa", sum := "05839222ddc4fdd955371dc31ccff1f99026d9bf6c873ee7e0bd7817545970cf", func := "witan/witanlaw01.LimbBytes", spec := "limbBytes", inPlace := ["math/bits.Add64", "math/bits.Sub64"], apart := false }
def LimbBytesSaid : Prop := limbBytesRow.holds Try.pinned (OpenSpec.ofChange limbBytesSpec)

/-- ITS FALSE NEIGHBOUR: 'it returns false'. Refute it at one input. -/
def limbBytesWrong : ChangeSpec := { name := "limbBytes", fn := fun _ => fun
  | [d] => { results := [.lit (.bool false)], args := [d] }
  | _ => none }
def LimbBytesWrongFalsely : Prop := limbBytesRow.holds Try.pinned (OpenSpec.ofChange limbBytesWrong)

/-- 'witanlaw02.FieldExact': WHATEVER THE INPUT: true; the input reads as it did. -/
def fieldExactSpec : ChangeSpec := { name := "fieldExact", fn := fun _ => fun
  | [d1, d2, d3] => { results := [.lit (.bool true)], args := [d1, d2, d3] }
  | _ => none }
def fieldExactRow : OpenClaim := { program := "ytmecomgifmkkfaa", sum := "05839222ddc4fdd955371dc31ccff1f99026d9bf6c873ee7e0bd7817545970cf", func := "witan/witanlaw02.FieldExact", spec := "fieldExact", inPlace := ["math/bits.Sub64", "math/bits.Add64"], apart := false }
def FieldExactSaid : Prop := fieldExactRow.holds Try.pinned (OpenSpec.ofChange fieldExactSpec)

/-- ITS FALSE NEIGHBOUR: 'it returns false'. Refute it at one input. -/
def fieldExactWrong : ChangeSpec := { name := "fieldExact", fn := fun _ => fun
  | [d1, d2, d3] => { results := [.lit (.bool false)], args := [d1, d2, d3] }
  | _ => none }
def FieldExactWrongFalsely : Prop := fieldExactRow.holds Try.pinned (OpenSpec.ofChange fieldExactWrong)

/-- 'witanlaw02.FieldRing': WHATEVER THE INPUT: true; the input reads as it did. -/
def fieldRingSpec : ChangeSpec := { name := "fieldRing", fn := fun _ => fun
  | [d1, d2, d3, d4] => { results := [.lit (.bool true)], args := [d1, d2, d3, d4] }
  | _ => none }
def fieldRingRow : OpenClaim := { program := "ytmecomgifmkkfaa", sum := "05839222ddc4fdd955371dc31ccff1f99026d9bf6c873ee7e0bd7817545970cf", func := "witan/witanlaw02.FieldRing", spec := "fieldRing", inPlace := ["math/bits.Add64", "math/bits.Sub64"], apart := false }
def FieldRingSaid : Prop := fieldRingRow.holds Try.pinned (OpenSpec.ofChange fieldRingSpec)

/-- ITS FALSE NEIGHBOUR: 'it returns false'. Refute it at one input. -/
def fieldRingWrong : ChangeSpec := { name := "fieldRing", fn := fun _ => fun
  | [d1, d2, d3, d4] => { results := [.lit (.bool false)], args := [d1, d2, d3, d4] }
  | _ => none }
def FieldRingWrongFalsely : Prop := fieldRingRow.holds Try.pinned (OpenSpec.ofChange fieldRingWrong)

/-- 'witanlaw02.FieldRoots': WHATEVER THE INPUT: true; the input reads as it did. -/
def fieldRootsSpec : ChangeSpec := { name := "fieldRoots", fn := fun _ => fun
  | [d] => { results := [.lit (.bool true)], args := [d] }
  | _ => none }
def fieldRootsRow : OpenClaim := { program := "ytmecomgifmkkfaa", sum := "05839222ddc4fdd955371dc31ccff1f99026d9bf6c873ee7e0bd7817545970cf", func := "witan/witanlaw02.FieldRoots", spec := "fieldRoots", inPlace := ["math/bits.Add64", "math/bits.Sub64"], apart := false }
def FieldRootsSaid : Prop := fieldRootsRow.holds Try.pinned (OpenSpec.ofChange fieldRootsSpec)

/-- ITS FALSE NEIGHBOUR: 'it returns false'. Refute it at one input. -/
def fieldRootsWrong : ChangeSpec := { name := "fieldRoots", fn := fun _ => fun
  | [d] => { results := [.lit (.bool false)], args := [d] }
  | _ => none }
def FieldRootsWrongFalsely : Prop := fieldRootsRow.holds Try.pinned (OpenSpec.ofChange fieldRootsWrong)

/-- 'witanlaw02.FieldSigns': WHATEVER THE INPUT: true; the input reads as it did. -/
def fieldSignsSpec : ChangeSpec := { name := "fieldSigns", fn := fun _ => fun
  | [d1, d2, d3] => { results := [.lit (.bool true)], args := [d1, d2, d3] }
  | _ => none }
def fieldSignsRow : OpenClaim := { program := "ytmecomgifmkkfaa", sum := "05839222ddc4fdd955371dc31ccff1f99026d9bf6c873ee7e0bd7817545970cf", func := "witan/witanlaw02.FieldSigns", spec := "fieldSigns", inPlace := ["math/bits.Sub64", "math/bits.Add64"], apart := false }
def FieldSignsSaid : Prop := fieldSignsRow.holds Try.pinned (OpenSpec.ofChange fieldSignsSpec)

/-- ITS FALSE NEIGHBOUR: 'it returns false'. Refute it at one input. -/
def fieldSignsWrong : ChangeSpec := { name := "fieldSigns", fn := fun _ => fun
  | [d1, d2, d3] => { results := [.lit (.bool false)], args := [d1, d2, d3] }
  | _ => none }
def FieldSignsWrongFalsely : Prop := fieldSignsRow.holds Try.pinned (OpenSpec.ofChange fieldSignsWrong)

/-- 'witanlaw02.FieldReads': WHATEVER THE INPUT: true; the input reads as it did. -/
def fieldReadsSpec : ChangeSpec := { name := "fieldReads", fn := fun _ => fun
  | [d1, d2] => { results := [.lit (.bool true)], args := [d1, d2] }
  | _ => none }
def fieldReadsRow : OpenClaim := { program := "ytmecomgifmkkfaa", sum := "05839222ddc4fdd955371dc31ccff1f99026d9bf6c873ee7e0bd7817545970cf", func := "witan/witanlaw02.FieldReads", spec := "fieldReads", inPlace := ["math/bits.Sub64", "math/bits.Add64"], apart := false }
def FieldReadsSaid : Prop := fieldReadsRow.holds Try.pinned (OpenSpec.ofChange fieldReadsSpec)

/-- ITS FALSE NEIGHBOUR: 'it returns false'. Refute it at one input. -/
def fieldReadsWrong : ChangeSpec := { name := "fieldReads", fn := fun _ => fun
  | [d1, d2] => { results := [.lit (.bool false)], args := [d1, d2] }
  | _ => none }
def FieldReadsWrongFalsely : Prop := fieldReadsRow.holds Try.pinned (OpenSpec.ofChange fieldReadsWrong)

/-- 'witanlaw02.FieldSame': WHATEVER THE INPUT: true; the input reads as it did. -/
def fieldSameSpec : ChangeSpec := { name := "fieldSame", fn := fun _ => fun
  | [d1, d2, d3] => { results := [.lit (.bool true)], args := [d1, d2, d3] }
  | _ => none }
def fieldSameRow : OpenClaim := { program := "ytmecomgifmkkfaa", sum := "05839222ddc4fdd955371dc31ccff1f99026d9bf6c873ee7e0bd7817545970cf", func := "witan/witanlaw02.FieldSame", spec := "fieldSame", inPlace := ["math/bits.Sub64", "math/bits.Add64"], apart := false }
def FieldSameSaid : Prop := fieldSameRow.holds Try.pinned (OpenSpec.ofChange fieldSameSpec)

/-- ITS FALSE NEIGHBOUR: 'it returns false'. Refute it at one input. -/
def fieldSameWrong : ChangeSpec := { name := "fieldSame", fn := fun _ => fun
  | [d1, d2, d3] => { results := [.lit (.bool false)], args := [d1, d2, d3] }
  | _ => none }
def FieldSameWrongFalsely : Prop := fieldSameRow.holds Try.pinned (OpenSpec.ofChange fieldSameWrong)

/-- 'witanlaw02.FieldWide': WHATEVER THE INPUT: true; the input reads as it did. -/
def fieldWideSpec : ChangeSpec := { name := "fieldWide", fn := fun _ => fun
  | [d1, d2, d3] => { results := [.lit (.bool true)], args := [d1, d2, d3] }
  | _ => none }
def fieldWideRow : OpenClaim := { program := "ytmecomgifmkkfaa", sum := "05839222ddc4fdd955371dc31ccff1f99026d9bf6c873ee7e0bd7817545970cf", func := "witan/witanlaw02.FieldWide", spec := "fieldWide", inPlace := ["math/bits.Add64", "math/bits.Sub64"], apart := false }
def FieldWideSaid : Prop := fieldWideRow.holds Try.pinned (OpenSpec.ofChange fieldWideSpec)

/-- ITS FALSE NEIGHBOUR: 'it returns false'. Refute it at one input. -/
def fieldWideWrong : ChangeSpec := { name := "fieldWide", fn := fun _ => fun
  | [d1, d2, d3] => { results := [.lit (.bool false)], args := [d1, d2, d3] }
  | _ => none }
def FieldWideWrongFalsely : Prop := fieldWideRow.holds Try.pinned (OpenSpec.ofChange fieldWideWrong)

/-- 'witanlaw02.FieldBytes': WHATEVER THE INPUT: true; the input reads as it did. -/
def fieldBytesSpec : ChangeSpec := { name := "fieldBytes", fn := fun _ => fun
  | [d1, d2, d3] => { results := [.lit (.bool true)], args := [d1, d2, d3] }
  | _ => none }
def fieldBytesRow : OpenClaim := { program := "ytmecomgifmkkfaa", sum := "05839222ddc4fdd955371dc31ccff1f99026d9bf6c873ee7e0bd7817545970cf", func := "witan/witanlaw02.FieldBytes", spec := "fieldBytes", inPlace := ["math/bits.Add64", "math/bits.Sub64"], apart := false }
def FieldBytesSaid : Prop := fieldBytesRow.holds Try.pinned (OpenSpec.ofChange fieldBytesSpec)

/-- ITS FALSE NEIGHBOUR: 'it returns false'. Refute it at one input. -/
def fieldBytesWrong : ChangeSpec := { name := "fieldBytes", fn := fun _ => fun
  | [d1, d2, d3] => { results := [.lit (.bool false)], args := [d1, d2, d3] }
  | _ => none }
def FieldBytesWrongFalsely : Prop := fieldBytesRow.holds Try.pinned (OpenSpec.ofChange fieldBytesWrong)

/-- 'witanlaw06.PolySums': WHATEVER THE INPUT: true; the input reads as it did. -/
def polySumsSpec : ChangeSpec := { name := "polySums", fn := fun _ => fun
  | [d1, d2, d3, d4] => { results := [.lit (.bool true)], args := [d1, d2, d3, d4] }
  | _ => none }
def polySumsRow : OpenClaim := { program := "ytmecomgifmkkfaa", sum := "05839222ddc4fdd955371dc31ccff1f99026d9bf6c873ee7e0bd7817545970cf", func := "witan/witanlaw06.PolySums", spec := "polySums", inPlace := ["math/bits.Add64", "math/bits.Sub64"], apart := false }
def PolySumsSaid : Prop := polySumsRow.holds Try.pinned (OpenSpec.ofChange polySumsSpec)

/-- ITS FALSE NEIGHBOUR: 'it returns false'. Refute it at one input. -/
def polySumsWrong : ChangeSpec := { name := "polySums", fn := fun _ => fun
  | [d1, d2, d3, d4] => { results := [.lit (.bool false)], args := [d1, d2, d3, d4] }
  | _ => none }
def PolySumsWrongFalsely : Prop := polySumsRow.holds Try.pinned (OpenSpec.ofChange polySumsWrong)

/-- 'witanlaw06.PolyOrder': WHATEVER THE INPUT: true; the input reads as it did. -/
def polyOrderSpec : ChangeSpec := { name := "polyOrder", fn := fun _ => fun
  | [d1, d2, d3] => { results := [.lit (.bool true)], args := [d1, d2, d3] }
  | _ => none }
def polyOrderRow : OpenClaim := { program := "ytmecomgifmkkfaa", sum := "05839222ddc4fdd955371dc31ccff1f99026d9bf6c873ee7e0bd7817545970cf", func := "witan/witanlaw06.PolyOrder", spec := "polyOrder", inPlace := ["math/bits.Add64", "math/bits.Sub64"], apart := false }
def PolyOrderSaid : Prop := polyOrderRow.holds Try.pinned (OpenSpec.ofChange polyOrderSpec)

/-- ITS FALSE NEIGHBOUR: 'it returns false'. Refute it at one input. -/
def polyOrderWrong : ChangeSpec := { name := "polyOrder", fn := fun _ => fun
  | [d1, d2, d3] => { results := [.lit (.bool false)], args := [d1, d2, d3] }
  | _ => none }
def PolyOrderWrongFalsely : Prop := polyOrderRow.holds Try.pinned (OpenSpec.ofChange polyOrderWrong)

/-- 'witanlaw06.PolyExact': WHATEVER THE INPUT: true; the input reads as it did. -/
def polyExactSpec : ChangeSpec := { name := "polyExact", fn := fun _ => fun
  | [d1, d2, d3] => { results := [.lit (.bool true)], args := [d1, d2, d3] }
  | _ => none }
def polyExactRow : OpenClaim := { program := "ytmecomgifmkkfaa", sum := "05839222ddc4fdd955371dc31ccff1f99026d9bf6c873ee7e0bd7817545970cf", func := "witan/witanlaw06.PolyExact", spec := "polyExact", inPlace := ["math/bits.Add64", "math/bits.Sub64"], apart := false }
def PolyExactSaid : Prop := polyExactRow.holds Try.pinned (OpenSpec.ofChange polyExactSpec)

/-- ITS FALSE NEIGHBOUR: 'it returns false'. Refute it at one input. -/
def polyExactWrong : ChangeSpec := { name := "polyExact", fn := fun _ => fun
  | [d1, d2, d3] => { results := [.lit (.bool false)], args := [d1, d2, d3] }
  | _ => none }
def PolyExactWrongFalsely : Prop := polyExactRow.holds Try.pinned (OpenSpec.ofChange polyExactWrong)

/-- 'witanlaw06.PolyZero': WHATEVER THE INPUT: true; the input reads as it did. -/
def polyZeroSpec : ChangeSpec := { name := "polyZero", fn := fun _ => fun
  | [d1, d2] => { results := [.lit (.bool true)], args := [d1, d2] }
  | _ => none }
def polyZeroRow : OpenClaim := { program := "ytmecomgifmkkfaa", sum := "05839222ddc4fdd955371dc31ccff1f99026d9bf6c873ee7e0bd7817545970cf", func := "witan/witanlaw06.PolyZero", spec := "polyZero", inPlace := ["math/bits.Add64", "math/bits.Sub64"], apart := false }
def PolyZeroSaid : Prop := polyZeroRow.holds Try.pinned (OpenSpec.ofChange polyZeroSpec)

/-- ITS FALSE NEIGHBOUR: 'it returns false'. Refute it at one input. -/
def polyZeroWrong : ChangeSpec := { name := "polyZero", fn := fun _ => fun
  | [d1, d2] => { results := [.lit (.bool false)], args := [d1, d2] }
  | _ => none }
def PolyZeroWrongFalsely : Prop := polyZeroRow.holds Try.pinned (OpenSpec.ofChange polyZeroWrong)

/-- 'witanlaw06.PolyBounds': WHATEVER THE INPUT: true; the input reads as it did. -/
def polyBoundsSpec : ChangeSpec := { name := "polyBounds", fn := fun _ => fun
  | [d1, d2, d3] => { results := [.lit (.bool true)], args := [d1, d2, d3] }
  | _ => none }
def polyBoundsRow : OpenClaim := { program := "ytmecomgifmkkfaa", sum := "05839222ddc4fdd955371dc31ccff1f99026d9bf6c873ee7e0bd7817545970cf", func := "witan/witanlaw06.PolyBounds", spec := "polyBounds", inPlace := ["math/bits.Sub64", "math/bits.Add64"], apart := false }
def PolyBoundsSaid : Prop := polyBoundsRow.holds Try.pinned (OpenSpec.ofChange polyBoundsSpec)

/-- ITS FALSE NEIGHBOUR: 'it returns false'. Refute it at one input. -/
def polyBoundsWrong : ChangeSpec := { name := "polyBounds", fn := fun _ => fun
  | [d1, d2, d3] => { results := [.lit (.bool false)], args := [d1, d2, d3] }
  | _ => none }
def PolyBoundsWrongFalsely : Prop := polyBoundsRow.holds Try.pinned (OpenSpec.ofChange polyBoundsWrong)

/-- 'witanlaw06.PolyThrough': WHATEVER THE INPUT: true; the input reads as it did. -/
def polyThroughSpec : ChangeSpec := { name := "polyThrough", fn := fun _ => fun
  | [d1, d2] => { results := [.lit (.bool true)], args := [d1, d2] }
  | _ => none }
def polyThroughRow : OpenClaim := { program := "ytmecomgifmkkfaa", sum := "05839222ddc4fdd955371dc31ccff1f99026d9bf6c873ee7e0bd7817545970cf", func := "witan/witanlaw06.PolyThrough", spec := "polyThrough", inPlace := ["math/bits.Sub64", "math/bits.Add64"], apart := false }
def PolyThroughSaid : Prop := polyThroughRow.holds Try.pinned (OpenSpec.ofChange polyThroughSpec)

/-- ITS FALSE NEIGHBOUR: 'it returns false'. Refute it at one input. -/
def polyThroughWrong : ChangeSpec := { name := "polyThrough", fn := fun _ => fun
  | [d1, d2] => { results := [.lit (.bool false)], args := [d1, d2] }
  | _ => none }
def PolyThroughWrongFalsely : Prop := polyThroughRow.holds Try.pinned (OpenSpec.ofChange polyThroughWrong)

/- THE SECOND FORM. 'bulk': how many values and letters a reading holds, each counted each time it is reached (what is shared counts as often as it is met; a slice's spare places count too). A statement '..UptoSaid' is the law's where the arguments, and the package variables that the reading takes, are together of bulk at most 1048576: NARROWER than '..Said'. Prove '..Said' where nothing that the law and all that it calls make is longer than what came in: it says more and counts as full. Else prove '..UptoSaid'. A law counts once. -/
mutual
def uptoBulk {H : Type} : DataW H → Nat
  | .lit (.string bytes) => bytes.length + 1
  | .lit _ => 1
  | .nil => 1
  | .ptr d => uptoBulk d + 1
  | .slice elems spare => uptoBulkAll elems + uptoBulkAll spare + 1
  | .agg parts => uptoBulkAll parts + 1
  | .iface _ d => uptoBulk d + 1
  | .map entries => uptoBulkEntries entries + 1
  | .held _ => 1
def uptoBulkAll {H : Type} : List (DataW H) → Nat
  | [] => 0
  | d :: r => uptoBulk d + uptoBulkAll r
def uptoBulkEntries {H : Type} : List (Lit × DataW H) → Nat
  | [] => 0
  | x :: r => uptoBulkEntry x + uptoBulkEntries r
def uptoBulkEntry {H : Type} : Lit × DataW H → Nat
  | (.string bytes, d) => bytes.length + uptoBulk d + 1
  | (_, d) => uptoBulk d + 1
 end
def uptoSmall : (H : Type) → List (DataW H) → Bool := fun _ ds => decide (uptoBulkAll ds ≤ 1048576)
def OpenSpec.upto (s : _root_.Go.ChangeSpec) : _root_.Go.OpenSpec := { _root_.Go.OpenSpec.ofChange s with cond := some uptoSmall }

/-- 'witanlaw01.LimbMods', WHERE WHAT IT READS IS OF BULK AT MOST 1048576: true; the input reads as it did. -/
def limbModsUptoRow : OpenClaim := { program := "ytmecomgifmkkfaa", sum := "05839222ddc4fdd955371dc31ccff1f99026d9bf6c873ee7e0bd7817545970cf", func := "witan/witanlaw01.LimbMods", spec := "limbMods", inPlace := ["math/bits.Add64", "math/bits.Sub64"], apart := false, narrowed := true }
def LimbModsUptoSaid : Prop := limbModsUptoRow.holds Try.pinned (OpenSpec.upto limbModsSpec)

/-- 'witanlaw01.LimbBack', WHERE WHAT IT READS IS OF BULK AT MOST 1048576: true; the input reads as it did. -/
def limbBackUptoRow : OpenClaim := { program := "ytmecomgifmkkfaa", sum := "05839222ddc4fdd955371dc31ccff1f99026d9bf6c873ee7e0bd7817545970cf", func := "witan/witanlaw01.LimbBack", spec := "limbBack", inPlace := ["math/bits.Add64", "math/bits.Sub64"], apart := false, narrowed := true }
def LimbBackUptoSaid : Prop := limbBackUptoRow.holds Try.pinned (OpenSpec.upto limbBackSpec)

/-- 'witanlaw01.LimbRests', WHERE WHAT IT READS IS OF BULK AT MOST 1048576: true; the input reads as it did. -/
def limbRestsUptoRow : OpenClaim := { program := "ytmecomgifmkkfaa", sum := "05839222ddc4fdd955371dc31ccff1f99026d9bf6c873ee7e0bd7817545970cf", func := "witan/witanlaw01.LimbRests", spec := "limbRests", inPlace := ["math/bits.Add64", "math/bits.Sub64"], apart := false, narrowed := true }
def LimbRestsUptoSaid : Prop := limbRestsUptoRow.holds Try.pinned (OpenSpec.upto limbRestsSpec)

/-- 'witanlaw01.LimbSquares', WHERE WHAT IT READS IS OF BULK AT MOST 1048576: true; the input reads as it did. -/
def limbSquaresUptoRow : OpenClaim := { program := "ytmecomgifmkkfaa", sum := "05839222ddc4fdd955371dc31ccff1f99026d9bf6c873ee7e0bd7817545970cf", func := "witan/witanlaw01.LimbSquares", spec := "limbSquares", inPlace := ["math/bits.Add64", "math/bits.Sub64"], apart := false, narrowed := true }
def LimbSquaresUptoSaid : Prop := limbSquaresUptoRow.holds Try.pinned (OpenSpec.upto limbSquaresSpec)

/-- 'witanlaw01.LimbExact', WHERE WHAT IT READS IS OF BULK AT MOST 1048576: true; the input reads as it did. -/
def limbExactUptoRow : OpenClaim := { program := "ytmecomgifmkkfaa", sum := "05839222ddc4fdd955371dc31ccff1f99026d9bf6c873ee7e0bd7817545970cf", func := "witan/witanlaw01.LimbExact", spec := "limbExact", inPlace := ["math/bits.Add64", "math/bits.Sub64"], apart := false, narrowed := true }
def LimbExactUptoSaid : Prop := limbExactUptoRow.holds Try.pinned (OpenSpec.upto limbExactSpec)

/-- 'witanlaw01.LimbPowers', WHERE WHAT IT READS IS OF BULK AT MOST 1048576: true; the input reads as it did. -/
def limbPowersUptoRow : OpenClaim := { program := "ytmecomgifmkkfaa", sum := "05839222ddc4fdd955371dc31ccff1f99026d9bf6c873ee7e0bd7817545970cf", func := "witan/witanlaw01.LimbPowers", spec := "limbPowers", inPlace := ["math/bits.Add64", "math/bits.Sub64"], apart := false, narrowed := true }
def LimbPowersUptoSaid : Prop := limbPowersUptoRow.holds Try.pinned (OpenSpec.upto limbPowersSpec)

/-- 'witanlaw01.LimbOrders', WHERE WHAT IT READS IS OF BULK AT MOST 1048576: true; the input reads as it did. -/
def limbOrdersUptoRow : OpenClaim := { program := "ytmecomgifmkkfaa", sum := "05839222ddc4fdd955371dc31ccff1f99026d9bf6c873ee7e0bd7817545970cf", func := "witan/witanlaw01.LimbOrders", spec := "limbOrders", inPlace := ["math/bits.Add64", "math/bits.Sub64"], apart := false, narrowed := true }
def LimbOrdersUptoSaid : Prop := limbOrdersUptoRow.holds Try.pinned (OpenSpec.upto limbOrdersSpec)

/-- 'witanlaw01.LimbBytes', WHERE WHAT IT READS IS OF BULK AT MOST 1048576: true; the input reads as it did. -/
def limbBytesUptoRow : OpenClaim := { program := "ytmecomgifmkkfaa", sum := "05839222ddc4fdd955371dc31ccff1f99026d9bf6c873ee7e0bd7817545970cf", func := "witan/witanlaw01.LimbBytes", spec := "limbBytes", inPlace := ["math/bits.Add64", "math/bits.Sub64"], apart := false, narrowed := true }
def LimbBytesUptoSaid : Prop := limbBytesUptoRow.holds Try.pinned (OpenSpec.upto limbBytesSpec)

/-- 'witanlaw02.FieldExact', WHERE WHAT IT READS IS OF BULK AT MOST 1048576: true; the input reads as it did. -/
def fieldExactUptoRow : OpenClaim := { program := "ytmecomgifmkkfaa", sum := "05839222ddc4fdd955371dc31ccff1f99026d9bf6c873ee7e0bd7817545970cf", func := "witan/witanlaw02.FieldExact", spec := "fieldExact", inPlace := ["math/bits.Sub64", "math/bits.Add64"], apart := false, narrowed := true }
def FieldExactUptoSaid : Prop := fieldExactUptoRow.holds Try.pinned (OpenSpec.upto fieldExactSpec)

/-- 'witanlaw02.FieldRing', WHERE WHAT IT READS IS OF BULK AT MOST 1048576: true; the input reads as it did. -/
def fieldRingUptoRow : OpenClaim := { program := "ytmecomgifmkkfaa", sum := "05839222ddc4fdd955371dc31ccff1f99026d9bf6c873ee7e0bd7817545970cf", func := "witan/witanlaw02.FieldRing", spec := "fieldRing", inPlace := ["math/bits.Add64", "math/bits.Sub64"], apart := false, narrowed := true }
def FieldRingUptoSaid : Prop := fieldRingUptoRow.holds Try.pinned (OpenSpec.upto fieldRingSpec)

/-- 'witanlaw02.FieldRoots', WHERE WHAT IT READS IS OF BULK AT MOST 1048576: true; the input reads as it did. -/
def fieldRootsUptoRow : OpenClaim := { program := "ytmecomgifmkkfaa", sum := "05839222ddc4fdd955371dc31ccff1f99026d9bf6c873ee7e0bd7817545970cf", func := "witan/witanlaw02.FieldRoots", spec := "fieldRoots", inPlace := ["math/bits.Add64", "math/bits.Sub64"], apart := false, narrowed := true }
def FieldRootsUptoSaid : Prop := fieldRootsUptoRow.holds Try.pinned (OpenSpec.upto fieldRootsSpec)

/-- 'witanlaw02.FieldSigns', WHERE WHAT IT READS IS OF BULK AT MOST 1048576: true; the input reads as it did. -/
def fieldSignsUptoRow : OpenClaim := { program := "ytmecomgifmkkfaa", sum := "05839222ddc4fdd955371dc31ccff1f99026d9bf6c873ee7e0bd7817545970cf", func := "witan/witanlaw02.FieldSigns", spec := "fieldSigns", inPlace := ["math/bits.Sub64", "math/bits.Add64"], apart := false, narrowed := true }
def FieldSignsUptoSaid : Prop := fieldSignsUptoRow.holds Try.pinned (OpenSpec.upto fieldSignsSpec)

/-- 'witanlaw02.FieldReads', WHERE WHAT IT READS IS OF BULK AT MOST 1048576: true; the input reads as it did. -/
def fieldReadsUptoRow : OpenClaim := { program := "ytmecomgifmkkfaa", sum := "05839222ddc4fdd955371dc31ccff1f99026d9bf6c873ee7e0bd7817545970cf", func := "witan/witanlaw02.FieldReads", spec := "fieldReads", inPlace := ["math/bits.Sub64", "math/bits.Add64"], apart := false, narrowed := true }
def FieldReadsUptoSaid : Prop := fieldReadsUptoRow.holds Try.pinned (OpenSpec.upto fieldReadsSpec)

/-- 'witanlaw02.FieldSame', WHERE WHAT IT READS IS OF BULK AT MOST 1048576: true; the input reads as it did. -/
def fieldSameUptoRow : OpenClaim := { program := "ytmecomgifmkkfaa", sum := "05839222ddc4fdd955371dc31ccff1f99026d9bf6c873ee7e0bd7817545970cf", func := "witan/witanlaw02.FieldSame", spec := "fieldSame", inPlace := ["math/bits.Sub64", "math/bits.Add64"], apart := false, narrowed := true }
def FieldSameUptoSaid : Prop := fieldSameUptoRow.holds Try.pinned (OpenSpec.upto fieldSameSpec)

/-- 'witanlaw02.FieldWide', WHERE WHAT IT READS IS OF BULK AT MOST 1048576: true; the input reads as it did. -/
def fieldWideUptoRow : OpenClaim := { program := "ytmecomgifmkkfaa", sum := "05839222ddc4fdd955371dc31ccff1f99026d9bf6c873ee7e0bd7817545970cf", func := "witan/witanlaw02.FieldWide", spec := "fieldWide", inPlace := ["math/bits.Add64", "math/bits.Sub64"], apart := false, narrowed := true }
def FieldWideUptoSaid : Prop := fieldWideUptoRow.holds Try.pinned (OpenSpec.upto fieldWideSpec)

/-- 'witanlaw02.FieldBytes', WHERE WHAT IT READS IS OF BULK AT MOST 1048576: true; the input reads as it did. -/
def fieldBytesUptoRow : OpenClaim := { program := "ytmecomgifmkkfaa", sum := "05839222ddc4fdd955371dc31ccff1f99026d9bf6c873ee7e0bd7817545970cf", func := "witan/witanlaw02.FieldBytes", spec := "fieldBytes", inPlace := ["math/bits.Add64", "math/bits.Sub64"], apart := false, narrowed := true }
def FieldBytesUptoSaid : Prop := fieldBytesUptoRow.holds Try.pinned (OpenSpec.upto fieldBytesSpec)

/-- 'witanlaw06.PolySums', WHERE WHAT IT READS IS OF BULK AT MOST 1048576: true; the input reads as it did. -/
def polySumsUptoRow : OpenClaim := { program := "ytmecomgifmkkfaa", sum := "05839222ddc4fdd955371dc31ccff1f99026d9bf6c873ee7e0bd7817545970cf", func := "witan/witanlaw06.PolySums", spec := "polySums", inPlace := ["math/bits.Add64", "math/bits.Sub64"], apart := false, narrowed := true }
def PolySumsUptoSaid : Prop := polySumsUptoRow.holds Try.pinned (OpenSpec.upto polySumsSpec)

/-- 'witanlaw06.PolyOrder', WHERE WHAT IT READS IS OF BULK AT MOST 1048576: true; the input reads as it did. -/
def polyOrderUptoRow : OpenClaim := { program := "ytmecomgifmkkfaa", sum := "05839222ddc4fdd955371dc31ccff1f99026d9bf6c873ee7e0bd7817545970cf", func := "witan/witanlaw06.PolyOrder", spec := "polyOrder", inPlace := ["math/bits.Add64", "math/bits.Sub64"], apart := false, narrowed := true }
def PolyOrderUptoSaid : Prop := polyOrderUptoRow.holds Try.pinned (OpenSpec.upto polyOrderSpec)

/-- 'witanlaw06.PolyExact', WHERE WHAT IT READS IS OF BULK AT MOST 1048576: true; the input reads as it did. -/
def polyExactUptoRow : OpenClaim := { program := "ytmecomgifmkkfaa", sum := "05839222ddc4fdd955371dc31ccff1f99026d9bf6c873ee7e0bd7817545970cf", func := "witan/witanlaw06.PolyExact", spec := "polyExact", inPlace := ["math/bits.Add64", "math/bits.Sub64"], apart := false, narrowed := true }
def PolyExactUptoSaid : Prop := polyExactUptoRow.holds Try.pinned (OpenSpec.upto polyExactSpec)

/-- 'witanlaw06.PolyZero', WHERE WHAT IT READS IS OF BULK AT MOST 1048576: true; the input reads as it did. -/
def polyZeroUptoRow : OpenClaim := { program := "ytmecomgifmkkfaa", sum := "05839222ddc4fdd955371dc31ccff1f99026d9bf6c873ee7e0bd7817545970cf", func := "witan/witanlaw06.PolyZero", spec := "polyZero", inPlace := ["math/bits.Add64", "math/bits.Sub64"], apart := false, narrowed := true }
def PolyZeroUptoSaid : Prop := polyZeroUptoRow.holds Try.pinned (OpenSpec.upto polyZeroSpec)

/-- 'witanlaw06.PolyBounds', WHERE WHAT IT READS IS OF BULK AT MOST 1048576: true; the input reads as it did. -/
def polyBoundsUptoRow : OpenClaim := { program := "ytmecomgifmkkfaa", sum := "05839222ddc4fdd955371dc31ccff1f99026d9bf6c873ee7e0bd7817545970cf", func := "witan/witanlaw06.PolyBounds", spec := "polyBounds", inPlace := ["math/bits.Sub64", "math/bits.Add64"], apart := false, narrowed := true }
def PolyBoundsUptoSaid : Prop := polyBoundsUptoRow.holds Try.pinned (OpenSpec.upto polyBoundsSpec)

/-- 'witanlaw06.PolyThrough', WHERE WHAT IT READS IS OF BULK AT MOST 1048576: true; the input reads as it did. -/
def polyThroughUptoRow : OpenClaim := { program := "ytmecomgifmkkfaa", sum := "05839222ddc4fdd955371dc31ccff1f99026d9bf6c873ee7e0bd7817545970cf", func := "witan/witanlaw06.PolyThrough", spec := "polyThrough", inPlace := ["math/bits.Sub64", "math/bits.Add64"], apart := false, narrowed := true }
def PolyThroughUptoSaid : Prop := polyThroughUptoRow.holds Try.pinned (OpenSpec.upto polyThroughSpec)

end Rows
end Go.Proofs.Ytmecomgifmkkfaa
