/- The calculus of walks, at 32 bytes. -/
/- The calculus of walks: a few whole-number facts more. -/
import Derived.Test.YtmecomgifmkkfaaSymN
import Derived.Test.YtmecomgifmkkfaaLimbF
import Derived.Test.YtmecomgifmkkfaaBits
namespace Go.Proofs.Ytmecomgifmkkfaa
set_option linter.unusedVariables false
set_option linter.unusedSimpArgs false
open Go.RowKit

/-- A block that holds the bytes of a number. -/
def b32O (n : Nat) : Obj := .cells (b32C n) 42 (0, 0)
theorem binfo (n : Nat) : (Try.prog.info? 42).map (·.size) = some (b32C n).size := by rw [b32C_size]; kernel_rfl
theorem bunder : Try.prog.underlying 42 = some (.array 32 5) := by kernel_rfl

section
variable {X : Nat → Prop} {w0 : World} {l : List Value} {M : Mem} {R : List Oper} {kd : Nat → Kd} {N : List Value → Mem → Prop} {π : List Nat} {i : Nat} {dst : Option Tmp} {ty : TypeId} {pos : String} {aft : Array Edge} {gd : Option (Nat × Bool)}
theorem wk_boxB {x : Operand} (n : Nat) (ho : nthO R i = some ⟨dst, .box 42 x, ty, pos, aft, none⟩) (hk : kd i = .A) (hv : ev l x = b32V n)
    (h : ∀ β, Wk Try.prog X w0 R kd N π (putL l dst (.pointer (some ⟨β, 0, none⟩))) (M ++ [(β, b32O n)])) : Wk Try.prog X w0 R kd N (i :: π) l M := wk_box (b32V n) ho hk hv h
theorem wk_ldB {x : Operand} {β n : Nat} (j : Nat) (ho : nthO R i = some ⟨dst, .load 42 x, ty, pos, aft, gd⟩) (hg : gok R gd l = true) (hk : kd i = .L)
    (hx : ev l x = .pointer (some ⟨β, 0, none⟩)) (hj : nthO M j = some (β, b32O n))
    (h : Wk Try.prog X w0 R kd N π (putL l dst (b32V n)) M) : Wk Try.prog X w0 R kd N (i :: π) l M := wk_load j ho hg hk hx hj bunder rfl (binfo n) h
/-- The lowest bit. -/
theorem iop_and1 (n : Nat) : iop .and .u64 ((dg n 0 : Nat) : Int) 1 = some (.int .u64 ((n % 2 : Nat) : Int)) := by
  have h1 : (BitVec.ofInt 64 ((dg n 0 : Nat) : Int) &&& BitVec.ofInt 64 1).toNat = n % 2 := by
    have h0 := dg_lt n 0
    rw [show (1 : Int) = ((1 : Nat) : Int) from rfl, BitVec.ofInt_natCast, BitVec.ofInt_natCast, BitVec.toNat_and, BitVec.toNat_ofNat, BitVec.toNat_ofNat, Nat.mod_eq_of_lt h0, Nat.mod_eq_of_lt (by decide), Nat.and_one_is_mod, dg0]
    omega
  simp only [iop]
  show some (Value.int .u64 (IntKind.u64.wrap (((BitVec.ofInt 64 ((dg n 0 : Nat) : Int) &&& BitVec.ofInt 64 1).toNat : Nat) : Int))) = _
  rw [h1, wrap_u64 (by omega) (by omega)]
end
end Go.Proofs.Ytmecomgifmkkfaa

namespace Go.Proofs.Ytmecomgifmkkfaa
set_option linter.unusedVariables false
set_option linter.unusedSimpArgs false
open Go.RowKit

theorem iop_rem2 (n : Nat) : iop .rem .u64 ((dg n 0 : Nat) : Int) 2 = some (.int .u64 ((n % 2 : Nat) : Int)) := by
  have h : ((dg n 0 : Nat) : Int).tmod 2 = ((n % 2 : Nat) : Int) := by
    rw [Int.tmod_eq_emod_of_nonneg (by omega), dg0]
    omega
  simp only [iop]
  rw [if_neg (by decide), h]
end Go.Proofs.Ytmecomgifmkkfaa
