/- One rule an operation. -/
import Derived.Test.YtimokikpnngikaaFd
import Derived.WalkKit
import Derived.Laws.BytesString
import Derived.Deep.WholeRow
set_option linter.unusedVariables false
set_option linter.unusedSimpArgs false
namespace Go.Fw
open Go Go.RowKit
section
variable {P : Program} {w0 : World} {n : Nat} {l : Env} {h : Hp} {dst : Option Tmp} {ty : TypeId} {pos : String} {aft : Array Edge} {gd : Option (Nat × Bool)}
theorem Ev.move {x : Operand} {v : Value} (hx : ev n l x = some v) : Ev P w0 n l h ⟨dst, .move x, ty, pos, aft, gd⟩ v := by
  refine ⟨fun u w s => ?_⟩
  simp [execOp, ev_evu hx u]
theorem Ev.assign {x : Operand} {v : Value} (hx : ev n l x = some v) : Ev P w0 n l h ⟨dst, .assign x, ty, pos, aft, gd⟩ v := by
  refine ⟨fun u w s => ?_⟩
  simp [execOp, ev_evu hx u]
theorem Ev.pickT {c a b : Operand} {v : Value} (hc : ev n l c = some (.bool true)) (ha : ev n l a = some v) : Ev P w0 n l h ⟨dst, .pick c a b, ty, pos, aft, gd⟩ v := by
  refine ⟨fun u w s => ?_⟩
  simp [execOp, ev_evu hc u, ev_evu ha u, asBool]
theorem Ev.pickF {c a b : Operand} {v : Value} (hc : ev n l c = some (.bool false)) (hb : ev n l b = some v) : Ev P w0 n l h ⟨dst, .pick c a b, ty, pos, aft, gd⟩ v := by
  refine ⟨fun u w s => ?_⟩
  simp [execOp, ev_evu hc u, ev_evu hb u, asBool]
section ints
variable {x y : Operand} {tx tyy : TypeId} {k : IntKind} {a b r : Int}
theorem Ev.add (hx : ev n l x = some (.int k a)) (hy : ev n l y = some (.int k b)) (hr : k.wrap (a + b) = r) : Ev P w0 n l h ⟨dst, .binOp .add tx x y tyy, ty, pos, aft, gd⟩ (.int k r) := by
  refine ⟨fun u w s => ?_⟩
  simp [execOp, ev_evu hx u, ev_evu hy u, eqGuard, binOp, Op.intArith, hr]
theorem Ev.sub (hx : ev n l x = some (.int k a)) (hy : ev n l y = some (.int k b)) (hr : k.wrap (a - b) = r) : Ev P w0 n l h ⟨dst, .binOp .sub tx x y tyy, ty, pos, aft, gd⟩ (.int k r) := by
  refine ⟨fun u w s => ?_⟩
  simp [execOp, ev_evu hx u, ev_evu hy u, eqGuard, binOp, Op.intArith, hr]
theorem Ev.mul (hx : ev n l x = some (.int k a)) (hy : ev n l y = some (.int k b)) (hr : k.wrap (a * b) = r) : Ev P w0 n l h ⟨dst, .binOp .mul tx x y tyy, ty, pos, aft, gd⟩ (.int k r) := by
  refine ⟨fun u w s => ?_⟩
  simp [execOp, ev_evu hx u, ev_evu hy u, eqGuard, binOp, Op.intArith, hr]
theorem Ev.quo (hx : ev n l x = some (.int k a)) (hy : ev n l y = some (.int k b)) (h0 : ¬ b = 0) (hr : k.wrap (a.tdiv b) = r) : Ev P w0 n l h ⟨dst, .binOp .quo tx x y tyy, ty, pos, aft, gd⟩ (.int k r) := by
  refine ⟨fun u w s => ?_⟩
  simp [execOp, ev_evu hx u, ev_evu hy u, eqGuard, binOp, Op.intDiv, h0, hr]
theorem Ev.rem (hx : ev n l x = some (.int k a)) (hy : ev n l y = some (.int k b)) (h0 : ¬ b = 0) (hr : a.tmod b = r) : Ev P w0 n l h ⟨dst, .binOp .rem tx x y tyy, ty, pos, aft, gd⟩ (.int k r) := by
  refine ⟨fun u w s => ?_⟩
  simp [execOp, ev_evu hx u, ev_evu hy u, eqGuard, binOp, Op.intDiv, h0, hr]
theorem Ev.and (hx : ev n l x = some (.int k a)) (hy : ev n l y = some (.int k b)) (hr : k.wrap (BitVec.ofInt k.bits a &&& BitVec.ofInt k.bits b).toNat = r) : Ev P w0 n l h ⟨dst, .binOp .and tx x y tyy, ty, pos, aft, gd⟩ (.int k r) := by
  refine ⟨fun u w s => ?_⟩
  simp [execOp, ev_evu hx u, ev_evu hy u, eqGuard, binOp, Op.intBits]
  simpa using hr
theorem Ev.or (hx : ev n l x = some (.int k a)) (hy : ev n l y = some (.int k b)) (hr : k.wrap (BitVec.ofInt k.bits a ||| BitVec.ofInt k.bits b).toNat = r) : Ev P w0 n l h ⟨dst, .binOp .or tx x y tyy, ty, pos, aft, gd⟩ (.int k r) := by
  refine ⟨fun u w s => ?_⟩
  simp [execOp, ev_evu hx u, ev_evu hy u, eqGuard, binOp, Op.intBits]
  simpa using hr
theorem Ev.xor (hx : ev n l x = some (.int k a)) (hy : ev n l y = some (.int k b)) (hr : k.wrap (BitVec.ofInt k.bits a ^^^ BitVec.ofInt k.bits b).toNat = r) : Ev P w0 n l h ⟨dst, .binOp .xor tx x y tyy, ty, pos, aft, gd⟩ (.int k r) := by
  refine ⟨fun u w s => ?_⟩
  simp [execOp, ev_evu hx u, ev_evu hy u, eqGuard, binOp, Op.intBits]
  simpa using hr
theorem Ev.shl {k' : IntKind} (hx : ev n l x = some (.int k a)) (hy : ev n l y = some (.int k' b)) (h0 : 0 ≤ b) (hr : k.wrap (a * 2 ^ (min b.toNat k.bits)) = r) : Ev P w0 n l h ⟨dst, .binOp .shl tx x y tyy, ty, pos, aft, gd⟩ (.int k r) := by
  refine ⟨fun u w s => ?_⟩
  have : ¬ b < 0 := by omega
  simp [execOp, ev_evu hx u, ev_evu hy u, eqGuard, binOp, Op.shift, this, hr]
theorem Ev.shr {k' : IntKind} (hx : ev n l x = some (.int k a)) (hy : ev n l y = some (.int k' b)) (h0 : 0 ≤ b) (hr : a.fdiv (2 ^ (min b.toNat k.bits)) = r) : Ev P w0 n l h ⟨dst, .binOp .shr tx x y tyy, ty, pos, aft, gd⟩ (.int k r) := by
  refine ⟨fun u w s => ?_⟩
  have : ¬ b < 0 := by omega
  simp [execOp, ev_evu hx u, ev_evu hy u, eqGuard, binOp, Op.shift, this, hr]
variable {c : Bool}
theorem Ev.lss (hx : ev n l x = some (.int k a)) (hy : ev n l y = some (.int k b)) (hr : decide (a < b) = c) : Ev P w0 n l h ⟨dst, .binOp .lss tx x y tyy, ty, pos, aft, gd⟩ (.bool c) := by
  refine ⟨fun u w s => ?_⟩
  simp [execOp, ev_evu hx u, ev_evu hy u, eqGuard, binOp, Op.intCmp, hr]
theorem Ev.leq (hx : ev n l x = some (.int k a)) (hy : ev n l y = some (.int k b)) (hr : decide (a ≤ b) = c) : Ev P w0 n l h ⟨dst, .binOp .leq tx x y tyy, ty, pos, aft, gd⟩ (.bool c) := by
  refine ⟨fun u w s => ?_⟩
  simp [execOp, ev_evu hx u, ev_evu hy u, eqGuard, binOp, Op.intCmp, hr]
theorem Ev.gtr (hx : ev n l x = some (.int k a)) (hy : ev n l y = some (.int k b)) (hr : decide (b < a) = c) : Ev P w0 n l h ⟨dst, .binOp .gtr tx x y tyy, ty, pos, aft, gd⟩ (.bool c) := by
  refine ⟨fun u w s => ?_⟩
  simp [execOp, ev_evu hx u, ev_evu hy u, eqGuard, binOp, Op.intCmp, hr]
theorem Ev.geq (hx : ev n l x = some (.int k a)) (hy : ev n l y = some (.int k b)) (hr : decide (b ≤ a) = c) : Ev P w0 n l h ⟨dst, .binOp .geq tx x y tyy, ty, pos, aft, gd⟩ (.bool c) := by
  refine ⟨fun u w s => ?_⟩
  simp [execOp, ev_evu hx u, ev_evu hy u, eqGuard, binOp, Op.intCmp, hr]
theorem Ev.eqI (hx : ev n l x = some (.int k a)) (hy : ev n l y = some (.int k b)) (hr : decide (a = b) = c) : Ev P w0 n l h ⟨dst, .binOp .eql tx x y tyy, ty, pos, aft, gd⟩ (.bool c) := by
  refine ⟨fun u w s => ?_⟩
  have e : (a == b) = c := by rw [← hr]; rfl
  simp [execOp, ev_evu hx u, ev_evu hy u, eqGuard, binOp, Op.intCmp, e]
theorem Ev.neI (hx : ev n l x = some (.int k a)) (hy : ev n l y = some (.int k b)) (hr : decide (a ≠ b) = c) : Ev P w0 n l h ⟨dst, .binOp .neq tx x y tyy, ty, pos, aft, gd⟩ (.bool c) := by
  refine ⟨fun u w s => ?_⟩
  have e : (a != b) = c := by
    rw [← hr]
    by_cases hab : a = b
    · subst hab; simp
    · simp [hab, bne]
  simp [execOp, ev_evu hx u, ev_evu hy u, eqGuard, binOp, Op.intCmp, e]
theorem Ev.neg (hx : ev n l x = some (.int k a)) (hr : k.wrap (-a) = r) : Ev P w0 n l h ⟨dst, .unOp .neg tx x, ty, pos, aft, gd⟩ (.int k r) := by
  refine ⟨fun u w s => ?_⟩
  simp [execOp, ev_evu hx u, Op.unary, Op.intArith, hr]
theorem Ev.not {e : Bool} (hx : ev n l x = some (.bool e)) (hr : (!e) = c) : Ev P w0 n l h ⟨dst, .unOp .not tx x, ty, pos, aft, gd⟩ (.bool c) := by
  refine ⟨fun u w s => ?_⟩
  simp [execOp, ev_evu hx u, Op.unary, hr]
theorem Ev.conv {k' : IntKind} {d : TypeDesc} (hx : ev n l x = some (.int k a)) (hs : P.underlying tx = some d) (hd : P.underlying tyy = some (.int k')) (hr : k'.wrap a = r) : Ev P w0 n l h ⟨dst, .convert tx tyy x, ty, pos, aft, gd⟩ (.int k' r) := by
  refine ⟨fun u w s => ?_⟩
  simp [execOp, ev_evu hx u, convert, run_underlying hs, run_underlying hd, Conv.intToInt, hr]
end ints
theorem Ev.extract {x : Operand} {i : Nat} {vs : Array Value} {v : Value} (hx : ev n l x = some (.tuple vs)) (hv : vs[i]? = some v) : Ev P w0 n l h ⟨dst, .extract x i, ty, pos, aft, gd⟩ v := by
  refine ⟨fun u w s => ?_⟩
  simp [execOp, ev_evu hx u, Instr.extract, hv]
theorem Ev.nilCheck {x : Operand} {a : Addr} (hx : ev n l x = some (.pointer (some a))) : Ev P w0 n l h ⟨dst, .nilCheck x, ty, pos, aft, gd⟩ (.pointer (some a)) := by
  refine ⟨fun u w s => ?_⟩
  simp [execOp, ev_evu hx u]
/-! #### Words of 32 bits -/
def U (x : BitVec 32) : Value := .int .u32 (x.toNat : Int)
def B8 (x : UInt8) : Value := .int .u8 (x.toNat : Int)
theorem u32_wrap (z : Int) : IntKind.u32.wrap z = z % 4294967296 := by
  unfold IntKind.wrap IntKind.bits IntKind.signed
  simp
theorem u8_wrap (z : Int) : IntKind.u8.wrap z = z % 256 := by
  unfold IntKind.wrap IntKind.bits IntKind.signed
  simp
theorem u64_wrap (z : Int) : IntKind.u64.wrap z = z % 18446744073709551616 := by
  unfold IntKind.wrap IntKind.bits IntKind.signed
  simp
theorem i64_in {z : Int} (h1 : -9223372036854775808 ≤ z) (h2 : z ≤ 9223372036854775807) : IntKind.i64.wrap z = z := by
  unfold IntKind.wrap IntKind.bits IntKind.signed
  simp only [Bool.true_and, decide_eq_true_eq]
  split <;> omega
theorem u64_in {z : Int} (h1 : 0 ≤ z) (h2 : z < 18446744073709551616) : IntKind.u64.wrap z = z := by
  rw [u64_wrap]; omega
theorem u32_in {z : Int} (h1 : 0 ≤ z) (h2 : z < 4294967296) : IntKind.u32.wrap z = z := by
  rw [u32_wrap]; omega
theorem u8_in {z : Int} (h1 : 0 ≤ z) (h2 : z < 256) : IntKind.u8.wrap z = z := by
  rw [u8_wrap]; omega
section words
variable {x y : Operand} {tx tyy : TypeId} {a b : BitVec 32}
theorem toNat_lt32 (a : BitVec 32) : a.toNat < 4294967296 := a.isLt
theorem Ev.addU (hx : ev n l x = some (U a)) (hy : ev n l y = some (U b)) : Ev P w0 n l h ⟨dst, .binOp .add tx x y tyy, ty, pos, aft, gd⟩ (U (a + b)) :=
  Ev.add hx hy (by rw [u32_wrap, BitVec.toNat_add]; omega)
theorem Ev.mulU (hx : ev n l x = some (U a)) (hy : ev n l y = some (U b)) : Ev P w0 n l h ⟨dst, .binOp .mul tx x y tyy, ty, pos, aft, gd⟩ (U (a * b)) :=
  Ev.mul hx hy (by rw [u32_wrap, BitVec.toNat_mul, ← Int.natCast_mul]; omega)
theorem ofInt_toNat (a : BitVec 32) : BitVec.ofInt 32 (a.toNat : Int) = a := by
  apply BitVec.eq_of_toNat_eq
  rw [BitVec.toNat_ofInt]
  have := a.isLt
  omega
theorem wrap_toNat (a : BitVec 32) : IntKind.u32.wrap (a.toNat : Int) = a.toNat := by
  have := a.isLt
  exact u32_in (by omega) (by omega)
theorem Ev.andU (hx : ev n l x = some (U a)) (hy : ev n l y = some (U b)) : Ev P w0 n l h ⟨dst, .binOp .and tx x y tyy, ty, pos, aft, gd⟩ (U (a &&& b)) :=
  Ev.and hx hy (by show IntKind.u32.wrap ((BitVec.ofInt 32 _ &&& BitVec.ofInt 32 _).toNat : Int) = _; rw [ofInt_toNat, ofInt_toNat, wrap_toNat])
theorem Ev.orU (hx : ev n l x = some (U a)) (hy : ev n l y = some (U b)) : Ev P w0 n l h ⟨dst, .binOp .or tx x y tyy, ty, pos, aft, gd⟩ (U (a ||| b)) :=
  Ev.or hx hy (by show IntKind.u32.wrap ((BitVec.ofInt 32 _ ||| BitVec.ofInt 32 _).toNat : Int) = _; rw [ofInt_toNat, ofInt_toNat, wrap_toNat])
theorem Ev.xorU (hx : ev n l x = some (U a)) (hy : ev n l y = some (U b)) : Ev P w0 n l h ⟨dst, .binOp .xor tx x y tyy, ty, pos, aft, gd⟩ (U (a ^^^ b)) :=
  Ev.xor hx hy (by show IntKind.u32.wrap ((BitVec.ofInt 32 _ ^^^ BitVec.ofInt 32 _).toNat : Int) = _; rw [ofInt_toNat, ofInt_toNat, wrap_toNat])
theorem Ev.shrU {k' : IntKind} {m : Int} (hx : ev n l x = some (U a)) (hy : ev n l y = some (.int k' m)) (h0 : 0 ≤ m) : Ev P w0 n l h ⟨dst, .binOp .shr tx x y tyy, ty, pos, aft, gd⟩ (U (a >>> m.toNat)) :=
  Ev.shr hx hy h0 (by
    rw [Int.fdiv_eq_ediv_of_nonneg _ (by exact Int.le_of_lt (Int.pow_pos (by omega)))]
    rw [BitVec.toNat_ushiftRight, Nat.shiftRight_eq_div_pow]
    show ((a.toNat : Int) / 2 ^ (min m.toNat 32)) = _
    by_cases hm : m.toNat ≤ 32
    · rw [Nat.min_eq_left hm, Int.natCast_ediv, Int.natCast_pow]; rfl
    · rw [Nat.min_eq_right (by omega)]
      have h1 : a.toNat / 2 ^ m.toNat = 0 := Nat.div_eq_of_lt (Nat.lt_of_lt_of_le a.isLt (Nat.pow_le_pow_right (by omega) (by omega)))
      rw [h1]
      have := a.isLt
      show ((a.toNat : Int) / 4294967296) = 0
      omega)
theorem Ev.shlU {k' : IntKind} {m : Int} (hx : ev n l x = some (U a)) (hy : ev n l y = some (.int k' m)) (h0 : 0 ≤ m) : Ev P w0 n l h ⟨dst, .binOp .shl tx x y tyy, ty, pos, aft, gd⟩ (U (a <<< m.toNat)) :=
  Ev.shl hx hy h0 (by
    rw [BitVec.toNat_shiftLeft, Nat.shiftLeft_eq, u32_wrap]
    show ((a.toNat : Int) * 2 ^ (min m.toNat 32)) % 4294967296 = _
    by_cases hm : m.toNat ≤ 32
    · rw [Nat.min_eq_left hm, Int.natCast_emod, Int.natCast_mul, Int.natCast_pow]; rfl
    · rw [Nat.min_eq_right (by omega)]
      have h1 : a.toNat * 2 ^ m.toNat % 2 ^ 32 = 0 := by
        obtain ⟨d, hd⟩ : ∃ d, m.toNat = 32 + d := ⟨m.toNat - 32, by omega⟩
        rw [hd, Nat.pow_add, show a.toNat * (2 ^ 32 * 2 ^ d) = 2 ^ 32 * (a.toNat * 2 ^ d) by rw [Nat.mul_left_comm]]
        exact Nat.mul_mod_right _ _
      rw [h1]
      show ((a.toNat : Int) * 4294967296) % 4294967296 = 0
      omega)
theorem Ev.convU {k : IntKind} {z : Int} {d : TypeDesc} (hx : ev n l x = some (.int k z)) (hs : P.underlying tx = some d) (hd : P.underlying tyy = some (.int .u32)) (hr : IntKind.u32.wrap z = a.toNat) : Ev P w0 n l h ⟨dst, .convert tx tyy x, ty, pos, aft, gd⟩ (U a) :=
  Ev.conv hx hs hd hr
theorem Ev.convBU {z : UInt8} {d : TypeDesc} (hx : ev n l x = some (B8 z)) (hs : P.underlying tx = some d) (hd : P.underlying tyy = some (.int .u32)) : Ev P w0 n l h ⟨dst, .convert tx tyy x, ty, pos, aft, gd⟩ (U (BitVec.ofNat 32 z.toNat)) :=
  Ev.conv hx hs hd (by
    have := z.toNat_lt
    rw [BitVec.toNat_ofNat, Nat.mod_eq_of_lt (by omega)]
    exact u32_in (by omega) (by omega))
end words
end
end Go.Fw
