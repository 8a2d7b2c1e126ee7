/-
  More operations, one small law each: conversions of integers, shifts, masks; elements of arrays; stores of several cells into the middle of a block. Over tables.
-/
import Derived.Test.YtdjgfkjcpalihaaFXrow
namespace Go.Proofs.Ytdjgfkjcpalihaa
open Go.RowKit

section
variable {P : Program} {w : World} {ev : Operand → Value} {o : Oper} {x y z : Operand} {k k0 : IntKind} {m n r : Int} {v u : Value}
theorem x_convert {S D : TypeId} {d : TypeDesc} (hS : P.underlying S = some d) (hD : P.underlying D = some (.int k)) (ho : o.op = .convert S D x) (hx : ev x = .int k0 m) (hr : k.wrap m = r) : (execOp ev o).run P w = .ok (.value (.int k r)) w := by
  subst hr
  simp [execOp, ho, hx, convert, run_underlying hS, run_underlying hD, Conv.intToInt]
theorem x_shr {T T' : TypeId} (ho : o.op = .binOp .shr T x y T') (hx : ev x = .int k m) (hy : ev y = .int k0 n) (h0 : 0 ≤ n) (hr : m.fdiv (2 ^ min n.toNat k.bits) = r) : (execOp ev o).run P w = .ok (.value (.int k r)) w := by
  subst hr
  simp [execOp, ho, hx, hy, eqGuard, binOp, Op.shift, show ¬ n < 0 by omega]
theorem x_shl {T T' : TypeId} (ho : o.op = .binOp .shl T x y T') (hx : ev x = .int k m) (hy : ev y = .int k0 n) (h0 : 0 ≤ n) (hr : k.wrap (m * 2 ^ min n.toNat k.bits) = r) : (execOp ev o).run P w = .ok (.value (.int k r)) w := by
  subst hr
  simp [execOp, ho, hx, hy, eqGuard, binOp, Op.shift, show ¬ n < 0 by omega]
theorem x_and {T T' : TypeId} (ho : o.op = .binOp .and T x y T') (hx : ev x = .int k m) (hy : ev y = .int k n) (hr : k.wrap (BitVec.ofInt k.bits m &&& BitVec.ofInt k.bits n).toNat = r) : (execOp ev o).run P w = .ok (.value (.int k r)) w := by
  subst hr
  simp [execOp, ho, hx, hy, eqGuard, binOp, Op.intBits]
theorem x_or {T T' : TypeId} (ho : o.op = .binOp .or T x y T') (hx : ev x = .int k m) (hy : ev y = .int k n) (hr : k.wrap (BitVec.ofInt k.bits m ||| BitVec.ofInt k.bits n).toNat = r) : (execOp ev o).run P w = .ok (.value (.int k r)) w := by
  subst hr
  simp [execOp, ho, hx, hy, eqGuard, binOp, Op.intBits]
theorem u64w {x r : Int} (h : x = r) (hb : 0 ≤ r ∧ r < 18446744073709551616) : IntKind.u64.wrap x = r := by
  subst h; simp [IntKind.wrap, IntKind.signed, IntKind.bits]; omega
theorem u32w {x r : Int} (h : x = r) (hb : 0 ≤ r ∧ r < 4294967296) : IntKind.u32.wrap x = r := by
  subst h; simp [IntKind.wrap, IntKind.signed, IntKind.bits]; omega
theorem u8w {x r : Int} (h : x = r) (hb : 0 ≤ r ∧ r < 256) : IntKind.u8.wrap x = r := by
  subst h; simp [IntKind.wrap, IntKind.signed, IntKind.bits]; omega
theorem u32m (x : Int) : IntKind.u32.wrap x = x % 4294967296 := by simp [IntKind.wrap, IntKind.signed, IntKind.bits]
theorem u8m (x : Int) : IntKind.u8.wrap x = x % 256 := by simp [IntKind.wrap, IntKind.signed, IntKind.bits]
theorem u64m (x : Int) : IntKind.u64.wrap x = x % 18446744073709551616 := by simp [IntKind.wrap, IntKind.signed, IntKind.bits]
theorem u32q {m n : Int} (h0 : 0 ≤ m ∧ m < 4294967296) (hn : 0 < n) : IntKind.u32.wrap (m.tdiv n) = m / n := by
  rw [Int.tdiv_eq_ediv_of_nonneg h0.1]
  have h1 := Int.ediv_nonneg h0.1 (Int.le_of_lt hn)
  have h2 := Int.ediv_le_self n h0.1
  exact u32w rfl (by omega)
theorem rem_nn {m n : Int} (h : 0 ≤ m) : m.tmod n = m % n := Int.tmod_eq_emod_of_nonneg h
/-- 'x & (2^j - 1)', of a number of 32 bits. -/
theorem and_mask32 {m : Int} {j : Nat} (h0 : 0 ≤ m) (h1 : m < 4294967296) (hj : j ≤ 32) : IntKind.u32.wrap (BitVec.ofInt IntKind.u32.bits m &&& BitVec.ofInt IntKind.u32.bits ((2 : Int) ^ j - 1)).toNat = m % 2 ^ j := by
  obtain ⟨a, rfl⟩ := Int.eq_ofNat_of_zero_le h0
  have hp : (1 : Nat) ≤ 2 ^ j := Nat.one_le_two_pow
  have hple : (2 : Nat) ^ j ≤ 2 ^ 32 := Nat.pow_le_pow_right (by omega) hj
  have e : ((2 : Int) ^ j - 1) = ((2 ^ j - 1 : Nat) : Int) := by
    rw [Int.natCast_sub hp]; simp
  have e2 : (BitVec.ofInt 32 ((a : Nat) : Int)) = BitVec.ofNat 32 a := BitVec.ofInt_natCast ..
  have e3 : (BitVec.ofInt 32 (((2 ^ j - 1 : Nat) : Int))) = BitVec.ofNat 32 (2 ^ j - 1) := BitVec.ofInt_natCast ..
  rw [e]
  show IntKind.u32.wrap ((BitVec.ofInt 32 ((a : Nat) : Int)) &&& (BitVec.ofInt 32 (((2 ^ j - 1 : Nat) : Int)))).toNat = _
  rw [e2, e3, BitVec.toNat_and, BitVec.toNat_ofNat, BitVec.toNat_ofNat, Nat.mod_eq_of_lt (show a < 2 ^ 32 by omega), Nat.mod_eq_of_lt (show 2 ^ j - 1 < 2 ^ 32 by omega), Nat.and_two_pow_sub_one_eq_mod]
  have hlt : a % 2 ^ j < 2 ^ j := Nat.mod_lt _ (by omega)
  refine u32w (by simp) ?_
  omega
/-- An element of an array. -/
theorem x_indexArr {t e n s g q j : Nat} (hu : P.underlying t = some (.array n e)) (hs : (P.info? e).map (·.size) = some s) (ho : o.op = .indexAddr t x y) (hx : ev x = .pointer (some ⟨g, q, none⟩)) (hy : ev y = .int k ((j : Nat) : Int)) (hj : j < n)
    {q' : Nat} (hq : q + j * s = q') : (execOp ev o).run P w = .ok (.value (.pointer (some ⟨g, q', none⟩))) w := by
  subst hq
  cases h3 : P.info? e with
  | none => simp [h3] at hs
  | some i =>
    simp only [h3, Option.map_some, Option.some.injEq] at hs
    simp [execOp, ho, hx, hy, Instr.indexAt, run_underlying hu, asIntOf, sizeOf, typeInfo, h3, hs, Addr.add_mid, hj, Instr.sureAddr]
end
section
variable {P : Program} {N : Nat × List Deferred} {T : List (Nat × Value)} {a : Act} {w : World} {Q : Exit → Act → World → Prop} {ops : Array Oper} {rest : List Oper} {o : Oper} {d : Nat}
/-- A store of several cells into the middle of a block. -/
theorem fx_storeAt {t b q n : Nat} {tb : TypeId} {cs cs' vs : Array Value} {x y : Operand} (hs : (P.info? t).map (·.size) = some n) (hw : Region.wanted o (yielded ops a.tmps) = true) (hd : o.dst = none) (ho : o.op = .store t x y)
    (hx : a.eval x = .pointer (some ⟨b, q, none⟩)) (hy : a.eval y = .agg vs) (h1 : vs.all (·.oneCell') = true) (hB : Blk w b tb cs) (hn : vs.size = n) (hq : q + n ≤ cs.size) (hcs : (cs.toList.take q ++ vs.toList ++ cs.toList.drop (q + n)).toArray = cs')
    (next : ∀ w1, Only (fun k => k = b) w w1 → Blk w1 b tb cs' → wpList P ops Q rest a w1) : wpList P ops Q (o :: rest) a w := by
  refine fx_eff (w1 := w.setRow b cs') hw hd ?_ (next _ ((Only.refl (fun k => k = b) w).setRow (g := b) (fun _ => rfl) _) (setRow_self' hB))
  subst hcs hn
  cases h3 : P.info? t with
  | none => simp [h3] at hs
  | some inf =>
    simp only [h3, Option.map_some, Option.some.injEq] at hs
    have := run_storeCells_at P b q tb vs.toList 0 cs w hB (by simpa using hq) (fun v hv => by
      rw [Array.all_eq_true_iff_forall_mem] at h1
      exact h1 v (Array.mem_toList_iff.1 hv))
    simp only [Nat.add_zero, Array.length_toList] at this
    simp only [List.append_assoc] at this
    simp [execOp, ho, hx, hy, Instr.storeAt, Instr.sureAddr, storeVar, sizeOf, typeInfo, h3, hs, Value.cells]
    rw [this]
    rfl
end
end Go.Proofs.Ytdjgfkjcpalihaa
