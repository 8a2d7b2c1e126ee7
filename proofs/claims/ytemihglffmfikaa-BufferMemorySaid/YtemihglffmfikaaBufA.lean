/-
  Stores, buffers as data.
-/
import Derived.Test.YtemihglffmfikaaFXround
import Derived.Test.YtemihglffmfikaaFXne
namespace Go.Proofs.Ytemihglffmfikaa
open Go.RowKit

/-- A store. -/
structure St where
  addr : Int
  width : Int
  value : Int
  ha : 0 ≤ addr ∧ addr < 4294967296
  hv : 0 ≤ value ∧ value < 4294967296
def mkS (a w v : Int) (ha : 0 ≤ a ∧ a < 4294967296 := by omega) (hv : 0 ≤ v ∧ v < 4294967296 := by omega) : St := ⟨a, w, v, ha, hv⟩
theorem St.ext_iff' (s t : St) : s = t ↔ s.addr = t.addr ∧ s.width = t.width ∧ s.value = t.value := by
  constructor
  · rintro rfl; simp
  · rintro ⟨h1, h2, h3⟩
    cases s; cases t
    simp only [St.mk.injEq]
    exact ⟨h1, h2, h3⟩
instance : DecidableEq St := fun s t => decidable_of_iff _ (St.ext_iff' s t).symm
def St.cells (s : St) : List Value := [.int .u32 s.addr, .int .i64 s.width, .int .u32 s.value]
def st0 : St := mkS 0 0 0
theorem st_one (s : St) : ∀ v ∈ s.cells, v.oneCell' = true := by
  intro v hv
  simp only [St.cells, List.mem_cons, List.not_mem_nil, or_false] at hv
  rcases hv with rfl | rfl | rfl <;> rfl
theorem st_eq (w : World) (s t : St) : (Op.equal 24 (.agg s.cells.toArray) (.agg t.cells.toArray)).run Try.prog w = .ok (decide (s = t)) w := by
  have h := run_equalIn_struct (P := Try.prog) w 9999 24 s.cells.toArray t.cells.toArray (by kernel_rfl) (by kernel_rfl)
  show (Op.equalIn (9999 + 1) 24 _ _).run Try.prog w = _
  rw [h]
  simp only [Program.fieldsOf, Try.underlying24, Op.eqFields]
  simp [go_sem, St.cells, St.ext_iff']
  by_cases a1 : s.addr = t.addr
  · by_cases a2 : s.width = t.width
    · by_cases a3 : s.value = t.value <;> simp [a1, a2, a3]
    · simp [a1, a2]
  · simp [a1]
def stE : Enc Try.prog St where
  T := 24
  n := 3
  cells := St.cells
  len := fun _ => rfl
  one := st_one
  pos := by decide
theorem stER : stE.Rec where
  eq := st_eq
  calm := by kernel_rfl
/-- A store that waits. -/
def wE : Enc Try.prog St where
  T := 60
  n := 3
  cells := St.cells
  len := fun _ => rfl
  one := st_one
  pos := by decide
theorem u32r (x : Int) : 0 ≤ IntKind.u32.wrap x ∧ IntKind.u32.wrap x < 4294967296 := by rw [u32m]; omega

/-! ### Which stores may wait -/
def wOk (n : Int) : Bool := decide (n = 1) || decide (n = 2) || decide (n = 4)
theorem w_cases (n : Int) : n = 1 ∨ n = 2 ∨ n = 4 ∨ wOk n = false := by
  by_cases h : wOk n = true
  · simp [wOk] at h; omega
  · right; right; right; simpa using h
theorem wOk_no {n : Int} (h : wOk n = false) : n ≠ 1 ∧ n ≠ 2 ∧ n ≠ 4 := by
  simp [wOk] at h; omega
def okV (s : St) : Bool := (decide (s.width = 1) && decide (s.value < 256)) || (decide (s.width = 2) && decide (s.value < 65536)) || decide (s.width = 4)
def chkS (s : St) : Int := if okV s then (if s.addr % s.width = 0 then 0 else 120) else 2
abbrev VSt := { s : St // chkS s = 0 }
theorem VSt.spec (s : VSt) : (s.1.width = 1 ∧ s.1.value < 256 ∨ s.1.width = 2 ∧ s.1.value < 65536 ∨ s.1.width = 4) ∧ s.1.addr % s.1.width = 0 := by
  have h := s.2
  unfold chkS okV at h
  split at h
  · rename_i h1
    split at h
    · rename_i h2
      simp at h1
      exact ⟨by omega, h2⟩
    · omega
  · omega
def v0 : VSt := ⟨mkS 0 1 0, by decide⟩
theorem shr_at (m : Int) (j : Nat) (h : j ≤ 32) : m.fdiv (2 ^ min j IntKind.u32.bits) = m / 2 ^ j := by
  rw [Int.fdiv_eq_ediv_of_nonneg _ (Int.le_of_lt (Int.pow_pos (by decide))), Nat.min_eq_left (by simpa [IntKind.bits] using h)]

/-! ### The byte that a store has -/
def hasB (s : St) (at_ : Int) : Int := if at_ - s.addr < 0 ∨ s.width ≤ at_ - s.addr then -1 else s.value / 256 ^ (at_ - s.addr).toNat % 256

/-! ### A buffer -/
structure BufS where
  r0 : St
  r1 : St
  r2 : St
  r3 : St
  first : Nat
  n : Nat
  deriving DecidableEq
def BufS.cells (x : BufS) : List Value := [.int .u32 x.r0.addr, .int .i64 x.r0.width, .int .u32 x.r0.value, .int .u32 x.r1.addr, .int .i64 x.r1.width, .int .u32 x.r1.value, .int .u32 x.r2.addr, .int .i64 x.r2.width, .int .u32 x.r2.value,
  .int .u32 x.r3.addr, .int .i64 x.r3.width, .int .u32 x.r3.value, .int .i64 ((x.first : Nat) : Int), .int .i64 ((x.n : Nat) : Int)]
def bufE : Enc Try.prog BufS where
  T := 63
  n := 14
  cells := BufS.cells
  len := fun _ => rfl
  one := fun x v hv => by
    simp only [BufS.cells, List.mem_cons, List.not_mem_nil, or_false] at hv
    rcases hv with rfl | rfl | rfl | rfl | rfl | rfl | rfl | rfl | rfl | rfl | rfl | rfl | rfl | rfl <;> rfl
  pos := by decide
def buf0 : BufS := ⟨st0, st0, st0, st0, 0, 0⟩
def BufS.get (x : BufS) : Nat → St
  | 0 => x.r0
  | 1 => x.r1
  | 2 => x.r2
  | _ => x.r3
def BufS.set (x : BufS) (i : Nat) (s : St) : BufS :=
  match i with
  | 0 => { x with r0 := s }
  | 1 => { x with r1 := s }
  | 2 => { x with r2 := s }
  | _ => { x with r3 := s }
section
variable {x : BufS} {i j : Nat} {s : St}
theorem four {p : Nat → Prop} (h0 : p 0) (h1 : p 1) (h2 : p 2) (h3 : p 3) {i : Nat} (hi : i < 4) : p i := by
  match i, hi with
  | 0, _ => exact h0
  | 1, _ => exact h1
  | 2, _ => exact h2
  | 3, _ => exact h3
theorem get_set (hi : i < 4) (hj : j < 4) : (x.set i s).get j = if i = j then s else x.get j := by
  revert hj
  refine four (p := fun i => j < 4 → (x.set i s).get j = if i = j then s else x.get j) ?_ ?_ ?_ ?_ hi <;> intro hj <;>
    refine four (p := fun j => BufS.get (BufS.set x _ s) j = if _ = j then s else x.get j) ?_ ?_ ?_ ?_ hj <;> rfl
theorem set_first : (x.set i s).first = x.first := by unfold BufS.set; split <;> rfl
theorem set_n : (x.set i s).n = x.n := by unfold BufS.set; split <;> rfl
theorem buf_part (hi : i < 4) : ((bufE.arr x).toList.drop (0 + i * 3)).take 3 = (x.get i).cells := by
  refine four (p := fun i => ((bufE.arr x).toList.drop (0 + i * 3)).take 3 = (x.get i).cells) ?_ ?_ ?_ ?_ hi <;> rfl
theorem buf_put (hi : i < 4) : ((bufE.arr x).toList.take (0 + i * 3) ++ (wE.arr s).toList ++ (bufE.arr x).toList.drop (0 + i * 3 + 3)).toArray = bufE.arr (x.set i s) := by
  refine four (p := fun i => ((bufE.arr x).toList.take (0 + i * 3) ++ (wE.arr s).toList ++ (bufE.arr x).toList.drop (0 + i * 3 + 3)).toArray = bufE.arr (x.set i s)) ?_ ?_ ?_ ?_ hi <;> rfl
end
/-- Which stores a buffer has. -/
structure BufOf (x : BufS) (l : List VSt) : Prop where
  first : x.first < 4
  n : x.n = l.length
  most : l.length ≤ 4
  el : ∀ k, k < l.length → x.get ((x.first + k) % 4) = (l.getD k v0).1
theorem BufOf.nil : BufOf buf0 [] := ⟨by decide, rfl, by decide, fun k hk => absurd hk (by simp)⟩
section
variable {x : BufS} {l : List VSt}
theorem BufOf.push (h : BufOf x l) (s : VSt) (hl : l.length < 4) : BufOf { x.set ((x.first + x.n) % 4) s.1 with n := x.n + 1 } (l ++ [s]) := by
  have h1 := h.first
  have h2 := h.n
  refine ⟨by show (x.set _ _).first < 4; rw [set_first]; exact h1, by simp [h2], by simp; omega, fun k hk => ?_⟩
  show (x.set ((x.first + x.n) % 4) s.1).get (((x.set ((x.first + x.n) % 4) s.1).first + k) % 4) = _
  rw [set_first, get_set (Nat.mod_lt _ (by decide)) (Nat.mod_lt _ (by decide))]
  simp only [List.length_append, List.length_cons, List.length_nil] at hk
  by_cases hkl : k < l.length
  · rw [if_neg (by omega), h.el k hkl]
    simp [List.getD, List.getElem?_append_left hkl]
  · obtain rfl : k = l.length := by omega
    rw [if_pos (by omega)]
    simp [List.getD]
theorem BufOf.pop (h : BufOf x l) (hl : 0 < l.length) : BufOf { x.set ((x.first + 0) % 4) st0 with first := (x.first + 1) % 4, n := x.n - 1 } l.tail := by
  have h1 := h.first
  have h2 := h.n
  have h3 := h.most
  refine ⟨Nat.mod_lt _ (by decide), by simp [h2], by simp; omega, fun k hk => ?_⟩
  simp at hk
  show (x.set ((x.first + 0) % 4) st0).get (((x.first + 1) % 4 + k) % 4) = _
  rw [get_set (Nat.mod_lt _ (by decide)) (Nat.mod_lt _ (by decide)), if_neg (by omega), show ((x.first + 1) % 4 + k) % 4 = (x.first + (k + 1)) % 4 by omega, h.el (k + 1) (by omega)]
  simp [List.getD]
end
theorem tmod_nat (a b : Nat) : Int.tmod ((a : Nat) : Int) ((b : Nat) : Int) = ((a % b : Nat) : Int) := rfl
theorem el32 : ElemI stE 32 24 := ⟨Try.underlying32, by
  obtain ⟨i0, hi, hz0, hz1, hz2⟩ := info_parts (show (Try.prog.info? 24).map (fun i => (i.zero, i.size, i.bytes)) = some (some (.agg (stE.arr st0)), 3, 24) by kernel_rfl)
  exact ⟨i0, _, hi, hz0, hz1, hz2, by rw [show (Value.agg (stE.arr st0)).cells = stE.arr st0 from rfl, stE.size]⟩⟩
/-! ### Calls -/
structure BAct where
  what : Int
  st : St
  deriving DecidableEq
def BAct.cells (a : BAct) : List Value := .int .i64 a.what :: a.st.cells
def actE : Enc Try.prog BAct where
  T := 48
  n := 4
  cells := BAct.cells
  len := fun _ => rfl
  one := fun a v hv => by
    simp only [BAct.cells, List.mem_cons] at hv
    rcases hv with rfl | hv
    · rfl
    · exact st_one _ v hv
  pos := by decide
def act0 : BAct := ⟨0, st0⟩
end Go.Proofs.Ytemihglffmfikaa
