/-
  Messages as data.
-/
import Derived.Test.YtdpkeabmfhnfiaaFXheld
namespace Go.Proofs.Ytdpkeabmfhnfiaa
open Go.RowKit

/-- A message. -/
structure Msg where
  kind : Int
  src : Int
  dst : Int
  line : Int
  bs : { l : List Int // l.length = 16 }
  deriving DecidableEq
def Msg.cells (m : Msg) : List Value := .int .i64 m.kind :: .int .i64 m.src :: .int .i64 m.dst :: .int .u32 m.line :: m.bs.1.map (Value.int .u8)

theorem Msg.eq_iff (m m' : Msg) : m = m' ↔ m.kind = m'.kind ∧ m.src = m'.src ∧ m.dst = m'.dst ∧ m.line = m'.line ∧ m.bs.1 = m'.bs.1 := by
  constructor
  · rintro rfl; simp
  · rintro ⟨h1, h2, h3, h4, h5⟩
    cases m; cases m'
    simp only [Msg.mk.injEq]
    exact ⟨h1, h2, h3, h4, Subtype.ext h5⟩
theorem size5' : (Try.prog.info? 5).map (·.size) = some 1 := by kernel_rfl
theorem agg24 : aggT Try.prog 24 16 = true := by kernel_rfl

theorem msg_eq (w : World) (m m' : Msg) : (Op.equal 26 (.agg m.cells.toArray) (.agg m'.cells.toArray)).run Try.prog w = .ok (decide (m = m')) w := by
  have h := run_equalIn_struct (P := Try.prog) w 9999 26 m.cells.toArray m'.cells.toArray (by kernel_rfl) (by kernel_rfl)
  have ha : (Op.equalIn 9999 24 (.agg (m.bs.1.map (Value.int .u8)).toArray) (.agg (m'.bs.1.map (Value.int .u8)).toArray)).run Try.prog w = .ok (decide (m.bs.1 = m'.bs.1)) w :=
    run_equalIn_arr (P := Try.prog) w 9997 Try.underlying24 Try.underlying5 size5' m.bs.1 m'.bs.1 m.bs.2 m'.bs.2
  have t1 : List.take 16 (m.bs.1.map (Value.int .u8)) = m.bs.1.map (Value.int .u8) := List.take_of_length_le (by simp [m.bs.2])
  have t2 : List.take 16 (m'.bs.1.map (Value.int .u8)) = m'.bs.1.map (Value.int .u8) := List.take_of_length_le (by simp [m'.bs.2])
  show (Op.equalIn (9999 + 1) 26 _ _).run Try.prog w = _
  rw [h]
  simp only [Program.fieldsOf, Try.underlying26, Op.eqFields]
  simp [go_sem, Msg.cells, Msg.eq_iff, t1, t2]
  by_cases a1 : m.kind = m'.kind
  · by_cases a2 : m.src = m'.src
    · by_cases a3 : m.dst = m'.dst
      · by_cases a4 : m.line = m'.line
        · simp only [a1, a2, a3, a4, if_true, ha, Result.andThen]
          by_cases a5 : m.bs.1 = m'.bs.1 <;> simp [a5]
        · simp [a1, a2, a3, a4]
      · simp [a1, a2, a3]
    · simp [a1, a2]
  · simp [a1]
theorem Msg.len (m : Msg) : m.cells.length = 20 := by simp [Msg.cells, m.bs.2]
theorem Msg.one (m : Msg) : ∀ v ∈ m.cells, v.oneCell' = true := by
  intro v hv
  simp only [Msg.cells, List.mem_cons, List.mem_map] at hv
  rcases hv with rfl | rfl | rfl | rfl | ⟨a, _, rfl⟩ <;> rfl
def msgE : Enc Try.prog Msg where
  T := 26
  n := 20
  cells := Msg.cells
  len := Msg.len
  one := Msg.one
  pos := by decide
theorem msgER : msgE.Rec where
  eq := msg_eq
  calm := by kernel_rfl
/-- The message of zeros. -/
def msg0 : Msg := ⟨0, 0, 0, 0, ⟨List.replicate 16 0, rfl⟩⟩
def bs0 : { l : List Int // l.length = 16 } := ⟨List.replicate 16 0, rfl⟩

/-! ### The bytes by themselves -/
abbrev Bs := { l : List Int // l.length = 16 }
def Bs.cells (b : Bs) : List Value := b.1.map (Value.int .u8)
def bsE : Enc Try.prog Bs where
  T := 24
  n := 16
  cells := Bs.cells
  len := fun b => by simp [Bs.cells, b.2]
  one := fun b v hv => by
    obtain ⟨a, _, rfl⟩ := List.mem_map.1 hv
    rfl
  pos := by decide
theorem bsER : bsE.Rec where
  eq := fun w x y => by
    have h := run_equal_arr (P := Try.prog) w Try.underlying24 Try.underlying5 size5' x.1 y.1 x.2 y.2
    refine (show _ = _ from h).trans ?_
    congr 1
    exact decide_eq_decide.2 Subtype.ext_iff.symm
  calm := by kernel_rfl
/-! ### Calls, and integers -/
structure NAct where
  what : Int
  msg : Msg
  pick : Int
  deriving DecidableEq
def NAct.cells (a : NAct) : List Value := .int .i64 a.what :: (a.msg.cells ++ [.int .i64 a.pick])
def actE : Enc Try.prog NAct where
  T := 40
  n := 22
  cells := NAct.cells
  len := fun a => by simp [NAct.cells, a.msg.len]
  one := fun a v hv => by
    simp only [NAct.cells, List.mem_cons, List.mem_append, List.not_mem_nil, or_false] at hv
    rcases hv with rfl | hv | rfl
    · rfl
    · exact a.msg.one v hv
    · rfl
  pos := by decide
def act0 : NAct := ⟨0, msg0, 0⟩
theorem act_msg (a : NAct) : ((actE.cells a).drop 1).take 20 = msgE.cells a.msg := by
  show (a.msg.cells ++ [_]).take 20 = a.msg.cells
  rw [List.take_append_of_le_length (by rw [a.msg.len]; omega), List.take_of_length_le (by rw [a.msg.len]; omega)]
def intE : Enc Try.prog Int where
  T := 3
  n := 1
  cells := fun x => [.int .i64 x]
  len := fun _ => rfl
  one := fun x v hv => by
    simp at hv
    subst hv
    rfl
  pos := by decide
theorem msg_bs (m : Msg) : ((msgE.arr m).toList.drop 4).take 16 = bsE.cells m.bs := by
  rw [msgE.toList]
  show ((m.bs.1.map (Value.int .u8)).take 16) = m.bs.1.map (Value.int .u8)
  exact List.take_of_length_le (by simp [m.bs.2])

/-! ### Which messages may be -/
def isCache (n : Int) : Bool := decide (0 ≤ n) && decide (n ≤ 3)
def homeK (k : Int) : Bool := decide (k = 1) || decide (k = 2) || decide (k = 3) || decide (k = 11) || decide (k = 12) || decide (k = 13)
def cacheK (k : Int) : Bool := decide (k = 4) || decide (k = 5) || decide (k = 6) || decide (k = 7) || decide (k = 8) || decide (k = 9) || decide (k = 10)
def bytesK (k : Int) : Bool := decide (k = 3) || decide (k = 11) || decide (k = 8) || decide (k = 9) || decide (k = 10)
def goodMsg (m : Msg) : Bool := ((homeK m.kind && decide (m.dst = 4) && isCache m.src) || (cacheK m.kind && decide (m.src = 4) && isCache m.dst)) && (bytesK m.kind || decide (m.bs = bs0))
def chk (m : Msg) : Int := if goodMsg m then 0 else 2
theorem home_not (k : Int) (h : homeK k = true) : cacheK k = false := by
  simp [homeK, cacheK] at *
  omega
def isK (k : Int) : Bool := decide (1 ≤ k) && decide (k ≤ 13)
theorem isK_iff (k : Int) : isK k = (homeK k || cacheK k) := by
  rw [Bool.eq_iff_iff]
  simp [isK, homeK, cacheK]
  omega
/-- What all kinds want. -/
def wantsEs : Array MapEntry := #[⟨.int .i64 1, .agg #[.bool true, .bool false], 0⟩, ⟨.int .i64 2, .agg #[.bool true, .bool false], 1⟩, ⟨.int .i64 3, .agg #[.bool true, .bool true], 2⟩, ⟨.int .i64 11, .agg #[.bool true, .bool true], 3⟩,
  ⟨.int .i64 12, .agg #[.bool true, .bool false], 4⟩, ⟨.int .i64 13, .agg #[.bool true, .bool false], 5⟩, ⟨.int .i64 4, .agg #[.bool false, .bool false], 6⟩, ⟨.int .i64 5, .agg #[.bool false, .bool false], 7⟩, ⟨.int .i64 6, .agg #[.bool false, .bool false], 8⟩,
  ⟨.int .i64 7, .agg #[.bool false, .bool false], 9⟩, ⟨.int .i64 8, .agg #[.bool false, .bool true], 10⟩, ⟨.int .i64 9, .agg #[.bool false, .bool true], 11⟩, ⟨.int .i64 10, .agg #[.bool false, .bool true], 12⟩]
theorem wants_find (k : Int) : (Instr.findNow (.int .i64) (.int .i64 k) wantsEs.toList 0).map (fun q => (match q with | some (_, u) => u | none => .agg #[.bool false, .bool false], q.isSome)) = some (.agg #[.bool (homeK k), .bool (bytesK k)], isK k) := by
  by_cases h : k = 1 ∨ k = 2 ∨ k = 3 ∨ k = 4 ∨ k = 5 ∨ k = 6 ∨ k = 7 ∨ k = 8 ∨ k = 9 ∨ k = 10 ∨ k = 11 ∨ k = 12 ∨ k = 13
  · rcases h with rfl | rfl | rfl | rfl | rfl | rfl | rfl | rfl | rfl | rfl | rfl | rfl | rfl <;> rfl
  · have e1 : isK k = false := by simp [isK]; omega
    have e2 : homeK k = false := by simp [homeK]; omega
    have e3 : bytesK k = false := by simp [bytesK]; omega
    rw [e1, e2, e3]
    have hn : ∀ c : Int, c = 1 ∨ c = 2 ∨ c = 3 ∨ c = 4 ∨ c = 5 ∨ c = 6 ∨ c = 7 ∨ c = 8 ∨ c = 9 ∨ c = 10 ∨ c = 11 ∨ c = 12 ∨ c = 13 → (k == c) = false := by
      intro c hc
      simp
      omega
    simp [wantsEs, Instr.findNow, Instr.sameNow, hn]
end Go.Proofs.Ytdpkeabmfhnfiaa
