/-
  SetLine whatever the number; lines compared; a line that is set, read again.
-/
import Derived.Test.YtglepciddhbmbaaArgOpen
import Derived.Test.YtglepciddhbmbaaArrEq
namespace Go.Proofs.Ytglepciddhbmbaa
open Go.RowKit

theorem u8v_ints (l : List UInt8) : l.map u8v = (l.map fun x => (x.toNat : Int)).map (Value.int .u8) := by simp [u8v, Function.comp_def]
theorem bytes_inj (l l' : List UInt8) : ((l.map fun x => (x.toNat : Int)) = l'.map fun x => (x.toNat : Int)) ↔ l = l' := by
  constructor
  · intro h
    have : ∀ l l' : List UInt8, ((l.map fun x => (x.toNat : Int)) = l'.map fun x => (x.toNat : Int)) → l = l' := by
      intro l
      induction l with
      | nil => intro l' h; cases l' <;> simp_all
      | cons x l ih =>
        intro l' h
        cases l' with
        | nil => simp at h
        | cons y l' =>
          simp only [List.map_cons, List.cons.injEq] at h
          have hxy : x = y := UInt8.toNat_inj.1 (by have := h.1; omega)
          rw [ih l' h.2, hxy]
    exact this l l' h
  · rintro rfl; rfl
theorem eq46 (w : World) (l l' : List UInt8) (hl : l.length = 16) (hl' : l'.length = 16) : (Op.equalIn 10000 46 (.agg (l.map u8v).toArray) (.agg (l'.map u8v).toArray)).run Try.prog w = .ok (decide (l = l')) w := by
  rw [u8v_ints, u8v_ints, run_equalIn_arr w 9998 Try.underlying46 Try.underlying5 size5 _ _ (by simp [hl]) (by simp [hl'])]
  congr 1
  exact decide_eq_decide.2 (bytes_inj l l')
theorem guard46 : Try.prog.eqGuardType Try.prog.depth 46 = false := by kernel_rfl

/-- The image behind SetLine. -/
def setSpec (bs : List UInt8) (a : Nat) (l : List UInt8) : List UInt8 := if bs.length / 16 ≤ a then bs else bs.take (16 * a) ++ (l ++ bs.drop (16 * a + 16))
theorem setSpec_length (bs : List UInt8) (a : Nat) (l : List UInt8) (hl : l.length = 16) : (setSpec bs a l).length = bs.length := by
  unfold setSpec
  split
  · rfl
  · simp [hl]; omega
theorem lineSpec_set (bs : List UInt8) (a o : Nat) (l : List UInt8) (hl : l.length = 16) (ho : o < bs.length / 16) : lineSpec (setSpec bs a l) o = if o = a then l else lineSpec bs o := by
  unfold lineSpec
  rw [setSpec_length bs a l hl, if_neg (by omega)]
  unfold setSpec
  by_cases ha : bs.length / 16 ≤ a
  · rw [if_pos ha, if_neg (by omega), if_neg (by omega)]
  · rw [if_neg ha]
    by_cases hoa : o = a
    · subst hoa
      have h1 : (bs.take (16 * o)).length = 16 * o := by simp; omega
      rw [if_pos rfl, List.drop_append, List.drop_eq_nil_of_le (by omega), h1, Nat.sub_self, List.drop_zero, List.nil_append, List.take_append, List.take_of_length_le (by omega), hl]
      simp
    · rw [if_neg hoa, if_neg (by omega)]
      have h1 : (bs.take (16 * a)).length = 16 * a := by simp; omega
      rcases Nat.lt_or_ge o a with h | h
      · rw [List.drop_append, List.take_append, List.length_drop, h1, List.drop_take, List.take_take, Nat.min_eq_left (by omega), show 16 - (16 * a - 16 * o) = 0 by omega]
        simp
      · rw [List.drop_append, List.drop_eq_nil_of_le (by omega), List.nil_append, h1, List.drop_append, List.drop_eq_nil_of_le (by omega), List.nil_append, hl, List.drop_drop]
        congr 2
        omega

theorem setline_any {base b g cap : Nat} {bs : List UInt8} {w : World} (h : Img base w b g cap bs) (a : Nat) (l : List UInt8) (hl : l.length = 16) :
    Calls Try.prog 24 #[.pointer (some ⟨b, 0, none⟩), .int .u32 a, lineV l] w fun e w' => e = .returned (.int .i64 (lineErr bs.length a)) ∧ Img base w' b g cap (setSpec bs a l) ∧ Only (fun k => k = g) w w' := by
  unfold lineErr setSpec
  by_cases ha : bs.length / 16 ≤ a
  · rw [if_pos ha, if_pos ha]
    exact (setline_no h a l ha).mono fun e w' ⟨h1, h2⟩ => ⟨h1, h.new h2, Only.ofNew h2⟩
  · rw [if_neg ha, if_neg ha]
    exact setline_yes h a l hl (by omega)
end Go.Proofs.Ytglepciddhbmbaa
