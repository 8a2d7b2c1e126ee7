/-
  image.Same where an image is nil.
-/
import Derived.Test.YtglepciddhbmbaaImgK
namespace Go.Proofs.Ytglepciddhbmbaa
open Go.RowKit

set_option maxHeartbeats 400000 in
theorem same_nil_nil (w : World) : Calls Try.prog 28 #[.pointer none, .pointer none] w fun e w' => e = .returned (.bool true) ∧ w = w' := by
  go_enter Try.func28, Try.ntmps28
  go_wp2_with (go_at_call 31; refine (none_nil _).mono ?_; rintro e w' ⟨rfl, rfl⟩)
  go_ret
  exact ⟨rfl, rfl⟩
set_option maxHeartbeats 400000 in
theorem same_nil_some {base b g cap : Nat} {bs : List UInt8} {w : World} (h : Img base w b g cap bs) :
    Calls Try.prog 28 #[.pointer none, .pointer (some ⟨b, 0, none⟩)] w fun e w' => e = .returned (.bool false) ∧ w = w' := by
  have hc := h.cell
  clear h
  go_enter Try.func28, Try.ntmps28
  go_wp2_with (first | (go_at_call 31; (with_reducible refine (none_nil _).mono ?_); rintro e w' ⟨rfl, rfl⟩) | (go_at_call 31; (with_reducible refine (none_some _ _ _ _ _ (by assumption)).mono ?_); rintro e w' ⟨rfl, rfl⟩))
  go_ret
  exact ⟨rfl, rfl⟩
set_option maxHeartbeats 400000 in
theorem same_some_nil {base b g cap : Nat} {bs : List UInt8} {w : World} (h : Img base w b g cap bs) :
    Calls Try.prog 28 #[.pointer (some ⟨b, 0, none⟩), .pointer none] w fun e w' => e = .returned (.bool false) ∧ w = w' := by
  have hc := h.cell
  clear h
  go_enter Try.func28, Try.ntmps28
  go_wp2_with (first | (go_at_call 31; (with_reducible refine (none_nil _).mono ?_); rintro e w' ⟨rfl, rfl⟩) | (go_at_call 31; (with_reducible refine (none_some _ _ _ _ _ (by assumption)).mono ?_); rintro e w' ⟨rfl, rfl⟩))
  go_ret
  exact ⟨rfl, rfl⟩
/-- A write, granted or refused: what the image holds then. -/
theorem write_any {base b g cap : Nat} {bs : List UInt8} {w : World} (h : Img base w b g cap bs) (a : Nat) (ha : a < 4294967296) (n : Int) (v : Nat) :
    Calls Try.prog 21 #[.pointer (some ⟨b, 0, none⟩), .int .u32 a, .int .i64 n, .int .u32 v] w fun e w' => ∃ ys, e = .returned (.int .i64 (accErr bs.length a n)) ∧ Img base w' b g cap ys ∧ Only (fun k => k = g) w w' ∧ (accErr bs.length a n = 0 ∨ ys = bs) ∧ ys.length = bs.length := by
  by_cases hacc : accErr bs.length a n = 0
  · refine (write_yes h a n v hacc).mono fun e w' ⟨h1, h2, h3⟩ => ⟨_, by rw [hacc]; exact h1, h2, h3, .inl hacc, wr_length _ _ _ _ (accErr_fit hacc (by have := (okSize_mul h.ok).2; omega))⟩
  · refine (write_no h a ha n v hacc).mono fun e w' ⟨h1, h2⟩ => ⟨bs, h1, h.new h2, ?_, .inr rfl, rfl⟩
    exact Only.ofNew h2
end Go.Proofs.Ytglepciddhbmbaa
