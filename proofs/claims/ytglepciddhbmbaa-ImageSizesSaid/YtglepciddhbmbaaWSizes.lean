/-
  The walk of ImageSizes.
-/
import Derived.Test.YtglepciddhbmbaaImgD
namespace Go.Proofs.Ytglepciddhbmbaa
open Go.RowKit

set_option maxHeartbeats 1000000 in
theorem walk_ImageSizes (n : Int) (_hw : (Lit.int .i64 n).wf = true) (w : World) :
    Calls Try.prog 3 #[.int .i64 n] w fun e w' => e = .returned (.bool true) ∧ Below w.heap.size w w' := by
  by_cases h : okSize n = true
  · have hr := okSize_range h
    obtain ⟨k, rfl⟩ := Int.eq_ofNat_of_zero_le (show 0 ≤ n by omega)
    have Hk := Lib.hid h
    clear h
    have HS : Hid (∀ w, Calls Try.prog 12 #[.int .i64 k] w fun e w' => e = .returned (.bool true) ∧ w = w') := by
      intro w
      have := refsize_c k w
      rwa [Hk.out] at this
    have hsz : Hid (∀ {base b g cap : Nat} {w : World}, Img base w b g cap (List.replicate k 0) → Calls Try.prog 15 #[.pointer (some ⟨b, 0, none⟩)] w fun e w' => e = .returned (.int .i64 k) ∧ w = w') := by
      intro base b g cap w h
      have := size_some b _ _ _ w h.cell
      rwa [List.length_replicate] at this
    go_enter Try.func3, Try.ntmps3
    go_wp2_with (first | (go_at_call 11; refine (new_yes k _ Hk.out).mono ?_; rintro e w1 ⟨b, g, cap, rfl, hi, hn⟩; have HI1 := Lib.hid hi; have HN1 := Lib.hid hn; clear hi hn) | (go_at_call 12; refine (HS.out _).mono ?_; rintro e w' ⟨rfl, rfl⟩) | (go_at_call 13; refine (num_c _ _).mono ?_; rintro e w' ⟨rfl, rfl⟩) | (go_at_call 15; refine (hsz.out HI1.out).mono ?_; rintro e w' ⟨rfl, rfl⟩) | (go_at_call 14; refine (works_c _).mono ?_; rintro e w2 ⟨rfl, hn⟩; have HN2 := Lib.hid hn; clear hn))
    go_ret
    exact ⟨rfl, (HN1.out.tr HN2.out).nb⟩
  · have h' : okSize n = false := by simpa using h
    clear h
    have Hk := Lib.hid h'
    clear h'
    have HS : Hid (∀ w, Calls Try.prog 12 #[.int .i64 n] w fun e w' => e = .returned (.bool false) ∧ w = w') := by
      intro w
      have := refsize_c n w
      rwa [Hk.out] at this
    go_enter Try.func3, Try.ntmps3
    go_wp2_with (first | (go_at_call 11; refine (new_no n _ Hk.out).mono ?_; rintro e w1 ⟨rfl, rfl⟩) | (go_at_call 12; refine (HS.out _).mono ?_; rintro e w' ⟨rfl, rfl⟩) | (go_at_call 13; refine (num_c _ _).mono ?_; rintro e w' ⟨rfl, rfl⟩) | (go_at_call 14; refine (works_c _).mono ?_; rintro e w2 ⟨rfl, hn⟩; have HN2 := Lib.hid hn; clear hn))
    go_ret
    exact ⟨rfl, HN2.out.nb⟩
end Go.Proofs.Ytglepciddhbmbaa
