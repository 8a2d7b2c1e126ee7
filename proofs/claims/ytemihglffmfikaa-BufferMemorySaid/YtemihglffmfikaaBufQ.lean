/-
  The document's way to tell what a load has, and the code's: the same.
-/
import Derived.Test.YtemihglffmfikaaBufP
namespace Go.Proofs.Ytemihglffmfikaa
open Go.RowKit
/-- What the document's count of bytes says of one store. -/
def AccSays (s : St) (a w : Int) (p : Int × Int) : Prop := (p.2 = w → fwd1 a w s = some (p.1, 1)) ∧ (p.2 ≠ w → 0 < p.2 → fwd1 a w s = some (0, 2)) ∧ (p.2 ≠ w → ¬ 0 < p.2 → fwd1 a w s = none)
theorem hasB_off (s : St) (d k : Int) : hasB s (s.addr + d + k) = if d + k < 0 ∨ s.width ≤ d + k then -1 else s.value / 256 ^ (d + k).toNat % 256 := by
  unfold hasB
  rw [show s.addr + d + k - s.addr = d + k by omega]
theorem acc_out {s : St} {d w : Int} (hw : w = 1 ∨ w = 2 ∨ w = 4) (hd : d ≤ -w ∨ s.width ≤ d) : AccSays s (s.addr + d) w (accF s (s.addr + d) w w.toNat) := by
  have h0 : ∀ k : Int, 0 ≤ k → k < w → ¬ 0 ≤ hasB s (s.addr + d + k) := by
    intro k h1 h2
    rw [hasB_off, if_pos (by omega)]
    omega
  have e : ∀ q : Nat, (q : Int) ≤ w → accF s (s.addr + d) w q = (0, 0) := by
    intro q
    induction q with
    | zero => intro _; rfl
    | succ q ih =>
      intro hq
      rw [accF_no (h0 _ (by omega) (by omega)), ih (by omega)]
  rw [e w.toNat (by omega)]
  refine ⟨fun h => by simp at h; omega, fun _ h => by simp at h, fun _ _ => fwd1_none (by omega)⟩
theorem acc_in {s : St} {d w : Int} (hw : w = 1 ∨ w = 2 ∨ w = 4) (hs : s.width = 1 ∧ s.value < 256 ∨ s.width = 2 ∧ s.value < 65536 ∨ s.width = 4) (h1 : -w < d) (h2 : d < s.width) : AccSays s (s.addr + d) w (accF s (s.addr + d) w w.toNat) := by
  have hv := s.hv
  have hd : d = -3 ∨ d = -2 ∨ d = -1 ∨ d = 0 ∨ d = 1 ∨ d = 2 ∨ d = 3 := by omega
  have hh := hasB_off s d
  have nn : ∀ z : Int, 0 ≤ z % 256 := fun z => Int.emod_nonneg z (by decide)
  have sb : ∀ k : Int, s.addr + k - s.addr = k := fun k => by omega
  have t1 : (1 : Int).toNat = 1 := rfl
  have t2 : (2 : Int).toNat = 2 := rfl
  have t4 : (4 : Int).toNat = 4 := rfl
  have e0 : ∀ n : Nat, s.value.fdiv (2 ^ n) = s.value / 2 ^ n := fun n => Int.fdiv_eq_ediv_of_nonneg _ (Int.le_of_lt (Int.pow_pos (by decide)))
  rcases hw with rfl | rfl | rfl <;> rcases hs with ⟨hs, hs2⟩ | ⟨hs, hs2⟩ | hs <;> rcases hd with rfl | rfl | rfl | rfl | rfl | rfl | rfl <;>
    first
      | (exfalso; omega)
      | (simp only [AccSays, t1, t2, t4, accF, hh]; simp [hs, fwd1, e0, nn, sb, Int.fdiv_eq_ediv_of_nonneg]; done)
      | (simp only [AccSays, t1, t2, t4, accF, hh]; simp [hs, fwd1, e0, nn, sb, Int.fdiv_eq_ediv_of_nonneg]; omega)
      | (simp only [AccSays, t1, t2, t4, accF, hh]; simp [hs, fwd1, e0, nn, sb, Int.fdiv_eq_ediv_of_nonneg]; refine ⟨by omega, ?_⟩; rw [if_neg (by omega)]; first | rfl | (simp; done) | (simp; omega))
theorem acc_one (x : VSt) {a w : Int} (hw : w = 1 ∨ w = 2 ∨ w = 4) : AccSays x.1 a w (accF x.1 a w w.toNat) := by
  obtain ⟨hs, _⟩ := x.spec
  obtain ⟨d, rfl⟩ : ∃ d, a = x.1.addr + d := ⟨a - x.1.addr, by omega⟩
  by_cases hd : d ≤ -w ∨ x.1.width ≤ d
  · exact acc_out hw hd
  · exact acc_in hw hs (by omega) (by omega)
end Go.Proofs.Ytemihglffmfikaa
