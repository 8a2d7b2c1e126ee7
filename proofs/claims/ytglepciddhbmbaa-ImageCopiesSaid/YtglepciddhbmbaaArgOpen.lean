/-
  Arguments of the statements opened: an access (a struct by value), a line (an array by value).
-/
import Derived.Test.YtglepciddhbmbaaImgH
import Derived.Lib.SmallJoins
namespace Go.Proofs.Ytglepciddhbmbaa
open Go.RowKit Go.ChangeShapes Go.WideShapes Go.ChangeAt Go.Joins

theorem okWide_array {P : Program} {w : World} {r : Reach} {base : Nat} {t e : TypeId} {n : Nat} {v : Value} (ht : P.underlying t = some (.array n e)) (h : Value.okWide P w r base t v) : ∃ cs, v = .agg cs ∧ cs.size = P.cellsOf t := by
  unfold Value.okWide at h
  rw [ht] at h
  cases v <;> simp_all

theorem cells46 : Try.prog.cellsOf 46 = 16 := by kernel_rfl
theorem cells5 : Try.prog.cellsOf 5 = 1 := by kernel_rfl

theorem open_line {H : Type} {enc : TypeId × Value → H} {W : World} {r : Reach} {base : Nat} {v : Value} {d : DataW H} {p : List MemPlace} (hv : Value.okWide Try.prog W r base 46 v)
    (h : DataW.Trod enc Try.prog W 0 (fun _ => true) true 46 v d p) : ∃ l : List UInt8, l.length = 16 ∧ v = lineV l := by
  obtain ⟨cs, rfl, hsz⟩ := okWide_array Try.underlying46 hv
  rw [cells46] at hsz
  obtain ⟨fuel, hf⟩ := h
  obtain ⟨xs, m, _, _, hl, hxl, hi⟩ := DataW.trod_array Try.underlying46 hf
  rw [cells5] at hi
  have hb : ∀ i, (h : i < cs.size) → ∃ x : UInt8, cs[i] = u8v x := by
    intro i h
    have h2 := hi i (by omega)
    have e1 : ((Value.agg cs).cells.toList.drop (i * 1)).take 1 = [cs[i]] := by
      show (cs.toList.drop (i * 1)).take 1 = _
      rw [Nat.mul_one, List.drop_eq_getElem_cons (by simpa using h)]
      simp
    rw [e1, List.getElem?_eq_getElem (show i < xs.length by omega)] at h2
    obtain ⟨a, e0, _, wa⟩ := DataW.trod_int Try.underlying5 h2
    have wb := bounds_u8 wa
    refine ⟨UInt8.ofNat a.toNat, ?_⟩
    simp at e0
    rw [e0]
    simp [u8v]
    omega
  obtain ⟨f, hf⟩ : ∃ f : (i : Fin cs.size) → UInt8, ∀ i : Fin cs.size, cs[i.1] = u8v (f i) := ⟨fun i => (hb i i.2).choose, fun i => (hb i i.2).choose_spec⟩
  refine ⟨List.ofFn f, by simp [hsz], ?_⟩
  unfold lineV
  congr 1
  apply Array.ext
  · simp
  · intro i h1 h2
    rw [hf ⟨i, h1⟩]
    simp

theorem cells40 : Try.prog.cellsOf 40 = 3 := by kernel_rfl
def AccArg (v : Value) : Prop := ∃ (a : Nat) (n : Int) (x : Nat), a < 4294967296 ∧ x < 4294967296 ∧ v = .agg #[.int .u32 a, .int .i64 n, .int .u32 x]
theorem open_access {H : Type} {enc : TypeId × Value → H} {W : World} {r : Reach} {base : Nat} {v : Value} {d : DataW H} {p : List MemPlace} (hv : Value.okWide Try.prog W r base 40 v)
    (h : DataW.Trod enc Try.prog W 0 (fun _ => true) true 40 v d p) : AccArg v := by
  obtain ⟨v0, v1, v2, y0, y1, y2, m, rfl, _, _, h0, h1, h2⟩ := open_agg3 Try.underlying40 (by kernel_rfl) cells40 hv h
  obtain ⟨a, e0, _, wa⟩ := DataW.trod_int Try.underlying31 h0
  obtain ⟨n, e1, _, wn⟩ := DataW.trod_int Try.underlying3 h1
  obtain ⟨x, e2, _, wx⟩ := DataW.trod_int Try.underlying31 h2
  simp at e0 e1 e2
  subst e0 e1 e2
  have b0 := bounds_u32 wa
  have b2 := bounds_u32 wx
  refine ⟨a.toNat, n, x.toNat, by omega, by omega, ?_⟩
  rw [Int.toNat_of_nonneg b0.1, Int.toNat_of_nonneg b2.1]
end Go.Proofs.Ytglepciddhbmbaa
