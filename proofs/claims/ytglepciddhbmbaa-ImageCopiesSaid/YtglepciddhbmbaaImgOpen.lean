/-
  A []byte argument opened: some bytes as which it reads.
-/
import Derived.Test.YtglepciddhbmbaaImgF
import Derived.ProofKit
import Derived.OpenShut
namespace Go.Proofs.Ytglepciddhbmbaa
open Go.RowKit Go.ChangeShapes Go.WideShapes Go.ChangeAt

theorem open_bytes {H : Type} {enc : TypeId × Value → H} {W : World} {r : Reach} {base : Nat} {v : Value} {d : DataW H} {p : List MemPlace} (hv : Value.okWide Try.prog W r base 30 v)
    (h : DataW.Trod enc Try.prog W 0 (fun _ => true) true 30 v d p) : ∃ bs, ByteArg W v bs := by
  obtain ⟨a0, len, cap, rfl⟩ := okWide_slice Try.underlying30 hv
  obtain ⟨fuel, hf⟩ := h
  rcases open_ints Try.underlying30 Try.underlying5 (by kernel_rfl) hf with ⟨hcs, _⟩ | ⟨x, l, c, zs, hcs, _, hl, hm, hz, _, hcell, hwz⟩
  · simp [Value.cells] at hcs
    obtain ⟨rfl, rfl, rfl⟩ := hcs
    exact ⟨[], none, 0, rfl, Nat.zero_le _, fun h => absurd rfl h⟩
  · simp [Value.cells] at hcs
    obtain ⟨rfl, rfl, rfl⟩ := hcs
    rw [if_pos rfl] at hz
    have hlen : ((zs.take len).map fun z => UInt8.ofNat z.toNat).length = len := by simp; omega
    refine ⟨(zs.take len).map fun z => UInt8.ofNat z.toNat, some x, cap, by rw [hlen], by rw [hlen]; omega, fun hne => ?_⟩
    have hl0 : 0 < len := by
      rcases Nat.eq_zero_or_pos len with h | h
      · rw [h] at hne; simp at hne
      · exact h
    obtain ⟨b, o, s⟩ := x
    have hs : s = none := by
      have := hcell 0 (by omega)
      rw [Addr.add, if_pos rfl] at this
      cases s with
      | none => rfl
      | some s =>
        simp only [World.cell?] at this
        split at this <;> simp at this
    subst hs
    refine ⟨b, o, rfl, fun j u hj => ?_⟩
    obtain ⟨hj1, hj2⟩ := List.getElem?_eq_some_iff.1 hj
    have hjl : j < len := by rw [List.length_map, hlen] at hj1; exact hj1
    have hz' := hcell j (by omega)
    rw [addr_add] at hz'
    rw [hz', ← hj2]
    have hw := bounds_u8 (hwz (zs[j]'(by omega)) (List.getElem_mem _))
    simp [u8v, List.getD, List.getElem?_eq_getElem (show j < zs.length by omega)]
    omega
end Go.Proofs.Ytglepciddhbmbaa
