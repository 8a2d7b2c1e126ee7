/-
  A []byte argument as a source of append, and as a string, nil and empty ones too.
-/
import Derived.Test.YtglepciddhbmbaaImgI
import Derived.Test.YtglepciddhbmbaaAppend
namespace Go.Proofs.Ytglepciddhbmbaa
open Go.RowKit Go.ChangeShapes Go.WideShapes Go.ChangeAt

/-- The value is a slice that reads as these bytes; nil without a capacity. -/
def ByteArg2 (w : World) (v : Value) (bs : List UInt8) : Prop := ByteArg w v bs ∧ ∀ n c, v = .slice none n c → c = 0

theorem open_bytes2 {H : Type} {enc : TypeId × Value → H} {W : World} {r : Reach} {base : Nat} {v : Value} {d : DataW H} {p : List MemPlace} (hv : Value.okWide Try.prog W r base 30 v)
    (h : DataW.Trod enc Try.prog W 0 (fun _ => true) true 30 v d p) : ∃ bs, ByteArg2 W v bs := by
  obtain ⟨bs, hb⟩ := open_bytes hv h
  refine ⟨bs, hb, fun n c hvn => ?_⟩
  subst hvn
  obtain ⟨fuel, hf⟩ := h
  rcases open_ints Try.underlying30 Try.underlying5 (by kernel_rfl) hf with ⟨hcs, _⟩ | ⟨x, l, c, zs, hcs, _⟩
  · simp [Value.cells] at hcs
    exact hcs.2
  · simp [Value.cells] at hcs
theorem ByteArg2.src {w : World} {v : Value} {bs : List UInt8} (h : ByteArg2 w v bs) : Src w 1 v bs.length (bs.map u8v) := by
  obtain ⟨⟨a, cap, rfl, _, hc⟩, hn⟩ := h
  refine ⟨by simp, u8v_one bs, ?_⟩
  cases a with
  | none =>
    left
    have h0 := hn _ _ rfl
    have hb : bs = [] := Classical.byContradiction fun hne => by obtain ⟨b, o, h1, _⟩ := hc hne; simp at h1
    subst hb h0
    exact ⟨rfl, rfl⟩
  | some ad =>
    right
    refine ⟨ad, cap, rfl, fun j u hj => ?_⟩
    have hne : bs ≠ [] := by rintro rfl; simp at hj
    obtain ⟨b, o, h1, h2⟩ := hc hne
    simp only [Option.some.injEq] at h1
    subst h1
    rw [addr_add]
    exact h2 j u hj
theorem ByteArg2.new {w w' : World} {v : Value} {bs : List UInt8} (h : ByteArg2 w v bs) (k : New w w') : ByteArg2 w' v bs := by
  obtain ⟨⟨a, cap, h1, h2, hc⟩, hn⟩ := h
  refine ⟨⟨a, cap, h1, h2, fun hne => ?_⟩, hn⟩
  obtain ⟨b, o, h3, h4⟩ := hc hne
  exact ⟨b, o, h3, fun j u hj => k.cell (h4 j u hj) id⟩
theorem ByteArg2.conv {w : World} {v : Value} {bs : List UInt8} (h : ByteArg2 w v bs) : (convert 30 9 v).run Try.prog w = .ok (.string (str bs)) w := by
  obtain ⟨⟨a, cap, rfl, _, hc⟩, hn⟩ := h
  cases a with
  | none =>
    have hb : bs = [] := Classical.byContradiction fun hne => by obtain ⟨b, o, h1, _⟩ := hc hne; simp at h1
    subst hb
    exact run_convert_bytes_nil w 30 5 Try.underlying30 Try.underlying5 _ _ 9 Try.underlying9
  | some ad =>
    by_cases hb : bs = []
    · subst hb
      rw [run_convert_bytes_string w 30 9 5 (some ad) _ cap Try.underlying30 Try.underlying5 Try.underlying9]
      have := run_bytesToString (P := Try.prog) w ad 0 cap [] (by simp [loadCells, loadCellsFrom])
      exact this
    · obtain ⟨b, o, h1, h2⟩ := hc hb
      simp only [Option.some.injEq] at h1
      subst h1
      exact conv_bytes w b o _ cap bs rfl h2
theorem elem5 : ∃ i, ElemInfo Try.prog 30 5 i (.int .u8 0) 1 1 := by
  obtain ⟨i, h1, h2, h3, h4⟩ := info_parts info5
  exact ⟨i, Try.underlying30, h1, h2, h3, h4, rfl, by decide⟩
end Go.Proofs.Ytglepciddhbmbaa
