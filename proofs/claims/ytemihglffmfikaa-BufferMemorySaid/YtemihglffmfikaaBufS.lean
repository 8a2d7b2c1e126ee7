/-
  Memory in bytes: what stores write, what a load reads; what a buffer tells of it.
-/
import Derived.Test.YtemihglffmfikaaBufR
namespace Go.Proofs.Ytemihglffmfikaa
open Go.RowKit
/-- Bytes. -/
abbrev By := { a : Int // 0 ≤ a ∧ a < 256 }
abbrev B68 := { l : List Int // l.length = 68 ∧ ∀ a ∈ l, 0 ≤ a ∧ a < 256 }
theorem size5' : (Try.prog.info? 5).map (·.size) = some 1 := by kernel_rfl
def b68E : Enc Try.prog B68 where
  T := 51
  n := 68
  cells := fun z => z.1.map (Value.int .u8)
  len := fun z => by rw [List.length_map]; exact z.2.1
  one := fun z v hv => by
    obtain ⟨a, _, rfl⟩ := List.mem_map.1 hv
    rfl
  pos := by decide
def byE : Enc Try.prog By where
  T := 5
  n := 1
  cells := fun a => [.int .u8 a.1]
  len := fun _ => rfl
  one := fun a v hv => by
    simp at hv
    subst hv
    rfl
  pos := by decide
def by0 : By := ⟨0, by decide⟩
def z68 : B68 := ⟨List.replicate 68 0, by simp, by simp⟩
def B68.put (z : B68) (p : Nat) (v : Int) (h : 0 ≤ v ∧ v < 256) : B68 := ⟨z.1.set p v, by rw [List.length_set]; exact z.2.1, fun a ha => by
  rcases List.mem_or_eq_of_mem_set ha with ha | rfl
  · exact z.2.2 a ha
  · exact h⟩
theorem b68_cell (z : B68) {p : Nat} (hp : p < 68) : (b68E.arr z)[p]? = some (.int .u8 (z.1.getD p 0)) := by
  rw [← Array.getElem?_toList, b68E.toList]
  show (z.1.map (Value.int .u8))[p]? = _
  have : p < z.1.length := by rw [z.2.1]; exact hp
  simp [List.getD, this]
theorem b68_put (z : B68) {p : Nat} {v : Int} (h : 0 ≤ v ∧ v < 256) : (b68E.arr z).setIfInBounds p (.int .u8 v) = b68E.arr (z.put p v h) := by
  apply Array.toList_inj.1
  rw [Array.toList_setIfInBounds, b68E.toList, b68E.toList]
  show (z.1.map (Value.int .u8)).set p _ = (z.1.set p v).map _
  rw [List.map_set]
theorem z_bd (z : B68) (p : Nat) : 0 ≤ z.1.getD p 0 ∧ z.1.getD p 0 < 256 := by
  by_cases hp : p < z.1.length
  · have := z.2.2 z.1[p] (List.getElem_mem hp)
    simpa [List.getD, hp] using this
  · simp [List.getD, hp]
theorem put_at (z : B68) {p q : Nat} {v : Int} (h : 0 ≤ v ∧ v < 256) (hp : p < 68) : (z.put p v h).1.getD q 0 = if p = q then v else z.1.getD q 0 := by
  show (z.1.set p v).getD q 0 = _
  simp only [List.getD, List.getElem?_set]
  by_cases e : p = q
  · subst e
    have : p < z.1.length := by rw [z.2.1]; exact hp
    simp [this]
  · simp [e]
theorem byte_bd (v : Int) (q : Nat) : 0 ≤ v / 256 ^ q % 256 ∧ v / 256 ^ q % 256 < 256 := by omega
/-- The first q bytes of a store are written. -/
def wrq (z : B68) (s : St) : Nat → B68
  | 0 => z
  | q + 1 => (wrq z s q).put (s.addr.toNat + q) (s.value / 256 ^ q % 256) (byte_bd _ _)
def wrL (z : B68) (l : List VSt) : B68 := l.foldl (fun z s => wrq z s.1 s.1.width.toNat) z
theorem wrL_snoc (z : B68) (l : List VSt) (s : VSt) : wrL z (l ++ [s]) = wrq (wrL z l) s.1 s.1.width.toNat := by simp [wrL]
theorem wrq_at (z : B68) (s : St) (p : Nat) (h : s.addr < 64) : ∀ q, q ≤ 4 → (wrq z s q).1.getD p 0 = if s.addr ≤ p ∧ (p : Int) < s.addr + q then s.value / 256 ^ (p - s.addr.toNat) % 256 else z.1.getD p 0
  | 0, _ => by rw [if_neg (by omega)]; rfl
  | q + 1, hq => by
    have ha := s.ha
    have ih := wrq_at z s p h q (by omega)
    show ((wrq z s q).put (s.addr.toNat + q) _ (byte_bd _ _)).1.getD p 0 = _
    rw [put_at _ _ (by omega)]
    by_cases e : s.addr.toNat + q = p
    · rw [if_pos e, if_pos (by omega), show p - s.addr.toNat = q by omega]
    · rw [if_neg e, ih]
      by_cases e2 : s.addr ≤ p ∧ (p : Int) < s.addr + q
      · rw [if_pos e2, if_pos (by omega)]
      · rw [if_neg e2, if_neg (by omega)]
/-- A store's byte lies where it says. -/
theorem wr_has (z : B68) (s : VSt) (p : Nat) (h : s.1.addr < 64) : (wrq z s.1 s.1.width.toNat).1.getD p 0 = if 0 ≤ hasB s.1 p then hasB s.1 p else z.1.getD p 0 := by
  obtain ⟨hs, _⟩ := s.spec
  have ha := s.1.ha
  rw [wrq_at z s.1 p h _ (by omega)]
  by_cases e : s.1.addr ≤ p ∧ (p : Int) < s.1.addr + s.1.width.toNat
  · have hv : hasB s.1 p = s.1.value / 256 ^ (p - s.1.addr.toNat) % 256 := by
      unfold hasB
      rw [if_neg (by omega), show ((p : Int) - s.1.addr).toNat = p - s.1.addr.toNat by omega]
    rw [if_pos e, hv, if_pos (byte_bd _ _).1]
  · have hv : hasB s.1 p = -1 := by
      unfold hasB
      rw [if_pos (by omega)]
    rw [if_neg e, hv, if_neg (by omega)]
/-- What is read, the top q bytes. -/
def rdq (z : B68) (a w : Int) : Nat → Int
  | 0 => 0
  | q + 1 => rdq z a w q * 256 + z.1.getD (a.toNat + (w.toNat - 1 - q)) 0
theorem rdq_bd (z : B68) (a w : Int) : ∀ q, 0 ≤ rdq z a w q ∧ rdq z a w q < 256 ^ q
  | 0 => by simp [rdq]
  | q + 1 => by
    have ih := rdq_bd z a w q
    have hb := z_bd z (a.toNat + (w.toNat - 1 - q))
    have hp : (0 : Int) < 256 ^ q := Int.pow_pos (by decide)
    have e : (256 : Int) ^ (q + 1) = 256 ^ q * 256 := Int.pow_succ ..
    show 0 ≤ rdq z a w q * 256 + _ ∧ rdq z a w q * 256 + _ < _
    rw [e]
    omega
theorem rdq_bd3 {q : Nat} (z : B68) (a w : Int) (h : q ≤ 3) : 0 ≤ rdq z a w q ∧ rdq z a w q < 16777216 := by
  have h1 := rdq_bd z a w q
  have h2 : (256 : Int) ^ q ≤ 256 ^ 3 := by
    match q, h with
    | 0, _ => decide
    | 1, _ => decide
    | 2, _ => decide
    | 3, _ => decide
  have h3 : (256 : Int) ^ 3 = 16777216 := by decide
  omega
theorem acc_le (s : St) (a w : Int) : ∀ q, (accF s a w q).2 ≤ q := fun q => (accF_bd s a w q).2.2.2
theorem rd_all (z : B68) (s : VSt) {a w : Int} (h : s.1.addr < 64) (ha : 0 ≤ a) : ∀ q : Nat, (q : Int) ≤ w → (accF s.1 a w q).2 = q → rdq (wrq z s.1 s.1.width.toNat) a w q = (accF s.1 a w q).1
  | 0, _, _ => rfl
  | q + 1, hq, he => by
    have hle := acc_le s.1 a w q
    have hp : ((a.toNat + (w.toNat - 1 - q) : Nat) : Int) = a + (w - 1 - ((q : Nat) : Int)) := by omega
    by_cases hb : 0 ≤ hasB s.1 (a + (w - 1 - ((q : Nat) : Int)))
    · rw [(accF_yes hb).2] at he
      have ih := rd_all (a := a) (w := w) z s h ha q (by omega) (by omega)
      show rdq _ a w q * 256 + _ = _
      rw [(accF_yes hb).1, ih, wr_has z s _ h, hp, if_pos hb]
    · rw [accF_no hb] at he
      omega
theorem rd_none (z : B68) (s : VSt) {a w : Int} (h : s.1.addr < 64) (ha : 0 ≤ a) : ∀ q : Nat, (q : Int) ≤ w → ¬ 0 < (accF s.1 a w q).2 → rdq (wrq z s.1 s.1.width.toNat) a w q = rdq z a w q
  | 0, _, _ => rfl
  | q + 1, hq, he => by
    have hge := (accF_bd s.1 a w q).2.2.1
    have hp : ((a.toNat + (w.toNat - 1 - q) : Nat) : Int) = a + (w - 1 - ((q : Nat) : Int)) := by omega
    by_cases hb : 0 ≤ hasB s.1 (a + (w - 1 - ((q : Nat) : Int)))
    · rw [(accF_yes hb).2] at he
      omega
    · rw [accF_no hb] at he
      have ih := rd_none (w := w) z s h ha q (by omega) he
      show rdq _ a w q * 256 + _ = rdq z a w q * 256 + _
      rw [ih, wr_has z s _ h, hp, if_neg hb]
/-- What a buffer tells, and what memory has behind its stores. -/
def Tells (z : B68) (l : List VSt) (a w : Int) (r : Int × Int) : Prop := (r.2 = 1 → r.1 = rdq (wrL z l) a w w.toNat) ∧ (r.2 = 0 → rdq (wrL z l) a w w.toNat = rdq z a w w.toNat) ∧ (r.2 = 0 ∨ r.2 = 1 ∨ r.2 = 2)
theorem tells_rev (z : B68) {a w : Int} (ha : 0 ≤ a) (hw : w = 1 ∨ w = 2 ∨ w = 4) : ∀ (m : Nat) (l : List VSt), l.length = m → (∀ s ∈ l, s.1.addr < 64) → Tells z l a w (fwdL a w l.reverse)
  | 0, l, hm, _ => by
    obtain rfl : l = [] := List.length_eq_zero_iff.1 hm
    exact ⟨fun h => by simp [fwdL] at h, fun _ => rfl, .inl rfl⟩
  | m + 1, l, hm, hl => by
    have hne : l ≠ [] := by rintro rfl; simp at hm
    obtain ⟨p, s, rfl⟩ : ∃ p s, l = p ++ [s] := ⟨l.dropLast, l.getLast hne, (List.dropLast_concat_getLast hne).symm⟩
    have hs := hl s (by simp)
    have ih := tells_rev z ha hw m p (by simpa using hm) (fun s h => hl s (by simp [h]))
    have hac := acc_one s (a := a) hw
    have hwn : ((w.toNat : Nat) : Int) = w := by omega
    rw [List.reverse_append]
    show Tells z (p ++ [s]) a w (match fwd1 a w s.1 with | none => fwdL a w p.reverse | some p => p)
    by_cases e1 : (accF s.1 a w w.toNat).2 = w
    · rw [hac.1 e1]
      refine ⟨fun _ => ?_, fun h => by simp at h, .inr (.inl rfl)⟩
      show (accF s.1 a w w.toNat).1 = _
      rw [wrL_snoc, rd_all _ s hs ha w.toNat (by omega) (by omega)]
    · by_cases e2 : 0 < (accF s.1 a w w.toNat).2
      · rw [hac.2.1 e1 e2]
        exact ⟨fun h => by simp at h, fun h => by simp at h, .inr (.inr rfl)⟩
      · rw [hac.2.2 e1 e2]
        unfold Tells
        rw [wrL_snoc, rd_none _ s hs ha w.toNat (by omega) e2]
        exact ih
theorem tells (z : B68) {l : List VSt} {a w : Int} (ha : 0 ≤ a) (hw : w = 1 ∨ w = 2 ∨ w = 4) (hm : a % w = 0) (hl : ∀ s ∈ l, s.1.addr < 64) : Tells z l a w (fwd l a w) := by
  have hk : wOk w = true := by rcases hw with rfl | rfl | rfl <;> rfl
  unfold fwd
  rw [if_pos ⟨hk, hm⟩]
  exact tells_rev z ha hw _ l rfl hl
theorem fwd_last {l : List VSt} (k : Nat) (hk : k + 1 = l.length) : fwd l (l.getD k v0).1.addr (l.getD k v0).1.width = ((l.getD k v0).1.value, 1) := by
  have hne : l ≠ [] := by rintro rfl; simp at hk
  obtain ⟨p, s, rfl⟩ : ∃ p s, l = p ++ [s] := ⟨l.dropLast, l.getLast hne, (List.dropLast_concat_getLast hne).symm⟩
  have e : (p ++ [s]).getD k v0 = s := by
    simp at hk
    subst hk
    simp [List.getD]
  rw [e]
  obtain ⟨hs, hm⟩ := s.spec
  have hv := s.1.hv
  have hk : wOk s.1.width = true := by rcases hs with ⟨h, _⟩ | ⟨h, _⟩ | h <;> rw [h] <;> rfl
  have h1 : fwd1 s.1.addr s.1.width s.1 = some (s.1.value, 1) := by
    rw [fwd1_all (by omega) (by omega), Int.sub_self]
    congr 2
    show (if s.1.width < 4 then s.1.value.fdiv 1 % 2 ^ (8 * s.1.width).toNat else s.1.value.fdiv 1) = _
    rw [Int.fdiv_one]
    rcases hs with ⟨h, h2⟩ | ⟨h, h2⟩ | h
    · rw [h, if_pos (by decide)]
      show s.1.value % 256 = _
      omega
    · rw [h, if_pos (by decide)]
      show s.1.value % 65536 = _
      omega
    · rw [h, if_neg (by decide)]
  unfold fwd
  rw [if_pos ⟨hk, hm⟩, List.reverse_append]
  show (match fwd1 s.1.addr s.1.width s.1 with | none => _ | some p => p) = _
  rw [h1]
theorem tail_64 {l : List VSt} (h : ∀ s ∈ l, s.1.addr < 64) : ∀ s ∈ l.tail, s.1.addr < 64 := fun s hs => h s (List.mem_of_mem_tail hs)
theorem push_64 {l : List VSt} {s : St} (h : ∀ s ∈ l, s.1.addr < 64) (hs : s.addr < 64) : ∀ x ∈ pushL l s, x.1.addr < 64 := by
  unfold pushL
  split
  · split
    · exact h
    · intro x hx
      rw [List.mem_append, List.mem_singleton] at hx
      rcases hx with hx | rfl
      · exact h x hx
      · exact hs
  · exact h
/-- What is behind i stores. -/
theorem wrL_take {z : B68} {l : List VSt} {i : Nat} (h : i < l.length) : wrL z (l.take (i + 1)) = wrq (wrL z (l.take i)) (l.getD i v0).1 (l.getD i v0).1.width.toNat := by
  rw [List.take_succ_eq_append_getElem h, wrL_snoc]
  have : l.getD i v0 = l[i] := by simp [List.getD, h]
  rw [this]
theorem mem_getD {l : List VSt} {i : Nat} (h : i < l.length) : l.getD i v0 ∈ l := by
  have : l.getD i v0 = l[i] := by simp [List.getD, h]
  rw [this]
  exact List.getElem_mem h
end Go.Proofs.Ytemihglffmfikaa
