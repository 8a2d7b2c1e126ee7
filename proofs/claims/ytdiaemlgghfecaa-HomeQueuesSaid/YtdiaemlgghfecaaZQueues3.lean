/-
  Part 3 of what the claim stands on: walks through the code, plain laws.
-/
import Derived.Test.YtdiaemlgghfecaaZQueues2
namespace Go.Proofs.Ytdiaemlgghfecaa
open Go.RowKit
theorem ent_all (d : Ent) (A : Option Addr) (n c : Nat) : (entA d (.slice A n c)).all (·.oneCell') = true := by
  simp [entA, Value.oneCell']
theorem x_deferv {P : Program} {w : World} {ev : Operand → Value} {o : Oper} {t f : Nat} {args : List Operand} {ts : Array TypeId} {vs : List Value} {cs : Array Value} (ho : o.op = .defer { callee := .value (.tmp t), args := args.toArray, argTypes := ts }) (hf0 : ev (.tmp t) = .func (.func f) #[] cs) (hv : Evs ev args vs) :
    (execOp ev o).run P w = .ok (.defer { target := .fn (.func f) cs, args := vs.toArray }) w := by
  simp [execOp, ho, resolve, hf0, Deferred.ofValue, hv.map]
theorem hsize_c {w : World} {bi ig cap : Nat} {bs : List UInt8} (hI : Img 0 w bi ig cap bs) : Calls Try.prog 28 #[.pointer (some ⟨bi, 0, none⟩)] w (Ret fun v w' => v = .int .i64 ((bs.length : Nat) : Int) ∧ w' = w) :=
  (size_some bi _ _ cap w hI.cell).mono fun _ _ ⟨h1, h2⟩ => ⟨_, h1, rfl, h2.symm⟩
theorem hicopy_c {w : World} {bi ig cap : Nat} {bs : List UInt8} (hI : Img 0 w bi ig cap bs) : Calls Try.prog 37 #[.pointer (some ⟨bi, 0, none⟩)] w (Ret fun v w' => ∃ b g c, v = .pointer (some ⟨b, 0, none⟩) ∧ Img 0 w' b g c bs ∧ w.heap.size ≤ b ∧ w.heap.size ≤ g ∧ NE b g ∧ New w w') :=
  (copy_some hI).mono fun _ _ ⟨b, g, c, h1, h2, h3⟩ => ⟨_, h1, b, g, c, rfl, h2.mono (Nat.zero_le _), h2.hb, h2.hg, h2.ne, h3⟩
structure Slot where
  k : Nat
  b : Nat
  A : Option Addr
  cap : Nat
  born : Nat
  deriving DecidableEq
def Slot.me (s : Slot) : MapEntry := ⟨.int .u32 ((s.k : Nat) : Int), .pointer (some ⟨s.b, 0, none⟩), s.born⟩
def esOf (L : List Slot) : Array MapEntry := (L.map Slot.me).toArray
def entOf (E : List Ent) (k : Nat) : Ent := E.getD k ent0
structure SlotAt (w : World) (d : Ent) (s : Slot) : Prop where
  blk : Blk w s.b 42 (entA d (.slice s.A d.q.length s.cap))
  q : View msgE w s.A s.cap d.q
structure EntsAt (w : World) (F : Nat → Prop) (r : Nat) (E : List Ent) (L : List Slot) (c : Nat) : Prop where
  map : MapBlk w r (esOf L) c
  lt_ : ∀ s ∈ L, s.k < E.length ∧ s.born < c
  at_ : ∀ s ∈ L, SlotAt w (entOf E s.k) s
  keys : (L.map Slot.k).Nodup
  borns : (L.map Slot.born).Nodup
  no : ∀ k, k ∉ L.map Slot.k → entOf E k = ent0
  foot : ∀ g, F g ↔ g = r ∨ ∃ s ∈ L, g = s.b ∨ inA s.A g
  ap : ∀ s ∈ L, ¬ s.b = r ∧ ¬ inA s.A r
section
variable {w w' : World} {F S : Nat → Prop} {r c : Nat} {E : List Ent} {L : List Slot}
theorem SlotAt.only {d : Ent} {s : Slot} (h : SlotAt w d s) (k : Only S w w') (h1 : ¬ S s.b) (h2 : ∀ g, inA s.A g → ¬ S g) : SlotAt w' d s := ⟨h.blk.only k h1, h.q.only k h2⟩
theorem EntsAt.only (h : EntsAt w F r E L c) (k : Only S w w') (hs : ∀ g, F g → ¬ S g) : EntsAt w' F r E L c :=
  ⟨h.map.only k (hs _ ((h.foot _).2 (.inl rfl))), h.lt_, fun s hS => (h.at_ s hS).only k (hs _ ((h.foot _).2 (.inr ⟨s, hS, .inl rfl⟩))) fun g hg => hs _ ((h.foot _).2 (.inr ⟨s, hS, .inr hg⟩)), h.keys, h.borns, h.no, h.foot, h.ap⟩
theorem EntsAt.new (h : EntsAt w F r E L c) (k : New w w') : EntsAt w' F r E L c := h.only k fun _ _ => id
theorem EntsAt.lt (h : EntsAt w F r E L c) {g : Nat} (hg : F g) : g < w.heap.size := by
  rcases (h.foot g).1 hg with rfl | ⟨s, hs, rfl | hg⟩
  · exact h.map.lt
  · exact (h.at_ s hs).blk.lt
  · exact (h.at_ s hs).q.lt hg
theorem EntsAt.apart (h : EntsAt w F r E L c) {b : Nat} (hb : w.heap.size ≤ b) : ¬ F b := fun hi => by have := h.lt hi; omega
theorem find_no {k : Nat} : ∀ (L : List Slot) (j : Nat), k ∉ L.map Slot.k → Instr.findNow (.int .u32) (.int .u32 ((k : Nat) : Int)) (L.map Slot.me) j = some none
  | [], _, _ => rfl
  | s :: L, j, h => by
    have h1 : ¬ k = s.k := fun e => h (by simp [e])
    have h2 : k ∉ L.map Slot.k := fun e => h (by simp at e ⊢; exact .inr e)
    have hne : ((k : Int) == (s.k : Int)) = false := by simp; omega
    simp only [List.map_cons, Instr.findNow, Slot.me, Instr.sameNow, if_true, hne]
    exact find_no L (j + 1) h2
theorem find_yes {s : Slot} : ∀ (L : List Slot) (j : Nat), s ∈ L → (L.map Slot.k).Nodup → ∃ i, L[i]? = some s ∧ Instr.findNow (.int .u32) (.int .u32 ((s.k : Nat) : Int)) (L.map Slot.me) j = some (some (j + i, .pointer (some ⟨s.b, 0, none⟩)))
  | [], _, h, _ => absurd h (by simp)
  | t :: L, j, h, hn => by
    rw [List.map_cons, List.nodup_cons] at hn
    by_cases hk : s.k = t.k
    · have hst : s = t := by
        rcases List.mem_cons.1 h with h | h
        · exact h
        · exact absurd (List.mem_map.2 ⟨s, h, hk⟩) hn.1
      subst hst
      exact ⟨0, rfl, by simp [Instr.findNow, Slot.me, Instr.sameNow]⟩
    · have hL : s ∈ L := by
        rcases List.mem_cons.1 h with h | h
        · exact absurd (by rw [h]) hk
        · exact h
      obtain ⟨i, h1, h2⟩ := find_yes L (j + 1) hL hn.2
      have hne : ((s.k : Int) == (t.k : Int)) = false := by simp; omega
      refine ⟨i + 1, by simpa using h1, ?_⟩
      simp only [List.map_cons, Instr.findNow, Slot.me, Instr.sameNow, if_true, hne]
      rw [show j + (i + 1) = j + 1 + i by omega]
      exact h2
theorem EntsAt.find_some (h : EntsAt w F r E L c) {s : Slot} (hs : s ∈ L) : (Instr.findNow (.int .u32) (.int .u32 ((s.k : Nat) : Int)) (esOf L).toList 0).map (fun q => (match q with | some (_, u) => u | none => .pointer none, q.isSome)) = some (.pointer (some ⟨s.b, 0, none⟩), true) := by
  obtain ⟨i, _, h2⟩ := find_yes L 0 hs h.keys
  rw [show (esOf L).toList = L.map Slot.me from rfl, h2]
  rfl
theorem EntsAt.find_none {k : Nat} (hs : k ∉ L.map Slot.k) : (Instr.findNow (.int .u32) (.int .u32 ((k : Nat) : Int)) (esOf L).toList 0).map (fun q => (match q with | some (_, u) => u | none => .pointer none, q.isSome)) = some (.pointer none, false) := by
  rw [show (esOf L).toList = L.map Slot.me from rfl, find_no L 0 hs]
  rfl
end
section
variable {P : Program} {N : Nat × List Deferred} {T : List (Nat × Value)} {a : Act} {w : World} {Q : Exit → Act → World → Prop} {ops : Array Oper} {rest : List Oper} {o : Oper} {d : Nat}
theorem run_keyStays (k : IntKind) (n : Int) (w : World) : (Instr.keyThatStays (.int k n) (.int k n)).run P w = .ok (.int k n) w := by
  have hs : Instr.sameBits 10000 (.int k n) (.int k n) = true := by
    unfold Instr.sameBits
    simp
  unfold Instr.keyThatStays
  rw [if_pos hs]
  rfl
theorem run_update_new {t K E : TypeId} {k : IntKind} {n : Int} {v : Value} {r c : Nat} {es : Array MapEntry} (ht : P.underlying t = some (.map K E)) (hK : P.underlying K = some (.int k)) (hM : MapBlk w r es c) (hf : Instr.findNow (.int k) (.int k n) es.toList 0 = some none) :
    (Instr.mapUpdate t (.map (some r)) (.int k n) v).run P w = .ok () { w with heap := w.heap.setIfInBounds r (.map (es.push ⟨.int k n, v, c⟩) (c + 1)) } := by
  simp [Instr.mapUpdate, run_underlying ht, MapKept.run_getObj_map hM, run_checkInt' hK, run_findNow' hK hf, MapKept.run_setObj_map _ hM, Result.andThen]
theorem run_update_old {t K E : TypeId} {k : IntKind} {n : Int} {v v0 : Value} {r c i : Nat} {es : Array MapEntry} {e : MapEntry} (ht : P.underlying t = some (.map K E)) (hK : P.underlying K = some (.int k)) (hM : MapBlk w r es c) (hf : Instr.findNow (.int k) (.int k n) es.toList 0 = some (some (i, v0))) (he : es[i]? = some e) (hk : e.key = .int k n) :
    (Instr.mapUpdate t (.map (some r)) (.int k n) v).run P w = .ok () { w with heap := w.heap.setIfInBounds r (.map (es.modify i fun e => { e with key := .int k n, val := v }) c) } := by
  simp [Instr.mapUpdate, run_underlying ht, MapKept.run_getObj_map hM, run_checkInt' hK, run_findNow' hK hf, he, hk, run_keyStays, MapKept.run_setObj_map _ hM, Result.andThen]
theorem set_only {r : Nat} {o' : Obj} (h : r < w.heap.size) : Only (fun j => j = r) w { w with heap := w.heap.setIfInBounds r o' } := ⟨rfl, rfl, rfl, by simp, fun j hj hs => by simp [show r ≠ j from fun h => hs h.symm]⟩
theorem set_map {r c : Nat} {es : Array MapEntry} (h : r < w.heap.size) : MapBlk { w with heap := w.heap.setIfInBounds r (.map es c) } r es c := by
  unfold MapBlk
  simp [h]
end
section
variable {w : World} {F : Nat → Prop} {r c : Nat} {E : List Ent} {L : List Slot} {T : List (Nat × Value)} {N : Nat × List Deferred} {a : Act} {Q : Exit → Act → World → Prop} {ops : Array Oper} {rest : List Oper} {o : Oper}
theorem entOf_set {n k : Nat} {d : Ent} (hn : n < E.length) : entOf (E.set n d) k = if k = n then d else entOf E k := by
  unfold entOf
  simp only [List.getD, List.getElem?_set]
  by_cases h : n = k
  · subst h; simp [hn]
  · rw [if_neg h, if_neg (fun e => h e.symm)]
theorem ents_put {n be qc : Nat} {A : Option Addr} {d : Ent} (hM : EntsAt w F r E L c) (hn : n < E.length) (hB : Blk w be 42 (entA d (.slice A d.q.length qc))) (hQ : View msgE w A qc d.q) (h1 : ¬ be = r) (h2 : ¬ inA A r) :
    ∃ w1 L' c' F', (Instr.mapUpdate 62 (.map (some r)) (.int .u32 ((n : Nat) : Int)) (.pointer (some ⟨be, 0, none⟩))).run Try.prog w = .ok () w1 ∧ Only (fun j => j = r) w w1 ∧ EntsAt w1 F' r (E.set n d) L' c' ∧ (∀ g, F' g → F g ∨ g = be ∨ inA A g) := by
  have hlt := hM.map.lt
  by_cases hk : n ∈ L.map Slot.k
  · obtain ⟨s, hs, hsk⟩ := List.mem_map.1 hk
    subst hsk
    obtain ⟨i, hi, hf⟩ := find_yes L 0 hs hM.keys
    rw [Nat.zero_add] at hf
    obtain ⟨hil, hie⟩ := List.getElem?_eq_some_iff.1 hi
    let s' : Slot := ⟨s.k, be, A, qc, s.born⟩
    have he : (esOf L)[i]? = some s.me := by simp [esOf, hi]
    have hes : (esOf L).modify i (fun e => { e with key := .int .u32 ((s.k : Nat) : Int), val := .pointer (some ⟨be, 0, none⟩) }) = esOf (L.set i s') := by
      unfold esOf
      rw [List.modify_toArray, List.map_set]
      congr 1
      apply List.ext_getElem
      · simp
      · intro j h3 h4
        rw [List.getElem_modify, List.getElem_set]
        by_cases hj : i = j
        · subst hj
          rw [if_pos rfl, if_pos rfl, List.getElem_map, hie]
          rfl
        · rw [if_neg hj, if_neg hj]
    have hrun := run_update_old (P := Try.prog) (w := w) (v := .pointer (some ⟨be, 0, none⟩)) Try.underlying62 Try.underlying24 hM.map hf he rfl
    rw [hes] at hrun
    have hO := set_only (w := w) (r := r) (o' := .map (esOf (L.set i s')) c) hlt
    have mem : ∀ t ∈ L.set i s', t = s' ∨ (t ∈ L ∧ t.k ≠ s.k) := by
      intro t ht
      obtain ⟨j, hj, hjt⟩ := List.getElem_of_mem ht
      rw [List.getElem_set] at hjt
      split at hjt
      · exact .inl hjt.symm
      · rename_i hne
        rw [List.length_set] at hj
        refine .inr ⟨hjt ▸ List.getElem_mem _, fun e => hne ?_⟩
        have hnd := hM.keys
        have hp := List.pairwise_iff_getElem.1 hnd
        rcases Nat.lt_trichotomy i j with h | h | h
        · exact (hp i j (by simpa using hil) (by simpa using hj) h (by simp [hie, hjt, e])).elim
        · exact h
        · exact (hp j i (by simpa using hj) (by simpa using hil) h (by simp [hie, hjt, e])).elim
    have hkeys : (L.set i s').map Slot.k = L.map Slot.k := by
      rw [List.map_set]
      apply List.ext_getElem
      · simp
      · intro j h3 h4
        rw [List.getElem_set]
        split
        · rename_i hj; subst hj; simp [s', hie]
        · rfl
    have hborns : (L.set i s').map Slot.born = L.map Slot.born := by
      rw [List.map_set]
      apply List.ext_getElem
      · simp
      · intro j h3 h4
        rw [List.getElem_set]
        split
        · rename_i hj; subst hj; simp [s', hie]
        · rfl
    refine ⟨_, L.set i s', c, fun g => g = r ∨ ∃ s ∈ L.set i s', g = s.b ∨ inA s.A g, hrun, hO, ⟨set_map hlt, ?_, ?_, by rw [hkeys]; exact hM.keys, by rw [hborns]; exact hM.borns, ?_, fun g => Iff.rfl, ?_⟩, ?_⟩
    · intro t ht
      rw [List.length_set]
      rcases mem t ht with rfl | ⟨h, _⟩
      · exact hM.lt_ s hs
      · exact hM.lt_ t h
    · intro t ht
      rcases mem t ht with rfl | ⟨h, hne⟩
      · have : entOf (E.set s.k d) s'.k = d := by rw [entOf_set hn]; exact if_pos rfl
        rw [this]
        exact ⟨hB.only hO h1, hQ.only hO fun g hg (e : g = r) => h2 (e ▸ hg)⟩
      · rw [entOf_set hn, if_neg hne]
        exact (hM.at_ t h).only hO (hM.ap t h).1 fun g hg (e : g = r) => (hM.ap t h).2 (e ▸ hg)
    · intro k hk
      rw [hkeys] at hk
      rw [entOf_set hn, if_neg (fun e : k = s.k => hk (e ▸ List.mem_map.2 ⟨s, hs, rfl⟩))]
      exact hM.no k hk
    · intro t ht
      rcases mem t ht with rfl | ⟨h, _⟩
      · exact ⟨h1, h2⟩
      · exact hM.ap t h
    · rintro g (rfl | ⟨t, ht, hg⟩)
      · exact .inl ((hM.foot _).2 (.inl rfl))
      · rcases mem t ht with rfl | ⟨h, _⟩
        · exact .inr hg
        · exact .inl ((hM.foot _).2 (.inr ⟨t, h, hg⟩))
  · have hf := find_no (k := n) L 0 hk
    have hrun := run_update_new (P := Try.prog) (w := w) (v := .pointer (some ⟨be, 0, none⟩)) Try.underlying62 Try.underlying24 hM.map hf
    let s' : Slot := ⟨n, be, A, qc, c⟩
    have hes : (esOf L).push ⟨.int .u32 ((n : Nat) : Int), .pointer (some ⟨be, 0, none⟩), c⟩ = esOf (L ++ [s']) := by simp [esOf, s', Slot.me]
    rw [hes] at hrun
    have hO := set_only (w := w) (r := r) (o' := .map (esOf (L ++ [s'])) (c + 1)) hlt
    have mem : ∀ t ∈ L ++ [s'], t ∈ L ∨ t = s' := by simp
    refine ⟨_, L ++ [s'], c + 1, fun g => g = r ∨ ∃ s ∈ L ++ [s'], g = s.b ∨ inA s.A g, hrun, hO, ⟨set_map hlt, ?_, ?_, ?_, ?_, ?_, fun g => Iff.rfl, ?_⟩, ?_⟩
    · intro t ht
      rw [List.length_set]
      rcases mem t ht with h | rfl
      · have := hM.lt_ t h; omega
      · exact ⟨hn, Nat.lt_succ_self _⟩
    · intro t ht
      rcases mem t ht with h | rfl
      · rw [entOf_set hn, if_neg (fun e : t.k = n => hk (e ▸ List.mem_map.2 ⟨t, h, rfl⟩))]
        exact (hM.at_ t h).only hO (hM.ap t h).1 fun g hg (e : g = r) => (hM.ap t h).2 (e ▸ hg)
      · have : entOf (E.set n d) s'.k = d := by rw [entOf_set hn]; exact if_pos rfl
        rw [this]
        exact ⟨hB.only hO h1, hQ.only hO fun g hg (e : g = r) => h2 (e ▸ hg)⟩
    · rw [List.map_append, List.nodup_append]
      refine ⟨hM.keys, by simp, ?_⟩
      intro x hx y hy e
      simp [s'] at hy
      subst hy
      exact hk (e ▸ hx)
    · rw [List.map_append, List.nodup_append]
      refine ⟨hM.borns, by simp, ?_⟩
      intro x hx y hy e
      simp [s'] at hy
      subst hy
      obtain ⟨t, ht, hb⟩ := List.mem_map.1 hx
      have := (hM.lt_ t ht).2
      omega
    · intro k hk2
      rw [List.map_append, List.mem_append, not_or] at hk2
      rw [entOf_set hn, if_neg (fun e => hk2.2 (by simp [s', e]))]
      exact hM.no k hk2.1
    · intro t ht
      rcases mem t ht with h | rfl
      · exact hM.ap t h
      · exact ⟨h1, h2⟩
    · rintro g (rfl | ⟨t, ht, hg⟩)
      · exact .inl ((hM.foot _).2 (.inl rfl))
      · rcases mem t ht with h | rfl
        · exact .inl ((hM.foot _).2 (.inr ⟨t, h, hg⟩))
        · exact .inr hg
theorem fx_entPut {n be qc : Nat} {A : Option Addr} {d : Ent} {x y z : Operand} (hw : Region.wanted o (yielded ops a.tmps) = true) (ho : o.op = .mapUpdate 62 x y z) (hd : o.dst = none) (hx : a.eval x = .map (some r)) (hy : a.eval y = .int .u32 ((n : Nat) : Int)) (hz : a.eval z = .pointer (some ⟨be, 0, none⟩))
    (hM : EntsAt w F r E L c) (hn : n < E.length) (hB : Blk w be 42 (entA d (.slice A d.q.length qc))) (hQ : View msgE w A qc d.q) (h1 : ¬ be = r) (h2 : ¬ inA A r)
    (next : ∀ w1 L' c' F', Only (fun j => j = r) w w1 → EntsAt w1 F' r (E.set n d) L' c' → (∀ g, F' g → F g ∨ g = be ∨ inA A g) → wpList Try.prog ops Q rest a w1) : wpList Try.prog ops Q (o :: rest) a w := by
  obtain ⟨w1, L', c', F', hr, hO, hE, hF⟩ := ents_put hM hn hB hQ h1 h2
  refine fx_eff (w1 := w1) hw hd ?_ (next w1 L' c' F' hO hE hF)
  simp [execOp, ho, hx, hy, hz, hr, Result.andThen]
end
structure HSep (Fp : Nat → Prop) (b bi ig : Nat) (F : Nat → Prop) : Prop where
  ne_b_bi : NE b bi
  ne_b_ig : NE b ig
  fb : ¬ F b
  fbi : ¬ F bi
  fig : ¬ F ig
  foot : ∀ g, Fp g ↔ g = b ∨ g = bi ∨ g = ig ∨ F g
def HomeAt (w : World) (Fp : Nat → Prop) (b : Nat) (h : HD) : Prop :=
  ∃ bi ig cap r F L c, Blk w b 64 #[.pointer (some ⟨bi, 0, none⟩), .map (some r)] ∧ Img 0 w bi ig cap h.bs ∧ EntsAt w F r h.E L c ∧ HSep Fp b bi ig F ∧ h.E.length = h.bs.length / 16
section
variable {w w' : World} {Fp T : Nat → Prop} {b : Nat} {h : HD}
theorem HomeAt.only (H : HomeAt w Fp b h) (k : Only T w w') (hs : ∀ g, Fp g → ¬ T g) : HomeAt w' Fp b h := by
  obtain ⟨bi, ig, cap, r, F, L, c, hB, hI, hM, hS, hn⟩ := H
  exact ⟨bi, ig, cap, r, F, L, c, hB.only k (hs _ ((hS.foot _).2 (.inl rfl))), hI.only k (hs _ ((hS.foot _).2 (.inr (.inl rfl)))) (hs _ ((hS.foot _).2 (.inr (.inr (.inl rfl))))), hM.only k fun g hg => hs _ ((hS.foot _).2 (.inr (.inr (.inr hg)))), hS, hn⟩
theorem HomeAt.new (H : HomeAt w Fp b h) (k : New w w') : HomeAt w' Fp b h := H.only k fun _ _ => id
theorem HomeAt.lt (H : HomeAt w Fp b h) {g : Nat} (hg : Fp g) : g < w.heap.size := by
  obtain ⟨bi, ig, cap, r, F, L, c, hB, hI, hM, hS, hn⟩ := H
  rcases (hS.foot g).1 hg with rfl | rfl | rfl | hg
  · exact hB.lt
  · exact hI.lt.1
  · exact hI.lt.2
  · exact hM.lt hg
theorem HomeAt.apart (H : HomeAt w Fp b h) {c : Nat} (hc : w.heap.size ≤ c) : ¬ Fp c := fun hi => by have := H.lt hi; omega
theorem HomeAt.has (H : HomeAt w Fp b h) : Fp b := by
  obtain ⟨bi, ig, cap, r, F, L, c, hB, hI, hM, hS, hn⟩ := H
  exact (hS.foot b).2 (.inl rfl)
theorem HomeAt.len (H : HomeAt w Fp b h) : h.E.length = h.bs.length / 16 ∧ 16 ≤ h.bs.length ∧ h.bs.length ≤ 4096 := by
  obtain ⟨bi, ig, cap, r, F, L, c, hB, hI, hM, hS, hn⟩ := H
  exact ⟨hn, hI.pos⟩
end
def TakeH (w : World) (Fp : Nat → Prop) (b : Nat) (x : HD × List Msg × Int) (v : Value) (w' : World) : Prop :=
  ∃ A ac Fp', v = .tuple #[.slice A x.2.1.length ac, .int .i64 x.2.2] ∧ Own msgE w' A ac x.2.1 ∧ (∀ g, inA A g → w.heap.size ≤ g) ∧ HomeAt w' Fp' b x.1 ∧ (∀ g, Fp' g → inA A g → False) ∧ (∀ g, Fp' g → Fp g ∨ w.heap.size ≤ g) ∧ Only Fp w w'
theorem takeH_no {w w' : World} {Fp : Nat → Prop} {b : Nat} {x : HD × List Msg × Int} {h : HD} {v : Value} (e : Int) (hx : x = (h, [], e)) (hv : v = .tuple #[.slice none 0 0, .int .i64 e]) (H : HomeAt w' Fp b h) (hn : New w w') : TakeH w Fp b x v w' := by
  subst hx hv
  exact ⟨none, 0, Fp, rfl, Own.nil, fun g hg => absurd hg (apart_none g), H, fun g _ hg => apart_none g hg, fun g hg => .inl hg, hn.mono fun _ _ h => h.elim⟩
end Go.Proofs.Ytdiaemlgghfecaa
namespace Go.Proofs.Ytdiaemlgghfecaa
open Go.RowKit
set_option maxRecDepth 100000 in
set_option maxHeartbeats 4000000 in
theorem hnone_c {w : World} {b bi r : Nat} (hB : Blk w b 64 #[.pointer (some ⟨bi, 0, none⟩), .map (some r)])  : Calls Try.prog 27 #[.pointer (some ⟨b, 0, none⟩)] w (Ret fun v w' => v = .bool false ∧ w' = w) := by
 refine Zen 12 Try.func27 ?_
 refine Zsr ?_
 refine Za ?_
 refine Znn ?_
 refine Zsr ?_
 refine Zm ?_
 refine Zv (.bool false) (fun _ fr => x_peql Try.underlying25 rfl (fr.ev rfl) rfl rfl) ?_
 refine Zm ?_
 refine Zm ?_
 refine Zn ?_
 refine Zf fo64_0 ?_
 refine Zd pl61 (hB.cell 0 rfl) ?_
 refine Zv (.bool false) (fun _ fr => x_peql Try.underlying61 rfl (fr.ev rfl) rfl rfl) ?_
 refine Zpf ?_
 refine Za ?_
 refine Znn ?_
 refine Zrt ?_
 refine Zre rfl [_] ⟨rfl, trivial⟩ ?_
 exact ⟨_, rfl, rfl, rfl⟩
set_option maxRecDepth 100000 in
set_option maxHeartbeats 4000000 in
theorem lines_r {w : World} {b bi r : Nat} (hB : Blk w b 64 #[.pointer (some ⟨bi, 0, none⟩), .map (some r)]) {ig cap : Nat} {bs : List UInt8} (hI : Img 0 w bi ig cap bs)  : Calls Try.prog 10 #[.pointer (some ⟨b, 0, none⟩)] w (Ret fun v w' => v = .int .i64 ((bs.length / 16 : Nat) : Int) ∧ w' = w) := by
 have hp := hI.pos
 refine Zen 11 Try.func10 ?_
 refine Zsr ?_
 refine Za ?_
 refine Znn ?_
 refine Zsq ?_
 refine Zsr ?_
 refine Zm ?_
 refine Zk cf27 (hnone_c hB) ?_
 rintro v w9 ⟨rfl, hw9⟩
 obtain rfl := hw9.symm
 refine Znn ?_
 refine Zcf ?_
 refine Zsk ?_
 refine Znx ?_
 refine Zsr ?_
 refine Zm ?_
 refine Zn ?_
 refine Zf fo64_0 ?_
 refine Zd pl61 (hB.cell 0 rfl) ?_
 refine Zk cf28 (hsize_c hI) ?_
 rintro v w9 ⟨rfl, hw9⟩
 obtain rfl := hw9.symm
 refine Zv (.int .i64 ((bs.length / 16 : Nat) : Int)) (fun _ fr => x_quo rfl (fr.ev rfl) rfl (by decide) (quo_nat _ _ (by omega))) ?_
 refine Za ?_
 refine Znn ?_
 refine Zrt ?_
 refine Zre rfl [_] ⟨rfl, trivial⟩ ?_
 exact ⟨_, rfl, rfl, rfl⟩
set_option maxRecDepth 100000 in
set_option maxHeartbeats 4000000 in
theorem clonem_nil (w : World) : Calls Try.prog 56 #[.slice none 0 0] w (Ret fun v w' => v = .slice none 0 0 ∧ w' = w) := by
 refine Zen 8 Try.func56 ?_
 refine Zsr ?_
 refine Za ?_
 refine Znn ?_
 refine Zsq ?_
 refine Zsr ?_
 refine Zm ?_
 refine Zv (.bool true) (fun _ fr => x_seql Try.underlying23 rfl (fr.ev rfl) rfl rfl) ?_
 refine Znn ?_
 refine Zct ?_
 refine Zsr ?_
 refine Za ?_
 refine Znn ?_
 refine Zrt ?_
 refine Zr1 ?_
 refine Zre rfl [_] ⟨rfl, trivial⟩ ?_
 exact ⟨_, rfl, rfl, rfl⟩
set_option maxRecDepth 100000 in
set_option maxHeartbeats 4000000 in
theorem clonem_some {w : World} {A : Option Addr} {cap : Nat} {l : List Msg} (hV : View msgE w A cap l) {ad : Addr} (hA : A = some ad) (hl : l.length ≤ 1000000) : Calls Try.prog 56 #[.slice A l.length cap] w (Ret fun v w' => ∃ A' cap', v = .slice A' (l).length cap' ∧ Own msgE w' A' cap' (l) ∧ (∀ g, inA A' g → w.heap.size ≤ g) ∧ New w w') := by
 have hVl := hV.len
 unfold maxLen at hVl
 have hF := Only.refl (fun _ => False) w
 refine Zen 8 Try.func56 ?_
 refine Zsr ?_
 refine Za ?_
 refine Znn ?_
 refine Zsq ?_
 refine Zsr ?_
 refine Zm ?_
 refine Zv (.bool false) (fun _ fr => x_seql Try.underlying23 rfl (fr.ev rfl) rfl (by rw [hA]; rfl)) ?_
 refine Znn ?_
 refine Zcf ?_
 refine Zsk ?_
 refine Znx ?_
 refine Zsr ?_
 intro a fr
 refine fx_build0 (E := msgE) elMsg fr rfl rfl (by decide) rfl ?_
 clear fr a
 intro A1 w2 hN3 O4 hA5
 have gA_A1 := gA_new hF hA5
 refine Zm ?_
 intro a fr
 replace hV := hV.new hN3
 refine fx_append (E := msgE) (l := []) (l' := l) elMsg fr rfl rfl (by decide) rfl (fr.ev rfl) (fr.ev rfl) (by first | rfl | (simp; done) | (simp; omega)) (by first | rfl | (simp; done) | (simp; omega)) O4 hV (by first | omega | (simp; omega)) (by first | (unfold maxLen; done) | (unfold maxLen; first | omega | (simp only [List.length_append, List.length_cons, List.length_nil]; omega) | (simp; done) | (simp; omega))) ?_
 clear fr a
 intro A6 cap7 w8 O9 hO10 mv11
 replace hF := hF.trNew hN3
 have gA_A6 := gA_moved hF mv11 gA_A1
 clear O4
 refine Za ?_
 refine Znn ?_
 refine Zrt ?_
 refine Zre rfl [_] ⟨rfl, trivial⟩ ?_
 replace hF := hF.locA hO10 gA_A1
 exact ⟨_, rfl, _, _, rfl, O9, fun g hg => (gA_A6 g hg).resolve_left (fun h => h), hF⟩
theorem clonem_c {w : World} {A : Option Addr} {cap : Nat} {l : List Msg} (hV : View msgE w A cap l) (hl : l.length ≤ 1000000) : Calls Try.prog 56 #[.slice A l.length cap] w (Ret fun v w' => ∃ A' cap', v = .slice A' (l).length cap' ∧ Own msgE w' A' cap' (l) ∧ (∀ g, inA A' g → w.heap.size ≤ g) ∧ New w w') := by
  cases hA : A with
  | none =>
    subst hA
    obtain ⟨rfl, rfl⟩ := hV.none_
    refine (clonem_nil w).mono ?_
    rintro e w' ⟨v, rfl, rfl, rfl⟩
    exact ⟨_, rfl, none, 0, rfl, Own.nil, fun g hg => absurd hg (apart_none g), Only.refl _ _⟩
  | some ad =>
    subst hA
    exact clonem_some hV rfl hl
def zv3 : Value := .agg (#[.int .i64 0, .bool false, .bool false, .bool false, .bool false, .bool false, .int .i64 0, .int .i64 0, .int .i64 0, .bool false, .slice none 0 0])
set_option maxRecDepth 100000 in
set_option maxHeartbeats 4000000 in
theorem copied_c {w : World} {Q : Option Addr} {qc : Nat} {d : Ent} (hQ : View msgE w Q qc d.q) (hl : d.q.length ≤ 1000000) : Calls Try.prog 38 #[.agg (entA d (.slice Q d.q.length qc))] w (Ret fun v w' => ∃ Q' qc', v = .agg (entA d (.slice Q' d.q.length qc')) ∧ Own msgE w' Q' qc' d.q ∧ (∀ g, inA Q' g → w.heap.size ≤ g) ∧ New w w') := by
 have hF := Only.refl (fun _ => False) w
 refine Zen 8 Try.func38 ?_
 refine Zsr ?_
 refine Znb (cs := entA d (.slice Q d.q.length qc)) fun b1 w2 hN3 B4 hb5 => ?_
 have g_b1 := Nat.le_trans hF.size hb5
 refine Zna (z := zv3) (cs := #[.int .i64 0, .bool false, .bool false, .bool false, .bool false, .bool false, .int .i64 0, .int .i64 0, .int .i64 0, .bool false, .slice none 0 0]) (by kernel_rfl) fun b6 w7 hN8 B9 hb10 => ?_
 have ne_b1_b6 : NE b1 b6 := NE.mk (Nat.lt_of_lt_of_le B4.lt hb10)
 replace hF := hF.trNew hN3
 have g_b6 := Nat.le_trans hF.size hb10
 refine Znn ?_
 refine Zsr ?_
 refine Zf fo42_7 ?_
 replace B4 := B4.new hN8
 refine Zd (v := .slice Q d.q.length qc) pl23 (B4.cell 10 rfl) ?_
 replace hQ := (hQ.new hN3).new hN8
 refine Zk (args := #[.slice Q d.q.length qc]) cf56 (clonem_c hQ (by omega)) ?_
 rintro v w15 ⟨A11, cap12, rfl, O13, hA14, hN16⟩
 have ap_A11_b1 : Apart A11 b1 := new_apart hA14 B4.lt
 have ap_A11_b6 : Apart A11 b6 := new_apart hA14 B9.lt
 replace hF := hF.trNew hN8
 have gN_A11 := fun g (hg : inA A11 g) => Nat.le_trans hF.size (hA14 g hg)
 refine Zf fo42_7 ?_
 replace B4 := B4.new hN16
 refine Zs1 (cs' := entA ({ d with q := d.q }) (.slice A11 d.q.length cap12)) sz23 B4 (show 10 < 11 by decide) rfl fun w17 hO18 hBq => ?_
 replace B4 := hBq
 clear hBq
 refine Znn ?_
 refine Zsr ?_
 refine Zv _ (fun _ fr => x_loadS ag42 rfl (fr.ev rfl) rfl B4.range) ?_
 replace B9 := (B9.new hN16).only hO18 ne_b1_b6.symm
 refine ZsS sz42 (ent_all _ _ _ _) B9 rfl rfl fun w19 hO20 hBq => ?_
 replace B9 := hBq
 clear hBq
 refine Znn ?_
 refine Zrt ?_
 refine Zre rfl [_] ⟨⟨_, rfl, x_loadV ag42 rfl B9.range⟩, trivial⟩ ?_
 replace hF := ((hF.trNew hN16).loc hO18 (.inr g_b1)).loc hO20 (.inr g_b6)
 replace O13 := (O13.only hO18 (Apart.ne1 ap_A11_b1)).only hO20 (Apart.ne1 ap_A11_b6)
 exact ⟨_, rfl, A11, cap12, rfl, O13, gN_A11, hF⟩
set_option maxRecDepth 100000 in
set_option maxHeartbeats 4000000 in
theorem of_1 {w : World} {b bi r : Nat} (hB : Blk w b 64 #[.pointer (some ⟨bi, 0, none⟩), .map (some r)]) {L : List Slot} {c : Nat} {line : Int} (hMB : MapBlk w r (esOf L) c) {sb : Nat} (hf : (Instr.findNow (.int .u32) (.int .u32 line) (esOf L).toList 0).map (fun q => (match q with | some (_, u) => u | none => .pointer none, q.isSome)) = some (.pointer (some ⟨sb, 0, none⟩), true)) {d : Ent} {Q : Option Addr} {qc : Nat} (hE : Blk w sb 42 (entA d (.slice Q d.q.length qc))) (hQ : View msgE w Q qc d.q) (hl : d.q.length ≤ 1000000) : Calls Try.prog 31 #[.pointer (some ⟨b, 0, none⟩), .int .u32 line] w (Ret fun v w' => ∃ Q' qc', v = .agg (entA d (.slice Q' d.q.length qc')) ∧ Own msgE w' Q' qc' d.q ∧ (∀ g, inA Q' g → w.heap.size ≤ g) ∧ New w w') := by
 have hF := Only.refl (fun _ => False) w
 refine Zen 19 Try.func31 ?_
 refine Zsr ?_
 refine Zna (z := zv3) (cs := #[.int .i64 0, .bool false, .bool false, .bool false, .bool false, .bool false, .int .i64 0, .int .i64 0, .int .i64 0, .bool false, .slice none 0 0]) (by kernel_rfl) fun b1 w2 hN3 B4 hb5 => ?_
 have g_b1 := Nat.le_trans hF.size hb5
 refine Znn ?_
 refine Zsq ?_
 refine Zsr ?_
 refine Zm ?_
 refine Zn ?_
 refine Zf fo64_1 ?_
 replace hB := hB.new hN3
 refine Zd (v := .map (some r)) pl62 (hB.cell 1 rfl) ?_
 refine Zm ?_
 replace hMB := hMB.new hN3
 refine Zv (.pointer (some ⟨sb, 0, none⟩)) (fun _ fr => x_lookup (k := .u32) (ok := false) (v := .pointer (some ⟨sb, 0, none⟩)) (b := true) Try.underlying62 Try.underlying24 rfl (fr.ev rfl) (fr.ev rfl) hMB (z := .pointer none) (by kernel_rfl) hf) ?_
 refine Za ?_
 refine Znn ?_
 refine Zsr ?_
 refine Zm ?_
 refine Zv (.bool true) (fun _ fr => x_pneq Try.underlying78 rfl (fr.ev rfl) rfl rfl) ?_
 refine Znn ?_
 refine Zct ?_
 refine Zsr ?_
 refine Zm ?_
 refine Zn ?_
 replace hE := hE.new hN3
 refine Zv _ (fun _ fr => x_loadS ag42 rfl (fr.ev rfl) rfl hE.range) ?_
 replace hQ := hQ.new hN3
 refine Zk (args := #[.agg (entA d (.slice Q d.q.length qc))]) cf38 (copied_c (d := d) hQ (by omega)) ?_
 rintro v w10 ⟨Q6, qc7, rfl, OQ8, hA9, hN11⟩
 have ap_Q6_b1 : Apart Q6 b1 := new_apart hA9 B4.lt
 replace hF := hF.trNew hN3
 have gN_Q6 := fun g (hg : inA Q6 g) => Nat.le_trans hF.size (hA9 g hg)
 replace B4 := B4.new hN11
 refine ZsS sz42 (ent_all _ _ _ _) B4 rfl rfl fun w12 hO13 hBq => ?_
 replace B4 := hBq
 clear hBq
 refine Znn ?_
 refine Zrt ?_
 refine Zr1 ?_
 refine Zre rfl [_] ⟨⟨_, rfl, x_loadV ag42 rfl B4.range⟩, trivial⟩ ?_
 replace hF := (hF.trNew hN11).loc hO13 (.inr g_b1)
 replace OQ8 := OQ8.only hO13 (Apart.ne1 ap_Q6_b1)
 exact ⟨_, rfl, Q6, qc7, rfl, OQ8, gN_Q6, hF⟩
set_option maxRecDepth 100000 in
set_option maxHeartbeats 4000000 in
theorem of_0 {w : World} {b bi r : Nat} (hB : Blk w b 64 #[.pointer (some ⟨bi, 0, none⟩), .map (some r)]) {L : List Slot} {c : Nat} {line : Int} (hMB : MapBlk w r (esOf L) c) (hf : (Instr.findNow (.int .u32) (.int .u32 line) (esOf L).toList 0).map (fun q => (match q with | some (_, u) => u | none => .pointer none, q.isSome)) = some (.pointer none, false))  : Calls Try.prog 31 #[.pointer (some ⟨b, 0, none⟩), .int .u32 line] w (Ret fun v w' => v = .agg (entA ent0 (.slice none 0 0)) ∧ New w w') := by
 have hF := Only.refl (fun _ => False) w
 refine Zen 19 Try.func31 ?_
 refine Zsr ?_
 refine Zna (z := zv3) (cs := #[.int .i64 0, .bool false, .bool false, .bool false, .bool false, .bool false, .int .i64 0, .int .i64 0, .int .i64 0, .bool false, .slice none 0 0]) (by kernel_rfl) fun b1 w2 hN3 B4 hb5 => ?_
 have g_b1 := Nat.le_trans hF.size hb5
 refine Znn ?_
 refine Zsq ?_
 refine Zsr ?_
 refine Zm ?_
 refine Zn ?_
 refine Zf fo64_1 ?_
 replace hB := hB.new hN3
 refine Zd (v := .map (some r)) pl62 (hB.cell 1 rfl) ?_
 refine Zm ?_
 replace hMB := hMB.new hN3
 refine Zv (.pointer none) (fun _ fr => x_lookup (k := .u32) (ok := false) (v := .pointer none) (b := false) Try.underlying62 Try.underlying24 rfl (fr.ev rfl) (fr.ev rfl) hMB (z := .pointer none) (by kernel_rfl) hf) ?_
 refine Za ?_
 refine Znn ?_
 refine Zsr ?_
 refine Zm ?_
 refine Zv (.bool false) (fun _ fr => x_pneq Try.underlying78 rfl (fr.ev rfl) rfl rfl) ?_
 refine Znn ?_
 refine Zcf ?_
 refine Zsk ?_
 refine Znx ?_
 refine Zsr ?_
 refine Zv (.agg (#[.int .i64 (-1), .bool false, .bool false, .bool false, .bool false, .bool false, .int .i64 0, .int .i64 0, .int .i64 0, .bool false, .slice none 0 0])) (fun _ _ => x_build (cells := #[.int .i64 (-1), .bool false, .bool false, .bool false, .bool false, .bool false, .int .i64 0, .int .i64 0, .int .i64 0, .bool false, .slice none 0 0]) rfl (by kernel_rfl)) ?_
 refine ZsS sz42 (by simp [Value.oneCell']) B4 rfl rfl (ho := rfl) (hy := rfl) fun w6 hO7 hBq => ?_
 replace B4 := hBq
 clear hBq
 refine Znn ?_
 refine Zrt ?_
 refine Zre rfl [_] ⟨⟨_, rfl, x_loadV ag42 rfl B4.range⟩, trivial⟩ ?_
 replace hF := (hF.trNew hN3).loc hO7 (.inr g_b1)
 exact ⟨_, rfl, rfl, hF⟩
theorem of_c {w : World} {b bi r : Nat} (hB : Blk w b 64 #[.pointer (some ⟨bi, 0, none⟩), .map (some r)]) {F : Nat → Prop} {E : List Ent} {L : List Slot} {c : Nat} (hM : EntsAt w F r E L c) (line : Int) (h0 : 0 ≤ line) (hl : (entOf E line.toNat).q.length ≤ 1000000) : Calls Try.prog 31 #[.pointer (some ⟨b, 0, none⟩), .int .u32 line] w (Ret fun v w' => ∃ Q' qc', v = .agg (entA (entOf E line.toNat) (.slice Q' (entOf E line.toNat).q.length qc')) ∧ Own msgE w' Q' qc' (entOf E line.toNat).q ∧ (∀ g, inA Q' g → w.heap.size ≤ g) ∧ New w w') := by
  have hn : line = ((line.toNat : Nat) : Int) := (Int.toNat_of_nonneg h0).symm
  by_cases hk : line.toNat ∈ L.map Slot.k
  · obtain ⟨s, hs, hsk⟩ := List.mem_map.1 hk
    have ha := hM.at_ s hs
    have hf := hM.find_some hs
    rw [hsk] at ha
    rw [hsk, ← hn] at hf
    exact of_1 hB hM.map hf ha.blk ha.q hl
  · have hf := EntsAt.find_none (L := L) hk
    rw [← hn] at hf
    refine (of_0 hB hM.map hf).mono ?_
    rintro e w' ⟨v, rfl, rfl, hn⟩
    rw [hM.no _ hk]
    exact ⟨_, rfl, none, 0, rfl, Own.nil, fun g hg => absurd hg (apart_none g), hn⟩
end Go.Proofs.Ytdiaemlgghfecaa
namespace Go.Proofs.Ytdiaemlgghfecaa
open Go.RowKit
set_option maxRecDepth 100000 in
set_option maxHeartbeats 4000000 in
theorem caught_idle (cl ce : Nat) (w : World) : CallsD Try.prog 30 #[.pointer (some ⟨cl, 0, none⟩), .pointer (some ⟨ce, 0, none⟩)] (.returning) w (fun e u' w' => e = .returned (.tuple #[]) ∧ u' = .returning ∧ w' = w) := by
 refine fx_enterS (args := #[.pointer (some ⟨cl, 0, none⟩), .pointer (some ⟨ce, 0, none⟩)]) Try.func30 rfl (N := (13, [])) (T := [(0, .pointer (some ⟨cl, 0, none⟩)), (1, .pointer (some ⟨ce, 0, none⟩))]) rfl (show 2 ≤ 13 by decide) ⟨rfl, rfl, trivial⟩ rfl rfl (by decide) (fun _ _ => rfl) (u1 := .returning) (rv := .nilIface) (.inl ⟨rfl, rfl, rfl⟩) fun c₀ cs a fr => ?_
 refine wp_block ?_
 refine wp_seq ?_
 refine wp_region_lit ?_
 refine fx_val (v := .bool true) fr rfl rfl (by first | decide | simp) (x_ieqn Try.underlying20 rfl (fr.ev rfl) rfl) ?_
 clear fr a; intro a fr
 refine wpList_nil ?_
 refine fx_next ?_
 refine fx_cond_t fr rfl ?_
 refine wp_region_lit ?_
 refine fx_val (v := .nilIface) fr rfl rfl (by first | decide | simp) (x_assign rfl (fr.ev rfl)) ?_
 clear fr a; intro a fr
 refine wpList_nil ?_
 refine fx_blk ?_
 refine fx_retS fr [] [] rfl trivial rfl ?_
 exact ⟨rfl, rfl, rfl⟩
set_option maxRecDepth 100000 in
set_option maxHeartbeats 4000000 in
theorem caught_stop {w : World} {cl ce : Nat} {y : Value} {x0 : Int} (hC : Blk w cl 23 #[y]) (hK : Blk w ce 37 #[.int .i64 x0]) (ne_cl_ce : NE cl ce) (why : Int) : CallsD Try.prog 30 #[.pointer (some ⟨cl, 0, none⟩), .pointer (some ⟨ce, 0, none⟩)] (.panicking [{ v := .iface 75 (.agg #[.int .i64 why]), recovered := false }]) w (fun e u' w' => e = .returned (.tuple #[]) ∧ u' = .panicking [{ v := .iface 75 (.agg #[.int .i64 why]), recovered := true }] ∧ Blk w' cl 23 #[.slice none 0 0] ∧ Blk w' ce 37 #[.int .i64 why] ∧ Only (fun k => k = cl ∨ k = ce) w w') := by
 have hF := Only.refl (fun k => k = cl ∨ k = ce) w
 refine fx_enterS (args := #[.pointer (some ⟨cl, 0, none⟩), .pointer (some ⟨ce, 0, none⟩)]) Try.func30 rfl (N := (13, [])) (T := [(0, .pointer (some ⟨cl, 0, none⟩)), (1, .pointer (some ⟨ce, 0, none⟩))]) rfl (show 2 ≤ 13 by decide) ⟨rfl, rfl, trivial⟩ rfl rfl (by decide) (fun _ _ => rfl) (u1 := .panicking [{ v := .iface 75 (.agg #[.int .i64 why]), recovered := true }]) (rv := .iface 75 (.agg #[.int .i64 why])) (.inr ⟨rfl, rfl⟩) fun c₀ cs a fr => ?_
 refine wp_block ?_
 refine wp_seq ?_
 refine wp_region_lit ?_
 refine fx_val (v := .bool false) fr rfl rfl (by first | decide | simp) (x_ieql Try.underlying20 rfl (fr.ev rfl) rfl) ?_
 clear fr a; intro a fr
 refine wpList_nil ?_
 refine fx_next ?_
 refine fx_cond_f fr rfl ?_
 refine wp_seq ?_
 refine wp_region_lit ?_
 refine fx_val (v := .tuple #[.agg (#[.int .i64 why]), .bool true]) fr rfl rfl (by first | decide | simp) (x_typeAssert rfl (fr.ev rfl) Try.underlying75 rfl) ?_
 clear fr a; intro a fr
 refine fx_val (v := .bool true) fr rfl rfl (by first | decide | simp) (x_extract rfl (fr.ev rfl) rfl) ?_
 clear fr a; intro a fr
 refine fx_val (v := .agg (#[.int .i64 why])) fr rfl rfl (by first | decide | simp) (x_extract rfl (fr.ev rfl) rfl) ?_
 clear fr a; intro a fr
 refine wpList_nil ?_
 refine fx_next ?_
 refine fx_cond_t fr rfl ?_
 refine wp_seq ?_
 refine wp_region_lit ?_
 refine fx_new fr rfl rfl (by first | decide | simp) (x_alloc (z := .agg (#[.int .i64 0])) (cs := #[.int .i64 0]) rfl (by kernel_rfl) rfl) ?_
 clear fr a
 intro b1 w2 hN3 B4 hb5 a fr
 have ne_cl_b1 : NE cl b1 := NE.mk (Nat.lt_of_lt_of_le hC.lt hb5)
 have ne_ce_b1 : NE ce b1 := NE.mk (Nat.lt_of_lt_of_le hK.lt hb5)
 have g_b1 := Nat.le_trans hF.size hb5
 replace hC := hC.new hN3
 replace hK := hK.new hN3
 replace hF := hF.trNew hN3
 refine fx_storeS sz75 rfl rfl rfl (fr.ev rfl) (fr.ev rfl) (by simp [Value.oneCell']) B4 rfl rfl fun w6 hO7 hBq => ?_
 replace hC := hC.only hO7 (by first | exact ne_cl_b1 | exact ne_b1_cl.symm | (show ¬ cl = b1; omega))
 replace hK := hK.only hO7 (by first | exact ne_ce_b1 | exact ne_b1_ce.symm | (show ¬ ce = b1; omega))
 replace hF := hF.loc hO7 (.inr g_b1)
 replace B4 := hBq
 clear hBq
 refine wpList_nil ?_
 refine fx_next ?_
 refine fx_heldT (n := 3) (k := 3) (fun w => Blk w ce 37 #[.int .i64 x0] ∧ Blk w b1 75 (#[.int .i64 why]) ∧ True) (by kernel_rfl) (by kernel_rfl) rfl ?_
 intro w8 hN9
 replace hC := hC.new hN9
 replace hK := hK.new hN9
 replace B4 := B4.new hN9
 replace hF := hF.trNew hN9
 refine fx_take (i := 0) (v := .pointer (some ⟨b1, 0, none⟩)) fr rfl (by kernel_rfl) rfl rfl (by first | decide | simp) (fun _ _ _ h => h) (fun _ ⟨hK, B4, _⟩ => x_fieldAddr fo75_0 rfl (fr.ev rfl) rfl) ⟨hK, B4, trivial⟩ ?_
 clear fr a; intro a fr
 refine fx_take (i := 1) (v := .int .i64 why) fr rfl (by kernel_rfl) rfl rfl (by first | decide | simp) (fun _ _ _ h => h) (fun _ ⟨hK, B4, _⟩ => x_load1 pl37 rfl (fr.ev rfl) (B4.cell 0 rfl)) ⟨hK, B4, trivial⟩ ?_
 clear fr a; intro a fr
 refine fx_one (i := 2) (by kernel_rfl) (fx_op rfl ?_)
 refine fx_store1 sz23 rfl rfl rfl (fr.ev rfl) rfl rfl hC (show 0 < 1 by decide) (cs' := #[.slice none 0 0]) rfl fun w10 hO11 hBq => ?_
 replace hK := hK.only hO11 (by first | exact ne_ce_cl | exact ne_cl_ce.symm | (show ¬ ce = cl; omega))
 replace B4 := B4.only hO11 (by first | exact ne_b1_cl | exact ne_cl_b1.symm | (show ¬ b1 = cl; omega))
 replace hF := hF.loc hO11 (.inl (.inl rfl))
 replace hC := hBq
 clear hBq
 refine wpList_nil ?_
 refine ⟨⟨hK, B4, trivial⟩, ?_⟩
 refine fx_hdone (by kernel_rfl) ?_
 refine fx_tail ?_
 refine fx_store1 sz37 rfl rfl rfl (fr.ev rfl) (fr.ev rfl) rfl hK (show 0 < 1 by decide) (cs' := #[.int .i64 why]) rfl fun w12 hO13 hBq => ?_
 replace B4 := B4.only hO13 (by first | exact ne_b1_ce | exact ne_ce_b1.symm | (show ¬ b1 = ce; omega))
 replace hC := hC.only hO13 (by first | exact ne_cl_ce | exact ne_ce_cl.symm | (show ¬ cl = ce; omega))
 replace hF := hF.loc hO13 (.inl (.inr rfl))
 replace hK := hBq
 clear hBq
 refine wpList_nil ?_
 refine fx_blk ?_
 refine fx_retS fr [] [] rfl trivial rfl ?_
 exact ⟨rfl, rfl, hC, hK, hF⟩
end Go.Proofs.Ytdiaemlgghfecaa
namespace Go.Proofs.Ytdiaemlgghfecaa
open Go.RowKit
set_option maxRecDepth 100000 in
set_option maxHeartbeats 4000000 in
theorem take_a1 {w : World} {Fp : Nat → Prop} {b : Nat} {h : HD} (H : HomeAt w Fp b h) (m : Msg) (hx : chk m ≠ 0) : Calls Try.prog 12 #[.pointer (some ⟨b, 0, none⟩), .agg (msgE.arr m)] w (Ret fun v w' => v = .tuple #[.slice none 0 0, .int .i64 2] ∧ HomeAt w' Fp b h ∧ New w w') := by
 have H0 := H
 obtain ⟨bi, ig, cap, r, FpE, L, c, hB, hI, hM, hP, hEn⟩ := H0
 have hmn := m.hn
 have hpos := hI.pos
 have ne_b_bi := hP.ne_b_bi
 have ne_b_ig := hP.ne_b_ig
 have ne_bi_ig : NE bi ig := hI.ne
 have ap_FpE_b := hP.fb
 have ap_FpE_bi := hP.fbi
 have ap_FpE_ig := hP.fig
 have hrE := (hM.foot r).2 (.inl rfl)
 have gA_FpE := fun g (hg : FpE g) => (Or.inl trivial : True ∨ w.heap.size ≤ g)
 have gA_Fp := fun g (hg : Fp g) => (Or.inl trivial : True ∨ w.heap.size ≤ g)
 have hF := Only.refl (fun _ => False) w
 refine fx_enterD Try.func12 rfl (N := (71, [])) (T := [(0, .pointer (some ⟨b, 0, none⟩)), (1, .agg (msgE.arr m))]) rfl (show 2 ≤ 71 by decide) ⟨rfl, rfl, trivial⟩ fun a fr => ?_
 refine wp_seq ?_
 refine wp_region_lit ?_
 refine fx_new fr rfl rfl (by first | decide | simp) (x_box (cs := msgE.arr m) rfl (fr.ev rfl) rfl) ?_
 clear fr a
 intro b1 w2 hN3 B4 hb5 a fr
 have ne_b_b1 : NE b b1 := NE.mk (Nat.lt_of_lt_of_le hB.lt hb5)
 have ne_bi_b1 : NE bi b1 := NE.mk (Nat.lt_of_lt_of_le hI.lt.1 hb5)
 have ne_ig_b1 : NE ig b1 := NE.mk (Nat.lt_of_lt_of_le hI.lt.2 hb5)
 have ap_FpE_b1 : ¬ FpE b1 := hM.apart hb5
 have ap_Fp_b1 : ¬ Fp b1 := H.apart hb5
 have g_b1 := Nat.le_trans hF.size hb5
 replace hB := hB.new hN3
 replace hI := hI.new hN3
 replace hM := hM.new hN3
 replace H := H.new hN3
 replace hF := hF.trNew hN3
 refine fx_new fr rfl rfl (by first | decide | simp) (x_alloc (z := .slice none 0 0) (cs := #[.slice none 0 0]) rfl (by kernel_rfl) rfl) ?_
 clear fr a
 intro b6 w7 hN8 B9 hb10 a fr
 have ne_b_b6 : NE b b6 := NE.mk (Nat.lt_of_lt_of_le hB.lt hb10)
 have ne_bi_b6 : NE bi b6 := NE.mk (Nat.lt_of_lt_of_le hI.lt.1 hb10)
 have ne_ig_b6 : NE ig b6 := NE.mk (Nat.lt_of_lt_of_le hI.lt.2 hb10)
 have ap_FpE_b6 : ¬ FpE b6 := hM.apart hb10
 have ap_Fp_b6 : ¬ Fp b6 := H.apart hb10
 have ne_b1_b6 : NE b1 b6 := NE.mk (Nat.lt_of_lt_of_le B4.lt hb10)
 have g_b6 := Nat.le_trans hF.size hb10
 replace hB := hB.new hN8
 replace hI := hI.new hN8
 replace hM := hM.new hN8
 replace H := H.new hN8
 replace B4 := B4.new hN8
 replace hF := hF.trNew hN8
 refine fx_new fr rfl rfl (by first | decide | simp) (x_alloc (z := .int .i64 0) (cs := #[.int .i64 0]) rfl (by kernel_rfl) rfl) ?_
 clear fr a
 intro b11 w12 hN13 B14 hb15 a fr
 have ne_b_b11 : NE b b11 := NE.mk (Nat.lt_of_lt_of_le hB.lt hb15)
 have ne_bi_b11 : NE bi b11 := NE.mk (Nat.lt_of_lt_of_le hI.lt.1 hb15)
 have ne_ig_b11 : NE ig b11 := NE.mk (Nat.lt_of_lt_of_le hI.lt.2 hb15)
 have ap_FpE_b11 : ¬ FpE b11 := hM.apart hb15
 have ap_Fp_b11 : ¬ Fp b11 := H.apart hb15
 have ne_b1_b11 : NE b1 b11 := NE.mk (Nat.lt_of_lt_of_le B4.lt hb15)
 have ne_b6_b11 : NE b6 b11 := NE.mk (Nat.lt_of_lt_of_le B9.lt hb15)
 have g_b11 := Nat.le_trans hF.size hb15
 replace hB := hB.new hN13
 replace hI := hI.new hN13
 replace hM := hM.new hN13
 replace H := H.new hN13
 replace B4 := B4.new hN13
 replace B9 := B9.new hN13
 replace hF := hF.trNew hN13
 refine wpList_nil ?_
 refine fx_next ?_
 refine wp_seq ?_
 refine wp_block ?_
 refine wp_seq ?_
 refine wp_region_lit ?_
 refine fx_val (v := .pointer (some ⟨b, 0, none⟩)) fr rfl rfl (by first | decide | simp) (x_move rfl (fr.ev rfl)) ?_
 clear fr a; intro a fr
 refine fx_call fr rfl rfl (by first | decide | simp) (x_call (vs := [.pointer (some ⟨b, 0, none⟩)]) rfl rfl ⟨(fr.ev rfl), trivial⟩ Try.func27 nm27 rfl) (hnone_c hB) ?_
 clear fr a
 rintro v w9 ⟨rfl, hw9⟩ a fr
 obtain rfl := hw9.symm
 refine fx_val (v := .bool false) fr rfl rfl (by first | decide | simp) (x_assign rfl (fr.ev rfl)) ?_
 clear fr a; intro a fr
 refine wpList_nil ?_
 refine fx_next ?_
 refine fx_cond_f fr rfl ?_
 refine wp_seq ?_
 refine wp_region_lit ?_
 refine fx_val (v := .agg (msgE.arr m)) fr rfl rfl (by first | decide | simp) (x_loadE (E := msgE) ag36 rfl rfl (fr.ev rfl) (B4.rangeE msgE)) ?_
 clear fr a; intro a fr
 refine fx_call fr rfl rfl (by first | decide | simp) (x_call (vs := [.agg (msgE.arr m)]) rfl rfl ⟨(fr.ev rfl), trivial⟩ Try.func29 nm29 rfl) (chk_c m _) ?_
 clear fr a
 rintro v w18 ⟨rfl, hN19⟩ a fr
 replace hB := hB.new hN19
 replace hI := hI.new hN19
 replace hM := hM.new hN19
 replace H := H.new hN19
 replace B4 := B4.new hN19
 replace B9 := B9.new hN19
 replace B14 := B14.new hN19
 replace hF := hF.trNew hN19
 refine fx_val (v := .bool true) fr rfl rfl (by first | decide | simp) (x_neq rfl (fr.ev rfl) rfl (decide_eq_true hx)) ?_
 clear fr a; intro a fr
 refine fx_val (v := .bool true) fr rfl rfl (by first | decide | simp) (x_move rfl (fr.ev rfl)) ?_
 clear fr a; intro a fr
 refine fx_skip fr (fr.unwant rfl rfl rfl (by decide)) rfl (by first | decide | simp) ?_
 clear fr a; intro a fr
 refine fx_skip fr (fr.unwant rfl rfl rfl (by decide)) rfl (by first | decide | simp) ?_
 clear fr a; intro a fr
 refine fx_skip fr (fr.unwant rfl rfl rfl (by decide)) rfl (by first | decide | simp) ?_
 clear fr a; intro a fr
 refine fx_val (v := .bool true) fr rfl rfl (by first | decide | simp) (x_pick_t rfl (fr.ev rfl) rfl) ?_
 clear fr a; intro a fr
 refine fx_val (v := .bool true) fr rfl rfl (by first | decide | simp) (x_assign rfl (fr.ev rfl)) ?_
 clear fr a; intro a fr
 refine wpList_nil ?_
 refine fx_next ?_
 refine fx_cond_t fr rfl ?_
 refine wp_seq ?_
 refine wp_region_lit ?_
 refine fx_store1 sz23 rfl rfl rfl (fr.ev rfl) rfl rfl B9 (show 0 < 1 by decide) (cs' := #[.slice none 0 0]) rfl fun w20 hO21 hBq => ?_
 replace hB := hB.only hO21 (by first | exact ne_b_b6 | exact ne_b6_b.symm | (show ¬ b = b6; omega))
 replace hI := hI.only hO21 (by first | exact ne_bi_b6 | exact ne_b6_bi.symm | (show ¬ bi = b6; omega)) (by first | exact ne_ig_b6 | exact ne_b6_ig.symm | (show ¬ ig = b6; omega))
 replace hM := hM.only hO21 (ne1P ap_FpE_b6)
 replace H := H.only hO21 (ne1P ap_Fp_b6)
 replace B4 := B4.only hO21 (by first | exact ne_b1_b6 | exact ne_b6_b1.symm | (show ¬ b1 = b6; omega))
 replace B14 := B14.only hO21 (by first | exact ne_b11_b6 | exact ne_b6_b11.symm | (show ¬ b11 = b6; omega))
 replace hF := hF.loc hO21 (.inr g_b6)
 replace B9 := hBq
 clear hBq
 refine fx_store1 sz37 rfl rfl rfl (fr.ev rfl) rfl rfl B14 (show 0 < 1 by decide) (cs' := #[.int .i64 2]) rfl fun w22 hO23 hBq => ?_
 replace hB := hB.only hO23 (by first | exact ne_b_b11 | exact ne_b11_b.symm | (show ¬ b = b11; omega))
 replace hI := hI.only hO23 (by first | exact ne_bi_b11 | exact ne_b11_bi.symm | (show ¬ bi = b11; omega)) (by first | exact ne_ig_b11 | exact ne_b11_ig.symm | (show ¬ ig = b11; omega))
 replace hM := hM.only hO23 (ne1P ap_FpE_b11)
 replace H := H.only hO23 (ne1P ap_Fp_b11)
 replace B4 := B4.only hO23 (by first | exact ne_b1_b11 | exact ne_b11_b1.symm | (show ¬ b1 = b11; omega))
 replace B9 := B9.only hO23 (by first | exact ne_b6_b11 | exact ne_b11_b6.symm | (show ¬ b6 = b11; omega))
 replace hF := hF.loc hO23 (.inr g_b11)
 replace B14 := hBq
 clear hBq
 refine wpList_nil ?_
 refine fx_next ?_
 refine wp_ret ?_
 refine fx_rb ?_
 refine fx_rt ?_
 refine fx_retD0 fr [.cell 4 23, .cell 5 37] [.slice none 0 0, .int .i64 2] rfl ⟨⟨_, rfl, x_loadV1 pl23 (B9.cell 0 rfl)⟩, ⟨_, rfl, x_loadV1 pl37 (B14.cell 0 rfl)⟩, trivial⟩ rfl ?_
 exact ⟨_, rfl, rfl, H, hF⟩
set_option maxRecDepth 100000 in
set_option maxHeartbeats 4000000 in
theorem take_a2 {w : World} {Fp : Nat → Prop} {b : Nat} {h : HD} (H : HomeAt w Fp b h) (m : Msg) (hc : ¬ chk m ≠ 0) (hx : m.dst ≠ 4) : Calls Try.prog 12 #[.pointer (some ⟨b, 0, none⟩), .agg (msgE.arr m)] w (Ret fun v w' => v = .tuple #[.slice none 0 0, .int .i64 2] ∧ HomeAt w' Fp b h ∧ New w w') := by
 have H0 := H
 obtain ⟨bi, ig, cap, r, FpE, L, c, hB, hI, hM, hP, hEn⟩ := H0
 have hmn := m.hn
 have hpos := hI.pos
 have ne_b_bi := hP.ne_b_bi
 have ne_b_ig := hP.ne_b_ig
 have ne_bi_ig : NE bi ig := hI.ne
 have ap_FpE_b := hP.fb
 have ap_FpE_bi := hP.fbi
 have ap_FpE_ig := hP.fig
 have hrE := (hM.foot r).2 (.inl rfl)
 have gA_FpE := fun g (hg : FpE g) => (Or.inl trivial : True ∨ w.heap.size ≤ g)
 have gA_Fp := fun g (hg : Fp g) => (Or.inl trivial : True ∨ w.heap.size ≤ g)
 have hF := Only.refl (fun _ => False) w
 refine fx_enterD Try.func12 rfl (N := (71, [])) (T := [(0, .pointer (some ⟨b, 0, none⟩)), (1, .agg (msgE.arr m))]) rfl (show 2 ≤ 71 by decide) ⟨rfl, rfl, trivial⟩ fun a fr => ?_
 refine wp_seq ?_
 refine wp_region_lit ?_
 refine fx_new fr rfl rfl (by first | decide | simp) (x_box (cs := msgE.arr m) rfl (fr.ev rfl) rfl) ?_
 clear fr a
 intro b1 w2 hN3 B4 hb5 a fr
 have ne_b_b1 : NE b b1 := NE.mk (Nat.lt_of_lt_of_le hB.lt hb5)
 have ne_bi_b1 : NE bi b1 := NE.mk (Nat.lt_of_lt_of_le hI.lt.1 hb5)
 have ne_ig_b1 : NE ig b1 := NE.mk (Nat.lt_of_lt_of_le hI.lt.2 hb5)
 have ap_FpE_b1 : ¬ FpE b1 := hM.apart hb5
 have ap_Fp_b1 : ¬ Fp b1 := H.apart hb5
 have g_b1 := Nat.le_trans hF.size hb5
 replace hB := hB.new hN3
 replace hI := hI.new hN3
 replace hM := hM.new hN3
 replace H := H.new hN3
 replace hF := hF.trNew hN3
 refine fx_new fr rfl rfl (by first | decide | simp) (x_alloc (z := .slice none 0 0) (cs := #[.slice none 0 0]) rfl (by kernel_rfl) rfl) ?_
 clear fr a
 intro b6 w7 hN8 B9 hb10 a fr
 have ne_b_b6 : NE b b6 := NE.mk (Nat.lt_of_lt_of_le hB.lt hb10)
 have ne_bi_b6 : NE bi b6 := NE.mk (Nat.lt_of_lt_of_le hI.lt.1 hb10)
 have ne_ig_b6 : NE ig b6 := NE.mk (Nat.lt_of_lt_of_le hI.lt.2 hb10)
 have ap_FpE_b6 : ¬ FpE b6 := hM.apart hb10
 have ap_Fp_b6 : ¬ Fp b6 := H.apart hb10
 have ne_b1_b6 : NE b1 b6 := NE.mk (Nat.lt_of_lt_of_le B4.lt hb10)
 have g_b6 := Nat.le_trans hF.size hb10
 replace hB := hB.new hN8
 replace hI := hI.new hN8
 replace hM := hM.new hN8
 replace H := H.new hN8
 replace B4 := B4.new hN8
 replace hF := hF.trNew hN8
 refine fx_new fr rfl rfl (by first | decide | simp) (x_alloc (z := .int .i64 0) (cs := #[.int .i64 0]) rfl (by kernel_rfl) rfl) ?_
 clear fr a
 intro b11 w12 hN13 B14 hb15 a fr
 have ne_b_b11 : NE b b11 := NE.mk (Nat.lt_of_lt_of_le hB.lt hb15)
 have ne_bi_b11 : NE bi b11 := NE.mk (Nat.lt_of_lt_of_le hI.lt.1 hb15)
 have ne_ig_b11 : NE ig b11 := NE.mk (Nat.lt_of_lt_of_le hI.lt.2 hb15)
 have ap_FpE_b11 : ¬ FpE b11 := hM.apart hb15
 have ap_Fp_b11 : ¬ Fp b11 := H.apart hb15
 have ne_b1_b11 : NE b1 b11 := NE.mk (Nat.lt_of_lt_of_le B4.lt hb15)
 have ne_b6_b11 : NE b6 b11 := NE.mk (Nat.lt_of_lt_of_le B9.lt hb15)
 have g_b11 := Nat.le_trans hF.size hb15
 replace hB := hB.new hN13
 replace hI := hI.new hN13
 replace hM := hM.new hN13
 replace H := H.new hN13
 replace B4 := B4.new hN13
 replace B9 := B9.new hN13
 replace hF := hF.trNew hN13
 refine wpList_nil ?_
 refine fx_next ?_
 refine wp_seq ?_
 refine wp_block ?_
 refine wp_seq ?_
 refine wp_region_lit ?_
 refine fx_val (v := .pointer (some ⟨b, 0, none⟩)) fr rfl rfl (by first | decide | simp) (x_move rfl (fr.ev rfl)) ?_
 clear fr a; intro a fr
 refine fx_call fr rfl rfl (by first | decide | simp) (x_call (vs := [.pointer (some ⟨b, 0, none⟩)]) rfl rfl ⟨(fr.ev rfl), trivial⟩ Try.func27 nm27 rfl) (hnone_c hB) ?_
 clear fr a
 rintro v w9 ⟨rfl, hw9⟩ a fr
 obtain rfl := hw9.symm
 refine fx_val (v := .bool false) fr rfl rfl (by first | decide | simp) (x_assign rfl (fr.ev rfl)) ?_
 clear fr a; intro a fr
 refine wpList_nil ?_
 refine fx_next ?_
 refine fx_cond_f fr rfl ?_
 refine wp_seq ?_
 refine wp_region_lit ?_
 refine fx_val (v := .agg (msgE.arr m)) fr rfl rfl (by first | decide | simp) (x_loadE (E := msgE) ag36 rfl rfl (fr.ev rfl) (B4.rangeE msgE)) ?_
 clear fr a; intro a fr
 refine fx_call fr rfl rfl (by first | decide | simp) (x_call (vs := [.agg (msgE.arr m)]) rfl rfl ⟨(fr.ev rfl), trivial⟩ Try.func29 nm29 rfl) (chk_c m _) ?_
 clear fr a
 rintro v w18 ⟨rfl, hN19⟩ a fr
 replace hB := hB.new hN19
 replace hI := hI.new hN19
 replace hM := hM.new hN19
 replace H := H.new hN19
 replace B4 := B4.new hN19
 replace B9 := B9.new hN19
 replace B14 := B14.new hN19
 replace hF := hF.trNew hN19
 refine fx_val (v := .bool false) fr rfl rfl (by first | decide | simp) (x_neq rfl (fr.ev rfl) rfl (decide_eq_false hc)) ?_
 clear fr a; intro a fr
 refine fx_val (v := .bool false) fr rfl rfl (by first | decide | simp) (x_move rfl (fr.ev rfl)) ?_
 clear fr a; intro a fr
 refine fx_val (v := .pointer (some ⟨b1, 2, none⟩)) fr (fr.want rfl rfl rfl) rfl (by first | decide | simp) (x_fieldAddr fo36_2 rfl (fr.ev rfl) rfl) ?_
 clear fr a; intro a fr
 refine fx_val (v := .int .i64 m.dst) fr (fr.want rfl rfl rfl) rfl (by first | decide | simp) (x_load1 pl3 rfl (fr.ev rfl) (B4.cell 2 rfl)) ?_
 clear fr a; intro a fr
 refine fx_val (v := .bool true) fr (fr.want rfl rfl rfl) rfl (by first | decide | simp) (x_neq rfl (fr.ev rfl) rfl (decide_eq_true hx)) ?_
 clear fr a; intro a fr
 refine fx_val (v := .bool true) fr rfl rfl (by first | decide | simp) (x_pick_f rfl (fr.ev rfl) (fr.ev rfl)) ?_
 clear fr a; intro a fr
 refine fx_val (v := .bool true) fr rfl rfl (by first | decide | simp) (x_assign rfl (fr.ev rfl)) ?_
 clear fr a; intro a fr
 refine wpList_nil ?_
 refine fx_next ?_
 refine fx_cond_t fr rfl ?_
 refine wp_seq ?_
 refine wp_region_lit ?_
 refine fx_store1 sz23 rfl rfl rfl (fr.ev rfl) rfl rfl B9 (show 0 < 1 by decide) (cs' := #[.slice none 0 0]) rfl fun w20 hO21 hBq => ?_
 replace hB := hB.only hO21 (by first | exact ne_b_b6 | exact ne_b6_b.symm | (show ¬ b = b6; omega))
 replace hI := hI.only hO21 (by first | exact ne_bi_b6 | exact ne_b6_bi.symm | (show ¬ bi = b6; omega)) (by first | exact ne_ig_b6 | exact ne_b6_ig.symm | (show ¬ ig = b6; omega))
 replace hM := hM.only hO21 (ne1P ap_FpE_b6)
 replace H := H.only hO21 (ne1P ap_Fp_b6)
 replace B4 := B4.only hO21 (by first | exact ne_b1_b6 | exact ne_b6_b1.symm | (show ¬ b1 = b6; omega))
 replace B14 := B14.only hO21 (by first | exact ne_b11_b6 | exact ne_b6_b11.symm | (show ¬ b11 = b6; omega))
 replace hF := hF.loc hO21 (.inr g_b6)
 replace B9 := hBq
 clear hBq
 refine fx_store1 sz37 rfl rfl rfl (fr.ev rfl) rfl rfl B14 (show 0 < 1 by decide) (cs' := #[.int .i64 2]) rfl fun w22 hO23 hBq => ?_
 replace hB := hB.only hO23 (by first | exact ne_b_b11 | exact ne_b11_b.symm | (show ¬ b = b11; omega))
 replace hI := hI.only hO23 (by first | exact ne_bi_b11 | exact ne_b11_bi.symm | (show ¬ bi = b11; omega)) (by first | exact ne_ig_b11 | exact ne_b11_ig.symm | (show ¬ ig = b11; omega))
 replace hM := hM.only hO23 (ne1P ap_FpE_b11)
 replace H := H.only hO23 (ne1P ap_Fp_b11)
 replace B4 := B4.only hO23 (by first | exact ne_b1_b11 | exact ne_b11_b1.symm | (show ¬ b1 = b11; omega))
 replace B9 := B9.only hO23 (by first | exact ne_b6_b11 | exact ne_b11_b6.symm | (show ¬ b6 = b11; omega))
 replace hF := hF.loc hO23 (.inr g_b11)
 replace B14 := hBq
 clear hBq
 refine wpList_nil ?_
 refine fx_next ?_
 refine wp_ret ?_
 refine fx_rb ?_
 refine fx_rt ?_
 refine fx_retD0 fr [.cell 4 23, .cell 5 37] [.slice none 0 0, .int .i64 2] rfl ⟨⟨_, rfl, x_loadV1 pl23 (B9.cell 0 rfl)⟩, ⟨_, rfl, x_loadV1 pl37 (B14.cell 0 rfl)⟩, trivial⟩ rfl ?_
 exact ⟨_, rfl, rfl, H, hF⟩
set_option maxRecDepth 100000 in
set_option maxHeartbeats 4000000 in
theorem take_r {w : World} {Fp : Nat → Prop} {b : Nat} {h : HD} (H : HomeAt w Fp b h) (m : Msg) (hc : ¬ chk m ≠ 0) (hx : ¬ m.dst ≠ 4) (hr : ((h.bs.length / 16 : Nat) : Int) ≤ m.line) : Calls Try.prog 12 #[.pointer (some ⟨b, 0, none⟩), .agg (msgE.arr m)] w (Ret fun v w' => v = .tuple #[.slice none 0 0, .int .i64 4] ∧ HomeAt w' Fp b h ∧ New w w') := by
 have H0 := H
 obtain ⟨bi, ig, cap, r, FpE, L, c, hB, hI, hM, hP, hEn⟩ := H0
 have hmn := m.hn
 have hpos := hI.pos
 have ne_b_bi := hP.ne_b_bi
 have ne_b_ig := hP.ne_b_ig
 have ne_bi_ig : NE bi ig := hI.ne
 have ap_FpE_b := hP.fb
 have ap_FpE_bi := hP.fbi
 have ap_FpE_ig := hP.fig
 have hrE := (hM.foot r).2 (.inl rfl)
 have gA_FpE := fun g (hg : FpE g) => (Or.inl trivial : True ∨ w.heap.size ≤ g)
 have gA_Fp := fun g (hg : Fp g) => (Or.inl trivial : True ∨ w.heap.size ≤ g)
 have hF := Only.refl (fun _ => False) w
 refine fx_enterD Try.func12 rfl (N := (71, [])) (T := [(0, .pointer (some ⟨b, 0, none⟩)), (1, .agg (msgE.arr m))]) rfl (show 2 ≤ 71 by decide) ⟨rfl, rfl, trivial⟩ fun a fr => ?_
 refine wp_seq ?_
 refine wp_region_lit ?_
 refine fx_new fr rfl rfl (by first | decide | simp) (x_box (cs := msgE.arr m) rfl (fr.ev rfl) rfl) ?_
 clear fr a
 intro b1 w2 hN3 B4 hb5 a fr
 have ne_b_b1 : NE b b1 := NE.mk (Nat.lt_of_lt_of_le hB.lt hb5)
 have ne_bi_b1 : NE bi b1 := NE.mk (Nat.lt_of_lt_of_le hI.lt.1 hb5)
 have ne_ig_b1 : NE ig b1 := NE.mk (Nat.lt_of_lt_of_le hI.lt.2 hb5)
 have ap_FpE_b1 : ¬ FpE b1 := hM.apart hb5
 have ap_Fp_b1 : ¬ Fp b1 := H.apart hb5
 have g_b1 := Nat.le_trans hF.size hb5
 replace hB := hB.new hN3
 replace hI := hI.new hN3
 replace hM := hM.new hN3
 replace H := H.new hN3
 replace hF := hF.trNew hN3
 refine fx_new fr rfl rfl (by first | decide | simp) (x_alloc (z := .slice none 0 0) (cs := #[.slice none 0 0]) rfl (by kernel_rfl) rfl) ?_
 clear fr a
 intro b6 w7 hN8 B9 hb10 a fr
 have ne_b_b6 : NE b b6 := NE.mk (Nat.lt_of_lt_of_le hB.lt hb10)
 have ne_bi_b6 : NE bi b6 := NE.mk (Nat.lt_of_lt_of_le hI.lt.1 hb10)
 have ne_ig_b6 : NE ig b6 := NE.mk (Nat.lt_of_lt_of_le hI.lt.2 hb10)
 have ap_FpE_b6 : ¬ FpE b6 := hM.apart hb10
 have ap_Fp_b6 : ¬ Fp b6 := H.apart hb10
 have ne_b1_b6 : NE b1 b6 := NE.mk (Nat.lt_of_lt_of_le B4.lt hb10)
 have g_b6 := Nat.le_trans hF.size hb10
 replace hB := hB.new hN8
 replace hI := hI.new hN8
 replace hM := hM.new hN8
 replace H := H.new hN8
 replace B4 := B4.new hN8
 replace hF := hF.trNew hN8
 refine fx_new fr rfl rfl (by first | decide | simp) (x_alloc (z := .int .i64 0) (cs := #[.int .i64 0]) rfl (by kernel_rfl) rfl) ?_
 clear fr a
 intro b11 w12 hN13 B14 hb15 a fr
 have ne_b_b11 : NE b b11 := NE.mk (Nat.lt_of_lt_of_le hB.lt hb15)
 have ne_bi_b11 : NE bi b11 := NE.mk (Nat.lt_of_lt_of_le hI.lt.1 hb15)
 have ne_ig_b11 : NE ig b11 := NE.mk (Nat.lt_of_lt_of_le hI.lt.2 hb15)
 have ap_FpE_b11 : ¬ FpE b11 := hM.apart hb15
 have ap_Fp_b11 : ¬ Fp b11 := H.apart hb15
 have ne_b1_b11 : NE b1 b11 := NE.mk (Nat.lt_of_lt_of_le B4.lt hb15)
 have ne_b6_b11 : NE b6 b11 := NE.mk (Nat.lt_of_lt_of_le B9.lt hb15)
 have g_b11 := Nat.le_trans hF.size hb15
 replace hB := hB.new hN13
 replace hI := hI.new hN13
 replace hM := hM.new hN13
 replace H := H.new hN13
 replace B4 := B4.new hN13
 replace B9 := B9.new hN13
 replace hF := hF.trNew hN13
 refine wpList_nil ?_
 refine fx_next ?_
 refine wp_seq ?_
 refine wp_block ?_
 refine wp_seq ?_
 refine wp_region_lit ?_
 refine fx_val (v := .pointer (some ⟨b, 0, none⟩)) fr rfl rfl (by first | decide | simp) (x_move rfl (fr.ev rfl)) ?_
 clear fr a; intro a fr
 refine fx_call fr rfl rfl (by first | decide | simp) (x_call (vs := [.pointer (some ⟨b, 0, none⟩)]) rfl rfl ⟨(fr.ev rfl), trivial⟩ Try.func27 nm27 rfl) (hnone_c hB) ?_
 clear fr a
 rintro v w9 ⟨rfl, hw9⟩ a fr
 obtain rfl := hw9.symm
 refine fx_val (v := .bool false) fr rfl rfl (by first | decide | simp) (x_assign rfl (fr.ev rfl)) ?_
 clear fr a; intro a fr
 refine wpList_nil ?_
 refine fx_next ?_
 refine fx_cond_f fr rfl ?_
 refine wp_seq ?_
 refine wp_region_lit ?_
 refine fx_val (v := .agg (msgE.arr m)) fr rfl rfl (by first | decide | simp) (x_loadE (E := msgE) ag36 rfl rfl (fr.ev rfl) (B4.rangeE msgE)) ?_
 clear fr a; intro a fr
 refine fx_call fr rfl rfl (by first | decide | simp) (x_call (vs := [.agg (msgE.arr m)]) rfl rfl ⟨(fr.ev rfl), trivial⟩ Try.func29 nm29 rfl) (chk_c m _) ?_
 clear fr a
 rintro v w18 ⟨rfl, hN19⟩ a fr
 replace hB := hB.new hN19
 replace hI := hI.new hN19
 replace hM := hM.new hN19
 replace H := H.new hN19
 replace B4 := B4.new hN19
 replace B9 := B9.new hN19
 replace B14 := B14.new hN19
 replace hF := hF.trNew hN19
 refine fx_val (v := .bool false) fr rfl rfl (by first | decide | simp) (x_neq rfl (fr.ev rfl) rfl (decide_eq_false hc)) ?_
 clear fr a; intro a fr
 refine fx_val (v := .bool false) fr rfl rfl (by first | decide | simp) (x_move rfl (fr.ev rfl)) ?_
 clear fr a; intro a fr
 refine fx_val (v := .pointer (some ⟨b1, 2, none⟩)) fr (fr.want rfl rfl rfl) rfl (by first | decide | simp) (x_fieldAddr fo36_2 rfl (fr.ev rfl) rfl) ?_
 clear fr a; intro a fr
 refine fx_val (v := .int .i64 m.dst) fr (fr.want rfl rfl rfl) rfl (by first | decide | simp) (x_load1 pl3 rfl (fr.ev rfl) (B4.cell 2 rfl)) ?_
 clear fr a; intro a fr
 refine fx_val (v := .bool false) fr (fr.want rfl rfl rfl) rfl (by first | decide | simp) (x_neq rfl (fr.ev rfl) rfl (decide_eq_false hx)) ?_
 clear fr a; intro a fr
 refine fx_val (v := .bool false) fr rfl rfl (by first | decide | simp) (x_pick_f rfl (fr.ev rfl) (fr.ev rfl)) ?_
 clear fr a; intro a fr
 refine fx_val (v := .bool false) fr rfl rfl (by first | decide | simp) (x_assign rfl (fr.ev rfl)) ?_
 clear fr a; intro a fr
 refine wpList_nil ?_
 refine fx_next ?_
 refine fx_cond_f fr rfl ?_
 refine wp_seq ?_
 refine fx_held (n := 7) (fun w => Blk w b 64 #[.pointer (some ⟨bi, 0, none⟩), .map (some r)] ∧ Img 0 w bi ig cap h.bs ∧ EntsAt w FpE r h.E L c ∧ Blk w b1 36 (msgE.arr m) ∧ Blk w b6 23 (#[.slice none 0 0]) ∧ Blk w b11 37 (#[.int .i64 0]) ∧ True) (by kernel_rfl) rfl ?_
 intro w20 hN21
 replace hB := hB.new hN21
 replace hI := hI.new hN21
 replace hM := hM.new hN21
 replace H := H.new hN21
 replace B4 := B4.new hN21
 replace B9 := B9.new hN21
 replace B14 := B14.new hN21
 replace hF := hF.trNew hN21
 refine fx_take (i := 0) (v := .pointer (some ⟨b1, 3, none⟩)) fr rfl (by kernel_rfl) rfl rfl (by first | decide | simp) (fun _ _ _ h => panic_putD (fn := Try.f12) (d := 21) (by decide) h) (fun _ ⟨hB, hI, hM, B4, B9, B14, _⟩ => x_fieldAddr fo36_3 rfl (fr.ev rfl) rfl) ⟨hB, hI, hM, B4, B9, B14, trivial⟩ ?_
 clear fr a; intro a fr
 refine fx_take (i := 1) (v := .int .u32 m.line) fr rfl (by kernel_rfl) rfl rfl (by first | decide | simp) (fun _ _ _ h => panic_putD (fn := Try.f12) (d := 22) (by decide) h) (fun _ ⟨hB, hI, hM, B4, B9, B14, _⟩ => x_load1 pl24 rfl (fr.ev rfl) (B4.cell 3 rfl)) ⟨hB, hI, hM, B4, B9, B14, trivial⟩ ?_
 clear fr a; intro a fr
 refine fx_take (i := 2) (v := .int .i64 m.line) fr rfl (by kernel_rfl) rfl rfl (by first | decide | simp) (fun _ _ _ h => panic_putD (fn := Try.f12) (d := 23) (by decide) h) (fun _ ⟨hB, hI, hM, B4, B9, B14, _⟩ => x_convert Try.underlying24 Try.underlying2 rfl (fr.ev rfl) (i64w (r := m.line) rfl (by omega))) ⟨hB, hI, hM, B4, B9, B14, trivial⟩ ?_
 clear fr a; intro a fr
 refine fx_take (i := 3) (v := .pointer (some ⟨b, 0, none⟩)) fr rfl (by kernel_rfl) rfl rfl (by first | decide | simp) (fun _ _ _ h => panic_putD (fn := Try.f12) (d := 24) (by decide) h) (fun _ ⟨hB, hI, hM, B4, B9, B14, _⟩ => x_move rfl (fr.ev rfl)) ⟨hB, hI, hM, B4, B9, B14, trivial⟩ ?_
 clear fr a; intro a fr
 refine fx_one (i := 4) (by kernel_rfl) (fx_op rfl ?_)
 refine fx_call fr rfl rfl (by first | decide | simp) (x_call (vs := [.pointer (some ⟨b, 0, none⟩)]) rfl rfl ⟨(fr.ev rfl), trivial⟩ Try.func10 nm10 rfl) (lines_r hB hI) ?_
 clear fr a
 rintro v w9 ⟨rfl, hw9⟩ a fr
 obtain rfl := hw9.symm
 refine wpList_nil ?_
 refine ⟨⟨hB, hI, hM, B4, B9, B14, trivial⟩, ?_⟩
 refine fx_take (i := 5) (v := .bool true) fr rfl (by kernel_rfl) rfl rfl (by first | decide | simp) (fun _ _ _ h => panic_putD (fn := Try.f12) (d := 26) (by decide) h) (fun _ ⟨hB, hI, hM, B4, B9, B14, _⟩ => x_geq rfl (fr.ev rfl) (fr.ev rfl) (decide_eq_true hr)) ⟨hB, hI, hM, B4, B9, B14, trivial⟩ ?_
 clear fr a; intro a fr
 refine fx_take (i := 6) (v := .bool true) fr rfl (by kernel_rfl) rfl rfl (by first | decide | simp) (fun _ _ _ h => panic_putD (fn := Try.f12) (d := 20) (by decide) h) (fun _ ⟨hB, hI, hM, B4, B9, B14, _⟩ => x_assign rfl (fr.ev rfl)) ⟨hB, hI, hM, B4, B9, B14, trivial⟩ ?_
 clear fr a; intro a fr
 refine fx_hdone (by kernel_rfl) ?_
 refine fx_next ?_
 refine fx_cond_t fr rfl ?_
 refine wp_seq ?_
 refine wp_region_lit ?_
 refine fx_store1 sz23 rfl rfl rfl (fr.ev rfl) rfl rfl B9 (show 0 < 1 by decide) (cs' := #[.slice none 0 0]) rfl fun w24 hO25 hBq => ?_
 replace hB := hB.only hO25 (by first | exact ne_b_b6 | exact ne_b6_b.symm | (show ¬ b = b6; omega))
 replace hI := hI.only hO25 (by first | exact ne_bi_b6 | exact ne_b6_bi.symm | (show ¬ bi = b6; omega)) (by first | exact ne_ig_b6 | exact ne_b6_ig.symm | (show ¬ ig = b6; omega))
 replace hM := hM.only hO25 (ne1P ap_FpE_b6)
 replace H := H.only hO25 (ne1P ap_Fp_b6)
 replace B4 := B4.only hO25 (by first | exact ne_b1_b6 | exact ne_b6_b1.symm | (show ¬ b1 = b6; omega))
 replace B14 := B14.only hO25 (by first | exact ne_b11_b6 | exact ne_b6_b11.symm | (show ¬ b11 = b6; omega))
 replace hF := hF.loc hO25 (.inr g_b6)
 replace B9 := hBq
 clear hBq
 refine fx_store1 sz37 rfl rfl rfl (fr.ev rfl) rfl rfl B14 (show 0 < 1 by decide) (cs' := #[.int .i64 4]) rfl fun w26 hO27 hBq => ?_
 replace hB := hB.only hO27 (by first | exact ne_b_b11 | exact ne_b11_b.symm | (show ¬ b = b11; omega))
 replace hI := hI.only hO27 (by first | exact ne_bi_b11 | exact ne_b11_bi.symm | (show ¬ bi = b11; omega)) (by first | exact ne_ig_b11 | exact ne_b11_ig.symm | (show ¬ ig = b11; omega))
 replace hM := hM.only hO27 (ne1P ap_FpE_b11)
 replace H := H.only hO27 (ne1P ap_Fp_b11)
 replace B4 := B4.only hO27 (by first | exact ne_b1_b11 | exact ne_b11_b1.symm | (show ¬ b1 = b11; omega))
 replace B9 := B9.only hO27 (by first | exact ne_b6_b11 | exact ne_b11_b6.symm | (show ¬ b6 = b11; omega))
 replace hF := hF.loc hO27 (.inr g_b11)
 replace B14 := hBq
 clear hBq
 refine wpList_nil ?_
 refine fx_next ?_
 refine wp_ret ?_
 refine fx_rb ?_
 refine fx_rt ?_
 refine fx_retD0 fr [.cell 4 23, .cell 5 37] [.slice none 0 0, .int .i64 4] rfl ⟨⟨_, rfl, x_loadV1 pl23 (B9.cell 0 rfl)⟩, ⟨_, rfl, x_loadV1 pl37 (B14.cell 0 rfl)⟩, trivial⟩ rfl ?_
 exact ⟨_, rfl, rfl, H, hF⟩
def takeEs (b : Nat) : Array MapEntry := #[⟨.int .i64 1, .func (.func 32) #[.pointer (some ⟨b, 0, none⟩)] #[], 0⟩, ⟨.int .i64 2, .func (.func 32) #[.pointer (some ⟨b, 0, none⟩)] #[], 1⟩, ⟨.int .i64 3, .func (.func 32) #[.pointer (some ⟨b, 0, none⟩)] #[], 2⟩, ⟨.int .i64 11, .func (.func 33) #[.pointer (some ⟨b, 0, none⟩)] #[], 3⟩, ⟨.int .i64 12, .func (.func 34) #[.pointer (some ⟨b, 0, none⟩)] #[], 4⟩, ⟨.int .i64 13, .func (.func 35) #[.pointer (some ⟨b, 0, none⟩)] #[], 5⟩]
set_option maxRecDepth 100000 in
set_option maxHeartbeats 4000000 in
theorem take_ret {w : World} {Fp : Nat → Prop} {b : Nat} {h : HD} (H : HomeAt w Fp b h) (m : Msg) (hc : ¬ chk m ≠ 0) (hx : ¬ m.dst ≠ 4) (hr : ¬ ((h.bs.length / 16 : Nat) : Int) ≤ m.line) (hql : (entOf h.E m.line.toNat).q.length ≤ 100000) {f : Nat} {fn : Func} (hfn : Try.prog.funcs[f]? = some fn) (hnm : (fn.name == "runtime.NumGoroutine") = false) (hbd : fn.body.isNone = false) (hes : ∀ b, (Instr.findNow (.int .i64) (.int .i64 m.kind) (takeEs b).toList 0).map (fun q => (match q with | some (_, u) => u | none => .nilFunc, q.isSome)) = some (.func (.func f) #[.pointer (some ⟨b, 0, none⟩)] #[], true)) {x : Ent × List UInt8 × List Msg} (hxl : x.2.1.length = h.bs.length) (hcall : ∀ w1 bw be bi ig cap r Q qc, WorkR w1 bw be b bi ig cap r m.line (entOf h.E m.line.toNat) Q qc none 0 [] h.bs → Own msgE w1 Q qc (entOf h.E m.line.toNat).q → Calls Try.prog f #[.pointer (some ⟨bw, 0, none⟩), .agg (msgE.arr m)] w1 (Ret fun v w' => v = .tuple #[] ∧ HRet w1 w' bw be b bi ig cap r m.line Q none [] x))  : Calls Try.prog 12 #[.pointer (some ⟨b, 0, none⟩), .agg (msgE.arr m)] w (Ret fun v w' => TakeH w Fp b (⟨x.2.1, h.E.set m.line.toNat x.1⟩, x.2.2, 0) v w') := by
 obtain ⟨bi, ig, cap, r, FpE, L, c, hB, hI, hM, hP, hEn⟩ := H
 have hmn := m.hn
 have hpos := hI.pos
 have ne_b_bi := hP.ne_b_bi
 have ne_b_ig := hP.ne_b_ig
 have ne_bi_ig : NE bi ig := hI.ne
 have ap_FpE_b := hP.fb
 have ap_FpE_bi := hP.fbi
 have ap_FpE_ig := hP.fig
 have hrE := (hM.foot r).2 (.inl rfl)
 have gA_FpE : ∀ g, FpE g → Fp g ∨ w.heap.size ≤ g := fun g hg => .inl ((hP.foot g).2 (.inr (.inr (.inr hg))))
 have hF := Only.refl (Fp) w
 refine fx_enterD Try.func12 rfl (N := (71, [])) (T := [(0, .pointer (some ⟨b, 0, none⟩)), (1, .agg (msgE.arr m))]) rfl (show 2 ≤ 71 by decide) ⟨rfl, rfl, trivial⟩ fun a fr => ?_
 refine wp_seq ?_
 refine wp_region_lit ?_
 refine fx_new fr rfl rfl (by first | decide | simp) (x_box (cs := msgE.arr m) rfl (fr.ev rfl) rfl) ?_
 clear fr a
 intro b1 w2 hN3 B4 hb5 a fr
 have ne_b_b1 : NE b b1 := NE.mk (Nat.lt_of_lt_of_le hB.lt hb5)
 have ne_bi_b1 : NE bi b1 := NE.mk (Nat.lt_of_lt_of_le hI.lt.1 hb5)
 have ne_ig_b1 : NE ig b1 := NE.mk (Nat.lt_of_lt_of_le hI.lt.2 hb5)
 have ap_FpE_b1 : ¬ FpE b1 := hM.apart hb5
 have g_b1 := Nat.le_trans hF.size hb5
 replace hB := hB.new hN3
 replace hI := hI.new hN3
 replace hM := hM.new hN3
 replace hF := hF.trNew hN3
 refine fx_new fr rfl rfl (by first | decide | simp) (x_alloc (z := .slice none 0 0) (cs := #[.slice none 0 0]) rfl (by kernel_rfl) rfl) ?_
 clear fr a
 intro b6 w7 hN8 B9 hb10 a fr
 have ne_b_b6 : NE b b6 := NE.mk (Nat.lt_of_lt_of_le hB.lt hb10)
 have ne_bi_b6 : NE bi b6 := NE.mk (Nat.lt_of_lt_of_le hI.lt.1 hb10)
 have ne_ig_b6 : NE ig b6 := NE.mk (Nat.lt_of_lt_of_le hI.lt.2 hb10)
 have ap_FpE_b6 : ¬ FpE b6 := hM.apart hb10
 have ne_b1_b6 : NE b1 b6 := NE.mk (Nat.lt_of_lt_of_le B4.lt hb10)
 have g_b6 := Nat.le_trans hF.size hb10
 replace hB := hB.new hN8
 replace hI := hI.new hN8
 replace hM := hM.new hN8
 replace B4 := B4.new hN8
 replace hF := hF.trNew hN8
 refine fx_new fr rfl rfl (by first | decide | simp) (x_alloc (z := .int .i64 0) (cs := #[.int .i64 0]) rfl (by kernel_rfl) rfl) ?_
 clear fr a
 intro b11 w12 hN13 B14 hb15 a fr
 have ne_b_b11 : NE b b11 := NE.mk (Nat.lt_of_lt_of_le hB.lt hb15)
 have ne_bi_b11 : NE bi b11 := NE.mk (Nat.lt_of_lt_of_le hI.lt.1 hb15)
 have ne_ig_b11 : NE ig b11 := NE.mk (Nat.lt_of_lt_of_le hI.lt.2 hb15)
 have ap_FpE_b11 : ¬ FpE b11 := hM.apart hb15
 have ne_b1_b11 : NE b1 b11 := NE.mk (Nat.lt_of_lt_of_le B4.lt hb15)
 have ne_b6_b11 : NE b6 b11 := NE.mk (Nat.lt_of_lt_of_le B9.lt hb15)
 have g_b11 := Nat.le_trans hF.size hb15
 replace hB := hB.new hN13
 replace hI := hI.new hN13
 replace hM := hM.new hN13
 replace B4 := B4.new hN13
 replace B9 := B9.new hN13
 replace hF := hF.trNew hN13
 refine wpList_nil ?_
 refine fx_next ?_
 refine wp_seq ?_
 refine wp_block ?_
 refine wp_seq ?_
 refine wp_region_lit ?_
 refine fx_val (v := .pointer (some ⟨b, 0, none⟩)) fr rfl rfl (by first | decide | simp) (x_move rfl (fr.ev rfl)) ?_
 clear fr a; intro a fr
 refine fx_call fr rfl rfl (by first | decide | simp) (x_call (vs := [.pointer (some ⟨b, 0, none⟩)]) rfl rfl ⟨(fr.ev rfl), trivial⟩ Try.func27 nm27 rfl) (hnone_c hB) ?_
 clear fr a
 rintro v w9 ⟨rfl, hw9⟩ a fr
 obtain rfl := hw9.symm
 refine fx_val (v := .bool false) fr rfl rfl (by first | decide | simp) (x_assign rfl (fr.ev rfl)) ?_
 clear fr a; intro a fr
 refine wpList_nil ?_
 refine fx_next ?_
 refine fx_cond_f fr rfl ?_
 refine wp_seq ?_
 refine wp_region_lit ?_
 refine fx_val (v := .agg (msgE.arr m)) fr rfl rfl (by first | decide | simp) (x_loadE (E := msgE) ag36 rfl rfl (fr.ev rfl) (B4.rangeE msgE)) ?_
 clear fr a; intro a fr
 refine fx_call fr rfl rfl (by first | decide | simp) (x_call (vs := [.agg (msgE.arr m)]) rfl rfl ⟨(fr.ev rfl), trivial⟩ Try.func29 nm29 rfl) (chk_c m _) ?_
 clear fr a
 rintro v w18 ⟨rfl, hN19⟩ a fr
 replace hB := hB.new hN19
 replace hI := hI.new hN19
 replace hM := hM.new hN19
 replace B4 := B4.new hN19
 replace B9 := B9.new hN19
 replace B14 := B14.new hN19
 replace hF := hF.trNew hN19
 refine fx_val (v := .bool false) fr rfl rfl (by first | decide | simp) (x_neq rfl (fr.ev rfl) rfl (decide_eq_false hc)) ?_
 clear fr a; intro a fr
 refine fx_val (v := .bool false) fr rfl rfl (by first | decide | simp) (x_move rfl (fr.ev rfl)) ?_
 clear fr a; intro a fr
 refine fx_val (v := .pointer (some ⟨b1, 2, none⟩)) fr (fr.want rfl rfl rfl) rfl (by first | decide | simp) (x_fieldAddr fo36_2 rfl (fr.ev rfl) rfl) ?_
 clear fr a; intro a fr
 refine fx_val (v := .int .i64 m.dst) fr (fr.want rfl rfl rfl) rfl (by first | decide | simp) (x_load1 pl3 rfl (fr.ev rfl) (B4.cell 2 rfl)) ?_
 clear fr a; intro a fr
 refine fx_val (v := .bool false) fr (fr.want rfl rfl rfl) rfl (by first | decide | simp) (x_neq rfl (fr.ev rfl) rfl (decide_eq_false hx)) ?_
 clear fr a; intro a fr
 refine fx_val (v := .bool false) fr rfl rfl (by first | decide | simp) (x_pick_f rfl (fr.ev rfl) (fr.ev rfl)) ?_
 clear fr a; intro a fr
 refine fx_val (v := .bool false) fr rfl rfl (by first | decide | simp) (x_assign rfl (fr.ev rfl)) ?_
 clear fr a; intro a fr
 refine wpList_nil ?_
 refine fx_next ?_
 refine fx_cond_f fr rfl ?_
 refine wp_seq ?_
 refine fx_held (n := 7) (fun w => Blk w b 64 #[.pointer (some ⟨bi, 0, none⟩), .map (some r)] ∧ Img 0 w bi ig cap h.bs ∧ EntsAt w FpE r h.E L c ∧ Blk w b1 36 (msgE.arr m) ∧ Blk w b6 23 (#[.slice none 0 0]) ∧ Blk w b11 37 (#[.int .i64 0]) ∧ True) (by kernel_rfl) rfl ?_
 intro w20 hN21
 replace hB := hB.new hN21
 replace hI := hI.new hN21
 replace hM := hM.new hN21
 replace B4 := B4.new hN21
 replace B9 := B9.new hN21
 replace B14 := B14.new hN21
 replace hF := hF.trNew hN21
 refine fx_take (i := 0) (v := .pointer (some ⟨b1, 3, none⟩)) fr rfl (by kernel_rfl) rfl rfl (by first | decide | simp) (fun _ _ _ h => panic_putD (fn := Try.f12) (d := 21) (by decide) h) (fun _ ⟨hB, hI, hM, B4, B9, B14, _⟩ => x_fieldAddr fo36_3 rfl (fr.ev rfl) rfl) ⟨hB, hI, hM, B4, B9, B14, trivial⟩ ?_
 clear fr a; intro a fr
 refine fx_take (i := 1) (v := .int .u32 m.line) fr rfl (by kernel_rfl) rfl rfl (by first | decide | simp) (fun _ _ _ h => panic_putD (fn := Try.f12) (d := 22) (by decide) h) (fun _ ⟨hB, hI, hM, B4, B9, B14, _⟩ => x_load1 pl24 rfl (fr.ev rfl) (B4.cell 3 rfl)) ⟨hB, hI, hM, B4, B9, B14, trivial⟩ ?_
 clear fr a; intro a fr
 refine fx_take (i := 2) (v := .int .i64 m.line) fr rfl (by kernel_rfl) rfl rfl (by first | decide | simp) (fun _ _ _ h => panic_putD (fn := Try.f12) (d := 23) (by decide) h) (fun _ ⟨hB, hI, hM, B4, B9, B14, _⟩ => x_convert Try.underlying24 Try.underlying2 rfl (fr.ev rfl) (i64w (r := m.line) rfl (by omega))) ⟨hB, hI, hM, B4, B9, B14, trivial⟩ ?_
 clear fr a; intro a fr
 refine fx_take (i := 3) (v := .pointer (some ⟨b, 0, none⟩)) fr rfl (by kernel_rfl) rfl rfl (by first | decide | simp) (fun _ _ _ h => panic_putD (fn := Try.f12) (d := 24) (by decide) h) (fun _ ⟨hB, hI, hM, B4, B9, B14, _⟩ => x_move rfl (fr.ev rfl)) ⟨hB, hI, hM, B4, B9, B14, trivial⟩ ?_
 clear fr a; intro a fr
 refine fx_one (i := 4) (by kernel_rfl) (fx_op rfl ?_)
 refine fx_call fr rfl rfl (by first | decide | simp) (x_call (vs := [.pointer (some ⟨b, 0, none⟩)]) rfl rfl ⟨(fr.ev rfl), trivial⟩ Try.func10 nm10 rfl) (lines_r hB hI) ?_
 clear fr a
 rintro v w9 ⟨rfl, hw9⟩ a fr
 obtain rfl := hw9.symm
 refine wpList_nil ?_
 refine ⟨⟨hB, hI, hM, B4, B9, B14, trivial⟩, ?_⟩
 refine fx_take (i := 5) (v := .bool false) fr rfl (by kernel_rfl) rfl rfl (by first | decide | simp) (fun _ _ _ h => panic_putD (fn := Try.f12) (d := 26) (by decide) h) (fun _ ⟨hB, hI, hM, B4, B9, B14, _⟩ => x_geq rfl (fr.ev rfl) (fr.ev rfl) (decide_eq_false hr)) ⟨hB, hI, hM, B4, B9, B14, trivial⟩ ?_
 clear fr a; intro a fr
 refine fx_take (i := 6) (v := .bool false) fr rfl (by kernel_rfl) rfl rfl (by first | decide | simp) (fun _ _ _ h => panic_putD (fn := Try.f12) (d := 20) (by decide) h) (fun _ ⟨hB, hI, hM, B4, B9, B14, _⟩ => x_assign rfl (fr.ev rfl)) ⟨hB, hI, hM, B4, B9, B14, trivial⟩ ?_
 clear fr a; intro a fr
 refine fx_hdone (by kernel_rfl) ?_
 refine fx_next ?_
 refine fx_cond_f fr rfl ?_
 refine wp_skip ?_
 refine fx_blk ?_
 refine fx_next ?_
 refine wp_seq ?_
 refine wp_region_lit ?_
 refine fx_val (v := .func (.func 30) #[] #[.pointer (some ⟨b6, 0, none⟩), .pointer (some ⟨b11, 0, none⟩)]) fr rfl rfl (by first | decide | simp) (x_makeFunc (vs := [.pointer (some ⟨b6, 0, none⟩), .pointer (some ⟨b11, 0, none⟩)]) rfl ⟨(fr.ev rfl), (fr.ev rfl), trivial⟩) ?_
 clear fr a; intro a fr
 refine fx_defer fr rfl rfl (x_deferv (vs := []) rfl (fr.ev rfl) trivial) ?_
 clear fr a; intro a fr
 refine wpList_nil ?_
 refine fx_next ?_
 refine wp_seq ?_
 refine wp_region_lit ?_
 refine fx_val (v := .pointer (some ⟨b, 0, none⟩)) fr rfl rfl (by first | decide | simp) (x_move rfl (fr.ev rfl)) ?_
 clear fr a; intro a fr
 refine fx_val (v := .pointer (some ⟨b1, 3, none⟩)) fr rfl rfl (by first | decide | simp) (x_fieldAddr fo36_3 rfl (fr.ev rfl) rfl) ?_
 clear fr a; intro a fr
 refine fx_val (v := .int .u32 m.line) fr rfl rfl (by first | decide | simp) (x_load1 pl24 rfl (fr.ev rfl) (B4.cell 3 rfl)) ?_
 clear fr a; intro a fr
 refine fx_call fr rfl rfl (by first | decide | simp) (x_call (vs := [.pointer (some ⟨b, 0, none⟩), .int .u32 m.line]) rfl rfl ⟨(fr.ev rfl), (fr.ev rfl), trivial⟩ Try.func31 nm31 rfl) (of_c hB hM m.line (by omega) (by omega)) ?_
 clear fr a
 rintro v w28 ⟨Q24, qc25, rfl, OQ26, hA27, hN29⟩ a fr
 have ap_Q24_b : Apart Q24 b := new_apart hA27 hB.lt
 have ap_Q24_bi : Apart Q24 bi := new_apart hA27 hI.lt.1
 have ap_Q24_ig : Apart Q24 ig := new_apart hA27 hI.lt.2
 have ap2_FpE_Q24 : ∀ k, FpE k → inA Q24 k → False := symP (new_apart2P hA27 fun _ hg => hM.lt hg)
 have ap_Q24_b1 : Apart Q24 b1 := new_apart hA27 B4.lt
 have ap_Q24_b6 : Apart Q24 b6 := new_apart hA27 B9.lt
 have ap_Q24_b11 : Apart Q24 b11 := new_apart hA27 B14.lt
 have gA_Q24 := gA_new hF hA27
 have gN_Q24 := fun g (hg : inA Q24 g) => Nat.le_trans hF.size (hA27 g hg)
 replace hB := hB.new hN29
 replace hI := hI.new hN29
 replace hM := hM.new hN29
 replace B4 := B4.new hN29
 replace B9 := B9.new hN29
 replace B14 := B14.new hN29
 replace hF := hF.trNew hN29
 refine fx_new fr rfl rfl (by first | decide | simp) (x_alloc (z := .agg (#[.int .i64 0, .bool false, .bool false, .bool false, .bool false, .bool false, .int .i64 0, .int .i64 0, .int .i64 0, .bool false, .slice none 0 0])) (cs := #[.int .i64 0, .bool false, .bool false, .bool false, .bool false, .bool false, .int .i64 0, .int .i64 0, .int .i64 0, .bool false, .slice none 0 0]) rfl (by kernel_rfl) rfl) ?_
 clear fr a
 intro b30 w31 hN32 B33 hb34 a fr
 have ne_b_b30 : NE b b30 := NE.mk (Nat.lt_of_lt_of_le hB.lt hb34)
 have ne_bi_b30 : NE bi b30 := NE.mk (Nat.lt_of_lt_of_le hI.lt.1 hb34)
 have ne_ig_b30 : NE ig b30 := NE.mk (Nat.lt_of_lt_of_le hI.lt.2 hb34)
 have ap_FpE_b30 : ¬ FpE b30 := hM.apart hb34
 have ne_b1_b30 : NE b1 b30 := NE.mk (Nat.lt_of_lt_of_le B4.lt hb34)
 have ne_b6_b30 : NE b6 b30 := NE.mk (Nat.lt_of_lt_of_le B9.lt hb34)
 have ne_b11_b30 : NE b11 b30 := NE.mk (Nat.lt_of_lt_of_le B14.lt hb34)
 have ap_Q24_b30 : Apart Q24 b30 := OQ26.apart hb34
 have g_b30 := Nat.le_trans hF.size hb34
 replace hB := hB.new hN32
 replace hI := hI.new hN32
 replace hM := hM.new hN32
 replace B4 := B4.new hN32
 replace B9 := B9.new hN32
 replace B14 := B14.new hN32
 replace OQ26 := OQ26.new hN32
 replace hF := hF.trNew hN32
 refine fx_storeS sz42 rfl rfl rfl (fr.ev rfl) (fr.ev rfl) (ent_all _ _ _ _) B33 rfl rfl fun w35 hO36 hBq => ?_
 replace hB := hB.only hO36 (by first | exact ne_b_b30 | exact ne_b30_b.symm | (show ¬ b = b30; omega))
 replace hI := hI.only hO36 (by first | exact ne_bi_b30 | exact ne_b30_bi.symm | (show ¬ bi = b30; omega)) (by first | exact ne_ig_b30 | exact ne_b30_ig.symm | (show ¬ ig = b30; omega))
 replace hM := hM.only hO36 (ne1P ap_FpE_b30)
 replace B4 := B4.only hO36 (by first | exact ne_b1_b30 | exact ne_b30_b1.symm | (show ¬ b1 = b30; omega))
 replace B9 := B9.only hO36 (by first | exact ne_b6_b30 | exact ne_b30_b6.symm | (show ¬ b6 = b30; omega))
 replace B14 := B14.only hO36 (by first | exact ne_b11_b30 | exact ne_b30_b11.symm | (show ¬ b11 = b30; omega))
 replace OQ26 := OQ26.only hO36 (Apart.ne1 ap_Q24_b30)
 replace hF := hF.loc hO36 (.inr g_b30)
 replace B33 := hBq
 clear hBq
 refine wpList_nil ?_
 refine fx_next ?_
 refine wp_seq ?_
 refine wp_region_lit ?_
 refine fx_val (v := .pointer (some ⟨b, 0, none⟩)) fr rfl rfl (by first | decide | simp) (x_move rfl (fr.ev rfl)) ?_
 clear fr a; intro a fr
 refine fx_val (v := .pointer (some ⟨b1, 3, none⟩)) fr rfl rfl (by first | decide | simp) (x_fieldAddr fo36_3 rfl (fr.ev rfl) rfl) ?_
 clear fr a; intro a fr
 refine fx_val (v := .int .u32 m.line) fr rfl rfl (by first | decide | simp) (x_load1 pl24 rfl (fr.ev rfl) (B4.cell 3 rfl)) ?_
 clear fr a; intro a fr
 refine fx_val (v := .agg (#[.slice none 0 0, .pointer (some ⟨b30, 0, none⟩), .pointer (some ⟨b, 0, none⟩), .int .u32 m.line])) fr rfl rfl (by first | decide | simp) (x_build (cells := #[.slice none 0 0, .pointer (some ⟨b30, 0, none⟩), .pointer (some ⟨b, 0, none⟩), .int .u32 m.line]) rfl (by simp only [List.map_toArray, List.map_cons, List.map_nil, show a.eval (.tmp 6) = .pointer (some ⟨b30, 0, none⟩) from fr.ev rfl, show a.eval (.tmp 32) = .pointer (some ⟨b, 0, none⟩) from fr.ev rfl, show a.eval (.tmp 34) = .int .u32 m.line from fr.ev rfl]; kernel_rfl)) ?_
 clear fr a; intro a fr
 refine fx_new fr rfl rfl (by first | decide | simp) (x_box (cs := #[.slice none 0 0, .pointer (some ⟨b30, 0, none⟩), .pointer (some ⟨b, 0, none⟩), .int .u32 m.line]) rfl (fr.ev rfl) rfl) ?_
 clear fr a
 intro b37 w38 hN39 B40 hb41 a fr
 have ne_b_b37 : NE b b37 := NE.mk (Nat.lt_of_lt_of_le hB.lt hb41)
 have ne_bi_b37 : NE bi b37 := NE.mk (Nat.lt_of_lt_of_le hI.lt.1 hb41)
 have ne_ig_b37 : NE ig b37 := NE.mk (Nat.lt_of_lt_of_le hI.lt.2 hb41)
 have ap_FpE_b37 : ¬ FpE b37 := hM.apart hb41
 have ne_b1_b37 : NE b1 b37 := NE.mk (Nat.lt_of_lt_of_le B4.lt hb41)
 have ne_b6_b37 : NE b6 b37 := NE.mk (Nat.lt_of_lt_of_le B9.lt hb41)
 have ne_b11_b37 : NE b11 b37 := NE.mk (Nat.lt_of_lt_of_le B14.lt hb41)
 have ap_Q24_b37 : Apart Q24 b37 := OQ26.apart hb41
 have ne_b30_b37 : NE b30 b37 := NE.mk (Nat.lt_of_lt_of_le B33.lt hb41)
 have g_b37 := Nat.le_trans hF.size hb41
 replace hB := hB.new hN39
 replace hI := hI.new hN39
 replace hM := hM.new hN39
 replace B4 := B4.new hN39
 replace B9 := B9.new hN39
 replace B14 := B14.new hN39
 replace OQ26 := OQ26.new hN39
 replace B33 := B33.new hN39
 replace hF := hF.trNew hN39
 refine fx_val (v := .pointer (some ⟨b37, 0, none⟩)) fr rfl rfl (by first | decide | simp) (x_assign rfl (fr.ev rfl)) ?_
 clear fr a; intro a fr
 refine wpList_nil ?_
 refine fx_next ?_
 refine wp_seq ?_
 refine wp_region_lit ?_
 refine fx_makeMap fr rfl rfl rfl (by first | decide | simp) ?_
 clear fr a
 intro r42 w43 hN44 M45 hb46 a fr
 have ne_b_r42 : NE b r42 := NE.mk (Nat.lt_of_lt_of_le hB.lt hb46)
 have ne_bi_r42 : NE bi r42 := NE.mk (Nat.lt_of_lt_of_le hI.lt.1 hb46)
 have ne_ig_r42 : NE ig r42 := NE.mk (Nat.lt_of_lt_of_le hI.lt.2 hb46)
 have ap_FpE_r42 : ¬ FpE r42 := hM.apart hb46
 have ne_b1_r42 : NE b1 r42 := NE.mk (Nat.lt_of_lt_of_le B4.lt hb46)
 have ne_b6_r42 : NE b6 r42 := NE.mk (Nat.lt_of_lt_of_le B9.lt hb46)
 have ne_b11_r42 : NE b11 r42 := NE.mk (Nat.lt_of_lt_of_le B14.lt hb46)
 have ap_Q24_r42 : Apart Q24 r42 := OQ26.apart hb46
 have ne_b30_r42 : NE b30 r42 := NE.mk (Nat.lt_of_lt_of_le B33.lt hb46)
 have ne_b37_r42 : NE b37 r42 := NE.mk (Nat.lt_of_lt_of_le B40.lt hb46)
 have g_r42 := Nat.le_trans hF.size hb46
 replace hB := hB.new hN44
 replace hI := hI.new hN44
 replace hM := hM.new hN44
 replace B4 := B4.new hN44
 replace B9 := B9.new hN44
 replace B14 := B14.new hN44
 replace OQ26 := OQ26.new hN44
 replace B33 := B33.new hN44
 replace B40 := B40.new hN44
 replace hF := hF.trNew hN44
 refine fx_val (v := .pointer (some ⟨b37, 0, none⟩)) fr rfl rfl (by first | decide | simp) (x_move rfl (fr.ev rfl)) ?_
 clear fr a; intro a fr
 refine fx_val (v := .func (.func 32) #[.pointer (some ⟨b37, 0, none⟩)] #[]) fr rfl rfl (by first | decide | simp) (x_makeBound rfl (fr.ev rfl)) ?_
 clear fr a; intro a fr
 refine fx_insert (es' := #[⟨.int .i64 1, .func (.func 32) #[.pointer (some ⟨b37, 0, none⟩)] #[], 0⟩]) Try.underlying84 Try.underlying33 rfl rfl rfl (fr.ev rfl) rfl (fr.ev rfl) M45 rfl rfl fun w47 hO48 hBq => ?_
 replace hB := hB.only hO48 (by first | exact ne_b_r42 | exact ne_r42_b.symm | (show ¬ b = r42; omega))
 replace hI := hI.only hO48 (by first | exact ne_bi_r42 | exact ne_r42_bi.symm | (show ¬ bi = r42; omega)) (by first | exact ne_ig_r42 | exact ne_r42_ig.symm | (show ¬ ig = r42; omega))
 replace hM := hM.only hO48 (ne1P ap_FpE_r42)
 replace B4 := B4.only hO48 (by first | exact ne_b1_r42 | exact ne_r42_b1.symm | (show ¬ b1 = r42; omega))
 replace B9 := B9.only hO48 (by first | exact ne_b6_r42 | exact ne_r42_b6.symm | (show ¬ b6 = r42; omega))
 replace B14 := B14.only hO48 (by first | exact ne_b11_r42 | exact ne_r42_b11.symm | (show ¬ b11 = r42; omega))
 replace OQ26 := OQ26.only hO48 (Apart.ne1 ap_Q24_r42)
 replace B33 := B33.only hO48 (by first | exact ne_b30_r42 | exact ne_r42_b30.symm | (show ¬ b30 = r42; omega))
 replace B40 := B40.only hO48 (by first | exact ne_b37_r42 | exact ne_r42_b37.symm | (show ¬ b37 = r42; omega))
 replace hF := hF.loc hO48 (.inr g_r42)
 replace M45 := hBq
 clear hBq
 refine fx_val (v := .pointer (some ⟨b37, 0, none⟩)) fr rfl rfl (by first | decide | simp) (x_move rfl (fr.ev rfl)) ?_
 clear fr a; intro a fr
 refine fx_val (v := .func (.func 32) #[.pointer (some ⟨b37, 0, none⟩)] #[]) fr rfl rfl (by first | decide | simp) (x_makeBound rfl (fr.ev rfl)) ?_
 clear fr a; intro a fr
 refine fx_insert (es' := #[⟨.int .i64 1, .func (.func 32) #[.pointer (some ⟨b37, 0, none⟩)] #[], 0⟩, ⟨.int .i64 2, .func (.func 32) #[.pointer (some ⟨b37, 0, none⟩)] #[], 1⟩]) Try.underlying84 Try.underlying33 rfl rfl rfl (fr.ev rfl) rfl (fr.ev rfl) M45 rfl rfl fun w49 hO50 hBq => ?_
 replace hB := hB.only hO50 (by first | exact ne_b_r42 | exact ne_r42_b.symm | (show ¬ b = r42; omega))
 replace hI := hI.only hO50 (by first | exact ne_bi_r42 | exact ne_r42_bi.symm | (show ¬ bi = r42; omega)) (by first | exact ne_ig_r42 | exact ne_r42_ig.symm | (show ¬ ig = r42; omega))
 replace hM := hM.only hO50 (ne1P ap_FpE_r42)
 replace B4 := B4.only hO50 (by first | exact ne_b1_r42 | exact ne_r42_b1.symm | (show ¬ b1 = r42; omega))
 replace B9 := B9.only hO50 (by first | exact ne_b6_r42 | exact ne_r42_b6.symm | (show ¬ b6 = r42; omega))
 replace B14 := B14.only hO50 (by first | exact ne_b11_r42 | exact ne_r42_b11.symm | (show ¬ b11 = r42; omega))
 replace OQ26 := OQ26.only hO50 (Apart.ne1 ap_Q24_r42)
 replace B33 := B33.only hO50 (by first | exact ne_b30_r42 | exact ne_r42_b30.symm | (show ¬ b30 = r42; omega))
 replace B40 := B40.only hO50 (by first | exact ne_b37_r42 | exact ne_r42_b37.symm | (show ¬ b37 = r42; omega))
 replace hF := hF.loc hO50 (.inr g_r42)
 replace M45 := hBq
 clear hBq
 refine fx_val (v := .pointer (some ⟨b37, 0, none⟩)) fr rfl rfl (by first | decide | simp) (x_move rfl (fr.ev rfl)) ?_
 clear fr a; intro a fr
 refine fx_val (v := .func (.func 32) #[.pointer (some ⟨b37, 0, none⟩)] #[]) fr rfl rfl (by first | decide | simp) (x_makeBound rfl (fr.ev rfl)) ?_
 clear fr a; intro a fr
 refine fx_insert (es' := #[⟨.int .i64 1, .func (.func 32) #[.pointer (some ⟨b37, 0, none⟩)] #[], 0⟩, ⟨.int .i64 2, .func (.func 32) #[.pointer (some ⟨b37, 0, none⟩)] #[], 1⟩, ⟨.int .i64 3, .func (.func 32) #[.pointer (some ⟨b37, 0, none⟩)] #[], 2⟩]) Try.underlying84 Try.underlying33 rfl rfl rfl (fr.ev rfl) rfl (fr.ev rfl) M45 rfl rfl fun w51 hO52 hBq => ?_
 replace hB := hB.only hO52 (by first | exact ne_b_r42 | exact ne_r42_b.symm | (show ¬ b = r42; omega))
 replace hI := hI.only hO52 (by first | exact ne_bi_r42 | exact ne_r42_bi.symm | (show ¬ bi = r42; omega)) (by first | exact ne_ig_r42 | exact ne_r42_ig.symm | (show ¬ ig = r42; omega))
 replace hM := hM.only hO52 (ne1P ap_FpE_r42)
 replace B4 := B4.only hO52 (by first | exact ne_b1_r42 | exact ne_r42_b1.symm | (show ¬ b1 = r42; omega))
 replace B9 := B9.only hO52 (by first | exact ne_b6_r42 | exact ne_r42_b6.symm | (show ¬ b6 = r42; omega))
 replace B14 := B14.only hO52 (by first | exact ne_b11_r42 | exact ne_r42_b11.symm | (show ¬ b11 = r42; omega))
 replace OQ26 := OQ26.only hO52 (Apart.ne1 ap_Q24_r42)
 replace B33 := B33.only hO52 (by first | exact ne_b30_r42 | exact ne_r42_b30.symm | (show ¬ b30 = r42; omega))
 replace B40 := B40.only hO52 (by first | exact ne_b37_r42 | exact ne_r42_b37.symm | (show ¬ b37 = r42; omega))
 replace hF := hF.loc hO52 (.inr g_r42)
 replace M45 := hBq
 clear hBq
 refine fx_val (v := .pointer (some ⟨b37, 0, none⟩)) fr rfl rfl (by first | decide | simp) (x_move rfl (fr.ev rfl)) ?_
 clear fr a; intro a fr
 refine fx_val (v := .func (.func 33) #[.pointer (some ⟨b37, 0, none⟩)] #[]) fr rfl rfl (by first | decide | simp) (x_makeBound rfl (fr.ev rfl)) ?_
 clear fr a; intro a fr
 refine fx_insert (es' := #[⟨.int .i64 1, .func (.func 32) #[.pointer (some ⟨b37, 0, none⟩)] #[], 0⟩, ⟨.int .i64 2, .func (.func 32) #[.pointer (some ⟨b37, 0, none⟩)] #[], 1⟩, ⟨.int .i64 3, .func (.func 32) #[.pointer (some ⟨b37, 0, none⟩)] #[], 2⟩, ⟨.int .i64 11, .func (.func 33) #[.pointer (some ⟨b37, 0, none⟩)] #[], 3⟩]) Try.underlying84 Try.underlying33 rfl rfl rfl (fr.ev rfl) rfl (fr.ev rfl) M45 rfl rfl fun w53 hO54 hBq => ?_
 replace hB := hB.only hO54 (by first | exact ne_b_r42 | exact ne_r42_b.symm | (show ¬ b = r42; omega))
 replace hI := hI.only hO54 (by first | exact ne_bi_r42 | exact ne_r42_bi.symm | (show ¬ bi = r42; omega)) (by first | exact ne_ig_r42 | exact ne_r42_ig.symm | (show ¬ ig = r42; omega))
 replace hM := hM.only hO54 (ne1P ap_FpE_r42)
 replace B4 := B4.only hO54 (by first | exact ne_b1_r42 | exact ne_r42_b1.symm | (show ¬ b1 = r42; omega))
 replace B9 := B9.only hO54 (by first | exact ne_b6_r42 | exact ne_r42_b6.symm | (show ¬ b6 = r42; omega))
 replace B14 := B14.only hO54 (by first | exact ne_b11_r42 | exact ne_r42_b11.symm | (show ¬ b11 = r42; omega))
 replace OQ26 := OQ26.only hO54 (Apart.ne1 ap_Q24_r42)
 replace B33 := B33.only hO54 (by first | exact ne_b30_r42 | exact ne_r42_b30.symm | (show ¬ b30 = r42; omega))
 replace B40 := B40.only hO54 (by first | exact ne_b37_r42 | exact ne_r42_b37.symm | (show ¬ b37 = r42; omega))
 replace hF := hF.loc hO54 (.inr g_r42)
 replace M45 := hBq
 clear hBq
 refine fx_val (v := .pointer (some ⟨b37, 0, none⟩)) fr rfl rfl (by first | decide | simp) (x_move rfl (fr.ev rfl)) ?_
 clear fr a; intro a fr
 refine fx_val (v := .func (.func 34) #[.pointer (some ⟨b37, 0, none⟩)] #[]) fr rfl rfl (by first | decide | simp) (x_makeBound rfl (fr.ev rfl)) ?_
 clear fr a; intro a fr
 refine fx_insert (es' := #[⟨.int .i64 1, .func (.func 32) #[.pointer (some ⟨b37, 0, none⟩)] #[], 0⟩, ⟨.int .i64 2, .func (.func 32) #[.pointer (some ⟨b37, 0, none⟩)] #[], 1⟩, ⟨.int .i64 3, .func (.func 32) #[.pointer (some ⟨b37, 0, none⟩)] #[], 2⟩, ⟨.int .i64 11, .func (.func 33) #[.pointer (some ⟨b37, 0, none⟩)] #[], 3⟩, ⟨.int .i64 12, .func (.func 34) #[.pointer (some ⟨b37, 0, none⟩)] #[], 4⟩]) Try.underlying84 Try.underlying33 rfl rfl rfl (fr.ev rfl) rfl (fr.ev rfl) M45 rfl rfl fun w55 hO56 hBq => ?_
 replace hB := hB.only hO56 (by first | exact ne_b_r42 | exact ne_r42_b.symm | (show ¬ b = r42; omega))
 replace hI := hI.only hO56 (by first | exact ne_bi_r42 | exact ne_r42_bi.symm | (show ¬ bi = r42; omega)) (by first | exact ne_ig_r42 | exact ne_r42_ig.symm | (show ¬ ig = r42; omega))
 replace hM := hM.only hO56 (ne1P ap_FpE_r42)
 replace B4 := B4.only hO56 (by first | exact ne_b1_r42 | exact ne_r42_b1.symm | (show ¬ b1 = r42; omega))
 replace B9 := B9.only hO56 (by first | exact ne_b6_r42 | exact ne_r42_b6.symm | (show ¬ b6 = r42; omega))
 replace B14 := B14.only hO56 (by first | exact ne_b11_r42 | exact ne_r42_b11.symm | (show ¬ b11 = r42; omega))
 replace OQ26 := OQ26.only hO56 (Apart.ne1 ap_Q24_r42)
 replace B33 := B33.only hO56 (by first | exact ne_b30_r42 | exact ne_r42_b30.symm | (show ¬ b30 = r42; omega))
 replace B40 := B40.only hO56 (by first | exact ne_b37_r42 | exact ne_r42_b37.symm | (show ¬ b37 = r42; omega))
 replace hF := hF.loc hO56 (.inr g_r42)
 replace M45 := hBq
 clear hBq
 refine fx_val (v := .pointer (some ⟨b37, 0, none⟩)) fr rfl rfl (by first | decide | simp) (x_move rfl (fr.ev rfl)) ?_
 clear fr a; intro a fr
 refine fx_val (v := .func (.func 35) #[.pointer (some ⟨b37, 0, none⟩)] #[]) fr rfl rfl (by first | decide | simp) (x_makeBound rfl (fr.ev rfl)) ?_
 clear fr a; intro a fr
 refine fx_insert (es' := #[⟨.int .i64 1, .func (.func 32) #[.pointer (some ⟨b37, 0, none⟩)] #[], 0⟩, ⟨.int .i64 2, .func (.func 32) #[.pointer (some ⟨b37, 0, none⟩)] #[], 1⟩, ⟨.int .i64 3, .func (.func 32) #[.pointer (some ⟨b37, 0, none⟩)] #[], 2⟩, ⟨.int .i64 11, .func (.func 33) #[.pointer (some ⟨b37, 0, none⟩)] #[], 3⟩, ⟨.int .i64 12, .func (.func 34) #[.pointer (some ⟨b37, 0, none⟩)] #[], 4⟩, ⟨.int .i64 13, .func (.func 35) #[.pointer (some ⟨b37, 0, none⟩)] #[], 5⟩]) Try.underlying84 Try.underlying33 rfl rfl rfl (fr.ev rfl) rfl (fr.ev rfl) M45 rfl rfl fun w57 hO58 hBq => ?_
 replace hB := hB.only hO58 (by first | exact ne_b_r42 | exact ne_r42_b.symm | (show ¬ b = r42; omega))
 replace hI := hI.only hO58 (by first | exact ne_bi_r42 | exact ne_r42_bi.symm | (show ¬ bi = r42; omega)) (by first | exact ne_ig_r42 | exact ne_r42_ig.symm | (show ¬ ig = r42; omega))
 replace hM := hM.only hO58 (ne1P ap_FpE_r42)
 replace B4 := B4.only hO58 (by first | exact ne_b1_r42 | exact ne_r42_b1.symm | (show ¬ b1 = r42; omega))
 replace B9 := B9.only hO58 (by first | exact ne_b6_r42 | exact ne_r42_b6.symm | (show ¬ b6 = r42; omega))
 replace B14 := B14.only hO58 (by first | exact ne_b11_r42 | exact ne_r42_b11.symm | (show ¬ b11 = r42; omega))
 replace OQ26 := OQ26.only hO58 (Apart.ne1 ap_Q24_r42)
 replace B33 := B33.only hO58 (by first | exact ne_b30_r42 | exact ne_r42_b30.symm | (show ¬ b30 = r42; omega))
 replace B40 := B40.only hO58 (by first | exact ne_b37_r42 | exact ne_r42_b37.symm | (show ¬ b37 = r42; omega))
 replace hF := hF.loc hO58 (.inr g_r42)
 replace M45 := hBq
 clear hBq
 refine fx_val (v := .map (some r42)) fr rfl rfl (by first | decide | simp) (x_move rfl (fr.ev rfl)) ?_
 clear fr a; intro a fr
 refine fx_val (v := .pointer (some ⟨b1, 0, none⟩)) fr rfl rfl (by first | decide | simp) (x_fieldAddr fo36_0 rfl (fr.ev rfl) rfl) ?_
 clear fr a; intro a fr
 refine fx_val (v := .int .i64 m.kind) fr rfl rfl (by first | decide | simp) (x_load1 pl33 rfl (fr.ev rfl) (B4.cell 0 rfl)) ?_
 clear fr a; intro a fr
 refine fx_val (v := .func (.func f) #[.pointer (some ⟨b37, 0, none⟩)] #[]) fr rfl rfl (by first | decide | simp) (x_lookup (k := .i64) (ok := false) (v := .func (.func f) #[.pointer (some ⟨b37, 0, none⟩)] #[]) (b := true) Try.underlying84 Try.underlying33 rfl (fr.ev rfl) (fr.ev rfl) M45 (z := .nilFunc) (by kernel_rfl) (hes b37)) ?_
 clear fr a; intro a fr
 refine fx_val (v := .agg (msgE.arr m)) fr rfl rfl (by first | decide | simp) (x_loadE (E := msgE) ag36 rfl rfl (fr.ev rfl) (B4.rangeE msgE)) ?_
 clear fr a; intro a fr
 refine fx_call fr rfl rfl (by first | decide | simp) (x_callb (all := #[.pointer (some ⟨b37, 0, none⟩), .agg (msgE.arr m)]) (vs := [.agg (msgE.arr m)]) rfl (fr.ev rfl) ⟨(fr.ev rfl), trivial⟩ rfl hfn hnm hbd) (hcall _ b37 b30 bi ig cap r Q24 qc25 ⟨B40, B33, hB, hI, OQ26.view, Own.nil, ⟨(by first | exact ne_b37_b30 | exact ne_b30_b37.symm), (by first | exact ne_b37_b | exact ne_b_b37.symm), (by first | exact ne_b37_bi | exact ne_bi_b37.symm), (by first | exact ne_b37_ig | exact ne_ig_b37.symm), (by first | exact ne_b30_b | exact ne_b_b30.symm), (by first | exact ne_b30_bi | exact ne_bi_b30.symm), (by first | exact ne_b30_ig | exact ne_ig_b30.symm), (by first | exact ne_b_bi | exact ne_bi_b.symm), (by first | exact ne_b_ig | exact ne_ig_b.symm), (by first | exact ne_bi_ig | exact ne_ig_bi.symm), ap_Q24_b37, ap_Q24_b30, ap_Q24_b, ap_Q24_bi, ap_Q24_ig, (apart_none b37), (apart_none b30), (apart_none b), (apart_none bi), (apart_none ig), (fun k _ h => apart_none k h)⟩⟩ OQ26) ?_
 clear fr a
 rintro v w67 ⟨rfl, Q59, qc60, A61, ac62, R63, mvA64, mvQ65, hN68⟩ a fr
 have ap2_FpE_A61 : ∀ k, FpE k → inA A61 k → False := fun k h1 hk => (mvA64 k hk).elim (fun h => h.elim (apart_none k) (ap2_FpE_Q24 k h1)) (fun h => by have := hM.lt h1; omega)
 have ap2_FpE_Q59 : ∀ k, FpE k → inA Q59 k → False := fun k h1 hk => (mvQ65 k hk).elim (fun h => h.elim (apart_none k) (ap2_FpE_Q24 k h1)) (fun h => by have := hM.lt h1; omega)
 have ap_A61_b1 : Apart A61 b1 := fun hk => (mvA64 b1 hk).elim (fun h => h.elim (apart_none b1) ap_Q24_b1) (fun h => by have := B4.lt; omega)
 have ap_Q59_b1 : Apart Q59 b1 := fun hk => (mvQ65 b1 hk).elim (fun h => h.elim (apart_none b1) ap_Q24_b1) (fun h => by have := B4.lt; omega)
 have ap_A61_b6 : Apart A61 b6 := fun hk => (mvA64 b6 hk).elim (fun h => h.elim (apart_none b6) ap_Q24_b6) (fun h => by have := B9.lt; omega)
 have ap_Q59_b6 : Apart Q59 b6 := fun hk => (mvQ65 b6 hk).elim (fun h => h.elim (apart_none b6) ap_Q24_b6) (fun h => by have := B9.lt; omega)
 have ap_A61_b11 : Apart A61 b11 := fun hk => (mvA64 b11 hk).elim (fun h => h.elim (apart_none b11) ap_Q24_b11) (fun h => by have := B14.lt; omega)
 have ap_Q59_b11 : Apart Q59 b11 := fun hk => (mvQ65 b11 hk).elim (fun h => h.elim (apart_none b11) ap_Q24_b11) (fun h => by have := B14.lt; omega)
 have ap_A61_r42 : Apart A61 r42 := fun hk => (mvA64 r42 hk).elim (fun h => h.elim (apart_none r42) ap_Q24_r42) (fun h => by have := M45.lt; omega)
 have ap_Q59_r42 : Apart Q59 r42 := fun hk => (mvQ65 r42 hk).elim (fun h => h.elim (apart_none r42) ap_Q24_r42) (fun h => by have := M45.lt; omega)
 have gN_A61 : ∀ g, inA A61 g → w.heap.size ≤ g := fun g hg => (mvA64 g hg).elim (fun h => h.elim (fun h => absurd h (apart_none g)) (gN_Q24 g)) (fun h => Nat.le_trans hF.size h)
 have gN_Q59 : ∀ g, inA Q59 g → w.heap.size ≤ g := fun g hg => (mvQ65 g hg).elim (fun h => h.elim (fun h => absurd h (apart_none g)) (gN_Q24 g)) (fun h => Nat.le_trans hF.size h)
 replace hM := hM.only hN68 (fun g hg => (fun h => h.elim ((ne1P ap_FpE_b37) g hg) (fun h => h.elim ((ne1P ap_FpE_b30) g hg) (fun h => h.elim ((ne1P ap_FpE_ig) g hg) (fun h => h.elim ((fun g h1 h2 => (fun k _ h => apart_none k h) g h1 h2) g hg) ((fun g h1 h2 => ap2_FpE_Q24 g h1 h2) g hg))))))
 replace B4 := B4.only hN68 (fun h => h.elim (by first | exact ne_b1_b37 | exact ne_b37_b1.symm | (show ¬ b1 = b37; omega)) (fun h => h.elim (by first | exact ne_b1_b30 | exact ne_b30_b1.symm | (show ¬ b1 = b30; omega)) (fun h => h.elim (by first | exact ne_b1_ig | exact ne_ig_b1.symm | (show ¬ b1 = ig; omega)) (fun h => h.elim (apart_none b1) ap_Q24_b1))))
 replace B9 := B9.only hN68 (fun h => h.elim (by first | exact ne_b6_b37 | exact ne_b37_b6.symm | (show ¬ b6 = b37; omega)) (fun h => h.elim (by first | exact ne_b6_b30 | exact ne_b30_b6.symm | (show ¬ b6 = b30; omega)) (fun h => h.elim (by first | exact ne_b6_ig | exact ne_ig_b6.symm | (show ¬ b6 = ig; omega)) (fun h => h.elim (apart_none b6) ap_Q24_b6))))
 replace B14 := B14.only hN68 (fun h => h.elim (by first | exact ne_b11_b37 | exact ne_b37_b11.symm | (show ¬ b11 = b37; omega)) (fun h => h.elim (by first | exact ne_b11_b30 | exact ne_b30_b11.symm | (show ¬ b11 = b30; omega)) (fun h => h.elim (by first | exact ne_b11_ig | exact ne_ig_b11.symm | (show ¬ b11 = ig; omega)) (fun h => h.elim (apart_none b11) ap_Q24_b11))))
 replace M45 := M45.only hN68 (fun h => h.elim (by first | exact ne_r42_b37 | exact ne_b37_r42.symm | (show ¬ r42 = b37; omega)) (fun h => h.elim (by first | exact ne_r42_b30 | exact ne_b30_r42.symm | (show ¬ r42 = b30; omega)) (fun h => h.elim (by first | exact ne_r42_ig | exact ne_ig_r42.symm | (show ¬ r42 = ig; omega)) (fun h => h.elim (apart_none r42) ap_Q24_r42))))
 replace hF := hF.locS hN68 (fun i => (fun h => h.elim (fun e => by rw [e]; exact (.inr g_b37)) (fun h => h.elim (fun e => by rw [e]; exact (.inr g_b30)) (fun h => h.elim (fun e => by rw [e]; exact (.inl ((hP.foot ig).2 (.inr (.inr (.inl rfl)))))) (fun h => h.elim (fun h => gA_none i h) (fun h => gA_Q24 i h))))))
 clear B40 B33 OQ26 hB hI
 obtain ⟨hW, hE, hB, hI, hQ, O66, hS⟩ := R63
 simp only [List.nil_append] at hW O66
 have ap_A61_b37 := hS.ap_A_bw
 have ap_Q59_b37 := hS.ap_Q_bw
 have ap_A61_b30 := hS.ap_A_be
 have ap_Q59_b30 := hS.ap_Q_be
 have ap_A61_b := hS.ap_A_bh
 have ap_Q59_b := hS.ap_Q_bh
 have ap_A61_bi := hS.ap_A_bi
 have ap_Q59_bi := hS.ap_Q_bi
 have ap_A61_ig := hS.ap_A_ig
 have ap_Q59_ig := hS.ap_Q_ig
 have ap2_Q59_A61 := hS.ap2_Q_A
 refine wpList_nil ?_
 refine fx_next ?_
 refine wp_seq ?_
 refine fx_heldT (n := 10) (k := 10) (fun w => EntsAt w FpE r h.E L c ∧ Blk w b1 36 (msgE.arr m) ∧ Blk w b6 23 (#[.slice none 0 0]) ∧ Blk w b11 37 (#[.int .i64 0]) ∧ MapBlk w r42 #[⟨.int .i64 1, .func (.func 32) #[.pointer (some ⟨b37, 0, none⟩)] #[], 0⟩, ⟨.int .i64 2, .func (.func 32) #[.pointer (some ⟨b37, 0, none⟩)] #[], 1⟩, ⟨.int .i64 3, .func (.func 32) #[.pointer (some ⟨b37, 0, none⟩)] #[], 2⟩, ⟨.int .i64 11, .func (.func 33) #[.pointer (some ⟨b37, 0, none⟩)] #[], 3⟩, ⟨.int .i64 12, .func (.func 34) #[.pointer (some ⟨b37, 0, none⟩)] #[], 4⟩, ⟨.int .i64 13, .func (.func 35) #[.pointer (some ⟨b37, 0, none⟩)] #[], 5⟩] 6 ∧ Blk w b37 82 #[.slice A61 x.2.2.length ac62, .pointer (some ⟨b30, 0, none⟩), .pointer (some ⟨b, 0, none⟩), .int .u32 m.line] ∧ Blk w b30 42 (entA x.1 (.slice Q59 x.1.q.length qc60)) ∧ Blk w b 64 #[.pointer (some ⟨bi, 0, none⟩), .map (some r)] ∧ Img 0 w bi ig cap x.2.1 ∧ View msgE w Q59 qc60 x.1.q ∧ Own msgE w A61 ac62 x.2.2 ∧ True) (by kernel_rfl) (by kernel_rfl) rfl ?_
 intro w69 hN70
 replace hM := hM.new hN70
 replace B4 := B4.new hN70
 replace B9 := B9.new hN70
 replace B14 := B14.new hN70
 replace M45 := M45.new hN70
 replace hW := hW.new hN70
 replace hE := hE.new hN70
 replace hB := hB.new hN70
 replace hI := hI.new hN70
 replace hQ := hQ.new hN70
 replace O66 := O66.new hN70
 replace hF := hF.trNew hN70
 refine fx_take (i := 0) (v := .pointer (some ⟨b, 0, none⟩)) fr rfl (by kernel_rfl) rfl rfl (by first | decide | simp) (fun _ _ _ h => panic_putD (fn := Try.f12) (d := 56) (by decide) h) (fun _ ⟨hM, B4, B9, B14, M45, hW, hE, hB, hI, hQ, O66, _⟩ => x_move rfl (fr.ev rfl)) ⟨hM, B4, B9, B14, M45, hW, hE, hB, hI, hQ, O66, trivial⟩ ?_
 clear fr a; intro a fr
 refine fx_take (i := 1) (v := .pointer (some ⟨b, 0, none⟩)) fr rfl (by kernel_rfl) rfl rfl (by first | decide | simp) (fun _ _ _ h => panic_putD (fn := Try.f12) (d := 57) (by decide) h) (fun _ ⟨hM, B4, B9, B14, M45, hW, hE, hB, hI, hQ, O66, _⟩ => x_nilCheck rfl (fr.ev rfl)) ⟨hM, B4, B9, B14, M45, hW, hE, hB, hI, hQ, O66, trivial⟩ ?_
 clear fr a; intro a fr
 refine fx_take (i := 2) (v := .pointer (some ⟨b, 1, none⟩)) fr rfl (by kernel_rfl) rfl rfl (by first | decide | simp) (fun _ _ _ h => panic_putD (fn := Try.f12) (d := 58) (by decide) h) (fun _ ⟨hM, B4, B9, B14, M45, hW, hE, hB, hI, hQ, O66, _⟩ => x_fieldAddr fo64_1 rfl (fr.ev rfl) rfl) ⟨hM, B4, B9, B14, M45, hW, hE, hB, hI, hQ, O66, trivial⟩ ?_
 clear fr a; intro a fr
 refine fx_take (i := 3) (v := .map (some r)) fr rfl (by kernel_rfl) rfl rfl (by first | decide | simp) (fun _ _ _ h => panic_putD (fn := Try.f12) (d := 59) (by decide) h) (fun _ ⟨hM, B4, B9, B14, M45, hW, hE, hB, hI, hQ, O66, _⟩ => x_load1 pl62 rfl (fr.ev rfl) (hB.cell 1 rfl)) ⟨hM, B4, B9, B14, M45, hW, hE, hB, hI, hQ, O66, trivial⟩ ?_
 clear fr a; intro a fr
 refine fx_take (i := 4) (v := .pointer (some ⟨b1, 3, none⟩)) fr rfl (by kernel_rfl) rfl rfl (by first | decide | simp) (fun _ _ _ h => panic_putD (fn := Try.f12) (d := 60) (by decide) h) (fun _ ⟨hM, B4, B9, B14, M45, hW, hE, hB, hI, hQ, O66, _⟩ => x_fieldAddr fo36_3 rfl (fr.ev rfl) rfl) ⟨hM, B4, B9, B14, M45, hW, hE, hB, hI, hQ, O66, trivial⟩ ?_
 clear fr a; intro a fr
 refine fx_take (i := 5) (v := .int .u32 m.line) fr rfl (by kernel_rfl) rfl rfl (by first | decide | simp) (fun _ _ _ h => panic_putD (fn := Try.f12) (d := 61) (by decide) h) (fun _ ⟨hM, B4, B9, B14, M45, hW, hE, hB, hI, hQ, O66, _⟩ => x_load1 pl24 rfl (fr.ev rfl) (B4.cell 3 rfl)) ⟨hM, B4, B9, B14, M45, hW, hE, hB, hI, hQ, O66, trivial⟩ ?_
 clear fr a; intro a fr
 refine fx_take (i := 6) (v := .pointer (some ⟨b37, 0, none⟩)) fr rfl (by kernel_rfl) rfl rfl (by first | decide | simp) (fun _ _ _ h => panic_putD (fn := Try.f12) (d := 62) (by decide) h) (fun _ ⟨hM, B4, B9, B14, M45, hW, hE, hB, hI, hQ, O66, _⟩ => x_move rfl (fr.ev rfl)) ⟨hM, B4, B9, B14, M45, hW, hE, hB, hI, hQ, O66, trivial⟩ ?_
 clear fr a; intro a fr
 refine fx_take (i := 7) (v := .pointer (some ⟨b37, 0, none⟩)) fr rfl (by kernel_rfl) rfl rfl (by first | decide | simp) (fun _ _ _ h => panic_putD (fn := Try.f12) (d := 63) (by decide) h) (fun _ ⟨hM, B4, B9, B14, M45, hW, hE, hB, hI, hQ, O66, _⟩ => x_nilCheck rfl (fr.ev rfl)) ⟨hM, B4, B9, B14, M45, hW, hE, hB, hI, hQ, O66, trivial⟩ ?_
 clear fr a; intro a fr
 refine fx_take (i := 8) (v := .pointer (some ⟨b37, 1, none⟩)) fr rfl (by kernel_rfl) rfl rfl (by first | decide | simp) (fun _ _ _ h => panic_putD (fn := Try.f12) (d := 64) (by decide) h) (fun _ ⟨hM, B4, B9, B14, M45, hW, hE, hB, hI, hQ, O66, _⟩ => x_fieldAddr fo82_1 rfl (fr.ev rfl) rfl) ⟨hM, B4, B9, B14, M45, hW, hE, hB, hI, hQ, O66, trivial⟩ ?_
 clear fr a; intro a fr
 refine fx_take (i := 9) (v := .pointer (some ⟨b30, 0, none⟩)) fr rfl (by kernel_rfl) rfl rfl (by first | decide | simp) (fun _ _ _ h => panic_putD (fn := Try.f12) (d := 65) (by decide) h) (fun _ ⟨hM, B4, B9, B14, M45, hW, hE, hB, hI, hQ, O66, _⟩ => x_load1 pl78 rfl (fr.ev rfl) (hW.cell 1 rfl)) ⟨hM, B4, B9, B14, M45, hW, hE, hB, hI, hQ, O66, trivial⟩ ?_
 clear fr a; intro a fr
 refine fx_hdone (by kernel_rfl) ?_
 refine fx_tail ?_
 have hner : ¬ b30 = r := fun e => ap_FpE_b30 (e ▸ hrE)
 refine fx_entPut (n := m.line.toNat) rfl rfl rfl (fr.ev rfl) ((fr.ev rfl).trans (int_nat _ _ (by omega))) (fr.ev rfl) hM (by omega) hE hQ hner (fun h => ap2_FpE_Q59 r hrE h) ?_
 intro w71 L72 c73 FpE74 hO75 hM76 hF277
 have ne_b1_r : NE b1 r := fun e => ap_FpE_b1 (e ▸ hrE)
 have ne_b6_r : NE b6 r := fun e => ap_FpE_b6 (e ▸ hrE)
 have ne_b11_r : NE b11 r := fun e => ap_FpE_b11 (e ▸ hrE)
 have ne_r42_r : NE r42 r := fun e => ap_FpE_r42 (e ▸ hrE)
 have ne_b37_r : NE b37 r := fun e => ap_FpE_b37 (e ▸ hrE)
 have ne_b30_r : NE b30 r := fun e => ap_FpE_b30 (e ▸ hrE)
 have ne_b_r : NE b r := fun e => ap_FpE_b (e ▸ hrE)
 have ne_bi_r : NE bi r := fun e => ap_FpE_bi (e ▸ hrE)
 have ne_ig_r : NE ig r := fun e => ap_FpE_ig (e ▸ hrE)
 have ap_Q59_r : Apart Q59 r := fun h => ap2_FpE_Q59 r hrE h
 have ap_A61_r : Apart A61 r := fun h => ap2_FpE_A61 r hrE h
 have ap_FpE74_b1 : ¬ FpE74 b1 := fun h => (hF277 b1 h).elim ap_FpE_b1 fun h => h.elim (fun e => absurd e (by first | exact ne_b1_b30 | exact ne_b30_b1.symm)) ap_Q59_b1
 have ap_FpE74_b6 : ¬ FpE74 b6 := fun h => (hF277 b6 h).elim ap_FpE_b6 fun h => h.elim (fun e => absurd e (by first | exact ne_b6_b30 | exact ne_b30_b6.symm)) ap_Q59_b6
 have ap_FpE74_b11 : ¬ FpE74 b11 := fun h => (hF277 b11 h).elim ap_FpE_b11 fun h => h.elim (fun e => absurd e (by first | exact ne_b11_b30 | exact ne_b30_b11.symm)) ap_Q59_b11
 have ap_FpE74_r42 : ¬ FpE74 r42 := fun h => (hF277 r42 h).elim ap_FpE_r42 fun h => h.elim (fun e => absurd e (by first | exact ne_r42_b30 | exact ne_b30_r42.symm)) ap_Q59_r42
 have ap_FpE74_b37 : ¬ FpE74 b37 := fun h => (hF277 b37 h).elim ap_FpE_b37 fun h => h.elim (fun e => absurd e (by first | exact ne_b37_b30 | exact ne_b30_b37.symm)) ap_Q59_b37
 have ap_FpE74_b : ¬ FpE74 b := fun h => (hF277 b h).elim ap_FpE_b fun h => h.elim (fun e => absurd e (by first | exact ne_b_b30 | exact ne_b30_b.symm)) ap_Q59_b
 have ap_FpE74_bi : ¬ FpE74 bi := fun h => (hF277 bi h).elim ap_FpE_bi fun h => h.elim (fun e => absurd e (by first | exact ne_bi_b30 | exact ne_b30_bi.symm)) ap_Q59_bi
 have ap_FpE74_ig : ¬ FpE74 ig := fun h => (hF277 ig h).elim ap_FpE_ig fun h => h.elim (fun e => absurd e (by first | exact ne_ig_b30 | exact ne_b30_ig.symm)) ap_Q59_ig
 replace B4 := B4.only hO75 (by first | exact ne_b1_r | exact ne_r_b1.symm | (show ¬ b1 = r; omega))
 replace B9 := B9.only hO75 (by first | exact ne_b6_r | exact ne_r_b6.symm | (show ¬ b6 = r; omega))
 replace B14 := B14.only hO75 (by first | exact ne_b11_r | exact ne_r_b11.symm | (show ¬ b11 = r; omega))
 replace M45 := M45.only hO75 (by first | exact ne_r42_r | exact ne_r_r42.symm | (show ¬ r42 = r; omega))
 replace hW := hW.only hO75 (by first | exact ne_b37_r | exact ne_r_b37.symm | (show ¬ b37 = r; omega))
 replace hE := hE.only hO75 (by first | exact ne_b30_r | exact ne_r_b30.symm | (show ¬ b30 = r; omega))
 replace hB := hB.only hO75 (by first | exact ne_b_r | exact ne_r_b.symm | (show ¬ b = r; omega))
 replace hI := hI.only hO75 (by first | exact ne_bi_r | exact ne_r_bi.symm | (show ¬ bi = r; omega)) (by first | exact ne_ig_r | exact ne_r_ig.symm | (show ¬ ig = r; omega))
 replace hQ := hQ.only hO75 (Apart.ne1 ap_Q59_r)
 replace O66 := O66.only hO75 (Apart.ne1 ap_A61_r)
 replace hF := hF.loc hO75 (.inl ((hP.foot r).2 (.inr (.inr (.inr hrE)))))
 clear hM
 refine wpList_nil ?_
 refine fx_next ?_
 refine wp_seq ?_
 refine wp_region_lit ?_
 refine fx_val (v := .pointer (some ⟨b37, 0, none⟩)) fr rfl rfl (by first | decide | simp) (x_move rfl (fr.ev rfl)) ?_
 clear fr a; intro a fr
 refine fx_val (v := .pointer (some ⟨b37, 0, none⟩)) fr rfl rfl (by first | decide | simp) (x_nilCheck rfl (fr.ev rfl)) ?_
 clear fr a; intro a fr
 refine fx_val (v := .pointer (some ⟨b37, 0, none⟩)) fr rfl rfl (by first | decide | simp) (x_fieldAddr fo82_0 rfl (fr.ev rfl) rfl) ?_
 clear fr a; intro a fr
 refine fx_val (v := .pointer (some ⟨b37, 0, none⟩)) fr rfl rfl (by first | decide | simp) (x_fieldAddr fo80_0 rfl (fr.ev rfl) rfl) ?_
 clear fr a; intro a fr
 refine fx_val (v := .slice A61 x.2.2.length ac62) fr rfl rfl (by first | decide | simp) (x_load1 pl23 rfl (fr.ev rfl) (hW.cell 0 rfl)) ?_
 clear fr a; intro a fr
 refine fx_store1 sz23 rfl rfl rfl (fr.ev rfl) (fr.ev rfl) rfl B9 (show 0 < 1 by decide) (cs' := #[.slice A61 x.2.2.length ac62]) rfl fun w78 hO79 hBq => ?_
 replace B4 := B4.only hO79 (by first | exact ne_b1_b6 | exact ne_b6_b1.symm | (show ¬ b1 = b6; omega))
 replace B14 := B14.only hO79 (by first | exact ne_b11_b6 | exact ne_b6_b11.symm | (show ¬ b11 = b6; omega))
 replace M45 := M45.only hO79 (by first | exact ne_r42_b6 | exact ne_b6_r42.symm | (show ¬ r42 = b6; omega))
 replace hW := hW.only hO79 (by first | exact ne_b37_b6 | exact ne_b6_b37.symm | (show ¬ b37 = b6; omega))
 replace hE := hE.only hO79 (by first | exact ne_b30_b6 | exact ne_b6_b30.symm | (show ¬ b30 = b6; omega))
 replace hB := hB.only hO79 (by first | exact ne_b_b6 | exact ne_b6_b.symm | (show ¬ b = b6; omega))
 replace hI := hI.only hO79 (by first | exact ne_bi_b6 | exact ne_b6_bi.symm | (show ¬ bi = b6; omega)) (by first | exact ne_ig_b6 | exact ne_b6_ig.symm | (show ¬ ig = b6; omega))
 replace hQ := hQ.only hO79 (Apart.ne1 ap_Q59_b6)
 replace O66 := O66.only hO79 (Apart.ne1 ap_A61_b6)
 replace hM76 := hM76.only hO79 (ne1P ap_FpE74_b6)
 replace hF := hF.loc hO79 (.inr g_b6)
 replace B9 := hBq
 clear hBq
 refine fx_store1 sz37 rfl rfl rfl (fr.ev rfl) rfl rfl B14 (show 0 < 1 by decide) (cs' := #[.int .i64 0]) rfl fun w80 hO81 hBq => ?_
 replace B4 := B4.only hO81 (by first | exact ne_b1_b11 | exact ne_b11_b1.symm | (show ¬ b1 = b11; omega))
 replace M45 := M45.only hO81 (by first | exact ne_r42_b11 | exact ne_b11_r42.symm | (show ¬ r42 = b11; omega))
 replace hW := hW.only hO81 (by first | exact ne_b37_b11 | exact ne_b11_b37.symm | (show ¬ b37 = b11; omega))
 replace hE := hE.only hO81 (by first | exact ne_b30_b11 | exact ne_b11_b30.symm | (show ¬ b30 = b11; omega))
 replace hB := hB.only hO81 (by first | exact ne_b_b11 | exact ne_b11_b.symm | (show ¬ b = b11; omega))
 replace hI := hI.only hO81 (by first | exact ne_bi_b11 | exact ne_b11_bi.symm | (show ¬ bi = b11; omega)) (by first | exact ne_ig_b11 | exact ne_b11_ig.symm | (show ¬ ig = b11; omega))
 replace hQ := hQ.only hO81 (Apart.ne1 ap_Q59_b11)
 replace O66 := O66.only hO81 (Apart.ne1 ap_A61_b11)
 replace hM76 := hM76.only hO81 (ne1P ap_FpE74_b11)
 replace B9 := B9.only hO81 (by first | exact ne_b6_b11 | exact ne_b11_b6.symm | (show ¬ b6 = b11; omega))
 replace hF := hF.loc hO81 (.inr g_b11)
 replace B14 := hBq
 clear hBq
 refine wpList_nil ?_
 refine fx_next ?_
 refine wp_ret ?_
 refine fx_retD1 fr rfl (caught_idle b6 b11 _) [.cell 4 23, .cell 5 37] [.slice A61 x.2.2.length ac62, .int .i64 0] rfl ⟨⟨_, rfl, x_loadV1 pl23 (B9.cell 0 rfl)⟩, ⟨_, rfl, x_loadV1 pl37 (B14.cell 0 rfl)⟩, trivial⟩ rfl ?_
 exact ⟨_, rfl, A61, ac62, (fun k => k = b ∨ k = bi ∨ k = ig ∨ FpE74 k), rfl, O66, gN_A61, ⟨bi, ig, cap, r, FpE74, L72, c73, hB, hI, hM76, ⟨ne_b_bi, ne_b_ig, (fun h => (hF277 _ h).elim ap_FpE_b fun h => h.elim (fun e => absurd e (by first | exact ne_b_b30 | exact ne_b30_b.symm)) ap_Q59_b), (fun h => (hF277 _ h).elim ap_FpE_bi fun h => h.elim (fun e => absurd e (by first | exact ne_bi_b30 | exact ne_b30_bi.symm)) ap_Q59_bi), (fun h => (hF277 _ h).elim ap_FpE_ig fun h => h.elim (fun e => absurd e (by first | exact ne_ig_b30 | exact ne_b30_ig.symm)) ap_Q59_ig), fun _ => Iff.rfl⟩, by rw [List.length_set, hxl]; exact hEn⟩, (fun k hk ha => hk.elim (fun e => ap_A61_b (e ▸ ha)) fun hk => hk.elim (fun e => ap_A61_bi (e ▸ ha)) fun hk => hk.elim (fun e => ap_A61_ig (e ▸ ha)) fun hk => (hF277 k hk).elim (fun h => ap2_FpE_A61 k h ha) fun h => h.elim (fun e => ap_A61_b30 (e ▸ ha)) fun h => ap2_Q59_A61 k h ha), (fun k hk => hk.elim (fun e => .inl ((hP.foot k).2 (.inl e))) fun hk => hk.elim (fun e => .inl ((hP.foot k).2 (.inr (.inl e)))) fun hk => hk.elim (fun e => .inl ((hP.foot k).2 (.inr (.inr (.inl e))))) fun hk => (hF277 k hk).elim (fun h => .inl ((hP.foot k).2 (.inr (.inr (.inr h))))) fun h => .inr (h.elim (fun e => by rw [e]; exact g_b30) (gN_Q59 k))), hF⟩
set_option maxRecDepth 100000 in
set_option maxHeartbeats 4000000 in
theorem take_pan {w : World} {Fp : Nat → Prop} {b : Nat} {h : HD} (H : HomeAt w Fp b h) (m : Msg) (hc : ¬ chk m ≠ 0) (hx : ¬ m.dst ≠ 4) (hr : ¬ ((h.bs.length / 16 : Nat) : Int) ≤ m.line) (hql : (entOf h.E m.line.toNat).q.length ≤ 100000) {f : Nat} {fn : Func} (hfn : Try.prog.funcs[f]? = some fn) (hnm : (fn.name == "runtime.NumGoroutine") = false) (hbd : fn.body.isNone = false) (hes : ∀ b, (Instr.findNow (.int .i64) (.int .i64 m.kind) (takeEs b).toList 0).map (fun q => (match q with | some (_, u) => u | none => .nilFunc, q.isSome)) = some (.func (.func f) #[.pointer (some ⟨b, 0, none⟩)] #[], true)) (hcall : ∀ w1 bw be bi ig cap r Q qc, WorkR w1 bw be b bi ig cap r m.line (entOf h.E m.line.toNat) Q qc none 0 [] h.bs → Own msgE w1 Q qc (entOf h.E m.line.toNat).q → Calls Try.prog f #[.pointer (some ⟨bw, 0, none⟩), .agg (msgE.arr m)] w1 (Pan fun c w' => c = stopE 220 ∧ New w1 w'))  : Calls Try.prog 12 #[.pointer (some ⟨b, 0, none⟩), .agg (msgE.arr m)] w (Ret fun v w' => v = .tuple #[.slice none 0 0, .int .i64 220] ∧ HomeAt w' Fp b h ∧ New w w') := by
 have H0 := H
 obtain ⟨bi, ig, cap, r, FpE, L, c, hB, hI, hM, hP, hEn⟩ := H0
 have hmn := m.hn
 have hpos := hI.pos
 have ne_b_bi := hP.ne_b_bi
 have ne_b_ig := hP.ne_b_ig
 have ne_bi_ig : NE bi ig := hI.ne
 have ap_FpE_b := hP.fb
 have ap_FpE_bi := hP.fbi
 have ap_FpE_ig := hP.fig
 have hrE := (hM.foot r).2 (.inl rfl)
 have gA_FpE := fun g (hg : FpE g) => (Or.inl trivial : True ∨ w.heap.size ≤ g)
 have gA_Fp := fun g (hg : Fp g) => (Or.inl trivial : True ∨ w.heap.size ≤ g)
 have hF := Only.refl (fun _ => False) w
 refine fx_enterD Try.func12 rfl (N := (71, [])) (T := [(0, .pointer (some ⟨b, 0, none⟩)), (1, .agg (msgE.arr m))]) rfl (show 2 ≤ 71 by decide) ⟨rfl, rfl, trivial⟩ fun a fr => ?_
 refine wp_seq ?_
 refine wp_region_lit ?_
 refine fx_new fr rfl rfl (by first | decide | simp) (x_box (cs := msgE.arr m) rfl (fr.ev rfl) rfl) ?_
 clear fr a
 intro b1 w2 hN3 B4 hb5 a fr
 have ne_b_b1 : NE b b1 := NE.mk (Nat.lt_of_lt_of_le hB.lt hb5)
 have ne_bi_b1 : NE bi b1 := NE.mk (Nat.lt_of_lt_of_le hI.lt.1 hb5)
 have ne_ig_b1 : NE ig b1 := NE.mk (Nat.lt_of_lt_of_le hI.lt.2 hb5)
 have ap_FpE_b1 : ¬ FpE b1 := hM.apart hb5
 have ap_Fp_b1 : ¬ Fp b1 := H.apart hb5
 have g_b1 := Nat.le_trans hF.size hb5
 replace hB := hB.new hN3
 replace hI := hI.new hN3
 replace hM := hM.new hN3
 replace H := H.new hN3
 replace hF := hF.trNew hN3
 refine fx_new fr rfl rfl (by first | decide | simp) (x_alloc (z := .slice none 0 0) (cs := #[.slice none 0 0]) rfl (by kernel_rfl) rfl) ?_
 clear fr a
 intro b6 w7 hN8 B9 hb10 a fr
 have ne_b_b6 : NE b b6 := NE.mk (Nat.lt_of_lt_of_le hB.lt hb10)
 have ne_bi_b6 : NE bi b6 := NE.mk (Nat.lt_of_lt_of_le hI.lt.1 hb10)
 have ne_ig_b6 : NE ig b6 := NE.mk (Nat.lt_of_lt_of_le hI.lt.2 hb10)
 have ap_FpE_b6 : ¬ FpE b6 := hM.apart hb10
 have ap_Fp_b6 : ¬ Fp b6 := H.apart hb10
 have ne_b1_b6 : NE b1 b6 := NE.mk (Nat.lt_of_lt_of_le B4.lt hb10)
 have g_b6 := Nat.le_trans hF.size hb10
 replace hB := hB.new hN8
 replace hI := hI.new hN8
 replace hM := hM.new hN8
 replace H := H.new hN8
 replace B4 := B4.new hN8
 replace hF := hF.trNew hN8
 refine fx_new fr rfl rfl (by first | decide | simp) (x_alloc (z := .int .i64 0) (cs := #[.int .i64 0]) rfl (by kernel_rfl) rfl) ?_
 clear fr a
 intro b11 w12 hN13 B14 hb15 a fr
 have ne_b_b11 : NE b b11 := NE.mk (Nat.lt_of_lt_of_le hB.lt hb15)
 have ne_bi_b11 : NE bi b11 := NE.mk (Nat.lt_of_lt_of_le hI.lt.1 hb15)
 have ne_ig_b11 : NE ig b11 := NE.mk (Nat.lt_of_lt_of_le hI.lt.2 hb15)
 have ap_FpE_b11 : ¬ FpE b11 := hM.apart hb15
 have ap_Fp_b11 : ¬ Fp b11 := H.apart hb15
 have ne_b1_b11 : NE b1 b11 := NE.mk (Nat.lt_of_lt_of_le B4.lt hb15)
 have ne_b6_b11 : NE b6 b11 := NE.mk (Nat.lt_of_lt_of_le B9.lt hb15)
 have g_b11 := Nat.le_trans hF.size hb15
 replace hB := hB.new hN13
 replace hI := hI.new hN13
 replace hM := hM.new hN13
 replace H := H.new hN13
 replace B4 := B4.new hN13
 replace B9 := B9.new hN13
 replace hF := hF.trNew hN13
 refine wpList_nil ?_
 refine fx_next ?_
 refine wp_seq ?_
 refine wp_block ?_
 refine wp_seq ?_
 refine wp_region_lit ?_
 refine fx_val (v := .pointer (some ⟨b, 0, none⟩)) fr rfl rfl (by first | decide | simp) (x_move rfl (fr.ev rfl)) ?_
 clear fr a; intro a fr
 refine fx_call fr rfl rfl (by first | decide | simp) (x_call (vs := [.pointer (some ⟨b, 0, none⟩)]) rfl rfl ⟨(fr.ev rfl), trivial⟩ Try.func27 nm27 rfl) (hnone_c hB) ?_
 clear fr a
 rintro v w9 ⟨rfl, hw9⟩ a fr
 obtain rfl := hw9.symm
 refine fx_val (v := .bool false) fr rfl rfl (by first | decide | simp) (x_assign rfl (fr.ev rfl)) ?_
 clear fr a; intro a fr
 refine wpList_nil ?_
 refine fx_next ?_
 refine fx_cond_f fr rfl ?_
 refine wp_seq ?_
 refine wp_region_lit ?_
 refine fx_val (v := .agg (msgE.arr m)) fr rfl rfl (by first | decide | simp) (x_loadE (E := msgE) ag36 rfl rfl (fr.ev rfl) (B4.rangeE msgE)) ?_
 clear fr a; intro a fr
 refine fx_call fr rfl rfl (by first | decide | simp) (x_call (vs := [.agg (msgE.arr m)]) rfl rfl ⟨(fr.ev rfl), trivial⟩ Try.func29 nm29 rfl) (chk_c m _) ?_
 clear fr a
 rintro v w18 ⟨rfl, hN19⟩ a fr
 replace hB := hB.new hN19
 replace hI := hI.new hN19
 replace hM := hM.new hN19
 replace H := H.new hN19
 replace B4 := B4.new hN19
 replace B9 := B9.new hN19
 replace B14 := B14.new hN19
 replace hF := hF.trNew hN19
 refine fx_val (v := .bool false) fr rfl rfl (by first | decide | simp) (x_neq rfl (fr.ev rfl) rfl (decide_eq_false hc)) ?_
 clear fr a; intro a fr
 refine fx_val (v := .bool false) fr rfl rfl (by first | decide | simp) (x_move rfl (fr.ev rfl)) ?_
 clear fr a; intro a fr
 refine fx_val (v := .pointer (some ⟨b1, 2, none⟩)) fr (fr.want rfl rfl rfl) rfl (by first | decide | simp) (x_fieldAddr fo36_2 rfl (fr.ev rfl) rfl) ?_
 clear fr a; intro a fr
 refine fx_val (v := .int .i64 m.dst) fr (fr.want rfl rfl rfl) rfl (by first | decide | simp) (x_load1 pl3 rfl (fr.ev rfl) (B4.cell 2 rfl)) ?_
 clear fr a; intro a fr
 refine fx_val (v := .bool false) fr (fr.want rfl rfl rfl) rfl (by first | decide | simp) (x_neq rfl (fr.ev rfl) rfl (decide_eq_false hx)) ?_
 clear fr a; intro a fr
 refine fx_val (v := .bool false) fr rfl rfl (by first | decide | simp) (x_pick_f rfl (fr.ev rfl) (fr.ev rfl)) ?_
 clear fr a; intro a fr
 refine fx_val (v := .bool false) fr rfl rfl (by first | decide | simp) (x_assign rfl (fr.ev rfl)) ?_
 clear fr a; intro a fr
 refine wpList_nil ?_
 refine fx_next ?_
 refine fx_cond_f fr rfl ?_
 refine wp_seq ?_
 refine fx_held (n := 7) (fun w => Blk w b 64 #[.pointer (some ⟨bi, 0, none⟩), .map (some r)] ∧ Img 0 w bi ig cap h.bs ∧ EntsAt w FpE r h.E L c ∧ Blk w b1 36 (msgE.arr m) ∧ Blk w b6 23 (#[.slice none 0 0]) ∧ Blk w b11 37 (#[.int .i64 0]) ∧ True) (by kernel_rfl) rfl ?_
 intro w20 hN21
 replace hB := hB.new hN21
 replace hI := hI.new hN21
 replace hM := hM.new hN21
 replace H := H.new hN21
 replace B4 := B4.new hN21
 replace B9 := B9.new hN21
 replace B14 := B14.new hN21
 replace hF := hF.trNew hN21
 refine fx_take (i := 0) (v := .pointer (some ⟨b1, 3, none⟩)) fr rfl (by kernel_rfl) rfl rfl (by first | decide | simp) (fun _ _ _ h => panic_putD (fn := Try.f12) (d := 21) (by decide) h) (fun _ ⟨hB, hI, hM, B4, B9, B14, _⟩ => x_fieldAddr fo36_3 rfl (fr.ev rfl) rfl) ⟨hB, hI, hM, B4, B9, B14, trivial⟩ ?_
 clear fr a; intro a fr
 refine fx_take (i := 1) (v := .int .u32 m.line) fr rfl (by kernel_rfl) rfl rfl (by first | decide | simp) (fun _ _ _ h => panic_putD (fn := Try.f12) (d := 22) (by decide) h) (fun _ ⟨hB, hI, hM, B4, B9, B14, _⟩ => x_load1 pl24 rfl (fr.ev rfl) (B4.cell 3 rfl)) ⟨hB, hI, hM, B4, B9, B14, trivial⟩ ?_
 clear fr a; intro a fr
 refine fx_take (i := 2) (v := .int .i64 m.line) fr rfl (by kernel_rfl) rfl rfl (by first | decide | simp) (fun _ _ _ h => panic_putD (fn := Try.f12) (d := 23) (by decide) h) (fun _ ⟨hB, hI, hM, B4, B9, B14, _⟩ => x_convert Try.underlying24 Try.underlying2 rfl (fr.ev rfl) (i64w (r := m.line) rfl (by omega))) ⟨hB, hI, hM, B4, B9, B14, trivial⟩ ?_
 clear fr a; intro a fr
 refine fx_take (i := 3) (v := .pointer (some ⟨b, 0, none⟩)) fr rfl (by kernel_rfl) rfl rfl (by first | decide | simp) (fun _ _ _ h => panic_putD (fn := Try.f12) (d := 24) (by decide) h) (fun _ ⟨hB, hI, hM, B4, B9, B14, _⟩ => x_move rfl (fr.ev rfl)) ⟨hB, hI, hM, B4, B9, B14, trivial⟩ ?_
 clear fr a; intro a fr
 refine fx_one (i := 4) (by kernel_rfl) (fx_op rfl ?_)
 refine fx_call fr rfl rfl (by first | decide | simp) (x_call (vs := [.pointer (some ⟨b, 0, none⟩)]) rfl rfl ⟨(fr.ev rfl), trivial⟩ Try.func10 nm10 rfl) (lines_r hB hI) ?_
 clear fr a
 rintro v w9 ⟨rfl, hw9⟩ a fr
 obtain rfl := hw9.symm
 refine wpList_nil ?_
 refine ⟨⟨hB, hI, hM, B4, B9, B14, trivial⟩, ?_⟩
 refine fx_take (i := 5) (v := .bool false) fr rfl (by kernel_rfl) rfl rfl (by first | decide | simp) (fun _ _ _ h => panic_putD (fn := Try.f12) (d := 26) (by decide) h) (fun _ ⟨hB, hI, hM, B4, B9, B14, _⟩ => x_geq rfl (fr.ev rfl) (fr.ev rfl) (decide_eq_false hr)) ⟨hB, hI, hM, B4, B9, B14, trivial⟩ ?_
 clear fr a; intro a fr
 refine fx_take (i := 6) (v := .bool false) fr rfl (by kernel_rfl) rfl rfl (by first | decide | simp) (fun _ _ _ h => panic_putD (fn := Try.f12) (d := 20) (by decide) h) (fun _ ⟨hB, hI, hM, B4, B9, B14, _⟩ => x_assign rfl (fr.ev rfl)) ⟨hB, hI, hM, B4, B9, B14, trivial⟩ ?_
 clear fr a; intro a fr
 refine fx_hdone (by kernel_rfl) ?_
 refine fx_next ?_
 refine fx_cond_f fr rfl ?_
 refine wp_skip ?_
 refine fx_blk ?_
 refine fx_next ?_
 refine wp_seq ?_
 refine wp_region_lit ?_
 refine fx_val (v := .func (.func 30) #[] #[.pointer (some ⟨b6, 0, none⟩), .pointer (some ⟨b11, 0, none⟩)]) fr rfl rfl (by first | decide | simp) (x_makeFunc (vs := [.pointer (some ⟨b6, 0, none⟩), .pointer (some ⟨b11, 0, none⟩)]) rfl ⟨(fr.ev rfl), (fr.ev rfl), trivial⟩) ?_
 clear fr a; intro a fr
 refine fx_defer fr rfl rfl (x_deferv (vs := []) rfl (fr.ev rfl) trivial) ?_
 clear fr a; intro a fr
 refine wpList_nil ?_
 refine fx_next ?_
 refine wp_seq ?_
 refine wp_region_lit ?_
 refine fx_val (v := .pointer (some ⟨b, 0, none⟩)) fr rfl rfl (by first | decide | simp) (x_move rfl (fr.ev rfl)) ?_
 clear fr a; intro a fr
 refine fx_val (v := .pointer (some ⟨b1, 3, none⟩)) fr rfl rfl (by first | decide | simp) (x_fieldAddr fo36_3 rfl (fr.ev rfl) rfl) ?_
 clear fr a; intro a fr
 refine fx_val (v := .int .u32 m.line) fr rfl rfl (by first | decide | simp) (x_load1 pl24 rfl (fr.ev rfl) (B4.cell 3 rfl)) ?_
 clear fr a; intro a fr
 refine fx_call fr rfl rfl (by first | decide | simp) (x_call (vs := [.pointer (some ⟨b, 0, none⟩), .int .u32 m.line]) rfl rfl ⟨(fr.ev rfl), (fr.ev rfl), trivial⟩ Try.func31 nm31 rfl) (of_c hB hM m.line (by omega) (by omega)) ?_
 clear fr a
 rintro v w28 ⟨Q24, qc25, rfl, OQ26, hA27, hN29⟩ a fr
 have ap_Q24_b : Apart Q24 b := new_apart hA27 hB.lt
 have ap_Q24_bi : Apart Q24 bi := new_apart hA27 hI.lt.1
 have ap_Q24_ig : Apart Q24 ig := new_apart hA27 hI.lt.2
 have ap2_FpE_Q24 : ∀ k, FpE k → inA Q24 k → False := symP (new_apart2P hA27 fun _ hg => hM.lt hg)
 have ap2_Fp_Q24 : ∀ k, Fp k → inA Q24 k → False := symP (new_apart2P hA27 fun _ hg => H.lt hg)
 have ap_Q24_b1 : Apart Q24 b1 := new_apart hA27 B4.lt
 have ap_Q24_b6 : Apart Q24 b6 := new_apart hA27 B9.lt
 have ap_Q24_b11 : Apart Q24 b11 := new_apart hA27 B14.lt
 have gA_Q24 := gA_new hF hA27
 have gN_Q24 := fun g (hg : inA Q24 g) => Nat.le_trans hF.size (hA27 g hg)
 replace hB := hB.new hN29
 replace hI := hI.new hN29
 replace hM := hM.new hN29
 replace H := H.new hN29
 replace B4 := B4.new hN29
 replace B9 := B9.new hN29
 replace B14 := B14.new hN29
 replace hF := hF.trNew hN29
 refine fx_new fr rfl rfl (by first | decide | simp) (x_alloc (z := .agg (#[.int .i64 0, .bool false, .bool false, .bool false, .bool false, .bool false, .int .i64 0, .int .i64 0, .int .i64 0, .bool false, .slice none 0 0])) (cs := #[.int .i64 0, .bool false, .bool false, .bool false, .bool false, .bool false, .int .i64 0, .int .i64 0, .int .i64 0, .bool false, .slice none 0 0]) rfl (by kernel_rfl) rfl) ?_
 clear fr a
 intro b30 w31 hN32 B33 hb34 a fr
 have ne_b_b30 : NE b b30 := NE.mk (Nat.lt_of_lt_of_le hB.lt hb34)
 have ne_bi_b30 : NE bi b30 := NE.mk (Nat.lt_of_lt_of_le hI.lt.1 hb34)
 have ne_ig_b30 : NE ig b30 := NE.mk (Nat.lt_of_lt_of_le hI.lt.2 hb34)
 have ap_FpE_b30 : ¬ FpE b30 := hM.apart hb34
 have ap_Fp_b30 : ¬ Fp b30 := H.apart hb34
 have ne_b1_b30 : NE b1 b30 := NE.mk (Nat.lt_of_lt_of_le B4.lt hb34)
 have ne_b6_b30 : NE b6 b30 := NE.mk (Nat.lt_of_lt_of_le B9.lt hb34)
 have ne_b11_b30 : NE b11 b30 := NE.mk (Nat.lt_of_lt_of_le B14.lt hb34)
 have ap_Q24_b30 : Apart Q24 b30 := OQ26.apart hb34
 have g_b30 := Nat.le_trans hF.size hb34
 replace hB := hB.new hN32
 replace hI := hI.new hN32
 replace hM := hM.new hN32
 replace H := H.new hN32
 replace B4 := B4.new hN32
 replace B9 := B9.new hN32
 replace B14 := B14.new hN32
 replace OQ26 := OQ26.new hN32
 replace hF := hF.trNew hN32
 refine fx_storeS sz42 rfl rfl rfl (fr.ev rfl) (fr.ev rfl) (ent_all _ _ _ _) B33 rfl rfl fun w35 hO36 hBq => ?_
 replace hB := hB.only hO36 (by first | exact ne_b_b30 | exact ne_b30_b.symm | (show ¬ b = b30; omega))
 replace hI := hI.only hO36 (by first | exact ne_bi_b30 | exact ne_b30_bi.symm | (show ¬ bi = b30; omega)) (by first | exact ne_ig_b30 | exact ne_b30_ig.symm | (show ¬ ig = b30; omega))
 replace hM := hM.only hO36 (ne1P ap_FpE_b30)
 replace H := H.only hO36 (ne1P ap_Fp_b30)
 replace B4 := B4.only hO36 (by first | exact ne_b1_b30 | exact ne_b30_b1.symm | (show ¬ b1 = b30; omega))
 replace B9 := B9.only hO36 (by first | exact ne_b6_b30 | exact ne_b30_b6.symm | (show ¬ b6 = b30; omega))
 replace B14 := B14.only hO36 (by first | exact ne_b11_b30 | exact ne_b30_b11.symm | (show ¬ b11 = b30; omega))
 replace OQ26 := OQ26.only hO36 (Apart.ne1 ap_Q24_b30)
 replace hF := hF.loc hO36 (.inr g_b30)
 replace B33 := hBq
 clear hBq
 refine wpList_nil ?_
 refine fx_next ?_
 refine wp_seq ?_
 refine wp_region_lit ?_
 refine fx_val (v := .pointer (some ⟨b, 0, none⟩)) fr rfl rfl (by first | decide | simp) (x_move rfl (fr.ev rfl)) ?_
 clear fr a; intro a fr
 refine fx_val (v := .pointer (some ⟨b1, 3, none⟩)) fr rfl rfl (by first | decide | simp) (x_fieldAddr fo36_3 rfl (fr.ev rfl) rfl) ?_
 clear fr a; intro a fr
 refine fx_val (v := .int .u32 m.line) fr rfl rfl (by first | decide | simp) (x_load1 pl24 rfl (fr.ev rfl) (B4.cell 3 rfl)) ?_
 clear fr a; intro a fr
 refine fx_val (v := .agg (#[.slice none 0 0, .pointer (some ⟨b30, 0, none⟩), .pointer (some ⟨b, 0, none⟩), .int .u32 m.line])) fr rfl rfl (by first | decide | simp) (x_build (cells := #[.slice none 0 0, .pointer (some ⟨b30, 0, none⟩), .pointer (some ⟨b, 0, none⟩), .int .u32 m.line]) rfl (by simp only [List.map_toArray, List.map_cons, List.map_nil, show a.eval (.tmp 6) = .pointer (some ⟨b30, 0, none⟩) from fr.ev rfl, show a.eval (.tmp 32) = .pointer (some ⟨b, 0, none⟩) from fr.ev rfl, show a.eval (.tmp 34) = .int .u32 m.line from fr.ev rfl]; kernel_rfl)) ?_
 clear fr a; intro a fr
 refine fx_new fr rfl rfl (by first | decide | simp) (x_box (cs := #[.slice none 0 0, .pointer (some ⟨b30, 0, none⟩), .pointer (some ⟨b, 0, none⟩), .int .u32 m.line]) rfl (fr.ev rfl) rfl) ?_
 clear fr a
 intro b37 w38 hN39 B40 hb41 a fr
 have ne_b_b37 : NE b b37 := NE.mk (Nat.lt_of_lt_of_le hB.lt hb41)
 have ne_bi_b37 : NE bi b37 := NE.mk (Nat.lt_of_lt_of_le hI.lt.1 hb41)
 have ne_ig_b37 : NE ig b37 := NE.mk (Nat.lt_of_lt_of_le hI.lt.2 hb41)
 have ap_FpE_b37 : ¬ FpE b37 := hM.apart hb41
 have ap_Fp_b37 : ¬ Fp b37 := H.apart hb41
 have ne_b1_b37 : NE b1 b37 := NE.mk (Nat.lt_of_lt_of_le B4.lt hb41)
 have ne_b6_b37 : NE b6 b37 := NE.mk (Nat.lt_of_lt_of_le B9.lt hb41)
 have ne_b11_b37 : NE b11 b37 := NE.mk (Nat.lt_of_lt_of_le B14.lt hb41)
 have ap_Q24_b37 : Apart Q24 b37 := OQ26.apart hb41
 have ne_b30_b37 : NE b30 b37 := NE.mk (Nat.lt_of_lt_of_le B33.lt hb41)
 have g_b37 := Nat.le_trans hF.size hb41
 replace hB := hB.new hN39
 replace hI := hI.new hN39
 replace hM := hM.new hN39
 replace H := H.new hN39
 replace B4 := B4.new hN39
 replace B9 := B9.new hN39
 replace B14 := B14.new hN39
 replace OQ26 := OQ26.new hN39
 replace B33 := B33.new hN39
 replace hF := hF.trNew hN39
 refine fx_val (v := .pointer (some ⟨b37, 0, none⟩)) fr rfl rfl (by first | decide | simp) (x_assign rfl (fr.ev rfl)) ?_
 clear fr a; intro a fr
 refine wpList_nil ?_
 refine fx_next ?_
 refine wp_seq ?_
 refine wp_region_lit ?_
 refine fx_makeMap fr rfl rfl rfl (by first | decide | simp) ?_
 clear fr a
 intro r42 w43 hN44 M45 hb46 a fr
 have ne_b_r42 : NE b r42 := NE.mk (Nat.lt_of_lt_of_le hB.lt hb46)
 have ne_bi_r42 : NE bi r42 := NE.mk (Nat.lt_of_lt_of_le hI.lt.1 hb46)
 have ne_ig_r42 : NE ig r42 := NE.mk (Nat.lt_of_lt_of_le hI.lt.2 hb46)
 have ap_FpE_r42 : ¬ FpE r42 := hM.apart hb46
 have ap_Fp_r42 : ¬ Fp r42 := H.apart hb46
 have ne_b1_r42 : NE b1 r42 := NE.mk (Nat.lt_of_lt_of_le B4.lt hb46)
 have ne_b6_r42 : NE b6 r42 := NE.mk (Nat.lt_of_lt_of_le B9.lt hb46)
 have ne_b11_r42 : NE b11 r42 := NE.mk (Nat.lt_of_lt_of_le B14.lt hb46)
 have ap_Q24_r42 : Apart Q24 r42 := OQ26.apart hb46
 have ne_b30_r42 : NE b30 r42 := NE.mk (Nat.lt_of_lt_of_le B33.lt hb46)
 have ne_b37_r42 : NE b37 r42 := NE.mk (Nat.lt_of_lt_of_le B40.lt hb46)
 have g_r42 := Nat.le_trans hF.size hb46
 replace hB := hB.new hN44
 replace hI := hI.new hN44
 replace hM := hM.new hN44
 replace H := H.new hN44
 replace B4 := B4.new hN44
 replace B9 := B9.new hN44
 replace B14 := B14.new hN44
 replace OQ26 := OQ26.new hN44
 replace B33 := B33.new hN44
 replace B40 := B40.new hN44
 replace hF := hF.trNew hN44
 refine fx_val (v := .pointer (some ⟨b37, 0, none⟩)) fr rfl rfl (by first | decide | simp) (x_move rfl (fr.ev rfl)) ?_
 clear fr a; intro a fr
 refine fx_val (v := .func (.func 32) #[.pointer (some ⟨b37, 0, none⟩)] #[]) fr rfl rfl (by first | decide | simp) (x_makeBound rfl (fr.ev rfl)) ?_
 clear fr a; intro a fr
 refine fx_insert (es' := #[⟨.int .i64 1, .func (.func 32) #[.pointer (some ⟨b37, 0, none⟩)] #[], 0⟩]) Try.underlying84 Try.underlying33 rfl rfl rfl (fr.ev rfl) rfl (fr.ev rfl) M45 rfl rfl fun w47 hO48 hBq => ?_
 replace hB := hB.only hO48 (by first | exact ne_b_r42 | exact ne_r42_b.symm | (show ¬ b = r42; omega))
 replace hI := hI.only hO48 (by first | exact ne_bi_r42 | exact ne_r42_bi.symm | (show ¬ bi = r42; omega)) (by first | exact ne_ig_r42 | exact ne_r42_ig.symm | (show ¬ ig = r42; omega))
 replace hM := hM.only hO48 (ne1P ap_FpE_r42)
 replace H := H.only hO48 (ne1P ap_Fp_r42)
 replace B4 := B4.only hO48 (by first | exact ne_b1_r42 | exact ne_r42_b1.symm | (show ¬ b1 = r42; omega))
 replace B9 := B9.only hO48 (by first | exact ne_b6_r42 | exact ne_r42_b6.symm | (show ¬ b6 = r42; omega))
 replace B14 := B14.only hO48 (by first | exact ne_b11_r42 | exact ne_r42_b11.symm | (show ¬ b11 = r42; omega))
 replace OQ26 := OQ26.only hO48 (Apart.ne1 ap_Q24_r42)
 replace B33 := B33.only hO48 (by first | exact ne_b30_r42 | exact ne_r42_b30.symm | (show ¬ b30 = r42; omega))
 replace B40 := B40.only hO48 (by first | exact ne_b37_r42 | exact ne_r42_b37.symm | (show ¬ b37 = r42; omega))
 replace hF := hF.loc hO48 (.inr g_r42)
 replace M45 := hBq
 clear hBq
 refine fx_val (v := .pointer (some ⟨b37, 0, none⟩)) fr rfl rfl (by first | decide | simp) (x_move rfl (fr.ev rfl)) ?_
 clear fr a; intro a fr
 refine fx_val (v := .func (.func 32) #[.pointer (some ⟨b37, 0, none⟩)] #[]) fr rfl rfl (by first | decide | simp) (x_makeBound rfl (fr.ev rfl)) ?_
 clear fr a; intro a fr
 refine fx_insert (es' := #[⟨.int .i64 1, .func (.func 32) #[.pointer (some ⟨b37, 0, none⟩)] #[], 0⟩, ⟨.int .i64 2, .func (.func 32) #[.pointer (some ⟨b37, 0, none⟩)] #[], 1⟩]) Try.underlying84 Try.underlying33 rfl rfl rfl (fr.ev rfl) rfl (fr.ev rfl) M45 rfl rfl fun w49 hO50 hBq => ?_
 replace hB := hB.only hO50 (by first | exact ne_b_r42 | exact ne_r42_b.symm | (show ¬ b = r42; omega))
 replace hI := hI.only hO50 (by first | exact ne_bi_r42 | exact ne_r42_bi.symm | (show ¬ bi = r42; omega)) (by first | exact ne_ig_r42 | exact ne_r42_ig.symm | (show ¬ ig = r42; omega))
 replace hM := hM.only hO50 (ne1P ap_FpE_r42)
 replace H := H.only hO50 (ne1P ap_Fp_r42)
 replace B4 := B4.only hO50 (by first | exact ne_b1_r42 | exact ne_r42_b1.symm | (show ¬ b1 = r42; omega))
 replace B9 := B9.only hO50 (by first | exact ne_b6_r42 | exact ne_r42_b6.symm | (show ¬ b6 = r42; omega))
 replace B14 := B14.only hO50 (by first | exact ne_b11_r42 | exact ne_r42_b11.symm | (show ¬ b11 = r42; omega))
 replace OQ26 := OQ26.only hO50 (Apart.ne1 ap_Q24_r42)
 replace B33 := B33.only hO50 (by first | exact ne_b30_r42 | exact ne_r42_b30.symm | (show ¬ b30 = r42; omega))
 replace B40 := B40.only hO50 (by first | exact ne_b37_r42 | exact ne_r42_b37.symm | (show ¬ b37 = r42; omega))
 replace hF := hF.loc hO50 (.inr g_r42)
 replace M45 := hBq
 clear hBq
 refine fx_val (v := .pointer (some ⟨b37, 0, none⟩)) fr rfl rfl (by first | decide | simp) (x_move rfl (fr.ev rfl)) ?_
 clear fr a; intro a fr
 refine fx_val (v := .func (.func 32) #[.pointer (some ⟨b37, 0, none⟩)] #[]) fr rfl rfl (by first | decide | simp) (x_makeBound rfl (fr.ev rfl)) ?_
 clear fr a; intro a fr
 refine fx_insert (es' := #[⟨.int .i64 1, .func (.func 32) #[.pointer (some ⟨b37, 0, none⟩)] #[], 0⟩, ⟨.int .i64 2, .func (.func 32) #[.pointer (some ⟨b37, 0, none⟩)] #[], 1⟩, ⟨.int .i64 3, .func (.func 32) #[.pointer (some ⟨b37, 0, none⟩)] #[], 2⟩]) Try.underlying84 Try.underlying33 rfl rfl rfl (fr.ev rfl) rfl (fr.ev rfl) M45 rfl rfl fun w51 hO52 hBq => ?_
 replace hB := hB.only hO52 (by first | exact ne_b_r42 | exact ne_r42_b.symm | (show ¬ b = r42; omega))
 replace hI := hI.only hO52 (by first | exact ne_bi_r42 | exact ne_r42_bi.symm | (show ¬ bi = r42; omega)) (by first | exact ne_ig_r42 | exact ne_r42_ig.symm | (show ¬ ig = r42; omega))
 replace hM := hM.only hO52 (ne1P ap_FpE_r42)
 replace H := H.only hO52 (ne1P ap_Fp_r42)
 replace B4 := B4.only hO52 (by first | exact ne_b1_r42 | exact ne_r42_b1.symm | (show ¬ b1 = r42; omega))
 replace B9 := B9.only hO52 (by first | exact ne_b6_r42 | exact ne_r42_b6.symm | (show ¬ b6 = r42; omega))
 replace B14 := B14.only hO52 (by first | exact ne_b11_r42 | exact ne_r42_b11.symm | (show ¬ b11 = r42; omega))
 replace OQ26 := OQ26.only hO52 (Apart.ne1 ap_Q24_r42)
 replace B33 := B33.only hO52 (by first | exact ne_b30_r42 | exact ne_r42_b30.symm | (show ¬ b30 = r42; omega))
 replace B40 := B40.only hO52 (by first | exact ne_b37_r42 | exact ne_r42_b37.symm | (show ¬ b37 = r42; omega))
 replace hF := hF.loc hO52 (.inr g_r42)
 replace M45 := hBq
 clear hBq
 refine fx_val (v := .pointer (some ⟨b37, 0, none⟩)) fr rfl rfl (by first | decide | simp) (x_move rfl (fr.ev rfl)) ?_
 clear fr a; intro a fr
 refine fx_val (v := .func (.func 33) #[.pointer (some ⟨b37, 0, none⟩)] #[]) fr rfl rfl (by first | decide | simp) (x_makeBound rfl (fr.ev rfl)) ?_
 clear fr a; intro a fr
 refine fx_insert (es' := #[⟨.int .i64 1, .func (.func 32) #[.pointer (some ⟨b37, 0, none⟩)] #[], 0⟩, ⟨.int .i64 2, .func (.func 32) #[.pointer (some ⟨b37, 0, none⟩)] #[], 1⟩, ⟨.int .i64 3, .func (.func 32) #[.pointer (some ⟨b37, 0, none⟩)] #[], 2⟩, ⟨.int .i64 11, .func (.func 33) #[.pointer (some ⟨b37, 0, none⟩)] #[], 3⟩]) Try.underlying84 Try.underlying33 rfl rfl rfl (fr.ev rfl) rfl (fr.ev rfl) M45 rfl rfl fun w53 hO54 hBq => ?_
 replace hB := hB.only hO54 (by first | exact ne_b_r42 | exact ne_r42_b.symm | (show ¬ b = r42; omega))
 replace hI := hI.only hO54 (by first | exact ne_bi_r42 | exact ne_r42_bi.symm | (show ¬ bi = r42; omega)) (by first | exact ne_ig_r42 | exact ne_r42_ig.symm | (show ¬ ig = r42; omega))
 replace hM := hM.only hO54 (ne1P ap_FpE_r42)
 replace H := H.only hO54 (ne1P ap_Fp_r42)
 replace B4 := B4.only hO54 (by first | exact ne_b1_r42 | exact ne_r42_b1.symm | (show ¬ b1 = r42; omega))
 replace B9 := B9.only hO54 (by first | exact ne_b6_r42 | exact ne_r42_b6.symm | (show ¬ b6 = r42; omega))
 replace B14 := B14.only hO54 (by first | exact ne_b11_r42 | exact ne_r42_b11.symm | (show ¬ b11 = r42; omega))
 replace OQ26 := OQ26.only hO54 (Apart.ne1 ap_Q24_r42)
 replace B33 := B33.only hO54 (by first | exact ne_b30_r42 | exact ne_r42_b30.symm | (show ¬ b30 = r42; omega))
 replace B40 := B40.only hO54 (by first | exact ne_b37_r42 | exact ne_r42_b37.symm | (show ¬ b37 = r42; omega))
 replace hF := hF.loc hO54 (.inr g_r42)
 replace M45 := hBq
 clear hBq
 refine fx_val (v := .pointer (some ⟨b37, 0, none⟩)) fr rfl rfl (by first | decide | simp) (x_move rfl (fr.ev rfl)) ?_
 clear fr a; intro a fr
 refine fx_val (v := .func (.func 34) #[.pointer (some ⟨b37, 0, none⟩)] #[]) fr rfl rfl (by first | decide | simp) (x_makeBound rfl (fr.ev rfl)) ?_
 clear fr a; intro a fr
 refine fx_insert (es' := #[⟨.int .i64 1, .func (.func 32) #[.pointer (some ⟨b37, 0, none⟩)] #[], 0⟩, ⟨.int .i64 2, .func (.func 32) #[.pointer (some ⟨b37, 0, none⟩)] #[], 1⟩, ⟨.int .i64 3, .func (.func 32) #[.pointer (some ⟨b37, 0, none⟩)] #[], 2⟩, ⟨.int .i64 11, .func (.func 33) #[.pointer (some ⟨b37, 0, none⟩)] #[], 3⟩, ⟨.int .i64 12, .func (.func 34) #[.pointer (some ⟨b37, 0, none⟩)] #[], 4⟩]) Try.underlying84 Try.underlying33 rfl rfl rfl (fr.ev rfl) rfl (fr.ev rfl) M45 rfl rfl fun w55 hO56 hBq => ?_
 replace hB := hB.only hO56 (by first | exact ne_b_r42 | exact ne_r42_b.symm | (show ¬ b = r42; omega))
 replace hI := hI.only hO56 (by first | exact ne_bi_r42 | exact ne_r42_bi.symm | (show ¬ bi = r42; omega)) (by first | exact ne_ig_r42 | exact ne_r42_ig.symm | (show ¬ ig = r42; omega))
 replace hM := hM.only hO56 (ne1P ap_FpE_r42)
 replace H := H.only hO56 (ne1P ap_Fp_r42)
 replace B4 := B4.only hO56 (by first | exact ne_b1_r42 | exact ne_r42_b1.symm | (show ¬ b1 = r42; omega))
 replace B9 := B9.only hO56 (by first | exact ne_b6_r42 | exact ne_r42_b6.symm | (show ¬ b6 = r42; omega))
 replace B14 := B14.only hO56 (by first | exact ne_b11_r42 | exact ne_r42_b11.symm | (show ¬ b11 = r42; omega))
 replace OQ26 := OQ26.only hO56 (Apart.ne1 ap_Q24_r42)
 replace B33 := B33.only hO56 (by first | exact ne_b30_r42 | exact ne_r42_b30.symm | (show ¬ b30 = r42; omega))
 replace B40 := B40.only hO56 (by first | exact ne_b37_r42 | exact ne_r42_b37.symm | (show ¬ b37 = r42; omega))
 replace hF := hF.loc hO56 (.inr g_r42)
 replace M45 := hBq
 clear hBq
 refine fx_val (v := .pointer (some ⟨b37, 0, none⟩)) fr rfl rfl (by first | decide | simp) (x_move rfl (fr.ev rfl)) ?_
 clear fr a; intro a fr
 refine fx_val (v := .func (.func 35) #[.pointer (some ⟨b37, 0, none⟩)] #[]) fr rfl rfl (by first | decide | simp) (x_makeBound rfl (fr.ev rfl)) ?_
 clear fr a; intro a fr
 refine fx_insert (es' := #[⟨.int .i64 1, .func (.func 32) #[.pointer (some ⟨b37, 0, none⟩)] #[], 0⟩, ⟨.int .i64 2, .func (.func 32) #[.pointer (some ⟨b37, 0, none⟩)] #[], 1⟩, ⟨.int .i64 3, .func (.func 32) #[.pointer (some ⟨b37, 0, none⟩)] #[], 2⟩, ⟨.int .i64 11, .func (.func 33) #[.pointer (some ⟨b37, 0, none⟩)] #[], 3⟩, ⟨.int .i64 12, .func (.func 34) #[.pointer (some ⟨b37, 0, none⟩)] #[], 4⟩, ⟨.int .i64 13, .func (.func 35) #[.pointer (some ⟨b37, 0, none⟩)] #[], 5⟩]) Try.underlying84 Try.underlying33 rfl rfl rfl (fr.ev rfl) rfl (fr.ev rfl) M45 rfl rfl fun w57 hO58 hBq => ?_
 replace hB := hB.only hO58 (by first | exact ne_b_r42 | exact ne_r42_b.symm | (show ¬ b = r42; omega))
 replace hI := hI.only hO58 (by first | exact ne_bi_r42 | exact ne_r42_bi.symm | (show ¬ bi = r42; omega)) (by first | exact ne_ig_r42 | exact ne_r42_ig.symm | (show ¬ ig = r42; omega))
 replace hM := hM.only hO58 (ne1P ap_FpE_r42)
 replace H := H.only hO58 (ne1P ap_Fp_r42)
 replace B4 := B4.only hO58 (by first | exact ne_b1_r42 | exact ne_r42_b1.symm | (show ¬ b1 = r42; omega))
 replace B9 := B9.only hO58 (by first | exact ne_b6_r42 | exact ne_r42_b6.symm | (show ¬ b6 = r42; omega))
 replace B14 := B14.only hO58 (by first | exact ne_b11_r42 | exact ne_r42_b11.symm | (show ¬ b11 = r42; omega))
 replace OQ26 := OQ26.only hO58 (Apart.ne1 ap_Q24_r42)
 replace B33 := B33.only hO58 (by first | exact ne_b30_r42 | exact ne_r42_b30.symm | (show ¬ b30 = r42; omega))
 replace B40 := B40.only hO58 (by first | exact ne_b37_r42 | exact ne_r42_b37.symm | (show ¬ b37 = r42; omega))
 replace hF := hF.loc hO58 (.inr g_r42)
 replace M45 := hBq
 clear hBq
 refine fx_val (v := .map (some r42)) fr rfl rfl (by first | decide | simp) (x_move rfl (fr.ev rfl)) ?_
 clear fr a; intro a fr
 refine fx_val (v := .pointer (some ⟨b1, 0, none⟩)) fr rfl rfl (by first | decide | simp) (x_fieldAddr fo36_0 rfl (fr.ev rfl) rfl) ?_
 clear fr a; intro a fr
 refine fx_val (v := .int .i64 m.kind) fr rfl rfl (by first | decide | simp) (x_load1 pl33 rfl (fr.ev rfl) (B4.cell 0 rfl)) ?_
 clear fr a; intro a fr
 refine fx_val (v := .func (.func f) #[.pointer (some ⟨b37, 0, none⟩)] #[]) fr rfl rfl (by first | decide | simp) (x_lookup (k := .i64) (ok := false) (v := .func (.func f) #[.pointer (some ⟨b37, 0, none⟩)] #[]) (b := true) Try.underlying84 Try.underlying33 rfl (fr.ev rfl) (fr.ev rfl) M45 (z := .nilFunc) (by kernel_rfl) (hes b37)) ?_
 clear fr a; intro a fr
 refine fx_val (v := .agg (msgE.arr m)) fr rfl rfl (by first | decide | simp) (x_loadE (E := msgE) ag36 rfl rfl (fr.ev rfl) (B4.rangeE msgE)) ?_
 clear fr a; intro a fr
 refine fx_callp rfl (x_callb (all := #[.pointer (some ⟨b37, 0, none⟩), .agg (msgE.arr m)]) (vs := [.agg (msgE.arr m)]) rfl (fr.ev rfl) ⟨(fr.ev rfl), trivial⟩ rfl hfn hnm hbd) (hcall _ b37 b30 bi ig cap r Q24 qc25 ⟨B40, B33, hB, hI, OQ26.view, Own.nil, ⟨(by first | exact ne_b37_b30 | exact ne_b30_b37.symm), (by first | exact ne_b37_b | exact ne_b_b37.symm), (by first | exact ne_b37_bi | exact ne_bi_b37.symm), (by first | exact ne_b37_ig | exact ne_ig_b37.symm), (by first | exact ne_b30_b | exact ne_b_b30.symm), (by first | exact ne_b30_bi | exact ne_bi_b30.symm), (by first | exact ne_b30_ig | exact ne_ig_b30.symm), (by first | exact ne_b_bi | exact ne_bi_b.symm), (by first | exact ne_b_ig | exact ne_ig_b.symm), (by first | exact ne_bi_ig | exact ne_ig_bi.symm), ap_Q24_b37, ap_Q24_b30, ap_Q24_b, ap_Q24_bi, ap_Q24_ig, (apart_none b37), (apart_none b30), (apart_none b), (apart_none bi), (apart_none ig), (fun k _ h => apart_none k h)⟩⟩ OQ26) ?_
 rintro _ w59 ⟨rfl, hN60⟩
 replace hB := hB.new hN60
 replace hI := hI.new hN60
 replace hM := hM.new hN60
 replace H := H.new hN60
 replace B4 := B4.new hN60
 replace B9 := B9.new hN60
 replace B14 := B14.new hN60
 replace OQ26 := OQ26.new hN60
 replace B33 := B33.new hN60
 replace B40 := B40.new hN60
 replace M45 := M45.new hN60
 replace hF := hF.trNew hN60
 refine fx_pt ?_
 refine fx_panD1 fr rfl (caught_stop B9 B14 ne_b6_b11 220) [.cell 4 23, .cell 5 37] [.slice none 0 0, .int .i64 220] rfl ?_
 rintro w9 ⟨hC9, hK9, hO9⟩
 replace hB := hB.only hO9 (fun h => h.elim (by first | exact ne_b_b6 | exact ne_b6_b.symm | (show ¬ b = b6; omega)) (by first | exact ne_b_b11 | exact ne_b11_b.symm | (show ¬ b = b11; omega)))
 replace hI := hI.only hO9 (fun h => h.elim (by first | exact ne_bi_b6 | exact ne_b6_bi.symm | (show ¬ bi = b6; omega)) (by first | exact ne_bi_b11 | exact ne_b11_bi.symm | (show ¬ bi = b11; omega))) (fun h => h.elim (by first | exact ne_ig_b6 | exact ne_b6_ig.symm | (show ¬ ig = b6; omega)) (by first | exact ne_ig_b11 | exact ne_b11_ig.symm | (show ¬ ig = b11; omega)))
 replace hM := hM.only hO9 (fun g hg => (fun h => h.elim ((ne1P ap_FpE_b6) g hg) ((ne1P ap_FpE_b11) g hg)))
 replace H := H.only hO9 (fun g hg => (fun h => h.elim ((ne1P ap_Fp_b6) g hg) ((ne1P ap_Fp_b11) g hg)))
 replace B4 := B4.only hO9 (fun h => h.elim (by first | exact ne_b1_b6 | exact ne_b6_b1.symm | (show ¬ b1 = b6; omega)) (by first | exact ne_b1_b11 | exact ne_b11_b1.symm | (show ¬ b1 = b11; omega)))
 replace OQ26 := OQ26.only hO9 (fun g hg => (fun h => h.elim ((Apart.ne1 ap_Q24_b6) g hg) ((Apart.ne1 ap_Q24_b11) g hg)))
 replace B33 := B33.only hO9 (fun h => h.elim (by first | exact ne_b30_b6 | exact ne_b6_b30.symm | (show ¬ b30 = b6; omega)) (by first | exact ne_b30_b11 | exact ne_b11_b30.symm | (show ¬ b30 = b11; omega)))
 replace B40 := B40.only hO9 (fun h => h.elim (by first | exact ne_b37_b6 | exact ne_b6_b37.symm | (show ¬ b37 = b6; omega)) (by first | exact ne_b37_b11 | exact ne_b11_b37.symm | (show ¬ b37 = b11; omega)))
 replace M45 := M45.only hO9 (fun h => h.elim (by first | exact ne_r42_b6 | exact ne_b6_r42.symm | (show ¬ r42 = b6; omega)) (by first | exact ne_r42_b11 | exact ne_b11_r42.symm | (show ¬ r42 = b11; omega)))
 replace hF := hF.locS hO9 (fun i => (fun h => h.elim (fun e => by rw [e]; exact (.inr g_b6)) (fun e => by rw [e]; exact (.inr g_b11))))
 refine ⟨⟨⟨_, rfl, x_loadV1 pl23 (hC9.cell 0 rfl)⟩, ⟨_, rfl, x_loadV1 pl37 (hK9.cell 0 rfl)⟩, trivial⟩, ?_⟩
 exact ⟨_, rfl, rfl, H, hF⟩
end Go.Proofs.Ytdiaemlgghfecaa
namespace Go.Proofs.Ytdiaemlgghfecaa
open Go.RowKit
theorem w_req_n {w : World} {bw be bh bi ig cap r : Nat} {d : Ent} {Q : Option Addr} {qc : Nat} {bs : List UInt8} {m : Msg} (R : WorkR w bw be bh bi ig cap r m.line d Q qc none 0 [] bs) (hsrc : 0 ≤ m.src ∧ m.src < 4) (hb : d.busy = false) (hk : 1 ≤ m.kind ∧ m.kind ≤ 3) : Calls Try.prog 32 #[.pointer (some ⟨bw, 0, none⟩), .agg (msgE.arr m)] w (Ret fun v w' => v = .tuple #[] ∧ HRet w w' bw be bh bi ig cap r m.line Q none [] (beginF bs d m)) := by
  obtain ⟨o, sh, busy, asks, kind, waits, told, q⟩ := d
  dsimp only at *
  subst hb
  exact req_n m R (by simp) hsrc hk
theorem w_req_b {w : World} {bw be bh bi ig cap r : Nat} {d : Ent} {Q : Option Addr} {qc : Nat} {bs : List UInt8} {m : Msg} (R : WorkR w bw be bh bi ig cap r m.line d Q qc none 0 [] bs) (hsrc : 0 ≤ m.src ∧ m.src < 4) (hb : d.busy = true) (OQ : Own msgE w Q qc d.q) (hl : d.q.length ≤ 1000000) : Calls Try.prog 32 #[.pointer (some ⟨bw, 0, none⟩), .agg (msgE.arr m)] w (Ret fun v w' => v = .tuple #[] ∧ HRet w w' bw be bh bi ig cap r m.line Q none [] ({ d with q := d.q ++ [m] }, bs, ([] : List Msg))) := by
  obtain ⟨o, sh, busy, asks, kind, waits, told, q⟩ := d
  dsimp only at *
  subst hb
  exact req_b m R (by simp) hsrc OQ hl
theorem w_back {w : World} {bw be bh bi ig cap r : Nat} {d : Ent} {Q : Option Addr} {qc : Nat} {bs : List UInt8} {m : Msg} (R : WorkR w bw be bh bi ig cap r m.line d Q qc none 0 [] bs) (hsrc : 0 ≤ m.src ∧ m.src < 4) (hs : strayF d m = false) (hk : m.kind = 11) (hask : 0 ≤ d.asks ∧ d.asks < 4) (hkk : d.busy = true → d.kind = 1 ∨ d.kind = 2) : Calls Try.prog 33 #[.pointer (some ⟨bw, 0, none⟩), .agg (msgE.arr m)] w (Ret fun v w' => v = .tuple #[] ∧ HRet w w' bw be bh bi ig cap r m.line Q none [] (otherF bs d m)) := by
  obtain ⟨o, sh, busy, asks, kind, waits, told, q⟩ := d
  dsimp only at *
  simp [strayF, hk] at hs
  obtain ⟨⟨rfl, h1⟩, h2⟩ := hs
  exact back_ok m R (by simp) hsrc hask hk (by omega) h2 (hkk rfl)
theorem w_ack {w : World} {bw be bh bi ig cap r : Nat} {d : Ent} {Q : Option Addr} {qc : Nat} {bs : List UInt8} {m : Msg} (R : WorkR w bw be bh bi ig cap r m.line d Q qc none 0 [] bs) (hsrc : 0 ≤ m.src ∧ m.src < 4) (hs : strayF d m = false) (hk : m.kind = 12) (hask : 0 ≤ d.asks ∧ d.asks < 4) (hw4 : d.waits ≤ 4) : Calls Try.prog 34 #[.pointer (some ⟨bw, 0, none⟩), .agg (msgE.arr m)] w (Ret fun v w' => v = .tuple #[] ∧ HRet w w' bw be bh bi ig cap r m.line Q none [] (otherF bs d m)) := by
  obtain ⟨o, sh, busy, asks, kind, waits, told, q⟩ := d
  dsimp only at *
  simp [strayF, hk] at hs
  obtain ⟨⟨rfl, h1⟩, ⟨h2, h3⟩, h4⟩ := hs
  exact ack_ok m R (by simp) hsrc hask hk (by omega) h2 h3 h4
theorem w_done {w : World} {bw be bh bi ig cap r : Nat} {d : Ent} {Q : Option Addr} {qc : Nat} {bs : List UInt8} {m : Msg} (R : WorkR w bw be bh bi ig cap r m.line d Q qc none 0 [] bs) (hsrc : 0 ≤ m.src ∧ m.src < 4) (hs : strayF d m = false) (hk : m.kind = 13) (ht : d.told = true → d.waits = 0) (hq : ∀ x ∈ d.q, QOk m.line x) (hl : d.q.length ≤ 100000) : Calls Try.prog 35 #[.pointer (some ⟨bw, 0, none⟩), .agg (msgE.arr m)] w (Ret fun v w' => v = .tuple #[] ∧ HRet w w' bw be bh bi ig cap r m.line Q none [] (otherF bs d m)) := by
  obtain ⟨o, sh, busy, asks, kind, waits, told, q⟩ := d
  dsimp only at *
  simp [strayF, hk] at hs
  obtain ⟨rfl, rfl, h4⟩ := hs
  obtain rfl := ht rfl
  exact done_ok m R (by simp) hsrc hk h4 hq (by simp; omega)
theorem begin_bs {bs : List UInt8} {d : Ent} {m : Msg} : (beginF bs d m).2.1.length = bs.length := by
  unfold beginF; dsimp only
  split
  · show (if d.o = m.src then setLn bs m.line m.bs else bs).length = _
    split
    · exact setLn_length _ _ _
    · rfl
  · split
    · rfl
    · split
      · split <;> rfl
      · split <;> rfl
theorem drain_bs : ∀ (q : List Msg) (bs : List UInt8) (d : Ent), (drainF q bs d).2.1.length = bs.length
  | [], bs, d => rfl
  | m :: r, bs, d => by
    unfold drainF
    split
    · rfl
    · dsimp only
      rw [drain_bs r, begin_bs]
theorem other_bs {bs : List UInt8} {d : Ent} {m : Msg} : (otherF bs d m).2.1.length = bs.length := by
  unfold otherF
  split
  · exact drain_bs _ _ _
  · split
    · dsimp only
      split <;> exact setLn_length _ _ _
    · split <;> rfl
def HOk (h : HD) : Prop := ∀ n, n < h.E.length → EOk n (entOf h.E n) ∧ (entOf h.E n).q.length ≤ 100000
theorem chk_home {m : Msg} (h : chk m = 0) (hd : m.dst = 4) : homeK m.kind = true ∧ 0 ≤ m.src ∧ m.src < 4 := by
  unfold chk goodMsg at h
  have hx := home_not m.kind
  have h2 : isCache m.dst = false := by rw [hd]; rfl
  simp [hd, h2, isCache] at h
  exact ⟨h.1, h.2.1, by have := h.2.2.1; omega⟩
theorem take_c {w : World} {Fp : Nat → Prop} {b : Nat} {h : HD} (H : HomeAt w Fp b h) (m : Msg) (hok : HOk h) : Calls Try.prog 12 #[.pointer (some ⟨b, 0, none⟩), .agg (msgE.arr m)] w (Ret fun v w' => TakeH w Fp b (takeH h m) v w') := by
  have hlen := H.len
  by_cases h1 : chk m ≠ 0
  · refine (take_a1 H m h1).mono ?_
    rintro e w' ⟨v, rfl, hv, hC, hn⟩
    exact ⟨v, rfl, takeH_no 2 (by unfold takeH; rw [if_pos (.inl h1)]) hv hC hn⟩
  by_cases h2 : m.dst ≠ 4
  · refine (take_a2 H m h1 h2).mono ?_
    rintro e w' ⟨v, rfl, hv, hC, hn⟩
    exact ⟨v, rfl, takeH_no 2 (by unfold takeH; rw [if_pos (.inr h2)]) hv hC hn⟩
  have h0 : ¬ (chk m ≠ 0 ∨ m.dst ≠ 4) := fun h => h.elim h1 h2
  have hmn := m.hn
  by_cases h3 : ((h.bs.length / 16 : Nat) : Int) ≤ m.line
  · refine (take_r H m h1 h2 h3).mono ?_
    rintro e w' ⟨v, rfl, hv, hC, hn⟩
    exact ⟨v, rfl, takeH_no 4 (by unfold takeH; rw [if_neg h0, if_pos (by rw [hlen.1]; exact h3)]) hv hC hn⟩
  have h3' : ¬ (h.E.length : Int) ≤ m.line := by rw [hlen.1]; exact h3
  have hn : m.line.toNat < h.E.length := by omega
  obtain ⟨hE, hql⟩ := hok _ hn
  obtain ⟨hhome, hsrc⟩ := chk_home (Decidable.not_not.1 h1) (Decidable.not_not.1 h2)
  have hkn : (((entOf h.E m.line.toNat) : Ent)) = h.E.getD m.line.toNat ent0 := rfl
  have hq : ∀ x ∈ (entOf h.E m.line.toNat).q, QOk m.line x := fun x hx => by
    obtain ⟨a1, a2, a3, a4, a5⟩ := hE.q x hx
    exact ⟨a1, a2, ⟨a3, a4⟩, by rw [a5, Int.toNat_of_nonneg hmn.1]⟩
  have hreq : m.kind ≤ 3 → 1 ≤ m.kind → ∃ f fn, Try.prog.funcs[f]? = some fn ∧ (fn.name == "runtime.NumGoroutine") = false ∧ fn.body.isNone = false ∧ f = 32 ∧ (∀ b, (Instr.findNow (.int .i64) (.int .i64 m.kind) (takeEs b).toList 0).map (fun q => (match q with | some (_, u) => u | none => .nilFunc, q.isSome)) = some (.func (.func f) #[.pointer (some ⟨b, 0, none⟩)] #[], true)) := fun ha hb => by
    refine ⟨32, _, Try.func32, nm32, rfl, rfl, fun b => ?_⟩
    have : m.kind = 1 ∨ m.kind = 2 ∨ m.kind = 3 := by omega
    rcases this with hk | hk | hk <;> rw [hk] <;> rfl
  unfold homeK at hhome
  simp only [Bool.or_eq_true, decide_eq_true_eq] at hhome
  by_cases hk3 : m.kind ≤ 3
  · have hk1 : 1 ≤ m.kind := by omega
    obtain ⟨f, fn, hfn, hnm, hbd, rfl, hes⟩ := hreq hk3 hk1
    cases hb : (entOf h.E m.line.toNat).busy with
    | true =>
      refine (take_ret (x := ({ (entOf h.E m.line.toNat) with q := (entOf h.E m.line.toNat).q ++ [m] }, h.bs, [])) H m h1 h2 h3 hql hfn hnm hbd hes rfl fun w1 bw be bi ig cap r Q qc R OQ => w_req_b R hsrc hb OQ (by omega)).mono ?_
      rintro e w' ⟨v, rfl, hv⟩
      refine ⟨v, rfl, ?_⟩
      unfold takeH
      rw [if_neg h0, if_neg h3']
      dsimp only
      rw [if_pos hk3, ← hkn, if_pos hb]
      exact hv
    | false =>
      refine (take_ret (x := beginF h.bs (entOf h.E m.line.toNat) m) H m h1 h2 h3 hql hfn hnm hbd hes begin_bs fun w1 bw be bi ig cap r Q qc R OQ => w_req_n R hsrc hb ⟨hk1, hk3⟩).mono ?_
      rintro e w' ⟨v, rfl, hv⟩
      refine ⟨v, rfl, ?_⟩
      unfold takeH
      rw [if_neg h0, if_neg h3']
      dsimp only
      rw [if_pos hk3, ← hkn, if_neg (by rw [hb]; decide)]
      exact hv
  · have hks : m.kind = 11 ∨ m.kind = 12 ∨ m.kind = 13 := by omega
    cases hs : strayF (entOf h.E m.line.toNat) m with
    | true =>
      have hp : Calls Try.prog 12 #[.pointer (some ⟨b, 0, none⟩), .agg (msgE.arr m)] w (Ret fun v w' => v = .tuple #[.slice none 0 0, .int .i64 220] ∧ HomeAt w' Fp b h ∧ New w w') := by
        rcases hks with hk | hk | hk
        · exact take_pan H m h1 h2 h3 hql (f := 33) Try.func33 nm33 rfl (fun _ => by rw [hk]; rfl) fun w1 bw be bi ig cap r Q qc R OQ => back_no m R (by simp) hsrc hk hs
        · exact take_pan H m h1 h2 h3 hql (f := 34) Try.func34 nm34 rfl (fun _ => by rw [hk]; rfl) fun w1 bw be bi ig cap r Q qc R OQ => ack_no m R (by simp) hsrc hk hs
        · exact take_pan H m h1 h2 h3 hql (f := 35) Try.func35 nm35 rfl (fun _ => by rw [hk]; rfl) fun w1 bw be bi ig cap r Q qc R OQ => done_no m R (by simp) hsrc hk hs
      refine hp.mono ?_
      rintro e w' ⟨v, rfl, hv, hC, hn⟩
      exact ⟨v, rfl, takeH_no 220 (by unfold takeH; rw [if_neg h0, if_neg h3']; dsimp only; rw [if_neg hk3, ← hkn, if_pos hs]) hv hC hn⟩
    | false =>
      have hp : Calls Try.prog 12 #[.pointer (some ⟨b, 0, none⟩), .agg (msgE.arr m)] w (Ret fun v w' => TakeH w Fp b (⟨(otherF h.bs (entOf h.E m.line.toNat) m).2.1, h.E.set m.line.toNat (otherF h.bs (entOf h.E m.line.toNat) m).1⟩, (otherF h.bs (entOf h.E m.line.toNat) m).2.2, 0) v w') := by
        rcases hks with hk | hk | hk
        · exact take_ret H m h1 h2 h3 hql (f := 33) Try.func33 nm33 rfl (fun _ => by rw [hk]; rfl) other_bs fun w1 bw be bi ig cap r Q qc R OQ => w_back R hsrc hs hk hE.asks hE.kind
        · exact take_ret H m h1 h2 h3 hql (f := 34) Try.func34 nm34 rfl (fun _ => by rw [hk]; rfl) other_bs fun w1 bw be bi ig cap r Q qc R OQ => w_ack R hsrc hs hk hE.asks hE.waits.2
        · exact take_ret H m h1 h2 h3 hql (f := 35) Try.func35 nm35 rfl (fun _ => by rw [hk]; rfl) other_bs fun w1 bw be bi ig cap r Q qc R OQ => w_done R hsrc hs hk hE.told hq hql
      refine hp.mono ?_
      rintro e w' ⟨v, rfl, hv⟩
      refine ⟨v, rfl, ?_⟩
      unfold takeH
      rw [if_neg h0, if_neg h3']
      dsimp only
      rw [if_neg hk3, ← hkn, if_neg (by rw [hs]; decide)]
      exact hv
end Go.Proofs.Ytdiaemlgghfecaa
namespace Go.Proofs.Ytdiaemlgghfecaa
open Go.RowKit
theorem nodup_len : ∀ (l m : List Slot), l.Nodup → (∀ x ∈ l, x ∈ m) → l.length ≤ m.length
  | [], _, _, _ => Nat.zero_le _
  | x :: l, m, hn, hs => by
    rw [List.nodup_cons] at hn
    have hx : x ∈ m := hs x (by simp)
    have h2 := nodup_len l (m.erase x) hn.2 fun y hy => (List.mem_erase_of_ne (fun e : y = x => hn.1 (e ▸ hy))).2 (hs y (by simp [hy]))
    rw [List.length_erase_of_mem hx] at h2
    have := List.length_pos_of_mem hx
    simp only [List.length_cons]
    omega
def IterAt (w : World) (it r c : Nat) (pre : List Slot) : Prop := w.heap[it]? = some (.mapIter (some r) c (pre.map Slot.born).toArray c)
section
variable {w w' : World} {S : Nat → Prop} {it r c : Nat} {pre L : List Slot} {es : Array MapEntry}
theorem IterAt.lt (h : IterAt w it r c pre) : it < w.heap.size := (Array.getElem?_eq_some_iff.1 h).1
theorem IterAt.only (h : IterAt w it r c pre) (k : Only S w w') (hs : ¬ S it) : IterAt w' it r c pre := k.heap h hs
theorem IterAt.new (h : IterAt w it r c pre) (k : New w w') : IterAt w' it r c pre := h.only k id
theorem IterAt.keep (h : IterAt w it r c pre) (k : KeepsWalks w w') : IterAt w' it r c pre := k.same _ _ h rfl
theorem MapBlk.keep (h : MapBlk w r es c) (k : KeepsWalks w w') : MapBlk w' r es c := k.same _ _ h rfl
theorem IterAt.grown (h : IterAt w it r c pre) (k : Only (fun j => j = it) w w') : w.grownBy w' (some it) ∧ ∃ o : Obj, w.heap[it]? = some o ∧ o.isWalk = true :=
  ⟨⟨k.os, k.tape, k.output, k.size, fun j hj hne => k.block j hj fun e => hne (by rw [e])⟩, _, h, rfl⟩
end
section
variable {P : Program} {N : Nat × List Deferred} {T : List (Nat × Value)} {a : Act} {w : World} {Q : Exit → Act → World → Prop} {ops : Array Oper} {rest : List Oper} {o : Oper} {d : Nat}
theorem fx_rangeMap {t K E : TypeId} {x : Operand} {r c : Nat} {es : Array MapEntry} (fr : Fr N T a) (hw : Region.wanted o (yielded ops a.tmps) = true) (ht : P.underlying t = some (.map K E)) (ho : o.op = .range t x) (hd : o.dst = some d) (hN : d < N.1) (hx : a.eval x = .map (some r)) (hM : MapBlk w r es c)
    (next : ∀ it w1, New w w1 → IterAt w1 it r c [] → w.heap.size ≤ it → ∀ a, Fr N ((d, .pointer (some ⟨it, 0, none⟩)) :: T) a → wpList P ops Q rest a w1) : wpList P ops Q (o :: rest) a w := by
  refine fx_val (v := .pointer (some ⟨w.heap.size, 0, none⟩)) (w1 := w.alloc (.mapIter (some r) c #[] c)) fr hw hd hN ?_ fun a fr => next w.heap.size _ ((Only.refl _ w).alloc _) (Go.heap_alloc_new w _) (Nat.le_refl _) a fr
  have := run_range_map w t K E r es c ht hM
  simp [execOp, ho, hx, this]
theorem fx_next_map {x : Operand} {it r c : Nat} {pre L : List Slot} (fr : Fr N T a) (hw : Region.wanted o (yielded ops a.tmps) = true) (ho : o.op = .next x false) (hd : o.dst = some d) (hN : d < N.1) (hx : a.eval x = .pointer (some ⟨it, 0, none⟩)) (hI : IterAt w it r c pre) (hM : MapBlk w r (esOf L) c) (hb : ∀ s ∈ L, s.born < c)
    (no : (∀ s ∈ L, s ∈ pre) → (∀ s ∈ pre, s ∈ L) → ∀ a, Fr N ((d, .tuple #[.bool false]) :: T) a → wpList P ops Q rest a w)
    (yes : ∀ s w1, s ∈ L → s ∉ pre → Only (fun k => k = it) w w1 → IterAt w1 it r c (pre ++ [s]) → MapBlk w1 r (esOf L) c → ∀ a, Fr N ((d, .tuple #[.bool true, .int .u32 ((s.k : Nat) : Int), .pointer (some ⟨s.b, 0, none⟩)]) :: T) a → wpList P ops Q rest a w1)
    (hpre : ∀ s ∈ pre, s ∈ L) (hbs : (L.map Slot.born).Nodup) : wpList P ops Q (o :: rest) a w := by
  have hr : w.heap[it]? = some (.mapIter (some r) c (pre.map Slot.born).toArray c) := hI
  have hne : ¬ it = r := fun e => by subst e; rw [show w.heap[it]? = _ from hM] at hr; cases hr
  have inj : ∀ s ∈ L, ∀ t ∈ L, s.born = t.born → s = t := by
    intro s hs t ht e
    obtain ⟨i, hi, rfl⟩ := List.getElem_of_mem hs
    obtain ⟨j, hj, rfl⟩ := List.getElem_of_mem ht
    have hp := List.pairwise_iff_getElem.1 hbs
    rcases Nat.lt_trichotomy i j with h | h | h
    · exact (hp i j (by simpa using hi) (by simpa using hj) h (by simpa using e)).elim
    · subst h; rfl
    · exact (hp j i (by simpa using hj) (by simpa using hi) h (by simpa using e.symm)).elim
  have hold : ∀ x ∈ (esOf L).toList, x.born < c := by
    intro x hx
    obtain ⟨s, hs, rfl⟩ := List.mem_map.1 (show x ∈ L.map Slot.me from hx)
    exact hb s hs
  rcases run_next_at (P := P) w o.type it r c c _ (esOf L) c hr hM hold (Nat.le_refl _) with ⟨h0, hrun⟩ | ⟨e, he, w1, hw1, hrun⟩
  · refine fx_val (v := .tuple #[.bool false]) (w1 := w) fr hw hd hN (by simp [execOp, ho, hx, hrun]) (no ?_ hpre)
    intro s hs
    have : leftOf (esOf L) (pre.map Slot.born).toArray = #[] := Array.eq_empty_of_size_eq_zero h0
    have h1 := (Array.filter_eq_empty_iff.1 this) s.me (by simp [esOf]; exact ⟨s, hs, rfl⟩)
    simp [Slot.me] at h1
    obtain ⟨t, ht, hte⟩ := h1
    rw [← inj t (hpre t ht) s hs hte]
    exact ht
  · have hel : e ∈ esOf L ∧ (!(pre.map Slot.born).toArray.contains e.born) = true := by
      have := Array.mem_filter.1 (show e ∈ leftOf (esOf L) (pre.map Slot.born).toArray by simpa using he)
      exact this
    obtain ⟨s, hs, rfl⟩ := List.mem_map.1 (show e ∈ L.map Slot.me by simpa [esOf] using hel.1)
    have hns : s ∉ pre := by
      intro hp
      have := hel.2
      simp [Slot.me] at this
      exact this s hp rfl
    have hsz : it < w1.heap.size := by
      have := (Array.getElem?_eq_some_iff.1 hr).1
      rcases hw1 with rfl | rfl <;> exact this
    have hO : Only (fun k => k = it) w (ChangeMaps.setBlock w1 it (.mapIter (some r) c ((pre.map Slot.born).toArray.push s.me.born) c)) := by
      have h1 : Only (fun k => k = it) w w1 := by
        rcases hw1 with rfl | rfl
        · exact Only.refl _ _
        · exact (Only.refl _ _).drew
      exact h1.tr (set_only hsz)
    refine fx_val (v := .tuple #[.bool true, .int .u32 ((s.k : Nat) : Int), .pointer (some ⟨s.b, 0, none⟩)]) (w1 := ChangeMaps.setBlock w1 it (.mapIter (some r) c ((pre.map Slot.born).toArray.push s.me.born) c)) fr hw hd hN (by simp [execOp, ho, hx, hrun]; exact ⟨rfl, rfl⟩) (yes s _ hs hns hO ?_ (hM.only hO fun e => hne e.symm))
    have : (ChangeMaps.setBlock w1 it (.mapIter (some r) c ((pre.map Slot.born).toArray.push s.me.born) c)).heap[it]? = some (.mapIter (some r) c ((pre.map Slot.born).toArray.push s.me.born) c) := by
      simp [ChangeMaps.setBlock, hsz]
    show _ = _
    rw [this]
    simp [Slot.me]
theorem x_entry {ev : Operand → Value} {x : Operand} {it r c : Nat} {pre L : List Slot} {s : Slot} (ho : o.op = .entry x) (hx : ev x = .pointer (some ⟨it, 0, none⟩)) (hI : IterAt w it r c (pre ++ [s])) (hM : MapBlk w r (esOf L) c) (hs : s ∈ L) (hbs : (L.map Slot.born).Nodup) :
    (execOp ev o).run P w = .ok (.value (.tuple #[.int .u32 ((s.k : Nat) : Int), .pointer (some ⟨s.b, 0, none⟩)])) w := by
  have hr2 : w.heap[it]? = some (.mapIter (some r) c ((pre.map Slot.born).toArray.push s.me.born) c) := by
    rw [show w.heap[it]? = _ from hI]
    simp [Slot.me]
  have hn : ((esOf L).toList.map (·.born)).Nodup := by
    have : (esOf L).toList.map (·.born) = L.map Slot.born := by
      show (L.map Slot.me).map (·.born) = _
      rw [List.map_map]
      rfl
    rw [this]
    exact hbs
  have hmem : s.me ∈ (esOf L).toList := by
    show s.me ∈ L.map Slot.me
    exact List.mem_map.2 ⟨s, hs, rfl⟩
  have := run_entry_at (P := P) w it r c _ (esOf L) c s.me hr2 hM hmem hn
  simp [execOp, ho, hx, this]
  exact ⟨rfl, rfl⟩
end
theorem Step.walks {SI : Nat → Prop} {W W' : World} (h : Step SI W W') : KeepsWalks W W' := by
  obtain ⟨S, h1, h2⟩ := h
  refine ⟨h1.size, fun k o hk ho => ?_⟩
  have hlt := (Array.getElem?_eq_some_iff.1 hk).1
  refine (h1.block k hlt fun hs => ?_).trans hk
  obtain ⟨_, o', h3, h4⟩ := h2 k hlt hs
  rw [hk] at h3
  cases h3
  cases o <;> simp_all [Obj.isWalk, Obj.isCells]
section
variable {P : Program} {N : Nat × List Deferred} {T : List (Nat × Value)} {a : Act} {w : World} {Q : Exit → Act → World → Prop}
theorem fx_rangeK {α : Type} {S Sp : List α → Prop} {n0 : Nat} {e : α → Value} (fr : Fr N T a) {tg p gf : Nat} {lb : Array Value} (hg : look T tg = some (.func (.func gf) #[] lb)) (hp : p < N.1) (eg : ∀ (args : Array Value) (w : World), (callFunc gf args).run P w = .ok (.enter gf args) w)
    {SI : Nat → Prop} (hseq : SeqStopsK Fence.wide 8 P gf lb (fun x => #[e x]) KeepsWalks S Sp n0 w)
    (I : List α → World → Prop) (Ix : Code → List α → World → Prop) (Ax : α → Act → World → Prop) (hI : Turns w.heap.size I) (hIx : ∀ c, Turns w.heap.size (Ix c)) (hAx : ∀ x a', Turns w.heap.size fun (_ : Unit) W => Ax x a' W) (hIn : ∀ s w w', I s w → New w w' → I s w') (h0 : I [] w)
    {assign body : Code} (hassign : ∀ (l : Nat) (pre : List α) (x : α) (W : World) (K : Act → World → Prop), I pre W → (∀ a' W', New W W' → Ax x a' W' → K a' W') → ∀ a0, Fr (N.1, []) ((p, e x) :: T) a0 → assign.wpIn (Fence.wide.inRound l) 7 P (Exit.then K (fun _ _ _ => False)) a0 W)
    (hbody : ∀ (l : Nat) (pre : List α) (x : α) (a' : Act) (W : World), I pre W → Ax x a' W → pre.length < n0 → body.wpIn (Fence.wide.inRound l) 7 P (roundQ SI I Ix (pre ++ [x]) W) a' W)
    (next : ∀ D ys W, w.heap.size ≤ D → S ys → I ys W → MarkAt W D → ∀ a, Fr (N.1, { target := .collected D, args := #[] } :: N.2) T a → Q .normal a W)
    (stop : ∀ D c pre W, w.heap.size ≤ D → Sp pre → Ix c pre W → MarkAt W D → ∀ a, Fr (N.1, { target := .collected D, args := #[] } :: N.2) T a → c.wp P Q a W) :
    (Code.rangeFunc (.tmp tg) #[p] assign body).wp P Q a w := by
  have frD : ∀ D, Fr (N.1, { target := .collected D, args := #[] } :: N.2) T { a with defers := { target := .collected D, args := #[] } :: a.defers } := fun D => ⟨by show _ :: a.defers = _ :: N.2; rw [fr.df], fr.sz, fr.get⟩
  refine (wpIn_wide (n := 9)).1 (wpIn_rangeFunc_ownH (F := Fence.wide) (n := 9) rfl (by decide) (gf := gf) (lb := lb) (fr.ev hg) trivial eg hseq (fun h k => h.trans k) ?_ (Below.refl _ _) (fun _ => rfl) I Ix hI.own (fun c => (hIx c).own) h0 Ax (fun x a' => (hAx x a').own) ?_ ?_ ?_ ?_)
  · intro W l o o' hl hh hc hw
    exact walksK_b (w := w) W l o o' hl hh hc hw
  · intro l pre x W K hi hK
    have hf0 := fr.put p (e x) hp
    have he : ((#[p] : Array Nat).zip #[e x]).foldl (fun t (p, v) => t.setIfInBounds p v) a.tmps = (a.put (some p) (e x)).tmps := by simp [Act.put]
    refine hassign l pre x W K hi (fun a' W' hn hax => hK a' W' (keepsFrom_of_only hn fun _ _ h => h.elim) (Step.walks (SI := fun _ => False) (Step.new hn)) (hIn _ _ _ hi hn) hax) _ ?_
    rw [he]
    exact ⟨rfl, hf0.sz, hf0.get⟩
  · intro l pre x a' W _ _ hi hax hlen
    refine wpIn_mono (hbody l pre x a' W hi hax hlen) ?_
    intro ex a3 W3 h
    cases ex with
    | normal => exact ⟨h.1.keeps _, h.1.walks, h.2⟩
    | ret => exact ⟨h.1.keeps _, h.2⟩
    | exit id => exact ⟨h.1.keeps _, h.2⟩
    | goto t => exact h.elim
    | panic c => exact h.elim
    | outgrown => exact h.elim
  · intro D ys W hD hys hi hK
    exact next D ys W hD hys hi hK _ (frD D)
  · intro D c pre W hD hsp hi hK
    exact wpIn_wide.2 (stop D c pre W hD hsp hi hK _ (frD D))
end
def idleB (E : List Ent) : Bool := E.all fun d => !d.busy
theorem idle_all {E : List Ent} {L : List Slot} (no : ∀ k, k ∉ L.map Slot.k → entOf E k = ent0) (lt : ∀ s ∈ L, s.k < E.length) (h : ∀ s ∈ L, (entOf E s.k).busy = false) : idleB E = true := by
  unfold idleB
  rw [List.all_eq_true]
  intro d hd
  obtain ⟨k, hk, rfl⟩ := List.getElem_of_mem hd
  have he : entOf E k = E[k] := by simp [entOf, List.getD, hk]
  by_cases hm : k ∈ L.map Slot.k
  · obtain ⟨s, hs, rfl⟩ := List.mem_map.1 hm
    rw [← he, h s hs]
    rfl
  · rw [← he, no k hm]
    rfl
theorem idle_not {E : List Ent} {k : Nat} (hk : k < E.length) (h : (entOf E k).busy = true) : idleB E = false := by
  cases hb : idleB E with
  | false => rfl
  | true =>
    unfold idleB at hb
    rw [List.all_eq_true] at hb
    have he : entOf E k = E[k] := by simp [entOf, List.getD, hk]
    have := hb _ (List.getElem_mem hk)
    rw [← he, h] at this
    cases this
end Go.Proofs.Ytdiaemlgghfecaa
namespace Go.Proofs.Ytdiaemlgghfecaa
open Go.RowKit
set_option maxRecDepth 100000 in
set_option maxHeartbeats 4000000 in
theorem entry_ok {w : World} {b bi r : Nat} (hB : Blk w b 64 #[.pointer (some ⟨bi, 0, none⟩), .map (some r)]) {ig cap : Nat} {bs : List UInt8} (hI : Img 0 w bi ig cap bs) (line : Int) (hln : 0 ≤ line ∧ line < 4294967296) {FpE : Nat → Prop} {E : List Ent} {L : List Slot} {c : Nat} (hM : EntsAt w FpE r E L c) (hr : ¬ ((bs.length / 16 : Nat) : Int) ≤ line) (hl : (entOf E line.toNat).q.length ≤ 1000000) : Calls Try.prog 13 #[.pointer (some ⟨b, 0, none⟩), .int .u32 line] w (Ret fun v w' => ∃ Q' qc', v = .tuple #[.agg (entA (entOf E line.toNat) (.slice Q' (entOf E line.toNat).q.length qc')), .int .i64 0] ∧ Own msgE w' Q' qc' (entOf E line.toNat).q ∧ (∀ g, inA Q' g → w.heap.size ≤ g) ∧ New w w') := by
 have hp := hI.pos
 have hF := Only.refl (fun _ => False) w
 refine Zen 20 Try.func13 ?_
 refine Zsr ?_
 refine Zna (z := zv3) (cs := #[.int .i64 0, .bool false, .bool false, .bool false, .bool false, .bool false, .int .i64 0, .int .i64 0, .int .i64 0, .bool false, .slice none 0 0]) (by kernel_rfl) fun b1 w2 hN3 B4 hb5 => ?_
 have g_b1 := Nat.le_trans hF.size hb5
 refine Za ?_
 refine Znn ?_
 refine Zsq ?_
 refine Zbl ?_
 refine Zsr ?_
 refine Zm ?_
 replace hB := hB.new hN3
 refine Zk cf27 (hnone_c hB) ?_
 rintro v w9 ⟨rfl, hw9⟩
 obtain rfl := hw9.symm
 refine Za ?_
 refine Znn ?_
 refine Zcf ?_
 refine Zsr ?_
 refine Zm ?_
 refine Zv _ (fun _ fr => x_convert Try.underlying24 Try.underlying2 rfl (fr.ev rfl) (i64w (r := line) rfl (by omega))) ?_
 refine Zm ?_
 replace hI := hI.new hN3
 refine Zk cf10 (lines_r hB hI) ?_
 rintro v w9 ⟨rfl, hw9⟩
 obtain rfl := hw9.symm
 refine Zv (.bool false) (fun _ fr => x_geq rfl (fr.ev rfl) (fr.ev rfl) (decide_eq_false hr)) ?_
 refine Za ?_
 refine Znn ?_
 refine Zcf ?_
 refine Zsk ?_
 refine Zb ?_
 refine Znx ?_
 refine Zsr ?_
 refine Zm ?_
 refine Zm ?_
 replace hM := hM.new hN3
 refine Zk (args := #[.pointer (some ⟨b, 0, none⟩), .int .u32 line]) cf31 (of_c hB hM line (by omega) hl) ?_
 rintro v w14 ⟨Q10, qc11, rfl, OQ12, hA13, hN15⟩
 have ap_Q10_b1 : Apart Q10 b1 := new_apart hA13 B4.lt
 replace hF := hF.trNew hN3
 have gN_Q10 := fun g (hg : inA Q10 g) => Nat.le_trans hF.size (hA13 g hg)
 replace B4 := B4.new hN15
 refine ZsS sz42 (ent_all _ _ _ _) B4 rfl rfl fun w16 hO17 hBq => ?_
 replace B4 := hBq
 clear hBq
 refine Za ?_
 refine Znn ?_
 refine Zrt ?_
 refine Zre rfl [_, _] ⟨⟨_, rfl, x_loadV ag42 rfl B4.range⟩, rfl, trivial⟩ ?_
 replace hF := (hF.trNew hN15).loc hO17 (.inr g_b1)
 replace OQ12 := OQ12.only hO17 (Apart.ne1 ap_Q10_b1)
 exact ⟨_, rfl, Q10, qc11, rfl, OQ12, gN_Q10, hF⟩
set_option maxRecDepth 100000 in
set_option maxHeartbeats 4000000 in
theorem memory_c {w : World} {b bi r : Nat} (hB : Blk w b 64 #[.pointer (some ⟨bi, 0, none⟩), .map (some r)]) {ig cap : Nat} {bs : List UInt8} (hI : Img 0 w bi ig cap bs)  : Calls Try.prog 24 #[.pointer (some ⟨b, 0, none⟩)] w (Ret fun v w' => ∃ b g c, v = .pointer (some ⟨b, 0, none⟩) ∧ Img 0 w' b g c bs ∧ w.heap.size ≤ b ∧ w.heap.size ≤ g ∧ New w w') := by
 have hF := Only.refl (fun _ => False) w
 refine Zen 10 Try.func24 ?_
 refine Zsr ?_
 refine Za ?_
 refine Znn ?_
 refine Zsq ?_
 refine Zsr ?_
 refine Zm ?_
 refine Zk cf27 (hnone_c hB) ?_
 rintro v w9 ⟨rfl, hw9⟩
 obtain rfl := hw9.symm
 refine Znn ?_
 refine Zcf ?_
 refine Zsk ?_
 refine Znx ?_
 refine Zsr ?_
 refine Zm ?_
 refine Zn ?_
 refine Zf fo64_0 ?_
 refine Zd pl61 (hB.cell 0 rfl) ?_
 refine Zk cf37 (hicopy_c hI) ?_
 rintro v w10 ⟨bi3, ig4, cap5, rfl, hI6, hb7, hg8, hne9, hN11⟩
 have g_bi3 := Nat.le_trans hF.size hb7
 have g_ig4 := Nat.le_trans hF.size hg8
 refine Za ?_
 refine Znn ?_
 refine Zrt ?_
 refine Zre rfl [_] ⟨rfl, trivial⟩ ?_
 replace hF := hF.trNew hN11
 exact ⟨_, rfl, bi3, ig4, cap5, rfl, hI6, g_bi3, g_ig4, hF⟩
def home0 (bs : List UInt8) : HD := ⟨bs, List.replicate (bs.length / 16) ent0⟩
theorem ents_nil {w : World} {r : Nat} (h : MapBlk w r #[] 0) (n : Nat) : EntsAt w (fun g => g = r) r (List.replicate n ent0) [] 0 := by
  refine ⟨h, by simp, by simp, by simp, by simp, fun k _ => ?_, fun g => by simp, by simp⟩
  unfold entOf
  simp only [List.getD, List.getElem?_replicate]
  split <;> rfl
set_option maxRecDepth 100000 in
set_option maxHeartbeats 4000000 in
theorem hnew_c {w : World} {bi ig cap : Nat} {bs : List UInt8} (hI : Img 0 w bi ig cap bs) : Calls Try.prog 22 #[.pointer (some ⟨bi, 0, none⟩)] w (Ret fun v w' => ∃ b Fp, v = .tuple #[.pointer (some ⟨b, 0, none⟩), .int .i64 0] ∧ HomeAt w' Fp b (home0 bs) ∧ (∀ g, Fp g → w.heap.size ≤ g) ∧ New w w') := by
 have hF := Only.refl (fun _ => False) w
 refine Zen 13 Try.func22 ?_
 refine Zsr ?_
 refine Za ?_
 refine Za ?_
 refine Znn ?_
 refine Zsr ?_
 refine Zm ?_
 refine Zk cf37 (hicopy_c hI) ?_
 rintro v w8 ⟨bi1, ig2, cap3, rfl, hI4, hb5, hg6, hne7, hN9⟩
 have g_bi1 := Nat.le_trans hF.size hb5
 have g_ig2 := Nat.le_trans hF.size hg6
 refine Za ?_
 refine Znn ?_
 refine Zsq ?_
 refine Zsr ?_
 refine Zm ?_
 refine Zv (.bool false) (fun _ fr => x_peql Try.underlying61 rfl (fr.ev rfl) rfl rfl) ?_
 refine Znn ?_
 refine Zcf ?_
 refine Zsk ?_
 refine Znx ?_
 refine Zsr ?_
 refine Zm ?_
 intro a fr
 refine fx_makeMap fr rfl rfl rfl (by first | decide | simp) ?_
 clear fr a
 intro r10 w11 hN12 M13 hb14
 have ne_bi1_r10 : NE bi1 r10 := NE.mk (Nat.lt_of_lt_of_le hI4.lt.1 hb14)
 have ne_ig2_r10 : NE ig2 r10 := NE.mk (Nat.lt_of_lt_of_le hI4.lt.2 hb14)
 replace hF := hF.trNew hN9
 have g_r10 := Nat.le_trans hF.size hb14
 refine Zv (.agg (#[.pointer (some ⟨bi1, 0, none⟩), .map (some r10)])) (fun a fr => x_build (cells := #[.pointer (some ⟨bi1, 0, none⟩), .map (some r10)]) rfl (by simp only [List.map_toArray, List.map_cons, List.map_nil, show a.eval (.tmp 9) = .pointer (some ⟨bi1, 0, none⟩) from fr.ev rfl, show a.eval (.tmp 10) = .map (some r10) from fr.ev rfl]; kernel_rfl)) ?_
 refine Znb (cs := #[.pointer (some ⟨bi1, 0, none⟩), .map (some r10)]) fun b15 w16 hN17 B18 hb19 => ?_
 replace hI4 := hI4.new hN12
 have ne_bi1_b15 : NE bi1 b15 := NE.mk (Nat.lt_of_lt_of_le hI4.lt.1 hb19)
 have ne_ig2_b15 : NE ig2 b15 := NE.mk (Nat.lt_of_lt_of_le hI4.lt.2 hb19)
 have ne_r10_b15 : NE r10 b15 := NE.mk (Nat.lt_of_lt_of_le M13.lt hb19)
 replace hF := hF.trNew hN12
 have g_b15 := Nat.le_trans hF.size hb19
 refine Za ?_
 refine Za ?_
 refine Znn ?_
 refine Zrt ?_
 refine Zre rfl [_, _] ⟨rfl, rfl, trivial⟩ ?_
 replace hI4 := hI4.new hN17
 replace M13 := M13.new hN17
 replace hF := hF.trNew hN17
 exact ⟨_, rfl, b15, fun k => k = b15 ∨ k = bi1 ∨ k = ig2 ∨ k = r10, rfl, ⟨bi1, ig2, cap3, r10, fun k => k = r10, [], 0, B18, hI4, ents_nil M13 _, ⟨(by first | exact ne_b15_bi1 | exact ne_bi1_b15.symm), (by first | exact ne_b15_ig2 | exact ne_ig2_b15.symm), (by first | exact ne_b15_r10 | exact ne_r10_b15.symm), (by first | exact ne_bi1_r10 | exact ne_r10_bi1.symm), (by first | exact ne_ig2_r10 | exact ne_r10_ig2.symm), fun _ => Iff.rfl⟩, by simp [home0]⟩, fun k hk => hk.elim (fun e => by rw [e]; exact g_b15) fun hk => hk.elim (fun e => by rw [e]; exact g_bi1) fun hk => hk.elim (fun e => by rw [e]; exact g_ig2) fun e => by rw [e]; exact g_r10, hF⟩
theorem nodup_lt {pre L : List Slot} {s : Slot} (hn : pre.Nodup) (hp : ∀ x ∈ pre, x ∈ L) (hs : s ∈ L) (hns : s ∉ pre) : pre.length < L.length := by
  have := nodup_len (s :: pre) L (List.nodup_cons.2 ⟨hns, hn⟩) fun x hx => (List.mem_cons.1 hx).elim (fun e => e ▸ hs) (hp x)
  simp at this
  omega
theorem nodup_snoc {pre : List Slot} {s : Slot} (hn : pre.Nodup) (hns : s ∉ pre) : (pre ++ [s]).Nodup := by
  rw [List.nodup_append]
  exact ⟨hn, by simp, fun x hx y hy e => hns (by simp at hy; exact hy ▸ e ▸ hx)⟩
abbrev Sl (L : List Slot) := { s : Slot // s ∈ L }
def raw {L : List Slot} (l : List (Sl L)) : List Slot := l.map (·.1)
theorem raw_mem {L : List Slot} (l : List (Sl L)) : ∀ x ∈ raw l, x ∈ L := fun x hx => by
  obtain ⟨y, _, rfl⟩ := List.mem_map.1 hx
  exact y.2
theorem raw_snoc {L : List Slot} (l : List (Sl L)) (s : Slot) (h : s ∈ L) : raw (l ++ [⟨s, h⟩]) = raw l ++ [s] := by simp [raw]
theorem raw_all {L : List Slot} {l : List (Sl L)} (h : ∀ s ∈ L, s ∈ raw l) (x : Sl L) : x ∈ l := by
  obtain ⟨y, hy, he⟩ := List.mem_map.1 (h x.1 x.2)
  exact (Subtype.ext he) ▸ hy
set_option maxRecDepth 100000 in
set_option maxHeartbeats 4000000 in
theorem vals_stops {w : World} {bx r c : Nat} {L : List Slot} (Bx : Blk w bx 62 #[.map (some r)]) (hM : MapBlk w r (esOf L) c) (hborn : ∀ s ∈ L, s.born < c) (hbs : (L.map Slot.born).Nodup) : SeqStopsK Fence.wide 8 Try.prog 54 #[.pointer (some ⟨bx, 0, none⟩)] (fun s : Sl L => #[.pointer (some ⟨s.1.b, 0, none⟩)]) KeepsWalks (fun ys => ∀ x : Sl L, x ∈ ys) (fun _ => True) L.length w := by
 intro y J Jx w1 hW hJ hJx hY h0
 have hn := below_new hW
 replace Bx := Bx.new hn
 replace hM := hM.new hn
 have hsz := Nat.le_refl w1.heap.size
 show CallsIn Fence.wide 8 Try.prog 54 #[.func (.yield y) #[] #[], .pointer (some ⟨bx, 0, none⟩)] w1 _
 refine (callsIn_wide (n := 8)).2 ?_
 refine fx_enter Try.func54 rfl (N := (15, [])) (T := [(0, .func (.yield y) #[] #[]), (1, .pointer (some ⟨bx, 0, none⟩))]) rfl (show 2 ≤ 15 by decide) ⟨rfl, rfl, trivial⟩ fun a fr => ?_
 refine wp_seq ?_
 refine wp_region_lit ?_
 refine fx_val (v := .map (some r)) fr rfl rfl (by decide) (x_load1 pl62 rfl (fr.ev rfl) (Bx.cell 0 rfl)) ?_
 clear fr a; intro a fr
 refine fx_rangeMap fr rfl Try.underlying62 rfl rfl (by decide) (fr.ev rfl) hM ?_
 clear fr a
 intro it w1 hN2 hit hge a fr
 replace Bx := Bx.new hN2
 replace hM := hM.new hN2
 replace h0 := AbidesFrom.new hJ h0 hN2
 replace hge := Nat.le_trans hsz hge
 refine wpList_nil ?_
 refine fx_next ?_
 refine wp_block ?_
 refine fx_loop (fun nM a wL => ∃ pre : List (Sl L), nM = L.length - pre.length ∧ Fr (15, []) [(0, .func (.yield y) #[] #[]), (6, .pointer (some ⟨it, 0, none⟩))] a ∧ MapBlk wL r (esOf L) c ∧ IterAt wL it r c (raw pre) ∧ J pre wL ∧ (raw pre).Nodup) (n0 := _) ⟨[], rfl, fr.sub ⟨rfl, rfl, trivial⟩, hM, hit, h0, (by simp [raw])⟩ ?_
 rintro n4 a w3 ⟨pre, rfl, fr, hM, hit, hj, hnd⟩
 refine wp_seq ?_
 refine wp_region_lit ?_
 refine fx_next_map fr rfl rfl rfl (by decide) (fr.ev rfl) hit hM hborn (fun hall _ a fr => ?_) (fun s w2 hs hns hO9 hit9 hM9 a fr => ?_) (raw_mem pre) hbs
 ·skip
  refine fx_val (v := .bool false) fr rfl rfl (by decide) (x_extract rfl (fr.ev rfl) rfl) ?_
  clear fr a; intro a fr
  refine wpList_nil ?_
  refine fx_next ?_
  refine wp_seq ?_
  refine fx_cond_f fr rfl ?_
  refine wp_exit ?_
  refine fx_xt ?_
  refine fx_xt ?_
  refine fx_xx ?_
  refine fx_end fr [] [] rfl trivial rfl ?_
  exact ⟨⟨_, rfl⟩, .inl ⟨_, raw_all hall, hj⟩⟩
 ·skip
  replace hj := hJ _ _ _ (some it) hj (hit.grown hO9).1 (fun r9 e9 => by cases e9; exact ⟨hge, (hit.grown hO9).2⟩)
  replace hit := hit9
  replace hM := hM9
  have hlen : pre.length < L.length := by have := nodup_lt hnd (raw_mem pre) hs hns; simpa [raw] using this
  refine fx_val (v := .bool true) fr rfl rfl (by decide) (x_extract rfl (fr.ev rfl) rfl) ?_
  clear fr a; intro a fr
  refine wpList_nil ?_
  refine fx_next ?_
  refine wp_seq ?_
  refine fx_cond_t fr rfl ?_
  refine wp_skip ?_
  refine fx_next ?_
  refine wp_block ?_
  refine wp_seq ?_
  refine wp_region_lit ?_
  refine fx_val (v := .tuple #[.int .u32 ((s.k : Nat) : Int), .pointer (some ⟨s.b, 0, none⟩)]) fr rfl rfl (by decide) (x_entry rfl (fr.ev rfl) hit hM hs hbs) ?_
  clear fr a; intro a fr
  refine fx_val (v := .pointer (some ⟨s.b, 0, none⟩)) fr rfl rfl (by decide) (x_extract rfl (fr.ev rfl) rfl) ?_
  clear fr a; intro a fr
  refine fx_val (v := .pointer (some ⟨s.b, 0, none⟩)) fr rfl rfl (by decide) (x_assign rfl (fr.ev rfl)) ?_
  clear fr a; intro a fr
  refine wpList_nil ?_
  refine fx_next ?_
  refine wp_seq ?_
  refine fxi_region ?_
  refine fxi_val (v := .func (.yield y) #[] #[]) fr rfl rfl (by decide) (x_move rfl (fr.ev rfl)) ?_
  clear fr a; intro a fr
  refine fxi_val (v := .pointer (some ⟨s.b, 0, none⟩)) fr rfl rfl (by decide) (x_move rfl (fr.ev rfl)) ?_
  clear fr a; intro a fr
  refine fxi_yield (n := 8) fr rfl rfl (by decide) rfl (fr.ev rfl) (fr.ev rfl) (hY pre ⟨s, hs⟩ _ hj hlen) (fun w5 hy6 a fr => ?_) (fun w5 hy6 a fr => ?_)
  ·skip
   skip
   obtain ⟨hj, hk⟩ := hy6
   replace hit := hit.keep hk
   replace hM := hM.keep hk
   refine fxi_val (v := .bool false) fr rfl rfl (by decide) (x_not rfl (fr.ev rfl) rfl) ?_
   clear fr a; intro a fr
   refine wpListIn_nil ?_
   refine fx_next ?_
   refine fx_cond_f fr rfl ?_
   refine wp_skip ?_
   refine fx_blk ?_
   refine fx_next ?_
   exact ⟨_, (by rw [List.length_append]; simp; omega), (pre ++ [⟨s, hs⟩]), rfl, fr.sub ⟨rfl, rfl, trivial⟩, hM, (by rw [raw_snoc]; exact hit), hj, (by rw [raw_snoc]; exact nodup_snoc hnd hns)⟩
  ·skip
   skip
   have hx9 := hy6
   refine fxi_val (v := .bool true) fr rfl rfl (by decide) (x_not rfl (fr.ev rfl) rfl) ?_
   clear fr a; intro a fr
   refine wpListIn_nil ?_
   refine fx_next ?_
   refine fx_cond_t fr rfl ?_
   refine wp_ret ?_
   refine fx_rb ?_
   refine fx_rt ?_
   refine fx_rb ?_
   refine fx_ret fr [] [] rfl trivial rfl ?_
   exact ⟨⟨_, rfl⟩, .inr ⟨_, trivial, hx9⟩⟩
end Go.Proofs.Ytdiaemlgghfecaa
namespace Go.Proofs.Ytdiaemlgghfecaa
open Go.RowKit
set_option maxRecDepth 100000 in
set_option maxHeartbeats 4000000 in
theorem vals_c (r : Nat) (w : World) : Calls Try.prog 36 #[.map (some r)] w (Ret fun v w' => ∃ bx, v = .func (.func 54) #[] #[.pointer (some ⟨bx, 0, none⟩)] ∧ Blk w' bx 62 #[.map (some r)] ∧ w.heap.size ≤ bx ∧ New w w') := by
 have hF := Only.refl (fun _ => False) w
 refine Zen 4 Try.func36 ?_
 refine Zsr ?_
 refine Znb (cs := #[.map (some r)]) fun b1 w2 hN3 B4 hb5 => ?_
 have g_b1 := Nat.le_trans hF.size hb5
 refine Za ?_
 refine Znn ?_
 refine Zsr ?_
 refine Zv _ (fun _ fr => x_makeFunc (vs := [.pointer (some ⟨b1, 0, none⟩)]) rfl ⟨(fr.ev rfl), trivial⟩) ?_
 refine Za ?_
 refine Znn ?_
 refine Zrt ?_
 refine Zre rfl [_] ⟨rfl, trivial⟩ ?_
 replace hF := hF.trNew hN3
 exact ⟨_, rfl, b1, rfl, B4, g_b1, hF⟩
set_option maxRecDepth 100000 in
set_option maxHeartbeats 4000000 in
theorem idle_r {w : World} {b bi r : Nat} (hB : Blk w b 64 #[.pointer (some ⟨bi, 0, none⟩), .map (some r)]) {FpE : Nat → Prop} {E : List Ent} {L : List Slot} {c : Nat} (hM : EntsAt w FpE r E L c) : Calls Try.prog 17 #[.pointer (some ⟨b, 0, none⟩)] w (Ret fun v w' => v = .bool (idleB E) ∧ New w w') := by
 have gA_FpE := fun g (hg : FpE g) => (Or.inl trivial : True ∨ w.heap.size ≤ g)
 have hF := Only.refl (fun _ => False) w
 refine fx_enterM Try.func17 rfl (N := (16, [])) (T := [(0, .pointer (some ⟨b, 0, none⟩))]) rfl (show 1 ≤ 16 by decide) ⟨rfl, trivial⟩ fun a fr => ?_
 refine wp_seq ?_
 refine wp_region_lit ?_
 refine fx_new fr rfl rfl (by first | decide | simp) (x_alloc (z := .bool false) (cs := #[.bool false]) rfl (by kernel_rfl) rfl) ?_
 clear fr a
 intro b1 w2 hN3 B4 hb5 a fr
 have ne_b_b1 : NE b b1 := NE.mk (Nat.lt_of_lt_of_le hB.lt hb5)
 have ap_FpE_b1 : ¬ FpE b1 := hM.apart hb5
 have g_b1 := Nat.le_trans hF.size hb5
 replace hB := hB.new hN3
 replace hM := hM.new hN3
 replace hF := hF.trNew hN3
 refine wpList_nil ?_
 refine fx_next ?_
 refine wp_seq ?_
 refine wp_seq ?_
 refine wp_region_lit ?_
 refine fx_val (v := .pointer (some ⟨b, 0, none⟩)) fr rfl rfl (by first | decide | simp) (x_move rfl (fr.ev rfl)) ?_
 clear fr a; intro a fr
 refine fx_call fr rfl rfl (by first | decide | simp) (x_call (vs := [.pointer (some ⟨b, 0, none⟩)]) rfl rfl ⟨(fr.ev rfl), trivial⟩ Try.func27 nm27 rfl) (hnone_c hB) ?_
 clear fr a
 rintro v w9 ⟨rfl, hw9⟩ a fr
 obtain rfl := hw9.symm
 refine wpList_nil ?_
 refine fx_next ?_
 refine fx_cond_f fr rfl ?_
 refine wp_skip ?_
 refine fx_next ?_
 refine wp_seq ?_
 refine wp_seq ?_
 refine wp_region_lit ?_
 refine fx_val (v := .pointer (some ⟨b, 0, none⟩)) fr rfl rfl (by first | decide | simp) (x_move rfl (fr.ev rfl)) ?_
 clear fr a; intro a fr
 refine fx_val (v := .pointer (some ⟨b, 0, none⟩)) fr rfl rfl (by first | decide | simp) (x_nilCheck rfl (fr.ev rfl)) ?_
 clear fr a; intro a fr
 refine fx_val (v := .pointer (some ⟨b, 1, none⟩)) fr rfl rfl (by first | decide | simp) (x_fieldAddr fo64_1 rfl (fr.ev rfl) rfl) ?_
 clear fr a; intro a fr
 refine fx_val (v := .map (some r)) fr rfl rfl (by first | decide | simp) (x_load1 pl62 rfl (fr.ev rfl) (hB.cell 1 rfl)) ?_
 clear fr a; intro a fr
 refine fx_call fr rfl rfl (by first | decide | simp) (x_call (vs := [.map (some r)]) rfl rfl ⟨(fr.ev rfl), trivial⟩ Try.func36 nm36 rfl) (vals_c r _) ?_
 clear fr a
 rintro v w11 ⟨bx8, rfl, Bx9, hb10, hN12⟩ a fr
 have ne_b_bx8 : NE b bx8 := NE.mk (Nat.lt_of_lt_of_le hB.lt hb10)
 have ap_FpE_bx8 : ¬ FpE bx8 := hM.apart hb10
 have ne_b1_bx8 : NE b1 bx8 := NE.mk (Nat.lt_of_lt_of_le B4.lt hb10)
 have g_bx8 := Nat.le_trans hF.size hb10
 replace hB := hB.new hN12
 replace hM := hM.new hN12
 replace B4 := B4.new hN12
 replace hF := hF.trNew hN12
 refine wpList_nil ?_
 refine fx_next ?_
 refine wp_block ?_
 have hsz9 := hF.size
 have hlt9 : ∀ g, FpE g → g < w11.heap.size := fun g hg => hM.lt hg
 have hno9 := hM.no
 have hlt8 := fun s hs => (hM.lt_ s hs).1
 refine fx_rangeK (S := fun ys => ∀ x : Sl L, x ∈ ys) (Sp := fun _ => True) (n0 := L.length) (e := (fun s : Sl L => .pointer (some ⟨s.1.b, 0, none⟩))) fr rfl (show 11 < 16 by decide) (enters_of Try.func54 nm54 rfl) (SI := fun k => k = b1) (vals_stops Bx9 hM.map (fun s hs => (hM.lt_ s hs).2) hM.borns) (fun pre W => (EntsAt W FpE r E L c ∧ Blk W b1 4 #[.bool false] ∧ New w W) ∧ ∀ x ∈ pre, (entOf E x.1.k).busy = false) (fun c9 pre W => c9 = .ret ∧ (EntsAt W FpE r E L c ∧ Blk W b1 4 #[.bool false] ∧ New w W) ∧ ∃ x : Sl L, (entOf E x.1.k).busy = true) (fun x a9 W => Fr (16, []) [(0, .pointer (some ⟨b, 0, none⟩)), (2, .pointer (some ⟨b1, 0, none⟩)), (4, .pointer (some ⟨b, 0, none⟩)), (5, .bool false), (6, .pointer (some ⟨b, 0, none⟩)), (7, .pointer (some ⟨b, 0, none⟩)), (8, .pointer (some ⟨b, 1, none⟩)), (9, .map (some r)), (10, .func (.func 54) #[] #[.pointer (some ⟨bx8, 0, none⟩)]), (11, .pointer (some ⟨x.1.b, 0, none⟩)), (3, .pointer (some ⟨x.1.b, 0, none⟩))] a9) ?_ ?_ ?_ ?_ ⟨⟨hM, B4, hF⟩, by simp⟩ ?_ ?_ ?_ ?_
 ·rintro pre W W9 ⟨⟨h1, h2, h3⟩, h4⟩ hT; exact ⟨⟨h1.only hT (fun g hg h => by have := hlt9 g hg; have := h.1; omega), h2.turn hT, h3.turn hT hF.size⟩, h4⟩
 ·rintro c9 pre W W9 ⟨rfl, ⟨h1, h2, h3⟩, h4⟩ hT; exact ⟨rfl, ⟨h1.only hT (fun g hg h => by have := hlt9 g hg; have := h.1; omega), h2.turn hT, h3.turn hT hF.size⟩, h4⟩
 ·exact fun _ _ _ _ _ h _ => h
 ·rintro pre W W9 ⟨⟨h1, h2, h3⟩, h4⟩ hN; exact ⟨⟨h1.new hN, h2.new hN, h3.trNew hN⟩, h4⟩
 ·skip
  rintro l pre x W K hi hK a fr
  refine fxr_region (by kernel_rfl) (by rintro ⟨_, _, h⟩; exact h) ?_
  refine fx_val (v := .pointer (some ⟨x.1.b, 0, none⟩)) fr rfl rfl (by first | decide | simp) (x_assign rfl (fr.ev rfl)) ?_
  clear fr a; intro a fr
  refine wpList_nil ?_
  exact hK _ _ (Only.refl _ _) (fr.sub ⟨rfl, rfl, rfl, rfl, rfl, rfl, rfl, rfl, rfl, rfl, rfl, trivial⟩)
 ·skip
  rintro lq pre ⟨⟨sk, sb, sA, scap, sborn⟩, hsx⟩ a W ⟨⟨hM, B4, hN9⟩, hall9⟩ fr hlen
  have cl9 := B4.cells
  dsimp only at fr
  obtain ⟨hE, hQ⟩ := hM.at_ _ hsx
  dsimp only at hE hQ
  have hFs : FpE sb := (hM.foot _).2 (.inr ⟨_, hsx, .inl rfl⟩)
  have ne_sb_b1 : NE sb b1 := fun e => ap_FpE_b1 (e ▸ hFs)
  have hF := Only.refl (fun k => k = b1) W
  refine wpIn_block ?_
  refine wpIn_seq ?_
  refine fxr_region (by kernel_rfl) (by rintro ⟨_, _, h⟩; exact h) ?_
  refine fx_val (v := .pointer (some ⟨sb, 0, none⟩)) fr rfl rfl (by first | decide | simp) (x_move rfl (fr.ev rfl)) ?_
  clear fr a; intro a fr
  refine fx_val (v := .pointer (some ⟨sb, 0, none⟩)) fr rfl rfl (by first | decide | simp) (x_nilCheck rfl (fr.ev rfl)) ?_
  clear fr a; intro a fr
  refine fx_val (v := .pointer (some ⟨sb, 5, none⟩)) fr rfl rfl (by first | decide | simp) (x_fieldAddr fo42_2 rfl (fr.ev rfl) rfl) ?_
  clear fr a; intro a fr
  refine fx_val (v := .bool ((entOf E sk).busy)) fr rfl rfl (by first | decide | simp) (x_load1 pl4 rfl (fr.ev rfl) (hE.cell 5 rfl)) ?_
  clear fr a; intro a fr
  refine wpList_nil ?_
  refine fx_next ?_
  refine fxr_cond fr rfl (fun hc13 => ?_) (fun hc13 => ?_)
  ·skip
   refine wpIn_seq ?_
   refine fxr_region (by kernel_rfl) (by rintro ⟨_, _, h⟩; exact h) ?_
   refine fx_store1 sz4 rfl rfl rfl (fr.ev rfl) rfl rfl B4 (show 0 < 1 by decide) (cs' := #[.bool false]) rfl fun w14 hO15 hBq => ?_
   replace hE := hE.only hO15 (by first | exact ne_sb_b1 | exact ne_b1_sb.symm | (show ¬ sb = b1; omega))
   replace hM := hM.only hO15 (ne1P ap_FpE_b1)
   replace hF := hF.loc hO15 (.inl rfl)
   replace B4 := hBq
   clear hBq
   refine wpList_nil ?_
   refine fx_next ?_
   refine wpIn_ret ?_
   refine fx_rb ?_
   exact ⟨⟨_, hF, fun k _ e => by subst e; exact ⟨rfl, cl9⟩⟩, rfl, ⟨hM, B4, hN9.trans hF (fun k hk e => by subst e; exact absurd hk (Nat.not_lt.2 g_b1))⟩, ⟨_, hsx⟩, hc13⟩
  ·skip
   refine wpIn_skip ?_
   refine fx_blk ?_
   exact ⟨⟨_, hF, fun k _ e => by subst e; exact ⟨rfl, cl9⟩⟩, ⟨hM, B4, hN9.trans hF (fun k hk e => by subst e; exact absurd hk (Nat.not_lt.2 g_b1))⟩, fun y hy => (List.mem_append.1 hy).elim (hall9 y) fun hy => by rw [List.mem_singleton.1 hy]; exact hc13⟩
 ·skip
  rintro D ys W1 hD hys ⟨⟨hM, B4, hF⟩, hall9⟩ hD_D a fr
  have g_D := Nat.le_trans (Nat.le_trans (show w.heap.size ≤ w11.heap.size from hsz9) hD) (Nat.le_refl _)
  have ne_b1_D := B4.mark hD_D
  refine fx_blk ?_
  refine fx_next ?_
  refine wp_seq ?_
  refine wp_region_lit ?_
  refine fx_store1 sz4 rfl rfl rfl (fr.ev rfl) rfl rfl B4 (show 0 < 1 by decide) (cs' := #[.bool true]) rfl fun w16 hO17 hBq => ?_
  replace hD_D := hD_D.only hO17 (by first | exact ne_D_b1 | exact ne_b1_D.symm | (show ¬ D = b1; omega))
  replace hF := hF.loc hO17 (.inr g_b1)
  replace B4 := hBq
  clear hBq
  refine wpList_nil ?_
  refine fx_next ?_
  refine wp_ret ?_
  refine fx_retM1 fr g_D hD_D [.cell 2 4] [.bool true] rfl rfl ?_
  intro wE hT
  replace B4 := B4.turn hT
  replace hF := hF.turn hT (Nat.le_refl _)
  refine ⟨⟨⟨_, rfl, x_loadV1 pl4 (B4.cell 0 rfl)⟩, trivial⟩, ?_⟩
  exact ⟨_, rfl, congrArg Value.bool (idle_all hno9 hlt8 fun s hs => hall9 ⟨s, hs⟩ (hys ⟨s, hs⟩)).symm, hF⟩
 ·skip
  rintro D c9 pre W1 hD _ ⟨rfl, ⟨hM, B4, hF⟩, hbz9⟩ hD_D a fr
  have g_D := Nat.le_trans (Nat.le_trans (show w.heap.size ≤ w11.heap.size from hsz9) hD) (Nat.le_refl _)
  have ne_b1_D := B4.mark hD_D
  refine wp_ret ?_
  refine fx_rb ?_
  refine fx_rt ?_
  refine fx_retM1 fr g_D hD_D [.cell 2 4] [.bool false] rfl rfl ?_
  intro wE hT
  replace B4 := B4.turn hT
  replace hF := hF.turn hT (Nat.le_refl _)
  refine ⟨⟨⟨_, rfl, x_loadV1 pl4 (B4.cell 0 rfl)⟩, trivial⟩, ?_⟩
  obtain ⟨x9, hx9⟩ := hbz9
  exact ⟨_, rfl, congrArg Value.bool (idle_not (hlt8 x9.1 x9.2) hx9).symm, hF⟩
end Go.Proofs.Ytdiaemlgghfecaa
namespace Go.Proofs.Ytdiaemlgghfecaa
open Go.RowKit
theorem lines_h {w : World} {Fp : Nat → Prop} {b : Nat} {h : HD} (H : HomeAt w Fp b h) : Calls Try.prog 10 #[.pointer (some ⟨b, 0, none⟩)] w (Ret fun v w' => v = .int .i64 ((h.E.length : Nat) : Int) ∧ w' = w) := by
  obtain ⟨bi, ig, cap, r, F, L, c, hB, hI, hM, hP, hEn⟩ := H
  rw [hEn]
  exact lines_r hB hI
theorem memory_h {w : World} {Fp : Nat → Prop} {b : Nat} {h : HD} (H : HomeAt w Fp b h) : Calls Try.prog 24 #[.pointer (some ⟨b, 0, none⟩)] w (Ret fun v w' => ∃ b g c, v = .pointer (some ⟨b, 0, none⟩) ∧ Img 0 w' b g c h.bs ∧ w.heap.size ≤ b ∧ w.heap.size ≤ g ∧ New w w') := by
  obtain ⟨bi, ig, cap, r, F, L, c, hB, hI, hM, hP, hEn⟩ := H
  exact memory_c hB hI
theorem idle_h {w : World} {Fp : Nat → Prop} {b : Nat} {h : HD} (H : HomeAt w Fp b h) : Calls Try.prog 17 #[.pointer (some ⟨b, 0, none⟩)] w (Ret fun v w' => v = .bool (idleB h.E) ∧ New w w') := by
  obtain ⟨bi, ig, cap, r, F, L, c, hB, hI, hM, hP, hEn⟩ := H
  exact idle_r hB hM
theorem entry_h {w : World} {Fp : Nat → Prop} {b : Nat} {h : HD} (H : HomeAt w Fp b h) (line : Int) (hln : 0 ≤ line ∧ line < 4294967296) (hr : line < h.E.length) (hq : (entOf h.E line.toNat).q.length ≤ 1000000) : Calls Try.prog 13 #[.pointer (some ⟨b, 0, none⟩), .int .u32 line] w (Ret fun v w' => ∃ Q' qc', v = .tuple #[.agg (entA (entOf h.E line.toNat) (.slice Q' (entOf h.E line.toNat).q.length qc')), .int .i64 0] ∧ Own msgE w' Q' qc' (entOf h.E line.toNat).q ∧ (∀ g, inA Q' g → w.heap.size ≤ g) ∧ New w w') := by
  obtain ⟨bi, ig, cap, r, F, L, c, hB, hI, hM, hP, hEn⟩ := H
  exact entry_ok hB hI line hln hM (by rw [← hEn]; omega) hq
theorem entOf_rep (n k : Nat) : entOf (List.replicate n ent0) k = ent0 := by
  unfold entOf
  simp only [List.getD, List.getElem?_replicate]
  split <;> rfl
theorem ent0_ok (n : Int) : EOk n ent0 := ⟨by decide, (by intro h; cases h), by decide, (by intro m hm; cases hm), by decide, (by intro h; cases h)⟩
theorem home0_ok (bs : List UInt8) : HOk (home0 bs) := fun n _ => by
  rw [show entOf (home0 bs).E n = ent0 from entOf_rep _ _]
  exact ⟨ent0_ok _, Nat.zero_le _⟩
theorem imgnew_c (n : Nat) (w : World) (hn : okSize n = true) : Calls Try.prog 23 #[.int .i64 ((n : Nat) : Int)] w (Ret fun v w' => ∃ b g c, v = .tuple #[.pointer (some ⟨b, 0, none⟩), .int .i64 0] ∧ Img 0 w' b g c (List.replicate n 0) ∧ w.heap.size ≤ b ∧ w.heap.size ≤ g ∧ NE b g ∧ New w w') :=
  (new_yes n w hn).mono fun _ _ ⟨b, g, c, h1, h2, h3⟩ => ⟨_, h1, b, g, c, rfl, h2.mono (Nat.zero_le _), h2.hb, h2.hg, h2.ne, h3⟩
theorem known_take : (takeH (home0 (List.replicate 32 0)) (mkM 1 2 4 1 b16z (by decide))).2.1 = [sendM (mkM 1 2 4 1 b16z (by decide)) 9 2 (lineB (List.replicate 32 0) 1)] ∧ (takeH (home0 (List.replicate 32 0)) (mkM 1 2 4 1 b16z (by decide))).2.2 = 0 ∧ (takeH (home0 (List.replicate 32 0)) (mkM 1 2 4 1 b16z (by decide))).1.E.length = 2 := by
  refine ⟨?_, ?_, ?_⟩ <;> decide
set_option maxRecDepth 100000 in
set_option maxHeartbeats 4000000 in
theorem known_c (w : World) : Calls Try.prog 11 #[] w (Ret fun v w' => v = .bool true ∧ New w w') := by
 have hF := Only.refl (fun _ => False) w
 refine Zen 52 Try.func11 ?_
 refine Zsr ?_
 refine Za ?_
 refine Znn ?_
 refine Zsr ?_
 refine Zk (args := #[.int .i64 32]) cf23 (imgnew_c 32 _ (by decide)) ?_
 rintro v w8 ⟨bi1, ig2, cap3, rfl, hI4, hb5, hg6, hne7, hN9⟩
 refine Zm ?_
 refine Zt ?_
 refine Zt ?_
 refine Za ?_
 refine Za ?_
 refine Znn ?_
 refine Zsr ?_
 refine Zm ?_
 refine Zk cf22 (hnew_c hI4) ?_
 rintro v w14 ⟨hb10, Fp11, rfl, H12, hf13, hN15⟩
 replace hF := hF.trNew hN9
 have gA_Fp11 := gA_newP hF hf13
 refine Zm ?_
 refine Zt ?_
 refine Zt ?_
 refine Za ?_
 refine Za ?_
 refine Znn ?_
 refine Zsr ?_
 refine Zm ?_
 refine Zv (.agg (msgE.arr (mkM 1 2 4 1 b16z (by decide)))) (fun _ _ => x_build (cells := msgE.arr (mkM 1 2 4 1 b16z (by decide))) rfl (by kernel_rfl)) ?_
 refine Zk (args := #[.pointer (some ⟨hb10, 0, none⟩), .agg (msgE.arr (mkM 1 2 4 1 b16z (by decide)))]) cf12 (take_c H12 (mkM 1 2 4 1 b16z (by decide)) (home0_ok _)) ?_
 rintro v w24 ⟨A16, ac17, Fp18, rfl, O19, hA20, H21, hs22, hi23, hN25⟩
 clear H12
 obtain ⟨hk1, hk2, hk3⟩ := known_take
 rw [hk1] at O19
 intro a fr
 rw [hk1, hk2] at fr
 revert a
 refine Zm ?_
 refine Zt ?_
 refine Zt ?_
 refine Za ?_
 refine Za ?_
 refine Znn ?_
 refine Zsr ?_
 refine Zm ?_
 refine Zv (.bool true) (fun _ fr => x_eql rfl (fr.ev rfl) rfl rfl) ?_
 refine Zm ?_
 refine Zm ?_
 refine Zv (.bool true) (fun _ fr => x_eql rfl (fr.ev rfl) rfl rfl) ?_
 refine Zpt ?_
 refine Zm ?_
 refine Zm ?_
 refine Zv _ (fun _ fr => x_len Try.underlying23 rfl (fr.ev rfl)) ?_
 refine Zv (.bool true) (fun _ fr => x_eql rfl (fr.ev rfl) rfl rfl) ?_
 refine Zpt ?_
 refine Zm ?_
 refine Zm ?_
 obtain ⟨g26, o27, hA28⟩ := (O19.view).some_ (by first | omega | decide)
 refine Zv _ (fun _ fr => x_indexV Try.underlying23 sz36 rfl (fr.ev rfl) hA28 rfl (by decide) rfl) ?_
 refine Zf fo36_0 ?_
 refine Zd (v := .int .i64 9) pl33 (range_cell ((O19.view).elem hA28 0 msg0 (by first | omega | decide)) 0 rfl rfl) ?_
 refine Zv (.bool true) (fun _ fr => x_eql rfl (fr.ev rfl) rfl rfl) ?_
 refine Zpt ?_
 refine Zm ?_
 refine Zm ?_
 refine Zv _ (fun _ fr => x_indexV Try.underlying23 sz36 rfl (fr.ev rfl) hA28 rfl (by decide) rfl) ?_
 refine Zf fo36_2 ?_
 refine Zd (v := .int .i64 2) pl3 (range_cell ((O19.view).elem hA28 0 msg0 (by first | omega | decide)) 2 rfl rfl) ?_
 refine Zv (.bool true) (fun _ fr => x_eql rfl (fr.ev rfl) rfl rfl) ?_
 refine Zpt ?_
 refine Zm ?_
 refine Zm ?_
 refine Zk cf10 (lines_h H21) ?_
 rintro v w9 ⟨rfl, hw9⟩
 obtain rfl := hw9.symm
 refine Zv (.bool true) (fun _ fr => x_eql rfl (fr.ev rfl) rfl (decide_eq_true (by rw [hk3]; rfl))) ?_
 refine Zpt ?_
 refine Za ?_
 refine Znn ?_
 refine Zrt ?_
 refine Zre rfl [_] ⟨rfl, trivial⟩ ?_
 replace hF := (hF.trNew hN15).locP hN25 gA_Fp11
 exact ⟨_, rfl, rfl, hF⟩
end Go.Proofs.Ytdiaemlgghfecaa
namespace Go.Proofs.Ytdiaemlgghfecaa
open Go.RowKit
def byE : Enc Try.prog UInt8 where
  T := 5
  n := 1
  cells := fun x => [u8v x]
  len := fun _ => rfl
  one := fun x v hv => by
    simp at hv
    subst hv
    rfl
  pos := by decide
theorem elBy : ElemI byE 22 1 := ⟨Try.underlying22, by
  obtain ⟨i0, hi, hz0, hz1, hz2⟩ := info_parts (show (Try.prog.info? 5).map (fun i => (i.zero, i.size, i.bytes)) = some (some (.int .u8 0), 1, 1) by kernel_rfl)
  exact ⟨i0, _, hi, hz0, hz1, hz2, rfl⟩⟩
theorem by_flat (bs : List UInt8) : bs.flatMap byE.cells = bs.map u8v := by
  induction bs with
  | nil => rfl
  | cons x r ih => rw [List.flatMap_cons, ih]; rfl
structure Hact where
  cache : Int
  line : Int
  kind : Int
  byte : Int
  hb : 0 ≤ byte ∧ byte < 256
theorem Hact.ext_iff' (m m' : Hact) : m = m' ↔ m.cache = m'.cache ∧ m.line = m'.line ∧ m.kind = m'.kind ∧ m.byte = m'.byte := by
  constructor
  · rintro rfl; simp
  · rintro ⟨h1, h2, h3, h4⟩
    cases m; cases m'
    simp only [Hact.mk.injEq]
    exact ⟨h1, h2, h3, h4⟩
instance : DecidableEq Hact := fun s t => decidable_of_iff _ (Hact.ext_iff' s t).symm
def Hact.cells (q : Hact) : List Value := [.int .i64 q.cache, .int .i64 q.line, .int .i64 q.kind, .int .u8 q.byte]
def hact0 : Hact := ⟨0, 0, 0, 0, by decide⟩
def hactE : Enc Try.prog Hact where
  T := 49
  n := 4
  cells := Hact.cells
  len := fun q => rfl
  one := fun q v hv => by
    simp only [Hact.cells, List.mem_cons, List.mem_nil_iff, or_false] at hv
    rcases hv with rfl | rfl | rfl | rfl <;> rfl
  pos := by decide
structure EC where
  o : Int
  sh : Sh
  busy : Bool
  asks : Int
  kind : Int
  waits : Int
  told : Bool
  A : Option Addr
  n : Nat
  c : Nat
  deriving DecidableEq
def EC.cells (x : EC) : List Value := [.int .i64 x.o, .bool x.sh.a, .bool x.sh.b, .bool x.sh.c, .bool x.sh.d, .bool x.busy, .int .i64 x.asks, .int .i64 x.kind, .int .i64 x.waits, .bool x.told, .slice x.A x.n x.c]
def ecE : Enc Try.prog EC where
  T := 42
  n := 11
  cells := EC.cells
  len := fun q => rfl
  one := fun q v hv => by
    simp only [EC.cells, List.mem_cons, List.mem_nil_iff, or_false] at hv
    rcases hv with rfl | rfl | rfl | rfl | rfl | rfl | rfl | rfl | rfl | rfl | rfl <;> rfl
  pos := by decide
def ec0 : EC := ⟨-1, sh0, false, 0, 0, 0, false, none, 0, 0⟩
def ecz : EC := ⟨0, sh0, false, 0, 0, 0, false, none, 0, 0⟩
theorem elEc : ElemI ecE 26 72 := ⟨Try.underlying26, by
  obtain ⟨i0, hi, hz0, hz1, hz2⟩ := info_parts (show (Try.prog.info? 42).map (fun i => (i.zero, i.size, i.bytes)) = some (some (.agg (ecE.arr ecz)), 11, 72) by kernel_rfl)
  exact ⟨i0, _, hi, hz0, hz1, hz2, by rw [show (Value.agg (ecE.arr ecz)).cells = ecE.arr ecz from rfl, ecE.size]⟩⟩
def ecOf (d : Ent) (A : Option Addr) (c : Nat) : EC := ⟨d.o, d.sh, d.busy, d.asks, d.kind, d.waits, d.told, A, d.q.length, c⟩
structure RefAt (w : World) (F : Nat → Prop) (A : Option Addr) (cap : Nat) (B : Option Addr) (cb : Nat) (h : HD) (X : List EC) : Prop where
  vb : View byE w A cap h.bs
  ve : View ecE w B cb X
  len : X.length = h.E.length
  at_ : ∀ i, i < X.length → ∃ Q qc, X.getD i ec0 = ecOf (entOf h.E i) Q qc ∧ View msgE w Q qc (entOf h.E i).q ∧ ∀ g, inA Q g → F g
  fa : ∀ g, inA A g → F g
  fb : ∀ g, inA B g → F g
  lt : ∀ {g}, F g → g < w.heap.size
section
variable {w w' : World} {F S : Nat → Prop} {A B : Option Addr} {cap cb : Nat} {h : HD} {X : List EC}
theorem RefAt.only (H : RefAt w F A cap B cb h X) (k : Only S w w') (hs : ∀ g, F g → ¬ S g) : RefAt w' F A cap B cb h X :=
  ⟨H.vb.only k fun g hg => hs g (H.fa g hg), H.ve.only k fun g hg => hs g (H.fb g hg), H.len, fun i hi => by
    obtain ⟨Q, qc, h1, h2, h3⟩ := H.at_ i hi
    exact ⟨Q, qc, h1, h2.only k fun g hg => hs g (h3 g hg), h3⟩, H.fa, H.fb, fun hg => Nat.lt_of_lt_of_le (H.lt hg) k.size⟩
theorem RefAt.new (H : RefAt w F A cap B cb h X) (k : New w w') : RefAt w' F A cap B cb h X := H.only k fun _ _ => id
theorem RefAt.apart (H : RefAt w F A cap B cb h X) {c : Nat} (hc : w.heap.size ≤ c) : ¬ F c := fun hi => by have := H.lt hi; omega
end
end Go.Proofs.Ytdiaemlgghfecaa
namespace Go.Proofs.Ytdiaemlgghfecaa
open Go.RowKit
theorem lineB_get (bs : List UInt8) (n : Int) (hn : n.toNat < bs.length / 16) (i : Nat) (hi : i < 16) : (lineB bs n).1.getD i 0 = ((bs.getD (16 * n.toNat + i) 0).toNat : Int) := by
  unfold lineB
  show ((lineSpec bs n.toNat).map fun x => (x.toNat : Int)).getD i 0 = _
  unfold lineSpec
  rw [if_neg (by omega)]
  have h1 : 16 * n.toNat + i < bs.length := by omega
  simp [List.getD, hi, h1]
structure EI (n : Int) (d : Ent) : Prop where
  ok : EOk n d
  apart : 0 ≤ d.o → d.sh = sh0
  idle : d.busy = false → d.waits = 0 ∧ d.told = false
theorem nb {b : Bool} {P : Prop} (h : b = true) (h' : b = false) : P := by rw [h] at h'; cases h'
theorem pO : -1 ≤ (-1 : Int) ∧ (-1 : Int) < 4 := by decide
theorem pW0 : 0 ≤ (0 : Int) ∧ (0 : Int) ≤ 4 := by decide
theorem pW1 : 0 ≤ (1 : Int) ∧ (1 : Int) ≤ 4 := by decide
theorem pN : ¬ 0 ≤ (-1 : Int) := by decide
theorem EI.ent0 (n : Int) : EI n ent0 := ⟨ent0_ok n, fun h => absurd h (by decide), fun _ => ⟨rfl, rfl⟩⟩
structure ROk (n : Int) (m : Msg) : Prop where
  kind : 1 ≤ m.kind ∧ m.kind ≤ 3
  src : 0 ≤ m.src ∧ m.src < 4
  line : m.line = n
theorem EOk.rest {n : Int} {d : Ent} (h : EOk n d) : ∀ m ∈ d.q, ROk n m := fun m hm => by
  obtain ⟨a, b, c, e, f⟩ := h.q m hm
  exact ⟨⟨a, b⟩, ⟨c, e⟩, f⟩
theorem leave_ok {n : Int} {d : Ent} {r : Int} (h : EI n d) : EI n (leaveF d r) := by
  unfold leaveF
  split
  · exact ⟨⟨h.ok.asks, h.ok.told, pO, h.ok.q, h.ok.waits, h.ok.kind⟩, fun h' => absurd h' pN, h.idle⟩
  · exact h
theorem begin_ei {n : Int} {d : Ent} {bs : List UInt8} {m : Msg} (h : EI n d) (_hb : d.busy = false) (hm : ROk n m) : EI n (beginF bs d m).1 := by
  have hl := leave_ok (r := m.src) h
  by_cases h3 : m.kind = 3
  · rw [begin_put h3]; exact hl
  have hk12 : m.kind = 1 ∨ m.kind = 2 := by have := hm.kind; omega
  have own : EI n (busyF (ownF (leaveF d m.src) m.src) m 0 true) := ⟨⟨hm.src, fun _ => rfl, (by show -1 ≤ m.src ∧ m.src < 4; have := hm.src; omega), hl.ok.q, pW0, fun _ => hk12⟩, fun _ => rfl, fun h => (by cases h)⟩
  by_cases h0 : 0 ≤ (leaveF d m.src).o
  · have : EI n (busyF (leaveF d m.src) m 1 false) := ⟨⟨hm.src, fun h => (by cases h), hl.ok.own, hl.ok.q, pW1, fun _ => hk12⟩, hl.apart, fun h => (by cases h)⟩
    rcases hk12 with hk | hk
    · rw [begin_s1 hk h0]; exact this
    · rw [begin_m1 hk h0]; exact this
  rcases hk12 with hk | hk
  · by_cases h1 : 0 < (othersF (leaveF d m.src).sh m.src).length
    · rw [begin_s2 hk h0 h1]
      exact ⟨⟨hm.src, fun _ => rfl, hl.ok.own, hl.ok.q, pW0, fun _ => .inl hk⟩, fun h => absurd h h0, fun h => (by cases h)⟩
    · rw [begin_s3 hk h0 h1]; exact own
  · by_cases h1 : (othersF (leaveF d m.src).sh m.src).length = 0
    · rw [begin_m3 hk h0 h1]; exact own
    · rw [begin_m2 hk h0 h1]
      have := othK_len (leaveF d m.src).sh m.src 4
      exact ⟨⟨hm.src, fun h => (by cases h), hl.ok.own, hl.ok.q, (by show 0 ≤ (((othersF (leaveF d m.src).sh m.src).length : Nat) : Int) ∧ (((othersF (leaveF d m.src).sh m.src).length : Nat) : Int) ≤ 4; unfold othersF; omega), fun _ => .inr hk⟩, fun h => absurd h h0, fun h => (by cases h)⟩
theorem drain_cons {m : Msg} {r : List Msg} {bs : List UInt8} {d : Ent} : drainF (m :: r) bs d = if d.busy then ({ d with q := m :: r }, bs, []) else ((drainF r (beginF bs { d with q := r } m).2.1 (beginF bs { d with q := r } m).1).1, (drainF r (beginF bs { d with q := r } m).2.1 (beginF bs { d with q := r } m).1).2.1, (beginF bs { d with q := r } m).2.2 ++ (drainF r (beginF bs { d with q := r } m).2.1 (beginF bs { d with q := r } m).1).2.2) := by
  rw [drainF]
theorem EI.queue {n : Int} {d : Ent} (h : EI n d) (q : List Msg) (hq : ∀ m ∈ q, ROk n m) : EI n { d with q := q } :=
  ⟨⟨h.ok.asks, h.ok.told, h.ok.own, fun m hm => (⟨(hq m hm).kind.1, (hq m hm).kind.2, (hq m hm).src.1, (hq m hm).src.2, (hq m hm).line⟩), h.ok.waits, h.ok.kind⟩, h.apart, h.idle⟩
abbrev NoQ (d : Ent) : Prop := d.busy = false → d.q = []
theorem drain_ei {n : Int} : ∀ (q : List Msg) (bs : List UInt8) (d : Ent), EI n d → (∀ m ∈ q, ROk n m) → EI n (drainF q bs d).1 ∧ NoQ (drainF q bs d).1 ∧ (drainF q bs d).1.q.length ≤ q.length
  | [], bs, d, h, hq => ⟨h.queue [] hq, fun _ => rfl, Nat.le_refl _⟩
  | m :: r, bs, d, h, hq => by
    have hr : ∀ x ∈ r, ROk n x := fun x hx => hq x (List.mem_cons_of_mem _ hx)
    rw [drain_cons]
    cases hb : d.busy with
    | true =>
      rw [if_pos rfl]
      refine ⟨?_, fun h' => ?_, Nat.le_refl _⟩
      · have := h.queue (m :: r) hq
        rwa [hb] at this
      · cases h'
    | false =>
      rw [if_neg (by decide)]
      have hb1 := begin_ei (bs := bs) (m := m) (h.queue r hr) (show ({ d with q := r } : Ent).busy = false from hb) (hq m (List.mem_cons_self ..))
      rw [hb] at hb1
      obtain ⟨i1, i2, i3⟩ := drain_ei r (beginF bs { o := d.o, sh := d.sh, busy := false, asks := d.asks, kind := d.kind, waits := d.waits, told := d.told, q := r } m).2.1 _ hb1 hr
      exact ⟨i1, i2, by simp only [List.length_cons]; omega⟩
theorem other_ei {n : Int} {d : Ent} {bs : List UInt8} {m : Msg} (h : EI n d) (hs : strayF d m = false) (hk : m.kind = 11 ∨ m.kind = 12 ∨ m.kind = 13) : EI n (otherF bs d m).1 ∧ NoQ (otherF bs d m).1 ∧ (otherF bs d m).1.q.length ≤ d.q.length := by
  have hbusy : d.busy = true := by
    unfold strayF at hs
    cases hb : d.busy
    · rw [hb] at hs; simp at hs
    · rfl
  rcases hk with hk | hk | hk
  · by_cases h1 : d.kind = 1
    · rw [other_b1 hk h1]
      exact ⟨⟨⟨h.ok.asks, fun _ => rfl, pO, h.ok.q, pW0, h.ok.kind⟩, fun h' => absurd h' pN, fun h' => nb hbusy h'⟩, fun h' => nb hbusy h', Nat.le_refl _⟩
    · rw [other_b2 hk h1]
      exact ⟨⟨⟨h.ok.asks, fun _ => rfl, (by show -1 ≤ d.asks ∧ d.asks < 4; have := h.ok.asks; omega), h.ok.q, pW0, h.ok.kind⟩, fun _ => rfl, fun h' => nb hbusy h'⟩, fun h' => nb hbusy h', Nat.le_refl _⟩
  · have hw := h.ok.waits
    simp [strayF, hk] at hs
    obtain ⟨⟨-, h1⟩, ⟨h2, h3⟩, h4⟩ := hs
    by_cases h1 : d.waits = 1
    · rw [other_a1 hk h1]
      exact ⟨⟨⟨h.ok.asks, fun _ => rfl, (by show -1 ≤ d.asks ∧ d.asks < 4; have := h.ok.asks; omega), h.ok.q, pW0, h.ok.kind⟩, fun _ => rfl, fun h' => nb hbusy h'⟩, fun h' => nb hbusy h', Nat.le_refl _⟩
    · rw [other_a2 hk h1]
      exact ⟨⟨⟨h.ok.asks, fun ht => (by have := h.ok.told ht; omega), h.ok.own, h.ok.q, (by show 0 ≤ d.waits - 1 ∧ d.waits - 1 ≤ 4; omega), h.ok.kind⟩, fun h' => absurd h' (by show ¬ 0 ≤ d.o; omega), fun h' => nb hbusy h'⟩, fun h' => nb hbusy h', Nat.le_refl _⟩
  · rw [other_d hk]
    have h' : EI n { d with busy := false, asks := 0, kind := 0, waits := 0, told := false } := ⟨⟨by show (0 : Int) ≤ 0 ∧ (0 : Int) < 4; decide, fun _ => rfl, h.ok.own, h.ok.q, (by show (0 : Int) ≤ 0 ∧ (0 : Int) ≤ 4; decide), fun h => (by cases h)⟩, h.apart, fun _ => ⟨rfl, rfl⟩⟩
    exact drain_ei d.q bs _ h' h.ok.rest
theorem take_cases (h : HD) (m : Msg) : (∃ e, takeH h m = (h, [], e) ∧ e ≠ 0) ∨
    (chk m = 0 ∧ m.dst = 4 ∧ (0 ≤ m.src ∧ m.src < 4) ∧ m.line.toNat < h.E.length ∧ m.line = ((m.line.toNat : Nat) : Int) ∧
      ∃ x : Ent × List UInt8 × List Msg, takeH h m = (⟨x.2.1, h.E.set m.line.toNat x.1⟩, x.2.2, 0) ∧
        ((1 ≤ m.kind ∧ m.kind ≤ 3 ∧ (entOf h.E m.line.toNat).busy = true ∧ x = ({ entOf h.E m.line.toNat with q := (entOf h.E m.line.toNat).q ++ [m] }, h.bs, [])) ∨
         (1 ≤ m.kind ∧ m.kind ≤ 3 ∧ (entOf h.E m.line.toNat).busy = false ∧ x = beginF h.bs (entOf h.E m.line.toNat) m) ∨
         ((m.kind = 11 ∨ m.kind = 12 ∨ m.kind = 13) ∧ strayF (entOf h.E m.line.toNat) m = false ∧ x = otherF h.bs (entOf h.E m.line.toNat) m))) := by
  have hmn := m.hn
  by_cases h0 : chk m ≠ 0 ∨ m.dst ≠ 4
  · exact .inl ⟨2, by unfold takeH; rw [if_pos h0], by decide⟩
  by_cases h3 : (h.E.length : Int) ≤ m.line
  · exact .inl ⟨4, by unfold takeH; rw [if_neg h0, if_pos h3], by decide⟩
  have h1 : chk m = 0 := Decidable.not_not.1 fun h => h0 (.inl h)
  have h2 : m.dst = 4 := Decidable.not_not.1 fun h => h0 (.inr h)
  obtain ⟨hhome, hsrc⟩ := chk_home h1 h2
  unfold homeK at hhome
  simp only [Bool.or_eq_true, decide_eq_true_eq] at hhome
  have hT : takeH h m = if m.kind ≤ 3 then (if (entOf h.E m.line.toNat).busy then (⟨h.bs, h.E.set m.line.toNat { entOf h.E m.line.toNat with q := (entOf h.E m.line.toNat).q ++ [m] }⟩, [], 0) else (⟨(beginF h.bs (entOf h.E m.line.toNat) m).2.1, h.E.set m.line.toNat (beginF h.bs (entOf h.E m.line.toNat) m).1⟩, (beginF h.bs (entOf h.E m.line.toNat) m).2.2, 0)) else if strayF (entOf h.E m.line.toNat) m then (h, [], 220) else (⟨(otherF h.bs (entOf h.E m.line.toNat) m).2.1, h.E.set m.line.toNat (otherF h.bs (entOf h.E m.line.toNat) m).1⟩, (otherF h.bs (entOf h.E m.line.toNat) m).2.2, 0) := by
    unfold takeH
    rw [if_neg h0, if_neg h3]
    rfl
  by_cases hk : m.kind ≤ 3
  · rw [hT, if_pos hk]
    refine .inr ⟨h1, h2, hsrc, by omega, by omega, ?_⟩
    cases hb : (entOf h.E m.line.toNat).busy with
    | true => exact ⟨({ entOf h.E m.line.toNat with q := (entOf h.E m.line.toNat).q ++ [m] }, h.bs, []), by rw [if_pos rfl], .inl ⟨by omega, hk, rfl, rfl⟩⟩
    | false => exact ⟨beginF h.bs (entOf h.E m.line.toNat) m, by rw [if_neg (by decide)], .inr (.inl ⟨by omega, hk, rfl, rfl⟩)⟩
  · rw [hT, if_neg hk]
    cases hs : strayF (entOf h.E m.line.toNat) m with
    | true => exact .inl ⟨220, by rw [if_pos rfl], by decide⟩
    | false => exact .inr ⟨h1, h2, hsrc, by omega, by omega, otherF h.bs (entOf h.E m.line.toNat) m, by rw [if_neg (by decide)], .inr (.inr ⟨by omega, rfl, rfl⟩)⟩
def HI (k : Nat) (h : HD) : Prop := h.E.length = h.bs.length / 16 ∧ ∀ n, n < h.E.length → EI (n : Int) (entOf h.E n) ∧ NoQ (entOf h.E n) ∧ (entOf h.E n).q.length ≤ k
theorem HI.home0 (bs : List UInt8) : HI 0 (home0 bs) := ⟨by simp [Go.Proofs.Ytdiaemlgghfecaa.home0], fun n _ => by
  rw [show entOf (Go.Proofs.Ytdiaemlgghfecaa.home0 bs).E n = Go.Proofs.Ytdiaemlgghfecaa.ent0 from entOf_rep _ _]
  exact ⟨EI.ent0 _, fun _ => rfl, Nat.le_refl _⟩⟩
theorem HI.ok {k : Nat} {h : HD} (hi : HI k h) (hk : k ≤ 100000) : HOk h := fun n hn => ⟨(hi.2 n hn).1.ok, Nat.le_trans (hi.2 n hn).2.2 hk⟩
theorem HI.mono {k k' : Nat} {h : HD} (hi : HI k h) (hk : k ≤ k') : HI k' h := ⟨hi.1, fun n hn => ⟨(hi.2 n hn).1, (hi.2 n hn).2.1, Nat.le_trans (hi.2 n hn).2.2 hk⟩⟩
theorem HI.put {k k' : Nat} {h : HD} (hi : HI k h) (hk : k ≤ k') {n : Nat} (hn : n < h.E.length) {x : Ent × List UInt8 × List Msg} (hl : x.2.1.length = h.bs.length) (he : EI (n : Int) x.1 ∧ NoQ x.1 ∧ x.1.q.length ≤ k') : HI k' ⟨x.2.1, h.E.set n x.1⟩ :=
  ⟨by show (h.E.set n x.1).length = x.2.1.length / 16; rw [List.length_set, hl, hi.1], fun i hI => by
    rw [List.length_set] at hI
    show EI (i : Int) (entOf (h.E.set n x.1) i) ∧ NoQ (entOf (h.E.set n x.1) i) ∧ (entOf (h.E.set n x.1) i).q.length ≤ k'
    rw [entOf_set hn]
    split
    · rename_i h; subst h; exact he
    · exact ⟨(hi.2 i hI).1, (hi.2 i hI).2.1, Nat.le_trans (hi.2 i hI).2.2 hk⟩⟩
theorem take_ei {k : Nat} {h : HD} {m : Msg} (hi : HI k h) (hsrc : 0 ≤ m.src ∧ m.src < 4) (hn : m.line.toNat < h.E.length) (hmn : m.line = ((m.line.toNat : Nat) : Int)) {x : Ent × List UInt8 × List Msg} (hx : (1 ≤ m.kind ∧ m.kind ≤ 3 ∧ (entOf h.E m.line.toNat).busy = true ∧ x = ({ entOf h.E m.line.toNat with q := (entOf h.E m.line.toNat).q ++ [m] }, h.bs, [])) ∨
         (1 ≤ m.kind ∧ m.kind ≤ 3 ∧ (entOf h.E m.line.toNat).busy = false ∧ x = beginF h.bs (entOf h.E m.line.toNat) m) ∨
         ((m.kind = 11 ∨ m.kind = 12 ∨ m.kind = 13) ∧ strayF (entOf h.E m.line.toNat) m = false ∧ x = otherF h.bs (entOf h.E m.line.toNat) m)) : EI (m.line.toNat : Int) x.1 ∧ NoQ x.1 ∧ x.1.q.length ≤ k + 1 ∧ x.2.1.length = h.bs.length := by
  obtain ⟨e1, e2, e3⟩ := hi.2 _ hn
  rcases hx with ⟨a, b, c, rfl⟩ | ⟨a, b, c, rfl⟩ | ⟨a, b, rfl⟩
  · refine ⟨e1.queue _ fun y hy => ?_, fun h' => ?_, ?_, rfl⟩
    · rw [List.mem_append] at hy
      rcases hy with hy | hy
      · exact e1.ok.rest y hy
      · simp at hy; subst hy; exact ⟨⟨a, b⟩, hsrc, hmn⟩
    · rw [show (entOf h.E m.line.toNat).busy = false from h'] at c; cases c
    · show ((entOf h.E m.line.toNat).q ++ [m]).length ≤ _
      simp; omega
  · refine ⟨begin_ei e1 c ⟨⟨a, b⟩, hsrc, hmn⟩, fun h' => ?_, ?_, begin_bs⟩
    · rw [begin_q]; exact e2 c
    · rw [begin_q]; omega
  · obtain ⟨f1, f2, f3⟩ := other_ei (bs := h.bs) e1 b a
    exact ⟨f1, f2, by omega, other_bs⟩
theorem HI.take {k : Nat} {h : HD} (hi : HI k h) (m : Msg) : HI (k + 1) (takeH h m).1 := by
  rcases take_cases h m with ⟨e, he, _⟩ | ⟨_, _, hsrc, hn, hmn, x, hx, hc⟩
  · rw [he]; exact hi.mono (Nat.le_succ _)
  · rw [hx]
    obtain ⟨f1, f2, f3, f4⟩ := take_ei hi hsrc hn hmn hc
    exact hi.put (Nat.le_succ _) hn f4 ⟨f1, f2, f3⟩
theorem take_len (h : HD) (m : Msg) : (takeH h m).1.E.length = h.E.length := by
  rcases take_cases h m with ⟨e, he, _⟩ | ⟨_, _, hsrc, hn, hmn, x, hx, hc⟩
  · rw [he]
  · rw [hx]; exact List.length_set
def pickAt (pick : Int) (n : Nat) : Nat := (Int.tmod (Int.tmod pick n + n) n).toNat
theorem tmod_bd (p : Int) (n : Nat) (h : 0 < n) : -(n : Int) < Int.tmod p n ∧ Int.tmod p n < n := by
  have h1 := Int.tmod_lt_of_pos p (show (0 : Int) < n by omega)
  have h2 := Int.lt_tmod_of_pos p (show (0 : Int) < n by omega)
  omega
theorem pickAt_eq (p : Int) (n : Nat) (h : 0 < n) : Int.tmod (Int.tmod p n + n) n = ((pickAt p n : Nat) : Int) := by
  have h1 := tmod_bd p n h
  have h2 : 0 ≤ Int.tmod (Int.tmod p n + n) n := Int.tmod_nonneg _ (by omega)
  unfold pickAt
  omega
theorem pickAt_lt (p : Int) (n : Nat) (h : 0 < n) : pickAt p n < n := by
  have h1 := pickAt_eq p n h
  have h2 := (tmod_bd (Int.tmod p n + n) n h).2
  omega
theorem pick_neg {p : Int} {n : Nat} (h : 0 < n) (hn : Int.tmod p n < 0) : Int.tmod p n + n = ((pickAt p n : Nat) : Int) := by
  have h1 := tmod_bd p n h
  rw [← pickAt_eq p n h]
  generalize Int.tmod p n = q at *
  exact (Int.tmod_eq_of_lt (by omega) (by omega)).symm
theorem pick_pos {p : Int} {n : Nat} (h : 0 < n) (hn : ¬ Int.tmod p n < 0) : Int.tmod p n = ((pickAt p n : Nat) : Int) := by
  have h1 := tmod_bd p n h
  rw [← pickAt_eq p n h]
  generalize Int.tmod p n = q at *
  rw [Int.tmod_eq_emod_of_nonneg (by omega), Int.add_emod_right]
  exact (Int.emod_eq_of_lt (by omega) (by omega)).symm
end Go.Proofs.Ytdiaemlgghfecaa
namespace Go.Proofs.Ytdiaemlgghfecaa
open Go.RowKit
theorem run_part_bool {P : Program} (w : World) {e : TypeId} (he : P.underlying e = some .bool) (cs : Array Value) (i : Nat) (v : Value) (h : cs[i]? = some v) : (part e cs i).run P w = .ok v w := by
  simp [part, isAgg, run_underlying he, h]
theorem run_equalIn_bool {P : Program} (w : World) (d : Nat) (t : TypeId) (a b : Bool) (h : P.underlying t = some .bool) : (Op.equalIn (d + 1) t (.bool a) (.bool b)).run P w = .ok (a == b) w := by
  unfold Op.equalIn
  simp [run_underlying h]
theorem run_equal_bools {P : Program} (w : World) (d : Nat) {t e : TypeId} (ht : P.underlying t = some (.array 4 e)) (he : P.underlying e = some .bool) (hs : (P.info? e).map (·.size) = some 1) (s s' : Sh) :
    (Op.equalIn (d + 2) t (.agg #[.bool s.a, .bool s.b, .bool s.c, .bool s.d]) (.agg #[.bool s'.a, .bool s'.b, .bool s'.c, .bool s'.d])).run P w = .ok (decide (s = s')) w := by
  have hsz : (sizeOf e).run P w = .ok 1 w := by
    cases hq : P.info? e with
    | none => simp [hq] at hs
    | some i => simp [hq] at hs; simp [sizeOf, typeInfo, hq, hs]
  have hb : ∀ x y, (Op.equalIn (d + 1) e (.bool x) (.bool y)).run P w = .ok (x == y) w := fun x y => run_equalIn_bool w d e x y he
  have p0 : ∀ a b c f, (part e #[.bool a, .bool b, .bool c, .bool f] 0).run P w = .ok (.bool a) w := fun _ _ _ _ => run_part_bool w he _ _ _ rfl
  have p1 : ∀ a b c f, (part e #[.bool a, .bool b, .bool c, .bool f] 1).run P w = .ok (.bool b) w := fun _ _ _ _ => run_part_bool w he _ _ _ rfl
  have p2 : ∀ a b c f, (part e #[.bool a, .bool b, .bool c, .bool f] 2).run P w = .ok (.bool c) w := fun _ _ _ _ => run_part_bool w he _ _ _ rfl
  have p3 : ∀ a b c f, (part e #[.bool a, .bool b, .bool c, .bool f] 3).run P w = .ok (.bool f) w := fun _ _ _ _ => run_part_bool w he _ _ _ rfl
  obtain ⟨a, b, c, f⟩ := s
  obtain ⟨a', b', c', f'⟩ := s'
  unfold Op.equalIn
  simp only [Sem.run_bind, run_underlying ht, Result.andThen_ok, hsz, Nat.mul_one]
  rw [Std.Legacy.Range.forIn_eq_forIn_range']
  have e1 : (List.range' (Std.Legacy.Range.mk 0 4 1 (by decide)).start (Std.Legacy.Range.mk 0 4 1 (by decide)).size (Std.Legacy.Range.mk 0 4 1 (by decide)).step) = [0, 1, 2, 3] := by
    simp [Std.Legacy.Range.size]
    decide
  rw [e1]
  by_cases h1 : a = a' <;> by_cases h2 : b = b' <;> by_cases h3 : c = c' <;> by_cases h4 : f = f' <;> simp [h1, h2, h3, h4, hb, p0, p1, p2, p3, Sem.run_bind]
theorem sizeBool : (Try.prog.info? 4).map (·.size) = some 1 := by kernel_rfl
theorem x_eqSh {w : World} {ev : Operand → Value} {o : Oper} {x y : Operand} {T' : TypeId} (ho : o.op = .binOp .eql 40 x y T') {s s' : Sh} (hx : ev x = .agg #[.bool s.a, .bool s.b, .bool s.c, .bool s.d]) (hy : ev y = .agg #[.bool s'.a, .bool s'.b, .bool s'.c, .bool s'.d]) {b : Bool} (hb : decide (s = s') = b) : (execOp ev o).run Try.prog w = .ok (.value (.bool b)) w := by
  subst hb
  exact x_eq_of ho hx hy (run_eqGuard_calm _ _ _ _ _ (by kernel_rfl)) rfl (run_equal_bools (P := Try.prog) w 9998 Try.underlying40 Try.underlying4 sizeBool s s')
theorem Ent.eq_iff (d d' : Ent) : d = d' ↔ d.o = d'.o ∧ d.sh = d'.sh ∧ d.busy = d'.busy ∧ d.asks = d'.asks ∧ d.kind = d'.kind ∧ d.waits = d'.waits ∧ d.told = d'.told ∧ d.q = d'.q := by
  constructor
  · rintro rfl; simp
  · rintro ⟨h1, h2, h3, h4, h5, h6, h7, h8⟩
    cases d; cases d'
    simp_all
theorem View.addr {P : Program} {α : Type} [DecidableEq α] {E : Enc P α} {w : World} {A : Option Addr} {c : Nat} {l : List α} (h : View E w A c l) (hl : 0 < l.length) : ∃ b o, A = some ⟨b, o, none⟩ ∧ w.rangeAt b o (l.flatMap E.cells) := by
  obtain ⟨h1, h2, ⟨h3, h4⟩ | ⟨g, o, rfl, _, hr⟩⟩ := h
  · omega
  · exact ⟨g, o, rfl, hr⟩
theorem imgof_no {A : Option Addr} {c : Nat} {bs : List UInt8} (h : okSize (bs.length : Int) = false) (w : World) : Calls Try.prog 25 #[.slice A bs.length c] w (Ret fun v w' => v = .tuple #[.pointer none, .int .i64 2] ∧ w' = w) :=
  (of_no _ A bs.length c rfl w h).mono fun _ _ ⟨h1, h2⟩ => ⟨_, h1, rfl, h2.symm⟩
theorem imgof_yes {w : World} {A : Option Addr} {c : Nat} {bs : List UInt8} (hV : View byE w A c bs) (h : okSize (bs.length : Int) = true) : Calls Try.prog 25 #[.slice A bs.length c] w (Ret fun v w' => ∃ b g cap, v = .tuple #[.pointer (some ⟨b, 0, none⟩), .int .i64 0] ∧ Img 0 w' b g cap bs ∧ w.heap.size ≤ b ∧ w.heap.size ≤ g ∧ NE b g ∧ New w w') := by
  have hr := okSize_range h
  obtain ⟨b, o, rfl, hc⟩ := hV.addr (by omega)
  rw [by_flat] at hc
  exact (of_yes b o bs.length c bs w rfl hc h).mono fun _ _ ⟨b, g, cap, h1, h2, h3⟩ => ⟨_, h1, b, g, cap, rfl, h2.mono (Nat.zero_le _), h2.hb, h2.hg, h2.ne, h3⟩
def sizeB (bs : List UInt8) : Bool := okSize (bs.length : Int) && decide (bs.length ≤ 128)
def RefH (w : World) (F : Nat → Prop) (A : Option Addr) (cap : Nat) (B : Option Addr) (cb : Nat) (h : HD) : Prop := ∃ X, RefAt w F A cap B cb h X
section
variable {w w' : World} {F S : Nat → Prop} {A B : Option Addr} {cap cb : Nat} {h : HD}
theorem RefH.only (H : RefH w F A cap B cb h) (k : Only S w w') (hs : ∀ g, F g → ¬ S g) : RefH w' F A cap B cb h := by
  obtain ⟨X, H⟩ := H
  exact ⟨X, H.only k hs⟩
theorem RefH.new (H : RefH w F A cap B cb h) (k : New w w') : RefH w' F A cap B cb h := H.only k fun _ _ => id
theorem RefH.lt (H : RefH w F A cap B cb h) {g : Nat} (hg : F g) : g < w.heap.size := by
  obtain ⟨X, H⟩ := H
  exact H.lt hg
theorem RefH.apart (H : RefH w F A cap B cb h) {c : Nat} (hc : w.heap.size ≤ c) : ¬ F c := fun hi => by have := H.lt hi; omega
end
theorem ref_new {w : World} {A B : Option Addr} {cap cb : Nat} {bs : List UInt8} (hv : View byE w A cap bs) (he : View ecE w B cb (List.replicate (bs.length / 16) ec0)) : RefH w (fun g => inA A g ∨ inA B g) A cap B cb (home0 bs) :=
  ⟨_, hv, he, by simp [home0], fun i hi => ⟨none, 0, by
    rw [show entOf (home0 bs).E i = ent0 from entOf_rep _ _]
    rw [List.length_replicate] at hi
    simp [List.getD, hi]
    rfl, by
    rw [show entOf (home0 bs).E i = ent0 from entOf_rep _ _]
    exact View.nil, fun g hg => absurd hg (apart_none g)⟩, fun g => .inl, fun g => .inr, fun hg => hg.elim (fun h => hv.lt h) (fun h => he.lt h)⟩
def B16.put (B : B16) (i : Nat) (b : Int) (hb : 0 ≤ b ∧ b < 256) : B16 := ⟨B.1.set i b, by rw [List.length_set]; exact B.2.1, fun a ha => by
  rcases List.mem_or_eq_of_mem_set ha with h | rfl
  · exact B.2.2 a h
  · exact hb⟩
def fillB (b : Int) (hb : 0 ≤ b ∧ b < 256) : B16 := ⟨List.replicate 16 b, by simp, fun a ha => by rw [(List.mem_replicate.1 ha).2]; exact hb⟩
theorem fill_eq {B : B16} {b : Int} {hb : 0 ≤ b ∧ b < 256} (h : ∀ j, j < 16 → B.1.getD j 0 = b) : B = fillB b hb := by
  apply Subtype.ext
  refine ext_getD 0 (by rw [B.2.1]; simp [fillB]) fun j hj => ?_
  rw [B.2.1] at hj
  rw [h j hj]
  show b = (List.replicate 16 b).getD j 0
  simp only [List.getD, List.getElem?_replicate, hj, if_true, Option.getD_some]
theorem put_get (B : B16) (i : Nat) (b : Int) (hb : 0 ≤ b ∧ b < 256) (j : Nat) (hi : i < 16) : (B.put i b hb).1.getD j 0 = if j = i then b else B.1.getD j 0 := by
  unfold B16.put
  have := B.2.1
  by_cases h : j = i
  · subst h; simp [List.getD, this, hi]
  · rw [if_neg h]; simp [List.getD, List.getElem?_set, Ne.symm h]
theorem msg_put (m : Msg) (i : Nat) (b : Int) (hb : 0 ≤ b ∧ b < 256) : (msgE.arr m).setIfInBounds (4 + i) (.int .u8 b) = msgE.arr { m with bs := m.bs.put i b hb } := by
  apply Array.ext'
  simp only [Enc.arr, Array.toList_setIfInBounds]
  show (Value.int .i64 m.kind :: .int .i64 m.src :: .int .i64 m.dst :: .int .u32 m.line :: m.bs.1.map (Value.int .u8)).set (4 + i) _ = _
  rw [show 4 + i = i + 1 + 1 + 1 + 1 by omega]
  simp only [List.set_cons_succ]
  show _ = (Value.int .i64 m.kind :: .int .i64 m.src :: .int .i64 m.dst :: .int .u32 m.line :: (m.bs.1.set i b).map (Value.int .u8))
  rw [List.map_set]
def ansF (m : Msg) (b : Int) (hb : 0 ≤ b ∧ b < 256) : Msg × Bool :=
  if m.kind = 4 ∨ m.kind = 5 then (⟨11, m.dst, 4, m.line, fillB b hb, m.hn⟩, true)
  else if m.kind = 6 then (⟨12, m.dst, 4, m.line, b16z, m.hn⟩, true)
  else if m.kind = 8 ∨ m.kind = 9 ∨ m.kind = 10 then (⟨13, m.dst, 4, m.line, b16z, m.hn⟩, true)
  else (msg0, false)
def modF (p : Int) (n : Int) : Int := if n < 1 then 0 else ((pickAt p n.toNat : Nat) : Int)
theorem modF_nat (p : Int) (n : Nat) (h : 1 ≤ n) : ∃ k : Nat, modF p ((n : Nat) : Int) = ((k : Nat) : Int) ∧ k < n :=
  ⟨pickAt p n, by unfold modF; rw [if_neg (by omega), Int.toNat_natCast], pickAt_lt p n h⟩
theorem HI.all {k : Nat} {h : HD} (hi : HI k h) (hk : k ≤ 1000000) (n : Nat) : (entOf h.E n).q.length ≤ 1000000 := by
  by_cases hn : n < h.E.length
  · exact Nat.le_trans (hi.2 n hn).2.2 hk
  · have : entOf h.E n = ent0 := by unfold entOf; simp [List.getD, List.getElem?_eq_none (Nat.le_of_not_lt hn)]
    rw [this]
    exact Nat.zero_le _
theorem size_bd {bs : List UInt8} (h : sizeB bs = true) : 16 ≤ bs.length ∧ bs.length ≤ 128 := by
  simp only [sizeB, Bool.and_eq_true, decide_eq_true_eq] at h
  have := okSize_range h.1
  omega
end Go.Proofs.Ytdiaemlgghfecaa
