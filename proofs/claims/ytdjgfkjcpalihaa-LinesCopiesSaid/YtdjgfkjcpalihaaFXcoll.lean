/-
  'for x := range seq { out = append(out, x) }': what came, in a slice of its own.
-/
import Derived.Test.YtdjgfkjcpalihaaFXrange
namespace Go.Proofs.Ytdjgfkjcpalihaa
open Go.RowKit
section
variable {P : Program} {α : Type} [DecidableEq α] {E : Enc P α} {N : Nat × List Deferred} {T : List (Nat × Value)} {a : Act} {w : World} {Q : Exit → Act → World → Prop} {ts bytes : Nat}
theorem wanted_none {ops : Array Oper} {a : Act} {o : Oper} (h : o.guard = none) : Region.wanted o (yielded ops a.tmps) = true := by simp [Region.wanted, h]
theorem look_top (k : Nat) (v : Value) (r : List (Nat × Value)) : look ((k, v) :: r) k = some v := by rw [look_cons, if_pos rfl]
theorem look_next {k t : Nat} {v u : Value} {r : List (Nat × Value)} (hne : k ≠ t) (h : look r t = some u) : look ((k, v) :: r) t = some u := by rw [look_cons, if_neg hne]; exact h
/-- What has been collected. -/
def Coll (E : Enc P α) (w : World) (bo ts : Nat) (pre : List α) (W : World) : Prop :=
  ∃ A cap, Blk W bo ts #[.slice A pre.length cap] ∧ Own E W A cap pre ∧ (∀ g, inA A g → w.heap.size ≤ g) ∧ Only (fun k => k = bo) w W
theorem Coll.lt {bo : Nat} {pre : List α} {W : World} (h : Coll E w bo ts pre W) : bo < W.heap.size := by obtain ⟨_, _, h, _⟩ := h; exact h.lt
theorem coll_turn {bo : Nat} : OwnFrom w.heap.size (Coll E w bo ts) := fun pre W W' row ⟨A, cap, hB, hO, hA, hw⟩ hg hr => by
  have ho := only_of_grown hg
  have nb : ∀ g, (∃ o : Obj, W.heap[g]? = some o ∧ o.isCells = true) → ¬ some g = row := fun g ⟨o, h1, h2⟩ e => by
    obtain ⟨_, o', h3, h4⟩ := hr g e.symm
    rw [h1] at h3
    cases h3
    rw [h2] at h4
    cases h4
  refine ⟨A, cap, hB.only ho (nb bo ⟨_, hB, rfl⟩), hO.only ho (fun g hg => nb g (hO.cells hg)), hA, hw.trans ho fun i hi e => ?_⟩
  have := (hr i e.symm).1
  omega

set_option maxHeartbeats 4000000 in
/-- The loop. -/
theorem fx_collect (hE : ElemI E ts bytes) (hag : aggT P E.T E.n = true) (hsz : (P.info? E.T).map (·.size) = some E.n) (hs1 : (P.info? ts).map (·.size) = some 1) (hpl : plainT P ts = true) {z : Value} (hz : (P.info? E.T).bind (·.zero) = some z) (hzc : z.cells.size = E.n) (hEn : E.n ≤ 1000)
    (fr : Fr N T a) {tg p tq tm d1 d2 d3 d4 bo gf : Nat} {lb : Array Value} (hg : look T tg = some (.func (.func gf) #[] lb)) (ho : look T tq = some (.pointer (some ⟨bo, 0, none⟩))) (eg : ∀ (args : Array Value) (w : World), (callFunc gf args).run P w = .ok (.enter gf args) w) {xs : List α}
    (hseq : SeqStopsK Fence.wide 8 P gf lb (fun x => #[.agg (E.arr x)]) (Only fun k => k = bo ∨ w.heap.size ≤ k) (fun ys => ys = xs) (fun pre => pre <+: xs) xs.length w)
    (hO : Blk w bo ts #[.slice none 0 0]) (hb : xs.length * bytes ≤ 140737488355328) (hmax : xs.length ≤ maxLen) (hd : [p, tm, d1, d2, d3, d4, tq].Nodup) (hN : p < N.1 ∧ tm < N.1 ∧ d1 < N.1 ∧ d2 < N.1 ∧ d3 < N.1 ∧ d4 < N.1)
    {r1 r2 bid : Nat} {s1 s2 o1 o2 o3 o4 o5 : Oper} (as1 : s1.op = .alloc E.T) (bs1 : s1.dst = some tm) (cs1 : s1.guard = none) (as2 : s2.op = .store E.T (.tmp tm) (.tmp p)) (bs2 : s2.dst = none) (cs2 : s2.guard = none)
    (ao1 : o1.op = .load ts (.tmp tq)) (bo1 : o1.dst = some d1) (co1 : o1.guard = none) (ao2 : o2.op = .load E.T (.tmp tm)) (bo2 : o2.dst = some d2) (co2 : o2.guard = none) (ao3 : o3.op = .buildSlice ts 1 #[(0, .tmp d2)]) (bo3 : o3.dst = some d3) (co3 : o3.guard = none)
    (ao4 : o4.op = .call { callee := .builtin .append, args := #[.tmp d1, .tmp d3], argTypes := #[ts, ts] }) (bo4 : o4.dst = some d4) (co4 : o4.guard = none) (ao5 : o5.op = .store ts (.tmp tq) (.tmp d4)) (bo5 : o5.dst = none) (co5 : o5.guard = none)
    (next : ∀ D A cap W, w.heap.size ≤ D → W.heap[D]? = some (.deferred (some [])) → Blk W bo ts #[.slice A xs.length cap] → Own E W A cap xs → (∀ g, inA A g → w.heap.size ≤ g) → Only (fun k => k = bo) w W → ∀ a, Fr (N.1, { target := .collected D, args := #[] } :: N.2) T a → Q .normal a W) :
    (Code.rangeFunc (.tmp tg) #[p] (.region r1 #[s1, s2] false) (.block bid (.region r2 #[o1, o2, o3, o4, o5] false))).wp P Q a w := by
  obtain ⟨hNp, hNm, hN1, hN2, hN3, hN4⟩ := hN
  simp only [List.nodup_cons, List.mem_cons, List.not_mem_nil, not_or, or_false, List.nodup_nil, and_true, not_false_eq_true] at hd
  have hbo := hO.lt
  refine (wpIn_wide (n := 9)).1 (wpIn_rangeFunc_ownH (F := Fence.wide) (n := 9) rfl (by decide) (gf := gf) (lb := lb) (fr.ev hg) trivial eg hseq (fun h k => h.tr k) ?_ (Below.refl _ _) (fun _ => rfl) (Coll E w bo ts) (fun _ _ _ => False) coll_turn (fun _ _ _ _ _ h _ _ => h)
    ⟨none, 0, hO, Own.nil, fun g hg => absurd hg (apart_none g), Only.refl _ _⟩
    (fun x a' W => ∃ bm, Blk W bm E.T (E.arr x) ∧ w.heap.size ≤ bm ∧ Fr (N.1, []) ((tm, .pointer (some ⟨bm, 0, none⟩)) :: (p, .agg (E.arr x)) :: T) a') ?_ ?_ ?_ ?_ ?_)
  · intro W l o o' hl hh _ _
    exact (only_of_grown (grownBy_putObj' W l o')).mono fun k _ hk => by
      cases hk
      exact .inr hl
  · rintro x a' _ W W' row ⟨bm, hB, hbm, hf⟩ hg' hr
    refine ⟨bm, hB.only (only_of_grown hg') fun e => ?_, hbm, hf⟩
    obtain ⟨_, o', h3, h4⟩ := hr bm e.symm
    have : W.heap[bm]? = some (.cells (E.arr x) E.T (0, 0)) := hB
    rw [this] at h3
    cases h3
    cases h4
  · -- the assignment
    intro l pre x W K hI hK
    have hf0 := fr.put p (.agg (E.arr x)) hNp
    have fr0 : Fr (N.1, []) ((p, .agg (E.arr x)) :: T) { tmps := ((#[p] : Array Nat).zip #[Value.agg (E.arr x)]).foldl (fun t (p, v) => t.setIfInBounds p v) a.tmps, defers := [] } := by
      have he : ((#[p] : Array Nat).zip #[Value.agg (E.arr x)]).foldl (fun t (p, v) => t.setIfInBounds p v) a.tmps = (a.put (some p) (.agg (E.arr x))).tmps := by simp [Act.put]
      rw [he]
      exact ⟨rfl, hf0.sz, hf0.get⟩
    refine fxr_region (l' := [s1, s2]) (by simp [noDefer, as1, as2]) (by rintro ⟨_, _, h⟩; exact h) ?_
    refine fx_new fr0 (wanted_none cs1) bs1 hNm (x_alloc as1 hz rfl) fun bm W1 hN1 hB hb' a1 fr1 => ?_
    refine fx_storeS hsz (wanted_none cs2) bs2 as2 (fr1.ev (look_top _ _ _)) (fr1.ev (look_next (by omega) (look_top _ _ _))) (E.all _) hB hzc (E.size _) fun W2 hO2 hB2 => ?_
    refine wpList_nil ?_
    have hn : New W W2 := hN1.trans hO2 fun i hi e => by omega
    obtain ⟨A, cap, hBo, hOw, hA, hw⟩ := hI
    exact hK a1 W2 (keepsFrom_of_only hn fun _ _ h => h.elim) (hn.mono fun _ _ h => h.elim) ⟨A, cap, hBo.new hn, hOw.new hn, hA, hw.trNew hn⟩ ⟨bm, hB2, Nat.le_trans hw.size hb', fr1⟩
  · -- the body
    rintro l pre x a1 W hl _ ⟨A, cap, hBo, hOw, hA, hw⟩ ⟨bm, hBm, hbm, fr1⟩ hlen
    refine wpIn_block ?_
    refine fxr_region (l' := [o1, o2, o3, o4, o5]) (by simp [noDefer, ao1, ao2, ao3, ao4, ao5]) (by rintro ⟨_, _, h⟩; exact h) ?_
    refine fx_val (v := .slice A pre.length cap) fr1 (wanted_none co1) bo1 hN1 (x_load1 hpl ao1 (fr1.ev (look_next (by omega) (look_next (by omega) ho))) (hBo.cell 0 rfl)) fun a2 fr2 => ?_
    refine fx_val (v := .agg (E.arr x)) fr2 (wanted_none co2) bo2 hN2 (x_loadE (E := E) hag rfl ao2 (fr2.ev (look_next (by omega) (look_top _ _ _))) (hBm.rangeE E)) fun a3 fr3 => ?_
    refine fx_build1 (E := E) (p := x) hE hEn fr3 (wanted_none co3) bo3 hN3 ao3 (fr3.ev (look_top _ _ _)) fun A1 W1 hN1' hO1 hA1 a4 fr4 => ?_
    have hpre : pre.length + 1 ≤ xs.length := hlen
    refine fx_append (E := E) (l := pre) (l' := [x]) hE fr4 (wanted_none co4) bo4 hN4 ao4 (fr4.ev (look_next (by omega) (look_next (by omega) (look_top _ _ _)))) (fr4.ev (look_top _ _ _)) rfl rfl (hOw.new hN1') hO1.view ?_ ?_ ?_
    · exact Nat.le_trans (Nat.mul_le_mul_right _ hpre) hb
    · exact Nat.le_trans hpre hmax
    intro A2 cap2 W2 hO2 hC2 mv2 a5 fr5
    have hAbo : Apart A bo := fun h => by have := hA bo h; omega
    have hBo2 := (hBo.new hN1').only hC2 hAbo
    refine fx_store1 hs1 (wanted_none co5) bo5 ao5 (fr5.ev (look_next (by omega) (look_next (by omega) (look_next (by omega) (look_next (by omega) (look_next (by omega) (look_next (by omega) ho))))))) (fr5.ev (look_top _ _ _)) rfl hBo2 (by simp) rfl fun W3 hO3 hBo3 => ?_
    refine wpList_nil ?_
    have hA2 : ∀ g, inA A2 g → w.heap.size ≤ g := fun g hg => (mv2 g hg).elim (hA g) (fun h => Nat.le_trans hw.size (Nat.le_trans hN1'.size h))
    have hall : Only (fun k => k = bo ∨ inA A k) W W3 := ((hN1'.mono fun _ _ h => h.elim).tr (hC2.mono fun k _ h => .inr h)).tr (hO3.mono fun k _ h => .inl h)
    have hlen2 : (pre ++ [x]).length = pre.length + 1 := by simp
    refine ⟨keepsFrom_of_only hall fun k hk h => h.elim (fun e => e ▸ ⟨_, hBo, rfl⟩) (fun h => hOw.cells h), hall.mono fun k _ h => h.imp id (hA k), A2, cap2, hBo3, hO2.only hO3 (fun g hg e => ?_), hA2, ?_⟩
    · have := hA2 g hg
      omega
    · refine hw.trans hall fun i hi h => h.elim id fun h => ?_
      have := hA i h
      omega
  · intro D ys W hD hys hI hK
    subst hys
    obtain ⟨A, cap, hBo, hOw, hA, hw⟩ := hI
    refine next D A cap W hD hK hBo hOw hA hw _ ⟨?_, fr.sz, fr.get⟩
    show _ :: a.defers = _ :: N.2
    rw [fr.df]
  · intro D c pre W _ _ h
    exact h.elim
end
end Go.Proofs.Ytdjgfkjcpalihaa
