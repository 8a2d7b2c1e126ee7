/-
  Where marks stand behind the body: a panic's way out does not look at a slot that holds no result.
-/
import Derived.Test.YtdjgfkjcpalihaaFXround
namespace Go.Proofs.Ytdjgfkjcpalihaa
open Go.RowKit
def resOk (fn : Func) (d : Nat) : Bool := fn.results.toList.all fun | .tmp t => t != d | .cell t _ => t != d
theorem mapM_same {α β : Type} {f g : α → Sem β} : ∀ (l : List α), (∀ r ∈ l, f r = g r) → l.mapM f = l.mapM g
  | [], _ => by simp
  | r :: l, h => by
    simp only [List.mapM_cons, h r (by simp), mapM_same l fun x hx => h x (by simp [hx])]
theorem results_put {fn : Func} {d : Nat} (hd : resOk fn d = true) (T : Array Value) (v : Value) : results fn (T.setIfInBounds d v) = results fn T := by
  unfold resOk at hd
  have hg : ∀ t, (t != d) = true → (T.setIfInBounds d v).getD t undef = T.getD t undef := by
    intro t ht
    have hne : d ≠ t := by
      intro e
      subst e
      simp at ht
    simp only [Array.getD_eq_getD_getElem?]
    rw [Array.getElem?_setIfInBounds_ne hne]
  unfold results
  obtain ⟨l, hl⟩ : ∃ l : List ResultVar, fn.results = l.toArray := ⟨fn.results.toList, by simp⟩
  rw [hl, List.mapM_toArray, List.mapM_toArray]
  rw [hl] at hd
  have := mapM_same (f := fun (r : ResultVar) => match r with | .tmp t => (pure ((T.setIfInBounds d v).getD t undef) : Sem Value) | .cell a t => (do loadVar t (← asAddr ((T.setIfInBounds d v).getD a undef))))
    (g := fun (r : ResultVar) => match r with | .tmp t => (pure (T.getD t undef) : Sem Value) | .cell a t => (do loadVar t (← asAddr (T.getD a undef)))) l (fun r hr => by
      have h := List.all_eq_true.1 hd r (by simpa using hr)
      cases r with
      | tmp t => show pure _ = pure _; rw [hg t h]
      | cell t ty => show (do loadVar ty (← asAddr _)) = (do loadVar ty (← asAddr _)); rw [hg t h])
  exact congrArg (fun (m : Sem (List Value)) => (do let vs ← Functor.map List.toArray m; pure (if h : vs.size = 1 then vs[0] else .tuple vs) : Sem Value)) this
theorem leavesIn_put {F : Fence} {n : Nat} {P : Program} {fn : Func} {T T' : Array Value} {R : Ending → World → Prop} (hr : results fn T = results fn T') : ∀ (ds : List Deferred) (u : FrameMode) (w : World), LeavesIn F n P fn T R ds u w → LeavesIn F n P fn T' R ds u w
  | [], .returning, w, h => by
    obtain ⟨v, h1, h2⟩ := h
    exact ⟨v, by rw [← hr]; exact h1, h2⟩
  | [], .panicking _, w, h => h
  | [], .run, w, h => h
  | d :: ds, u, w, ⟨h0, hn, fv, cap, f, args, h1, h2, h3, h4⟩ => ⟨h0, hn, fv, cap, f, args, h1, h2, h3, h4.mono fun e u' w' h => by
    cases e with
    | returned _ => exact leavesIn_put hr ds _ _ h
    | panicked _ => exact leavesIn_put hr ds _ _ h
    | outgrown => exact h⟩
theorem leavesInM_put {F : Fence} {n : Nat} {P : Program} {fn : Func} {T T' : Array Value} {R : Ending → World → Prop} (hr : results fn T = results fn T') : ∀ (ds : List Deferred) (u : FrameMode) (w : World), LeavesInM F n P fn T R ds u w → LeavesInM F n P fn T' R ds u w
  | [], u, w, h => leavesIn_put hr [] u w h
  | d :: ds, u, w, ⟨h0, h⟩ => by
    refine ⟨h0, ?_⟩
    rcases h with ⟨r, w', h1, h2, h3⟩ | ⟨hn, fv, cap, f, args, h1, h2, h3, h4⟩
    · exact .inl ⟨r, w', h1, h2, leavesInM_put hr ds u w' h3⟩
    · refine .inr ⟨hn, fv, cap, f, args, h1, h2, h3, h4.mono fun e u' w' h => ?_⟩
      cases e with
      | returned _ => exact leavesInM_put hr ds _ _ h
      | panicked _ => exact leavesInM_put hr ds _ _ h
      | outgrown => exact h
theorem panic_put {F : Fence} {n : Nat} {P : Program} {fn : Func} {R : Ending → World → Prop} {d : Nat} {v : Value} (hd : resOk fn d = true) {c : List PanicEntry} {a : Act} {w : World} (h : bodyPostM F n P fn R (.panic c) (a.put (some d) v) w) : bodyPostM F n P fn R (.panic c) a w :=
  leavesInM_put (results_put hd a.tmps v) a.defers (.panicking c) w h
end Go.Proofs.Ytdjgfkjcpalihaa
