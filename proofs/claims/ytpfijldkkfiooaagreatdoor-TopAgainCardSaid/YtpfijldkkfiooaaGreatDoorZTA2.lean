/-
  Part 2 of what the claim stands on: walks through the code, plain laws.
-/
import Derived.Test.YtpfijldkkfiooaaGreatDoorZTA1
set_option linter.unusedVariables false
set_option linter.unusedSimpArgs false
namespace Go.Proofs.YtpfijldkkfiooaaGreatDoor
open Go Go.RowKit
theorem Sep.into : ∀ {B A : List Ck} {p : Ck} {h : Hl}, Sep (p :: (B ++ A)) h → Sep (B ++ p :: A) h
  | [], _, _, _, a => a
  | _ :: _, _, _, _, a => a.swap.mapTl fun _ => Sep.into
theorem Sep.comm : ∀ {A B : List Ck} {h : Hl}, Sep (A ++ B) h → Sep (B ++ A) h
  | [], B, _, a => by rw [List.append_nil]; exact a
  | _ :: _, _, _, a => Sep.into (a.mapTl fun _ => Sep.comm)
theorem Hp.comm {e w : World} {A B : List Ck} (a : Hp e (A ++ B) w) : Hp e (B ++ A) w := a.imp fun _ => Sep.comm
theorem sep_hp1 {p : HP} {h : Hl} (hp : p h) : Sep [.hp p] h := ⟨h, fun _ => none, Le.refl h, (fun _ _ e => by cases e), fun _ => .inr rfl, hp, trivial⟩
theorem Hp.unfl {e w : World} {L X : List Ck} (a : Hp e (L ++ X) w) {p : HP} (f : ∀ h, Sep L h → p h) : Hp e (.hp p :: X) w := a.imp fun _ hs => hs.unflat.hd (q := .hp p) f
theorem roundIn_lv {n m : Nat} {P : Program} {l : Nat} {f : FuncId} {tmps : Array Value} {assign body : Code} {w : World} {R : Ending → World → Prop} (h : RoundIn (Wd none) n P l f tmps assign body w R) : RoundIn Fence.wide m P l f tmps assign body w R := ⟨h.1, fun c cs _ => h.2 c cs (room_wide _)⟩
structure Yd (P : Program) (l : Nat) (vs : List Value) (J J' Jx : HP) : Prop where
  run : ∀ e Y w, Hp e (.hp J :: Y) w → YieldAt Fence.wide 0 P l vs.toArray w fun en W' => (en = .returned (.bool true) ∧ Hp e (.hp J' :: Y) W') ∨ (en = .returned (.bool false) ∧ Hp e (.hp Jx :: Y) W')
section
variable {P : Program} {n : Nat} {N : Nat × List Deferred} {T : Tb} {e : World} {Q : Exit → Act → World → Prop} {ops : Array Oper} {rest : List Oper} {L Y : List Ck} {d : Nat} {ty : TypeId} {pos : String} {af : Array Edge} {J J' Jx : HP}
theorem Zyd {l t : Nat} {xs : List Operand} {ts : Array TypeId} {vs : List Value} (hY : Yd P l vs J J' Jx) (i : Nat) (ht : look T t = some (.func (.yield l) #[] #[])) (hv : evA T xs = some vs) (hL : pick L i = some (.hp J, Y))
    (k1 : ZL P none n ops Q rest N ((d, .bool true) :: T) e (.hp J' :: Y)) (k2 : ZL P none n ops Q rest N ((d, .bool false) :: T) e (.hp Jx :: Y)) (hN : Nat.blt d N.1 = true := by rfl) : ZL P none n ops Q (⟨some d, .call { callee := .value (.tmp t), args := xs.toArray, argTypes := ts }, ty, pos, af, none⟩ :: rest) N T e L := fun w hp ok a fr => by
  obtain ⟨fn, tmps, assign, body, hy, hR⟩ := hY.run e Y w (hp.pick hL)
  unfold wpListIn
  rw [if_pos (wanted_no _)]
  refine ⟨fun _ _ => trivial, ?_⟩
  show Oper.uponIn (Wd none) n P (⟨some d, .call { callee := .value (.tmp t), args := xs.toArray, argTypes := ts }, ty, pos, af, none⟩ : Oper) a _ Q ((Oper.semAt none a.eval _).run P w)
  have hf : a.eval (.tmp t) = .func (.yield l) #[] #[] := fr.ev ht
  have hrun : (execOp a.eval ⟨some d, .call { callee := .value (.tmp t), args := xs.toArray, argTypes := ts }, ty, pos, af, none⟩).run P w = .ok (.round l fn tmps assign body) w := by
    simp [execOp, resolve, Deferred.ofValue, hf, (fr.evA hv).map, invoke, hy]
  rw [Oper.semAt_none, hrun]
  refine ⟨fun hd => (by cases hd), ?_⟩
  have hR' : RoundIn (Wd none) (n - 1) P l fn tmps assign body w _ := ⟨hR.1, fun c cs _ => hR.2 c cs (room_wide _)⟩
  refine hR'.mono ?_
  rintro en W' (⟨rfl, h⟩ | ⟨rfl, h⟩)
  · exact k1 W' h ok _ (fr.put d _ (Nat.le_of_ble_eq_true hN))
  · exact k2 W' h ok _ (fr.put d _ (Nat.le_of_ble_eq_true hN))
end
structure Sq {α : Type} (P : Program) (gf : Nat) (lb : List Value) (C : List Ck) (C' : List α → List Ck) (enc : α → List Value) (xs : List α) : Prop where
  run : ∀ (l : Nat) (J Jx : List α → HP), (∀ pre x, pre ++ [x] <+: xs → Yd P l (enc x) (J pre) (J (pre ++ [x])) (Jx (pre ++ [x]))) →
    Sp P gf (.func (.yield l) #[] #[] :: lb) (.hp (J []) :: C) fun K => K (.returned (.tuple #[])) (.hp (J xs) :: C' xs) ∧ ∀ pre, pre <+: xs → K (.returned (.tuple #[])) (.hp (Jx pre) :: C' pre)
theorem put_only (w : World) (l : Nat) (o : Obj) : Only (fun k => k = l) w (w.putObj l o) := (only_of_grown (grownBy_putObj' w l o)).mono fun k _ hk => by cases hk; rfl
abbrev mkD (D : Nat) : Deferred := { target := .collected D, args := #[] }
abbrev mkO (D : Nat) : Ck := .obj D (.deferred (some []))
def RQ {α : Type} (I : List α → List Ck) (pn : List α → Prop) (Ir : List α → List Ck) (pr : List α → Prop) (Ie : Nat → List α → List Ck) (pe : Nat → List α → Prop) (e : World) (F : List Ck) (pre : List α) : Exit → Act → World → Prop
  | .normal, _, w => pn pre ∧ Hp e (I pre ++ F) w
  | .ret, _, w => pr pre ∧ Hp e (Ir pre ++ F) w
  | .exit id, _, w => pe id pre ∧ Hp e (Ie id pre ++ F) w
  | _, _, _ => False
def Ak {α : Type} (P : Program) (l : Nat) (body : Code) (I : List α → List Ck) (pn : List α → Prop) (Ir : List α → List Ck) (pr : List α → Prop) (Ie : Nat → List α → List Ck) (pe : Nat → List α → Prop) (N : Nat × List Deferred) (e : World) (F : List Ck) (pre' : List α) : Act → World → Prop := fun a w =>
  ∃ T M, Fr N T a ∧ Hp e (M ++ F) w ∧ ∀ F', ZC P (some l) 7 body (RQ I pn Ir pr Ie pe e F' pre') N T e (M ++ F')
def noQ : Exit → Act → World → Prop := fun _ _ _ => False
section
variable {α : Type} {P : Program} {n l : Nat} {r : Option Nat} {N : Nat × List Deferred} {T : Tb} {e : World} {Q : Exit → Act → World → Prop} {L X Y F M : List Ck} {body : Code} {I Ir : List α → List Ck} {pn pr : List α → Prop} {Ie : Nat → List α → List Ck} {pe : Nat → List α → Prop} {pre : List α}
theorem RQ_ok : ¬ LetsOut (RQ I pn Ir pr Ie pe e F pre) := fun ⟨_, _, h⟩ => h
theorem Zak (k : Nat) (hF : L.drop k = F) (h : ∀ F', ZC P (some l) 7 body (RQ I pn Ir pr Ie pe e F' pre) N T e (L.take k ++ F')) : ZX (some l) (Exit.then (Ak P l body I pn Ir pr Ie pe N e F pre) noQ) .normal N T e L := fun w hp _ a fr =>
  ⟨T, L.take k, fr, by rw [← hF, List.take_append_drop]; exact hp, h⟩
theorem Zrn (hn : pn pre) (is : List Nat) (k : Nat) (hL : sel L is = some (I pre, Y)) (hF : Y.drop k = F) : ZX r (RQ I pn Ir pr Ie pe e F pre) .normal N T e L := fun w hp _ a fr =>
  ⟨hn, (hp.sel hL).imp fun h hs => Sep.swapTail hs fun h hs => by rw [← hF]; exact Sep.dropN k hs⟩
theorem Zrr (hp : pr pre) (is : List Nat) (k : Nat) (hL : sel L is = some (Ir pre, Y)) (hF : Y.drop k = F) : ZX r (RQ I pn Ir pr Ie pe e F pre) .ret N T e L := fun w hp' _ a fr =>
  ⟨hp, (hp'.sel hL).imp fun h hs => Sep.swapTail hs fun h hs => by rw [← hF]; exact Sep.dropN k hs⟩
theorem Zrx {id : Nat} (hp : pe id pre) (is : List Nat) (k : Nat) (hL : sel L is = some (Ie id pre, Y)) (hF : Y.drop k = F) : ZX r (RQ I pn Ir pr Ie pe e F pre) (.exit id) N T e L := fun w hp' _ a fr =>
  ⟨hp, (hp'.sel hL).imp fun h hs => Sep.swapTail hs fun h hs => by rw [← hF]; exact Sep.dropN k hs⟩
theorem Zmk {m D : Nat} {ds : List Deferred} {fn : Func} {Φ : Ending → World → Prop} (i : Nat) (hL : pick L i = some (mkO D, M)) (h : ZX none (BP true P fn Φ) .ret (m, ds) T e M) : ZX none (BP true P fn Φ) .ret (m, mkD D :: ds) T e L := fun w hp _ a fr => by
  have hp1 := hp.pick hL
  have hD := hp1.ob (i := 0) (b := D) (o := .deferred (some [])) rfl
  show LeavesInM _ _ _ _ _ _ a.defers _ _
  rw [fr.df]
  refine ⟨by simp, .inl ⟨D, w.putObj D (.deferred none), rfl, run_takeDeferred hD, ?_⟩⟩
  have hp2 : Hp e M (w.putObj D (.deferred none)) := (hp1.setO (o' := .deferred none) (put_only w D _) (World.putObj_heap_same (Array.getElem?_eq_some_iff.1 hD).1)).tl
  exact h _ hp2 (.inl rfl) { a with defers := ds } ⟨rfl, fr.sz, fr.get⟩
end
theorem prefix_len {α : Type} {pre xs : List α} {x : α} (h : pre ++ [x] <+: xs) : pre.length < xs.length := by
  obtain ⟨s, hs⟩ := h
  rw [← hs]
  simp
def rgT : List Nat → List Value → Tb → Tb
  | p :: ps, v :: vs, T => rgT ps vs ((p, v) :: T)
  | _, _, T => T
theorem rg_fr {P : Nat} : ∀ (ps : List Nat) (vs : List Value) {T : Tb} {ts : Array Value}, (∀ p ∈ ps, p < P) → Fr (P, []) T { tmps := ts, defers := [] } → Fr (P, []) (rgT ps vs T) { tmps := (ps.zip vs).foldl (fun t (p, v) => t.setIfInBounds p v) ts, defers := [] }
  | [], _, _, _, _, fr => by simpa [rgT] using fr
  | _ :: _, [], _, _, _, fr => by simpa [rgT] using fr
  | p :: ps, v :: vs, T, ts, hp, fr => by
    have := fr.put p v (hp p (by simp))
    exact rg_fr ps vs (fun q hq => hp q (by simp [hq])) this
set_option maxHeartbeats 1000000 in
theorem Zrf {α : Type} {P : Program} {n : Nat} {N : Nat × List Deferred} {T : Tb} {e : World} {Q : Exit → Act → World → Prop} {L X : List Ck} {assign body : Code} {gf tg : Nat} {ps : List Nat} {lb : List Value} {xs : List α} {enc : α → List Value} {C : List Ck} {C' : List α → List Ck}
    (c : Sq P gf lb C C' enc xs) (I : List α → List Ck) (pn : List α → Prop) (Ir : List α → List Ck) (pr : List α → Prop) (Ie : Nat → List α → List Ck) (pe : Nat → List α → Prop) (is : List Nat)
    (ht : look T tg = some (.func (.func gf) #[] lb.toArray)) (hL : sel L is = some (C ++ I [], X))
    (hn0 : pn []) (hbody : ∀ e l pre x F, pre ++ [x] <+: xs → pn pre → ZC P (some l) 7 assign (Exit.then (Ak P l body I pn Ir pr Ie pe (N.1, []) e F (pre ++ [x])) noQ) (N.1, []) (rgT ps (enc x) T) e (I pre ++ F))
    (hdone : ∀ D, pn xs → ZX none Q .normal (N.1, mkD D :: N.2) T e (mkO D :: (I xs ++ (C' xs ++ X))))
    (hret : ∀ D pre, pre <+: xs → pr pre → ZC P none n .ret Q (N.1, mkD D :: N.2) T e (mkO D :: (Ir pre ++ (C' pre ++ X))))
    (hexit : ∀ D id pre, pre <+: xs → pe id pre → ZC P none n (.exit id) Q (N.1, mkD D :: N.2) T e (mkO D :: (Ie id pre ++ (C' pre ++ X))))
    (hps : ∀ x, (enc x).length = ps.length) (hpn : ∀ p ∈ ps, p < N.1) (hf : callOk P gf = true := by first | assumption | kernel_rfl) : ZC P none n (.rangeFunc (.tmp tg) ps.toArray assign body) Q N T e L := fun w hp ok a fr => by
  obtain ⟨fng, h1, h2, h3⟩ := callOk_spec hf
  have hn' : ¬ fng.name = "runtime.NumGoroutine" := by simpa using h2
  have hb' : ¬ fng.body = none := fun h => by rw [h] at h3; cases h3
  have eg : ∀ (args : Array Value) (w : World), (callFunc gf args).run P w = .ok (.enter gf args) w := fun args w => by simp [callFunc, h1, hn', hb']
  refine wpIn_rangeFunc ?_
  intro fn hfn
  obtain ⟨rec, hrec⟩ : ∃ rec : LoopState → Option Code → Loop, rec = fun st pe => { state := st, pending := pe, fn, tmps := a.tmps, params := ps.toArray, assign, body, defers := w.heap.size } := ⟨_, rfl⟩
  obtain ⟨D, hD⟩ : ∃ D, D = w.heap.size := ⟨_, rfl⟩
  obtain ⟨l, hl⟩ : ∃ l, l = w.heap.size + 1 := ⟨_, rfl⟩
  have hpa : Hp e (C ++ I [] ++ X) w := hp.sel hL
  have hp1 : Hp e (mkO D :: (C ++ I [] ++ X)) (w.alloc (.deferred (some []))) := hpa.newO ((Only.refl _ w).alloc _) (by rw [hD]; exact World.alloc_heap_new w _) (Nat.le_of_eq hD.symm)
  have hp2 : Hp e (.obj l (.loop (rec .ready none)) :: mkO D :: (C ++ I [] ++ X)) ((w.alloc (.deferred (some []))).alloc (.loop (rec .ready none))) := hp1.newO ((Only.refl _ _).alloc _) (by
    have := World.alloc_heap_new (w.alloc (.deferred (some []))) (.loop (rec .ready none))
    rw [World.size_alloc] at this
    rw [hl]; exact this) (by rw [hl, World.size_alloc]; exact Nat.le_refl _)
  let J : List α → HP := fun pre h => pn pre ∧ Sep (.obj l (.loop (rec .ready none)) :: mkO D :: I pre) h
  let Jx : List α → HP := fun pre h => (pr pre ∧ Sep (.obj l (.loop (rec .done (some .ret))) :: mkO D :: Ir pre) h) ∨ ∃ id, pe id pre ∧ Sep (.obj l (.loop (rec .done (some (.exit id)))) :: mkO D :: Ie id pre) h
  refine ⟨l, [mkD D], (w.alloc (.deferred (some []))).alloc (.loop (rec .ready none)), { target := .fn (.func gf) lb.toArray, args := #[.func (.yield l) #[] #[]] }, (w.alloc (.deferred (some []))).alloc (.loop (rec .ready none)), gf, #[.func (.yield l) #[] #[]] ++ lb.toArray, (w.alloc (.deferred (some []))).alloc (.loop (rec .ready none)), ?_, ?_, ?_, ?_, fun h => (by cases h), ?_⟩
  · rw [hrec, hl, hD]; exact run_enterLoop_outer _ _ _ _ _
  · have := fr.ev ht
    simp only [resolve, this]
    simp [go_sem]
  · intro f' hf'
    trivial
  · simp [invoke, go_sem, eg]
  have frD : Fr (N.1, mkD D :: N.2) T { a with defers := mkD D :: a.defers } := ⟨by show _ :: a.defers = _ :: N.2; rw [fr.df], fr.sz, fr.get⟩
  have hc : Calls P gf (#[.func (.yield l) #[] #[]] ++ lb.toArray) ((w.alloc (.deferred (some []))).alloc (.loop (rec .ready none))) (fun en w' => en = .returned (.tuple #[]) ∧ (Hp e (.hp (J xs) :: C' xs ++ X) w' ∨ ∃ pre, pre <+: xs ∧ Hp e (.hp (Jx pre) :: C' pre ++ X) w')) := by
    have har : #[Value.func (.yield l) #[] #[]] ++ lb.toArray = (Value.func (.yield l) #[] #[] :: lb).toArray := by simp
    rw [har]
    refine (c.run l J Jx ?_).run e X _ _ ?_ ⟨fun w' h => ⟨rfl, .inl h⟩, fun pre hpre w' h => ⟨rfl, .inr ⟨pre, hpre, h⟩⟩⟩
    · -- one round
      intro pre x hx
      refine ⟨fun e' Y W hpW => ?_⟩
      have hpn1 : pn pre := by obtain ⟨_, _, _, _, _, hj, _⟩ := hpW.sep; exact hj.1
      have h7 : Hp e' ((.obj l (.loop (rec .ready none)) :: mkO D :: I pre) ++ Y) W := hpW.imp fun _ hs => (hs.hd (q := .hp (Sep (.obj l (.loop (rec .ready none)) :: mkO D :: I pre))) fun _ h => h.2).flat
      have hlW := h7.ob (i := 0) (b := l) (o := .loop (rec .ready none)) rfl
      have hy := run_yield (P := P) (args := (enc x).toArray) hlW (by rw [hrec]; simp [hps])
      rw [hrec] at hy
      have h8 : Hp e' (I pre ++ (.obj l (.loop (rec .ready none)) :: mkO D :: Y)) W := h7.imp fun _ hs => by
        have : Sep ([.obj l (.loop (rec .ready none)), mkO D] ++ (I pre ++ Y)) _ := hs
        have := (Sep.comm this)
        rw [List.append_assoc] at this
        exact Sep.swapTail this fun _ hs => Sep.comm hs
      have frR : Fr (N.1, []) (rgT ps (enc x) T) { tmps := (ps.toArray.zip (enc x).toArray).foldl (fun t (p, v) => t.setIfInBounds p v) a.tmps, defers := [] } := by
        have := rg_fr (P := N.1) ps (enc x) (T := T) (ts := a.tmps) hpn ⟨rfl, fr.sz, fr.get⟩
        simpa using this
      have hz := hbody e' l pre x _ hx hpn1 W h8 (.inr (fun ⟨_, _, h⟩ => h)) _ frR
      refine ⟨fn, _, assign, body, hy, roundIn_lv (n := 7) (roundIn_of_wpIn (F := Wd none) trivial (wpIn_mono hz ?_))⟩
      intro ex a1 W1 hx1
      cases ex with
      | normal =>
        obtain ⟨T1, M1, fr1, hp1', hb1⟩ := hx1
        have h9 : Hp e' (.obj l (.loop (rec .ready none)) :: mkO D :: (Y ++ M1)) W1 := hp1'.comm
        have hl9 := h9.ob (i := 0) (b := l) (o := .loop (rec .ready none)) rfl
        refine ⟨_, run_beginRound hl9 (by rw [hrec]), ?_⟩
        have h10 : Hp e' (.obj l (.loop { rec .ready none with state := .busy }) :: mkO D :: (Y ++ M1)) (W1.putObj l (.loop { rec .ready none with state := .busy })) := h9.setO (put_only W1 l _) (World.putObj_heap_same (Array.getElem?_eq_some_iff.1 hl9).1)
        have h11 : Hp e' (M1 ++ (.obj l (.loop { rec .ready none with state := .busy }) :: mkO D :: Y)) (W1.putObj l (.loop { rec .ready none with state := .busy })) := h10.comm (A := .obj l (.loop { rec .ready none with state := .busy }) :: mkO D :: Y)
        have hz2 := hb1 _ _ h11 (.inr RQ_ok) a1 fr1
        refine wpIn_mono hz2 ?_
        have fin : ∀ (jump : Option Code) (W3 : World) (M : List Ck), Hp e' (M ++ (.obj l (.loop { rec .ready none with state := .busy }) :: mkO D :: Y)) W3 → (Instr.endRound l jump).run P W3 = .ok (.bool jump.isNone) (W3.putObj l (.loop (rec (if jump.isNone then .ready else .done) jump))) ∧ Hp e' ((.obj l (.loop (rec (if jump.isNone then .ready else .done) jump)) :: mkO D :: M) ++ Y) (W3.putObj l (.loop (rec (if jump.isNone then .ready else .done) jump))) := fun jump W3 M h => by
          have h12 : Hp e' (.obj l (.loop { rec .ready none with state := .busy }) :: mkO D :: (Y ++ M)) W3 := h.comm
          have hl12 := h12.ob (i := 0) (b := l) (o := .loop { rec .ready none with state := .busy }) rfl
          refine ⟨by have := run_endRound (P := P) jump hl12; rw [hrec] at this ⊢; exact this, ?_⟩
          have h13 := h12.setO (o' := .loop (rec (if jump.isNone then .ready else .done) jump)) (put_only W3 l _) (World.putObj_heap_same (Array.getElem?_eq_some_iff.1 hl12).1)
          exact h13.imp fun _ hs => hs.mapTl fun _ hs => hs.mapTl fun _ hs => Sep.comm hs
        rintro ex2 a2 W3 h3
        cases ex2 with
        | normal =>
          obtain ⟨hr, hh⟩ := fin none W3 _ h3.2
          exact ⟨_, _, hr, .inl ⟨rfl, hh.unfl fun _ hs => ⟨h3.1, hs⟩⟩⟩
        | ret =>
          obtain ⟨hr, hh⟩ := fin (some .ret) W3 _ h3.2
          exact ⟨_, _, hr, .inr ⟨rfl, hh.unfl fun _ hs => .inl ⟨h3.1, hs⟩⟩⟩
        | exit id =>
          obtain ⟨hr, hh⟩ := fin (some (.exit id)) W3 _ h3.2
          exact ⟨_, _, hr, .inr ⟨rfl, hh.unfl fun _ hs => .inr ⟨id, h3.1, hs⟩⟩⟩
        | goto t => exact h3.elim
        | panic c => exact h3.elim
        | outgrown => exact h3.elim
      | _ => exact hx1.elim
    · -- at the beginning
      have h4 : Hp e (.obj l (.loop (rec .ready none)) :: mkO D :: (I [] ++ (C ++ X))) ((w.alloc (.deferred (some []))).alloc (.loop (rec .ready none))) := hp2.imp fun _ hs => hs.mapTl fun _ hs => hs.mapTl fun _ hs => by
        have hs : Sep (C ++ I [] ++ X) _ := hs
        have : Sep (.hp (Sep (C ++ I [])) :: X) _ := hs.unflat
        have := (this.hd (q := .hp (Sep (I [] ++ C))) fun _ hs => Sep.comm hs).flat
        simpa using this
      exact (show Hp e ((.obj l (.loop (rec .ready none)) :: mkO D :: I []) ++ (C ++ X)) _ from h4).unfl fun _ h => ⟨hn0, h⟩
  refine callsIn_wd (r := none) (hc.mono ?_)
  rintro en W2 ⟨rfl, h | ⟨pre, hpre, h⟩⟩
  · have hpn2 : pn xs := by obtain ⟨_, _, _, _, _, hj, _⟩ := h.sep; exact hj.1
    have h5 : Hp e ((.obj l (.loop (rec .ready none)) :: mkO D :: I xs) ++ (C' xs ++ X)) W2 := h.imp fun _ hs => (hs.hd (q := .hp (Sep (.obj l (.loop (rec .ready none)) :: mkO D :: I xs))) fun _ h => h.2).flat
    have hl5 := h5.ob (i := 0) (b := l) (o := .loop (rec .ready none)) rfl
    refine ⟨none, _, by have := run_endLoop (P := P) hl5 (by rw [hrec]; simp); rw [hrec] at this; exact this, ?_⟩
    have h6 := (h5.setO (o' := .loop { rec .ready none with state := .exhausted }) (put_only W2 l _) (World.putObj_heap_same (Array.getElem?_eq_some_iff.1 hl5).1)).tl
    rw [hrec] at h6
    exact hdone D hpn2 _ h6 ok _ frD
  · have key : ∃ c, (Hp e (.obj l (.loop (rec .done (some c))) :: mkO D :: (match c with | .ret => Ir pre | .exit id => Ie id pre | _ => []) ++ (C' pre ++ X)) W2) ∧ (match c with | .ret => pr pre | .exit id => pe id pre | _ => False) := by
      obtain ⟨h1', h2', e1, e2, d, hj, hs⟩ := h.sep
      rcases hj with ⟨hp0, hj⟩ | ⟨id, hp0, hj⟩
      · exact ⟨.ret, ⟨h.os, h.tape, h.output, Sep.flat (L := .obj l (.loop (rec .done (some .ret))) :: mkO D :: Ir pre) ⟨h1', h2', e1, e2, d, hj, hs⟩⟩, hp0⟩
      · exact ⟨.exit id, ⟨h.os, h.tape, h.output, Sep.flat (L := .obj l (.loop (rec .done (some (.exit id)))) :: mkO D :: Ie id pre) ⟨h1', h2', e1, e2, d, hj, hs⟩⟩, hp0⟩
    obtain ⟨c, h5, h0⟩ := key
    have hl5 := h5.ob (i := 0) (b := l) (o := .loop (rec .done (some c))) rfl
    refine ⟨some c, _, by have := run_endLoop (P := P) hl5 (by rw [hrec]; simp); rw [hrec] at this; exact this, ?_⟩
    have h6 := (h5.setO (o' := .loop { rec .done (some c) with state := .exhausted }) (put_only W2 l _) (World.putObj_heap_same (Array.getElem?_eq_some_iff.1 hl5).1)).tl
    rw [hrec] at h6
    cases c with
    | ret => exact hret D pre hpre h0 _ h6 ok _ frD
    | exit id => exact hexit D id pre hpre h0 _ h6 ok _ frD
    | _ => exact h0.elim
theorem ymx {P : Program} {N : Nat × List Deferred} {T : Tb} {e : World} {L : List Ck} {x y : Operand} {ty : TypeId} {pos : String} {af : Array Edge} {g : Option (Nat × Bool)} {dd : Option Nat} {ts : Array TypeId} {k : IntKind} {i j r : Int} (h : evT T x = some (.int k i)) (h1 : evT T y = some (.int k j)) (hr : max i j = r) : Yl P N T e L ⟨dd, .call { callee := .builtin .max, args := #[x, y], argTypes := ts }, ty, pos, af, g⟩ (.int k r) := fun _ _ fr _ => x_max rfl (fr.evT h) (fr.evT h1) hr
section
variable {P : Program} {n : Nat} {r : Option Nat} {N : Nat × List Deferred} {T : Tb} {e : World} {Q : Exit → Act → World → Prop} {L Y' : List Ck} {c c' : Code}
theorem Zjq {ι : Type} (Ti : ι → Tb) (Mi : ι → List Ck) (Y : List Ck) (h1 : ZC P r n c (Exit.then (Jk Ti (fun i => Mi i ++ Y) N e) Q) N T e L) (h2 : ∀ i, ZC P r n c' Q N (Ti i) e (Mi i ++ Y)) : ZC P r n (.seq c c') Q N T e L := Zjn Ti (fun i => Mi i ++ Y) h1 h2
theorem Zjr {ι : Type} {Ti : ι → Tb} {Mi : ι → List Ck} {Y : List Ck} (j : ι) (hT : Sub T (Ti j)) (is : List Nat) (k : Nat) (hL : sel L is = some (Mi j, Y')) (hX : Y'.drop k = Y) : ZX r (Exit.then (Jk Ti (fun i => Mi i ++ Y) N e) Q) .normal N T e L := fun w hp _ a fr =>
  ⟨j, fr.sub hT, (hp.sel hL).imp fun _ hs => Sep.swapTail hs fun h hs => by rw [← hX]; exact Sep.dropN k hs⟩
end
section
variable {P : Program} {n : Nat} {r : Option Nat} {N : Nat × List Deferred} {T : Tb} {e : World} {Q : Exit → Act → World → Prop} {L : List Ck} {c : Code}
theorem Zscp (h : ZC P none n c (Exit.noGoto Q) N T e L) : ZC P none n (.scope c) Q N T e L := fun w hp _ a fr => (wpIn_wide (n := n)).2 (wp_scope_straight ((wpIn_wide (n := n)).1 (h w hp (.inl rfl) a fr)))
theorem Zgn (h : ZX none Q .normal N T e L) : ZX none (Exit.noGoto Q) .normal N T e L := fun w hp _ a fr => h w hp (.inl rfl) a fr
theorem Zgr (h : ZX none Q .ret N T e L) : ZX none (Exit.noGoto Q) .ret N T e L := fun w hp _ a fr => h w hp (.inl rfl) a fr
end
end Go.Proofs.YtpfijldkkfiooaaGreatDoor
namespace Go.Proofs.YtpfijldkkfiooaaGreatDoor
open Go Go.RowKit
section
variable {P : Program} {N : Nat × List Deferred} {T : Tb} {e : World} {L L' : List Ck} {t ty : TypeId} {x y : Operand} {pos : String} {af : Array Edge} {g : Option (Nat × Bool)} {dd : Option Nat} {α : Type} [DecidableEq α] {E : Enc P α} {A B : Option Addr} {cap cB : Nat} {l : List α}
theorem eap0 (i : Nat) {F : Option Addr → Nat → List Ck} {bytes ln : Nat} (hE : ElemI E t bytes) (h : evT T x = some (.slice A ln cap)) (h1 : evT T y = some (.slice B 0 cB)) (hL : nth L i = some (.hp (own E A cap l))) (hln : ln = l.length) (hF : ∀ A' cap', put L i (.hp (own E A' cap' l)) = some (F A' cap')) (hb : l.length * bytes ≤ 140737488355328) (hm : l.length ≤ maxLen) :
    Ef P N T e L ⟨dd, .call { callee := .builtin .append, args := #[x, y], argTypes := #[t, t] }, ty, pos, af, g⟩ fun K => ∀ A' cap', K (some (.slice A' l.length cap')) (F A' cap') := fun a w fr hp G kk => .inl (by
  subst hln
  have hO := hp.own hL
  obtain ⟨A', cap', w1, hr, h1', h2, h3⟩ := run_append_S (ty := ty) (l' := []) (B := B) (c := cB) hE hO (by
    cases B with
    | none => exact .inr ⟨rfl, rfl⟩
    | some ad => exact .inl ⟨ad, rfl, fun j v hj => by simp at hj⟩) (by simpa using hb) (by simpa using hm)
  rw [List.append_nil] at hr h1'
  exact ⟨_, w1, by simp [execOp, resolve, invoke, builtin, fr.evT h, fr.evT h1, Result.andThen]; rw [show (Builtin.append_ #[t, t] ty #[.slice A l.length cap, .slice B 0 cB]).run P w = _ from hr], kk A' cap' _ (hp.back hL (hF A' cap') fun M hp => hp.ownTo h2 h1' h3)⟩)
end
end Go.Proofs.YtpfijldkkfiooaaGreatDoor
namespace Go.Proofs.YtpfijldkkfiooaaGreatDoor
set_option maxRecDepth 4000
theorem c239 (a b : Int) : Sp Tryz.prog 239 [.int .u32 a, .int .u32 b] [] fun K => K (.returned (.int .u32 (w32 (a + b)))) [] := by
  refine Zen Tryz.func239 rfl rfl rfl fun e X Φ hS => Zsr <| Zv (ya rfl) <| Znl <| Znx <| Zsr <| Zv (ym rfl) <| Zv (ym rfl) <| Zv (yadd rfl rfl rfl) <| Zv (ya rfl) ?_
  refine Znl <| Znx <| Zrt <| Zre (.t rfl .n) hS [] 0 rfl rfl rfl rfl
theorem c283 (a b : Int) : Sp Tryz.prog 283 [.int .u32 a, .int .u32 b] [] fun K => K (.returned (.int .u32 (w32 (a - b)))) [] := by
  refine Zen Tryz.func283 rfl rfl rfl fun e X Φ hS => Zsr <| Zv (ya rfl) <| Znl <| Znx <| Zsr <| Zv (ym rfl) <| Zv (ym rfl) <| Zv (ysub rfl rfl rfl) <| Zv (ya rfl) ?_
  refine Znl <| Znx <| Zrt <| Zre (.t rfl .n) hS [] 0 rfl rfl rfl rfl
theorem c284 (a b : Int) : Sp Tryz.prog 284 [.int .u32 a, .int .u32 b] [] fun K => K (.returned (.int .u32 (w32 (a * b)))) [] := by
  refine Zen Tryz.func284 rfl rfl rfl fun e X Φ hS => Zsr <| Zv (ya rfl) <| Znl <| Znx <| Zsr <| Zv (ym rfl) <| Zv (ym rfl) <| Zv (ymul rfl rfl rfl) <| Zv (ya rfl) ?_
  refine Znl <| Znx <| Zrt <| Zre (.t rfl .n) hS [] 0 rfl rfl rfl rfl
theorem c340 (a b : Int) : Sp Tryz.prog 340 [.int .i32 a, .int .i32 b] [] fun K => K (.returned (.bool (decide (a < b)))) [] := by
  refine Zen Tryz.func340 rfl rfl rfl fun e X Φ hS => Zsr <| Zv (ya rfl) <| Znl <| Znx <| Zsr <| Zv (ym rfl) <| Zv (ym rfl) <| Zv (ylt rfl rfl) <| Zv (ya rfl) ?_
  refine Znl <| Znx <| Zrt <| Zre (.t rfl .n) hS [] 0 rfl rfl rfl rfl
theorem c268 (a b : Int) : Sp Tryz.prog 268 [.int .u32 a, .int .u32 b] [] fun K => K (.returned (.bool (decide (s32 a < s32 b)))) [] := by
  refine Zen Tryz.func268 rfl rfl rfl fun e X Φ hS => Zsr <| Zv (ya rfl) <| Znl <| Znx <| Zsr <| Zv (ym rfl) <| Zv (ycv Tryz.underlying40 Tryz.underlying408 rfl rfl) <| Zv (ym rfl) <| Zv (ycv Tryz.underlying40 Tryz.underlying408 rfl rfl) ?_
  refine Zk (c340 ..) [] rfl rfl <| Zq <| Zv (ya rfl) <| Znl <| Znx <| Zrt <| Zre (.t rfl .n) hS [] 0 rfl rfl rfl rfl
theorem c269 (a b : Int) : Sp Tryz.prog 269 [.int .u32 a, .int .u32 b] [] fun K => K (.returned (.bool (decide (a < b)))) [] := by
  refine Zen Tryz.func269 rfl rfl rfl fun e X Φ hS => Zsr <| Zv (ya rfl) <| Znl <| Znx <| Zsr <| Zv (ym rfl) <| Zv (ym rfl) <| Zv (ylt rfl rfl) <| Zv (ya rfl) ?_
  refine Znl <| Znx <| Zrt <| Zre (.t rfl .n) hS [] 0 rfl rfl rfl rfl
def m31 (b : Int) : Int := w32 (BitVec.ofInt 32 b &&& BitVec.ofInt 32 31).toNat
theorem m31_0 (b : Int) : 0 ≤ m31 b := (w32_u _).1
theorem c278 (a b : Int) : Sp Tryz.prog 278 [.int .u32 a, .int .u32 b] [] fun K => K (.returned (.int .u32 (w32 (a * 2 ^ min (m31 b).toNat 32)))) [] := by
  have h1 := m31_0 b
  refine Zen Tryz.func278 rfl rfl rfl fun e X Φ hS => Zsr <| Zv (ya rfl) <| Znl <| Znx <| Zsr <| Zv (ym rfl) <| Zv (ym rfl) <| Zv (yand rfl rfl rfl) ?_
  refine Zv (yshl rfl rfl h1 rfl) <| Zv (ya rfl) <| Znl <| Znx <| Zrt <| Zre (.t rfl .n) hS [] 0 rfl rfl rfl rfl
theorem c341 (a b : Int) : Sp Tryz.prog 341 [.int .u32 a, .int .u32 b] [] fun K => K (.returned (.int .u32 (a.fdiv (2 ^ min (m31 b).toNat 32)))) [] := by
  have h1 := m31_0 b
  refine Zen Tryz.func341 rfl rfl rfl fun e X Φ hS => Zsr <| Zv (ya rfl) <| Znl <| Znx <| Zsr <| Zv (ym rfl) <| Zv (ym rfl) <| Zv (yand rfl rfl rfl) ?_
  refine Zv (yshr rfl rfl h1 rfl) <| Zv (ya rfl) <| Znl <| Znx <| Zrt <| Zre (.t rfl .n) hS [] 0 rfl rfl rfl rfl
theorem c280 (a b : Int) : Sp Tryz.prog 280 [.int .u32 a, .int .u32 b] [] fun K => K (.returned (.int .u32 (a.fdiv (2 ^ min (m31 b).toNat 32)))) [] := by
  refine Zen Tryz.func280 rfl rfl rfl fun e X Φ hS => Zsr <| Zv (ya rfl) <| Znl <| Znx <| Zsr <| Zv (ym rfl) <| Zv (ym rfl) <| Zk (c341 ..) [] rfl rfl <| Zq ?_
  refine Zv (ya rfl) <| Znl <| Znx <| Zrt <| Zre (.t rfl .n) hS [] 0 rfl rfl rfl rfl
theorem c342 (a b : Int) : Sp Tryz.prog 342 [.int .i32 a, .int .u32 b] [] fun K => K (.returned (.int .i32 (a.fdiv (2 ^ min (m31 b).toNat 32)))) [] := by
  have h1 := m31_0 b
  refine Zen Tryz.func342 rfl rfl rfl fun e X Φ hS => Zsr <| Zv (ya rfl) <| Znl <| Znx <| Zsr <| Zv (ym rfl) <| Zv (ym rfl) <| Zv (yand rfl rfl rfl) ?_
  refine Zv (yshr rfl rfl h1 rfl) <| Zv (ya rfl) <| Znl <| Znx <| Zrt <| Zre (.t rfl .n) hS [] 0 rfl rfl rfl rfl
theorem c282 (a b : Int) : Sp Tryz.prog 282 [.int .u32 a, .int .u32 b] [] fun K => K (.returned (.int .u32 (w32 ((s32 a).fdiv (2 ^ min (m31 b).toNat 32))))) [] := by
  refine Zen Tryz.func282 rfl rfl rfl fun e X Φ hS => Zsr <| Zv (ya rfl) <| Znl <| Znx <| Zsr <| Zv (ym rfl) <| Zv (ycv Tryz.underlying40 Tryz.underlying408 rfl rfl) <| Zv (ym rfl) <| Zk (c342 ..) [] rfl rfl ?_
  refine Zq <| Zv (ycv Tryz.underlying408 Tryz.underlying40 rfl rfl) <| Zv (ya rfl) <| Znl <| Znx <| Zrt <| Zre (.t rfl .n) hS [] 0 rfl rfl rfl rfl
theorem c343 (a : Int) : Sp Tryz.prog 343 [.int .u64 a] [] fun K => K (.returned (.agg #[.int .u32 (w32 a), .int .u32 (w32 (a.fdiv 4294967296))])) [] := by
  refine Zen Tryz.func343 rfl rfl rfl fun e X Φ hS => Zsr <| Ze (eal z411) fun b2 => Zw <| Znl <| Znx <| Zsr <| Zv (ym rfl) <| Zv (ycv Tryz.underlying330 Tryz.underlying40 rfl rfl) <| Zv (ym rfl) <| Zv (yshr rfl rfl (by decide) rfl) ?_
  refine Zv (ycv Tryz.underlying330 Tryz.underlying40 rfl rfl) <| Zv (yb l411 rfl) <| Ze (esw 0 rfl rfl rfl rfl rfl rfl rfl) <| Zw0 <| Znl <| Znx <| Zrt <| Zre (.wh 0 rfl rfl rfl .n) hS [] 1 rfl rfl rfl rfl
theorem c356 (a : Int) : Sp Tryz.prog 356 [.int .i32 a] [] fun K => K (.returned (.int .i64 (i64 a))) [] := by
  refine Zen Tryz.func356 rfl rfl rfl fun e X Φ hS => Zsr <| Zv (ya rfl) <| Znl <| Znx <| Zsr <| Zv (ym rfl) <| Zv (ycv Tryz.underlying408 Tryz.underlying2 rfl rfl) <| Zv (ya rfl) <| Znl ?_
  refine Znx <| Zrt <| Zre (.t rfl .n) hS [] 0 rfl rfl rfl rfl
def sgn (a : Int) : Int := i64 (s32 a)
theorem c344 (a : Int) : Sp Tryz.prog 344 [.int .u32 a] [] fun K => K (.returned (.int .i64 (sgn a))) [] := by
  refine Zen Tryz.func344 rfl rfl rfl fun e X Φ hS => Zsr <| Zv (ya rfl) <| Znl <| Znx <| Zsr <| Zv (ym rfl) <| Zv (ycv Tryz.underlying40 Tryz.underlying408 rfl rfl) <| Zk (c356 ..) [] rfl rfl <| Zq ?_
  refine Zv (ya rfl) <| Znl <| Znx <| Zrt <| Zre (.t rfl .n) hS [] 0 rfl rfl rfl rfl
theorem c346 (a : Int) : Sp Tryz.prog 346 [.int .u32 a] [] fun K => K (.returned (.int .i64 (i64 a))) [] := by
  refine Zen Tryz.func346 rfl rfl rfl fun e X Φ hS => Zsr <| Zv (ya rfl) <| Znl <| Znx <| Zsr <| Zv (ym rfl) <| Zv (ycv Tryz.underlying40 Tryz.underlying2 rfl rfl) <| Zv (ya rfl) <| Znl ?_
  refine Znx <| Zrt <| Zre (.t rfl .n) hS [] 0 rfl rfl rfl rfl
theorem c285 (a b : Int) : Sp Tryz.prog 285 [.int .u32 a, .int .u32 b] [] fun K => K (.returned (.int .u32 (w32 ((w64 (i64 (sgn a * sgn b))).fdiv 4294967296)))) [] := by
  refine Zen Tryz.func285 rfl rfl rfl fun e X Φ hS => Zsr <| Zv (ya rfl) <| Znl <| Znx <| Zsr <| Zv (ym rfl) <| Zk (c344 ..) [] rfl rfl <| Zq <| Zv (ym rfl) ?_
  refine Zk (c344 ..) [] rfl rfl <| Zq <| Zv (ymul rfl rfl rfl) <| Zv (ycv Tryz.underlying2 Tryz.underlying330 rfl rfl) <| Zk (c343 ..) [] rfl rfl <| Zq <| Zv (yix rfl rfl rfl Tryz.underlying411 rfl) <| Zv (ya rfl) <| Znl <| Znx ?_
  refine Zrt <| Zre (.t rfl .n) hS [] 0 rfl rfl rfl rfl
theorem c286 (a b : Int) : Sp Tryz.prog 286 [.int .u32 a, .int .u32 b] [] fun K => K (.returned (.int .u32 (w32 ((w64 (i64 (sgn a * i64 b))).fdiv 4294967296)))) [] := by
  refine Zen Tryz.func286 rfl rfl rfl fun e X Φ hS => Zsr <| Zv (ya rfl) <| Znl <| Znx <| Zsr <| Zv (ym rfl) <| Zk (c344 ..) [] rfl rfl <| Zq <| Zv (ym rfl) ?_
  refine Zv (ycv Tryz.underlying40 Tryz.underlying2 rfl rfl) <| Zv (ymul rfl rfl rfl) <| Zv (ycv Tryz.underlying2 Tryz.underlying330 rfl rfl) <| Zk (c343 ..) [] rfl rfl <| Zq <| Zv (yix rfl rfl rfl Tryz.underlying411 rfl) <| Zv (ya rfl) <| Znl <| Znx <| Zrt ?_
  refine Zre (.t rfl .n) hS [] 0 rfl rfl rfl rfl
theorem c287 (a b : Int) : Sp Tryz.prog 287 [.int .u32 a, .int .u32 b] [] fun K => K (.returned (.int .u32 (w32 ((w64 (w64 a * w64 b)).fdiv 4294967296)))) [] := by
  refine Zen Tryz.func287 rfl rfl rfl fun e X Φ hS => Zsr <| Zv (ya rfl) <| Znl <| Znx <| Zsr <| Zv (ym rfl) <| Zv (ycv Tryz.underlying40 Tryz.underlying330 rfl rfl) <| Zv (ym rfl) <| Zv (ycv Tryz.underlying40 Tryz.underlying330 rfl rfl) ?_
  refine Zv (ymul rfl rfl rfl) <| Zk (c343 ..) [] rfl rfl <| Zq <| Zv (yix rfl rfl rfl Tryz.underlying411 rfl) <| Zv (ya rfl) <| Znl <| Znx <| Zrt <| Zre (.t rfl .n) hS [] 0 rfl rfl rfl rfl
def quoF (rd : Int → Int) (a b : Int) : Int := if b = 0 then 4294967295 else w32 (i64 ((rd a).tdiv (rd b)))
def remF (rd : Int → Int) (a b : Int) : Int := if b = 0 then a else w32 ((rd a).tmod (rd b))
theorem c345 (a b : Int) (f : Nat) (rd : Int → Int) (hf : ∀ x, Sp Tryz.prog f [.int .u32 x] [] fun K => K (.returned (.int .i64 (rd x))) []) (hok : callOk Tryz.prog f = true) (hb : b ≠ 0 → rd b ≠ 0) : Sp Tryz.prog 345 [.int .u32 a, .int .u32 b, .func (.func f) #[] #[]] []
    fun K => K (.returned (.tuple #[.int .u32 (quoF rd a b), .int .u32 (remF rd a b)])) [] := by
  refine Zen Tryz.func345 rfl rfl rfl fun e X Φ hS => Zsr <| Zv (ya rfl) <| Zv (ya rfl) <| Znl <| Znx <| Zsq <| Zsr <| Zv (ym rfl) <| Zv (yeq rfl rfl) ?_
  refine Znl <| Znx <| Zif rfl (fun h11 => ?_) (fun h11 => ?_)
  refine Zsr <| Zv (ym rfl) <| Zv (ya rfl) <| Zv (ya rfl) <| Znl <| Znx <| Zrt <| Zr1 <| Zre (.t rfl (.t rfl .n)) hS [] 0 ?_ rfl rfl rfl
  rotate_left
  refine Zsk <| Znx <| Zsr <| Zv (ym rfl) <| Zv (ym rfl) ?_
  rotate_left
  · simp [pk, quoF, remF, h11]
  · refine Zkv (hf a) [] rfl rfl rfl rfl <| Zq <| Zv (ym rfl) <| Zv (ym rfl) ?_
    refine Zkv (hf b) [] rfl rfl rfl rfl <| Zq <| Zv (ya rfl) <| Zv (ya rfl) <| Znl <| Znx <| Zsq <| Zhd [] rfl rfl <| Zht 0 rfl (ym rfl) <| Zht 1 rfl (ym rfl) ?_
    refine Zht 2 rfl (yquo rfl rfl (by omega) rfl) <| Zht 3 rfl (ycv Tryz.underlying2 Tryz.underlying40 rfl rfl) <| Zht 4 rfl (ym rfl) <| Zht 5 rfl (ym rfl) <| Zht 6 rfl (yrem rfl rfl (by omega) rfl) <| Zht 7 rfl (ycv Tryz.underlying2 Tryz.underlying40 rfl rfl) <| Zht 8 rfl (ya rfl) <| Zht 9 rfl (ya rfl) <| Zhn (by kernel_rfl) <| Znx ?_
    refine Zrt <| Zre (.t rfl (.t rfl .n)) hS [] 0 ?_ rfl rfl rfl
    simp [pk, quoF, remF, h11]
theorem sgn_ne {b : Int} (hu : U32 b) (h : b ≠ 0) : sgn b ≠ 0 := by
  unfold sgn i64 s32 U32 at *
  simp [IntKind.wrap, IntKind.signed, IntKind.bits]
  omega
theorem i64_of {b : Int} (hu : U32 b) : i64 b = b := by unfold U32 at hu; exact i64w rfl (by omega)
theorem i64_ne {b : Int} (hu : U32 b) (h : b ≠ 0) : i64 b ≠ 0 := by rw [i64_of hu]; exact h
theorem c288 (a b : Int) (hu : U32 b) : Sp Tryz.prog 288 [.int .u32 a, .int .u32 b] [] fun K => K (.returned (.int .u32 (quoF sgn a b))) [] := by
  refine Zen Tryz.func288 rfl rfl rfl fun e X Φ hS => Zsr <| Zv (ya rfl) <| Znl <| Znx <| Zsr <| Zv (ym rfl) <| Zv (ym rfl) ?_
  refine Zk (c345 a b 344 sgn c344 (by kernel_rfl) (sgn_ne hu)) [] rfl rfl <| Zq <| Zv (ym rfl) <| Zv (yx rfl rfl) <| Zv (yx rfl rfl) <| Zv (ya rfl) <| Zv (ya rfl) <| Znl <| Znx <| Zsr ?_
  refine Zv (ym rfl) <| Zv (ya rfl) <| Znl <| Znx <| Zrt <| Zre (.t rfl .n) hS [] 0 rfl rfl rfl rfl
theorem c289 (a b : Int) (hu : U32 b) : Sp Tryz.prog 289 [.int .u32 a, .int .u32 b] [] fun K => K (.returned (.int .u32 (quoF i64 a b))) [] := by
  refine Zen Tryz.func289 rfl rfl rfl fun e X Φ hS => Zsr <| Zv (ya rfl) <| Znl <| Znx <| Zsr <| Zv (ym rfl) <| Zv (ym rfl) ?_
  refine Zk (c345 a b 346 i64 c346 (by kernel_rfl) (i64_ne hu)) [] rfl rfl <| Zq <| Zv (ym rfl) <| Zv (yx rfl rfl) <| Zv (yx rfl rfl) <| Zv (ya rfl) <| Zv (ya rfl) <| Znl <| Znx <| Zsr ?_
  refine Zv (ym rfl) <| Zv (ya rfl) <| Znl <| Znx <| Zrt <| Zre (.t rfl .n) hS [] 0 rfl rfl rfl rfl
theorem c290 (a b : Int) (hu : U32 b) : Sp Tryz.prog 290 [.int .u32 a, .int .u32 b] [] fun K => K (.returned (.int .u32 (remF sgn a b))) [] := by
  refine Zen Tryz.func290 rfl rfl rfl fun e X Φ hS => Zsr <| Zv (ya rfl) <| Znl <| Znx <| Zsr <| Zv (ym rfl) <| Zv (ym rfl) ?_
  refine Zk (c345 a b 344 sgn c344 (by kernel_rfl) (sgn_ne hu)) [] rfl rfl <| Zq <| Zv (ym rfl) <| Zv (yx rfl rfl) <| Zv (yx rfl rfl) <| Zv (ya rfl) <| Zv (ya rfl) <| Znl <| Znx <| Zsr ?_
  refine Zv (ym rfl) <| Zv (ya rfl) <| Znl <| Znx <| Zrt <| Zre (.t rfl .n) hS [] 0 rfl rfl rfl rfl
theorem c291 (a b : Int) (hu : U32 b) : Sp Tryz.prog 291 [.int .u32 a, .int .u32 b] [] fun K => K (.returned (.int .u32 (remF i64 a b))) [] := by
  refine Zen Tryz.func291 rfl rfl rfl fun e X Φ hS => Zsr <| Zv (ya rfl) <| Znl <| Znx <| Zsr <| Zv (ym rfl) <| Zv (ym rfl) ?_
  refine Zk (c345 a b 346 i64 c346 (by kernel_rfl) (i64_ne hu)) [] rfl rfl <| Zq <| Zv (ym rfl) <| Zv (yx rfl rfl) <| Zv (yx rfl rfl) <| Zv (ya rfl) <| Zv (ya rfl) <| Znl <| Znx <| Zsr ?_
  refine Zv (ym rfl) <| Zv (ya rfl) <| Znl <| Znx <| Zrt <| Zre (.t rfl .n) hS [] 0 rfl rfl rfl rfl
def truF (b : Bool) : Int := if b then 1 else 0
theorem c244 (b : Bool) : Sp Tryz.prog 244 [.bool b] [] fun K => K (.returned (.int .u32 (truF b))) [] := by
  cases b
  · refine Zen Tryz.func244 rfl rfl rfl fun e X Φ hS => Zsr <| Zv (ya rfl) <| Znl <| Znx <| Zsq <| Zsr <| Zv (ym rfl) <| Znl <| Znx ?_
    refine Zcf rfl <| Zsk <| Znx <| Zsr <| Zv (ya rfl) <| Znl <| Znx <| Zrt <| Zre (.t rfl .n) hS [] 0 rfl rfl rfl rfl
  · refine Zen Tryz.func244 rfl rfl rfl fun e X Φ hS => Zsr <| Zv (ya rfl) <| Znl <| Znx <| Zsq <| Zsr <| Zv (ym rfl) <| Znl <| Znx ?_
    refine Zct rfl <| Zsr <| Zv (ya rfl) <| Znl <| Znx <| Zrt <| Zr1 <| Zre (.t rfl .n) hS [] 0 rfl rfl rfl rfl
def lowF (n w : Int) : Int := if w = 1 then w32 (BitVec.ofInt 32 n &&& BitVec.ofInt 32 255).toNat else if w = 2 then w32 (BitVec.ofInt 32 n &&& BitVec.ofInt 32 65535).toNat else n
theorem c240 (n w : Int) : Sp Tryz.prog 240 [.int .u32 n, .int .i64 w] [] fun K => K (.returned (.int .u32 (lowF n w))) [] := by
  refine Zen Tryz.func240 rfl rfl rfl fun e X Φ hS => Zsr <| Zv (ya rfl) <| Znl <| Znx <| Zsq <| Zsr <| Zv (ym rfl) <| Znl <| Znx ?_
  refine Zbl <| Zsr <| Zv (yeq rfl rfl) <| Zv (ya rfl) <| Znl <| Znx <| Zif rfl (fun h6 => ?_) (fun h6 => ?_)
  refine Zsr <| Zv (ym rfl) <| Zv (yand rfl rfl rfl) <| Zv (ya rfl) <| Znl <| Znx <| Zrt <| Zr2 <| Zr1 <| Zre (.t rfl .n) hS [] 0 ?_ rfl rfl rfl
  rotate_left
  refine Zsr <| Zv (yeq rfl rfl) <| Zv (ya rfl) <| Znl <| Znx <| Zif rfl (fun h10 => ?_) (fun h10 => ?_)
  refine Zsr <| Zv (ym rfl) <| Zv (yand rfl rfl rfl) <| Zv (ya rfl) <| Znl <| Znx <| Zrt <| Zr2 <| Zr1 <| Zre (.t rfl .n) hS [] 0 ?_ rfl rfl rfl
  rotate_left
  refine Zsk <| Zxn <| Znx <| Zsr <| Zv (ym rfl) <| Zv (ya rfl) <| Znl <| Znx <| Zrt <| Zre (.t rfl .n) hS [] 0 ?_ rfl rfl rfl
  rotate_left
  · simp only [pk, lowF, h6, if_true]; rfl
  · simp only [pk, lowF, h10]; rfl
  · simp [pk, lowF, h6, h10]
def stopV (why : Int) : Value := .iface 328 (.agg #[.int .i64 why])
def panV (v : Value) : List PanicEntry := [{ v, recovered := false }]
theorem c206 (b : Bool) (why : Int) : Sp Tryz.prog 206 [.bool b, .int .i64 why] [] fun K => (b = true → K (.returned (.tuple #[])) []) ∧ (b = false → K (.panicked (panV (stopV why))) []) := by
  cases b
  · refine Zen Tryz.func206 rfl rfl rfl fun e X Φ hS => Zsr <| Zv (ym rfl) <| Zv (ynot rfl) <| Znl <| Znx <| Zct rfl <| Zrg <| Zv (ym rfl) <| Zv (yb l328 rfl) ?_
    refine Zv (ymi Tryz.underlying328 rfl rfl) <| Zpn rfl ?_
    refine Zpe (hS.2 rfl) [] 0 rfl rfl
  · refine Zen Tryz.func206 rfl rfl rfl fun e X Φ hS => Zsr <| Zv (ym rfl) <| Zv (ynot rfl) <| Znl <| Znx <| Zcf rfl <| Zsk <| Zee ?_
    refine Zre .n (hS.1 rfl) [] 0 rfl rfl rfl rfl
theorem c204 (h : Hrt) (ok : h.Ok := by assumption) : Sp Tryz.prog 204 [.agg (hrtE.arr h)] [] fun K => K (.returned (.int .i64 0)) [] := by
  have h1 := ok.id0
  have h2 := ok.id1
  have h3 := ok.r0
  have h4 := ok.c0
  have h5 := ok.c1
  refine Zen Tryz.func204 rfl rfl rfl fun e X Φ hS => Zsr <| Ze (ebxE rfl) fun b1 => Zw <| Zv (ya rfl) <| Znl <| Znx <| Zsq <| Zsr <| Zv (yf 0 rfl) <| Zv (yd 0 rfl rfl rfl) ?_
  refine Zv (ylt rfl rfl) <| Zv (ym rfl) <| Zg' rfl rfl (decide_eq_false (by omega)) <| Zv (yf 0 rfl) <| Zg' rfl rfl (decide_eq_false (by omega)) <| Zv (yd 0 rfl rfl rfl) <| Zg' rfl rfl (decide_eq_false (by omega)) <| Zv (yge rfl rfl) <| Zv (ypf' rfl (decide_eq_false (by omega)) rfl) <| Zv (ym rfl) ?_
  refine Zg' rfl rfl (decide_eq_false (by omega)) <| Zv (yf 2 rfl) <| Zg' rfl rfl (decide_eq_false (by omega)) <| Zv (yai (i := 0) Tryz.underlying57 rfl rfl (by decide)) <| Zg' rfl rfl (decide_eq_false (by omega)) <| Zv (yd 0 rfl rfl (nt_reg _ _ (by decide))) <| Zg' rfl rfl (decide_eq_false (by omega)) <| Zv (yne rfl rfl) <| Zv (ypf' rfl (decide_eq_false (by omega)) rfl) <| Zv (ym rfl) ?_
  refine Zg' rfl rfl (decide_eq_false (by omega)) <| Zv (yf 34 rfl) <| Zg' rfl rfl (decide_eq_false (by omega)) <| Zv (yd 0 rfl rfl (nt_cause _)) <| Zg' rfl rfl (decide_eq_false (by omega)) <| Zv (ylt rfl rfl) <| Zv (ypf' rfl (decide_eq_false (by omega)) rfl) <| Zv (ym rfl) <| Zg' rfl rfl (decide_eq_false (by omega)) <| Zv (yf 34 rfl) ?_
  refine Zg' rfl rfl (decide_eq_false (by omega)) <| Zv (yd 0 rfl rfl (nt_cause _)) <| Zg' rfl rfl (decide_eq_false (by omega)) <| Zv (ygt rfl rfl) <| Zv (ypf' rfl (decide_eq_false (by omega)) rfl) <| Znl <| Znx <| Zcf' rfl (decide_eq_false (by omega)) <| Zsk <| Znx ?_
  refine Zsr <| Zv (ya rfl) <| Znl <| Znx <| Zrt <| Zre (.t rfl .n) hS [] 1 rfl rfl rfl rfl
end Go.Proofs.YtpfijldkkfiooaaGreatDoor
namespace Go.Proofs.YtpfijldkkfiooaaGreatDoor
set_option maxRecDepth 4000
def andF (a b : Int) : Int := w32 (BitVec.ofInt 32 a &&& BitVec.ofInt 32 b).toNat
def orF (a b : Int) : Int := w32 (BitVec.ofInt 32 a ||| BitVec.ofInt 32 b).toNat
def xorF (a b : Int) : Int := w32 (BitVec.ofInt 32 a ^^^ BitVec.ofInt 32 b).toNat
def shlF (a b : Int) : Int := w32 (a * 2 ^ min (m31 b).toNat 32)
def shrF (a b : Int) : Int := a.fdiv (2 ^ min (m31 b).toNat 32)
def sarF (a b : Int) : Int := w32 ((s32 a).fdiv (2 ^ min (m31 b).toNat 32))
theorem c266 (a b : Int) : Sp Tryz.prog 266 [.int .u32 a, .int .u32 b] [] fun K => K (.returned (.bool (decide (a = b)))) [] := by
  refine Zen Tryz.func266 rfl rfl rfl fun e X Φ hS => Zsr <| Zv (ya rfl) <| Znl <| Znx <| Zsr <| Zv (ym rfl) <| Zv (ym rfl) <| Zv (yeq rfl rfl) <| Zv (ya rfl) ?_
  refine Znl <| Znx <| Zrt <| Zre (.t rfl .n) hS [] 0 rfl rfl rfl rfl
theorem c267 (a b : Int) : Sp Tryz.prog 267 [.int .u32 a, .int .u32 b] [] fun K => K (.returned (.bool (decide (a ≠ b)))) [] := by
  refine Zen Tryz.func267 rfl rfl rfl fun e X Φ hS => Zsr <| Zv (ya rfl) <| Znl <| Znx <| Zsr <| Zv (ym rfl) <| Zv (ym rfl) <| Zv (yne rfl rfl) <| Zv (ya rfl) ?_
  refine Znl <| Znx <| Zrt <| Zre (.t rfl .n) hS [] 0 rfl rfl rfl rfl
theorem c270 (a b : Int) : Sp Tryz.prog 270 [.int .u32 a, .int .u32 b] [] fun K => K (.returned (.bool (!decide (s32 a < s32 b)))) [] := by
  refine Zen Tryz.func270 rfl rfl rfl fun e X Φ hS => Zsr <| Zv (ya rfl) <| Znl <| Znx <| Zsr <| Zv (ym rfl) <| Zv (ym rfl) <| Zk (c268 ..) [] rfl rfl <| Zq ?_
  refine Zv (ynot rfl) <| Zv (ya rfl) <| Znl <| Znx <| Zrt <| Zre (.t rfl .n) hS [] 0 rfl rfl rfl rfl
theorem c271 (a b : Int) : Sp Tryz.prog 271 [.int .u32 a, .int .u32 b] [] fun K => K (.returned (.bool (!decide (a < b)))) [] := by
  refine Zen Tryz.func271 rfl rfl rfl fun e X Φ hS => Zsr <| Zv (ya rfl) <| Znl <| Znx <| Zsr <| Zv (ym rfl) <| Zv (ym rfl) <| Zk (c269 ..) [] rfl rfl <| Zq ?_
  refine Zv (ynot rfl) <| Zv (ya rfl) <| Znl <| Znx <| Zrt <| Zre (.t rfl .n) hS [] 0 rfl rfl rfl rfl
theorem c272 (a b : Int) : Sp Tryz.prog 272 [.int .u32 a, .int .u32 b] [] fun K => K (.returned (.int .u32 (truF (decide (s32 a < s32 b))))) [] := by
  refine Zen Tryz.func272 rfl rfl rfl fun e X Φ hS => Zsr <| Zv (ya rfl) <| Znl <| Znx <| Zsr <| Zv (ym rfl) <| Zv (ym rfl) <| Zk (c268 ..) [] rfl rfl <| Zq ?_
  refine Zk (c244 ..) [] rfl rfl <| Zq <| Zv (ya rfl) <| Znl <| Znx <| Zrt <| Zre (.t rfl .n) hS [] 0 rfl rfl rfl rfl
theorem c273 (a b : Int) : Sp Tryz.prog 273 [.int .u32 a, .int .u32 b] [] fun K => K (.returned (.int .u32 (truF (decide (a < b))))) [] := by
  refine Zen Tryz.func273 rfl rfl rfl fun e X Φ hS => Zsr <| Zv (ya rfl) <| Znl <| Znx <| Zsr <| Zv (ym rfl) <| Zv (ym rfl) <| Zk (c269 ..) [] rfl rfl <| Zq ?_
  refine Zk (c244 ..) [] rfl rfl <| Zq <| Zv (ya rfl) <| Znl <| Znx <| Zrt <| Zre (.t rfl .n) hS [] 0 rfl rfl rfl rfl
theorem c274 (a b : Int) : Sp Tryz.prog 274 [.int .u32 a, .int .u32 b] [] fun K => K (.returned (.int .u32 (xorF a b))) [] := by
  refine Zen Tryz.func274 rfl rfl rfl fun e X Φ hS => Zsr <| Zv (ya rfl) <| Znl <| Znx <| Zsr <| Zv (ym rfl) <| Zv (ym rfl) <| Zv (yxor rfl rfl rfl) <| Zv (ya rfl) ?_
  refine Znl <| Znx <| Zrt <| Zre (.t rfl .n) hS [] 0 rfl rfl rfl rfl
theorem c275 (a b : Int) : Sp Tryz.prog 275 [.int .u32 a, .int .u32 b] [] fun K => K (.returned (.int .u32 (orF a b))) [] := by
  refine Zen Tryz.func275 rfl rfl rfl fun e X Φ hS => Zsr <| Zv (ya rfl) <| Znl <| Znx <| Zsr <| Zv (ym rfl) <| Zv (ym rfl) <| Zv (yor rfl rfl rfl) <| Zv (ya rfl) ?_
  refine Znl <| Znx <| Zrt <| Zre (.t rfl .n) hS [] 0 rfl rfl rfl rfl
theorem c276 (a b : Int) : Sp Tryz.prog 276 [.int .u32 a, .int .u32 b] [] fun K => K (.returned (.int .u32 (andF a b))) [] := by
  refine Zen Tryz.func276 rfl rfl rfl fun e X Φ hS => Zsr <| Zv (ya rfl) <| Znl <| Znx <| Zsr <| Zv (ym rfl) <| Zv (ym rfl) <| Zv (yand rfl rfl rfl) <| Zv (ya rfl) ?_
  refine Znl <| Znx <| Zrt <| Zre (.t rfl .n) hS [] 0 rfl rfl rfl rfl
theorem c277 (a b : Int) : Sp Tryz.prog 277 [.int .u32 a, .int .u32 b] [] fun K => K (.returned (.int .u32 (shlF a (andF b 31)))) [] := by
  refine Zen Tryz.func277 rfl rfl rfl fun e X Φ hS => Zsr <| Zv (ya rfl) <| Znl <| Znx <| Zsr <| Zv (ym rfl) <| Zv (ym rfl) <| Zv (yand rfl rfl rfl) <| Zk (c278 ..) [] rfl rfl ?_
  refine Zq <| Zv (ya rfl) <| Znl <| Znx <| Zrt <| Zre (.t rfl .n) hS [] 0 rfl rfl rfl rfl
theorem c279 (a b : Int) : Sp Tryz.prog 279 [.int .u32 a, .int .u32 b] [] fun K => K (.returned (.int .u32 (shrF a (andF b 31)))) [] := by
  refine Zen Tryz.func279 rfl rfl rfl fun e X Φ hS => Zsr <| Zv (ya rfl) <| Znl <| Znx <| Zsr <| Zv (ym rfl) <| Zv (ym rfl) <| Zv (yand rfl rfl rfl) <| Zk (c280 ..) [] rfl rfl ?_
  refine Zq <| Zv (ya rfl) <| Znl <| Znx <| Zrt <| Zre (.t rfl .n) hS [] 0 rfl rfl rfl rfl
theorem c281 (a b : Int) : Sp Tryz.prog 281 [.int .u32 a, .int .u32 b] [] fun K => K (.returned (.int .u32 (sarF a (andF b 31)))) [] := by
  refine Zen Tryz.func281 rfl rfl rfl fun e X Φ hS => Zsr <| Zv (ya rfl) <| Znl <| Znx <| Zsr <| Zv (ym rfl) <| Zv (ym rfl) <| Zv (yand rfl rfl rfl) <| Zk (c282 ..) [] rfl rfl ?_
  refine Zq <| Zv (ya rfl) <| Znl <| Znx <| Zrt <| Zre (.t rfl .n) hS [] 0 rfl rfl rfl rfl
def fnV (f : Nat) : Value := .func (.func f) #[] #[]
def widL : List (Int × Value) := [(18, .int .i64 4), (17, .int .i64 2), (16, .int .i64 1), (15, .int .i64 2), (14, .int .i64 1), (13, .int .i64 4), (12, .int .i64 2), (11, .int .i64 1)]
theorem c238 : Sp Tryz.prog 238 [] [] fun K => ∀ r, K (.returned (.map (some r))) [mapC .i64 r widL] := by
  refine Zen Tryz.func238 rfl rfl rfl fun e X Φ hS => Zsr <| Zv (ya rfl) <| Znl <| Znx <| Zsr <| Ze (emk .i64) fun r1 => Zw <| Ze (ein 0 rfl rfl rfl rfl rfl rfl Tryz.underlying364 Tryz.underlying42) <| Zw0 <| Ze (ein 0 rfl rfl rfl rfl rfl rfl Tryz.underlying364 Tryz.underlying42) <| Zw0 <| Ze (ein 0 rfl rfl rfl rfl rfl rfl Tryz.underlying364 Tryz.underlying42) <| Zw0 ?_
  refine Ze (ein 0 rfl rfl rfl rfl rfl rfl Tryz.underlying364 Tryz.underlying42) <| Zw0 <| Ze (ein 0 rfl rfl rfl rfl rfl rfl Tryz.underlying364 Tryz.underlying42) <| Zw0 <| Ze (ein 0 rfl rfl rfl rfl rfl rfl Tryz.underlying364 Tryz.underlying42) <| Zw0 <| Ze (ein 0 rfl rfl rfl rfl rfl rfl Tryz.underlying364 Tryz.underlying42) <| Zw0 <| Ze (ein 0 rfl rfl rfl rfl rfl rfl Tryz.underlying364 Tryz.underlying42) <| Zw0 <| Zv (ym rfl) <| Zv (ya rfl) <| Znl <| Znx <| Zrt ?_
  refine Zre (.t rfl .n) (hS r1) [0] 0 rfl rfl rfl rfl
def widF (op : Int) : Int := match lk op widL with | some (.int _ n) => n | _ => 0
theorem wid_lk (op : Int) : (lk op widL).getD (.int .i64 0) = .int .i64 (widF op) := by
  unfold widF
  cases h : lk op widL with
  | none => rfl
  | some v =>
    have := lk_mem h
    simp only [widL, List.mem_cons, Prod.mk.injEq, List.not_mem_nil, or_false] at this
    rcases this with ⟨_, rfl⟩ | ⟨_, rfl⟩ | ⟨_, rfl⟩ | ⟨_, rfl⟩ | ⟨_, rfl⟩ | ⟨_, rfl⟩ | ⟨_, rfl⟩ | ⟨_, rfl⟩ <;> rfl
def takT : List (Int × Nat × (Int → Int → Bool)) := [(10, 271, fun a b => !decide (a < b)), (8, 270, fun a b => !decide (s32 a < s32 b)), (9, 269, fun a b => decide (a < b)), (7, 268, fun a b => decide (s32 a < s32 b)), (6, 267, fun a b => decide (a ≠ b)), (5, 266, fun a b => decide (a = b))]
def fnL {α : Type} (T : List (Int × Nat × α)) : List (Int × Value) := T.map fun p => (p.1, fnV p.2.1)
theorem c241 : Sp Tryz.prog 241 [] [] fun K => ∀ r, K (.returned (.map (some r))) [mapC .i64 r (fnL takT)] := by
  refine Zen Tryz.func241 rfl rfl rfl fun e X Φ hS => Zsr <| Zv (ya rfl) <| Znl <| Znx <| Zsr <| Ze (emk .i64) fun r1 => Zw <| Ze (ein 0 rfl rfl rfl rfl rfl rfl Tryz.underlying368 Tryz.underlying42) <| Zw0 <| Ze (ein 0 rfl rfl rfl rfl rfl rfl Tryz.underlying368 Tryz.underlying42) <| Zw0 <| Ze (ein 0 rfl rfl rfl rfl rfl rfl Tryz.underlying368 Tryz.underlying42) <| Zw0 ?_
  refine Ze (ein 0 rfl rfl rfl rfl rfl rfl Tryz.underlying368 Tryz.underlying42) <| Zw0 <| Ze (ein 0 rfl rfl rfl rfl rfl rfl Tryz.underlying368 Tryz.underlying42) <| Zw0 <| Ze (ein 0 rfl rfl rfl rfl rfl rfl Tryz.underlying368 Tryz.underlying42) <| Zw0 <| Zv (ym rfl) <| Zv (ya rfl) <| Znl <| Znx <| Zrt ?_
  refine Zre (.t rfl .n) (hS r1) [0] 0 rfl rfl rfl rfl
def fd {α : Type} (n : Int) : List (Int × Nat × α) → Option (Nat × α)
  | [] => none
  | (m, p) :: l => match fd n l with | some q => some q | none => bif n == m then some p else none
theorem lk_fd {α : Type} (n : Int) : ∀ (T : List (Int × Nat × α)), lk n (fnL T) = (fd n T).map fun p => fnV p.1
  | [] => rfl
  | (m, p) :: l => by
    show (match lk n (fnL l) with | some u => some u | none => bif n == m then some (fnV p.1) else none) = _
    unfold fd
    rw [lk_fd n l]
    cases fd n l with
    | some q => rfl
    | none => cases n == m <;> rfl
theorem fd_mem {α : Type} {n : Int} {p : Nat × α} : ∀ {T : List (Int × Nat × α)}, fd n T = some p → (n, p) ∈ T
  | [], h => by cases h
  | (m, q) :: l, h => by
    unfold fd at h
    cases hl : fd n l with
    | some q' =>
      rw [hl] at h
      cases h
      exact List.mem_cons_of_mem _ (fd_mem hl)
    | none =>
      rw [hl] at h
      simp only [] at h
      cases hm : n == m with
      | true =>
        rw [hm] at h
        have : n = m := by simpa using hm
        cases h
        rw [this]
        exact List.mem_cons_self
      | false => rw [hm] at h; cases h
theorem tak_sp {op : Int} {p : Nat × (Int → Int → Bool)} (h : fd op takT = some p) : (∀ a b : Int, Sp Tryz.prog p.1 [.int .u32 a, .int .u32 b] [] fun K => K (.returned (.bool (p.2 a b))) []) ∧ callOk Tryz.prog p.1 = true := by
  have := fd_mem h
  simp only [takT, List.mem_cons, Prod.mk.injEq, List.not_mem_nil, or_false] at this
  rcases this with ⟨_, rfl⟩ | ⟨_, rfl⟩ | ⟨_, rfl⟩ | ⟨_, rfl⟩ | ⟨_, rfl⟩ | ⟨_, rfl⟩
  all_goals first | exact ⟨c266, by kernel_rfl⟩ | exact ⟨c267, by kernel_rfl⟩ | exact ⟨c268, by kernel_rfl⟩ | exact ⟨c269, by kernel_rfl⟩ | exact ⟨c270, by kernel_rfl⟩ | exact ⟨c271, by kernel_rfl⟩
def ltF (a b : Int) : Int := truF (decide (s32 a < s32 b))
def ltuF (a b : Int) : Int := truF (decide (a < b))
def addF (a b : Int) : Int := w32 (a + b)
def subF (a b : Int) : Int := w32 (a - b)
def mulF (a b : Int) : Int := w32 (a * b)
def mulhF (a b : Int) : Int := w32 ((w64 (i64 (sgn a * sgn b))).fdiv 4294967296)
def mulhsuF (a b : Int) : Int := w32 ((w64 (i64 (sgn a * i64 b))).fdiv 4294967296)
def mulhuF (a b : Int) : Int := w32 ((w64 (w64 a * w64 b)).fdiv 4294967296)
def sl31 (a b : Int) : Int := shlF a (andF b 31)
def sr31 (a b : Int) : Int := shrF a (andF b 31)
def sa31 (a b : Int) : Int := sarF a (andF b 31)
def twoT : List (Int × Nat × (Int → Int → Int)) := [(47, 291, remF i64), (46, 290, remF sgn), (45, 289, quoF i64), (44, 288, quoF sgn), (43, 287, mulhuF), (42, 286, mulhsuF), (41, 285, mulhF), (40, 284, mulF), (37, 276, andF), (36, 275, orF), (35, 281, sa31), (34, 279, sr31), (33, 274, xorF), (32, 273, ltuF), (31, 272, ltF), (30, 277, sl31), (29, 283, subF), (28, 239, addF),
  (27, 281, sa31), (26, 279, sr31), (25, 277, sl31), (24, 276, andF), (23, 275, orF), (22, 274, xorF), (21, 273, ltuF), (20, 272, ltF), (19, 239, addF)]
theorem c242 : Sp Tryz.prog 242 [] [] fun K => ∀ r, K (.returned (.map (some r))) [mapC .i64 r (fnL twoT)] := by
  refine Zen Tryz.func242 rfl rfl rfl fun e X Φ hS => Zsr <| Zv (ya rfl) <| Znl <| Znx <| Zsr <| Zv (ya rfl) <| Znl <| Znx <| Zsr ?_
  refine Zv (ya rfl) <| Znl <| Znx <| Zsr <| Zv (ya rfl) <| Zv (ya rfl) <| Zv (ya rfl) <| Znl <| Znx <| Zsr ?_
  refine Zv (ya rfl) <| Znl <| Znx <| Zsr <| Zv (ya rfl) <| Znl <| Znx <| Zsr <| Zv (ya rfl) <| Znl ?_
  refine Znx <| Zsr <| Ze (emk .i64) fun r9 => Zw <| Ze (ein 0 rfl rfl rfl rfl rfl rfl Tryz.underlying371 Tryz.underlying42) <| Zw0 <| Zv (ym rfl) <| Ze (ein 0 rfl rfl rfl rfl rfl rfl Tryz.underlying371 Tryz.underlying42) <| Zw0 <| Zv (ym rfl) <| Ze (ein 0 rfl rfl rfl rfl rfl rfl Tryz.underlying371 Tryz.underlying42) <| Zw0 <| Zv (ym rfl) <| Ze (ein 0 rfl rfl rfl rfl rfl rfl Tryz.underlying371 Tryz.underlying42) <| Zw0 ?_
  refine Zv (ym rfl) <| Ze (ein 0 rfl rfl rfl rfl rfl rfl Tryz.underlying371 Tryz.underlying42) <| Zw0 <| Zv (ym rfl) <| Ze (ein 0 rfl rfl rfl rfl rfl rfl Tryz.underlying371 Tryz.underlying42) <| Zw0 <| Zv (ym rfl) <| Ze (ein 0 rfl rfl rfl rfl rfl rfl Tryz.underlying371 Tryz.underlying42) <| Zw0 <| Zv (ym rfl) <| Ze (ein 0 rfl rfl rfl rfl rfl rfl Tryz.underlying371 Tryz.underlying42) <| Zw0 <| Zv (ym rfl) <| Ze (ein 0 rfl rfl rfl rfl rfl rfl Tryz.underlying371 Tryz.underlying42) <| Zw0 ?_
  refine Ze (ein 0 rfl rfl rfl rfl rfl rfl Tryz.underlying371 Tryz.underlying42) <| Zw0 <| Ze (ein 0 rfl rfl rfl rfl rfl rfl Tryz.underlying371 Tryz.underlying42) <| Zw0 <| Zv (ym rfl) <| Ze (ein 0 rfl rfl rfl rfl rfl rfl Tryz.underlying371 Tryz.underlying42) <| Zw0 <| Zv (ym rfl) <| Ze (ein 0 rfl rfl rfl rfl rfl rfl Tryz.underlying371 Tryz.underlying42) <| Zw0 <| Zv (ym rfl) <| Ze (ein 0 rfl rfl rfl rfl rfl rfl Tryz.underlying371 Tryz.underlying42) <| Zw0 <| Zv (ym rfl) <| Ze (ein 0 rfl rfl rfl rfl rfl rfl Tryz.underlying371 Tryz.underlying42) <| Zw0 ?_
  refine Zv (ym rfl) <| Ze (ein 0 rfl rfl rfl rfl rfl rfl Tryz.underlying371 Tryz.underlying42) <| Zw0 <| Zv (ym rfl) <| Ze (ein 0 rfl rfl rfl rfl rfl rfl Tryz.underlying371 Tryz.underlying42) <| Zw0 <| Zv (ym rfl) <| Ze (ein 0 rfl rfl rfl rfl rfl rfl Tryz.underlying371 Tryz.underlying42) <| Zw0 <| Zv (ym rfl) <| Ze (ein 0 rfl rfl rfl rfl rfl rfl Tryz.underlying371 Tryz.underlying42) <| Zw0 <| Ze (ein 0 rfl rfl rfl rfl rfl rfl Tryz.underlying371 Tryz.underlying42) <| Zw0 <| Ze (ein 0 rfl rfl rfl rfl rfl rfl Tryz.underlying371 Tryz.underlying42) <| Zw0 ?_
  refine Ze (ein 0 rfl rfl rfl rfl rfl rfl Tryz.underlying371 Tryz.underlying42) <| Zw0 <| Ze (ein 0 rfl rfl rfl rfl rfl rfl Tryz.underlying371 Tryz.underlying42) <| Zw0 <| Ze (ein 0 rfl rfl rfl rfl rfl rfl Tryz.underlying371 Tryz.underlying42) <| Zw0 <| Ze (ein 0 rfl rfl rfl rfl rfl rfl Tryz.underlying371 Tryz.underlying42) <| Zw0 <| Ze (ein 0 rfl rfl rfl rfl rfl rfl Tryz.underlying371 Tryz.underlying42) <| Zw0 <| Ze (ein 0 rfl rfl rfl rfl rfl rfl Tryz.underlying371 Tryz.underlying42) <| Zw0 <| Zv (ym rfl) <| Zv (ya rfl) <| Znl <| Znx ?_
  refine Zrt ?_
  refine Zre (.t rfl .n) (hS r9) [0] 0 rfl rfl rfl rfl
theorem two_sp {op : Int} {p : Nat × (Int → Int → Int)} (h : fd op twoT = some p) : (∀ a b : Int, U32 b → Sp Tryz.prog p.1 [.int .u32 a, .int .u32 b] [] fun K => K (.returned (.int .u32 (p.2 a b))) []) ∧ callOk Tryz.prog p.1 = true := by
  have := fd_mem h
  simp only [twoT, List.mem_cons, Prod.mk.injEq, List.not_mem_nil, or_false] at this
  obtain ⟨f, F⟩ := p
  simp only [Prod.mk.injEq] at this
  rcases this with ⟨_, rfl, rfl⟩ | ⟨_, rfl, rfl⟩ | ⟨_, rfl, rfl⟩ | ⟨_, rfl, rfl⟩ | ⟨_, rfl, rfl⟩ | ⟨_, rfl, rfl⟩ | ⟨_, rfl, rfl⟩ | ⟨_, rfl, rfl⟩ | ⟨_, rfl, rfl⟩ | ⟨_, rfl, rfl⟩ | ⟨_, rfl, rfl⟩ | ⟨_, rfl, rfl⟩ | ⟨_, rfl, rfl⟩ | ⟨_, rfl, rfl⟩ | ⟨_, rfl, rfl⟩ | ⟨_, rfl, rfl⟩ | ⟨_, rfl, rfl⟩ | ⟨_, rfl, rfl⟩ | ⟨_, rfl, rfl⟩ | ⟨_, rfl, rfl⟩ | ⟨_, rfl, rfl⟩ | ⟨_, rfl, rfl⟩ | ⟨_, rfl, rfl⟩ | ⟨_, rfl, rfl⟩ | ⟨_, rfl, rfl⟩ | ⟨_, rfl, rfl⟩ | ⟨_, rfl, rfl⟩
  · exact ⟨c291, by kernel_rfl⟩
  · exact ⟨c290, by kernel_rfl⟩
  · exact ⟨c289, by kernel_rfl⟩
  · exact ⟨c288, by kernel_rfl⟩
  · exact ⟨fun a b _ => c287 a b, by kernel_rfl⟩
  · exact ⟨fun a b _ => c286 a b, by kernel_rfl⟩
  · exact ⟨fun a b _ => c285 a b, by kernel_rfl⟩
  · exact ⟨fun a b _ => c284 a b, by kernel_rfl⟩
  · exact ⟨fun a b _ => c276 a b, by kernel_rfl⟩
  · exact ⟨fun a b _ => c275 a b, by kernel_rfl⟩
  · exact ⟨fun a b _ => c281 a b, by kernel_rfl⟩
  · exact ⟨fun a b _ => c279 a b, by kernel_rfl⟩
  · exact ⟨fun a b _ => c274 a b, by kernel_rfl⟩
  · exact ⟨fun a b _ => c273 a b, by kernel_rfl⟩
  · exact ⟨fun a b _ => c272 a b, by kernel_rfl⟩
  · exact ⟨fun a b _ => c277 a b, by kernel_rfl⟩
  · exact ⟨fun a b _ => c283 a b, by kernel_rfl⟩
  · exact ⟨fun a b _ => c239 a b, by kernel_rfl⟩
  · exact ⟨fun a b _ => c281 a b, by kernel_rfl⟩
  · exact ⟨fun a b _ => c279 a b, by kernel_rfl⟩
  · exact ⟨fun a b _ => c277 a b, by kernel_rfl⟩
  · exact ⟨fun a b _ => c276 a b, by kernel_rfl⟩
  · exact ⟨fun a b _ => c275 a b, by kernel_rfl⟩
  · exact ⟨fun a b _ => c274 a b, by kernel_rfl⟩
  · exact ⟨fun a b _ => c273 a b, by kernel_rfl⟩
  · exact ⟨fun a b _ => c272 a b, by kernel_rfl⟩
  · exact ⟨fun a b _ => c239 a b, by kernel_rfl⟩
end Go.Proofs.YtpfijldkkfiooaaGreatDoor
namespace Go.Proofs.YtpfijldkkfiooaaGreatDoor
set_option maxRecDepth 4000
def accF (h : Hrt) (i : Ins) : Acc :=
  if i.op = 38 then ⟨6, 0, 0, i.imm, 0, false, false⟩
  else if 11 ≤ i.op ∧ i.op ≤ 15 then ⟨1, w32 (h.reg i.rs1 + i.imm), widF i.op, 0, 0, false, false⟩
  else if 16 ≤ i.op ∧ i.op ≤ 18 then ⟨2, w32 (h.reg i.rs1 + i.imm), widF i.op, lowF (h.reg i.rs2) (widF i.op), 0, false, false⟩
  else if i.op = 48 then ⟨3, h.reg i.rs1, 4, 0, 0, i.aq, i.rl⟩
  else if i.op = 49 then ⟨4, h.reg i.rs1, 4, h.reg i.rs2, 0, i.aq, i.rl⟩
  else if 50 ≤ i.op ∧ i.op ≤ 58 then ⟨5, h.reg i.rs1, 4, h.reg i.rs2, i.op, i.aq, i.rl⟩
  else acc0
theorem c207 (h : Hrt) (i : Ins) (h1 : i.rs1 < 32 := by first | assumption | omega) (h2 : i.rs2 < 32 := by first | assumption | omega) : Sp Tryz.prog 207 [.agg (hrtE.arr h), .agg (insE.arr i)] [] fun K => K (.returned (.agg (accE.arr (accF h i)))) [] := by
  refine Zen Tryz.func207 rfl rfl rfl fun e X Φ hS => Zsr <| Ze (ebxE rfl) fun b2 => Zw <| Ze (ebxE rfl) fun b3 => Zw <| Ze (eal z44) fun b4 => Zw <| Znl <| Znx <| Zsq <| Zhd [] rfl rfl <| Zht 0 rfl (yf 2 rfl) ?_
  refine Zht 1 rfl (yd 1 rfl rfl rfl) <| Zht 2 rfl (yf 2 rfl) <| Zht 3 rfl (yai Tryz.underlying57 rfl rfl (by omega)) <| Zht 4 rfl (yd 2 rfl rfl (nt_reg _ _ (by omega))) <| Zht 5 rfl (yf 3 rfl) <| Zht 6 rfl (yd 1 rfl rfl rfl) <| Zht 7 rfl (yf 2 rfl) <| Zht 8 rfl (yai Tryz.underlying57 rfl rfl (by omega)) <| Zht 9 rfl (yd 2 rfl rfl (nt_reg _ _ (by omega))) <| Zht 10 rfl (ya rfl) ?_
  refine Zht 11 rfl (ya rfl) <| Zhn (by kernel_rfl) <| Znx <| Zsq <| Zhd [] rfl rfl <| Zht 1 rfl (yf 0 rfl) <| Zht 2 rfl (yd 1 rfl rfl rfl) <| Zh1 0 (by kernel_rfl) <| Zok (c238 ..) [] rfl rfl rfl <| fun r => Zqh 1 rfl ?_
  refine Zh1 3 (by kernel_rfl) <| Zov rfl (ylkv 0 (wid_lk _) rfl rfl rfl Tryz.underlying364 Tryz.underlying42 zv3) <| Zht 4 rfl (ya rfl) <| Zhn (by kernel_rfl) <| Znx <| Zsq <| Zbl <| Zsr <| Zv (yf 0 rfl) <| Zv (yd 2 rfl rfl rfl) <| Zv (yeq rfl rfl) ?_
  refine Zv (ya rfl) <| Znl <| Znx <| Zif rfl (fun h22 => ?_) (fun h22 => ?_)
  refine Zsr <| Zv (yf 4 rfl) <| Zv (yd 2 rfl rfl rfl) <| Zv (yb l44 rfl) <| Ze (esw 1 rfl rfl rfl rfl rfl rfl rfl) <| Zw0 <| Znl <| Znx <| Zrt <| Zr2 <| Zr1 ?_
  refine Zre (.wh 1 rfl rfl rfl .n) hS [] 4 ?_ rfl rfl rfl
  rotate_left
  refine Zsr <| Zv (yf 0 rfl) <| Zv (yd 2 rfl rfl rfl) <| Zv (yge rfl rfl) <| Zv (ym rfl) <| Zgs rfl rfl (fun h33 => ?_) (fun h33 => ?_)
  refine Zg' rfl rfl (decide_eq_true h33) <| Zv (yf 0 rfl) <| Zg' rfl rfl (decide_eq_true h33) <| Zv (yd 2 rfl rfl rfl) <| Zg' rfl rfl (decide_eq_true h33) <| Zv (yle rfl rfl) <| Zv (ypt' rfl (decide_eq_true h33) rfl) <| Zv (ya rfl) <| Znl <| Znx ?_
  refine Zif rfl (fun h29 => ?_) (fun h29 => ?_)
  refine Zsr <| Zv (ym rfl) <| Zv (yf 4 rfl) <| Zv (yd 2 rfl rfl rfl) <| Zk (c239 ..) [] rfl rfl <| Zq <| Zv (ym rfl) <| Zv (yb l44 rfl) <| Ze (esw 1 rfl rfl rfl rfl rfl rfl rfl) <| Zw0 <| Znl ?_
  refine Znx <| Zrt <| Zr2 <| Zr1 <| Zre (.wh 1 rfl rfl rfl .n) hS [] 4 ?_ rfl rfl rfl
  rotate_left
  refine Zsr <| Zv (yf 0 rfl) <| Zv (yd 2 rfl rfl rfl) <| Zv (yge rfl rfl) <| Zv (ym rfl) <| Zg' rfl rfl (decide_eq_true (by omega)) <| Zv (yf 0 rfl) <| Zg' rfl rfl (decide_eq_true (by omega)) <| Zv (yd 2 rfl rfl rfl) <| Zg' rfl rfl (decide_eq_true (by omega)) ?_
  refine Zv (yle rfl rfl) <| Zv (ypt' rfl (decide_eq_true (by omega)) rfl) <| Zv (ya rfl) <| Znl <| Znx <| Zif rfl (fun h44 => ?_) (fun h44 => ?_)
  refine Zsr <| Zv (ym rfl) <| Zv (yf 4 rfl) <| Zv (yd 2 rfl rfl rfl) <| Zk (c239 ..) [] rfl rfl <| Zq <| Zv (ym rfl) <| Zv (ym rfl) <| Zv (ym rfl) <| Zk (c240 ..) [] rfl rfl ?_
  refine Zq <| Zv (yb l44 rfl) <| Ze (esw 1 rfl rfl rfl rfl rfl rfl rfl) <| Zw0 <| Znl <| Znx <| Zrt <| Zr2 <| Zr1 <| Zre (.wh 1 rfl rfl rfl .n) hS [] 4 ?_ rfl rfl rfl
  rotate_left
  refine Zsr <| Zv (yf 0 rfl) <| Zv (yd 2 rfl rfl rfl) <| Zv (yeq rfl rfl) <| Zv (ya rfl) <| Znl <| Znx <| Zif rfl (fun h62 => ?_) (fun h62 => ?_)
  refine Zsr <| Zv (ym rfl) <| Zv (yf 5 rfl) <| Zv (yd 2 rfl rfl rfl) <| Zv (yf 6 rfl) <| Zv (yd 2 rfl rfl rfl) <| Zv (yb l44 rfl) <| Ze (esw 1 rfl rfl rfl rfl rfl rfl rfl) <| Zw0 <| Znl <| Znx ?_
  refine Zrt <| Zr2 <| Zr1 <| Zre (.wh 1 rfl rfl rfl .n) hS [] 4 ?_ rfl rfl rfl
  rotate_left
  refine Zsr <| Zv (yf 0 rfl) <| Zv (yd 2 rfl rfl rfl) <| Zv (yeq rfl rfl) <| Zv (ya rfl) <| Znl <| Znx <| Zif rfl (fun h72 => ?_) (fun h72 => ?_)
  refine Zsr <| Zv (ym rfl) <| Zv (ym rfl) <| Zv (yf 5 rfl) <| Zv (yd 2 rfl rfl rfl) <| Zv (yf 6 rfl) <| Zv (yd 2 rfl rfl rfl) <| Zv (yb l44 rfl) <| Ze (esw 1 rfl rfl rfl rfl rfl rfl rfl) <| Zw0 <| Znl ?_
  refine Znx <| Zrt <| Zr2 <| Zr1 <| Zre (.wh 1 rfl rfl rfl .n) hS [] 4 ?_ rfl rfl rfl
  rotate_left
  refine Zsr <| Zv (yf 0 rfl) <| Zv (yd 2 rfl rfl rfl) <| Zv (yge rfl rfl) <| Zv (ym rfl) <| Zgs rfl rfl (fun h87 => ?_) (fun h87 => ?_)
  refine Zg' rfl rfl (decide_eq_true h87) <| Zv (yf 0 rfl) <| Zg' rfl rfl (decide_eq_true h87) <| Zv (yd 2 rfl rfl rfl) <| Zg' rfl rfl (decide_eq_true h87) <| Zv (yle rfl rfl) <| Zv (ypt' rfl (decide_eq_true h87) rfl) <| Zv (ya rfl) <| Znl <| Znx ?_
  refine Zif rfl (fun h83 => ?_) (fun h83 => ?_)
  refine Zsr <| Zv (ym rfl) <| Zv (ym rfl) <| Zv (yf 0 rfl) <| Zv (yd 2 rfl rfl rfl) <| Zv (yf 5 rfl) <| Zv (yd 2 rfl rfl rfl) <| Zv (yf 6 rfl) <| Zv (yd 2 rfl rfl rfl) <| Zv (yb l44 rfl) ?_
  refine Ze (esw 1 rfl rfl rfl rfl rfl rfl rfl) <| Zw0 <| Znl <| Znx <| Zrt <| Zr2 <| Zr1 <| Zre (.wh 1 rfl rfl rfl .n) hS [] 4 ?_ rfl rfl rfl
  rotate_left
  refine Zsk <| Zxn <| Znx <| Zsr <| Zv (yb l44 rfl) <| Ze (esw 1 rfl rfl rfl rfl rfl rfl rfl) <| Zw0 <| Znl <| Znx <| Zrt <| Zre (.wh 1 rfl rfl rfl .n) hS [] 4 ?_ rfl rfl rfl
  rotate_left
  refine Zu' rfl rfl (decide_eq_false h87) rfl <| Zu' rfl rfl (decide_eq_false h87) rfl <| Zu' rfl rfl (decide_eq_false h87) rfl <| Zv (ypf' rfl (decide_eq_false h87) rfl) <| Zv (ya rfl) <| Znl <| Znx <| Zcf rfl <| Zsk <| Zxn ?_
  refine Znx <| Zsr <| Zv (yb l44 rfl) <| Ze (esw 1 rfl rfl rfl rfl rfl rfl rfl) <| Zw0 <| Znl <| Znx <| Zrt <| Zre (.wh 1 rfl rfl rfl .n) hS [] 4 ?_ rfl rfl rfl
  rotate_left
  refine Zu' rfl rfl (decide_eq_false h33) rfl <| Zu' rfl rfl (decide_eq_false h33) rfl <| Zu' rfl rfl (decide_eq_false h33) rfl <| Zv (ypf' rfl (decide_eq_false h33) rfl) <| Zv (ya rfl) <| Znl <| Znx <| Zcf rfl <| Zsr <| Zv (yf 0 rfl) ?_
  refine Zv (yd 2 rfl rfl rfl) <| Zv (yge rfl rfl) <| Zv (ym rfl) <| Zu' rfl rfl (decide_eq_false (by omega)) rfl <| Zu' rfl rfl (decide_eq_false (by omega)) rfl <| Zu' rfl rfl (decide_eq_false (by omega)) rfl <| Zv (ypf' rfl (decide_eq_false (by omega)) rfl) <| Zv (ya rfl) <| Znl <| Znx ?_
  refine Zcf rfl <| Zsr <| Zv (yf 0 rfl) <| Zv (yd 2 rfl rfl rfl) <| Zv (yeq rfl rfl) <| Zv (ya rfl) <| Znl <| Znx <| Zcf' rfl (decide_eq_false (by omega)) <| Zsr ?_
  refine Zv (yf 0 rfl) <| Zv (yd 2 rfl rfl rfl) <| Zv (yeq rfl rfl) <| Zv (ya rfl) <| Znl <| Znx <| Zcf' rfl (decide_eq_false (by omega)) <| Zsr <| Zv (yf 0 rfl) <| Zv (yd 2 rfl rfl rfl) ?_
  refine Zv (yge rfl rfl) <| Zv (ym rfl) <| Zu' rfl rfl (decide_eq_false (by omega)) rfl <| Zu' rfl rfl (decide_eq_false (by omega)) rfl <| Zu' rfl rfl (decide_eq_false (by omega)) rfl <| Zv (ypf' rfl (decide_eq_false (by omega)) rfl) <| Zv (ya rfl) <| Znl <| Znx <| Zcf rfl ?_
  refine Zsk <| Zxn <| Znx <| Zsr <| Zv (yb l44 rfl) <| Ze (esw 1 rfl rfl rfl rfl rfl rfl rfl) <| Zw0 <| Znl <| Znx <| Zrt <| Zre (.wh 1 rfl rfl rfl .n) hS [] 4 ?_ rfl rfl rfl
  rotate_left
  all_goals (simp only [pk, accF]; repeat' split) <;> first | omega | rfl
end Go.Proofs.YtpfijldkkfiooaaGreatDoor
namespace Go.Proofs.YtpfijldkkfiooaaGreatDoor
set_option maxRecDepth 4000
def anF (x : Int) : Int := w32 (BitVec.ofInt 32 x &&& ~~~ BitVec.ofInt 32 1).toNat
def takF (h : Hrt) (i : Ins) : Bool := match fd i.op takT with | some p => p.2 (h.reg i.rs1) (h.reg i.rs2) | none => false
def nxtF (h : Hrt) (i : Ins) : Int × Bool :=
  if i.op = 3 ∨ takF h i = true then (w32 (h.pc + i.imm), decide ((w32 (h.pc + i.imm)).tmod 4 = 0))
  else if i.op = 4 then (anF (w32 (h.reg i.rs1 + i.imm)), decide ((anF (w32 (h.reg i.rs1 + i.imm))).tmod 4 = 0))
  else (w32 (h.pc + 4), true)
theorem c208 (h : Hrt) (i : Ins) (h1 : i.rs1 < 32 := by first | assumption | omega) (h2 : i.rs2 < 32 := by first | assumption | omega) : Sp Tryz.prog 208 [.agg (hrtE.arr h), .agg (insE.arr i)] [] fun K => ((nxtF h i).2 = true → K (.returned (.int .u32 (nxtF h i).1)) []) ∧ ((nxtF h i).2 = false → K (.panicked (panV (stopV 3))) []) := by
  have hlk := lk_fd i.op takT
  cases hp : fd i.op takT with
  | none =>
    have hl : lk i.op (fnL takT) = none := by rw [hlk, hp]; rfl
    have ht : takF h i = false := by unfold takF; rw [hp]
    refine Zen Tryz.func208 rfl rfl rfl fun e X Φ hS => Zsr <| Ze (ebxE rfl) fun b2 => Zw <| Ze (ebxE rfl) fun b3 => Zw <| Zv (ya rfl) <| Znl <| Znx <| Zsr <| Zv (yf 1 rfl) <| Zv (yd 1 rfl rfl rfl) ?_
    refine Zk (c239 ..) [] rfl rfl <| Zq <| Zv (ya rfl) <| Znl <| Znx <| Zsq <| Zsq <| Zhd [] rfl rfl <| Zht 1 rfl (yf 0 rfl) <| Zht 2 rfl (yd 0 rfl rfl rfl) ?_
    refine Zh1 0 (by kernel_rfl) <| Zok (c241 ..) [] rfl rfl rfl <| fun r => Zqh 1 rfl <| Zh1 3 (by kernel_rfl) <| Zov rfl (ylk' 0 hl rfl rfl rfl Tryz.underlying368 Tryz.underlying42 zv366) <| Zht 4 rfl (ym rfl) <| Zht 5 rfl (yx rfl rfl) <| Zht 6 rfl (yx rfl rfl) <| Zht 7 rfl (ya rfl) <| Zht 8 rfl (ya rfl) <| Zhn (by kernel_rfl) ?_
    refine Znx <| Zbl <| Zsq <| Zsr <| Zv (yf 0 rfl) <| Zv (yd 1 rfl rfl rfl) <| Zv (yeq rfl rfl) <| Zv (ya rfl) <| Znl <| Znx ?_
    refine Zif rfl (fun h19 => ?_) (fun h19 => ?_)
    refine Zsk <| Znx <| Zct' rfl (decide_eq_true h19) <| Zrg <| Zv (yf 1 rfl) <| Zv (yd 2 rfl rfl rfl) <| Zv (yf 4 rfl) <| Zv (yd 1 rfl rfl rfl) <| Zk (c239 ..) [] rfl rfl <| Zq ?_
    refine Zv (ya rfl) <| Znl <| Zxn <| Znx <| Zsr <| Zv (ym rfl) <| Zv (yrem rfl rfl (by decide) rfl) <| Zv (yeq rfl rfl) <| Zk (c206 ..) [] rfl rfl <| ⟨?_, ?_⟩
    refine fun a => Zq <| Znl <| Znx <| Zsr <| Zv (ym rfl) <| Zv (ya rfl) <| Znl <| Znx <| Zrt ?_
    rotate_left
    refine fun a => Zqp <| Zp1 ?_
    rotate_left
    refine Zhd [] rfl rfl <| Zht 0 rfl (ym rfl) <| Zht 1 rfl (ym rfl) <| Zhu 2 rfl rfl rfl rfl <| Zhu 3 rfl rfl rfl rfl <| Zhu 4 rfl rfl rfl rfl <| Zhu 5 rfl rfl rfl rfl <| Zhu 6 rfl rfl rfl rfl <| Zhu 7 rfl rfl rfl rfl <| Zhu 8 rfl rfl rfl rfl ?_
    refine Zhu 9 rfl rfl rfl rfl <| Zhu 10 rfl rfl rfl rfl <| Zhu 11 rfl rfl rfl rfl <| Zhu 12 rfl rfl rfl rfl <| Zhu 13 rfl rfl rfl rfl <| Zht 14 rfl (ypf rfl rfl) <| Zht 15 rfl (ya rfl) <| Zhn (by kernel_rfl) <| Znx <| Zcf rfl ?_
    refine Zsr <| Zv (yf 0 rfl) <| Zv (yd 1 rfl rfl rfl) <| Zv (yeq rfl rfl) <| Zv (ya rfl) <| Znl <| Znx <| Zif rfl (fun h43 => ?_) (fun h43 => ?_)
    refine Zhd [] rfl rfl <| Zht 0 rfl (yf 2 rfl) <| Zht 1 rfl (yd 1 rfl rfl rfl) <| Zht 2 rfl (yf 2 rfl) <| Zht 3 rfl (yai Tryz.underlying57 rfl rfl (by omega)) <| Zht 4 rfl (yd 2 rfl rfl (nt_reg _ _ (by omega))) <| Zht 5 rfl (yf 4 rfl) <| Zht 6 rfl (yd 1 rfl rfl rfl) <| Zh1 7 (by kernel_rfl) <| Zok (c239 ..) [] rfl rfl rfl <| Zqh 0 rfl ?_
    refine Zht 8 rfl (yandn rfl rfl rfl) <| Zht 9 rfl (ya rfl) <| Zhn (by kernel_rfl) <| Zxn <| Znx <| Zsr <| Zv (ym rfl) <| Zv (yrem rfl rfl (by decide) rfl) <| Zv (yeq rfl rfl) <| Zk (c206 ..) [] rfl rfl ?_
    refine ⟨?_, ?_⟩
    refine fun a => Zq <| Znl <| Znx <| Zsr <| Zv (ym rfl) <| Zv (ya rfl) <| Znl <| Znx <| Zrt ?_
    rotate_left
    refine fun a => Zqp <| Zp1 ?_
    rotate_left
    refine Zsr <| Zv (ym rfl) <| Zv (ya rfl) <| Znl <| Znx <| Zrt <| Zr2 <| Zr1 ?_
    rotate_left
    · have e' : nxtF h i = (w32 (h.pc + i.imm), decide ((w32 (h.pc + i.imm)).tmod 4 = 0)) := if_pos (.inl h19)
      rw [e'] at hS
      refine Zre (.t rfl .n) (hS.1 a) [] 3 rfl rfl rfl rfl
    · have e' : nxtF h i = (w32 (h.pc + i.imm), decide ((w32 (h.pc + i.imm)).tmod 4 = 0)) := if_pos (.inl h19)
      rw [e'] at hS
      refine Zpe (hS.2 a) [] 3 rfl rfl
    · have e' : nxtF h i = (anF (w32 (h.reg i.rs1 + i.imm)), decide ((anF (w32 (h.reg i.rs1 + i.imm))).tmod 4 = 0)) := (if_neg (by simp [h19, ht])).trans (if_pos h43)
      rw [e'] at hS
      refine Zre (.t rfl .n) (hS.1 a) [] 3 rfl rfl rfl rfl
    · have e' : nxtF h i = (anF (w32 (h.reg i.rs1 + i.imm)), decide ((anF (w32 (h.reg i.rs1 + i.imm))).tmod 4 = 0)) := (if_neg (by simp [h19, ht])).trans (if_pos h43)
      rw [e'] at hS
      refine Zpe (hS.2 a) [] 3 rfl rfl
    · have e' : nxtF h i = (w32 (h.pc + 4), true) := (if_neg (by simp [h19, ht])).trans (if_neg h43)
      rw [e'] at hS
      refine Zre (.t rfl .n) (hS.1 rfl) [] 3 rfl rfl rfl rfl
  | some p =>
    have hl : lk i.op (fnL takT) = some (fnV p.1) := by rw [hlk, hp]; rfl
    have ht : takF h i = p.2 (h.reg i.rs1) (h.reg i.rs2) := by unfold takF; rw [hp]
    obtain ⟨hc, hok⟩ := tak_sp hp
    have e1 : (i.op = 3 ∨ p.2 (h.reg i.rs1) (h.reg i.rs2) = true) → nxtF h i = (w32 (h.pc + i.imm), decide ((w32 (h.pc + i.imm)).tmod 4 = 0)) := fun hq => if_pos (by rw [ht]; exact hq)
    have h4 : i.op ≠ 4 := fun h4 => by
      rw [h4] at hp
      cases hp
    have e2 : i.op ≠ 3 → p.2 (h.reg i.rs1) (h.reg i.rs2) = false → nxtF h i = (w32 (h.pc + 4), true) := fun h3 hq => (if_neg (by rw [ht, hq]; simp [h3])).trans (if_neg h4)
    refine Zen Tryz.func208 rfl rfl rfl fun e X Φ hS => Zsr <| Ze (ebxE rfl) fun b2 => Zw <| Ze (ebxE rfl) fun b3 => Zw <| Zv (ya rfl) <| Znl <| Znx <| Zsr <| Zv (yf 1 rfl) <| Zv (yd 1 rfl rfl rfl) ?_
    refine Zk (c239 ..) [] rfl rfl <| Zq <| Zv (ya rfl) <| Znl <| Znx <| Zsq <| Zsq <| Zhd [] rfl rfl <| Zht 1 rfl (yf 0 rfl) <| Zht 2 rfl (yd 0 rfl rfl rfl) ?_
    refine Zh1 0 (by kernel_rfl) <| Zok (c241 ..) [] rfl rfl rfl <| fun r => Zqh 1 rfl <| Zh1 3 (by kernel_rfl) <| Zov rfl (ylk' 0 hl rfl rfl rfl Tryz.underlying368 Tryz.underlying42 zv366) <| Zht 4 rfl (ym rfl) <| Zht 5 rfl (yx rfl rfl) <| Zht 6 rfl (yx rfl rfl) <| Zht 7 rfl (ya rfl) <| Zht 8 rfl (ya rfl) <| Zhn (by kernel_rfl) ?_
    refine Znx <| Zbl <| Zsq <| Zsr <| Zv (yf 0 rfl) <| Zv (yd 1 rfl rfl rfl) <| Zv (yeq rfl rfl) <| Zv (ya rfl) <| Znl <| Znx ?_
    refine Zif rfl (fun h19 => ?_) (fun h19 => ?_)
    refine Zsk <| Znx <| Zct' rfl (decide_eq_true h19) <| Zrg <| Zv (yf 1 rfl) <| Zv (yd 2 rfl rfl rfl) <| Zv (yf 4 rfl) <| Zv (yd 1 rfl rfl rfl) <| Zk (c239 ..) [] rfl rfl <| Zq ?_
    refine Zv (ya rfl) <| Znl <| Zxn <| Znx <| Zsr <| Zv (ym rfl) <| Zv (yrem rfl rfl (by decide) rfl) <| Zv (yeq rfl rfl) <| Zk (c206 ..) [] rfl rfl <| ⟨?_, ?_⟩
    refine fun a => Zq <| Znl <| Znx <| Zsr <| Zv (ym rfl) <| Zv (ya rfl) <| Znl <| Znx <| Zrt ?_
    rotate_left
    refine fun a => Zqp <| Zp1 ?_
    rotate_left
    refine Zhd [] rfl rfl <| Zht 0 rfl (ym rfl) <| Zht 1 rfl (ym rfl) <| Zhg 2 rfl rfl rfl (ym rfl) <| Zhg 3 rfl rfl rfl (yf 2 rfl) <| Zhg 4 rfl rfl rfl (yd 1 rfl rfl rfl) <| Zhg 5 rfl rfl rfl (yf 2 rfl) <| Zhg 6 rfl rfl rfl (yai Tryz.underlying57 rfl rfl (by omega)) <| Zhg 7 rfl rfl rfl (yd 2 rfl rfl (nt_reg _ _ (by omega))) <| Zhg 8 rfl rfl rfl (yf 3 rfl) ?_
    refine Zhg 9 rfl rfl rfl (yd 1 rfl rfl rfl) <| Zhg 10 rfl rfl rfl (yf 2 rfl) <| Zhg 11 rfl rfl rfl (yai Tryz.underlying57 rfl rfl (by omega)) <| Zhg 12 rfl rfl rfl (yd 2 rfl rfl (nt_reg _ _ (by omega))) ?_
    rotate_left
    · rw [e1 (.inl h19)] at hS
      refine Zre (.t rfl .n) (hS.1 a) [] 3 rfl rfl rfl rfl
    · rw [e1 (.inl h19)] at hS
      refine Zpe (hS.2 a) [] 3 rfl rfl
    · refine Zh1 13 (by kernel_rfl) <| Zokv (hc (h.reg i.rs1) (h.reg i.rs2)) [] rfl rfl rfl rfl rfl <| Zqh 0 rfl <| Zht 14 rfl (ypt rfl rfl) <| Zht 15 rfl (ya rfl) <| Zhn (by kernel_rfl) <| Znx <| Zib rfl (fun h19 => ?_) (fun h19 => ?_)
      refine Zrg <| Zv (yf 1 rfl) <| Zv (yd 2 rfl rfl rfl) <| Zv (yf 4 rfl) <| Zv (yd 1 rfl rfl rfl) <| Zk (c239 ..) [] rfl rfl <| Zq <| Zv (ya rfl) <| Znl <| Zxn ?_
      refine Znx <| Zsr <| Zv (ym rfl) <| Zv (yrem rfl rfl (by decide) rfl) <| Zv (yeq rfl rfl) <| Zk (c206 ..) [] rfl rfl <| ⟨?_, ?_⟩
      refine fun a => Zq <| Znl <| Znx <| Zsr <| Zv (ym rfl) <| Zv (ya rfl) <| Znl <| Znx <| Zrt ?_
      rotate_left
      refine fun a => Zqp <| Zp1 ?_
      rotate_left
      refine Zsr <| Zv (yf 0 rfl) <| Zv (yd 1 rfl rfl rfl) <| Zv (yeq rfl rfl) <| Zv (ya rfl) <| Znl <| Znx <| Zcf' rfl (decide_eq_false h4) <| Zsr <| Zv (ym rfl) ?_
      refine Zv (ya rfl) <| Znl <| Znx <| Zrt <| Zr2 <| Zr1 ?_
      rotate_left
      · rw [e1 (.inr ‹_›)] at hS
        refine Zre (.t rfl .n) (hS.1 a) [] 3 rfl rfl rfl rfl
      · rw [e1 (.inr ‹_›)] at hS
        refine Zpe (hS.2 a) [] 3 rfl rfl
      · rw [e2 (by assumption) ‹_›] at hS
        refine Zre (.t rfl .n) (hS.1 rfl) [] 3 rfl rfl rfl rfl
@[irreducible] def extF (n b : Int) : Int := if b < 1 ∨ 32 < b then sarF (shlF n (w32 0)) (w32 0) else sarF (shlF n (w32 (32 - b))) (w32 (32 - b))
theorem extF_1 {n b : Int} (h : b < 1 ∨ 32 < b) : extF n b = sarF (shlF n (w32 0)) (w32 0) := by unfold extF; exact if_pos h
theorem extF_2 {n b : Int} (h : ¬ (b < 1 ∨ 32 < b)) : extF n b = sarF (shlF n (w32 (32 - b))) (w32 (32 - b)) := by unfold extF; exact if_neg h
theorem c243 (n b : Int) : Sp Tryz.prog 243 [.int .u32 n, .int .i64 b] [] fun K => ∀ v, v = extF n b → K (.returned (.int .u32 v)) [] := by
  refine Zen Tryz.func243 rfl rfl rfl fun e X Φ hS => Zsr <| Zv (ya rfl) <| Znl <| Znx <| Zsq <| Zsr <| Zv (ym rfl) <| Zv (ylt rfl rfl) <| Zv (ym rfl) ?_
  refine Zgs rfl rfl (fun h8 => ?_) (fun h8 => ?_)
  refine Zu' rfl rfl (decide_eq_true h8) rfl <| Zu' rfl rfl (decide_eq_true h8) rfl <| Zv (ypt' rfl (decide_eq_true h8) rfl) <| Znl <| Znx <| Zct rfl <| Zrg <| Zv (ya rfl) <| Znl <| Znx ?_
  refine Zsr <| Zv (ym rfl) <| Zv (ysub (s := 0) rfl rfl rfl) <| Zv (ycv Tryz.underlying3 Tryz.underlying40 rfl rfl) <| Zv (ya rfl) <| Znl <| Znx <| Zsr <| Zv (ym rfl) <| Zv (ym rfl) ?_
  refine Zk (c278 ..) [] rfl rfl <| Zq <| Zv (ym rfl) <| Zk (c282 ..) [] rfl rfl <| Zq <| Zv (ya rfl) <| Znl <| Znx <| Zrt ?_
  rotate_left
  refine Zg' rfl rfl (decide_eq_false h8) <| Zv (ym rfl) <| Zg' rfl rfl (decide_eq_false h8) <| Zv (ygt rfl rfl) <| Zv (ypf' rfl (decide_eq_false h8) rfl) <| Znl <| Znx <| Zif rfl (fun h11 => ?_) (fun h11 => ?_)
  refine Zrg <| Zv (ya rfl) <| Znl <| Znx <| Zsr <| Zv (ym rfl) <| Zv (ysub (s := 0) rfl rfl rfl) <| Zv (ycv Tryz.underlying3 Tryz.underlying40 rfl rfl) <| Zv (ya rfl) <| Znl ?_
  refine Znx <| Zsr <| Zv (ym rfl) <| Zv (ym rfl) <| Zk (c278 ..) [] rfl rfl <| Zq <| Zv (ym rfl) <| Zk (c282 ..) [] rfl rfl <| Zq <| Zv (ya rfl) ?_
  refine Znl <| Znx <| Zrt ?_
  rotate_left
  refine Zsk <| Znx <| Zsr <| Zv (ym rfl) <| Zv (ysub rfl rfl (i64w rfl (by omega))) <| Zv (ycv Tryz.underlying3 Tryz.underlying40 rfl rfl) <| Zv (ya rfl) <| Znl <| Znx <| Zsr ?_
  refine Zv (ym rfl) <| Zv (ym rfl) <| Zk (c278 ..) [] rfl rfl <| Zq <| Zv (ym rfl) <| Zk (c282 ..) [] rfl rfl <| Zq <| Zv (ya rfl) <| Znl <| Znx ?_
  refine Zrt ?_
  rotate_left
  · refine Zre (.t rfl .n) (hS _ (extF_1 (.inl h8)).symm) [] 0 rfl rfl rfl rfl
  · refine Zre (.t rfl .n) (hS _ (extF_1 (.inr h11)).symm) [] 0 rfl rfl rfl rfl
  · refine Zre (.t rfl .n) (hS _ (extF_2 (by omega)).symm) [] 0 rfl rfl rfl rfl
def valG (h : Hrt) (i : Ins) (a : Ans) : Option Int :=
  if i.op = 1 then some i.imm
  else if i.op = 2 then some (w32 (h.pc + i.imm))
  else if i.op = 3 ∨ i.op = 4 then some (w32 (h.pc + 4))
  else if i.op = 11 ∨ i.op = 12 then some (extF a.value (IntKind.i64.wrap (8 * widF i.op)))
  else if i.op = 14 ∨ i.op = 15 then some (lowF a.value (widF i.op))
  else if i.op = 49 then some (truF (!a.ok))
  else if i.op = 59 then some (w32 h.id)
  else if i.op = 13 ∨ i.op = 48 ∨ (50 ≤ i.op ∧ i.op ≤ 58) then some a.value
  else none
def valF (h : Hrt) (i : Ins) (a : Ans) : Option Int :=
  match fd i.op twoT with
  | some p => some (p.2 (h.reg i.rs1) (if 19 ≤ i.op ∧ i.op ≤ 27 then i.imm else h.reg i.rs2))
  | none => valG h i a
theorem c209 (h : Hrt) (i : Ins) (a : Ans) (ok : h.Ok := by assumption) (hi : U32 i.imm := by assumption) (h1 : i.rs1 < 32 := by first | assumption | omega) (h2 : i.rs2 < 32 := by first | assumption | omega) : Sp Tryz.prog 209 [.agg (hrtE.arr h), .agg (insE.arr i), .agg (ansE.arr a)] [] fun K => ∀ v b, valF h i a = (if b = true then some v else none) → K (.returned (.tuple #[.int .u32 v, .bool b])) [] := by
  have hlk := lk_fd i.op twoT
  cases hp : fd i.op twoT with
  | none =>
    have hl : lk i.op (fnL twoT) = none := by rw [hlk, hp]; rfl
    have hv : valF h i a = valG h i a := by unfold valF; rw [hp]
    refine Zen Tryz.func209 rfl rfl rfl fun e X Φ hS => Zsr <| Ze (ebxE rfl) fun b3 => Zw <| Ze (ebxE rfl) fun b4 => Zw <| Ze (ebxE rfl) fun b5 => Zw <| Zv (ya rfl) <| Zv (ya rfl) <| Znl <| Znx <| Zsq ?_
    refine Zsq <| Zhd [] rfl rfl <| Zht 1 rfl (yf 0 rfl) <| Zht 2 rfl (yd 1 rfl rfl rfl) <| Zh1 0 (by kernel_rfl) <| Zok (c242 ..) [] rfl rfl rfl <| fun r => Zqh 1 rfl <| Zh1 3 (by kernel_rfl) <| Zov rfl (ylk' 0 hl rfl rfl rfl Tryz.underlying371 Tryz.underlying42 zv255) <| Zht 4 rfl (ym rfl) <| Zht 5 rfl (yx rfl rfl) ?_
    refine Zht 6 rfl (yx rfl rfl) <| Zht 7 rfl (ya rfl) <| Zht 8 rfl (ya rfl) <| Zhn (by kernel_rfl) <| Znx <| Zsr <| Zv (ym rfl) <| Znl <| Znx <| Zcf rfl ?_
    refine Zsk <| Znx <| Zsq <| Zsr <| Zv (yf 0 rfl) <| Zv (yd 2 rfl rfl rfl) <| Znl <| Znx <| Zbl <| Zsr ?_
    refine Zv (yeq rfl rfl) <| Zv (ya rfl) <| Znl <| Znx <| Zif rfl (fun h44 => ?_) (fun h44 => ?_)
    refine Zsr <| Zv (yf 4 rfl) <| Zv (yd 2 rfl rfl rfl) <| Zv (ya rfl) <| Zv (ya rfl) <| Znl <| Znx <| Zrt <| Zr2 <| Zr1 ?_
    rotate_left
    refine Zsr <| Zv (yeq rfl rfl) <| Zv (ya rfl) <| Znl <| Znx <| Zif rfl (fun h48 => ?_) (fun h48 => ?_)
    refine Zsr <| Zv (yf 1 rfl) <| Zv (yd 3 rfl rfl rfl) <| Zv (yf 4 rfl) <| Zv (yd 2 rfl rfl rfl) <| Zk (c239 ..) [] rfl rfl <| Zq <| Zv (ya rfl) <| Zv (ya rfl) <| Znl ?_
    refine Znx <| Zrt <| Zr2 <| Zr1 ?_
    rotate_left
    refine Zsq <| Zsr <| Zv (yeq rfl rfl) <| Zv (ya rfl) <| Znl <| Znx <| Zif rfl (fun h55 => ?_) (fun h55 => ?_)
    refine Zsk <| Znx <| Zct' rfl (decide_eq_true h55) <| Zsr <| Zv (yf 1 rfl) <| Zv (yd 3 rfl rfl rfl) <| Zk (c239 ..) [] rfl rfl <| Zq <| Zv (ya rfl) <| Zv (ya rfl) ?_
    refine Znl <| Znx <| Zrt <| Zr2 <| Zr1 ?_
    rotate_left
    refine Zrg <| Zv (yeq rfl rfl) <| Zv (ya rfl) <| Znl <| Znx <| Zif rfl (fun h55 => ?_) (fun h55 => ?_)
    refine Zsr <| Zv (yf 1 rfl) <| Zv (yd 3 rfl rfl rfl) <| Zk (c239 ..) [] rfl rfl <| Zq <| Zv (ya rfl) <| Zv (ya rfl) <| Znl <| Znx <| Zrt ?_
    refine Zr2 <| Zr1 ?_
    rotate_left
    refine Zsq <| Zsr <| Zv (yeq rfl rfl) <| Zv (ya rfl) <| Znl <| Znx <| Zif rfl (fun h61 => ?_) (fun h61 => ?_)
    refine Zsk <| Znx <| Zct' rfl (decide_eq_true h61) <| Zsq <| Zhd [] rfl rfl <| Zht 0 rfl (yf 0 rfl) <| Zht 1 rfl (yd 1 rfl rfl rfl) <| Zht 3 rfl (yf 0 rfl) <| Zht 4 rfl (yd 2 rfl rfl rfl) <| Zh1 2 (by kernel_rfl) <| Zok (c238 ..) [] rfl rfl rfl ?_
    refine fun r_1 => Zqh 1 rfl <| Zh1 5 (by kernel_rfl) <| Zov rfl (ylkv 0 (wid_lk _) rfl rfl rfl Tryz.underlying364 Tryz.underlying42 zv3) <| Zht 6 rfl (ymul rfl rfl rfl) <| Zh1 7 (by kernel_rfl) <| Zok (c243 ..) [] rfl rfl rfl <| fun v => fun a_1 => Zqh 1 rfl <| Zht 8 rfl (ya rfl) <| Zht 9 rfl (ya rfl) ?_
    refine Zhn (by kernel_rfl) <| Znx <| Zrt <| Zr2 <| Zr1 ?_
    rotate_left
    refine Zrg <| Zv (yeq rfl rfl) <| Zv (ya rfl) <| Znl <| Znx <| Zif rfl (fun h61 => ?_) (fun h61 => ?_)
    refine Zsq <| Zhd [] rfl rfl <| Zht 0 rfl (yf 0 rfl) <| Zht 1 rfl (yd 1 rfl rfl rfl) <| Zht 3 rfl (yf 0 rfl) <| Zht 4 rfl (yd 2 rfl rfl rfl) <| Zh1 2 (by kernel_rfl) <| Zok (c238 ..) [] rfl rfl rfl <| fun r_1 => Zqh 1 rfl <| Zh1 5 (by kernel_rfl) <| Zov rfl (ylkv 0 (wid_lk _) rfl rfl rfl Tryz.underlying364 Tryz.underlying42 zv3) ?_
    refine Zht 6 rfl (ymul rfl rfl rfl) <| Zh1 7 (by kernel_rfl) <| Zok (c243 ..) [] rfl rfl rfl <| fun v => fun a_1 => Zqh 1 rfl <| Zht 8 rfl (ya rfl) <| Zht 9 rfl (ya rfl) <| Zhn (by kernel_rfl) <| Znx <| Zrt ?_
    refine Zr2 <| Zr1 ?_
    rotate_left
    refine Zsq <| Zsr <| Zv (yeq rfl rfl) <| Zv (ya rfl) <| Znl <| Znx <| Zif rfl (fun h72 => ?_) (fun h72 => ?_)
    refine Zsk <| Znx <| Zct' rfl (decide_eq_true h72) <| Zsq <| Zhd [] rfl rfl <| Zht 0 rfl (yf 0 rfl) <| Zht 1 rfl (yd 1 rfl rfl rfl) <| Zht 3 rfl (yf 0 rfl) <| Zht 4 rfl (yd 2 rfl rfl rfl) <| Zh1 2 (by kernel_rfl) <| Zok (c238 ..) [] rfl rfl rfl ?_
    refine fun r_1 => Zqh 1 rfl <| Zh1 5 (by kernel_rfl) <| Zov rfl (ylkv 0 (wid_lk _) rfl rfl rfl Tryz.underlying364 Tryz.underlying42 zv3) <| Zh1 6 (by kernel_rfl) <| Zok (c240 ..) [] rfl rfl rfl <| Zqh 1 rfl <| Zht 7 rfl (ya rfl) <| Zht 8 rfl (ya rfl) <| Zhn (by kernel_rfl) <| Znx <| Zrt ?_
    refine Zr2 <| Zr1 ?_
    rotate_left
    refine Zrg <| Zv (yeq rfl rfl) <| Zv (ya rfl) <| Znl <| Znx <| Zif rfl (fun h72 => ?_) (fun h72 => ?_)
    refine Zsq <| Zhd [] rfl rfl <| Zht 0 rfl (yf 0 rfl) <| Zht 1 rfl (yd 1 rfl rfl rfl) <| Zht 3 rfl (yf 0 rfl) <| Zht 4 rfl (yd 2 rfl rfl rfl) <| Zh1 2 (by kernel_rfl) <| Zok (c238 ..) [] rfl rfl rfl <| fun r_1 => Zqh 1 rfl <| Zh1 5 (by kernel_rfl) <| Zov rfl (ylkv 0 (wid_lk _) rfl rfl rfl Tryz.underlying364 Tryz.underlying42 zv3) ?_
    refine Zh1 6 (by kernel_rfl) <| Zok (c240 ..) [] rfl rfl rfl <| Zqh 1 rfl <| Zht 7 rfl (ya rfl) <| Zht 8 rfl (ya rfl) <| Zhn (by kernel_rfl) <| Znx <| Zrt <| Zr2 <| Zr1 ?_
    rotate_left
    refine Zsr <| Zv (yeq rfl rfl) <| Zv (ya rfl) <| Znl <| Znx <| Zif rfl (fun h82 => ?_) (fun h82 => ?_)
    refine Zsr <| Zv (yf 1 rfl) <| Zv (yd 1 rfl rfl rfl) <| Zv (ynot rfl) <| Zk (c244 ..) [] rfl rfl <| Zq <| Zv (ya rfl) <| Zv (ya rfl) <| Znl <| Znx ?_
    refine Zrt <| Zr2 <| Zr1 ?_
    rotate_left
    refine Zsr <| Zv (yeq rfl rfl) <| Zv (ya rfl) <| Znl <| Znx <| Zif rfl (fun h88 => ?_) (fun h88 => ?_)
    refine Zsr <| Zv (yf 0 rfl) <| Zv (yd 3 rfl rfl rfl) <| Zv (ycv Tryz.underlying3 Tryz.underlying40 rfl rfl) <| Zv (ya rfl) <| Zv (ya rfl) <| Znl <| Znx <| Zrt <| Zr2 ?_
    refine Zr1 ?_
    rotate_left
    refine Zsk <| Zxn <| Znx <| Zsq <| Zhd [] rfl rfl <| Zht 0 rfl (yf 0 rfl) <| Zht 1 rfl (yd 1 rfl rfl rfl) <| Zht 2 rfl (yf 0 rfl) <| Zht 3 rfl (yd 2 rfl rfl rfl) <| Zht 4 rfl (yeq rfl rfl) ?_
    refine Zht 5 rfl (ym rfl) <| Zhgs 6 rfl rfl rfl (fun h98 => ?_) (fun h98 => ?_)
    refine Zhu 6 rfl rfl (lkn rfl (decide_eq_true h98)) rfl <| Zhu 7 rfl rfl (lkn rfl (decide_eq_true h98)) rfl <| Zhu 8 rfl rfl (lkn rfl (decide_eq_true h98)) rfl <| Zht 9 rfl (ypt' rfl (decide_eq_true h98) rfl) <| Zht 10 rfl (ym rfl) <| Zhu 11 rfl rfl rfl rfl <| Zhu 12 rfl rfl rfl rfl <| Zhu 13 rfl rfl rfl rfl <| Zhu 14 rfl rfl rfl rfl <| Zhuu 15 rfl rfl rfl ?_
    refine Zhuu 16 rfl rfl rfl <| Zhuu 17 rfl rfl rfl <| Zhu 18 rfl rfl rfl rfl <| Zht 19 rfl (ypt rfl rfl) <| Zht 20 rfl (ya rfl) <| Zht 21 rfl (ya rfl) <| Zhn (by kernel_rfl) <| Znx <| Zrt ?_
    rotate_left
    refine Zhg 6 rfl rfl (lkn rfl (decide_eq_false h98)) (yf 0 rfl) <| Zhg 7 rfl rfl (lkn rfl (decide_eq_false h98)) (yd 2 rfl rfl rfl) <| Zhg 8 rfl rfl (lkn rfl (decide_eq_false h98)) (yeq rfl rfl) <| Zht 9 rfl (ypf' rfl (decide_eq_false h98) rfl) <| Zht 10 rfl (ym rfl) <| Zhgs 11 rfl rfl rfl (fun h103 => ?_) (fun h103 => ?_)
    refine Zhu 11 rfl rfl (lkn rfl (decide_eq_true h103)) rfl <| Zhu 12 rfl rfl (lkn rfl (decide_eq_true h103)) rfl <| Zhu 13 rfl rfl (lkn rfl (decide_eq_true h103)) rfl <| Zhu 14 rfl rfl (lkn rfl (decide_eq_true h103)) rfl <| Zhuu 15 rfl rfl rfl <| Zhuu 16 rfl rfl rfl <| Zhuu 17 rfl rfl rfl <| Zhu 18 rfl rfl (lkn rfl (decide_eq_true h103)) rfl <| Zht 19 rfl (ypt' rfl (decide_eq_true h103) rfl) <| Zht 20 rfl (ya rfl) ?_
    refine Zht 21 rfl (ya rfl) <| Zhn (by kernel_rfl) <| Znx <| Zrt ?_
    rotate_left
    refine Zhg 11 rfl rfl (lkn rfl (decide_eq_false h103)) (yf 0 rfl) <| Zhg 12 rfl rfl (lkn rfl (decide_eq_false h103)) (yd 2 rfl rfl rfl) <| Zhg 13 rfl rfl (lkn rfl (decide_eq_false h103)) (yge rfl rfl) <| Zhg 14 rfl rfl (lkn rfl (decide_eq_false h103)) (ym rfl) <| Zhgs 15 rfl rfl rfl (fun h107 => ?_) (fun h107 => ?_)
    refine Zhg 15 rfl rfl (lkn rfl (decide_eq_true h107)) (yf 0 rfl) <| Zhg 16 rfl rfl (lkn rfl (decide_eq_true h107)) (yd 2 rfl rfl rfl) <| Zhg 17 rfl rfl (lkn rfl (decide_eq_true h107)) (yle rfl rfl) <| Zhg 18 rfl rfl (lkn rfl (decide_eq_false h103)) (ypt' rfl (decide_eq_true h107) rfl) <| Zht 19 rfl (ypf' rfl (decide_eq_false h103) rfl) <| Zht 20 rfl (ya rfl) <| Zht 21 rfl (ya rfl) <| Zhn (by kernel_rfl) <| Znx <| Zrt ?_
    rotate_left
    refine Zhu 15 rfl rfl (lkn rfl (decide_eq_false h107)) rfl <| Zhu 16 rfl rfl (lkn rfl (decide_eq_false h107)) rfl <| Zhu 17 rfl rfl (lkn rfl (decide_eq_false h107)) rfl <| Zhg 18 rfl rfl (lkn rfl (decide_eq_false h103)) (ypf' rfl (decide_eq_false h107) rfl) <| Zht 19 rfl (ypf' rfl (decide_eq_false h103) rfl) <| Zht 20 rfl (ya rfl) <| Zht 21 rfl (ya rfl) <| Zhn (by kernel_rfl) <| Znx <| Zrt ?_
    rotate_left
    · refine Zre (.t rfl (.t rfl .n)) (hS _ _ (hv.trans (by simp [valG, *]))) [] 4 rfl rfl rfl rfl
    · refine Zre (.t rfl (.t rfl .n)) (hS _ _ (hv.trans (by simp [valG, *]))) [] 4 rfl rfl rfl rfl
    · refine Zre (.t rfl (.t rfl .n)) (hS _ _ (hv.trans (by simp [valG, *]))) [] 4 rfl rfl rfl rfl
    · refine Zre (.t rfl (.t rfl .n)) (hS _ _ (hv.trans (by simp [valG, *]))) [] 4 rfl rfl rfl rfl
    · refine Zre (.t rfl (.t rfl .n)) (hS _ _ (hv.trans (by simp [valG, *]))) [] 5 rfl rfl rfl rfl
    · refine Zre (.t rfl (.t rfl .n)) (hS _ _ (hv.trans (by simp [valG, *]))) [] 5 rfl rfl rfl rfl
    · refine Zre (.t rfl (.t rfl .n)) (hS _ _ (hv.trans (by simp [valG, *]))) [] 5 rfl rfl rfl rfl
    · refine Zre (.t rfl (.t rfl .n)) (hS _ _ (hv.trans (by simp [valG, *]))) [] 5 rfl rfl rfl rfl
    · refine Zre (.t rfl (.t rfl .n)) (hS _ _ (hv.trans (by simp [valG, *]))) [] 4 rfl rfl rfl rfl
    · refine Zre (.t rfl (.t rfl .n)) (hS _ _ (hv.trans (by simp [valG, *]))) [] 4 rfl rfl rfl rfl
    · refine Zre (.t rfl (.t rfl .n)) (hS _ _ (hv.trans (by simp [valG, *]))) [] 4 rfl rfl rfl rfl
    · refine Zre (.t rfl (.t rfl .n)) (hS _ _ (hv.trans (by simp [valG, *]))) [] 4 rfl rfl rfl rfl
    · refine Zre (.t rfl (.t rfl .n)) (hS _ _ (hv.trans (by simp [valG, *]))) [] 4 rfl rfl rfl rfl
    · refine Zre (.t rfl (.t rfl .n)) (hS _ _ (hv.trans (by simp [valG, *]))) [] 4 rfl rfl rfl rfl
  | some p =>
    have hl : lk i.op (fnL twoT) = some (fnV p.1) := by rw [hlk, hp]; rfl
    obtain ⟨hc, hok⟩ := two_sp hp
    have hv : valF h i a = some (p.2 (h.reg i.rs1) (if 19 ≤ i.op ∧ i.op ≤ 27 then i.imm else h.reg i.rs2)) := by unfold valF; rw [hp]
    refine Zen Tryz.func209 rfl rfl rfl fun e X Φ hS => Zsr <| Ze (ebxE rfl) fun b3 => Zw <| Ze (ebxE rfl) fun b4 => Zw <| Ze (ebxE rfl) fun b5 => Zw <| Zv (ya rfl) <| Zv (ya rfl) <| Znl <| Znx <| Zsq ?_
    refine Zsq <| Zhd [] rfl rfl <| Zht 1 rfl (yf 0 rfl) <| Zht 2 rfl (yd 1 rfl rfl rfl) <| Zh1 0 (by kernel_rfl) <| Zok (c242 ..) [] rfl rfl rfl <| fun r => Zqh 1 rfl <| Zh1 3 (by kernel_rfl) <| Zov rfl (ylk' 0 hl rfl rfl rfl Tryz.underlying371 Tryz.underlying42 zv255) <| Zht 4 rfl (ym rfl) <| Zht 5 rfl (yx rfl rfl) ?_
    refine Zht 6 rfl (yx rfl rfl) <| Zht 7 rfl (ya rfl) <| Zht 8 rfl (ya rfl) <| Zhn (by kernel_rfl) <| Znx <| Zsr <| Zv (ym rfl) <| Znl <| Znx <| Zct rfl ?_
    refine Zsr <| Zv (yf 3 rfl) <| Zv (yd 2 rfl rfl rfl) <| Zv (yf 2 rfl) <| Zv (yai Tryz.underlying57 rfl rfl (by omega)) <| Zv (yd 3 rfl rfl (nt_reg _ _ (by omega))) <| Zv (ya rfl) <| Znl <| Znx <| Zsq ?_
    refine Zsr <| Zv (yf 0 rfl) <| Zv (yd 2 rfl rfl rfl) <| Zv (yge rfl rfl) <| Zv (ym rfl) <| Zgs rfl rfl (fun h27 => ?_) (fun h27 => ?_)
    refine Zg' rfl rfl (decide_eq_true h27) <| Zv (yf 0 rfl) <| Zg' rfl rfl (decide_eq_true h27) <| Zv (yd 2 rfl rfl rfl) <| Zg' rfl rfl (decide_eq_true h27) <| Zv (yle rfl rfl) <| Zv (ypt' rfl (decide_eq_true h27) rfl) <| Znl <| Znx <| Zif rfl (fun h31 => ?_) (fun h31 => ?_)
    refine Zrg <| Zv (yf 4 rfl) <| Zv (yd 2 rfl rfl rfl) <| Zv (ya rfl) <| Znl <| Znx <| Zsr <| Zv (ym rfl) <| Zv (yf 2 rfl) <| Zv (yd 2 rfl rfl rfl) ?_
    refine Zv (yf 2 rfl) <| Zv (yai Tryz.underlying57 rfl rfl (by omega)) <| Zv (yd 3 rfl rfl (nt_reg _ _ (by omega))) <| Zv (ym rfl) ?_
    rotate_left
    refine Zsk <| Znx <| Zsr <| Zv (ym rfl) <| Zv (yf 2 rfl) <| Zv (yd 2 rfl rfl rfl) <| Zv (yf 2 rfl) <| Zv (yai Tryz.underlying57 rfl rfl (by omega)) <| Zv (yd 3 rfl rfl (nt_reg _ _ (by omega))) <| Zv (ym rfl) ?_
    rotate_left
    refine Zu' rfl rfl (decide_eq_false h27) rfl <| Zu' rfl rfl (decide_eq_false h27) rfl <| Zu' rfl rfl (decide_eq_false h27) rfl <| Zv (ypf' rfl (decide_eq_false h27) rfl) <| Znl <| Znx <| Zcf rfl <| Zsk <| Znx <| Zsr ?_
    refine Zv (ym rfl) <| Zv (yf 2 rfl) <| Zv (yd 2 rfl rfl rfl) <| Zv (yf 2 rfl) <| Zv (yai Tryz.underlying57 rfl rfl (by omega)) <| Zv (yd 3 rfl rfl (nt_reg _ _ (by omega))) <| Zv (ym rfl) ?_
    rotate_left
    · refine Zkv (hc (h.reg i.rs1) i.imm hi) [] rfl rfl rfl rfl <| Zq <| Zv (ya rfl) <| Zv (ya rfl) <| Znl <| Znx <| Zrt <| Zr1 ?_
      refine Zre (.t rfl (.t rfl .n)) (hS _ _ (by simp [*])) [] 4 rfl rfl rfl rfl
    all_goals
      refine Zkv (hc (h.reg i.rs1) (h.reg i.rs2) (ok.reg _)) [] rfl rfl rfl rfl <| Zq <| Zv (ya rfl) <| Zv (ya rfl) <| Znl <| Znx <| Zrt <| Zr1 ?_
      refine Zre (.t rfl (.t rfl .n)) (hS _ _ (by simp [*])) [] 4 rfl rfl rfl rfl
end Go.Proofs.YtpfijldkkfiooaaGreatDoor
namespace Go.Proofs.YtpfijldkkfiooaaGreatDoor
open Go Go.RowKit
def edgesOf (ops : Array Oper) (x : Nat) : List Nat := match ops[x]? with
  | some o => (o.after.toList.filter (Region.binds .any)).map (·.on)
  | none => []
def reachF (ops : Array Oper) : Nat → List Nat → List Nat
  | 0, S => S
  | x + 1, S => reachF ops x (if S.contains x then ((edgesOf ops x).filter fun y => !S.contains y) ++ S else S)
def reach (ops : Array Oper) (i : Nat) : List Nat := reachF ops (i + 1) [i]
theorem edges_mem {ops : Array Oper} {x y : Nat} : y ∈ edgesOf ops x ↔ ∃ o, ops[x]? = some o ∧ ∃ e ∈ o.after, Region.binds .any e = true ∧ e.on = y := by
  unfold edgesOf
  cases h : ops[x]? with
  | none => simp
  | some o => simp [and_assoc]
theorem reach_ok {ops : Array Oper} {listed : Array Bool} {i : Nat} (hi : ∀ y ∈ edgesOf ops i, listed.getD y false = true) (hc : ∀ x, listed.getD x false = true → ∀ y ∈ edgesOf ops x, listed.getD y false = true) : ∀ (n : Nat) (S : List Nat), (∀ x ∈ S, x = i ∨ listed.getD x false = true) → ∀ x ∈ reachF ops n S, x = i ∨ listed.getD x false = true
  | 0, _, hS => hS
  | n + 1, S, hS => by
    unfold reachF
    refine reach_ok hi hc n _ ?_
    split
    · rename_i hn
      intro x hx
      rcases List.mem_append.1 hx with hx | hx
      · have hx := (List.mem_filter.1 hx).1
        rcases hS n (by simpa using hn) with e | e
        · subst e; exact .inr (hi x hx)
        · exact .inr (hc n e x hx)
      · exact hS x hx
    · exact hS
def headU (ops : Array Oper) (k u : Nat) : Bool :=
  decide (k ≤ ops.size ∧ u + 1 < k ∧ edgesOf ops u = []) && (List.range ops.size).all fun i => match ops[i]? with
    | none => true
    | some o => o.after.toList.all (fun e => !Region.binds .any e || decide (e.on < i)) && (match o.guard with | some (j, _) => decide (j < i) | none => true) &&
      (decide (i < k) || (decide (i = k) || o.after.toList.any fun e => e.on + 1 == i && Region.binds .any e) && (let R := reach ops i; (List.range k).all fun j => decide (j = u) || R.contains j))
section
variable {P : Program} {Q : Exit → Act → World → Prop} {ops : Array Oper} {k u : Nat}
theorem headU_le (h : headU ops k u = true) : k ≤ ops.size := by
  unfold headU at h
  rw [Bool.and_eq_true] at h
  exact (of_decide_eq_true h.1).1
theorem headU_lt (h : headU ops k u = true) : u + 1 < k := by
  unfold headU at h
  rw [Bool.and_eq_true] at h
  exact (of_decide_eq_true h.1).2.1
theorem headU_nil (h : headU ops k u = true) : edgesOf ops u = [] := by
  unfold headU at h
  rw [Bool.and_eq_true] at h
  exact (of_decide_eq_true h.1).2.2
theorem headU_at (h : headU ops k u = true) {i : Nat} {o : Oper} (ho : ops[i]? = some o) : (∀ e ∈ o.after, Region.binds .any e = true → e.on < i) ∧ (∀ j b, o.guard = some (j, b) → j < i) ∧ (k < i → ∃ e ∈ o.after, e.on + 1 = i ∧ Region.binds .any e = true) ∧ (k ≤ i → ∀ j, j < k → j ≠ u → j ∈ reach ops i) := by
  have hi : i < ops.size := (Array.getElem?_eq_some_iff.1 ho).1
  unfold headU at h
  rw [Bool.and_eq_true, List.all_eq_true] at h
  have h1 := h.2 i (List.mem_range.2 hi)
  rw [ho] at h1
  simp only [Bool.and_eq_true] at h1
  obtain ⟨⟨h1, h2⟩, h3⟩ := h1
  refine ⟨fun e he hb => ?_, fun j b hg => ?_, fun hki => ?_, fun hki j hj hu => ?_⟩
  · have := (List.all_eq_true.1 h1) e (Array.mem_toList_iff.2 he)
    simpa [hb] using this
  · rw [hg] at h2
    exact of_decide_eq_true h2
  · rw [Bool.or_eq_true] at h3
    rcases h3 with h3 | h3
    · have := of_decide_eq_true h3; omega
    · rw [Bool.and_eq_true, Bool.or_eq_true] at h3
      have this := h3.1.resolve_left (by simp; omega)
      rw [List.any_eq_true] at this
      obtain ⟨e, he, h9⟩ := this
      rw [Bool.and_eq_true] at h9
      exact ⟨e, Array.mem_toList_iff.1 he, by simpa using h9.1, h9.2⟩
  · rw [Bool.or_eq_true] at h3
    rcases h3 with h3 | h3
    · have := of_decide_eq_true h3; omega
    · rw [Bool.and_eq_true] at h3
      have := List.all_eq_true.1 h3.2 j (List.mem_range.2 hj)
      rw [Bool.or_eq_true] at this
      have this := this.resolve_left (by simpa using hu)
      simpa using this
theorem first_readyU (h : headU ops k u = true) {listed : Array Bool} (hsz : listed.size = ops.size) (hr : Region.ready .any ops listed = []) : ∀ i, i < ops.size → listed.getD i false = true := by
  intro i
  induction i using Nat.strongRecOn with
  | _ i ih =>
    intro hi
    cases hl : listed.getD i false with
    | true => rfl
    | false =>
      exfalso
      have ho : ops[i]? = some ops[i] := Array.getElem?_eq_getElem hi
      have h2 := (headU_at h ho).1
      have : i ∈ Region.ready .any ops listed := by
        refine mem_ready.2 ⟨?_, ops[i], ho, fun e he hb => ih e.on (h2 e he hb) (Nat.lt_trans (h2 e he hb) hi)⟩
        have : i < listed.size := by omega
        simp [this] at hl ⊢
        exact hl
      rw [hr] at this
      cases this
theorem wpAny_turnU (hB : headU ops k u = true) : ∀ (m i fuel : Nat) (listed : Array Bool) (a : Act) (w : World), i + m = ops.size → k ≤ i → m ≤ fuel → listed.size = ops.size →
    (∀ j, j < ops.size → (listed.getD j false = true ↔ j < i)) → wpList P ops Q (ops.toList.drop i) a w → wpAny P .any ops Q fuel listed a w := by
  intro m
  induction m with
  | zero =>
    intro i fuel listed a w him hki hf hsz hl h
    have hd : ops.toList.drop i = [] := List.drop_eq_nil_of_le (by simp; omega)
    rw [hd] at h
    have hr : Region.ready .any ops listed = [] := by
      rw [List.eq_nil_iff_forall_not_mem]
      intro j hj
      obtain ⟨hun, o, ho, _⟩ := mem_ready.1 hj
      have hjs : j < ops.size := (Array.getElem?_eq_some_iff.1 ho).1
      have h1 := (hl j hjs).2 (by omega)
      have h2 := getD_true_of_false (by omega) hun
      rw [h1] at h2
      cases h2
    cases fuel with
    | zero => exact ⟨hr, h⟩
    | succ f =>
      refine ⟨fun _ => h, fun j hj => ?_⟩
      rw [hr] at hj
      cases hj
  | succ m ih =>
    intro i fuel listed a w him hki hf hsz hl h
    cases fuel with
    | zero => omega
    | succ f =>
      have hi : i < ops.size := by omega
      have ho : ops[i]? = some ops[i] := Array.getElem?_eq_getElem hi
      have hli : listed.getD i false = false := by
        cases hq : listed.getD i false with
        | false => rfl
        | true => have := (hl i hi).1 hq; omega
      refine ⟨fun hr => ?_, fun j hj => ?_⟩
      · have := first_readyU hB hsz hr i hi
        rw [this] at hli
        cases hli
      · obtain ⟨hun, o, hoj, hedges⟩ := mem_ready.1 hj
        have hjs : j < ops.size := (Array.getElem?_eq_some_iff.1 hoj).1
        have hlj := getD_true_of_false (by omega) hun
        have hij : i ≤ j := by
          rcases Nat.lt_or_ge j i with h1 | h1
          · have := (hl j hjs).2 h1
            rw [this] at hlj
            cases hlj
          · exact h1
        have hji : j = i := by
          rcases Nat.lt_or_ge i j with h1 | h1
          · obtain ⟨e, he, he1, he2⟩ := (headU_at hB hoj).2.2.1 (by omega)
            have := hedges e he he2
            rw [hl e.on (by omega)] at this
            omega
          · omega
        subst hji
        have hd : ops.toList.drop j = ops[j] :: ops.toList.drop (j + 1) := by
          rw [List.drop_eq_getElem_cons (by simpa using hi)]
          simp
        have next : ∀ a w, wpList P ops Q (ops.toList.drop (j + 1)) a w → wpAny P .any ops Q f (listed.setIfInBounds j true) a w := by
          intro a w h
          refine ih (j + 1) f _ a w (by omega) (by omega) (by omega) (by simpa using hsz) (fun q hq => ?_) h
          rw [Array.getD_eq_getD_getElem?, Array.getElem?_setIfInBounds]
          by_cases hjq : j = q
          · subst hjq
            have : j < listed.size := by omega
            simp [this]
          · rw [if_neg hjq, ← Array.getD_eq_getD_getElem?, hl q hq]
            omega
        rw [hd] at h
        unfold wpOp
        rw [ho]
        simp only []
        unfold wpList at h
        split
        · rename_i hw
          rw [if_pos hw] at h
          rcases h with h | h
          · exact .inl (Oper.wp_mono next h)
          · exact .inr h
        · rename_i hw
          rw [if_neg hw] at h
          exact next _ _ h
theorem wpAny_headU (hB : headU ops k u = true) : ∀ (fuel : Nat) (la lf : Array Bool) (a : Act) (w : World), la.size = k → lf.size = ops.size → (∀ j, j < k → lf.getD j false = la.getD j false) → (∀ j, k ≤ j → lf.getD j false = false) → la.getD u false = true → (∀ x, lf.getD x false = true → ∀ y ∈ edgesOf ops x, lf.getD y false = true) →
    wpAny P .any (ops.toList.take k).toArray (tailQ P ops Q k) fuel la a w → wpAny P .any ops Q (fuel + (ops.size - k)) lf a w := by
  have hk := headU_le hB
  have hget : ∀ i, i < k → (ops.toList.take k).toArray[i]? = ops[i]? := by
    intro i hi
    simp [hi]
  have hsz' : (ops.toList.take k).toArray.size = k := by simp; omega
  -- readiness in the head
  have hready : ∀ (la lf : Array Bool), la.size = k → lf.size = ops.size → (∀ j, j < k → lf.getD j false = la.getD j false) → ∀ i, i < k → (i ∈ Region.ready .any ops lf ↔ i ∈ Region.ready .any (ops.toList.take k).toArray la) := by
    intro la lf h1 h2 h3 i hi
    have hun : lf.getD i true = la.getD i true := by
      have := h3 i hi
      have e1 : i < lf.size := by omega
      have e2 : i < la.size := by omega
      simp [e1, e2] at this ⊢
      exact this
    constructor
    · intro h
      obtain ⟨hu, o, ho, he⟩ := mem_ready.1 h
      refine mem_ready.2 ⟨by rw [← hun]; exact hu, o, by rw [hget i hi]; exact ho, fun e hm hb => ?_⟩
      have hlt := (headU_at hB ho).1 e hm hb
      rw [← h3 e.on (by omega)]
      exact he e hm hb
    · intro h
      obtain ⟨hu, o, ho, he⟩ := mem_ready.1 h
      rw [hget i hi] at ho
      refine mem_ready.2 ⟨by rw [hun]; exact hu, o, ho, fun e hm hb => ?_⟩
      have hlt := (headU_at hB ho).1 e hm hb
      rw [h3 e.on (by omega)]
      exact he e hm hb
  -- the head is through
  have turn : ∀ (fuel : Nat) (la lf : Array Bool) (a : Act) (w : World), la.size = k → lf.size = ops.size → (∀ j, j < k → lf.getD j false = la.getD j false) → (∀ j, k ≤ j → lf.getD j false = false) →
      (∀ i, i < k → la.getD i false = true) → wpList P ops Q (ops.toList.drop k) a w → wpAny P .any ops Q (fuel + (ops.size - k)) lf a w := by
    intro fuel la lf a w h1 h2 h3 h4 hall h
    refine wpAny_turnU hB (ops.size - k) k _ lf a w (by omega) (Nat.le_refl _) (by omega) h2 (fun j hj => ⟨fun hj2 => ?_, fun hj2 => by rw [h3 j hj2]; exact hall j hj2⟩) h
    rcases Nat.lt_or_ge j k with h9 | h9
    · exact h9
    · rw [h4 j h9] at hj2
      cases hj2
  have hfr : ∀ (la lf : Array Bool), la.size = k → lf.size = ops.size → (∀ j, j < k → lf.getD j false = la.getD j false) → Region.ready .any (ops.toList.take k).toArray la = [] → ∀ i, i < k → la.getD i false = true := by
    intro la lf h1 h2 h3 hr i
    induction i using Nat.strongRecOn with
    | _ i ih =>
      intro hi
      cases hl : la.getD i false with
      | true => rfl
      | false =>
        exfalso
        have ho : ops[i]? = some (ops[i]'(by omega)) := Array.getElem?_eq_getElem (by omega)
        have h9 := (headU_at hB ho).1
        have : i ∈ Region.ready .any (ops.toList.take k).toArray la := by
          refine mem_ready.2 ⟨?_, _, by rw [hget i hi]; exact ho, fun e he hb => ih e.on (h9 e he hb) (Nat.lt_trans (h9 e he hb) hi)⟩
          have : i < la.size := by omega
          simp [this] at hl ⊢
          exact hl
        rw [hr] at this
        cases this
  intro fuel
  induction fuel with
  | zero =>
    intro la lf a w h1 h2 h3 h4 hu hcl h
    exact turn 0 la lf a w h1 h2 h3 h4 (hfr la lf h1 h2 h3 h.1) h.2
  | succ fuel ih =>
    intro la lf a w h1 h2 h3 h4 hu hcl h
    by_cases hr : Region.ready .any (ops.toList.take k).toArray la = []
    · exact turn (fuel + 1) la lf a w h1 h2 h3 h4 (hfr la lf h1 h2 h3 hr) (h.1 hr)
    · rw [show fuel + 1 + (ops.size - k) = (fuel + (ops.size - k)) + 1 by omega]
      refine ⟨fun hrf => absurd ?_ hr, fun i hi => ?_⟩
      · rw [List.eq_nil_iff_forall_not_mem]
        intro j hj
        obtain ⟨_, o, ho, _⟩ := mem_ready.1 hj
        have hjk : j < k := by have := (Array.getElem?_eq_some_iff.1 ho).1; omega
        have := (hready la lf h1 h2 h3 j hjk).2 hj
        rw [hrf] at this
        cases this
      · obtain ⟨hun, o, ho, hedges⟩ := mem_ready.1 hi
        have his : i < ops.size := (Array.getElem?_eq_some_iff.1 ho).1
        have hik : i < k := by
          rcases Nat.lt_or_ge i k with h9 | h9
          · exact h9
          · exfalso
            refine hr ?_
            rw [List.eq_nil_iff_forall_not_mem]
            intro j hj
            obtain ⟨hunj, oj, hoj, _⟩ := mem_ready.1 hj
            have hjk : j < k := by have := (Array.getElem?_eq_some_iff.1 hoj).1; omega
            have hju : j ≠ u := fun e => by rw [e] at hunj; have := getD_true_of_false (by omega) hunj; rw [hu] at this; cases this
            have hin : ∀ y ∈ edgesOf ops i, lf.getD y false = true := fun y hy => by
              obtain ⟨o', ho', e, he, hb, rfl⟩ := edges_mem.1 hy
              rw [ho] at ho'
              cases ho'
              exact hedges e he hb
            rcases reach_ok hin hcl _ [i] (fun x hx => .inl (List.mem_singleton.1 hx)) j ((headU_at hB ho).2.2.2 h9 j hjk hju) with e | hl
            · omega
            · rw [h3 j hjk] at hl
              have := getD_true_of_false (by omega) hunj
              rw [hl] at this
              cases this
        have hia := (hready la lf h1 h2 h3 i hik).1 hi
        have hop := h.2 i hia
        have next : ∀ a w, wpAny P .any (ops.toList.take k).toArray (tailQ P ops Q k) fuel (la.setIfInBounds i true) a w → wpAny P .any ops Q (fuel + (ops.size - k)) (lf.setIfInBounds i true) a w := by
          intro a w h
          refine ih _ _ a w (by simpa using h1) (by simpa using h2) (fun j hj => ?_) (fun j hj => ?_) ?_ (fun x hx y hy => ?_) h
          · rw [Array.getD_eq_getD_getElem?, Array.getD_eq_getD_getElem?, Array.getElem?_setIfInBounds, Array.getElem?_setIfInBounds]
            by_cases hij : i = j
            · subst hij
              simp [show i < lf.size by omega, show i < la.size by omega]
            · rw [if_neg hij, if_neg hij, ← Array.getD_eq_getD_getElem?, ← Array.getD_eq_getD_getElem?]
              exact h3 j hj
          · rw [Array.getD_eq_getD_getElem?, Array.getElem?_setIfInBounds, if_neg (by omega), ← Array.getD_eq_getD_getElem?]
            exact h4 j hj
          · rw [Array.getD_eq_getD_getElem?, Array.getElem?_setIfInBounds]
            split
            · simp [show i < la.size by omega]
            · rw [← Array.getD_eq_getD_getElem?]
              exact hu
          · have keep : ∀ z, lf.getD z false = true → (lf.setIfInBounds i true).getD z false = true := fun z hz => by
              rw [Array.getD_eq_getD_getElem?, Array.getElem?_setIfInBounds]
              split
              · simp [show i < lf.size by omega]
              · rw [← Array.getD_eq_getD_getElem?]; exact hz
            refine keep y ?_
            by_cases hxi : x = i
            · subst hxi
              obtain ⟨o', ho', e, he, hb, rfl⟩ := edges_mem.1 hy
              rw [ho] at ho'
              cases ho'
              exact hedges e he hb
            · rw [Array.getD_eq_getD_getElem?, Array.getElem?_setIfInBounds, if_neg (fun e => hxi e.symm), ← Array.getD_eq_getD_getElem?] at hx
              exact hcl x hx y hy
        have hy : ∀ tm, Region.wanted o (yielded ops tm) = Region.wanted o (yielded (ops.toList.take k).toArray tm) := by
          intro tm
          unfold Region.wanted
          cases hg : o.guard with
          | none => rfl
          | some p =>
            obtain ⟨j, b⟩ := p
            have hj := (headU_at hB ho).2.1 j b hg
            simp only []
            unfold yielded
            rw [hget j (by omega)]
        unfold wpOp at hop ⊢
        rw [hget i hik, ho] at hop
        rw [ho]
        simp only [] at hop ⊢
        rw [hy]
        split
        · rename_i hw
          rw [if_pos hw] at hop
          rcases hop with hop | ⟨q1, q2⟩
          · exact .inl (Oper.wp_mono next (wp_tailQ hop))
          · exact .inr ⟨q1, q2⟩
        · rename_i hw
          rw [if_neg hw] at hop
          exact next _ _ hop
theorem any_held_true {md : Region.Mode} : ∀ (fuel : Nat) (listed : Array Bool) (a : Act) (w : World), wpAny P md ops Q fuel listed a w → wpAnyH P md ops Q (fun _ => True) fuel listed a w
  | 0, _, _, _, h => h
  | fuel + 1, _, _, _, h => ⟨h.1, fun i hi => wpOp_mono (fun a' w' h' => ⟨trivial, any_held_true fuel _ a' w' h'⟩) (h.2 i hi)⟩
end
section
variable {P : Program} {n : Nat} {N : Nat × List Deferred} {T : Tb} {e : World} {Q : Exit → Act → World → Prop} {os : List Oper} {L M S : List Ck} {d : Nat} {v : Value} {ty : TypeId} {pos : String} {af : Array Edge} {x : Operand}
theorem Zhu_ {id k' : Nat} (k u : Nat) (is : List Nat) (hL : sel L is = some (M, S)) (hn : (os.take k).length = k' + 1) (hu : nth os u = some ⟨some d, .move x, ty, pos, af, none⟩) (hx : evT T x = some v)
    (h : ZH P none (os.take k) (tailQ P os.toArray Q k) k' ((Array.replicate (k' + 1) false).setIfInBounds u true) N ((d, v) :: T) e S M) (hok : takeOk os (Array.replicate os.length false) u = true := by kernel_rfl) (hN : Nat.blt d N.1 = true := by rfl)
    (hQ : ∀ c a w, Q (.panic c) (a.put (some d) v) w → Q (.panic c) a w := by first | exact fun _ _ _ h => h | exact fun _ _ _ h => panic_bp (by kernel_rfl) h | exact fun _ _ _ h => panic_bd (by kernel_rfl) h)
    (hB : headU os.toArray k u = true := by kernel_rfl) (hnd : noDef os = true := by rfl) (hm : P.follows .mixedOrders = true := by kernel_rfl) : ZC P none n (.region id os.toArray true) Q N T e L := fun w hp ok a fr => by
  refine drawn_in (k := os.length) ok hnd (fun _ => True) hm rfl fun w1 h1 => ?_
  have hk := headU_le hB
  have hlt := headU_lt hB
  have hk2 : k' + 1 = k := by rw [← hn, List.length_take]; simp at hk; omega
  have hsz : os.length = (k' + (os.toArray.size - k)) + 1 := by simp at hk ⊢; omega
  have hdN : d < N.1 := Nat.le_of_ble_eq_true hN
  rw [show wpAnyH P .any os.toArray Q (fun _ => True) os.length = wpAnyH P .any os.toArray Q (fun _ => True) ((k' + (os.toArray.size - k)) + 1) by rw [← hsz]]
  refine fx_take (o := ⟨some d, .move x, ty, pos, af, none⟩) fr (by rw [nth_eq] at hu; exact hu) hok (wanted_no _) rfl hdN hQ (fun w _ => x_move rfl (fr.evT hx)) trivial fun a fr => any_held_true _ _ _ _ ?_
  have hz := wpAny_of_held _ _ _ _ (h w1 ((hp.same h1).sel hL) ok a fr)
  refine wpAny_headU (u := u) hB k' _ _ a w1 (by simp [hk2]) (by simp) (fun j hj => ?_) (fun j hj => ?_) ?_ (fun x hx y hy => ?_) hz
  · rw [Array.getD_eq_getD_getElem?, Array.getD_eq_getD_getElem?, Array.getElem?_setIfInBounds, Array.getElem?_setIfInBounds, Array.getElem?_replicate, Array.getElem?_replicate]
    simp only [Array.size_replicate]
    have : os.toArray.size = os.length := by simp
    repeat' split
    all_goals first | rfl | omega
  · rw [Array.getD_eq_getD_getElem?, Array.getElem?_setIfInBounds, if_neg (by omega), Array.getElem?_replicate]
    split <;> rfl
  · rw [Array.getD_eq_getD_getElem?, Array.getElem?_setIfInBounds, if_pos rfl]
    simp only [Array.size_replicate]
    rw [if_pos (by omega)]
    rfl
  · have hxu : x = u := by
      rcases Nat.decEq x u with hne | he
      · exfalso
        rw [Array.getD_eq_getD_getElem?, Array.getElem?_setIfInBounds, if_neg (fun e => hne e.symm), Array.getElem?_replicate] at hx
        split at hx <;> cases hx
      · exact he
    rw [hxu, headU_nil hB] at hy
    cases hy
end
end Go.Proofs.YtpfijldkkfiooaaGreatDoor
namespace Go.Proofs.YtpfijldkkfiooaaGreatDoor
open Go Go.RowKit
theorem x_neqS {ev : Operand → Value} {o : Oper} {x y : Operand} {w : World} {s : ByteArray} {T' : TypeId} (ho : o.op = .binOp .neq 9 x y T') (hx : ev x = .string s) (hy : ev y = .string s) : (execOp ev o).run Tryz.prog w = .ok (.value (.bool false)) w := by
  have hT : Tryz.prog.underlying 9 = some .string := Tryz.underlying9
  simp [go_sem, execOp, ho, hx, hy, eqGuard, binOp, Op.equal, Op.maxDepth, hT, Op.stringOp]
section
variable {N : Nat × List Deferred} {T : Tb} {e : World} {L : List Ck} {ty : TypeId} {pos : String} {af : Array Edge} {g : Option (Nat × Bool)} {dd : Option Nat} {x y : Operand}
theorem ycvs (i : Nat) {c : Ck} {b o cap ln : Nat} {l : List Int} (hR : Rd u8E c (some ⟨b, o, none⟩) cap l) (hL : nth L i = some c) (h : evT T x = some (.slice (some ⟨b, o, none⟩) ln cap)) (hn : ln = l.length) : Yl Tryz.prog N T e L ⟨dd, .convert 23 9 x, ty, pos, af, g⟩ (.string (strOfNums l)) := fun a w fr hp => by
  subst hn
  have hv := hp.rd hL hR
  have hc : ∀ j, j < l.length → w.cell? ⟨b, o + j, none⟩ = some (.int .u8 (l.getD j 0)) := fun j hj => by
    have hA := hv.bk (by omega)
    have hr := hv.elem hA j 0 hj
    exact range_cell hr 0 (by rfl) (by show o + j * 1 + 0 = o + j; omega)
  have := run_convert_bytes_arg (P := Tryz.prog) w 23 5 Tryz.underlying23 Tryz.underlying5 b o l.length cap l rfl hc 9 Tryz.underlying9
  simp only [execOp, fr.evT h, Sem.run_bind, this, Result.andThen_ok, Sem.run_pure]
theorem ysne {s : ByteArray} {T' : TypeId} (h : evT T x = some (.string s)) (h1 : evT T y = some (.string s)) : Yl Tryz.prog N T e L ⟨dd, .binOp .neq 9 x y T', ty, pos, af, g⟩ (.bool false) := fun _ _ fr _ => x_neqS rfl (fr.evT h) (fr.evT h1)
theorem ysto {P : Program} {t el j ln cap : Nat} {A : Option Addr} {k1 : IntKind} {z : Operand} (s : Nat) (hu : P.underlying t = some (.slice el)) (h : evT T x = some (.slice A ln cap)) (h2 : evT T z = some (.int k1 ((j : Nat) : Int))) (hj : j ≤ cap) (hs : (P.info? el).map (·.size) = some s := by kernel_rfl) : Yl P N T e L ⟨dd, .slice t x none (some z) none, ty, pos, af, g⟩ (.slice A j cap) := fun _ _ fr _ => x_slice_to hu hs rfl (fr.evT h) (fr.evT h2) hj
end
section
variable {P : Program} {α : Type} [DecidableEq α] {E : Enc P α} {A : Option Addr} {cap : Nat} {l : List α} {c : Ck}
theorem Rd.pre (h : Rd E c A cap l) (k : Nat) : Rd E c A cap (l.take k) := fun hh hc w hl => (h hh hc w hl).pre k
theorem Rd.from_ (h : Rd E c A cap l) {k : Nat} (hk : k ≤ l.length) : Rd E c (cutA A cap k E.n) (cap - k) (l.drop k) := fun hh hc w hl => (h hh hc w hl).drop k hk
end
end Go.Proofs.YtpfijldkkfiooaaGreatDoor
namespace Go.Proofs.YtpfijldkkfiooaaGreatDoor
open Go Go.RowKit
def Fin (es : List MapEntry) (s : ByteArray) (v : Value) : Prop := ∃ i, Instr.findNow .string (.string s) es 0 = some (some (i, v))
def Fno (es : List MapEntry) (s : ByteArray) : Prop := Instr.findNow .string (.string s) es 0 = some none
theorem ba_beq (s s' : ByteArray) : (s == s') = decide (s = s') := by
  obtain ⟨a⟩ := s
  obtain ⟨b⟩ := s'
  show (a == b) = _
  by_cases h : a = b
  · subst h; simp
  · have : ¬ (ByteArray.mk a = ByteArray.mk b) := fun e => h (by cases e; rfl)
    rw [decide_eq_false this]
    simpa using h
theorem Fno.nil (s : ByteArray) : Fno [] s := rfl
theorem Fin.push {es : List MapEntry} {s : ByteArray} {v : Value} (h : Fin es s v) (e : MapEntry) : Fin (es ++ [e]) s v := by
  obtain ⟨i, h⟩ := h
  exact ⟨i, by rw [find_app, h]⟩
theorem Fno.put {es : List MapEntry} {s : ByteArray} (h : Fno es s) (v : Value) (c : Nat) : Fin (es ++ [⟨.string s, v, c⟩]) s v :=
  ⟨0 + es.length, by rw [find_app, h]; simp [Instr.findNow, Instr.sameNow, ba_beq]⟩
theorem Fno.push {es : List MapEntry} {s s' : ByteArray} (h : Fno es s) (hn : s ≠ s') (v : Value) (c : Nat) : Fno (es ++ [⟨.string s', v, c⟩]) s := by
  unfold Fno
  rw [find_app, h]
  simp [Instr.findNow, Instr.sameNow, ba_beq, hn]
abbrev smap (r : Nat) (es : List MapEntry) (c : Nat) : Ck := .obj r (.map es.toArray c)
section
variable {P : Program} {N : Nat × List Deferred} {T : Tb} {e : World} {L L' : List Ck} {x y z : Operand} {ty t : TypeId} {pos : String} {af : Array Edge} {g : Option (Nat × Bool)} {dd : Option Nat} {v : Value} {s : ByteArray}
theorem emkS : Ef P N T e L ⟨dd, .makeMap t none, ty, pos, af, g⟩ fun K => ∀ r, K (some (.map (some r))) (smap r [] 0 :: L) := fun a w fr hp G kk =>
  .inl ⟨.map (some w.heap.size), w.alloc (.map #[] 0), by simp [execOp, Instr.makeMap], kk w.heap.size _ (hp.newO ((Only.refl _ w).alloc _) (Go.heap_alloc_new w _) (Nat.le_refl _))⟩
theorem ylkS {q c : Nat} {es : List MapEntry} {K0 E : Nat} (i : Nat) (hf : Fin es s v) (h : evT T x = some (.map (some q))) (h1 : evT T y = some (.string s)) (hL : nth L i = some (smap q es c)) (ht : P.underlying t = some (.map K0 E)) (hK : P.underlying K0 = some .string) : Yl P N T e L ⟨dd, .lookup t x y false, ty, pos, af, g⟩ v := fun a w fr hp => by
  have hM : MapBlk w q es.toArray c := hp.ob hL
  obtain ⟨j, hf⟩ := hf
  have hq : (Instr.findKey K0 (.string s) es.toArray.toList).run P w = .ok (some (j, v)) w := MapKept.run_findKey hK (by simpa using hf)
  simp [execOp, fr.evT h, fr.evT h1, Instr.lookup, run_underlying ht, MapKept.run_getObj_map hM, MapKept.run_checkKey hK (k := .string s) trivial, hq, Result.andThen]
theorem einS {q c : Nat} {es : List MapEntry} {K0 E : Nat} (i : Nat) (hf : Fno es s) (h : evT T x = some (.map (some q))) (h1 : evT T y = some (.string s)) (h2 : evT T z = some v) (hL : nth L i = some (smap q es c)) (hL' : put L i (smap q (es ++ [⟨.string s, v, c⟩]) (c + 1)) = some L') (ht : P.underlying t = some (.map K0 E)) (hK : P.underlying K0 = some .string) : Ef P N T e L ⟨none, .insert t x y z, ty, pos, af, g⟩ fun K => K none L' := fun a w fr hp G kk => .inr (by
  have hM : MapBlk w q es.toArray c := hp.ob hL
  have hlt := hM.lt
  refine ⟨{ w with heap := w.heap.setIfInBounds q (.map (es.toArray.push ⟨.string s, v, c⟩) (c + 1)) }, ?_, kk _ (hp.back hL hL' fun M hp => hp.setO ⟨rfl, rfl, rfl, by simp, fun j hj hs => ?_⟩ ?_)⟩
  · have hq : (Instr.findKey K0 (.string s) es.toArray.toList).run P w = .ok none w := MapKept.run_findKey hK (by simpa [Fno] using hf)
    simp [execOp, fr.evT h, fr.evT h1, fr.evT h2, Instr.mapUpdate, run_underlying ht, MapKept.run_getObj_map hM, MapKept.run_checkKey hK (k := .string s) trivial, hq, MapKept.run_setObj_map _ hM, Result.andThen]
  · simp [show q ≠ j from fun h => hs h.symm]
  · simp [hlt])
end
section
variable {N : Nat × List Deferred} {T : Tb} {e : World} {L L' : List Ck} {x y z : Operand} {ty : TypeId} {pos : String} {af : Array Edge} {g : Option (Nat × Bool)} {dd : Option Nat} {s : ByteArray}
theorem ystl (h : evT T x = some (.string s)) : Yl Tryz.prog N T e L ⟨dd, .call { callee := .builtin .len, args := #[x], argTypes := #[9] }, ty, pos, af, g⟩ (.int .i64 (s.size : Int)) := fun a w fr hp => by
  simp [execOp, resolve, invoke, builtin, fr.evT h, run_len_string (P := Tryz.prog) w 9 ty s Tryz.underlying9, Result.andThen, goInt]
theorem ysti {i : Nat} (h : evT T x = some (.string s)) (h1 : evT T y = some (.int .i64 ((i : Nat) : Int))) (hi : i < s.size) : Yl Tryz.prog N T e L ⟨dd, .index 9 x y, ty, pos, af, g⟩ (.int .u8 ((s[i]'hi).toNat : Int)) := fun a w fr hp => by
  have := run_index_string (P := Tryz.prog) w 9 s .i64 (i : Int) Tryz.underlying9
  rw [dif_pos ⟨by omega, by omega⟩] at this
  simp [execOp, fr.evT h, fr.evT h1, this, Result.andThen]
theorem ysts {i j : Nat} (h : evT T x = some (.string s)) (h1 : evT T y = some (.int .i64 ((i : Nat) : Int))) (h2 : evT T z = some (.int .i64 ((j : Nat) : Int))) (hij : i ≤ j) (hj : j ≤ s.size) : Yl Tryz.prog N T e L ⟨dd, .slice 9 x (some y) (some z) none, ty, pos, af, g⟩ (.string (s.extract i j)) := fun a w fr hp => by
  have := run_slice_string (P := Tryz.prog) w 9 s .i64 .i64 (i : Int) (j : Int) Tryz.underlying9 (by omega) (by omega) (by omega)
  simp [execOp, Instr.sliceAt, fr.evT h, fr.evT h1, fr.evT h2, this, Result.andThen]
theorem ystr {i : Nat} (h : evT T x = some (.string s)) (h1 : evT T y = some (.int .i64 ((i : Nat) : Int))) (hi : i ≤ s.size) : Yl Tryz.prog N T e L ⟨dd, .slice 9 x (some y) none none, ty, pos, af, g⟩ (.string (s.extract i s.size)) := fun a w fr hp => by
  have := run_slice_string_l (P := Tryz.prog) w 9 s Tryz.underlying9 .i64 (i : Int) (by omega) (by omega)
  simp [execOp, Instr.sliceAt, fr.evT h, fr.evT h1, this, Result.andThen]
theorem ycpl {i r : Int} (h : evT T x = some (.int .i64 i)) (hr : IntKind.i64.wrap (BitVec.ofInt IntKind.i64.bits (-1) ^^^ BitVec.ofInt IntKind.i64.bits i).toNat = r) : Yl Tryz.prog N T e L ⟨dd, .unOp .xor 3 x, ty, pos, af, g⟩ (.int .i64 r) := fun a w fr hp => by
  subst hr
  simp [execOp, fr.evT h, Op.unary, Op.intBits, IntKind.signed]
theorem ebst (h : evT T x = some (.string s)) : Ef Tryz.prog N T e L ⟨dd, .buildSlice 387 1 #[(0, x)], ty, pos, af, g⟩ fun K => ∀ b, K (some (.slice (some ⟨b, 0, none⟩) 1 1)) (.blk b 9 [.string s] :: L) := fun a w fr hp G kk => .inl (by
  obtain ⟨i, hi, hz0, hz1, hz2⟩ := info_parts (show (Tryz.prog.info? 9).map (fun i => (i.zero, i.size, i.bytes)) = some (some (.string ByteArray.empty), 1, 16) by kernel_rfl)
  have hfill : Instr.fill (fun q => some (q * i.size, i.size)) ((Array.range (1 * i.size)).map ((Value.string ByteArray.empty).cells[· % (Value.string ByteArray.empty).cells.size]!)) [(0, .string s)] = some #[.string s] := by
    rw [hz1]
    generalize hzz : (Array.range (1 * 1)).map ((Value.string ByteArray.empty).cells[· % (Value.string ByteArray.empty).cells.size]!) = zz
    have hz1 : zz.size = 1 := by rw [← hzz]; simp
    rcases zz with ⟨_ | ⟨v0, _ | ⟨v1, l⟩⟩⟩
    · exact absurd hz1 (by simp)
    · rfl
    · exact absurd hz1 (by simp)
  have := run_buildSlice (P := Tryz.prog) w 387 9 1 #[(0, .string s)] #[.string s] i _ Tryz.underlying387 hi hz0 (by rw [hz1]; omega) (by rw [hz1]; omega) hfill
  refine ⟨.slice (some ⟨w.heap.size, 0, none⟩) 1 1, w.alloc (.cells #[.string s] 9), ?_, kk _ _ (hp.newB ((Only.refl _ w).alloc _) (Go.heap_alloc_new w _) (Nat.le_refl _))⟩
  simp [execOp, fr.evT h, this])
end
end Go.Proofs.YtpfijldkkfiooaaGreatDoor
namespace Go.Proofs.YtpfijldkkfiooaaGreatDoor
open Go Go.RowKit
def left (listed : Array Bool) (n : Nat) : Nat := ((List.range n).filter fun i => !listed.getD i true).length
theorem filt_lt {α : Type} {p q : α → Bool} : ∀ {l : List α}, (∀ x ∈ l, p x = true → q x = true) → (∃ x ∈ l, q x = true ∧ p x = false) → (l.filter p).length < (l.filter q).length
  | [], _, ⟨x, hx, _⟩ => by cases hx
  | y :: l, h, ⟨x, hx, h1, h2⟩ => by
    have hle : (l.filter p).length ≤ (l.filter q).length := by
      have : ∀ l : List α, (∀ x ∈ l, p x = true → q x = true) → (l.filter p).length ≤ (l.filter q).length := fun l => by
        induction l with
        | nil => intro _; exact Nat.le_refl _
        | cons z l ih =>
          intro hz
          have := ih fun x hx => hz x (.tail _ hx)
          cases hp : p z with
          | true => simp [hp, hz z (.head _) hp]; omega
          | false => cases hq : q z <;> simp [hp, hq] <;> omega
      exact this l fun x hx => h x (.tail _ hx)
    rcases List.mem_cons.1 hx with rfl | hx
    · simp [h1, h2]; omega
    · have := filt_lt (fun x hx => h x (.tail _ hx)) ⟨x, hx, h1, h2⟩
      cases hp : p y with
      | true => simp [hp, h y (.head _) hp]; omega
      | false => cases hq : q y <;> simp [hp, hq] <;> omega
theorem getD_set_t {listed : Array Bool} {i j : Nat} {d : Bool} (h : j ≠ i) : (listed.setIfInBounds i true).getD j d = listed.getD j d := by
  rw [Array.getD_eq_getD_getElem?, Array.getElem?_setIfInBounds, if_neg (fun e => h e.symm), ← Array.getD_eq_getD_getElem?]
theorem getD_set_s {listed : Array Bool} {i : Nat} {d : Bool} (h : i < listed.size) : (listed.setIfInBounds i true).getD i d = true := by
  rw [Array.getD_eq_getD_getElem?, Array.getElem?_setIfInBounds, if_pos rfl, if_pos h]
  rfl
section
variable {P : Program} {n : Nat} {N : Nat × List Deferred} {T : Tb} {e : World} {Q : Exit → Act → World → Prop} {os : List Oper} {L : List Ck}
theorem any_inv (I : Array Bool → Act → World → Prop) (hs : ∀ listed a w, I listed a w → listed.size = os.length → ∀ i, i < os.length → listed.getD i true = false → (∀ y ∈ edgesOf os.toArray i, listed.getD y false = true) → wpOp P os.toArray Q i (fun a' w' => I (listed.setIfInBounds i true) a' w') a w)
    (hd : ∀ listed a w, I listed a w → listed.size = os.length → Region.ready .any os.toArray listed = [] → Q .normal a w) : ∀ (fuel : Nat) (listed : Array Bool) (a : Act) (w : World), left listed os.length ≤ fuel → listed.size = os.length → I listed a w → wpAny P .any os.toArray Q fuel listed a w := by
  have hr : ∀ {listed : Array Bool} {i : Nat}, i ∈ Region.ready .any os.toArray listed → i < os.length ∧ listed.getD i true = false ∧ ∀ y ∈ edgesOf os.toArray i, listed.getD y false = true := fun hi => by
    obtain ⟨h1, o, ho, h2⟩ := mem_ready.1 hi
    refine ⟨by simpa using (Array.getElem?_eq_some_iff.1 ho).1, h1, fun y hy => ?_⟩
    obtain ⟨o', ho', e, he, hb, rfl⟩ := edges_mem.1 hy
    rw [ho] at ho'
    cases ho'
    exact h2 e he hb
  have hlt : ∀ {listed : Array Bool} {i : Nat}, listed.size = os.length → i < os.length → listed.getD i true = false → left (listed.setIfInBounds i true) os.length < left listed os.length := fun {listed i} hsz hi hl => by
    refine filt_lt (fun x _ hx => ?_) ⟨i, List.mem_range.2 hi, by simp [hl], by rw [getD_set_s (by omega)]; rfl⟩
    by_cases hxi : x = i
    · subst hxi
      rw [getD_set_s (by omega)] at hx
      cases hx
    · rwa [getD_set_t hxi] at hx
  intro fuel
  induction fuel with
  | zero =>
    intro listed a w hf hsz hI
    have h0 : Region.ready .any os.toArray listed = [] := by
      rw [List.eq_nil_iff_forall_not_mem]
      intro i hi
      obtain ⟨h1, h2, _⟩ := hr hi
      have := hlt hsz h1 h2
      omega
    exact ⟨h0, hd listed a w hI hsz h0⟩
  | succ f ih =>
    intro listed a w hf hsz hI
    refine ⟨fun h0 => hd listed a w hI hsz h0, fun i hi => ?_⟩
    obtain ⟨h1, h2, h3⟩ := hr hi
    refine wpOp_mono (fun a' w' h' => ih _ a' w' ?_ (by simpa using hsz) h') (hs listed a w hI hsz i h1 h2 h3)
    have := hlt hsz h1 h2
    omega
theorem Zhinv {id : Nat} (I : Array Bool → Act → World → Prop) (h0 : ∀ a w, Fr N T a → Hp e L w → I (Array.replicate os.length false) a w)
    (hs : ∀ listed a w, I listed a w → listed.size = os.length → ∀ i, i < os.length → listed.getD i true = false → (∀ y ∈ edgesOf os.toArray i, listed.getD y false = true) → wpOp P os.toArray Q i (fun a' w' => I (listed.setIfInBounds i true) a' w') a w)
    (hd : ∀ listed a w, I listed a w → (∀ i, i < os.length → listed.getD i false = true) → Q .normal a w) (hB : headOk os.toArray os.length = true := by kernel_rfl) (hnd : noDef os = true := by rfl) (hm : P.follows .mixedOrders = true := by kernel_rfl) : ZC P none n (.region id os.toArray true) Q N T e L := fun w hp ok a fr => by
  refine drawn_in (k := os.length) ok hnd (fun _ => True) hm rfl fun w1 h1 => any_held_true _ _ _ _ ?_
  refine any_inv I hs (fun listed a w hI hsz h => hd listed a w hI fun i hi => first_ready' hB (by simpa using hsz) h i (by simpa using hi)) _ _ a w1 ?_ (by simp) (h0 a w1 fr (hp.same h1))
  exact Nat.le_trans (List.length_filter_le _ _) (by simp)
end
end Go.Proofs.YtpfijldkkfiooaaGreatDoor
namespace Go.Proofs.YtpfijldkkfiooaaGreatDoor
set_option maxRecDepth 4000
def partF (w hi lo : Int) : Int := andF (w.fdiv (2 ^ min lo.toNat 32)) (w32 (w32 (1 * 2 ^ min (hi - lo + 1).toNat 32) - 1))
theorem c237 (w hi lo : Int) (h0 : 0 ≤ lo := by decide) (h1 : lo ≤ hi := by decide) (h2 : hi < 32 := by decide) : Sp Tryz.prog 237 [.int .u32 w, .int .i64 hi, .int .i64 lo] [] fun K => K (.returned (.int .u32 (partF w hi lo))) [] := by
  refine Zen Tryz.func237 rfl rfl rfl fun e X Φ hS => Zsr <| Zv (ya rfl) <| Znl <| Znx <| Zsq <| Zhd [] rfl rfl <| Zht 0 rfl (ym rfl) <| Zht 1 rfl (ym rfl) <| Zht 2 rfl (yshr rfl rfl (by omega) rfl) ?_
  refine Zht 3 rfl (ym rfl) <| Zht 4 rfl (ym rfl) <| Zht 5 rfl (ysub rfl rfl (i64w rfl (by omega))) <| Zht 6 rfl (yadd rfl rfl (i64w rfl (by omega))) <| Zht 7 rfl (yshl rfl rfl (by omega) rfl) <| Zht 8 rfl (ysub rfl rfl rfl) <| Zht 9 rfl (yand rfl rfl rfl) <| Zht 10 rfl (ya rfl) <| Zhn (by kernel_rfl) <| Znx ?_
  refine Zrt <| Zre (.t rfl .n) hS [] 0 rfl rfl rfl rfl
def highF (w : Int) (n : Int) : Int := if w.fdiv (2 ^ min 31 32) = 0 then 0 else w32 (4294967295 * 2 ^ min n.toNat 32)
theorem c305 (w n : Int) (h0 : 0 ≤ n := by decide) : Sp Tryz.prog 305 [.int .u32 w, .int .i64 n] [] fun K => K (.returned (.int .u32 (highF w n))) [] := by
  refine Zen Tryz.func305 rfl rfl rfl fun e X Φ hS => Zsr <| Zv (ya rfl) <| Znl <| Znx <| Zsq <| Zsr <| Zv (ym rfl) <| Zv (yshr rfl rfl (by decide) rfl) <| Zv (yeq rfl rfl) ?_
  refine Znl <| Znx <| Zif rfl (fun h7 => ?_) (fun h7 => ?_)
  refine Zsr <| Zv (ya rfl) <| Znl <| Znx <| Zrt <| Zr1 <| Zre (.t rfl .n) hS [] 0 ?_ rfl rfl rfl
  rotate_left
  refine Zsk <| Znx <| Zsr <| Zv (ym rfl) <| Zv (yshl rfl rfl (by omega) rfl) <| Zv (ya rfl) <| Znl <| Znx <| Zrt <| Zre (.t rfl .n) hS [] 0 ?_ rfl rfl rfl
  rotate_left
  · exact congrArg (Value.int .u32) (if_pos h7).symm
  · exact congrArg (Value.int .u32) (if_neg h7).symm
theorem c303 (w : Int) : Sp Tryz.prog 303 [.int .u32 w] [] fun K => K (.returned (.int .u32 0)) [] := by
  refine Zen Tryz.func303 rfl rfl rfl fun e X Φ hS => Zsr <| Zv (ya rfl) <| Znl <| Znx <| Zsr <| Zv (ya rfl) <| Znl <| Znx <| Zrt ?_
  refine Zre (.t rfl .n) hS [] 0 rfl rfl rfl rfl
def tkI (w : Int) : Int := orF (partF w 31 20) (highF w 12)
theorem c304 (w : Int) : Sp Tryz.prog 304 [.int .u32 w] [] fun K => K (.returned (.int .u32 (tkI w))) [] := by
  refine Zen Tryz.func304 rfl rfl rfl fun e X Φ hS => Zsr <| Zv (ya rfl) <| Znl <| Znx <| Zsr <| Zv (ym rfl) <| Zk (c237 ..) [] rfl rfl <| Zq <| Zv (ym rfl) ?_
  refine Zk (c305 ..) [] rfl rfl <| Zq <| Zv (yor rfl rfl rfl) <| Zv (ya rfl) <| Znl <| Znx <| Zrt <| Zre (.t rfl .n) hS [] 0 rfl rfl rfl rfl
def tkU (w : Int) : Int := w32 (BitVec.ofInt 32 w &&& ~~~ BitVec.ofInt 32 4095).toNat
theorem c319 (w : Int) : Sp Tryz.prog 319 [.int .u32 w] [] fun K => K (.returned (.int .u32 (tkU w))) [] := by
  refine Zen Tryz.func319 rfl rfl rfl fun e X Φ hS => Zsr <| Zv (ya rfl) <| Znl <| Znx <| Zsr <| Zv (ym rfl) <| Zv (yandn rfl rfl rfl) <| Zv (ya rfl) <| Znl ?_
  refine Znx <| Zrt <| Zre (.t rfl .n) hS [] 0 rfl rfl rfl rfl
def sl (a : Int) (n : Nat) : Int := w32 (a * 2 ^ min n 32)
def tkJ (w : Int) : Int := orF (orF (orF (highF w 20) (sl (partF w 19 12) 12)) (sl (partF w 20 20) 11)) (sl (partF w 30 21) 1)
theorem c324 (w : Int) : Sp Tryz.prog 324 [.int .u32 w] [] fun K => K (.returned (.int .u32 (tkJ w))) [] := by
  refine Zen Tryz.func324 rfl rfl rfl fun e X Φ hS => Zsr <| Zv (ya rfl) <| Znl <| Znx <| Zsr <| Zv (ym rfl) <| Zk (c305 ..) [] rfl rfl <| Zq <| Zv (ym rfl) ?_
  refine Zk (c237 ..) [] rfl rfl <| Zq <| Zv (yshl rfl rfl (by decide) rfl) <| Zv (yor rfl rfl rfl) <| Zv (ym rfl) <| Zk (c237 ..) [] rfl rfl <| Zq <| Zv (yshl rfl rfl (by decide) rfl) <| Zv (yor rfl rfl rfl) <| Zv (ym rfl) ?_
  refine Zk (c237 ..) [] rfl rfl <| Zq <| Zv (yshl rfl rfl (by decide) rfl) <| Zv (yor rfl rfl rfl) <| Zv (ya rfl) <| Znl <| Znx <| Zrt <| Zre (.t rfl .n) hS [] 0 rfl rfl rfl rfl
def tkH (w : Int) : Int := partF w 24 20
theorem c327 (w : Int) : Sp Tryz.prog 327 [.int .u32 w] [] fun K => K (.returned (.int .u32 (tkH w))) [] := by
  refine Zen Tryz.func327 rfl rfl rfl fun e X Φ hS => Zsr <| Zv (ya rfl) <| Znl <| Znx <| Zsr <| Zv (ym rfl) <| Zk (c237 ..) [] rfl rfl <| Zq <| Zv (ya rfl) ?_
  refine Znl <| Znx <| Zrt <| Zre (.t rfl .n) hS [] 0 rfl rfl rfl rfl
def tkB (w : Int) : Int := orF (orF (orF (highF w 12) (sl (partF w 7 7) 11)) (sl (partF w 30 25) 5)) (sl (partF w 11 8) 1)
theorem c329 (w : Int) : Sp Tryz.prog 329 [.int .u32 w] [] fun K => K (.returned (.int .u32 (tkB w))) [] := by
  refine Zen Tryz.func329 rfl rfl rfl fun e X Φ hS => Zsr <| Zv (ya rfl) <| Znl <| Znx <| Zsr <| Zv (ym rfl) <| Zk (c305 ..) [] rfl rfl <| Zq <| Zv (ym rfl) ?_
  refine Zk (c237 ..) [] rfl rfl <| Zq <| Zv (yshl rfl rfl (by decide) rfl) <| Zv (yor rfl rfl rfl) <| Zv (ym rfl) <| Zk (c237 ..) [] rfl rfl <| Zq <| Zv (yshl rfl rfl (by decide) rfl) <| Zv (yor rfl rfl rfl) <| Zv (ym rfl) ?_
  refine Zk (c237 ..) [] rfl rfl <| Zq <| Zv (yshl rfl rfl (by decide) rfl) <| Zv (yor rfl rfl rfl) <| Zv (ya rfl) <| Znl <| Znx <| Zrt <| Zre (.t rfl .n) hS [] 0 rfl rfl rfl rfl
def tkS (w : Int) : Int := orF (orF (highF w 11) (sl (partF w 30 25) 5)) (partF w 11 7)
theorem c332 (w : Int) : Sp Tryz.prog 332 [.int .u32 w] [] fun K => K (.returned (.int .u32 (tkS w))) [] := by
  refine Zen Tryz.func332 rfl rfl rfl fun e X Φ hS => Zsr <| Zv (ya rfl) <| Znl <| Znx <| Zsr <| Zv (ym rfl) <| Zk (c305 ..) [] rfl rfl <| Zq <| Zv (ym rfl) ?_
  refine Zk (c237 ..) [] rfl rfl <| Zq <| Zv (yshl rfl rfl (by decide) rfl) <| Zv (yor rfl rfl rfl) <| Zv (ym rfl) <| Zk (c237 ..) [] rfl rfl <| Zq <| Zv (yor rfl rfl rfl) <| Zv (ya rfl) <| Znl ?_
  refine Znx <| Zrt <| Zre (.t rfl .n) hS [] 0 rfl rfl rfl rfl
def tkF (w : Int) : Int := partF w 27 20
theorem c335 (w : Int) : Sp Tryz.prog 335 [.int .u32 w] [] fun K => K (.returned (.int .u32 (tkF w))) [] := by
  refine Zen Tryz.func335 rfl rfl rfl fun e X Φ hS => Zsr <| Zv (ya rfl) <| Znl <| Znx <| Zsr <| Zv (ym rfl) <| Zk (c237 ..) [] rfl rfl <| Zq <| Zv (ya rfl) ?_
  refine Znl <| Znx <| Zrt <| Zre (.t rfl .n) hS [] 0 rfl rfl rfl rfl
end Go.Proofs.YtpfijldkkfiooaaGreatDoor
namespace Go.Proofs.YtpfijldkkfiooaaGreatDoor
structure Fm where
  mask : Int
  rd : Bool
  rs1 : Bool
  rs2 : Bool
  a : Bool
  tk : Nat
  take : Int → Int
def fmI : Fm := ⟨0x707f, true, true, false, false, 304, tkI⟩
def fmR : Fm := ⟨0xfe00707f, true, true, true, false, 303, fun _ => 0⟩
def fmA : Fm := ⟨0xf800707f, true, true, true, true, 303, fun _ => 0⟩
def fmLr : Fm := ⟨0xf9f0707f, true, true, false, true, 303, fun _ => 0⟩
def fmU : Fm := ⟨0x7f, true, false, false, false, 319, tkU⟩
def fmJ : Fm := ⟨0x7f, true, false, false, false, 324, tkJ⟩
def fmShift : Fm := ⟨0xfe00707f, true, true, false, false, 327, tkH⟩
def fmB : Fm := ⟨0x707f, false, true, true, false, 329, tkB⟩
def fmS : Fm := ⟨0x707f, false, true, true, false, 332, tkS⟩
def fmFence : Fm := ⟨0xf00fffff, false, false, false, false, 335, tkF⟩
def fmAll : Fm := ⟨0xffffffff, false, false, false, false, 303, fun _ => 0⟩
def fmCsr : Fm := ⟨0xfffff07f, true, false, false, false, 303, fun _ => 0⟩
def rowT : List (Int × Fm × Int) := [
  (1, fmU, 0x37), (2, fmU, 0x17), (3, fmJ, 0x6f), (4, fmI, 0x67),
  (5, fmB, 0x63), (6, fmB, 0x1063), (7, fmB, 0x4063), (8, fmB, 0x5063), (9, fmB, 0x6063), (10, fmB, 0x7063),
  (11, fmI, 0x03), (12, fmI, 0x1003), (13, fmI, 0x2003), (14, fmI, 0x4003), (15, fmI, 0x5003),
  (16, fmS, 0x23), (17, fmS, 0x1023), (18, fmS, 0x2023),
  (19, fmI, 0x13), (20, fmI, 0x2013), (21, fmI, 0x3013), (22, fmI, 0x4013), (23, fmI, 0x6013), (24, fmI, 0x7013),
  (25, fmShift, 0x1013), (26, fmShift, 0x5013), (27, fmShift, 0x40005013),
  (28, fmR, 0x33), (29, fmR, 0x40000033),
  (30, fmR, 0x1033), (31, fmR, 0x2033), (32, fmR, 0x3033), (33, fmR, 0x4033), (34, fmR, 0x5033), (35, fmR, 0x40005033), (36, fmR, 0x6033), (37, fmR, 0x7033),
  (38, fmFence, 0x0f), (39, fmAll, 0x73),
  (40, fmR, 0x2000033), (41, fmR, 0x2001033), (42, fmR, 0x2002033), (43, fmR, 0x2003033), (44, fmR, 0x2004033), (45, fmR, 0x2005033), (46, fmR, 0x2006033), (47, fmR, 0x2007033),
  (48, fmLr, 0x1000202f),
  (49, fmA, 0x1800202f), (50, fmA, 0x0800202f), (51, fmA, 0x202f), (52, fmA, 0x2000202f), (53, fmA, 0x6000202f), (54, fmA, 0x4000202f), (55, fmA, 0x8000202f), (56, fmA, 0xa000202f), (57, fmA, 0xc000202f), (58, fmA, 0xe000202f),
  (59, fmCsr, 0xf1402073)]
def rowF (w : Int) : Option (Int × Fm × Int) := rowT.find? fun r => decide (andF w r.2.1.mask = r.2.2)
def insF (w : Int) (r : Int × Fm × Int) : Ins :=
  ⟨r.1, if r.2.1.rd then (partF w 11 7).toNat else 0, if r.2.1.rs1 then (partF w 19 15).toNat else 0, if r.2.1.rs2 then (partF w 24 20).toNat else 0, r.2.1.take w,
   if r.2.1.a then decide (partF w 26 26 = 1) else false, if r.2.1.a then decide (partF w 25 25 = 1) else false⟩
def decF (w : Int) : Ins × Bool := match rowF w with | some r => (insF w r, true) | none => (ins0, false)
theorem part5 (w lo : Int) : (partF w (lo + 4) lo).toNat < 32 := by
  unfold partF andF
  have h : (w32 (w32 (1 * 2 ^ min (lo + 4 - lo + 1).toNat 32) - 1)) = 31 := by
    rw [show lo + 4 - lo + 1 = 5 by omega]; decide
  rw [h]
  have : ((BitVec.ofInt 32 (w.fdiv (2 ^ min lo.toNat 32)) &&& BitVec.ofInt 32 31).toNat : Int) ≤ 31 := by
    rw [BitVec.toNat_and]
    exact_mod_cast Nat.and_le_right
  rw [w32_of ⟨by omega, by omega⟩]
  omega
theorem part_u (w hi lo : Int) : U32 (partF w hi lo) := w32_u _
theorem row_mem {w : Int} {r : Int × Fm × Int} (h : rowF w = some r) : r ∈ rowT := List.mem_of_find?_eq_some h
theorem row_op {r : Int × Fm × Int} (h : r ∈ rowT) : 1 ≤ r.1 ∧ r.1 ≤ 59 := by
  have : rowT.all fun r => decide (1 ≤ r.1 ∧ r.1 ≤ 59) := by decide
  exact of_decide_eq_true (List.all_eq_true.1 this r h)
theorem u0 : U32 0 := ⟨by decide, by decide⟩
theorem take_u {w : Int} {r : Int × Fm × Int} (h : r ∈ rowT) : U32 (r.2.1.take w) := by
  simp only [rowT, List.mem_cons, List.not_mem_nil, or_false] at h
  rcases h with rfl | rfl | rfl | rfl | rfl | rfl | rfl | rfl | rfl | rfl | rfl | rfl | rfl | rfl | rfl | rfl | rfl | rfl | rfl | rfl | rfl | rfl | rfl | rfl | rfl | rfl | rfl | rfl | rfl | rfl | rfl | rfl | rfl | rfl | rfl | rfl | rfl | rfl | rfl | rfl | rfl | rfl | rfl | rfl | rfl | rfl | rfl | rfl | rfl | rfl | rfl | rfl | rfl | rfl | rfl | rfl | rfl | rfl | rfl <;>
    first | exact w32_u _ | exact u0
structure Ins.Ok (i : Ins) : Prop where
  op0 : 0 ≤ i.op
  op1 : i.op ≤ 59
  d : i.rd < 32
  s1 : i.rs1 < 32
  s2 : i.rs2 < 32
  im : U32 i.imm
theorem dec_ok (w : Int) : (decF w).1.Ok := by
  unfold decF
  cases h : rowF w with
  | none => show Ins.Ok ins0; exact ⟨by decide, by decide, by decide, by decide, by decide, u0⟩
  | some r =>
    have hm := row_mem h
    obtain ⟨h1, h2⟩ := row_op hm
    refine ⟨by show 0 ≤ r.1; omega, h2, ?_, ?_, ?_, take_u hm⟩
    · show (if r.2.1.rd then (partF w 11 7).toNat else 0) < 32
      split
      · exact part5 w 7
      · omega
    · show (if r.2.1.rs1 then (partF w 19 15).toNat else 0) < 32
      split
      · exact part5 w 15
      · omega
    · show (if r.2.1.rs2 then (partF w 24 20).toNat else 0) < 32
      split
      · exact part5 w 20
      · omega
end Go.Proofs.YtpfijldkkfiooaaGreatDoor
namespace Go.Proofs.YtpfijldkkfiooaaGreatDoor
def spL : List Value := (List.range 256).map fun k => Value.int .u8 (if k = 9 ∨ k = 10 ∨ k = 11 ∨ k = 12 ∨ k = 13 ∨ k = 32 then 1 else 0)
def spC : Ck := .blk 0 405 spL
end Go.Proofs.YtpfijldkkfiooaaGreatDoor
namespace Go.Proofs.YtpfijldkkfiooaaGreatDoor
open Go
set_option maxRecDepth 4000
def IsF (v : Value) : Prop := ∃ f c, v = .func (.func f) #[] c
structure FmV (f : Fm) (v : Value) : Prop where
  is : ∃ m p t, v = .agg #[.int .u32 f.mask, .bool f.rd, .bool f.rs1, .bool f.rs2, .bool f.a, m, p, .func (.func f.tk) #[] #[], t] ∧ IsF m ∧ IsF p ∧ IsF t
theorem c306 (a b : Int) : Sp Tryz.prog 306 [.int .i64 a, .int .i64 b] [] fun K => ∀ f c, K (.returned (.func (.func f) #[] c)) [] := by
  refine Zen Tryz.func306 rfl rfl rfl fun e X Φ hS => Zsr <| Ze (ebx rfl) fun b2 => Zw <| Ze (ebx rfl) fun b3 => Zw <| Zv (ya rfl) <| Znl <| Znx <| Zsr <| Zv (yfn rfl rfl) <| Zv (ya rfl) ?_
  refine Znl <| Znx <| Zrt <| Zre (.t rfl .n) (hS _ _) [] 2 rfl rfl rfl rfl
theorem c322 (a b : Int) : Sp Tryz.prog 322 [.int .i64 a, .int .i64 b] [] fun K => ∀ f c, K (.returned (.func (.func f) #[] c)) [] := by
  refine Zen Tryz.func322 rfl rfl rfl fun e X Φ hS => Zsr <| Zv (ya rfl) <| Znl <| Znx <| Zsr <| Zv (ym rfl) <| Zv (ym rfl) <| Zk (c306 ..) [] rfl rfl <| fun f => ?_
  refine fun c => Zq <| Ze (eal z350) fun b5 => Zw <| Ze (es 0 rfl rfl rfl rfl rfl) <| Zw0 <| Znl <| Znx <| Zsr <| Zv (yfn rfl rfl) <| Zv (ya rfl) <| Znl ?_
  refine Znx <| Zrt <| Zre (.t rfl .n) (hS _ _) [] 1 rfl rfl rfl rfl
def fmCs (f : Fm) (m p t : Value) : List Value := [.int .u32 f.mask, .bool f.rd, .bool f.rs1, .bool f.rs2, .bool f.a, m, p, .func (.func f.tk) #[] #[], t]
abbrev fnW (f : Nat) : Value := .func (.func f) #[] #[]
theorem fm_v {f : Fm} {m p t : Value} (hm : IsF m) (hp : IsF p) (ht : IsF t) : FmV f (.agg (fmCs f m p t).toArray) := ⟨m, p, t, rfl, hm, hp, ht⟩
end Go.Proofs.YtpfijldkkfiooaaGreatDoor
namespace Go.Proofs.YtpfijldkkfiooaaGreatDoor
open Go Go.RowKit
structure SqR {α : Type} (P : Program) (gf : Nat) (lb : List Value) (C : List Ck) (C' : List α → List Ck) (R : α → List Value → Prop) (xs : List α) : Prop where
  run : ∀ (l : Nat) (J Jx : List α → HP), (∀ pre x, pre ++ [x] <+: xs → ∀ vs, R x vs → Yd P l vs (J pre) (J (pre ++ [x])) (Jx (pre ++ [x]))) →
    Sp P gf (.func (.yield l) #[] #[] :: lb) (.hp (J []) :: C) fun K => K (.returned (.tuple #[])) (.hp (J xs) :: C' xs) ∧ ∀ pre, pre <+: xs → K (.returned (.tuple #[])) (.hp (Jx pre) :: C' pre)
set_option maxHeartbeats 1000000 in
theorem Zrh {α : Type} {P : Program} {n : Nat} {N : Nat × List Deferred} {T : Tb} {e : World} {Q : Exit → Act → World → Prop} {L X : List Ck} {assign body : Code} {gf tg : Nat} {ps : List Nat} {lb : List Value} {xs : List α} {R : α → List Value → Prop} {C : List Ck} {C' : List α → List Ck}
    (c : SqR P gf lb C C' R xs) (I : List α → List Ck) (pn : List α → Prop) (Ir : List α → List Ck) (pr : List α → Prop) (Ie : Nat → List α → List Ck) (pe : Nat → List α → Prop) (is : List Nat)
    (ht : look T tg = some (.func (.func gf) #[] lb.toArray)) (hL : sel L is = some (C ++ I [], X))
    (hn0 : pn []) (hbody : ∀ e l pre x vs F, pre ++ [x] <+: xs → R x vs → pn pre → ZC P (some l) 7 assign (Exit.then (Ak P l body I pn Ir pr Ie pe (N.1, []) e F (pre ++ [x])) noQ) (N.1, []) (rgT ps vs T) e (I pre ++ F))
    (hdone : ∀ D, pn xs → ZX none Q .normal (N.1, mkD D :: N.2) T e (mkO D :: (I xs ++ (C' xs ++ X))))
    (hret : ∀ D pre, pre <+: xs → pr pre → ZC P none n .ret Q (N.1, mkD D :: N.2) T e (mkO D :: (Ir pre ++ (C' pre ++ X))))
    (hexit : ∀ D id pre, pre <+: xs → pe id pre → ZC P none n (.exit id) Q (N.1, mkD D :: N.2) T e (mkO D :: (Ie id pre ++ (C' pre ++ X))))
    (hps : ∀ x vs, R x vs → vs.length = ps.length) (hpn : ∀ p ∈ ps, p < N.1) (hf : callOk P gf = true := by first | assumption | kernel_rfl) : ZC P none n (.rangeFunc (.tmp tg) ps.toArray assign body) Q N T e L := fun w hp ok a fr => by
  obtain ⟨fng, h1, h2, h3⟩ := callOk_spec hf
  have hn' : ¬ fng.name = "runtime.NumGoroutine" := by simpa using h2
  have hb' : ¬ fng.body = none := fun h => by rw [h] at h3; cases h3
  have eg : ∀ (args : Array Value) (w : World), (callFunc gf args).run P w = .ok (.enter gf args) w := fun args w => by simp [callFunc, h1, hn', hb']
  refine wpIn_rangeFunc ?_
  intro fn hfn
  obtain ⟨rec, hrec⟩ : ∃ rec : LoopState → Option Code → Loop, rec = fun st pe => { state := st, pending := pe, fn, tmps := a.tmps, params := ps.toArray, assign, body, defers := w.heap.size } := ⟨_, rfl⟩
  obtain ⟨D, hD⟩ : ∃ D, D = w.heap.size := ⟨_, rfl⟩
  obtain ⟨l, hl⟩ : ∃ l, l = w.heap.size + 1 := ⟨_, rfl⟩
  have hpa : Hp e (C ++ I [] ++ X) w := hp.sel hL
  have hp1 : Hp e (mkO D :: (C ++ I [] ++ X)) (w.alloc (.deferred (some []))) := hpa.newO ((Only.refl _ w).alloc _) (by rw [hD]; exact World.alloc_heap_new w _) (Nat.le_of_eq hD.symm)
  have hp2 : Hp e (.obj l (.loop (rec .ready none)) :: mkO D :: (C ++ I [] ++ X)) ((w.alloc (.deferred (some []))).alloc (.loop (rec .ready none))) := hp1.newO ((Only.refl _ _).alloc _) (by
    have := World.alloc_heap_new (w.alloc (.deferred (some []))) (.loop (rec .ready none))
    rw [World.size_alloc] at this
    rw [hl]; exact this) (by rw [hl, World.size_alloc]; exact Nat.le_refl _)
  let J : List α → HP := fun pre h => pn pre ∧ Sep (.obj l (.loop (rec .ready none)) :: mkO D :: I pre) h
  let Jx : List α → HP := fun pre h => (pr pre ∧ Sep (.obj l (.loop (rec .done (some .ret))) :: mkO D :: Ir pre) h) ∨ ∃ id, pe id pre ∧ Sep (.obj l (.loop (rec .done (some (.exit id)))) :: mkO D :: Ie id pre) h
  refine ⟨l, [mkD D], (w.alloc (.deferred (some []))).alloc (.loop (rec .ready none)), { target := .fn (.func gf) lb.toArray, args := #[.func (.yield l) #[] #[]] }, (w.alloc (.deferred (some []))).alloc (.loop (rec .ready none)), gf, #[.func (.yield l) #[] #[]] ++ lb.toArray, (w.alloc (.deferred (some []))).alloc (.loop (rec .ready none)), ?_, ?_, ?_, ?_, fun h => (by cases h), ?_⟩
  · rw [hrec, hl, hD]; exact run_enterLoop_outer _ _ _ _ _
  · have := fr.ev ht
    simp only [resolve, this]
    simp [go_sem]
  · intro f' hf'
    trivial
  · simp [invoke, go_sem, eg]
  have frD : Fr (N.1, mkD D :: N.2) T { a with defers := mkD D :: a.defers } := ⟨by show _ :: a.defers = _ :: N.2; rw [fr.df], fr.sz, fr.get⟩
  have hc : Calls P gf (#[.func (.yield l) #[] #[]] ++ lb.toArray) ((w.alloc (.deferred (some []))).alloc (.loop (rec .ready none))) (fun en w' => en = .returned (.tuple #[]) ∧ (Hp e (.hp (J xs) :: C' xs ++ X) w' ∨ ∃ pre, pre <+: xs ∧ Hp e (.hp (Jx pre) :: C' pre ++ X) w')) := by
    have har : #[Value.func (.yield l) #[] #[]] ++ lb.toArray = (Value.func (.yield l) #[] #[] :: lb).toArray := by simp
    rw [har]
    refine (c.run l J Jx ?_).run e X _ _ ?_ ⟨fun w' h => ⟨rfl, .inl h⟩, fun pre hpre w' h => ⟨rfl, .inr ⟨pre, hpre, h⟩⟩⟩
    · -- one round
      intro pre x hx vs hR
      refine ⟨fun e' Y W hpW => ?_⟩
      have hpn1 : pn pre := by obtain ⟨_, _, _, _, _, hj, _⟩ := hpW.sep; exact hj.1
      have h7 : Hp e' ((.obj l (.loop (rec .ready none)) :: mkO D :: I pre) ++ Y) W := hpW.imp fun _ hs => (hs.hd (q := .hp (Sep (.obj l (.loop (rec .ready none)) :: mkO D :: I pre))) fun _ h => h.2).flat
      have hlW := h7.ob (i := 0) (b := l) (o := .loop (rec .ready none)) rfl
      have hy := run_yield (P := P) (args := vs.toArray) hlW (by rw [hrec]; simp [hps x vs hR])
      rw [hrec] at hy
      have h8 : Hp e' (I pre ++ (.obj l (.loop (rec .ready none)) :: mkO D :: Y)) W := h7.imp fun _ hs => by
        have : Sep ([.obj l (.loop (rec .ready none)), mkO D] ++ (I pre ++ Y)) _ := hs
        have := (Sep.comm this)
        rw [List.append_assoc] at this
        exact Sep.swapTail this fun _ hs => Sep.comm hs
      have frR : Fr (N.1, []) (rgT ps vs T) { tmps := (ps.toArray.zip vs.toArray).foldl (fun t (p, v) => t.setIfInBounds p v) a.tmps, defers := [] } := by
        have := rg_fr (P := N.1) ps vs (T := T) (ts := a.tmps) hpn ⟨rfl, fr.sz, fr.get⟩
        simpa using this
      have hz := hbody e' l pre x vs _ hx hR hpn1 W h8 (.inr (fun ⟨_, _, h⟩ => h)) _ frR
      refine ⟨fn, _, assign, body, hy, roundIn_lv (n := 7) (roundIn_of_wpIn (F := Wd none) trivial (wpIn_mono hz ?_))⟩
      intro ex a1 W1 hx1
      cases ex with
      | normal =>
        obtain ⟨T1, M1, fr1, hp1', hb1⟩ := hx1
        have h9 : Hp e' (.obj l (.loop (rec .ready none)) :: mkO D :: (Y ++ M1)) W1 := hp1'.comm
        have hl9 := h9.ob (i := 0) (b := l) (o := .loop (rec .ready none)) rfl
        refine ⟨_, run_beginRound hl9 (by rw [hrec]), ?_⟩
        have h10 : Hp e' (.obj l (.loop { rec .ready none with state := .busy }) :: mkO D :: (Y ++ M1)) (W1.putObj l (.loop { rec .ready none with state := .busy })) := h9.setO (put_only W1 l _) (World.putObj_heap_same (Array.getElem?_eq_some_iff.1 hl9).1)
        have h11 : Hp e' (M1 ++ (.obj l (.loop { rec .ready none with state := .busy }) :: mkO D :: Y)) (W1.putObj l (.loop { rec .ready none with state := .busy })) := h10.comm (A := .obj l (.loop { rec .ready none with state := .busy }) :: mkO D :: Y)
        have hz2 := hb1 _ _ h11 (.inr RQ_ok) a1 fr1
        refine wpIn_mono hz2 ?_
        have fin : ∀ (jump : Option Code) (W3 : World) (M : List Ck), Hp e' (M ++ (.obj l (.loop { rec .ready none with state := .busy }) :: mkO D :: Y)) W3 → (Instr.endRound l jump).run P W3 = .ok (.bool jump.isNone) (W3.putObj l (.loop (rec (if jump.isNone then .ready else .done) jump))) ∧ Hp e' ((.obj l (.loop (rec (if jump.isNone then .ready else .done) jump)) :: mkO D :: M) ++ Y) (W3.putObj l (.loop (rec (if jump.isNone then .ready else .done) jump))) := fun jump W3 M h => by
          have h12 : Hp e' (.obj l (.loop { rec .ready none with state := .busy }) :: mkO D :: (Y ++ M)) W3 := h.comm
          have hl12 := h12.ob (i := 0) (b := l) (o := .loop { rec .ready none with state := .busy }) rfl
          refine ⟨by have := run_endRound (P := P) jump hl12; rw [hrec] at this ⊢; exact this, ?_⟩
          have h13 := h12.setO (o' := .loop (rec (if jump.isNone then .ready else .done) jump)) (put_only W3 l _) (World.putObj_heap_same (Array.getElem?_eq_some_iff.1 hl12).1)
          exact h13.imp fun _ hs => hs.mapTl fun _ hs => hs.mapTl fun _ hs => Sep.comm hs
        rintro ex2 a2 W3 h3
        cases ex2 with
        | normal =>
          obtain ⟨hr, hh⟩ := fin none W3 _ h3.2
          exact ⟨_, _, hr, .inl ⟨rfl, hh.unfl fun _ hs => ⟨h3.1, hs⟩⟩⟩
        | ret =>
          obtain ⟨hr, hh⟩ := fin (some .ret) W3 _ h3.2
          exact ⟨_, _, hr, .inr ⟨rfl, hh.unfl fun _ hs => .inl ⟨h3.1, hs⟩⟩⟩
        | exit id =>
          obtain ⟨hr, hh⟩ := fin (some (.exit id)) W3 _ h3.2
          exact ⟨_, _, hr, .inr ⟨rfl, hh.unfl fun _ hs => .inr ⟨id, h3.1, hs⟩⟩⟩
        | goto t => exact h3.elim
        | panic c => exact h3.elim
        | outgrown => exact h3.elim
      | _ => exact hx1.elim
    · -- at the beginning
      have h4 : Hp e (.obj l (.loop (rec .ready none)) :: mkO D :: (I [] ++ (C ++ X))) ((w.alloc (.deferred (some []))).alloc (.loop (rec .ready none))) := hp2.imp fun _ hs => hs.mapTl fun _ hs => hs.mapTl fun _ hs => by
        have hs : Sep (C ++ I [] ++ X) _ := hs
        have : Sep (.hp (Sep (C ++ I [])) :: X) _ := hs.unflat
        have := (this.hd (q := .hp (Sep (I [] ++ C))) fun _ hs => Sep.comm hs).flat
        simpa using this
      exact (show Hp e ((.obj l (.loop (rec .ready none)) :: mkO D :: I []) ++ (C ++ X)) _ from h4).unfl fun _ h => ⟨hn0, h⟩
  refine callsIn_wd (r := none) (hc.mono ?_)
  rintro en W2 ⟨rfl, h | ⟨pre, hpre, h⟩⟩
  · have hpn2 : pn xs := by obtain ⟨_, _, _, _, _, hj, _⟩ := h.sep; exact hj.1
    have h5 : Hp e ((.obj l (.loop (rec .ready none)) :: mkO D :: I xs) ++ (C' xs ++ X)) W2 := h.imp fun _ hs => (hs.hd (q := .hp (Sep (.obj l (.loop (rec .ready none)) :: mkO D :: I xs))) fun _ h => h.2).flat
    have hl5 := h5.ob (i := 0) (b := l) (o := .loop (rec .ready none)) rfl
    refine ⟨none, _, by have := run_endLoop (P := P) hl5 (by rw [hrec]; simp); rw [hrec] at this; exact this, ?_⟩
    have h6 := (h5.setO (o' := .loop { rec .ready none with state := .exhausted }) (put_only W2 l _) (World.putObj_heap_same (Array.getElem?_eq_some_iff.1 hl5).1)).tl
    rw [hrec] at h6
    exact hdone D hpn2 _ h6 ok _ frD
  · have key : ∃ c, (Hp e (.obj l (.loop (rec .done (some c))) :: mkO D :: (match c with | .ret => Ir pre | .exit id => Ie id pre | _ => []) ++ (C' pre ++ X)) W2) ∧ (match c with | .ret => pr pre | .exit id => pe id pre | _ => False) := by
      obtain ⟨h1', h2', e1, e2, d, hj, hs⟩ := h.sep
      rcases hj with ⟨hp0, hj⟩ | ⟨id, hp0, hj⟩
      · exact ⟨.ret, ⟨h.os, h.tape, h.output, Sep.flat (L := .obj l (.loop (rec .done (some .ret))) :: mkO D :: Ir pre) ⟨h1', h2', e1, e2, d, hj, hs⟩⟩, hp0⟩
      · exact ⟨.exit id, ⟨h.os, h.tape, h.output, Sep.flat (L := .obj l (.loop (rec .done (some (.exit id)))) :: mkO D :: Ie id pre) ⟨h1', h2', e1, e2, d, hj, hs⟩⟩, hp0⟩
    obtain ⟨c, h5, h0⟩ := key
    have hl5 := h5.ob (i := 0) (b := l) (o := .loop (rec .done (some c))) rfl
    refine ⟨some c, _, by have := run_endLoop (P := P) hl5 (by rw [hrec]; simp); rw [hrec] at this; exact this, ?_⟩
    have h6 := (h5.setO (o' := .loop { rec .done (some c) with state := .exhausted }) (put_only W2 l _) (World.putObj_heap_same (Array.getElem?_eq_some_iff.1 hl5).1)).tl
    rw [hrec] at h6
    cases c with
    | ret => exact hret D pre hpre h0 _ h6 ok _ frD
    | exit id => exact hexit D id pre hpre h0 _ h6 ok _ frD
    | _ => exact h0.elim
end Go.Proofs.YtpfijldkkfiooaaGreatDoor
namespace Go.Proofs.YtpfijldkkfiooaaGreatDoor
open Go
set_option maxRecDepth 4000
def RowR (x : Int × Fm × Int) (vs : List Value) : Prop := ∃ nm m p t, vs = [.agg (.int .i64 x.1 :: .string nm :: (fmCs x.2.1 m p t ++ [.int .u32 x.2.2])).toArray] ∧ IsF m ∧ IsF p ∧ IsF t
theorem c262 (l r bn b3 b4 b5 c n : Nat) (me : List MapEntry) (key nm : ByteArray) (f : Fm) (bits : Int) (J J' Jx : HP) (hn : n < 1000) (hF : ∃ v, Fin me key v ∧ FmV f v) (hY : ∀ vs, RowR ((n : Int) + 1, f, bits) vs → Yd Tryz.prog l vs J J' Jx) : Sp Tryz.prog 262 [.string key, .int .u32 bits, .slice (some ⟨bn, 0, none⟩) 1 1, .pointer (some ⟨b3, 0, none⟩), .pointer (some ⟨b4, 0, none⟩), .pointer (some ⟨b5, 0, none⟩)] [.hp J, .blk b3 42 [.int .i64 (n : Int)], .blk b4 384 [.func (.yield l) #[] #[]], .blk b5 385 [.map (some r)], smap r me c, .blk bn 9 [.string nm]] fun K => K (.returned (.bool true)) [.hp J', .blk b3 42 [.int .i64 (((n + 1 : Nat)) : Int)], .blk b4 384 [.func (.yield l) #[] #[]], .blk b5 385 [.map (some r)], smap r me c, .blk bn 9 [.string nm]] ∧ K (.returned (.bool false)) [.hp Jx, .blk b3 42 [.int .i64 (((n + 1 : Nat)) : Int)], .blk b4 384 [.func (.yield l) #[] #[]], .blk b5 385 [.map (some r)], smap r me c, .blk bn 9 [.string nm]] := by
  obtain ⟨v, hf, m, p, t, rfl, hm', hp', ht'⟩ := hF
  refine Zen Tryz.func262 rfl rfl rfl fun e X Φ hS => Zsr <| Zv (ya rfl) <| Znl <| Znx <| Zsq <| Zsr <| Zv (ym rfl) <| Zv (sl_of ⟨_, Tryz.underlying387⟩ rfl) <| Zv (ym rfl) ?_
  refine Znl <| Znx <| Zbl ?_
  refine Zlq (ι := { i : Nat // i ≤ 1 }) (fun i => [(14, .int .i64 (i.1 : Int)), (13, .int .i64 ((1 : Nat) : Int)), (12, .slice (some ⟨bn, 0, none⟩) 1 1), (0, .string key), (1, .int .u32 bits), (3, .pointer (some ⟨b3, 0, none⟩)), (4, .pointer (some ⟨b4, 0, none⟩)), (5, .pointer (some ⟨b5, 0, none⟩))]) (fun i => [.hp (if i.1 = 0 then J else J'), .blk b3 42 [.int .i64 ((n + i.1 : Nat) : Int)], .blk b4 384 [.func (.yield l) #[] #[]], .blk b5 385 [.map (some r)], smap r me c, .blk bn 9 [.string nm]]) (fun i => 1 - i.1) ⟨0, by omega⟩ ⟨rfl, rfl, rfl, rfl, rfl, rfl, rfl, rfl, trivial⟩ [0, 0, 0, 0, 0, 0] rfl fun i => Zsr <| Zv (ylt rfl rfl) <| Znl <| Znx <| Zsq <| Zif rfl (fun h15 => ?_) (fun h15 => ?_)
  refine Zsk <| Znx <| Zsq <| Zbl <| Zsr ?_
  rotate_left
  refine Zex <| Zxt <| Zxt <| Zxx <| Znx <| Zsr <| Zv (ya rfl) <| Znl <| Znx <| Zrt ?_
  rotate_left
  · have hi : i.1 = 0 := by omega
    obtain ⟨i, hi1⟩ := i
    replace hi : i = 0 := hi
    subst hi
    refine Zv (yeb (j := 0) (s := 1) 0 Tryz.underlying387 rfl rfl (by decide) rfl) <| Zv (yd 5 rfl rfl rfl) <| Zv (ya rfl) <| Znl <| Znx <| Zsr <| Zv (yd 1 rfl rfl rfl) <| Zv (yadd rfl rfl (i64w rfl (by omega))) <| Ze (es 1 rfl rfl rfl rfl rfl) <| Zw0 <| Znl <| Znx ?_
    refine Zsr <| Zv (yd 2 rfl rfl rfl) <| Zv (yd 1 rfl rfl rfl) <| Zv (ym rfl) <| Zv (yd 3 rfl rfl rfl) <| Zv (ym rfl) ?_
    refine Zv (ylkS 4 hf rfl rfl rfl Tryz.underlying385 Tryz.underlying9) <| Zv (ym rfl) <| Zv (yb l357 rfl) ?_
    refine Zyd (hY _ ⟨nm, m, p, t, rfl, hm', hp', ht'⟩) 0 rfl rfl rfl ?_ ?_
    refine Zv (ynot rfl) <| Znl <| Znx <| Zcf rfl <| Zsk <| Zxn <| Znx <| Zrg <| Zv (yadd (s := 1) rfl rfl rfl) <| Zv (ym rfl) ?_
    refine Znl ?_
    rotate_left
    refine Zv (ynot rfl) <| Znl <| Znx <| Zct rfl <| Zsr <| Zv (ya rfl) <| Znl <| Znx <| Zrt <| Zr2 ?_
    refine Zr1 <| Zr1 <| Zr2 <| Zr1 ?_
    rotate_left
    · refine Zlr ⟨1, by omega⟩ (by show 1 - 1 < 1 - 0; omega) ⟨rfl, rfl, rfl, rfl, rfl, rfl, rfl, rfl, trivial⟩ [0, 0, 0, 0, 0, 0] 0 rfl rfl
    · refine Zre (.t rfl .n) hS.2 [0, 0, 0, 0, 0, 0] 0 rfl rfl rfl rfl
  · have hi : i.1 = 1 := by have := i.2; omega
    obtain ⟨i, hi1⟩ := i
    replace hi : i = 1 := hi
    subst hi
    refine Zre (.t rfl .n) hS.1 [0, 0, 0, 0, 0, 0] 0 rfl rfl rfl rfl
end Go.Proofs.YtpfijldkkfiooaaGreatDoor
namespace Go.Proofs.YtpfijldkkfiooaaGreatDoor
open Go
set_option maxRecDepth 4000
def isSp (b : Nat) : Bool := decide (b = 9) || decide (b = 10) || decide (b = 11) || decide (b = 12) || decide (b = 13) || decide (b = 32)
def spI (b : Nat) : Nat := if isSp b then 1 else 0
def byt (s : ByteArray) (i : Nat) : Nat := if h : i < s.size then (s[i]'h).toNat else 0
def spN (s : ByteArray) : Nat → Nat
  | 0 => 0
  | i + 1 => spN s i + spI (byt s i)
structure Wf (s : ByteArray) : Prop where
  lo : ∀ i, i < s.size → byt s i < 128
  pos : 0 < s.size
  sz : s.size ≤ 1000
  f : isSp (byt s 0) = false
  l : isSp (byt s (s.size - 1)) = false
  a : ∀ i, i + 1 < s.size → isSp (byt s i) = true → isSp (byt s (i + 1)) = false
theorem spL_at {b : Nat} (h : b < 256) : nth spL b = some (.int .u8 (spI b : Nat)) := by
  rw [nth_eq]
  unfold spL
  rw [List.getElem?_map, List.getElem?_range h]
  simp only [Option.map_some]
  congr 2
  unfold spI isSp
  by_cases h : b = 9 ∨ b = 10 ∨ b = 11 ∨ b = 12 ∨ b = 13 ∨ b = 32
  · rw [if_pos h]
    rcases h with rfl | rfl | rfl | rfl | rfl | rfl <;> rfl
  · rw [if_neg h]
    simp only [not_or] at h
    simp [h]
def was (s : ByteArray) (i : Nat) : Nat := if i = 0 then 1 else spI (byt s (i - 1))
theorem byt_at {s : ByteArray} {i : Nat} (h : i < s.size) : s[i].toNat = byt s i := by
  unfold byt
  rw [dif_pos h]
theorem was_le (s : ByteArray) (i : Nat) : was s i ≤ 1 := by
  unfold was spI
  repeat' split
  all_goals omega
theorem cpl_at {t : Nat} (h : t ≤ 1) : IntKind.i64.wrap (BitVec.ofInt IntKind.i64.bits (-1) ^^^ BitVec.ofInt IntKind.i64.bits (t : Int)).toNat = -(t : Int) - 1 := by
  match t, h with
  | 0, _ => decide
  | 1, _ => decide
theorem nand_at {w t : Nat} (hw : w ≤ 1) (h : t ≤ 1) : IntKind.i64.wrap (BitVec.ofInt IntKind.i64.bits (w : Int) &&& BitVec.ofInt IntKind.i64.bits (-(t : Int) - 1)).toNat = ((w * (1 - t) : Nat) : Int) := by
  match w, hw, t, h with
  | 0, _, 0, _ => decide
  | 0, _, 1, _ => decide
  | 1, _, 0, _ => decide
  | 1, _, 1, _ => decide
theorem or_at {a b : Nat} (ha : a < 128) (hb : b < 128) : ∃ c, c < 128 ∧ IntKind.u8.wrap (BitVec.ofInt IntKind.u8.bits (a : Int) ||| BitVec.ofInt IntKind.u8.bits (b : Int)).toNat = ((c : Nat) : Int) := by
  refine ⟨a ||| b, Nat.or_lt_two_pow (n := 7) ha hb, ?_⟩
  have h := Nat.or_lt_two_pow (n := 7) ha hb
  have e : (BitVec.ofInt IntKind.u8.bits (a : Int) ||| BitVec.ofInt IntKind.u8.bits (b : Int)).toNat = a ||| b := by
    show (BitVec.ofInt 8 (a : Int) ||| BitVec.ofInt 8 (b : Int)).toNat = _
    rw [BitVec.ofInt_natCast, BitVec.ofInt_natCast, BitVec.toNat_or, BitVec.toNat_ofNat, BitVec.toNat_ofNat, Nat.mod_eq_of_lt (by omega), Nat.mod_eq_of_lt (by omega)]
  rw [e]
  simp [IntKind.wrap, IntKind.signed, IntKind.bits]
  omega
theorem was_succ (s : ByteArray) (i : Nat) : was s (i + 1) = spI (byt s i) := by simp [was]
theorem spN_le (s : ByteArray) : ∀ i, spN s i ≤ i
  | 0 => Nat.le_refl 0
  | i + 1 => by
    have := spN_le s i
    have h : spI (byt s i) ≤ 1 := by unfold spI; split <;> omega
    show spN s i + spI (byt s i) ≤ i + 1
    omega
theorem spN_mono (s : ByteArray) {i : Nat} : ∀ {j : Nat}, i ≤ j → spN s i ≤ spN s j
  | 0, h => by rw [show i = 0 by omega]; exact Nat.le_refl _
  | j + 1, h => by
    rcases Nat.lt_or_ge i (j + 1) with h1 | h1
    · have := spN_mono s (i := i) (j := j) (by omega)
      show _ ≤ spN s j + _
      omega
    · rw [show i = j + 1 by omega]
      exact Nat.le_refl _
theorem wf_step {s : ByteArray} (hw : Wf s) {i : Nat} (h : i < s.size) : was s i * (1 - spI (byt s i)) = was s i := by
  cases hs : isSp (byt s i) with
  | false => simp [spI, hs]
  | true =>
    have hi : i ≠ 0 := fun e => by
      subst e
      rw [hw.f] at hs
      cases hs
    have h0 : isSp (byt s (i - 1)) = false := by
      cases hq : isSp (byt s (i - 1)) with
      | false => rfl
      | true =>
        have := hw.a (i - 1) (by omega) hq
        rw [show i - 1 + 1 = i by omega, hs] at this
        cases this
    simp [was, hi, spI, h0]
theorem c264 (s : ByteArray) (hw : Wf s) : Sp Tryz.prog 264 [.string s] [spC] fun K => ∀ b cs, cs.length = spN s s.size + 1 → (∀ v ∈ cs, ∃ t, v = .string t) → K (.returned (.slice (some ⟨b, 0, none⟩) cs.length cs.length)) [.blk b 9 cs, spC] := by
  have hz := hw.sz
  refine Zen Tryz.func264 rfl rfl rfl fun e X Φ hS => Zsr <| Zv (ya rfl) <| Znl <| Znx <| Zsr <| Zv (ya rfl) <| Znl <| Znx <| Zsr ?_
  refine Zv (ya rfl) <| Znl <| Znx <| Zsr <| Zv (ya rfl) <| Znl <| Znx <| Zsq <| Zsr <| Zv (ya rfl) ?_
  refine Znl <| Znx <| Zbl ?_
  refine Zlq (ι := { p : Nat × Nat × Nat // p.1 ≤ s.size ∧ p.2.1 < 128 ∧ p.2.2 + was s p.1 = spN s p.1 + 1 }) (fun p => [(6, .int .i64 (p.1.1 : Int)), (5, .int .u8 (p.1.2.1 : Int)), (4, .int .i64 (was s p.1.1 : Int)), (3, .int .i64 (p.1.2.2 : Int)), (0, .string s)]) (fun _ => [spC]) (fun p => s.size - p.1.1) ⟨(0, 0, 0), Nat.zero_le _, by decide, rfl⟩ ⟨rfl, rfl, rfl, rfl, rfl, trivial⟩ [0] rfl fun p => Zsq <| Zsr <| Zv (ym rfl) <| Zv (ym rfl) <| Zv (ystl rfl) <| Zv (ylt rfl rfl) <| Znl <| Znx <| Zif rfl (fun h16 => ?_) (fun h16 => ?_)
  refine Zsk <| Znx <| Zsq <| Zbl <| Zsr <| Zv (ym rfl) <| Zv (ym rfl) <| Zv (ysti rfl rfl (by omega)) <| Zv (ya rfl) <| Znl ?_
  refine Znx <| Zsr <| Zv (ym rfl) <| Zv (ym rfl) <| Zv (yor rfl rfl rfl) <| Zv (ya rfl) <| Znl <| Znx <| Zsr <| Zv (ym rfl) ?_
  rotate_left
  refine Zex <| Zxt <| Zxt <| Zxx <| Znx <| Zsq <| Zsr <| Zv (ym rfl) <| Zv (yge rfl rfl) <| Znl ?_
  refine Znx <| Zcf' rfl (decide_eq_false (by omega)) <| Zsk <| Znx <| Zsr <| Zv (ym rfl) ?_
  rotate_left
  · have hlt : p.1.1 < s.size := by omega
    have hb1 := hw.lo _ hlt
    have hsp : spI (byt s p.1.1) ≤ 1 := by unfold spI; split <;> omega
    have hwl := was_le s p.1.1
    obtain ⟨hp1, hp2, hp3⟩ := p.2
    obtain ⟨c, hc1, hc2⟩ := or_at hp2 hb1
    rw [byt_at hlt, hc2]
    refine Zv (yai (i := byt s p.1.1) Tryz.underlying405 rfl rfl (by omega)) ?_
    refine Zv (yd 0 rfl rfl (by rw [Nat.zero_add]; exact spL_at (by omega))) <| Zv (ycv Tryz.underlying5 Tryz.underlying3 rfl (i64w rfl (by omega))) <| Zv (ya rfl) <| Znl <| Znx <| Zsr <| Zv (ym rfl) <| Zv (ym rfl) <| Zv (ym rfl) ?_
    refine Zv (ycpl rfl (cpl_at hsp)) ?_
    refine Zv (yand rfl rfl (nand_at hwl hsp)) <| Zv (yadd rfl rfl rfl) <| Zv (ya rfl) <| Znl <| Znx <| Zrg <| Zv (ym rfl) <| Zv (ya rfl) <| Znl <| Zxn ?_
    refine Znx <| Zrg <| Zv (ym rfl) <| Zv (yadd rfl rfl (i64w rfl (by omega))) <| Zv (ya rfl) <| Znl ?_
    rw [wf_step hw hlt, show IntKind.i64.wrap ((p.1.2.2 : Int) + (was s p.1.1 : Int)) = ((p.1.2.2 + was s p.1.1 : Nat) : Int) from i64w rfl (by have := spN_le s p.1.1; omega), ← was_succ]
    refine Zlr ⟨(p.1.1 + 1, c, p.1.2.2 + was s p.1.1), by refine ⟨hlt, hc1, ?_⟩; rw [was_succ]; show p.1.2.2 + was s p.1.1 + spI (byt s p.1.1) = spN s p.1.1 + spI (byt s p.1.1) + 1; omega⟩ (by show s.size - (p.1.1 + 1) < s.size - p.1.1; omega) ⟨rfl, rfl, rfl, rfl, rfl, trivial⟩ [0] 0 rfl rfl
  · obtain ⟨hp1, hp2, hp3⟩ := p.2
    have hps : p.1.1 = s.size := by omega
    have hp0 := hw.pos
    have hl0 : was s s.size = 0 := by
      have := hw.l
      simp [was, show s.size ≠ 0 by omega, spI, this]
    have hn : p.1.2.2 = spN s s.size + 1 := by rw [hps, hl0] at hp3; omega
    have hle := spN_le s s.size
    rw [hn]
    refine Ze (emkb (n := spN s s.size + 1) (bytes := 16) (zv := .string ByteArray.empty) Tryz.underlying387 rfl rfl rfl (by omega) (ml_le (by omega))) <| fun g => Zw <| Zv (ya rfl) <| Znl <| Znx <| Zsr <| Zv (ya rfl) <| Znl <| Znx <| Zsr <| Zv (ya rfl) ?_
    refine Znl <| Znx <| Zsr <| Zv (ya rfl) <| Znl <| Znx <| Zsq <| Zbl ?_
    have hb0 := hw.lo 0 hp0
    have hs0 : spI (byt s 0) = 0 := by unfold spI; rw [hw.f]; rfl
    refine Zlq (ι := Unit) (fun _ => [(12, .int .i64 ((0 : Nat) : Int)), (11, .int .i64 0), (10, .int .i64 0), (9, .slice (some ⟨g, 0, none⟩) (spN s s.size + 1) (spN s s.size + 1)), (0, .string s)]) (fun _ => [.blk g 9 (List.replicate (spN s s.size + 1) (.string ByteArray.empty)), spC]) (fun _ => 0) () ⟨rfl, rfl, rfl, rfl, rfl, trivial⟩ [0, 0] rfl fun _ => Zsq <| Zsr <| Zv (ym rfl) <| Zv (ym rfl) <| Zv (ystl rfl) <| Zv (ylt rfl rfl) <| Zv (ym rfl) <| Zg' rfl rfl (decide_eq_true (by omega)) <| Zv (ym rfl) ?_
    refine Zg' rfl rfl (decide_eq_true (by omega)) <| Zv (ym rfl) <| Zg' rfl rfl (decide_eq_true (by omega)) <| Zv (ysti rfl rfl (by omega)) <| Zg' rfl rfl (decide_eq_true (by omega)) ?_
    rw [byt_at hp0]
    refine Zv (yai (i := byt s 0) Tryz.underlying405 rfl rfl (by omega)) <| Zg' rfl rfl (decide_eq_true (by omega)) ?_
    refine Zv (yd 1 rfl rfl (by rw [Nat.zero_add]; exact spL_at (by omega))) <| Zg' rfl rfl (decide_eq_true (by omega)) ?_
    rw [hs0]
    refine Zv (yne rfl rfl) <| Zv (ypt' rfl (decide_eq_true (by omega)) rfl) <| Znl <| Znx <| Zcf rfl <| Zex <| Zxt <| Zxt <| Zxx <| Znx ?_
    refine Zsr <| Zv (ym rfl) <| Zv (ya rfl) <| Znl <| Znx <| Zsq <| Zbl ?_
    refine Zlq (ι := { q : Nat × Nat × List Value // q.1 ≤ s.size ∧ q.2.1 ≤ q.1 ∧ q.2.2.length = spN s s.size + 1 ∧ ∀ v ∈ q.2.2, ∃ t, v = .string t }) (fun q => [(12, .int .i64 (q.1.1 : Int)), (11, .int .i64 (q.1.2.1 : Int)), (10, .int .i64 (spN s q.1.1 : Int)), (9, .slice (some ⟨g, 0, none⟩) (spN s s.size + 1) (spN s s.size + 1)), (0, .string s)]) (fun q => [.blk g 9 q.1.2.2, spC]) (fun q => s.size - q.1.1) ⟨(0, 0, List.replicate (spN s s.size + 1) (.string ByteArray.empty)), Nat.zero_le _, Nat.le_refl _, by simp, fun v hv => ⟨_, List.eq_of_mem_replicate hv⟩⟩ ⟨rfl, rfl, rfl, rfl, rfl, trivial⟩ [0, 0] rfl fun q => Zsq <| Zsr <| Zv (ym rfl) <| Zv (ym rfl) <| Zv (ystl rfl) <| Zv (ylt rfl rfl) <| Znl <| Znx <| Zif rfl (fun h60 => ?_) (fun h60 => ?_)
    refine Zsk <| Znx <| Zbl <| Zsq <| Zsr <| Zv (ym rfl) <| Zv (ym rfl) <| Zv (ysti rfl rfl (by omega)) ?_
    rotate_left
    refine Zex <| Zxt <| Zxt <| Zxx <| Znx <| Zsq <| Zsr <| Zv (ym rfl) <| Zv (ym rfl) <| Zv (ystl rfl) ?_
    refine Zv (ylt rfl rfl) <| Znl <| Znx <| Zif rfl (fun h98 => ?_) (fun h98 => ?_)
    refine Zrg <| Zv (ym rfl) <| Zv (ym rfl) <| Zv (ym rfl) <| Zv (ym rfl) <| Zv (ystr rfl rfl (by omega)) ?_
    rotate_left
    refine Zsk <| Znx <| Zsr <| Zv (ym rfl) <| Zv (ya rfl) <| Znl <| Znx <| Zrt ?_
    rotate_left
    · have hlt : q.1.1 < s.size := by omega
      obtain ⟨q1, q2, q3, q4⟩ := q.2
      have hbb := hw.lo _ hlt
      have hmo : spN s q.1.1 + spI (byt s q.1.1) ≤ spN s s.size := spN_mono s (i := q.1.1 + 1) hlt
      rw [byt_at hlt]
      refine Zv (yai (i := byt s q.1.1) Tryz.underlying405 rfl rfl (by omega)) ?_
      refine Zv (yd 1 rfl rfl (by rw [Nat.zero_add]; exact spL_at (by omega))) ?_
      have hsu : spN s (q.1.1 + 1) = spN s q.1.1 + spI (byt s q.1.1) := rfl
      have hsl : spI (byt s q.1.1) = 1 → q.1.1 + 1 < s.size ∧ spI (byt s (q.1.1 + 1)) = 0 := fun h => by
        have h1 : isSp (byt s q.1.1) = true := by
          unfold spI at h
          split at h
          · assumption
          · cases h
        have h2 : q.1.1 + 1 < s.size := by
          rcases Nat.lt_or_ge (q.1.1 + 1) s.size with h | h
          · exact h
          · have := hw.l
            rw [show s.size - 1 = q.1.1 by omega, h1] at this
            cases this
        exact ⟨h2, by unfold spI; rw [hw.a _ h2 h1]; rfl⟩
      have hsp : spI (byt s q.1.1) ≤ 1 := by unfold spI; split <;> omega
      generalize spI (byt s q.1.1) = t at hmo hsu hsl hsp ⊢
      refine Zv (yeq rfl rfl) <| Znl <| Znx <| Zif rfl (fun h66 => ?_) (fun h66 => ?_)
      refine Zsr <| Zv (ym rfl) <| Zv (yadd rfl rfl (i64w rfl (by omega))) <| Zv (ya rfl) <| Znl <| Znx <| Zex <| Zxt <| Zxx ?_
      rotate_left
      refine Zsk <| Znx <| Zsr <| Zv (ym rfl) <| Zv (ym rfl) <| Zv (ym rfl) <| Zv (ym rfl) <| Zv (ym rfl) <| Zv (ysts rfl rfl rfl (by omega) (by omega)) ?_
      rotate_left
      · have hsn : spN s q.1.1 = spN s (q.1.1 + 1) := by omega
        rw [hsn]
        refine Zlr ⟨(q.1.1 + 1, q.1.2.1, q.1.2.2), by dsimp only; omega, by dsimp only; omega, q3, q4⟩ (by show s.size - (q.1.1 + 1) < s.size - q.1.1; omega) ⟨rfl, rfl, rfl, rfl, rfl, trivial⟩ [0, 0] 0 rfl rfl
      · refine Zv (yeb (s := 1) (spN s q.1.1) Tryz.underlying387 rfl rfl (by omega) (by omega)) ?_
        refine Ze (es 0 rfl rfl rfl (put_set _ _ _ (by omega)) rfl) <| Zw0 <| Znl <| Znx <| Zsr <| Zv (ym rfl) <| Zv (yadd rfl rfl (i64w rfl (by omega))) <| Zv (ya rfl) <| Znl <| Znx <| Zsr ?_
        refine Zv (ym rfl) <| Zv (yadd rfl rfl (i64w rfl (by omega))) <| Zv (ya rfl) <| Znl <| Znx <| Zsq <| Zbl ?_
        obtain ⟨hs1, hs2⟩ := hsl (by omega)
        have hbn := hw.lo _ hs1
        have hset : ∀ v ∈ q.1.2.2.set (spN s q.1.1) (.string (s.extract q.1.2.1 q.1.1)), ∃ t, v = .string t := fun v hv => by
          rcases List.mem_or_eq_of_mem_set hv with h | h
          · exact q4 v h
          · exact ⟨_, h⟩
        refine Zlq (ι := Unit) (fun _ => [(12, .int .i64 ((q.1.1 + 1 : Nat) : Int)), (10, .int .i64 ((spN s q.1.1 : Int) + 1)), (9, .slice (some ⟨g, 0, none⟩) (spN s s.size + 1) (spN s s.size + 1)), (0, .string s)]) (fun _ => [.blk g 9 (q.1.2.2.set (spN s q.1.1) (.string (s.extract q.1.2.1 q.1.1))), spC]) (fun _ => 0) () ⟨rfl, rfl, rfl, rfl, trivial⟩ [0, 0] rfl fun _ => Zsq <| Zsr <| Zv (ym rfl) <| Zv (ym rfl) <| Zv (ystl rfl) <| Zv (ylt rfl rfl) <| Zv (ym rfl) <| Zg' rfl rfl (decide_eq_true (by omega)) <| Zv (ym rfl) ?_
        refine Zg' rfl rfl (decide_eq_true (by omega)) <| Zv (ym rfl) <| Zg' rfl rfl (decide_eq_true (by omega)) <| Zv (ysti rfl rfl (by omega)) <| Zg' rfl rfl (decide_eq_true (by omega)) ?_
        rw [byt_at hs1]
        refine Zv (yai (i := byt s (q.1.1 + 1)) Tryz.underlying405 rfl rfl (by omega)) <| Zg' rfl rfl (decide_eq_true (by omega)) ?_
        refine Zv (yd 1 rfl rfl (by rw [Nat.zero_add]; exact spL_at (by omega))) <| Zg' rfl rfl (decide_eq_true (by omega)) ?_
        rw [hs2]
        refine Zv (yne rfl rfl) <| Zv (ypt' rfl (decide_eq_true (by omega)) rfl) <| Znl <| Znx <| Zcf rfl <| Zex <| Zxt <| Zxt <| Zxx <| Znx ?_
        refine Zrg <| Zv (ym rfl) <| Zv (ya rfl) <| Znl <| Zxn ?_
        have hsn : (spN s q.1.1 : Int) + 1 = ((spN s (q.1.1 + 1) : Nat) : Int) := by omega
        rw [hsn]
        refine Zlr ⟨(q.1.1 + 1, q.1.1 + 1, q.1.2.2.set (spN s q.1.1) (.string (s.extract q.1.2.1 q.1.1))), by dsimp only; omega, Nat.le_refl _, by rw [List.length_set]; exact q3, hset⟩ (by show s.size - (q.1.1 + 1) < s.size - q.1.1; omega) ⟨rfl, rfl, rfl, rfl, rfl, trivial⟩ [0, 0] 0 rfl rfl
    · obtain ⟨q1, q2, q3, q4⟩ := q.2
      have hqs : q.1.1 = s.size := by omega
      refine Zv (yeb (s := 1) (spN s q.1.1) Tryz.underlying387 rfl rfl (by rw [hqs]; omega) (by omega)) ?_
      refine Ze (es 0 rfl rfl rfl (put_set _ _ _ (by rw [hqs]; omega)) rfl) <| Zw0 <| Znl <| Znx <| Zsr <| Zv (ym rfl) <| Zv (ya rfl) <| Znl <| Znx <| Zrt ?_
      have hc3 : (q.1.2.2.set (spN s q.1.1) (.string (s.extract q.1.2.1 s.size))).length = spN s s.size + 1 := by rw [List.length_set]; exact q3
      have hS2 := hS g _ hc3 fun v hv => by
        rcases List.mem_or_eq_of_mem_set hv with h | h
        · exact q4 v h
        · exact ⟨_, h⟩
      rw [hc3] at hS2
      refine Zre (.t rfl .n) hS2 [0,0] 0 rfl rfl rfl rfl
    · obtain ⟨q1, q2, q3, q4⟩ := q.2
      have hS2 := hS g _ q3 q4
      rw [q3] at hS2
      refine Zre (.t rfl .n) hS2 [0,0] 0 rfl rfl rfl rfl
end Go.Proofs.YtpfijldkkfiooaaGreatDoor
namespace Go.Proofs.YtpfijldkkfiooaaGreatDoor
open Go Go.RowKit
set_option maxRecDepth 4000
def wds (us : List Int) : List Value := us.map (Value.int .u32)
theorem ebc {N : Nat × List Deferred} {T : Tb} {e : World} {L : List Ck} {ty : TypeId} {pos : String} {af : Array Edge} {g : Option (Nat × Bool)} {dd : Option Nat} {n : Nat} {parts : List (Nat × Operand)} {ps : List (Nat × Value)} (us : List Int) (h : evP T parts = some ps) (hn0 : 0 < n) (hn : n ≤ 100) (hf : Instr.fill (fun q => some (q * 1, 1)) ((Array.range (n * 1)).map ((Value.int .u32 0).cells[· % (Value.int .u32 0).cells.size]!)) ps = some (wds us).toArray) : Ef Tryz.prog N T e L ⟨dd, .buildSlice 62 n parts.toArray, ty, pos, af, g⟩ fun K => ∀ b, K (some (.slice (some ⟨b, 0, none⟩) n n)) (.blk b 40 (wds us) :: L) := fun a w fr hp G kk => .inl (by
  obtain ⟨i, hi, hz0, hz1, hz2⟩ := info_parts (show (Tryz.prog.info? 40).map (fun i => (i.zero, i.size, i.bytes)) = some (some (.int .u32 0), 1, 4) by kernel_rfl)
  have hfill : Instr.fill (fun q => some (q * i.size, i.size)) ((Array.range (n * i.size)).map ((Value.int .u32 0).cells[· % (Value.int .u32 0).cells.size]!)) ps = some (wds us).toArray := by
    rw [hz1]; exact hf
  have := run_buildSlice (P := Tryz.prog) w 62 40 n ps.toArray (wds us).toArray i _ Tryz.underlying62 hi hz0 (by rw [hz1]; omega) (by rw [hz1]; omega) (by simpa using hfill)
  refine ⟨.slice (some ⟨w.heap.size, 0, none⟩) n n, w.alloc (.cells (wds us).toArray 40), ?_, kk _ _ (hp.newB ((Only.refl _ w).alloc _) (Go.heap_alloc_new w _) (Nat.le_refl _))⟩
  have h2 := fr.evP h
  have h3 : (parts.toArray.map fun (x : Nat × Operand) => (x.1, a.eval x.2)) = ps.toArray := by rw [← h2]; simp
  have h4 : parts.map (fun x => (x.fst, a.eval x.snd)) = ps := h2
  simp [execOp]
  rw [h4, this]
  rfl)
def cdB (code u : Int) (k : Nat) : Int := IntKind.u32.wrap ((BitVec.ofInt IntKind.u32.bits code ||| BitVec.ofInt IntKind.u32.bits (IntKind.u32.wrap (u * 2 ^ min k IntKind.u32.bits))).toNat : Int)
abbrev RowD := Int × Fm × Int
def rT (n : Nat) : List RowD := rowT.take n
theorem row_yd {P : Program} {l : Nat} {J Jx : List RowD → HP} (hY : ∀ pre x, pre ++ [x] <+: rowT → ∀ vs, RowR x vs → Yd P l vs (J pre) (J (pre ++ [x])) (Jx (pre ++ [x]))) {n : Nat} {f : Fm} {b : Int} (h : rowT[n]? = some ((n : Int) + 1, f, b)) (vs : List Value) (hR : RowR ((n : Int) + 1, f, b) vs) : Yd P l vs (J (rT n)) (J (rT (n + 1))) (Jx (rT (n + 1))) := by
  have e : rT (n + 1) = rT n ++ [((n : Int) + 1, f, b)] := by
    unfold rT
    rw [List.take_add_one, h]
    rfl
  rw [e]
  exact hY _ _ (by rw [← e]; exact List.take_prefix _ _) vs hR
theorem wds_at {us : List Int} {i : Nat} (h : i < us.length) : nth (wds us) i = some (.int .u32 (us.getD i 0)) := by
  rw [nth_eq]
  simp [wds, List.getD, h]
end Go.Proofs.YtpfijldkkfiooaaGreatDoor
namespace Go.Proofs.YtpfijldkkfiooaaGreatDoor
open Go
set_option maxRecDepth 4000
theorem c263 (l r b3 b4 b5 b6 bl c n : Nat) (me : List MapEntry) (key s : ByteArray) (f : Fm) (code : Int) (us : List Int) (J Jx : List RowD → HP) (hn : n + us.length < 100) (hF : ∃ v, Fin me key v ∧ FmV f v) (hY : ∀ pre x, pre ++ [x] <+: rowT → ∀ vs, RowR x vs → Yd Tryz.prog l vs (J pre) (J (pre ++ [x])) (Jx (pre ++ [x]))) (hw : Wf s) (hus : us.length = spN s s.size + 1) (hrow : ∀ i, i < us.length → rowT[n + i]? = some (((n + i : Nat) : Int) + 1, f, cdB code (us.getD i 0) 12)) : Sp Tryz.prog 263 [.string key, .int .u32 code, .string s, .slice (some ⟨bl, 0, none⟩) us.length us.length, .pointer (some ⟨b6, 0, none⟩)] [.hp (J (rT n)), .blk b3 42 [.int .i64 (n : Int)], .blk b4 384 [.func (.yield l) #[] #[]], .blk b5 385 [.map (some r)], smap r me c, .blk b6 388 [.func (.func 262) #[] #[.pointer (some ⟨b3, 0, none⟩), .pointer (some ⟨b4, 0, none⟩), .pointer (some ⟨b5, 0, none⟩)]], .blk bl 40 (wds us), spC] fun K => K (.returned (.bool true)) [.hp (J (rT (n + us.length))), .blk b3 42 [.int .i64 ((n + us.length : Nat) : Int)], .blk b4 384 [.func (.yield l) #[] #[]], .blk b5 385 [.map (some r)], smap r me c, .blk b6 388 [.func (.func 262) #[] #[.pointer (some ⟨b3, 0, none⟩), .pointer (some ⟨b4, 0, none⟩), .pointer (some ⟨b5, 0, none⟩)]], .blk bl 40 (wds us), spC] ∧ ∀ m, K (.returned (.bool false)) [.hp (Jx (rT m)), spC] := by
  refine Zen Tryz.func263 rfl rfl rfl fun e X Φ hS => Zsr <| Zv (ya rfl) <| Znl <| Znx <| Zsq <| Zsr <| Zv (ym rfl) ?_
  refine Zk (c264 s hw) [7] rfl rfl <| fun b => fun cs => fun a => fun a_1 => Zq <| Zv (sl_of ⟨_, Tryz.underlying387⟩ rfl) <| Zv (ym rfl) <| Znl <| Znx ?_
  refine Zbl ?_
  have hcl : cs.length = us.length := by omega
  rw [hcl]
  refine Zlq (ι := { i : Nat // i ≤ us.length }) (fun i => [(15, .int .i64 (i.1 : Int)), (14, .int .i64 (us.length : Int)), (13, .slice (some ⟨b, 0, none⟩) us.length us.length), (0, .string key), (1, .int .u32 code), (3, .slice (some ⟨bl, 0, none⟩) us.length us.length), (4, .pointer (some ⟨b6, 0, none⟩))]) (fun i => [.blk b 9 cs, .hp (J (rT (n + i.1))), .blk b3 42 [.int .i64 ((n + i.1 : Nat) : Int)], .blk b4 384 [.func (.yield l) #[] #[]], .blk b5 385 [.map (some r)], smap r me c, .blk b6 388 [.func (.func 262) #[] #[.pointer (some ⟨b3, 0, none⟩), .pointer (some ⟨b4, 0, none⟩), .pointer (some ⟨b5, 0, none⟩)]], .blk bl 40 (wds us), spC]) (fun i => us.length - i.1) ⟨0, by omega⟩ ⟨rfl, rfl, rfl, rfl, rfl, rfl, rfl, trivial⟩ [0, 1, 1, 1, 1, 1, 1, 1, 0] rfl fun i => Zsr <| Zv (ylt rfl rfl) <| Znl <| Znx <| Zsq <| Zif rfl (fun h16 => ?_) (fun h16 => ?_)
  refine Zsk <| Znx <| Zsq <| Zbl <| Zsr <| Zv (ym rfl) ?_
  rotate_left
  refine Zex <| Zxt <| Zxt <| Zxx <| Znx <| Zsr <| Zv (ya rfl) <| Znl <| Znx <| Zrt ?_
  rotate_left
  · have hlt : i.1 < us.length := by omega
    have hv := List.getElem_mem (l := cs) (n := i.1) (by omega)
    obtain ⟨nm, hnm⟩ := a_1 _ hv
    have hn2 : nth cs i.1 = some (.string nm) := by rw [nth_eq, List.getElem?_eq_getElem (by omega), hnm]
    have hu2 := wds_at hlt
    generalize hgu : us.getD i.1 0 = u at hu2
    refine Zv (yeb (j := i.1) (s := 1) i.1 Tryz.underlying387 rfl rfl (by omega) (by omega)) <| Zv (yd 0 rfl rfl hn2) <| Zv (ya rfl) <| Zv (ya rfl) <| Znl <| Znx <| Zsq ?_
    refine Zhd [1,1,1,1,1] rfl rfl <| Zht 0 rfl (yd 1 rfl rfl rfl) <| Zht 1 rfl (ym rfl) <| Zht 2 rfl (ym rfl) <| Zht 3 rfl (ym rfl) <| Zht 4 rfl (ym rfl) <| Zht 9 rfl (ym rfl) ?_
    refine Zht 5 rfl (yeb (j := i.1) (s := 1) i.1 Tryz.underlying62 rfl rfl (by omega) (by omega)) <| Zht 6 rfl (yd 2 rfl rfl hu2) <| Zht 7 rfl (yshl rfl rfl (by decide) rfl) <| Zht 8 rfl (yor rfl rfl rfl) ?_
    refine Zh1 10 (by kernel_rfl) <| Zoe rfl (ebst rfl) fun g => Zwh 6 rfl ?_
    have hr := hrow i.1 hlt
    rw [hgu] at hr
    refine Zh1 11 (by kernel_rfl) <| Zokv (b1 := []) (b2 := [.pointer (some ⟨b3, 0, none⟩), .pointer (some ⟨b4, 0, none⟩), .pointer (some ⟨b5, 0, none⟩)]) (args := [.string key, .int .u32 (cdB code u 12), .slice (some ⟨g, 0, none⟩) 1 1]) (c262 l r g b3 b4 b5 c (n + i.1) me key nm f (cdB code u 12) (J (rT (n + i.1))) (J (rT (n + i.1 + 1))) (Jx (rT (n + i.1 + 1))) (by omega) hF (row_yd hY hr)) [1,1,1,1,1,0] rfl rfl rfl rfl rfl <| ⟨Zqh 6 rfl ?_, Zqh 6 rfl ?_⟩
    refine Zht 12 rfl (ynot rfl) <| Zhn (by kernel_rfl) <| Znx <| Zcf rfl <| Zsk <| Zxn <| Znx <| Zrg <| Zv (yadd rfl rfl (i64w rfl (by omega))) <| Zv (ym rfl) ?_
    refine Znl ?_
    rotate_left
    refine Zht 12 rfl (ynot rfl) <| Zhn (by kernel_rfl) <| Znx <| Zct rfl <| Zsr <| Zv (ya rfl) <| Znl <| Znx <| Zrt <| Zr2 ?_
    refine Zr1 <| Zr1 <| Zr2 <| Zr1 ?_
    rotate_left
    · refine Zlr ⟨i.1 + 1, hlt⟩ (by show us.length - (i.1 + 1) < us.length - i.1; omega) ⟨rfl, rfl, rfl, rfl, rfl, rfl, rfl, trivial⟩ [6, 0, 0, 0, 0, 0, 1, 1, 1] 1 rfl rfl
    · refine Zre (.t rfl .n) (hS.2 (n + i.1 + 1)) [0,8] 8 rfl rfl rfl rfl
  · have hi : i.1 = us.length := by have := i.2; omega
    rw [hi]
    refine Zre (.t rfl .n) hS.1 [1,1,1,1,1,1,1,1] 1 rfl rfl rfl rfl
theorem c265 (l r b3 b4 b5 b6 bl c n : Nat) (me : List MapEntry) (key s : ByteArray) (f : Fm) (us : List Int) (J Jx : List RowD → HP) (hn : n + us.length < 100) (hF : ∃ v, Fin me key v ∧ FmV f v) (hY : ∀ pre x, pre ++ [x] <+: rowT → ∀ vs, RowR x vs → Yd Tryz.prog l vs (J pre) (J (pre ++ [x])) (Jx (pre ++ [x]))) (hw : Wf s) (hus : us.length = spN s s.size + 1) (hrow : ∀ i, i < us.length → rowT[n + i]? = some (((n + i : Nat) : Int) + 1, f, cdB 8239 (us.getD i 0) 27)) : Sp Tryz.prog 265 [.string key, .string s, .slice (some ⟨bl, 0, none⟩) us.length us.length, .pointer (some ⟨b6, 0, none⟩)] [.hp (J (rT n)), .blk b3 42 [.int .i64 (n : Int)], .blk b4 384 [.func (.yield l) #[] #[]], .blk b5 385 [.map (some r)], smap r me c, .blk b6 388 [.func (.func 262) #[] #[.pointer (some ⟨b3, 0, none⟩), .pointer (some ⟨b4, 0, none⟩), .pointer (some ⟨b5, 0, none⟩)]], .blk bl 40 (wds us), spC] fun K => K (.returned (.bool true)) [.hp (J (rT (n + us.length))), .blk b3 42 [.int .i64 ((n + us.length : Nat) : Int)], .blk b4 384 [.func (.yield l) #[] #[]], .blk b5 385 [.map (some r)], smap r me c, .blk b6 388 [.func (.func 262) #[] #[.pointer (some ⟨b3, 0, none⟩), .pointer (some ⟨b4, 0, none⟩), .pointer (some ⟨b5, 0, none⟩)]], .blk bl 40 (wds us), spC] ∧ ∀ m, K (.returned (.bool false)) [.hp (Jx (rT m)), spC] := by
  refine Zen Tryz.func265 rfl rfl rfl fun e X Φ hS => Zsr <| Zv (ya rfl) <| Znl <| Znx <| Zsq <| Zsr <| Zv (ym rfl) ?_
  refine Zk (c264 s hw) [7] rfl rfl <| fun b => fun cs => fun a => fun a_1 => Zq <| Zv (sl_of ⟨_, Tryz.underlying387⟩ rfl) <| Zv (ym rfl) <| Znl <| Znx ?_
  refine Zbl ?_
  have hcl : cs.length = us.length := by omega
  rw [hcl]
  refine Zlq (ι := { i : Nat // i ≤ us.length }) (fun i => [(13, .int .i64 (i.1 : Int)), (12, .int .i64 (us.length : Int)), (11, .slice (some ⟨b, 0, none⟩) us.length us.length), (0, .string key), (2, .slice (some ⟨bl, 0, none⟩) us.length us.length), (3, .pointer (some ⟨b6, 0, none⟩))]) (fun i => [.blk b 9 cs, .hp (J (rT (n + i.1))), .blk b3 42 [.int .i64 ((n + i.1 : Nat) : Int)], .blk b4 384 [.func (.yield l) #[] #[]], .blk b5 385 [.map (some r)], smap r me c, .blk b6 388 [.func (.func 262) #[] #[.pointer (some ⟨b3, 0, none⟩), .pointer (some ⟨b4, 0, none⟩), .pointer (some ⟨b5, 0, none⟩)]], .blk bl 40 (wds us), spC]) (fun i => us.length - i.1) ⟨0, by omega⟩ ⟨rfl, rfl, rfl, rfl, rfl, rfl, trivial⟩ [0, 1, 1, 1, 1, 1, 1, 1, 0] rfl fun i => Zsr <| Zv (ylt rfl rfl) <| Znl <| Znx <| Zsq <| Zif rfl (fun h14 => ?_) (fun h14 => ?_)
  refine Zsk <| Znx <| Zsq <| Zbl <| Zsr <| Zv (ym rfl) ?_
  rotate_left
  refine Zex <| Zxt <| Zxt <| Zxx <| Znx <| Zsr <| Zv (ya rfl) <| Znl <| Znx <| Zrt ?_
  rotate_left
  · have hlt : i.1 < us.length := by omega
    have hv := List.getElem_mem (l := cs) (n := i.1) (by omega)
    obtain ⟨nm, hnm⟩ := a_1 _ hv
    have hn2 : nth cs i.1 = some (.string nm) := by rw [nth_eq, List.getElem?_eq_getElem (by omega), hnm]
    have hu2 := wds_at hlt
    generalize hgu : us.getD i.1 0 = u at hu2
    refine Zv (yeb (j := i.1) (s := 1) i.1 Tryz.underlying387 rfl rfl (by omega) (by omega)) <| Zv (yd 0 rfl rfl hn2) <| Zv (ya rfl) <| Zv (ya rfl) <| Znl <| Znx <| Zsq ?_
    refine Zhd [1,1,1,1,1] rfl rfl <| Zht 0 rfl (yd 1 rfl rfl rfl) <| Zht 1 rfl (ym rfl) <| Zht 2 rfl (ym rfl) <| Zht 3 rfl (ym rfl) <| Zht 8 rfl (ym rfl) ?_
    refine Zht 4 rfl (yeb (j := i.1) (s := 1) i.1 Tryz.underlying62 rfl rfl (by omega) (by omega)) <| Zht 5 rfl (yd 2 rfl rfl hu2) <| Zht 6 rfl (yshl rfl rfl (by decide) rfl) <| Zht 7 rfl (yor rfl rfl rfl) ?_
    refine Zh1 9 (by kernel_rfl) <| Zoe rfl (ebst rfl) fun g => Zwh 6 rfl ?_
    have hr := hrow i.1 hlt
    rw [hgu] at hr
    refine Zh1 10 (by kernel_rfl) <| Zokv (b1 := []) (b2 := [.pointer (some ⟨b3, 0, none⟩), .pointer (some ⟨b4, 0, none⟩), .pointer (some ⟨b5, 0, none⟩)]) (args := [.string key, .int .u32 (cdB 8239 u 27), .slice (some ⟨g, 0, none⟩) 1 1]) (c262 l r g b3 b4 b5 c (n + i.1) me key nm f (cdB 8239 u 27) (J (rT (n + i.1))) (J (rT (n + i.1 + 1))) (Jx (rT (n + i.1 + 1))) (by omega) hF (row_yd hY hr)) [1,1,1,1,1,0] rfl rfl rfl rfl rfl <| ⟨Zqh 6 rfl ?_, Zqh 6 rfl ?_⟩
    refine Zht 11 rfl (ynot rfl) <| Zhn (by kernel_rfl) <| Znx <| Zcf rfl <| Zsk <| Zxn <| Znx <| Zrg <| Zv (yadd rfl rfl (i64w rfl (by omega))) <| Zv (ym rfl) ?_
    refine Znl ?_
    rotate_left
    refine Zht 11 rfl (ynot rfl) <| Zhn (by kernel_rfl) <| Znx <| Zct rfl <| Zsr <| Zv (ya rfl) <| Znl <| Znx <| Zrt <| Zr2 ?_
    refine Zr1 <| Zr1 <| Zr2 <| Zr1 ?_
    rotate_left
    · refine Zlr ⟨i.1 + 1, hlt⟩ (by show us.length - (i.1 + 1) < us.length - i.1; omega) ⟨rfl, rfl, rfl, rfl, rfl, rfl, trivial⟩ [6, 0, 0, 0, 0, 0, 1, 1, 1] 1 rfl rfl
    · refine Zre (.t rfl .n) (hS.2 (n + i.1 + 1)) [0,8] 8 rfl rfl rfl rfl
  · have hi : i.1 = us.length := by have := i.2; omega
    rw [hi]
    refine Zre (.t rfl .n) hS.1 [1,1,1,1,1,1,1,1] 1 rfl rfl rfl rfl
end Go.Proofs.YtpfijldkkfiooaaGreatDoor
namespace Go.Proofs.YtpfijldkkfiooaaGreatDoor
open Go Go.RowKit
def V (a : Act) (d : Nat) : Value := a.tmps.getD d undef
theorem Fr.know {N : Nat × List Deferred} {T : Tb} {a : Act} {d : Nat} {v : Value} (fr : Fr N T a) (h : V a d = v) : Fr N ((d, v) :: T) a := ⟨fr.df, fr.sz, fun t u hl => by
  rw [look_cons] at hl
  by_cases hk : d = t
  · rw [if_pos hk] at hl
    subst hk
    cases hl
    exact h
  · rw [if_neg hk] at hl
    exact fr.get t u hl⟩
theorem V_put {a : Act} {d j : Nat} {v : Value} : V (a.put (some d) v) j = if d = j ∧ d < a.tmps.size then v else V a j := by
  show (a.tmps.setIfInBounds d v).getD j undef = _
  rw [Array.getD_eq_getD_getElem?, Array.getElem?_setIfInBounds]
  by_cases h : d = j
  · subst h
    by_cases h2 : d < a.tmps.size
    · simp [h2]
    · simp [h2, V]
  · simp [h, V]
def inj (ops : Array Oper) : Bool := (List.range ops.size).all fun i => (List.range ops.size).all fun j => decide (i = j) || match dstAt ops i, dstAt ops j with | some d, some d' => decide (d ≠ d') | _, _ => true
theorem dst_lt {ops : Array Oper} {i d : Nat} (h : dstAt ops i = some d) : i < ops.size := by
  unfold dstAt at h
  cases ho : ops[i]? with
  | none => rw [ho] at h; cases h
  | some o => exact (Array.getElem?_eq_some_iff.1 ho).1
theorem inj_spec {ops : Array Oper} (h : inj ops = true) {i j d : Nat} (h1 : dstAt ops i = some d) (h2 : dstAt ops j = some d) : i = j := by
  have := List.all_eq_true.1 (List.all_eq_true.1 h i (List.mem_range.2 (dst_lt h1))) j (List.mem_range.2 (dst_lt h2))
  rw [h1, h2] at this
  simpa using this
section
variable (os : List Oper) (N : Nat × List Deferred) (T0 : Tb) (e : World) (L0 : List Ck) (pj : Nat → Nat → Value → Prop) (key : Nat → Option (ByteArray × Fm))
def MI (listed : Array Bool) (es : List MapEntry) : Prop := ∀ i s f, key i = some (s, f) → (listed.getD i false = true → ∃ v, Fin es s v ∧ FmV f v) ∧ (listed.getD i false = false → Fno es s)
def FL (r : Nat) (listed : Array Bool) (L : List Ck) : Prop := (listed.getD 0 false = false ∧ L = L0) ∨ (listed.getD 0 false = true ∧ ∃ es c, L = smap r es c :: L0 ∧ MI key listed es)
structure FI (r : Nat) (listed : Array Bool) (a : Act) (w : World) : Prop where
  fr : Fr N T0 a
  cl : ∀ x, listed.getD x false = true → ∀ y ∈ edgesOf os.toArray x, listed.getD y false = true
  v : ∀ j d, dstAt os.toArray j = some d → listed.getD j false = true → pj r j (V a d)
  hp : ∃ L, Hp e L w ∧ FL L0 key r listed L
end
section
variable {os : List Oper} {N : Nat × List Deferred} {T0 T : Tb} {e : World} {L0 L L' : List Ck} {pj : Nat → Nat → Value → Prop} {key : Nat → Option (ByteArray × Fm)} {r : Nat} {listed : Array Bool} {a : Act} {w w' : World} {Q : Exit → Act → World → Prop} {i d : Nat} {v : Value} {op : Op} {ty : TypeId} {pos : String} {af : Array Edge}
theorem cl_set (hcl : ∀ x, listed.getD x false = true → ∀ y ∈ edgesOf os.toArray x, listed.getD y false = true) (hi : i < listed.size) (he : ∀ y ∈ edgesOf os.toArray i, listed.getD y false = true) : ∀ x, (listed.setIfInBounds i true).getD x false = true → ∀ y ∈ edgesOf os.toArray x, (listed.setIfInBounds i true).getD y false = true := fun x hx y hy => by
  have h1 : listed.getD y false = true := by
    by_cases hxi : x = i
    · subst hxi; exact he y hy
    · rw [getD_set_t hxi] at hx; exact hcl x hx y hy
  by_cases hyi : y = i
  · subst hyi; exact getD_set_s hi
  · rw [getD_set_t hyi]; exact h1
theorem MI.keep {es : List MapEntry} (h : MI key listed es) (hk : key i = none) : MI key (listed.setIfInBounds i true) es := fun j s f hj => by
  have hji : j ≠ i := fun e => by rw [e, hk] at hj; cases hj
  rw [getD_set_t hji]
  exact h j s f hj
theorem FL.keep (h : FL L0 key r listed L) (hk : key i = none) (h0 : i ≠ 0) : FL L0 key r (listed.setIfInBounds i true) L := by
  unfold FL
  rw [getD_set_t h0.symm]
  rcases h with h | ⟨h1, es, c, h2, h3⟩
  · exact .inl h
  · exact .inr ⟨h1, es, c, h2, h3.keep hk⟩
theorem FI.put (h : FI os N T0 e L0 pj key r listed a w) (hsz : listed.size = os.length) (hi : i < os.length) (he : ∀ y ∈ edgesOf os.toArray i, listed.getD y false = true) (hd : dstAt os.toArray i = some d) (hinj : inj os.toArray = true) (hsub : Sub ((d, v) :: T0) T0) (hN : Nat.blt d N.1 = true) (hv : pj r i v) (hw : ∃ L, Hp e L w' ∧ FL L0 key r (listed.setIfInBounds i true) L) : FI os N T0 e L0 pj key r (listed.setIfInBounds i true) (a.put (some d) v) w' where
  fr := (h.fr.put d v (Nat.le_of_ble_eq_true hN)).sub hsub
  cl := cl_set h.cl (by omega) he
  v := fun j d' hj hl => by
    have hdN : d < N.1 := Nat.le_of_ble_eq_true hN
    by_cases hji : j = i
    · subst hji
      rw [hd] at hj
      cases hj
      rw [V_put, if_pos ⟨rfl, by rw [h.fr.sz]; exact hdN⟩]
      exact hv
    · rw [getD_set_t hji] at hl
      rw [V_put, if_neg (show ¬(d = d' ∧ d < a.tmps.size) from fun e' => hji (inj_spec hinj (by rw [hj, e'.1]) hd))]
      exact h.v j d' hj hl
  hp := hw
theorem stepV (h : FI os N T0 e L0 pj key r listed a w) (hsz : listed.size = os.length) (hi : i < os.length) (he : ∀ y ∈ edgesOf os.toArray i, listed.getD y false = true) (ho : nth os i = some ⟨some d, op, ty, pos, af, none⟩) (hinj : inj os.toArray = true) (hk : key i = none) (h0 : i ≠ 0) (hL : FL L0 key r listed L) (hp : Hp e L w) (fr : Fr N T a) (hx : Yl Tryz.prog N T e L ⟨some d, op, ty, pos, af, none⟩ v) (hv : pj r i v) (hsub : Sub ((d, v) :: T0) T0) (hd : dstAt os.toArray i = some d := by rfl) (hN : Nat.blt d N.1 = true := by rfl) : wpOp Tryz.prog os.toArray Q i (fun a' w' => ∃ r, FI os N T0 e L0 pj key r (listed.setIfInBounds i true) a' w') a w :=
  wpOp_val ho (wanted_no _) (hx a w fr hp) ⟨r, h.put hsz hi he hd hinj hsub hN hv ⟨L, hp, hL.keep hk h0⟩⟩
theorem calls_op {o : Oper} {f : FuncId} {args : Array Value} {K : Act → World → Prop} (hi : nth os i = some o) (hg : Region.wanted o (yielded os.toArray a.tmps) = true) (hrun : (execOp a.eval o).run Tryz.prog w = .ok (.enter f args) w) (c : Calls Tryz.prog f args w fun en w' => ∃ v, en = .returned v ∧ K (a.put o.dst v) w') : wpOp Tryz.prog os.toArray Q i K a w := by
  unfold wpOp
  rw [show os.toArray[i]? = some o by rw [nth_eq] at hi; simpa using hi]
  simp only [hg, if_true]
  refine .inl ?_
  unfold Oper.wp
  rw [hrun]
  refine c.mono fun en w' h => ?_
  obtain ⟨v, rfl, h⟩ := h
  exact h
theorem stepC {f : FuncId} {xs : List Operand} {ts : Array TypeId} {args : List Value} (c : Sp Tryz.prog f args [] fun K => ∀ g cs, K (.returned (.func (.func g) #[] cs)) []) (h : FI os N T0 e L0 pj key r listed a w) (hsz : listed.size = os.length) (hi : i < os.length) (he : ∀ y ∈ edgesOf os.toArray i, listed.getD y false = true) (ho : nth os i = some ⟨some d, .call { callee := .value (.func f), args := xs.toArray, argTypes := ts }, ty, pos, af, none⟩) (hinj : inj os.toArray = true) (hk : key i = none) (h0 : i ≠ 0) (hv : ∀ g cs, pj r i (.func (.func g) #[] cs)) (hsub : ∀ v, Sub ((d, v) :: T0) T0) (ha : evA T0 xs = some args) (hd : dstAt os.toArray i = some d := by rfl) (hN : Nat.blt d N.1 = true := by rfl) (hf : callOk Tryz.prog f = true := by kernel_rfl) : wpOp Tryz.prog os.toArray Q i (fun a' w' => ∃ r, FI os N T0 e L0 pj key r (listed.setIfInBounds i true) a' w') a w := by
  obtain ⟨fn, h1, h2, h3⟩ := callOk_spec hf
  obtain ⟨L, hp, hL⟩ := h.hp
  refine calls_op ho (wanted_no _) (x_call (w := w) (vs := args) rfl rfl (h.fr.evA ha) h1 h2 h3) ?_
  exact c.run e L w _ hp fun g cs w' hw => ⟨_, rfl, r, h.put hsz hi he hd hinj (hsub _) hN (hv g cs) ⟨L, hw, hL.keep hk h0⟩⟩
theorem stepM (h : FI os N T0 e L0 pj key r listed a w) (hsz : listed.size = os.length) (hi : 0 < os.length) (he : ∀ y ∈ edgesOf os.toArray 0, listed.getD y false = true) (hl : listed.getD 0 false = false) {t : TypeId} (ho : nth os 0 = some ⟨some d, .makeMap t none, ty, pos, af, none⟩) (hinj : inj os.toArray = true) (hk : ∀ j s f, key j = some (s, f) → j ≠ 0 ∧ 0 ∈ edgesOf os.toArray j) (hr : ∀ r r' j u, j ≠ 0 → pj r j u → 0 ∈ edgesOf os.toArray j ∨ pj r' j u) (hv : ∀ r, pj r 0 (.map (some r))) (hsub : ∀ v, Sub ((d, v) :: T0) T0) (hd : dstAt os.toArray 0 = some d := by rfl) (hN : Nat.blt d N.1 = true := by rfl) : wpOp Tryz.prog os.toArray Q 0 (fun a' w' => ∃ r, FI os N T0 e L0 pj key r (listed.setIfInBounds 0 true) a' w') a w := by
  obtain ⟨L, hp, hL⟩ := h.hp
  rcases hL with ⟨_, rfl⟩ | ⟨h1, _⟩
  · rcases (emkS (P := Tryz.prog) (N := N) (T := T0) (e := e) (L := L) (ty := ty) (t := t) (pos := pos) (af := af) (g := none) (dd := some d)) a w h.fr hp (fun v w' => ∃ r, v = some (.map (some r)) ∧ Hp e (smap r [] 0 :: L) w') (fun r w' hw => ⟨r, rfl, hw⟩) with ⟨v, w', h1, r', h2, h3⟩ | ⟨w', h1, r', h2, h3⟩
    · cases h2
      have h' : FI os N T0 e L pj key r' listed a w := { h with
        v := fun j d' hj hlj => (hr r r' j _ (fun e => by rw [e, hl] at hlj; cases hlj) (h.v j d' hj hlj)).elim (fun h0 => by
          have := h.cl j hlj 0 h0
          rw [hl] at this
          cases this) id
        hp := ⟨L, hp, .inl ⟨hl, rfl⟩⟩ }
      refine wpOp_val ho (wanted_no _) h1 ⟨r', h'.put hsz hi he hd hinj (hsub _) hN (hv r') ⟨_, h3, .inr ⟨getD_set_s (by omega), [], 0, rfl, fun j s f hj => ?_⟩⟩⟩
      obtain ⟨hj0, hje⟩ := hk j s f hj
      rw [getD_set_t hj0]
      refine ⟨fun hlj => ?_, fun _ => Fno.nil s⟩
      have := h.cl j hlj 0 hje
      rw [hl] at this
      cases this
    · cases h2
  · rw [hl] at h1
    cases h1
theorem stepI {t K0 E : TypeId} {x y z : Operand} {s : ByteArray} {f : Fm} (h : FI os N T0 e L0 pj key r listed a w) (hsz : listed.size = os.length) (hi : i < os.length) (he : ∀ y ∈ edgesOf os.toArray i, listed.getD y false = true) (hl : listed.getD i false = false) (ho : nth os i = some ⟨none, .insert t x y z, ty, pos, af, none⟩) (hk : key i = some (s, f)) (h0 : i ≠ 0) (hl0 : listed.getD 0 false = true) (hkj : ∀ j s' f', key j = some (s', f') → j ≠ i → s' ≠ s) (fr : Fr N T a) (hx : evT T x = some (.map (some r))) (hy : evT T y = some (.string s)) (hz : evT T z = some v) (hv : FmV f v) (hdst : dstAt os.toArray i = none) (ht : Tryz.prog.underlying t = some (.map K0 E)) (hK : Tryz.prog.underlying K0 = some .string) : wpOp Tryz.prog os.toArray Q i (fun a' w' => ∃ r, FI os N T0 e L0 pj key r (listed.setIfInBounds i true) a' w') a w := by
  obtain ⟨L, hp, hL⟩ := h.hp
  rcases hL with ⟨h1, _⟩ | ⟨_, es, c, rfl, hM⟩
  · rw [hl0] at h1
    cases h1
  · have hno := (hM i s f hk).2 hl
    rcases (einS (P := Tryz.prog) (N := N) (T := T) (e := e) (L := smap r es c :: L0) (ty := ty) (t := t) (pos := pos) (af := af) (g := none) 0 hno hx hy hz rfl rfl ht hK) a w fr hp (fun _ w' => Hp e (smap r (es ++ [⟨.string s, v, c⟩]) (c + 1) :: L0) w') (fun w' hw => hw) with ⟨u, w', h1, h2⟩ | ⟨w', h1, h2⟩
    · have hd0 : (execOp a.eval ⟨none, .insert t x y z, ty, pos, af, none⟩).run Tryz.prog w = .ok (.value u) w' := h1
      refine wpOp_val ho (wanted_no _) h1 ⟨r, ⟨h.fr, cl_set h.cl (by omega) he, fun j d' hj hlj => ?_, ⟨_, h2, .inr ⟨by rw [getD_set_t h0.symm]; exact hl0, _, _, rfl, fun j s' f' hj => ?_⟩⟩⟩⟩
      · have hji : j ≠ i := fun e => by rw [e, hdst] at hj; cases hj
        rw [getD_set_t hji] at hlj
        exact h.v j d' hj hlj
      · by_cases hji : j = i
        · subst hji
          rw [hk] at hj
          cases hj
          rw [getD_set_s (by omega)]
          exact ⟨fun _ => ⟨v, hno.put v c, hv⟩, fun h => by cases h⟩
        · rw [getD_set_t hji]
          exact ⟨fun hlj => by obtain ⟨u, h1, h2⟩ := (hM j s' f' hj).1 hlj; exact ⟨u, h1.push _, h2⟩, fun hlj => ((hM j s' f' hj).2 hlj).push (hkj j s' f' hj hji) v c⟩
    · refine wpOp_skip ho (wanted_no _) h1 ⟨r, ⟨h.fr, cl_set h.cl (by omega) he, fun j d' hj hlj => ?_, ⟨_, h2, .inr ⟨by rw [getD_set_t h0.symm]; exact hl0, _, _, rfl, fun j s' f' hj => ?_⟩⟩⟩⟩
      · have hji : j ≠ i := fun e => by rw [e, hdst] at hj; cases hj
        rw [getD_set_t hji] at hlj
        exact h.v j d' hj hlj
      · by_cases hji : j = i
        · subst hji
          rw [hk] at hj
          cases hj
          rw [getD_set_s (by omega)]
          exact ⟨fun _ => ⟨v, hno.put v c, hv⟩, fun h => by cases h⟩
        · rw [getD_set_t hji]
          exact ⟨fun hlj => by obtain ⟨u, h1, h2⟩ := (hM j s' f' hj).1 hlj; exact ⟨u, h1.push _, h2⟩, fun hlj => ((hM j s' f' hj).2 hlj).push (hkj j s' f' hj hji) v c⟩
theorem stepL (h : FI os N T0 e L0 pj key r listed a w) (hsz : listed.size = os.length) (hi : i < os.length) (he : ∀ y ∈ edgesOf os.toArray i, listed.getD y false = true) (ho : nth os i = some ⟨some d, op, ty, pos, af, none⟩) (hinj : inj os.toArray = true) (hk : key i = none) (h0 : i ≠ 0) (fr : Fr N T a) (hx : ∀ L, (L = L0 ∨ ∃ es c, L = smap r es c :: L0) → Yl Tryz.prog N T e L ⟨some d, op, ty, pos, af, none⟩ v) (hv : pj r i v) (hsub : Sub ((d, v) :: T0) T0) (hd : dstAt os.toArray i = some d := by rfl) (hN : Nat.blt d N.1 = true := by rfl) : wpOp Tryz.prog os.toArray Q i (fun a' w' => ∃ r, FI os N T0 e L0 pj key r (listed.setIfInBounds i true) a' w') a w := by
  obtain ⟨L, hp, hL⟩ := h.hp
  exact stepV h hsz hi he ho hinj hk h0 hL hp fr (hx L (hL.imp (fun h => h.2) (fun ⟨_, es, c, h, _⟩ => ⟨es, c, h⟩))) hv hsub hd hN
theorem rep_no (n i : Nat) : (Array.replicate n false).getD i false = false := by
  rw [Array.getD_eq_getD_getElem?, Array.getElem?_replicate]
  by_cases h : i < n <;> simp [h]
theorem getD_tf {l : Array Bool} {i : Nat} (h : i < l.size) : l.getD i true = l.getD i false := by
  rw [Array.getD_eq_getD_getElem?, Array.getD_eq_getD_getElem?, Array.getElem?_eq_getElem h]
  rfl
theorem Zfi {n id j d : Nat} {T : Tb} {L : List Ck} (pj : Nat → Nat → Value → Prop) (key : Nat → Option (ByteArray × Fm)) (hs : inj os.toArray = true → ∀ r listed a w, FI os N T e L pj key r listed a w → listed.size = os.length → ∀ i, i < os.length → listed.getD i false = false → (∀ y ∈ edgesOf os.toArray i, listed.getD y false = true) → wpOp Tryz.prog os.toArray Q i (fun a' w' => ∃ r, FI os N T e L pj key r (listed.setIfInBounds i true) a' w') a w) (hd : dstAt os.toArray j = some d) (hv : ∀ r v, pj r j v → v = .map (some r)) (h0 : 0 < os.length) (k : ∀ r es c, (∀ i s f, i < os.length → key i = some (s, f) → ∃ v, Fin es s v ∧ FmV f v) → ZX none Q .normal N ((d, .map (some r)) :: T) e (smap r es c :: L)) (hinj : inj os.toArray = true := by kernel_rfl) (hB : headOk os.toArray os.length = true := by kernel_rfl) (hnd : noDef os = true := by rfl) (hm : Tryz.prog.follows .mixedOrders = true := by kernel_rfl) : ZC Tryz.prog none n (.region id os.toArray true) Q N T e L := fun w hp ok a fr =>
  Zhinv (fun listed a w => ∃ r, FI os N T e L pj key r listed a w)
    (fun a w fr hp => ⟨0, { fr := fr, cl := fun x hx => absurd hx (by rw [rep_no]; decide), v := fun j d _ hx => absurd hx (by rw [rep_no]; decide), hp := ⟨L, hp, .inl ⟨rep_no _ _, rfl⟩⟩ }⟩)
    (fun listed a w ⟨r, h⟩ hsz i hi hl he => hs hinj r listed a w h hsz i hi ((getD_tf (by omega)).symm.trans hl) he)
    (fun listed a w ⟨r, h⟩ hall => by
      obtain ⟨L', hp, hL⟩ := h.hp
      rcases hL with ⟨h1, _⟩ | ⟨_, es, c, rfl, hM⟩
      · rw [hall 0 h0] at h1
        cases h1
      · exact k r es c (fun i s f hi hk => (hM i s f hk).1 (hall i hi)) w hp ok a (h.fr.know (hv r _ (h.v j d hd (hall j (dst_lt hd |> fun h => by simpa using h)))))) hB hnd hm w hp ok a fr
end
end Go.Proofs.YtpfijldkkfiooaaGreatDoor
namespace Go.Proofs.YtpfijldkkfiooaaGreatDoor
open Go
set_option maxRecDepth 4000
set_option maxHeartbeats 4000000
def fmKs : List (Option (ByteArray × Fm)) := [
 none, none, some (⟨#[117]⟩, fmU), none, none, some (⟨#[106]⟩, fmJ), none, some (⟨#[105]⟩, fmI), none, some (⟨#[108, 111, 97, 100]⟩, fmI), none, none, none, none, some (⟨#[115, 104, 105, 102, 116]⟩, fmShift), none, none, some (⟨#[98]⟩, fmB), none, none, some (⟨#[115]⟩, fmS), none, some (⟨#[114]⟩, fmR), none, none, some (⟨#[102, 101, 110, 99, 101]⟩, fmFence), none, none, none, some (⟨#[97, 108, 108]⟩, fmAll), none, some (⟨#[108, 114]⟩, fmLr), none, some (⟨#[97]⟩, fmA), none, none, none, some (⟨#[99, 115, 114]⟩, fmCsr), none, none]
def fmK (i : Nat) : Option (ByteArray × Fm) := fmKs.getD i none
def fmM (b : Nat) : List (Value → Prop) := [
 FmV fmU, fun _ => True, IsF, FmV fmJ, fun _ => True, FmV fmI, fun _ => True, FmV fmI, fun _ => True, IsF, (· = Value.pointer (some ⟨b, 8, none⟩)), IsF, FmV fmShift, fun _ => True, IsF, FmV fmB, fun _ => True, IsF, FmV fmS, fun _ => True, FmV fmR, fun _ => True, IsF, FmV fmFence, fun _ => True, (· = fnW 303), (· = fnW 303), FmV fmAll, fun _ => True, FmV fmLr, fun _ => True, FmV fmA, fun _ => True, (· = fnW 303), (· = fnW 303), FmV fmCsr, fun _ => True]
def fmP (b r j : Nat) : Value → Prop := ((· = Value.map (some r)) :: (fmM b ++ [(· = Value.map (some r)), (· = Value.map (some r))])).getD j fun _ => True
theorem fmP_r (b r r' j : Nat) : j = 0 ∨ j = 38 ∨ j = 39 ∨ fmP b r j = fmP b r' j := by
  rcases Nat.lt_or_ge j 38 with h | h
  · cases j with
    | zero => exact .inl rfl
    | succ j =>
      refine .inr (.inr (.inr ?_))
      unfold fmP
      rw [List.getD_cons_succ, List.getD_cons_succ, List.getD_eq_getElem?_getD, List.getD_eq_getElem?_getD, List.getElem?_append_left (by simp [fmM]; omega), List.getElem?_append_left (by simp [fmM]; omega)]
  · rcases Nat.lt_or_ge j 40 with h2 | h2
    · omega
    · refine .inr (.inr (.inr ?_))
      unfold fmP
      rw [List.getD_eq_getElem?_getD, List.getD_eq_getElem?_getD, List.getElem?_eq_none (by simp [fmM]; omega), List.getElem?_eq_none (by simp [fmM]; omega)]
def kDis (l : List (Option (ByteArray × Fm))) : Bool := (List.range l.length).all fun i => (List.range l.length).all fun j => match l.getD i none, l.getD j none with | some x, some y => decide (j = i) || !decide (y.1 = x.1) | _, _ => true
theorem fmK_lt {i : Nat} {x : ByteArray × Fm} (h : fmK i = some x) : i < 40 := by
  rcases Nat.lt_or_ge i 40 with h2 | h2
  · exact h2
  · unfold fmK at h
    rw [List.getD_eq_getElem?_getD, List.getElem?_eq_none (by simp [fmKs]; omega)] at h
    cases h
theorem fmK_dis {i j : Nat} {s s' : ByteArray} {f f' : Fm} (h : fmK i = some (s, f)) (h' : fmK j = some (s', f')) (hn : j ≠ i) : s' ≠ s := by
  have : kDis fmKs = true := by kernel_rfl
  have := List.all_eq_true.1 (List.all_eq_true.1 this i (List.mem_range.2 (fmK_lt h))) j (List.mem_range.2 (fmK_lt h'))
  rw [show fmKs.getD i none = some (s, f) from h, show fmKs.getD j none = some (s', f') from h'] at this
  simpa [hn] using this
def kE (os : List Oper) : Bool := (List.range 40).all fun i => match fmK i with | some _ => !decide (i = 0) && (edgesOf os.toArray i).contains 0 | _ => true
theorem kE_spec {os : List Oper} (h : kE os = true) {i : Nat} {s : ByteArray} {f : Fm} (h2 : fmK i = some (s, f)) : i ≠ 0 ∧ 0 ∈ edgesOf os.toArray i := by
  have := List.all_eq_true.1 h i (List.mem_range.2 (fmK_lt h2))
  rw [h2] at this
  simpa using this
theorem fm_is {f : Fm} {v m p t : Value} (h : v = .agg (fmCs f m p t).toArray) (hm : IsF m) (hp : IsF p) (ht : IsF t) : FmV f v := by subst h; exact fm_v hm hp ht
theorem f_is {v : Value} {f : FuncId} {c : Array Value} (h : v = .func (.func f) #[] c) : IsF v := ⟨f, c, h⟩
theorem c261 : Sp Tryz.prog 261 [] [] fun K => ∀ r es c, (∃ v, Fin es ⟨#[117]⟩ v ∧ FmV fmU v) → (∃ v, Fin es ⟨#[106]⟩ v ∧ FmV fmJ v) → (∃ v, Fin es ⟨#[105]⟩ v ∧ FmV fmI v) → (∃ v, Fin es ⟨#[108, 111, 97, 100]⟩ v ∧ FmV fmI v) → (∃ v, Fin es ⟨#[115, 104, 105, 102, 116]⟩ v ∧ FmV fmShift v) → (∃ v, Fin es ⟨#[98]⟩ v ∧ FmV fmB v) → (∃ v, Fin es ⟨#[115]⟩ v ∧ FmV fmS v) → (∃ v, Fin es ⟨#[114]⟩ v ∧ FmV fmR v) → (∃ v, Fin es ⟨#[102, 101, 110, 99, 101]⟩ v ∧ FmV fmFence v) → (∃ v, Fin es ⟨#[97, 108, 108]⟩ v ∧ FmV fmAll v) → (∃ v, Fin es ⟨#[108, 114]⟩ v ∧ FmV fmLr v) → (∃ v, Fin es ⟨#[97]⟩ v ∧ FmV fmA v) → (∃ v, Fin es ⟨#[99, 115, 114]⟩ v ∧ FmV fmCsr v) → K (.returned (.map (some r))) [smap r es c] := by
  refine Zen Tryz.func261 rfl rfl rfl fun e X Φ hS => ?_
  refine Zsr <| Zv (ya rfl) <| Znl <| Znx <| Zsr <| Zv (ya rfl) <| Znl <| Znx <| Zsr <| Zv (ya rfl) ?_
  refine Znl <| Znx <| Zsr <| Zk (c306 ..) [] rfl rfl <| fun f => fun c => Zq <| Zv (ym rfl) <| Zv (yb l355 rfl) <| Ze (eal z355) fun b3 => Zw ?_
  refine Ze (esw 0 (m := 9) rfl rfl rfl rfl rfl rfl rfl) <| Zw0 <| Znl <| Znx <| Zsr <| Zv (ydw 0 (m := 9) rfl rfl rfl) <| Ze (eal z355) fun b4 => Zw <| Ze (esw 0 (m := 9) rfl rfl rfl rfl rfl rfl rfl) <| Zw0 <| Znl <| Znx <| Zsr ?_
  refine Zv (yf 8 rfl) <| Ze (es 0 rfl rfl rfl rfl rfl) <| Zw0 <| Znl <| Znx <| Zsr <| Zv (ym rfl) <| Zv (ym rfl) <| Zv (yb l355 rfl) <| Ze (eal z355) fun b5 => Zw <| Ze (esw 0 (m := 9) rfl rfl rfl rfl rfl rfl rfl) <| Zw0 ?_
  refine Znl <| Znx <| Zsr <| Zv (ydw 0 (m := 9) rfl rfl rfl) <| Ze (eal z355) fun b6 => Zw <| Ze (esw 0 (m := 9) rfl rfl rfl rfl rfl rfl rfl) <| Zw0 <| Znl <| Znx <| Zsr <| Zv (yf 0 rfl) ?_
  refine Ze (es 0 rfl rfl rfl rfl rfl) <| Zw0 <| Zv (yf 4 rfl) <| Ze (es 0 rfl rfl rfl rfl rfl) <| Zw0 <| Znl <| Znx <| Zsr <| Zv (yf 8 rfl) <| Ze (es 0 rfl rfl rfl rfl rfl) <| Zw0 <| Znl <| Znx ?_
  refine Zsr <| Zv (ydw 0 (m := 9) rfl rfl rfl) <| Ze (eal z355) fun b7 => Zw <| Ze (esw 0 (m := 9) rfl rfl rfl rfl rfl rfl rfl) <| Zw0 <| Znl <| Znx <| Zsr <| Zv (yf 0 rfl) <| Ze (es 0 rfl rfl rfl rfl rfl) <| Zw0 <| Zv (yf 3 rfl) ?_
  refine Ze (es 0 rfl rfl rfl rfl rfl) <| Zw0 <| Znl <| Znx <| Zsr <| Zv (yf 8 rfl) <| Ze (es 0 rfl rfl rfl rfl rfl) <| Zw0 <| Znl <| Znx <| Zsq ?_
  refine Zsc (T' := [(1, fnW 303), (3, .pointer (some ⟨b3, 0, none⟩)), (4, .pointer (some ⟨b4, 0, none⟩)), (5, .pointer (some ⟨b5, 0, none⟩)), (6, .pointer (some ⟨b6, 0, none⟩)), (7, .pointer (some ⟨b7, 0, none⟩))]) ⟨rfl, rfl, rfl, rfl, rfl, rfl, trivial⟩ ?_
  refine Zfi (j := 39) (d := 0) (L := .blk b7 355 (fmCs fmLr (fnW 313) (fnW 303) (fnW 316)) :: .blk b6 355 (fmCs fmA (fnW 313) (fnW 303) (fnW 315)) :: .blk b5 355 (fmCs fmR (fnW 313) (fnW 303) (fnW 314)) :: .blk b4 355 (fmCs fmI (.func (.func f) #[] c) (fnW 307) (fnW 312)) :: .blk b3 355 (fmCs fmI (.func (.func f) #[] c) (fnW 307) (fnW 308)) :: X) (fmP b3) fmK ?_ rfl (fun r v h => h) (by decide) ?_
  · intro hinj r listed a w h hsz i hi hl he
    exact match i, hi, hl, he with
    | 0, hi, hl, he => stepM h hsz hi he hl rfl hinj (fun j s f hj => kE_spec (by kernel_rfl) hj) (fun r r' j u hj hu => (fmP_r b3 r r' j).elim (fun h => absurd h hj) fun h => h.elim (fun h => .inl (by subst h; decide)) fun h => h.elim (fun h => .inl (by subst h; decide)) fun h => .inr (h ▸ hu)) (fun r => rfl) fun v => ⟨rfl, rfl, rfl, rfl, rfl, rfl, trivial⟩
    | 1, hi, hl, he => by
      exact stepL h hsz hi he rfl hinj rfl (by decide) h.fr (fun L hL => yb l355 rfl) (fm_is rfl (f_is rfl) (f_is rfl) (f_is rfl)) ⟨rfl, rfl, rfl, rfl, rfl, rfl, trivial⟩
    | 2, hi, hl, he => stepI h hsz hi he hl rfl rfl (by decide) (he 0 (by decide)) (fun j s' f' hj hji => fmK_dis rfl hj hji) ((h.fr.know (h.v 0 24 rfl (he 0 (by decide)))).know (d := 25) rfl) rfl rfl rfl (h.v 1 25 rfl (he 1 (by decide))) rfl Tryz.underlying385 Tryz.underlying9
    | 3, hi, hl, he => stepC (c322 ..) h hsz hi he rfl hinj rfl (by decide) (fun g cs => f_is rfl) (fun v => ⟨rfl, rfl, rfl, rfl, rfl, rfl, trivial⟩) rfl
    | 4, hi, hl, he => by
      obtain ⟨g0, k0, h0⟩ := h.v 3 26 rfl (he 3 (by decide))
      exact stepL h hsz hi he rfl hinj rfl (by decide) (h.fr.know h0) (fun L hL => yb l355 rfl) (fm_is rfl (f_is rfl) (f_is rfl) (f_is rfl)) ⟨rfl, rfl, rfl, rfl, rfl, rfl, trivial⟩
    | 5, hi, hl, he => stepI h hsz hi he hl rfl rfl (by decide) (he 0 (by decide)) (fun j s' f' hj hji => fmK_dis rfl hj hji) ((h.fr.know (h.v 0 24 rfl (he 0 (by decide)))).know (d := 27) rfl) rfl rfl rfl (h.v 4 27 rfl (he 4 (by decide))) rfl Tryz.underlying385 Tryz.underlying9
    | 6, hi, hl, he => stepL h hsz hi he rfl hinj rfl (by decide) h.fr (fun L hL => by (rcases hL with rfl | ⟨_, _, rfl⟩; exact ydw 4 rfl rfl rfl; exact ydw 5 rfl rfl rfl)) (fm_is rfl (f_is rfl) (f_is rfl) (f_is rfl)) ⟨rfl, rfl, rfl, rfl, rfl, rfl, trivial⟩
    | 7, hi, hl, he => stepI h hsz hi he hl rfl rfl (by decide) (he 0 (by decide)) (fun j s' f' hj hji => fmK_dis rfl hj hji) ((h.fr.know (h.v 0 24 rfl (he 0 (by decide)))).know (d := 28) rfl) rfl rfl rfl (h.v 6 28 rfl (he 6 (by decide))) rfl Tryz.underlying385 Tryz.underlying9
    | 8, hi, hl, he => stepL h hsz hi he rfl hinj rfl (by decide) h.fr (fun L hL => by (rcases hL with rfl | ⟨_, _, rfl⟩; exact ydw 3 rfl rfl rfl; exact ydw 4 rfl rfl rfl)) (fm_is rfl (f_is rfl) (f_is rfl) (f_is rfl)) ⟨rfl, rfl, rfl, rfl, rfl, rfl, trivial⟩
    | 9, hi, hl, he => stepI h hsz hi he hl rfl rfl (by decide) (he 0 (by decide)) (fun j s' f' hj hji => fmK_dis rfl hj hji) ((h.fr.know (h.v 0 24 rfl (he 0 (by decide)))).know (d := 29) rfl) rfl rfl rfl (h.v 8 29 rfl (he 8 (by decide))) rfl Tryz.underlying385 Tryz.underlying9
    | 10, hi, hl, he => stepC (c306 ..) h hsz hi he rfl hinj rfl (by decide) (fun g cs => f_is rfl) (fun v => ⟨rfl, rfl, rfl, rfl, rfl, rfl, trivial⟩) rfl
    | 11, hi, hl, he => stepL h hsz hi he rfl hinj rfl (by decide) h.fr (fun L hL => yf 8 rfl) (rfl : Value.pointer (some ⟨b3, 8, none⟩) = Value.pointer (some ⟨b3, 8, none⟩)) ⟨rfl, rfl, rfl, rfl, rfl, rfl, trivial⟩
    | 12, hi, hl, he => stepL h hsz hi he rfl hinj rfl (by decide) (h.fr.know (h.v 11 31 rfl (he 11 (by decide)))) (fun L hL => by (rcases hL with rfl | ⟨_, _, rfl⟩; exact yd 4 rfl rfl rfl; exact yd 5 rfl rfl rfl)) (f_is rfl) ⟨rfl, rfl, rfl, rfl, rfl, rfl, trivial⟩
    | 13, hi, hl, he => by
      obtain ⟨g0, k0, h0⟩ := h.v 10 30 rfl (he 10 (by decide))
      obtain ⟨g1, k1, h1⟩ := h.v 12 32 rfl (he 12 (by decide))
      exact stepL h hsz hi he rfl hinj rfl (by decide) ((h.fr.know h0).know h1) (fun L hL => yb l355 rfl) (fm_is rfl (f_is rfl) (f_is rfl) (f_is rfl)) ⟨rfl, rfl, rfl, rfl, rfl, rfl, trivial⟩
    | 14, hi, hl, he => stepI h hsz hi he hl rfl rfl (by decide) (he 0 (by decide)) (fun j s' f' hj hji => fmK_dis rfl hj hji) ((h.fr.know (h.v 0 24 rfl (he 0 (by decide)))).know (d := 33) rfl) rfl rfl rfl (h.v 13 33 rfl (he 13 (by decide))) rfl Tryz.underlying385 Tryz.underlying9
    | 15, hi, hl, he => stepC (c322 ..) h hsz hi he rfl hinj rfl (by decide) (fun g cs => f_is rfl) (fun v => ⟨rfl, rfl, rfl, rfl, rfl, rfl, trivial⟩) rfl
    | 16, hi, hl, he => by
      obtain ⟨g0, k0, h0⟩ := h.v 15 34 rfl (he 15 (by decide))
      exact stepL h hsz hi he rfl hinj rfl (by decide) (h.fr.know h0) (fun L hL => yb l355 rfl) (fm_is rfl (f_is rfl) (f_is rfl) (f_is rfl)) ⟨rfl, rfl, rfl, rfl, rfl, rfl, trivial⟩
    | 17, hi, hl, he => stepI h hsz hi he hl rfl rfl (by decide) (he 0 (by decide)) (fun j s' f' hj hji => fmK_dis rfl hj hji) ((h.fr.know (h.v 0 24 rfl (he 0 (by decide)))).know (d := 35) rfl) rfl rfl rfl (h.v 16 35 rfl (he 16 (by decide))) rfl Tryz.underlying385 Tryz.underlying9
    | 18, hi, hl, he => stepC (c306 ..) h hsz hi he rfl hinj rfl (by decide) (fun g cs => f_is rfl) (fun v => ⟨rfl, rfl, rfl, rfl, rfl, rfl, trivial⟩) rfl
    | 19, hi, hl, he => by
      obtain ⟨g0, k0, h0⟩ := h.v 18 36 rfl (he 18 (by decide))
      exact stepL h hsz hi he rfl hinj rfl (by decide) (h.fr.know h0) (fun L hL => yb l355 rfl) (fm_is rfl (f_is rfl) (f_is rfl) (f_is rfl)) ⟨rfl, rfl, rfl, rfl, rfl, rfl, trivial⟩
    | 20, hi, hl, he => stepI h hsz hi he hl rfl rfl (by decide) (he 0 (by decide)) (fun j s' f' hj hji => fmK_dis rfl hj hji) ((h.fr.know (h.v 0 24 rfl (he 0 (by decide)))).know (d := 37) rfl) rfl rfl rfl (h.v 19 37 rfl (he 19 (by decide))) rfl Tryz.underlying385 Tryz.underlying9
    | 21, hi, hl, he => stepL h hsz hi he rfl hinj rfl (by decide) h.fr (fun L hL => by (rcases hL with rfl | ⟨_, _, rfl⟩; exact ydw 2 rfl rfl rfl; exact ydw 3 rfl rfl rfl)) (fm_is rfl (f_is rfl) (f_is rfl) (f_is rfl)) ⟨rfl, rfl, rfl, rfl, rfl, rfl, trivial⟩
    | 22, hi, hl, he => stepI h hsz hi he hl rfl rfl (by decide) (he 0 (by decide)) (fun j s' f' hj hji => fmK_dis rfl hj hji) ((h.fr.know (h.v 0 24 rfl (he 0 (by decide)))).know (d := 38) rfl) rfl rfl rfl (h.v 21 38 rfl (he 21 (by decide))) rfl Tryz.underlying385 Tryz.underlying9
    | 23, hi, hl, he => stepC (c306 ..) h hsz hi he rfl hinj rfl (by decide) (fun g cs => f_is rfl) (fun v => ⟨rfl, rfl, rfl, rfl, rfl, rfl, trivial⟩) rfl
    | 24, hi, hl, he => by
      obtain ⟨g0, k0, h0⟩ := h.v 23 39 rfl (he 23 (by decide))
      exact stepL h hsz hi he rfl hinj rfl (by decide) (h.fr.know h0) (fun L hL => yb l355 rfl) (fm_is rfl (f_is rfl) (f_is rfl) (f_is rfl)) ⟨rfl, rfl, rfl, rfl, rfl, rfl, trivial⟩
    | 25, hi, hl, he => stepI h hsz hi he hl rfl rfl (by decide) (he 0 (by decide)) (fun j s' f' hj hji => fmK_dis rfl hj hji) ((h.fr.know (h.v 0 24 rfl (he 0 (by decide)))).know (d := 40) rfl) rfl rfl rfl (h.v 24 40 rfl (he 24 (by decide))) rfl Tryz.underlying385 Tryz.underlying9
    | 26, hi, hl, he => stepL h hsz hi he rfl hinj rfl (by decide) h.fr (fun L hL => ym rfl) (rfl : fnW 303 = fnW 303) ⟨rfl, rfl, rfl, rfl, rfl, rfl, trivial⟩
    | 27, hi, hl, he => stepL h hsz hi he rfl hinj rfl (by decide) h.fr (fun L hL => ym rfl) (rfl : fnW 303 = fnW 303) ⟨rfl, rfl, rfl, rfl, rfl, rfl, trivial⟩
    | 28, hi, hl, he => by
      have h0 : V a 41 = fnW 303 := h.v 26 41 rfl (he 26 (by decide))
      have h1 : V a 42 = fnW 303 := h.v 27 42 rfl (he 27 (by decide))
      exact stepL h hsz hi he rfl hinj rfl (by decide) ((h.fr.know h0).know h1) (fun L hL => yb l355 rfl) (fm_is rfl (f_is rfl) (f_is rfl) (f_is rfl)) ⟨rfl, rfl, rfl, rfl, rfl, rfl, trivial⟩
    | 29, hi, hl, he => stepI h hsz hi he hl rfl rfl (by decide) (he 0 (by decide)) (fun j s' f' hj hji => fmK_dis rfl hj hji) ((h.fr.know (h.v 0 24 rfl (he 0 (by decide)))).know (d := 43) rfl) rfl rfl rfl (h.v 28 43 rfl (he 28 (by decide))) rfl Tryz.underlying385 Tryz.underlying9
    | 30, hi, hl, he => stepL h hsz hi he rfl hinj rfl (by decide) h.fr (fun L hL => by (rcases hL with rfl | ⟨_, _, rfl⟩; exact ydw 0 rfl rfl rfl; exact ydw 1 rfl rfl rfl)) (fm_is rfl (f_is rfl) (f_is rfl) (f_is rfl)) ⟨rfl, rfl, rfl, rfl, rfl, rfl, trivial⟩
    | 31, hi, hl, he => stepI h hsz hi he hl rfl rfl (by decide) (he 0 (by decide)) (fun j s' f' hj hji => fmK_dis rfl hj hji) ((h.fr.know (h.v 0 24 rfl (he 0 (by decide)))).know (d := 44) rfl) rfl rfl rfl (h.v 30 44 rfl (he 30 (by decide))) rfl Tryz.underlying385 Tryz.underlying9
    | 32, hi, hl, he => stepL h hsz hi he rfl hinj rfl (by decide) h.fr (fun L hL => by (rcases hL with rfl | ⟨_, _, rfl⟩; exact ydw 1 rfl rfl rfl; exact ydw 2 rfl rfl rfl)) (fm_is rfl (f_is rfl) (f_is rfl) (f_is rfl)) ⟨rfl, rfl, rfl, rfl, rfl, rfl, trivial⟩
    | 33, hi, hl, he => stepI h hsz hi he hl rfl rfl (by decide) (he 0 (by decide)) (fun j s' f' hj hji => fmK_dis rfl hj hji) ((h.fr.know (h.v 0 24 rfl (he 0 (by decide)))).know (d := 45) rfl) rfl rfl rfl (h.v 32 45 rfl (he 32 (by decide))) rfl Tryz.underlying385 Tryz.underlying9
    | 34, hi, hl, he => stepL h hsz hi he rfl hinj rfl (by decide) h.fr (fun L hL => ym rfl) (rfl : fnW 303 = fnW 303) ⟨rfl, rfl, rfl, rfl, rfl, rfl, trivial⟩
    | 35, hi, hl, he => stepL h hsz hi he rfl hinj rfl (by decide) h.fr (fun L hL => ym rfl) (rfl : fnW 303 = fnW 303) ⟨rfl, rfl, rfl, rfl, rfl, rfl, trivial⟩
    | 36, hi, hl, he => by
      have h0 : V a 46 = fnW 303 := h.v 34 46 rfl (he 34 (by decide))
      have h1 : V a 47 = fnW 303 := h.v 35 47 rfl (he 35 (by decide))
      exact stepL h hsz hi he rfl hinj rfl (by decide) ((h.fr.know h0).know h1) (fun L hL => yb l355 rfl) (fm_is rfl (f_is rfl) (f_is rfl) (f_is rfl)) ⟨rfl, rfl, rfl, rfl, rfl, rfl, trivial⟩
    | 37, hi, hl, he => stepI h hsz hi he hl rfl rfl (by decide) (he 0 (by decide)) (fun j s' f' hj hji => fmK_dis rfl hj hji) ((h.fr.know (h.v 0 24 rfl (he 0 (by decide)))).know (d := 48) rfl) rfl rfl rfl (h.v 36 48 rfl (he 36 (by decide))) rfl Tryz.underlying385 Tryz.underlying9
    | 38, hi, hl, he => stepL h hsz hi he rfl hinj rfl (by decide) (h.fr.know (h.v 0 24 rfl (he 0 (by decide)))) (fun L hL => ym rfl) (rfl : Value.map (some r) = Value.map (some r)) ⟨rfl, rfl, rfl, rfl, rfl, rfl, trivial⟩
    | 39, hi, hl, he => stepL h hsz hi he rfl hinj rfl (by decide) (h.fr.know (h.v 38 49 rfl (he 38 (by decide)))) (fun L hL => ya rfl) (rfl : Value.map (some r) = Value.map (some r)) ⟨rfl, rfl, rfl, rfl, rfl, rfl, trivial⟩
    | n + 40, hi, _, _ => absurd hi (by show ¬(n + 40 < 40); omega)
  intro r es q hM
  have hm0 := hM 2 _ _ (by decide) rfl
  have hm1 := hM 5 _ _ (by decide) rfl
  have hm2 := hM 7 _ _ (by decide) rfl
  have hm3 := hM 9 _ _ (by decide) rfl
  have hm4 := hM 14 _ _ (by decide) rfl
  have hm5 := hM 17 _ _ (by decide) rfl
  have hm6 := hM 20 _ _ (by decide) rfl
  have hm7 := hM 22 _ _ (by decide) rfl
  have hm8 := hM 25 _ _ (by decide) rfl
  have hm9 := hM 29 _ _ (by decide) rfl
  have hm10 := hM 31 _ _ (by decide) rfl
  have hm11 := hM 33 _ _ (by decide) rfl
  have hm12 := hM 37 _ _ (by decide) rfl
  replace hS := hS r es q hm0 hm1 hm2 hm3 hm4 hm5 hm6 hm7 hm8 hm9 hm10 hm11 hm12
  refine Znx <| Zrt <| Zre (.t rfl .n) hS [0] 5 rfl rfl rfl rfl
end Go.Proofs.YtpfijldkkfiooaaGreatDoor
namespace Go.Proofs.YtpfijldkkfiooaaGreatDoor
open Go
def skOp : Op → Option Nat
  | .move (.tmp t) => some t
  | .pick (.tmp t) _ (.const (.bool false)) => some t
  | _ => none
def skB (ops : Array Oper) (N : Nat) : List Oper → List Nat → Bool
  | [], _ => true
  | ⟨some d, _, _, _, _, some (j, true)⟩ :: rest, F => (match dstAt ops j with | some t => F.contains t | none => false) && Nat.blt d N && !F.contains d && skB ops N rest F
  | ⟨some d, op, _, _, _, none⟩ :: rest, F => (match skOp op with | some t => F.contains t | none => false) && Nat.blt d N && !F.contains d && skB ops N rest (d :: F)
  | _, _ => false
section
variable {P : Program} {n : Nat} {r : Option Nat} {N : Nat × List Deferred} {e : World} {Q : Exit → Act → World → Prop} {ops : Array Oper} {L : List Ck}
theorem skOp_val {op : Op} {t d : Nat} {T : Tb} {ty : TypeId} {pos : String} {af : Array Edge} {g : Option (Nat × Bool)} (h : skOp op = some t) (ht : look T t = some (.bool false)) : Yl P N T e L ⟨some d, op, ty, pos, af, g⟩ (.bool false) ∧ isDef op = false := by
  unfold skOp at h
  split at h
  · cases h
    exact ⟨ym ht, rfl⟩
  · cases h
    exact ⟨ypf ht rfl, rfl⟩
  · cases h
theorem look_keep {F : List Nat} {T : Tb} {d : Nat} {v : Value} (h : ∀ t ∈ F, look T t = some (.bool false)) (hd : F.contains d = false) : ∀ t ∈ F, look ((d, v) :: T) t = some (.bool false) := fun t ht => by
  rw [look_cons, if_neg (fun e => by subst e; simp [ht] at hd)]
  exact h t ht
theorem Zskip' : ∀ (rest : List Oper) (F : List Nat) (T : Tb), (∀ t ∈ F, look T t = some (.bool false)) → skB ops N.1 rest F = true → ZX r Q .normal N [] e L → ZL P r n ops Q rest N T e L
  | [], _, _, _, _, k => Znl fun w hp ok a fr => k w hp ok a (fr.sub trivial)
  | ⟨some d, op, ty, pos, af, some (j, true)⟩ :: rest, F, T, h, hc, k => by
    simp only [skB, Bool.and_eq_true, Bool.not_eq_true'] at hc
    obtain ⟨⟨⟨h1, h2⟩, h3⟩, h4⟩ := hc
    cases hj : dstAt ops j with
    | none => rw [hj] at h1; cases h1
    | some t =>
      rw [hj] at h1
      exact Zu hj (h t (by simpa using h1)) rfl (Zskip' rest F _ (look_keep h h3) h4 k) h2
  | ⟨some d, op, ty, pos, af, none⟩ :: rest, F, T, h, hc, k => by
    simp only [skB, Bool.and_eq_true, Bool.not_eq_true'] at hc
    obtain ⟨⟨⟨h1, h2⟩, h3⟩, h4⟩ := hc
    cases ho : skOp op with
    | none => rw [ho] at h1; cases h1
    | some t =>
      rw [ho] at h1
      obtain ⟨h5, h6⟩ := skOp_val (P := P) (N := N) (e := e) (L := L) (d := d) (ty := ty) (pos := pos) (af := af) (g := none) ho (h t (by simpa using h1))
      refine Zv h5 (Zskip' rest (d :: F) _ (fun t ht => ?_) h4 k) h2 h6
      rcases List.mem_cons.1 ht with rfl | ht
      · rw [look_cons, if_pos rfl]
      · exact look_keep h h3 t ht
  | ⟨some _, _, _, _, _, some (_, false)⟩ :: _, _, _, _, hc, _ => by simp [skB] at hc
  | ⟨none, _, _, _, _, _⟩ :: _, _, _, _, hc, _ => by simp [skB] at hc
theorem Zskip {rest : List Oper} {T : Tb} (t : Nat) (h : look T t = some (.bool false)) (hc : skB ops N.1 rest [t] = true) (k : ZX r Q .normal N [] e L) : ZL P r n ops Q rest N T e L :=
  Zskip' rest [t] T (fun u hu => by rw [List.mem_singleton.1 hu]; exact h) hc k
theorem Zcut {rest rest1 : List Oper} {T T1 : Tb} {L1 : List Ck} (k : ZL P r n ops Q rest1 N T1 e L1) (h : ZL P r n ops Q rest1 N T1 e L1 → ZL P r n ops Q rest N T e L) : ZL P r n ops Q rest N T e L := h k
end
end Go.Proofs.YtpfijldkkfiooaaGreatDoor
namespace Go.Proofs.YtpfijldkkfiooaaGreatDoor
open Go
set_option maxRecDepth 4000
set_option maxHeartbeats 2000000
def wfB (s : ByteArray) : Bool := decide (0 < s.size) && decide (s.size ≤ 1000) && !isSp (byt s 0) && !isSp (byt s (s.size - 1)) && (List.range s.size).all fun i => decide (byt s i < 128) && !(isSp (byt s i) && isSp (byt s (i + 1)))
theorem wf_of {s : ByteArray} (h : wfB s = true) : Wf s := by
  simp only [wfB, Bool.and_eq_true, decide_eq_true_eq, Bool.not_eq_true', List.all_eq_true, List.mem_range] at h
  obtain ⟨⟨⟨⟨h1, h2⟩, h3⟩, h4⟩, h5⟩ := h
  exact ⟨fun i hi => (h5 i hi).1, h1, h2, h3, h4, fun i hi hs => by
    have := (h5 i (by omega)).2
    rw [hs] at this
    simpa using this⟩
def rowsOk (f : Fm) (code : Int) (k : Nat) : Nat → List Int → Prop
  | _, [] => True
  | n, u :: us => rowT[n]? = some ((n : Int) + 1, f, cdB code u k) ∧ rowsOk f code k (n + 1) us
theorem rows_of {f : Fm} {code : Int} {k : Nat} : ∀ {n : Nat} {us : List Int}, rowsOk f code k n us → ∀ i, i < us.length → rowT[n + i]? = some (((n + i : Nat) : Int) + 1, f, cdB code (us.getD i 0) k)
  | n, u :: us, h, 0, _ => h.1
  | n, u :: us, h, i + 1, hi => by
    have := rows_of h.2 i (by simpa using hi)
    rw [show n + 1 + i = n + (i + 1) by omega] at this
    simpa using this
theorem Zpk {P : Program} {n : Nat} {r : Option Nat} {N : Nat × List Deferred} {T : Tb} {e : World} {Q : Exit → Act → World → Prop} {ops : Array Oper} {rest : List Oper} {L M Y F : List Ck} (is : List Nat) (k : Nat) (hL : sel L is = some (M, Y)) (hF : Y.drop k = F) (h : ZL P r n ops Q rest N T e (M ++ F)) : ZL P r n ops Q rest N T e L := fun w hp ok a fr =>
  h w ((hp.sel hL).imp fun _ hs => Sep.swapTail hs fun _ hs => by rw [← hF]; exact Sep.dropN k hs) ok a fr
theorem rT59 : rT 59 = rowT := List.take_of_length_le (Nat.le_of_ble_eq_true rfl)
theorem row_last {P : Program} {l : Nat} {J Jx : List RowD → HP} (hY : ∀ pre x, pre ++ [x] <+: rowT → ∀ vs, RowR x vs → Yd P l vs (J pre) (J (pre ++ [x])) (Jx (pre ++ [x]))) (vs : List Value) (hR : RowR (((58 : Nat) : Int) + 1, fmCsr, 4047511667) vs) : Yd P l vs (J (rT 58)) (J rowT) (Jx rowT) := by
  have h := row_yd hY (n := 58) (f := fmCsr) (b := 4047511667) (by kernel_rfl) vs hR
  rw [show rT (58 + 1) = rowT from rT59] at h
  exact h
theorem q260 : SqR Tryz.prog 260 [] [spC] (fun _ => [spC]) RowR rowT := by
  refine ⟨fun y J Jx hYd => ?_⟩
  refine Zen Tryz.func260 rfl rfl rfl fun e X Φ hS => Zsr <| Ze (ebx rfl) fun b1 => Zw <| Znl <| Znx <| Zsr ?_
  refine Zk c261 [] rfl rfl <| fun r me c hu hj hi hl hsh hb hs hr hfe hal hlr ha hcs => Zq <| Ze (eal z385) fun b2 => Zw <| Ze (es 0 rfl rfl rfl rfl rfl) <| Zw0 <| Znl <| Znx <| Zsr <| Ze (eal z42) fun b3 => Zw <| Ze (es 0 rfl rfl rfl rfl rfl) <| Zw0 <| Znl <| Znx ?_
  refine Zsr <| Zv (yfn rfl rfl) <| Ze (eal z388) fun b4 => Zw <| Ze (es 0 rfl rfl rfl rfl rfl) <| Zw0 <| Znl <| Znx <| Zsr <| Zv (yfn rfl rfl) <| Zv (ya rfl) <| Znl ?_
  refine Znx <| Zsr <| Zv (yfn rfl rfl) <| Zv (ya rfl) <| Znl <| Znx <| Zrg <| Zv (yd 0 rfl rfl rfl) ?_
  refine Zpk (M := [.hp (J (rT 0)), .blk b3 42 [.int .i64 ((0 : Nat) : Int)], .blk b1 384 [.func (.yield y) #[] #[]], .blk b2 385 [.map (some r)], smap r me c, .blk b4 388 [.func (.func 262) #[] #[.pointer (some ⟨b3, 0, none⟩), .pointer (some ⟨b1, 0, none⟩), .pointer (some ⟨b2, 0, none⟩)]], spC]) (F := X) [5,1,3,1,1,0,0] 0 rfl rfl <| Zsb (T' := [(11, .func (.func 262) #[] #[.pointer (some ⟨b3, 0, none⟩), .pointer (some ⟨b1, 0, none⟩), .pointer (some ⟨b2, 0, none⟩)]), (4, .pointer (some ⟨b4, 0, none⟩)), (5, .func (.func 263) #[] #[.pointer (some ⟨b4, 0, none⟩)]), (6, .func (.func 265) #[] #[.pointer (some ⟨b4, 0, none⟩)])]) ⟨rfl, rfl, rfl, rfl, trivial⟩ ?_
  apply Zcut (T1 := [(14, .bool true), (15, .func (.func 262) #[] #[.pointer (some ⟨b3, 0, none⟩), .pointer (some ⟨b1, 0, none⟩), .pointer (some ⟨b2, 0, none⟩)]), (4, .pointer (some ⟨b4, 0, none⟩)), (5, .func (.func 263) #[] #[.pointer (some ⟨b4, 0, none⟩)]), (6, .func (.func 265) #[] #[.pointer (some ⟨b4, 0, none⟩)])]) (L1 := [.hp (J (rT 1)), .blk b3 42 [.int .i64 ((1 : Nat) : Int)], .blk b1 384 [.func (.yield y) #[] #[]], .blk b2 385 [.map (some r)], smap r me c, .blk b4 388 [.func (.func 262) #[] #[.pointer (some ⟨b3, 0, none⟩), .pointer (some ⟨b1, 0, none⟩), .pointer (some ⟨b2, 0, none⟩)]], spC] ++ X)
  case h =>
    intro hk
    refine Ze (ebst rfl) fun g0 => Zw ?_
    refine Zkv (b1 := []) (b2 := [.pointer (some ⟨b3, 0, none⟩), .pointer (some ⟨b1, 0, none⟩), .pointer (some ⟨b2, 0, none⟩)]) (args := [.string _, .int .u32 55, .slice (some ⟨g0, 0, none⟩) 1 1]) (c262 y r g0 b3 b1 b2 c 0 me _ _ fmU 55 (J (rT 0)) (J (rT 1)) (Jx (rT 1)) (by omega) hu (row_yd hYd (n := 0) (f := fmU) (b := 55) (by kernel_rfl))) [1,1,1,1,1,0] rfl rfl rfl rfl <| ⟨Zq ?_, Zq <| Zskip 13 rfl (by kernel_rfl) ?_⟩
    refine Zv (ym rfl) <| Zg rfl rfl <| Zv (yd 6 rfl rfl rfl) <| Zg rfl rfl ?_
    rotate_left
    refine Zee ?_
    rotate_left
    · exact Zpk (M := [.hp (J (rT 1)), .blk b3 42 [.int .i64 ((1 : Nat) : Int)], .blk b1 384 [.func (.yield y) #[] #[]], .blk b2 385 [.map (some r)], smap r me c, .blk b4 388 [.func (.func 262) #[] #[.pointer (some ⟨b3, 0, none⟩), .pointer (some ⟨b1, 0, none⟩), .pointer (some ⟨b2, 0, none⟩)]], spC]) (F := X) [0,0,0,0,0,1,1] 1 rfl rfl <| Zsb (T' := [(14, .bool true), (15, .func (.func 262) #[] #[.pointer (some ⟨b3, 0, none⟩), .pointer (some ⟨b1, 0, none⟩), .pointer (some ⟨b2, 0, none⟩)]), (4, .pointer (some ⟨b4, 0, none⟩)), (5, .func (.func 263) #[] #[.pointer (some ⟨b4, 0, none⟩)]), (6, .func (.func 265) #[] #[.pointer (some ⟨b4, 0, none⟩)])]) ⟨rfl, rfl, rfl, rfl, rfl, trivial⟩ hk
    · refine Zre .n (hS.2 (rT 1) (List.take_prefix 1 rowT)) [0,6] 6 rfl rfl rfl rfl
  apply Zcut (T1 := [(19, .bool true), (20, .func (.func 262) #[] #[.pointer (some ⟨b3, 0, none⟩), .pointer (some ⟨b1, 0, none⟩), .pointer (some ⟨b2, 0, none⟩)]), (4, .pointer (some ⟨b4, 0, none⟩)), (5, .func (.func 263) #[] #[.pointer (some ⟨b4, 0, none⟩)]), (6, .func (.func 265) #[] #[.pointer (some ⟨b4, 0, none⟩)])]) (L1 := [.hp (J (rT 2)), .blk b3 42 [.int .i64 ((2 : Nat) : Int)], .blk b1 384 [.func (.yield y) #[] #[]], .blk b2 385 [.map (some r)], smap r me c, .blk b4 388 [.func (.func 262) #[] #[.pointer (some ⟨b3, 0, none⟩), .pointer (some ⟨b1, 0, none⟩), .pointer (some ⟨b2, 0, none⟩)]], spC] ++ X)
  case h =>
    intro hk
    refine Ze (ebst rfl) fun g1 => Zw <| Zg rfl rfl ?_
    refine Zkv (b1 := []) (b2 := [.pointer (some ⟨b3, 0, none⟩), .pointer (some ⟨b1, 0, none⟩), .pointer (some ⟨b2, 0, none⟩)]) (args := [.string _, .int .u32 23, .slice (some ⟨g1, 0, none⟩) 1 1]) (c262 y r g1 b3 b1 b2 c 1 me _ _ fmU 23 (J (rT 1)) (J (rT 2)) (Jx (rT 2)) (by omega) hu (row_yd hYd (n := 1) (f := fmU) (b := 23) (by kernel_rfl))) [1,1,1,1,1,0] rfl rfl rfl rfl <| ⟨Zq ?_, Zq <| Zv (ypt rfl rfl) <| Zskip 18 rfl (by kernel_rfl) ?_⟩
    refine Zv (ypt rfl rfl) <| Zv (ym rfl) <| Zg rfl rfl <| Zv (yd 6 rfl rfl rfl) <| Zg rfl rfl ?_
    rotate_left
    refine Zee ?_
    rotate_left
    · exact Zpk (M := [.hp (J (rT 2)), .blk b3 42 [.int .i64 ((2 : Nat) : Int)], .blk b1 384 [.func (.yield y) #[] #[]], .blk b2 385 [.map (some r)], smap r me c, .blk b4 388 [.func (.func 262) #[] #[.pointer (some ⟨b3, 0, none⟩), .pointer (some ⟨b1, 0, none⟩), .pointer (some ⟨b2, 0, none⟩)]], spC]) (F := X) [0,0,0,0,0,1,1] 1 rfl rfl <| Zsb (T' := [(19, .bool true), (20, .func (.func 262) #[] #[.pointer (some ⟨b3, 0, none⟩), .pointer (some ⟨b1, 0, none⟩), .pointer (some ⟨b2, 0, none⟩)]), (4, .pointer (some ⟨b4, 0, none⟩)), (5, .func (.func 263) #[] #[.pointer (some ⟨b4, 0, none⟩)]), (6, .func (.func 265) #[] #[.pointer (some ⟨b4, 0, none⟩)])]) ⟨rfl, rfl, rfl, rfl, rfl, trivial⟩ hk
    · refine Zre .n (hS.2 (rT 2) (List.take_prefix 2 rowT)) [0,6] 6 rfl rfl rfl rfl
  apply Zcut (T1 := [(24, .bool true), (25, .func (.func 262) #[] #[.pointer (some ⟨b3, 0, none⟩), .pointer (some ⟨b1, 0, none⟩), .pointer (some ⟨b2, 0, none⟩)]), (4, .pointer (some ⟨b4, 0, none⟩)), (5, .func (.func 263) #[] #[.pointer (some ⟨b4, 0, none⟩)]), (6, .func (.func 265) #[] #[.pointer (some ⟨b4, 0, none⟩)])]) (L1 := [.hp (J (rT 3)), .blk b3 42 [.int .i64 ((3 : Nat) : Int)], .blk b1 384 [.func (.yield y) #[] #[]], .blk b2 385 [.map (some r)], smap r me c, .blk b4 388 [.func (.func 262) #[] #[.pointer (some ⟨b3, 0, none⟩), .pointer (some ⟨b1, 0, none⟩), .pointer (some ⟨b2, 0, none⟩)]], spC] ++ X)
  case h =>
    intro hk
    refine Ze (ebst rfl) fun g2 => Zw <| Zg rfl rfl ?_
    refine Zkv (b1 := []) (b2 := [.pointer (some ⟨b3, 0, none⟩), .pointer (some ⟨b1, 0, none⟩), .pointer (some ⟨b2, 0, none⟩)]) (args := [.string _, .int .u32 111, .slice (some ⟨g2, 0, none⟩) 1 1]) (c262 y r g2 b3 b1 b2 c 2 me _ _ fmJ 111 (J (rT 2)) (J (rT 3)) (Jx (rT 3)) (by omega) hj (row_yd hYd (n := 2) (f := fmJ) (b := 111) (by kernel_rfl))) [1,1,1,1,1,0] rfl rfl rfl rfl <| ⟨Zq ?_, Zq <| Zv (ypt rfl rfl) <| Zskip 23 rfl (by kernel_rfl) ?_⟩
    refine Zv (ypt rfl rfl) <| Zv (ym rfl) <| Zg rfl rfl <| Zv (yd 6 rfl rfl rfl) <| Zg rfl rfl ?_
    rotate_left
    refine Zee ?_
    rotate_left
    · exact Zpk (M := [.hp (J (rT 3)), .blk b3 42 [.int .i64 ((3 : Nat) : Int)], .blk b1 384 [.func (.yield y) #[] #[]], .blk b2 385 [.map (some r)], smap r me c, .blk b4 388 [.func (.func 262) #[] #[.pointer (some ⟨b3, 0, none⟩), .pointer (some ⟨b1, 0, none⟩), .pointer (some ⟨b2, 0, none⟩)]], spC]) (F := X) [0,0,0,0,0,1,1] 1 rfl rfl <| Zsb (T' := [(24, .bool true), (25, .func (.func 262) #[] #[.pointer (some ⟨b3, 0, none⟩), .pointer (some ⟨b1, 0, none⟩), .pointer (some ⟨b2, 0, none⟩)]), (4, .pointer (some ⟨b4, 0, none⟩)), (5, .func (.func 263) #[] #[.pointer (some ⟨b4, 0, none⟩)]), (6, .func (.func 265) #[] #[.pointer (some ⟨b4, 0, none⟩)])]) ⟨rfl, rfl, rfl, rfl, rfl, trivial⟩ hk
    · refine Zre .n (hS.2 (rT 3) (List.take_prefix 3 rowT)) [0,6] 6 rfl rfl rfl rfl
  apply Zcut (T1 := [(29, .bool true), (30, .func (.func 263) #[] #[.pointer (some ⟨b4, 0, none⟩)]), (4, .pointer (some ⟨b4, 0, none⟩)), (5, .func (.func 263) #[] #[.pointer (some ⟨b4, 0, none⟩)]), (6, .func (.func 265) #[] #[.pointer (some ⟨b4, 0, none⟩)])]) (L1 := [.hp (J (rT 4)), .blk b3 42 [.int .i64 ((4 : Nat) : Int)], .blk b1 384 [.func (.yield y) #[] #[]], .blk b2 385 [.map (some r)], smap r me c, .blk b4 388 [.func (.func 262) #[] #[.pointer (some ⟨b3, 0, none⟩), .pointer (some ⟨b1, 0, none⟩), .pointer (some ⟨b2, 0, none⟩)]], spC] ++ X)
  case h =>
    intro hk
    refine Ze (ebst rfl) fun g3 => Zw <| Zg rfl rfl ?_
    refine Zkv (b1 := []) (b2 := [.pointer (some ⟨b3, 0, none⟩), .pointer (some ⟨b1, 0, none⟩), .pointer (some ⟨b2, 0, none⟩)]) (args := [.string _, .int .u32 103, .slice (some ⟨g3, 0, none⟩) 1 1]) (c262 y r g3 b3 b1 b2 c 3 me _ _ fmI 103 (J (rT 3)) (J (rT 4)) (Jx (rT 4)) (by omega) hl (row_yd hYd (n := 3) (f := fmI) (b := 103) (by kernel_rfl))) [1,1,1,1,1,0] rfl rfl rfl rfl <| ⟨Zq ?_, Zq <| Zv (ypt rfl rfl) <| Zskip 28 rfl (by kernel_rfl) ?_⟩
    refine Zv (ypt rfl rfl) <| Zv (ym rfl) <| Zg rfl rfl <| Zv (ym rfl) <| Zg rfl rfl ?_
    rotate_left
    refine Zee ?_
    rotate_left
    · exact Zpk (M := [.hp (J (rT 4)), .blk b3 42 [.int .i64 ((4 : Nat) : Int)], .blk b1 384 [.func (.yield y) #[] #[]], .blk b2 385 [.map (some r)], smap r me c, .blk b4 388 [.func (.func 262) #[] #[.pointer (some ⟨b3, 0, none⟩), .pointer (some ⟨b1, 0, none⟩), .pointer (some ⟨b2, 0, none⟩)]], spC]) (F := X) [0,0,0,0,0,1,1] 1 rfl rfl <| Zsb (T' := [(29, .bool true), (30, .func (.func 263) #[] #[.pointer (some ⟨b4, 0, none⟩)]), (4, .pointer (some ⟨b4, 0, none⟩)), (5, .func (.func 263) #[] #[.pointer (some ⟨b4, 0, none⟩)]), (6, .func (.func 265) #[] #[.pointer (some ⟨b4, 0, none⟩)])]) ⟨rfl, rfl, rfl, rfl, rfl, trivial⟩ hk
    · refine Zre .n (hS.2 (rT 4) (List.take_prefix 4 rowT)) [0,6] 6 rfl rfl rfl rfl
  apply Zcut (T1 := [(34, .bool true), (35, .func (.func 263) #[] #[.pointer (some ⟨b4, 0, none⟩)]), (4, .pointer (some ⟨b4, 0, none⟩)), (5, .func (.func 263) #[] #[.pointer (some ⟨b4, 0, none⟩)]), (6, .func (.func 265) #[] #[.pointer (some ⟨b4, 0, none⟩)])]) (L1 := [.hp (J (rT 10)), .blk b3 42 [.int .i64 ((10 : Nat) : Int)], .blk b1 384 [.func (.yield y) #[] #[]], .blk b2 385 [.map (some r)], smap r me c, .blk b4 388 [.func (.func 262) #[] #[.pointer (some ⟨b3, 0, none⟩), .pointer (some ⟨b1, 0, none⟩), .pointer (some ⟨b2, 0, none⟩)]], spC] ++ X)
  case h =>
    intro hk
    refine Ze (ebc [0, 1, 4, 5, 6, 7] rfl (by decide) (by decide) (by kernel_rfl)) fun g4 => Zw <| Zg rfl rfl ?_
    refine Zkv (b1 := []) (b2 := [.pointer (some ⟨b4, 0, none⟩)]) (args := [.string _, .int .u32 99, .string _, .slice (some ⟨g4, 0, none⟩) 6 6]) (c263 y r b3 b1 b2 b4 g4 c 4 me _ _ fmB 99 [0, 1, 4, 5, 6, 7] J Jx (by decide) hb hYd (wf_of (by kernel_rfl)) (by kernel_rfl) (rows_of (by repeat' first | exact trivial | refine ⟨by kernel_rfl, ?_⟩))) [1,1,1,1,1,1,0,0] rfl rfl rfl rfl <| ⟨Zq ?_, fun m => Zq <| Zv (ypt rfl rfl) <| Zskip 33 rfl (by kernel_rfl) ?_⟩
    refine Zv (ypt rfl rfl) <| Zv (ym rfl) <| Zg rfl rfl <| Zv (ym rfl) <| Zg rfl rfl ?_
    rotate_left
    refine Zee ?_
    rotate_left
    · exact Zpk (M := [.hp (J (rT 10)), .blk b3 42 [.int .i64 ((10 : Nat) : Int)], .blk b1 384 [.func (.yield y) #[] #[]], .blk b2 385 [.map (some r)], smap r me c, .blk b4 388 [.func (.func 262) #[] #[.pointer (some ⟨b3, 0, none⟩), .pointer (some ⟨b1, 0, none⟩), .pointer (some ⟨b2, 0, none⟩)]], spC]) (F := X) [0,0,0,0,0,0,1] 1 rfl rfl <| Zsb (T' := [(34, .bool true), (35, .func (.func 263) #[] #[.pointer (some ⟨b4, 0, none⟩)]), (4, .pointer (some ⟨b4, 0, none⟩)), (5, .func (.func 263) #[] #[.pointer (some ⟨b4, 0, none⟩)]), (6, .func (.func 265) #[] #[.pointer (some ⟨b4, 0, none⟩)])]) ⟨rfl, rfl, rfl, rfl, rfl, trivial⟩ hk
    · refine Zre .n (hS.2 (rT m) (List.take_prefix m rowT)) [0,0] 0 rfl rfl rfl rfl
  apply Zcut (T1 := [(39, .bool true), (40, .func (.func 263) #[] #[.pointer (some ⟨b4, 0, none⟩)]), (4, .pointer (some ⟨b4, 0, none⟩)), (5, .func (.func 263) #[] #[.pointer (some ⟨b4, 0, none⟩)]), (6, .func (.func 265) #[] #[.pointer (some ⟨b4, 0, none⟩)])]) (L1 := [.hp (J (rT 15)), .blk b3 42 [.int .i64 ((15 : Nat) : Int)], .blk b1 384 [.func (.yield y) #[] #[]], .blk b2 385 [.map (some r)], smap r me c, .blk b4 388 [.func (.func 262) #[] #[.pointer (some ⟨b3, 0, none⟩), .pointer (some ⟨b1, 0, none⟩), .pointer (some ⟨b2, 0, none⟩)]], spC] ++ X)
  case h =>
    intro hk
    refine Ze (ebc [0, 1, 2, 4, 5] rfl (by decide) (by decide) (by kernel_rfl)) fun g5 => Zw <| Zg rfl rfl ?_
    refine Zkv (b1 := []) (b2 := [.pointer (some ⟨b4, 0, none⟩)]) (args := [.string _, .int .u32 3, .string _, .slice (some ⟨g5, 0, none⟩) 5 5]) (c263 y r b3 b1 b2 b4 g5 c 10 me _ _ fmI 3 [0, 1, 2, 4, 5] J Jx (by decide) hl hYd (wf_of (by kernel_rfl)) (by kernel_rfl) (rows_of (by repeat' first | exact trivial | refine ⟨by kernel_rfl, ?_⟩))) [1,1,1,1,1,1,0,0] rfl rfl rfl rfl <| ⟨Zq ?_, fun m => Zq <| Zv (ypt rfl rfl) <| Zskip 38 rfl (by kernel_rfl) ?_⟩
    refine Zv (ypt rfl rfl) <| Zv (ym rfl) <| Zg rfl rfl <| Zv (ym rfl) <| Zg rfl rfl ?_
    rotate_left
    refine Zee ?_
    rotate_left
    · exact Zpk (M := [.hp (J (rT 15)), .blk b3 42 [.int .i64 ((15 : Nat) : Int)], .blk b1 384 [.func (.yield y) #[] #[]], .blk b2 385 [.map (some r)], smap r me c, .blk b4 388 [.func (.func 262) #[] #[.pointer (some ⟨b3, 0, none⟩), .pointer (some ⟨b1, 0, none⟩), .pointer (some ⟨b2, 0, none⟩)]], spC]) (F := X) [0,0,0,0,0,0,1] 1 rfl rfl <| Zsb (T' := [(39, .bool true), (40, .func (.func 263) #[] #[.pointer (some ⟨b4, 0, none⟩)]), (4, .pointer (some ⟨b4, 0, none⟩)), (5, .func (.func 263) #[] #[.pointer (some ⟨b4, 0, none⟩)]), (6, .func (.func 265) #[] #[.pointer (some ⟨b4, 0, none⟩)])]) ⟨rfl, rfl, rfl, rfl, rfl, trivial⟩ hk
    · refine Zre .n (hS.2 (rT m) (List.take_prefix m rowT)) [0,0] 0 rfl rfl rfl rfl
  apply Zcut (T1 := [(44, .bool true), (45, .func (.func 263) #[] #[.pointer (some ⟨b4, 0, none⟩)]), (4, .pointer (some ⟨b4, 0, none⟩)), (5, .func (.func 263) #[] #[.pointer (some ⟨b4, 0, none⟩)]), (6, .func (.func 265) #[] #[.pointer (some ⟨b4, 0, none⟩)])]) (L1 := [.hp (J (rT 18)), .blk b3 42 [.int .i64 ((18 : Nat) : Int)], .blk b1 384 [.func (.yield y) #[] #[]], .blk b2 385 [.map (some r)], smap r me c, .blk b4 388 [.func (.func 262) #[] #[.pointer (some ⟨b3, 0, none⟩), .pointer (some ⟨b1, 0, none⟩), .pointer (some ⟨b2, 0, none⟩)]], spC] ++ X)
  case h =>
    intro hk
    refine Ze (ebc [0, 1, 2] rfl (by decide) (by decide) (by kernel_rfl)) fun g6 => Zw <| Zg rfl rfl ?_
    refine Zkv (b1 := []) (b2 := [.pointer (some ⟨b4, 0, none⟩)]) (args := [.string _, .int .u32 35, .string _, .slice (some ⟨g6, 0, none⟩) 3 3]) (c263 y r b3 b1 b2 b4 g6 c 15 me _ _ fmS 35 [0, 1, 2] J Jx (by decide) hs hYd (wf_of (by kernel_rfl)) (by kernel_rfl) (rows_of (by repeat' first | exact trivial | refine ⟨by kernel_rfl, ?_⟩))) [1,1,1,1,1,1,0,0] rfl rfl rfl rfl <| ⟨Zq ?_, fun m => Zq <| Zv (ypt rfl rfl) <| Zskip 43 rfl (by kernel_rfl) ?_⟩
    refine Zv (ypt rfl rfl) <| Zv (ym rfl) <| Zg rfl rfl <| Zv (ym rfl) <| Zg rfl rfl ?_
    rotate_left
    refine Zee ?_
    rotate_left
    · exact Zpk (M := [.hp (J (rT 18)), .blk b3 42 [.int .i64 ((18 : Nat) : Int)], .blk b1 384 [.func (.yield y) #[] #[]], .blk b2 385 [.map (some r)], smap r me c, .blk b4 388 [.func (.func 262) #[] #[.pointer (some ⟨b3, 0, none⟩), .pointer (some ⟨b1, 0, none⟩), .pointer (some ⟨b2, 0, none⟩)]], spC]) (F := X) [0,0,0,0,0,0,1] 1 rfl rfl <| Zsb (T' := [(44, .bool true), (45, .func (.func 263) #[] #[.pointer (some ⟨b4, 0, none⟩)]), (4, .pointer (some ⟨b4, 0, none⟩)), (5, .func (.func 263) #[] #[.pointer (some ⟨b4, 0, none⟩)]), (6, .func (.func 265) #[] #[.pointer (some ⟨b4, 0, none⟩)])]) ⟨rfl, rfl, rfl, rfl, rfl, trivial⟩ hk
    · refine Zre .n (hS.2 (rT m) (List.take_prefix m rowT)) [0,0] 0 rfl rfl rfl rfl
  apply Zcut (T1 := [(49, .bool true), (50, .func (.func 263) #[] #[.pointer (some ⟨b4, 0, none⟩)]), (4, .pointer (some ⟨b4, 0, none⟩)), (5, .func (.func 263) #[] #[.pointer (some ⟨b4, 0, none⟩)]), (6, .func (.func 265) #[] #[.pointer (some ⟨b4, 0, none⟩)])]) (L1 := [.hp (J (rT 24)), .blk b3 42 [.int .i64 ((24 : Nat) : Int)], .blk b1 384 [.func (.yield y) #[] #[]], .blk b2 385 [.map (some r)], smap r me c, .blk b4 388 [.func (.func 262) #[] #[.pointer (some ⟨b3, 0, none⟩), .pointer (some ⟨b1, 0, none⟩), .pointer (some ⟨b2, 0, none⟩)]], spC] ++ X)
  case h =>
    intro hk
    refine Ze (ebc [0, 2, 3, 4, 6, 7] rfl (by decide) (by decide) (by kernel_rfl)) fun g7 => Zw <| Zg rfl rfl ?_
    refine Zkv (b1 := []) (b2 := [.pointer (some ⟨b4, 0, none⟩)]) (args := [.string _, .int .u32 19, .string _, .slice (some ⟨g7, 0, none⟩) 6 6]) (c263 y r b3 b1 b2 b4 g7 c 18 me _ _ fmI 19 [0, 2, 3, 4, 6, 7] J Jx (by decide) hi hYd (wf_of (by kernel_rfl)) (by kernel_rfl) (rows_of (by repeat' first | exact trivial | refine ⟨by kernel_rfl, ?_⟩))) [1,1,1,1,1,1,0,0] rfl rfl rfl rfl <| ⟨Zq ?_, fun m => Zq <| Zv (ypt rfl rfl) <| Zskip 48 rfl (by kernel_rfl) ?_⟩
    refine Zv (ypt rfl rfl) <| Zv (ym rfl) <| Zg rfl rfl <| Zv (ym rfl) <| Zg rfl rfl ?_
    rotate_left
    refine Zee ?_
    rotate_left
    · exact Zpk (M := [.hp (J (rT 24)), .blk b3 42 [.int .i64 ((24 : Nat) : Int)], .blk b1 384 [.func (.yield y) #[] #[]], .blk b2 385 [.map (some r)], smap r me c, .blk b4 388 [.func (.func 262) #[] #[.pointer (some ⟨b3, 0, none⟩), .pointer (some ⟨b1, 0, none⟩), .pointer (some ⟨b2, 0, none⟩)]], spC]) (F := X) [0,0,0,0,0,0,1] 1 rfl rfl <| Zsb (T' := [(49, .bool true), (50, .func (.func 263) #[] #[.pointer (some ⟨b4, 0, none⟩)]), (4, .pointer (some ⟨b4, 0, none⟩)), (5, .func (.func 263) #[] #[.pointer (some ⟨b4, 0, none⟩)]), (6, .func (.func 265) #[] #[.pointer (some ⟨b4, 0, none⟩)])]) ⟨rfl, rfl, rfl, rfl, rfl, trivial⟩ hk
    · refine Zre .n (hS.2 (rT m) (List.take_prefix m rowT)) [0,0] 0 rfl rfl rfl rfl
  apply Zcut (T1 := [(54, .bool true), (55, .func (.func 262) #[] #[.pointer (some ⟨b3, 0, none⟩), .pointer (some ⟨b1, 0, none⟩), .pointer (some ⟨b2, 0, none⟩)]), (4, .pointer (some ⟨b4, 0, none⟩)), (5, .func (.func 263) #[] #[.pointer (some ⟨b4, 0, none⟩)]), (6, .func (.func 265) #[] #[.pointer (some ⟨b4, 0, none⟩)])]) (L1 := [.hp (J (rT 26)), .blk b3 42 [.int .i64 ((26 : Nat) : Int)], .blk b1 384 [.func (.yield y) #[] #[]], .blk b2 385 [.map (some r)], smap r me c, .blk b4 388 [.func (.func 262) #[] #[.pointer (some ⟨b3, 0, none⟩), .pointer (some ⟨b1, 0, none⟩), .pointer (some ⟨b2, 0, none⟩)]], spC] ++ X)
  case h =>
    intro hk
    refine Ze (ebc [1, 5] rfl (by decide) (by decide) (by kernel_rfl)) fun g8 => Zw <| Zg rfl rfl ?_
    refine Zkv (b1 := []) (b2 := [.pointer (some ⟨b4, 0, none⟩)]) (args := [.string _, .int .u32 19, .string _, .slice (some ⟨g8, 0, none⟩) 2 2]) (c263 y r b3 b1 b2 b4 g8 c 24 me _ _ fmShift 19 [1, 5] J Jx (by decide) hsh hYd (wf_of (by kernel_rfl)) (by kernel_rfl) (rows_of (by repeat' first | exact trivial | refine ⟨by kernel_rfl, ?_⟩))) [1,1,1,1,1,1,0,0] rfl rfl rfl rfl <| ⟨Zq ?_, fun m => Zq <| Zv (ypt rfl rfl) <| Zskip 53 rfl (by kernel_rfl) ?_⟩
    refine Zv (ypt rfl rfl) <| Zv (ym rfl) <| Zg rfl rfl <| Zv (yd 5 rfl rfl rfl) <| Zg rfl rfl ?_
    rotate_left
    refine Zee ?_
    rotate_left
    · exact Zpk (M := [.hp (J (rT 26)), .blk b3 42 [.int .i64 ((26 : Nat) : Int)], .blk b1 384 [.func (.yield y) #[] #[]], .blk b2 385 [.map (some r)], smap r me c, .blk b4 388 [.func (.func 262) #[] #[.pointer (some ⟨b3, 0, none⟩), .pointer (some ⟨b1, 0, none⟩), .pointer (some ⟨b2, 0, none⟩)]], spC]) (F := X) [0,0,0,0,0,0,1] 1 rfl rfl <| Zsb (T' := [(54, .bool true), (55, .func (.func 262) #[] #[.pointer (some ⟨b3, 0, none⟩), .pointer (some ⟨b1, 0, none⟩), .pointer (some ⟨b2, 0, none⟩)]), (4, .pointer (some ⟨b4, 0, none⟩)), (5, .func (.func 263) #[] #[.pointer (some ⟨b4, 0, none⟩)]), (6, .func (.func 265) #[] #[.pointer (some ⟨b4, 0, none⟩)])]) ⟨rfl, rfl, rfl, rfl, rfl, trivial⟩ hk
    · refine Zre .n (hS.2 (rT m) (List.take_prefix m rowT)) [0,0] 0 rfl rfl rfl rfl
  apply Zcut (T1 := [(59, .bool true), (60, .func (.func 262) #[] #[.pointer (some ⟨b3, 0, none⟩), .pointer (some ⟨b1, 0, none⟩), .pointer (some ⟨b2, 0, none⟩)]), (4, .pointer (some ⟨b4, 0, none⟩)), (5, .func (.func 263) #[] #[.pointer (some ⟨b4, 0, none⟩)]), (6, .func (.func 265) #[] #[.pointer (some ⟨b4, 0, none⟩)])]) (L1 := [.hp (J (rT 27)), .blk b3 42 [.int .i64 ((27 : Nat) : Int)], .blk b1 384 [.func (.yield y) #[] #[]], .blk b2 385 [.map (some r)], smap r me c, .blk b4 388 [.func (.func 262) #[] #[.pointer (some ⟨b3, 0, none⟩), .pointer (some ⟨b1, 0, none⟩), .pointer (some ⟨b2, 0, none⟩)]], spC] ++ X)
  case h =>
    intro hk
    refine Ze (ebst rfl) fun g9 => Zw <| Zg rfl rfl ?_
    refine Zkv (b1 := []) (b2 := [.pointer (some ⟨b3, 0, none⟩), .pointer (some ⟨b1, 0, none⟩), .pointer (some ⟨b2, 0, none⟩)]) (args := [.string _, .int .u32 1073762323, .slice (some ⟨g9, 0, none⟩) 1 1]) (c262 y r g9 b3 b1 b2 c 26 me _ _ fmShift 1073762323 (J (rT 26)) (J (rT 27)) (Jx (rT 27)) (by omega) hsh (row_yd hYd (n := 26) (f := fmShift) (b := 1073762323) (by kernel_rfl))) [1,1,1,1,1,0] rfl rfl rfl rfl <| ⟨Zq ?_, Zq <| Zv (ypt rfl rfl) <| Zskip 58 rfl (by kernel_rfl) ?_⟩
    refine Zv (ypt rfl rfl) <| Zv (ym rfl) <| Zg rfl rfl <| Zv (yd 6 rfl rfl rfl) <| Zg rfl rfl ?_
    rotate_left
    refine Zee ?_
    rotate_left
    · exact Zpk (M := [.hp (J (rT 27)), .blk b3 42 [.int .i64 ((27 : Nat) : Int)], .blk b1 384 [.func (.yield y) #[] #[]], .blk b2 385 [.map (some r)], smap r me c, .blk b4 388 [.func (.func 262) #[] #[.pointer (some ⟨b3, 0, none⟩), .pointer (some ⟨b1, 0, none⟩), .pointer (some ⟨b2, 0, none⟩)]], spC]) (F := X) [0,0,0,0,0,1,1] 1 rfl rfl <| Zsb (T' := [(59, .bool true), (60, .func (.func 262) #[] #[.pointer (some ⟨b3, 0, none⟩), .pointer (some ⟨b1, 0, none⟩), .pointer (some ⟨b2, 0, none⟩)]), (4, .pointer (some ⟨b4, 0, none⟩)), (5, .func (.func 263) #[] #[.pointer (some ⟨b4, 0, none⟩)]), (6, .func (.func 265) #[] #[.pointer (some ⟨b4, 0, none⟩)])]) ⟨rfl, rfl, rfl, rfl, rfl, trivial⟩ hk
    · refine Zre .n (hS.2 (rT 27) (List.take_prefix 27 rowT)) [0,6] 6 rfl rfl rfl rfl
  apply Zcut (T1 := [(64, .bool true), (65, .func (.func 262) #[] #[.pointer (some ⟨b3, 0, none⟩), .pointer (some ⟨b1, 0, none⟩), .pointer (some ⟨b2, 0, none⟩)]), (4, .pointer (some ⟨b4, 0, none⟩)), (5, .func (.func 263) #[] #[.pointer (some ⟨b4, 0, none⟩)]), (6, .func (.func 265) #[] #[.pointer (some ⟨b4, 0, none⟩)])]) (L1 := [.hp (J (rT 28)), .blk b3 42 [.int .i64 ((28 : Nat) : Int)], .blk b1 384 [.func (.yield y) #[] #[]], .blk b2 385 [.map (some r)], smap r me c, .blk b4 388 [.func (.func 262) #[] #[.pointer (some ⟨b3, 0, none⟩), .pointer (some ⟨b1, 0, none⟩), .pointer (some ⟨b2, 0, none⟩)]], spC] ++ X)
  case h =>
    intro hk
    refine Ze (ebst rfl) fun g10 => Zw <| Zg rfl rfl ?_
    refine Zkv (b1 := []) (b2 := [.pointer (some ⟨b3, 0, none⟩), .pointer (some ⟨b1, 0, none⟩), .pointer (some ⟨b2, 0, none⟩)]) (args := [.string _, .int .u32 51, .slice (some ⟨g10, 0, none⟩) 1 1]) (c262 y r g10 b3 b1 b2 c 27 me _ _ fmR 51 (J (rT 27)) (J (rT 28)) (Jx (rT 28)) (by omega) hr (row_yd hYd (n := 27) (f := fmR) (b := 51) (by kernel_rfl))) [1,1,1,1,1,0] rfl rfl rfl rfl <| ⟨Zq ?_, Zq <| Zv (ypt rfl rfl) <| Zskip 63 rfl (by kernel_rfl) ?_⟩
    refine Zv (ypt rfl rfl) <| Zv (ym rfl) <| Zg rfl rfl <| Zv (yd 6 rfl rfl rfl) <| Zg rfl rfl ?_
    rotate_left
    refine Zee ?_
    rotate_left
    · exact Zpk (M := [.hp (J (rT 28)), .blk b3 42 [.int .i64 ((28 : Nat) : Int)], .blk b1 384 [.func (.yield y) #[] #[]], .blk b2 385 [.map (some r)], smap r me c, .blk b4 388 [.func (.func 262) #[] #[.pointer (some ⟨b3, 0, none⟩), .pointer (some ⟨b1, 0, none⟩), .pointer (some ⟨b2, 0, none⟩)]], spC]) (F := X) [0,0,0,0,0,1,1] 1 rfl rfl <| Zsb (T' := [(64, .bool true), (65, .func (.func 262) #[] #[.pointer (some ⟨b3, 0, none⟩), .pointer (some ⟨b1, 0, none⟩), .pointer (some ⟨b2, 0, none⟩)]), (4, .pointer (some ⟨b4, 0, none⟩)), (5, .func (.func 263) #[] #[.pointer (some ⟨b4, 0, none⟩)]), (6, .func (.func 265) #[] #[.pointer (some ⟨b4, 0, none⟩)])]) ⟨rfl, rfl, rfl, rfl, rfl, trivial⟩ hk
    · refine Zre .n (hS.2 (rT 28) (List.take_prefix 28 rowT)) [0,6] 6 rfl rfl rfl rfl
  apply Zcut (T1 := [(69, .bool true), (70, .func (.func 263) #[] #[.pointer (some ⟨b4, 0, none⟩)]), (4, .pointer (some ⟨b4, 0, none⟩)), (5, .func (.func 263) #[] #[.pointer (some ⟨b4, 0, none⟩)]), (6, .func (.func 265) #[] #[.pointer (some ⟨b4, 0, none⟩)])]) (L1 := [.hp (J (rT 29)), .blk b3 42 [.int .i64 ((29 : Nat) : Int)], .blk b1 384 [.func (.yield y) #[] #[]], .blk b2 385 [.map (some r)], smap r me c, .blk b4 388 [.func (.func 262) #[] #[.pointer (some ⟨b3, 0, none⟩), .pointer (some ⟨b1, 0, none⟩), .pointer (some ⟨b2, 0, none⟩)]], spC] ++ X)
  case h =>
    intro hk
    refine Ze (ebst rfl) fun g11 => Zw <| Zg rfl rfl ?_
    refine Zkv (b1 := []) (b2 := [.pointer (some ⟨b3, 0, none⟩), .pointer (some ⟨b1, 0, none⟩), .pointer (some ⟨b2, 0, none⟩)]) (args := [.string _, .int .u32 1073741875, .slice (some ⟨g11, 0, none⟩) 1 1]) (c262 y r g11 b3 b1 b2 c 28 me _ _ fmR 1073741875 (J (rT 28)) (J (rT 29)) (Jx (rT 29)) (by omega) hr (row_yd hYd (n := 28) (f := fmR) (b := 1073741875) (by kernel_rfl))) [1,1,1,1,1,0] rfl rfl rfl rfl <| ⟨Zq ?_, Zq <| Zv (ypt rfl rfl) <| Zskip 68 rfl (by kernel_rfl) ?_⟩
    refine Zv (ypt rfl rfl) <| Zv (ym rfl) <| Zg rfl rfl <| Zv (ym rfl) <| Zg rfl rfl ?_
    rotate_left
    refine Zee ?_
    rotate_left
    · exact Zpk (M := [.hp (J (rT 29)), .blk b3 42 [.int .i64 ((29 : Nat) : Int)], .blk b1 384 [.func (.yield y) #[] #[]], .blk b2 385 [.map (some r)], smap r me c, .blk b4 388 [.func (.func 262) #[] #[.pointer (some ⟨b3, 0, none⟩), .pointer (some ⟨b1, 0, none⟩), .pointer (some ⟨b2, 0, none⟩)]], spC]) (F := X) [0,0,0,0,0,1,1] 1 rfl rfl <| Zsb (T' := [(69, .bool true), (70, .func (.func 263) #[] #[.pointer (some ⟨b4, 0, none⟩)]), (4, .pointer (some ⟨b4, 0, none⟩)), (5, .func (.func 263) #[] #[.pointer (some ⟨b4, 0, none⟩)]), (6, .func (.func 265) #[] #[.pointer (some ⟨b4, 0, none⟩)])]) ⟨rfl, rfl, rfl, rfl, rfl, trivial⟩ hk
    · refine Zre .n (hS.2 (rT 29) (List.take_prefix 29 rowT)) [0,6] 6 rfl rfl rfl rfl
  apply Zcut (T1 := [(74, .bool true), (75, .func (.func 262) #[] #[.pointer (some ⟨b3, 0, none⟩), .pointer (some ⟨b1, 0, none⟩), .pointer (some ⟨b2, 0, none⟩)]), (4, .pointer (some ⟨b4, 0, none⟩)), (5, .func (.func 263) #[] #[.pointer (some ⟨b4, 0, none⟩)]), (6, .func (.func 265) #[] #[.pointer (some ⟨b4, 0, none⟩)])]) (L1 := [.hp (J (rT 34)), .blk b3 42 [.int .i64 ((34 : Nat) : Int)], .blk b1 384 [.func (.yield y) #[] #[]], .blk b2 385 [.map (some r)], smap r me c, .blk b4 388 [.func (.func 262) #[] #[.pointer (some ⟨b3, 0, none⟩), .pointer (some ⟨b1, 0, none⟩), .pointer (some ⟨b2, 0, none⟩)]], spC] ++ X)
  case h =>
    intro hk
    refine Ze (ebc [1, 2, 3, 4, 5] rfl (by decide) (by decide) (by kernel_rfl)) fun g12 => Zw <| Zg rfl rfl ?_
    refine Zkv (b1 := []) (b2 := [.pointer (some ⟨b4, 0, none⟩)]) (args := [.string _, .int .u32 51, .string _, .slice (some ⟨g12, 0, none⟩) 5 5]) (c263 y r b3 b1 b2 b4 g12 c 29 me _ _ fmR 51 [1, 2, 3, 4, 5] J Jx (by decide) hr hYd (wf_of (by kernel_rfl)) (by kernel_rfl) (rows_of (by repeat' first | exact trivial | refine ⟨by kernel_rfl, ?_⟩))) [1,1,1,1,1,1,0,0] rfl rfl rfl rfl <| ⟨Zq ?_, fun m => Zq <| Zv (ypt rfl rfl) <| Zskip 73 rfl (by kernel_rfl) ?_⟩
    refine Zv (ypt rfl rfl) <| Zv (ym rfl) <| Zg rfl rfl <| Zv (yd 5 rfl rfl rfl) <| Zg rfl rfl ?_
    rotate_left
    refine Zee ?_
    rotate_left
    · exact Zpk (M := [.hp (J (rT 34)), .blk b3 42 [.int .i64 ((34 : Nat) : Int)], .blk b1 384 [.func (.yield y) #[] #[]], .blk b2 385 [.map (some r)], smap r me c, .blk b4 388 [.func (.func 262) #[] #[.pointer (some ⟨b3, 0, none⟩), .pointer (some ⟨b1, 0, none⟩), .pointer (some ⟨b2, 0, none⟩)]], spC]) (F := X) [0,0,0,0,0,0,1] 1 rfl rfl <| Zsb (T' := [(74, .bool true), (75, .func (.func 262) #[] #[.pointer (some ⟨b3, 0, none⟩), .pointer (some ⟨b1, 0, none⟩), .pointer (some ⟨b2, 0, none⟩)]), (4, .pointer (some ⟨b4, 0, none⟩)), (5, .func (.func 263) #[] #[.pointer (some ⟨b4, 0, none⟩)]), (6, .func (.func 265) #[] #[.pointer (some ⟨b4, 0, none⟩)])]) ⟨rfl, rfl, rfl, rfl, rfl, trivial⟩ hk
    · refine Zre .n (hS.2 (rT m) (List.take_prefix m rowT)) [0,0] 0 rfl rfl rfl rfl
  apply Zcut (T1 := [(79, .bool true), (80, .func (.func 263) #[] #[.pointer (some ⟨b4, 0, none⟩)]), (4, .pointer (some ⟨b4, 0, none⟩)), (5, .func (.func 263) #[] #[.pointer (some ⟨b4, 0, none⟩)]), (6, .func (.func 265) #[] #[.pointer (some ⟨b4, 0, none⟩)])]) (L1 := [.hp (J (rT 35)), .blk b3 42 [.int .i64 ((35 : Nat) : Int)], .blk b1 384 [.func (.yield y) #[] #[]], .blk b2 385 [.map (some r)], smap r me c, .blk b4 388 [.func (.func 262) #[] #[.pointer (some ⟨b3, 0, none⟩), .pointer (some ⟨b1, 0, none⟩), .pointer (some ⟨b2, 0, none⟩)]], spC] ++ X)
  case h =>
    intro hk
    refine Ze (ebst rfl) fun g13 => Zw <| Zg rfl rfl ?_
    refine Zkv (b1 := []) (b2 := [.pointer (some ⟨b3, 0, none⟩), .pointer (some ⟨b1, 0, none⟩), .pointer (some ⟨b2, 0, none⟩)]) (args := [.string _, .int .u32 1073762355, .slice (some ⟨g13, 0, none⟩) 1 1]) (c262 y r g13 b3 b1 b2 c 34 me _ _ fmR 1073762355 (J (rT 34)) (J (rT 35)) (Jx (rT 35)) (by omega) hr (row_yd hYd (n := 34) (f := fmR) (b := 1073762355) (by kernel_rfl))) [1,1,1,1,1,0] rfl rfl rfl rfl <| ⟨Zq ?_, Zq <| Zv (ypt rfl rfl) <| Zskip 78 rfl (by kernel_rfl) ?_⟩
    refine Zv (ypt rfl rfl) <| Zv (ym rfl) <| Zg rfl rfl <| Zv (ym rfl) <| Zg rfl rfl ?_
    rotate_left
    refine Zee ?_
    rotate_left
    · exact Zpk (M := [.hp (J (rT 35)), .blk b3 42 [.int .i64 ((35 : Nat) : Int)], .blk b1 384 [.func (.yield y) #[] #[]], .blk b2 385 [.map (some r)], smap r me c, .blk b4 388 [.func (.func 262) #[] #[.pointer (some ⟨b3, 0, none⟩), .pointer (some ⟨b1, 0, none⟩), .pointer (some ⟨b2, 0, none⟩)]], spC]) (F := X) [0,0,0,0,0,1,1] 1 rfl rfl <| Zsb (T' := [(79, .bool true), (80, .func (.func 263) #[] #[.pointer (some ⟨b4, 0, none⟩)]), (4, .pointer (some ⟨b4, 0, none⟩)), (5, .func (.func 263) #[] #[.pointer (some ⟨b4, 0, none⟩)]), (6, .func (.func 265) #[] #[.pointer (some ⟨b4, 0, none⟩)])]) ⟨rfl, rfl, rfl, rfl, rfl, trivial⟩ hk
    · refine Zre .n (hS.2 (rT 35) (List.take_prefix 35 rowT)) [0,6] 6 rfl rfl rfl rfl
  apply Zcut (T1 := [(84, .bool true), (85, .func (.func 262) #[] #[.pointer (some ⟨b3, 0, none⟩), .pointer (some ⟨b1, 0, none⟩), .pointer (some ⟨b2, 0, none⟩)]), (4, .pointer (some ⟨b4, 0, none⟩)), (5, .func (.func 263) #[] #[.pointer (some ⟨b4, 0, none⟩)]), (6, .func (.func 265) #[] #[.pointer (some ⟨b4, 0, none⟩)])]) (L1 := [.hp (J (rT 37)), .blk b3 42 [.int .i64 ((37 : Nat) : Int)], .blk b1 384 [.func (.yield y) #[] #[]], .blk b2 385 [.map (some r)], smap r me c, .blk b4 388 [.func (.func 262) #[] #[.pointer (some ⟨b3, 0, none⟩), .pointer (some ⟨b1, 0, none⟩), .pointer (some ⟨b2, 0, none⟩)]], spC] ++ X)
  case h =>
    intro hk
    refine Ze (ebc [6, 7] rfl (by decide) (by decide) (by kernel_rfl)) fun g14 => Zw <| Zg rfl rfl ?_
    refine Zkv (b1 := []) (b2 := [.pointer (some ⟨b4, 0, none⟩)]) (args := [.string _, .int .u32 51, .string _, .slice (some ⟨g14, 0, none⟩) 2 2]) (c263 y r b3 b1 b2 b4 g14 c 35 me _ _ fmR 51 [6, 7] J Jx (by decide) hr hYd (wf_of (by kernel_rfl)) (by kernel_rfl) (rows_of (by repeat' first | exact trivial | refine ⟨by kernel_rfl, ?_⟩))) [1,1,1,1,1,1,0,0] rfl rfl rfl rfl <| ⟨Zq ?_, fun m => Zq <| Zv (ypt rfl rfl) <| Zskip 83 rfl (by kernel_rfl) ?_⟩
    refine Zv (ypt rfl rfl) <| Zv (ym rfl) <| Zg rfl rfl <| Zv (yd 5 rfl rfl rfl) <| Zg rfl rfl ?_
    rotate_left
    refine Zee ?_
    rotate_left
    · exact Zpk (M := [.hp (J (rT 37)), .blk b3 42 [.int .i64 ((37 : Nat) : Int)], .blk b1 384 [.func (.yield y) #[] #[]], .blk b2 385 [.map (some r)], smap r me c, .blk b4 388 [.func (.func 262) #[] #[.pointer (some ⟨b3, 0, none⟩), .pointer (some ⟨b1, 0, none⟩), .pointer (some ⟨b2, 0, none⟩)]], spC]) (F := X) [0,0,0,0,0,0,1] 1 rfl rfl <| Zsb (T' := [(84, .bool true), (85, .func (.func 262) #[] #[.pointer (some ⟨b3, 0, none⟩), .pointer (some ⟨b1, 0, none⟩), .pointer (some ⟨b2, 0, none⟩)]), (4, .pointer (some ⟨b4, 0, none⟩)), (5, .func (.func 263) #[] #[.pointer (some ⟨b4, 0, none⟩)]), (6, .func (.func 265) #[] #[.pointer (some ⟨b4, 0, none⟩)])]) ⟨rfl, rfl, rfl, rfl, rfl, trivial⟩ hk
    · refine Zre .n (hS.2 (rT m) (List.take_prefix m rowT)) [0,0] 0 rfl rfl rfl rfl
  apply Zcut (T1 := [(89, .bool true), (90, .func (.func 262) #[] #[.pointer (some ⟨b3, 0, none⟩), .pointer (some ⟨b1, 0, none⟩), .pointer (some ⟨b2, 0, none⟩)]), (4, .pointer (some ⟨b4, 0, none⟩)), (5, .func (.func 263) #[] #[.pointer (some ⟨b4, 0, none⟩)]), (6, .func (.func 265) #[] #[.pointer (some ⟨b4, 0, none⟩)])]) (L1 := [.hp (J (rT 38)), .blk b3 42 [.int .i64 ((38 : Nat) : Int)], .blk b1 384 [.func (.yield y) #[] #[]], .blk b2 385 [.map (some r)], smap r me c, .blk b4 388 [.func (.func 262) #[] #[.pointer (some ⟨b3, 0, none⟩), .pointer (some ⟨b1, 0, none⟩), .pointer (some ⟨b2, 0, none⟩)]], spC] ++ X)
  case h =>
    intro hk
    refine Ze (ebst rfl) fun g15 => Zw <| Zg rfl rfl ?_
    refine Zkv (b1 := []) (b2 := [.pointer (some ⟨b3, 0, none⟩), .pointer (some ⟨b1, 0, none⟩), .pointer (some ⟨b2, 0, none⟩)]) (args := [.string _, .int .u32 15, .slice (some ⟨g15, 0, none⟩) 1 1]) (c262 y r g15 b3 b1 b2 c 37 me _ _ fmFence 15 (J (rT 37)) (J (rT 38)) (Jx (rT 38)) (by omega) hfe (row_yd hYd (n := 37) (f := fmFence) (b := 15) (by kernel_rfl))) [1,1,1,1,1,0] rfl rfl rfl rfl <| ⟨Zq ?_, Zq <| Zv (ypt rfl rfl) <| Zskip 88 rfl (by kernel_rfl) ?_⟩
    refine Zv (ypt rfl rfl) <| Zv (ym rfl) <| Zg rfl rfl <| Zv (yd 6 rfl rfl rfl) <| Zg rfl rfl ?_
    rotate_left
    refine Zee ?_
    rotate_left
    · exact Zpk (M := [.hp (J (rT 38)), .blk b3 42 [.int .i64 ((38 : Nat) : Int)], .blk b1 384 [.func (.yield y) #[] #[]], .blk b2 385 [.map (some r)], smap r me c, .blk b4 388 [.func (.func 262) #[] #[.pointer (some ⟨b3, 0, none⟩), .pointer (some ⟨b1, 0, none⟩), .pointer (some ⟨b2, 0, none⟩)]], spC]) (F := X) [0,0,0,0,0,1,1] 1 rfl rfl <| Zsb (T' := [(89, .bool true), (90, .func (.func 262) #[] #[.pointer (some ⟨b3, 0, none⟩), .pointer (some ⟨b1, 0, none⟩), .pointer (some ⟨b2, 0, none⟩)]), (4, .pointer (some ⟨b4, 0, none⟩)), (5, .func (.func 263) #[] #[.pointer (some ⟨b4, 0, none⟩)]), (6, .func (.func 265) #[] #[.pointer (some ⟨b4, 0, none⟩)])]) ⟨rfl, rfl, rfl, rfl, rfl, trivial⟩ hk
    · refine Zre .n (hS.2 (rT 38) (List.take_prefix 38 rowT)) [0,6] 6 rfl rfl rfl rfl
  apply Zcut (T1 := [(94, .bool true), (95, .func (.func 263) #[] #[.pointer (some ⟨b4, 0, none⟩)]), (4, .pointer (some ⟨b4, 0, none⟩)), (5, .func (.func 263) #[] #[.pointer (some ⟨b4, 0, none⟩)]), (6, .func (.func 265) #[] #[.pointer (some ⟨b4, 0, none⟩)])]) (L1 := [.hp (J (rT 39)), .blk b3 42 [.int .i64 ((39 : Nat) : Int)], .blk b1 384 [.func (.yield y) #[] #[]], .blk b2 385 [.map (some r)], smap r me c, .blk b4 388 [.func (.func 262) #[] #[.pointer (some ⟨b3, 0, none⟩), .pointer (some ⟨b1, 0, none⟩), .pointer (some ⟨b2, 0, none⟩)]], spC] ++ X)
  case h =>
    intro hk
    refine Ze (ebst rfl) fun g16 => Zw <| Zg rfl rfl ?_
    refine Zkv (b1 := []) (b2 := [.pointer (some ⟨b3, 0, none⟩), .pointer (some ⟨b1, 0, none⟩), .pointer (some ⟨b2, 0, none⟩)]) (args := [.string _, .int .u32 115, .slice (some ⟨g16, 0, none⟩) 1 1]) (c262 y r g16 b3 b1 b2 c 38 me _ _ fmAll 115 (J (rT 38)) (J (rT 39)) (Jx (rT 39)) (by omega) hal (row_yd hYd (n := 38) (f := fmAll) (b := 115) (by kernel_rfl))) [1,1,1,1,1,0] rfl rfl rfl rfl <| ⟨Zq ?_, Zq <| Zv (ypt rfl rfl) <| Zskip 93 rfl (by kernel_rfl) ?_⟩
    refine Zv (ypt rfl rfl) <| Zv (ym rfl) <| Zg rfl rfl <| Zv (ym rfl) <| Zg rfl rfl ?_
    rotate_left
    refine Zee ?_
    rotate_left
    · exact Zpk (M := [.hp (J (rT 39)), .blk b3 42 [.int .i64 ((39 : Nat) : Int)], .blk b1 384 [.func (.yield y) #[] #[]], .blk b2 385 [.map (some r)], smap r me c, .blk b4 388 [.func (.func 262) #[] #[.pointer (some ⟨b3, 0, none⟩), .pointer (some ⟨b1, 0, none⟩), .pointer (some ⟨b2, 0, none⟩)]], spC]) (F := X) [0,0,0,0,0,1,1] 1 rfl rfl <| Zsb (T' := [(94, .bool true), (95, .func (.func 263) #[] #[.pointer (some ⟨b4, 0, none⟩)]), (4, .pointer (some ⟨b4, 0, none⟩)), (5, .func (.func 263) #[] #[.pointer (some ⟨b4, 0, none⟩)]), (6, .func (.func 265) #[] #[.pointer (some ⟨b4, 0, none⟩)])]) ⟨rfl, rfl, rfl, rfl, rfl, trivial⟩ hk
    · refine Zre .n (hS.2 (rT 39) (List.take_prefix 39 rowT)) [0,6] 6 rfl rfl rfl rfl
  apply Zcut (T1 := [(99, .bool true), (100, .func (.func 265) #[] #[.pointer (some ⟨b4, 0, none⟩)]), (4, .pointer (some ⟨b4, 0, none⟩)), (5, .func (.func 263) #[] #[.pointer (some ⟨b4, 0, none⟩)]), (6, .func (.func 265) #[] #[.pointer (some ⟨b4, 0, none⟩)])]) (L1 := [.hp (J (rT 47)), .blk b3 42 [.int .i64 ((47 : Nat) : Int)], .blk b1 384 [.func (.yield y) #[] #[]], .blk b2 385 [.map (some r)], smap r me c, .blk b4 388 [.func (.func 262) #[] #[.pointer (some ⟨b3, 0, none⟩), .pointer (some ⟨b1, 0, none⟩), .pointer (some ⟨b2, 0, none⟩)]], spC] ++ X)
  case h =>
    intro hk
    refine Ze (ebc [0, 1, 2, 3, 4, 5, 6, 7] rfl (by decide) (by decide) (by kernel_rfl)) fun g17 => Zw <| Zg rfl rfl ?_
    refine Zkv (b1 := []) (b2 := [.pointer (some ⟨b4, 0, none⟩)]) (args := [.string _, .int .u32 33554483, .string _, .slice (some ⟨g17, 0, none⟩) 8 8]) (c263 y r b3 b1 b2 b4 g17 c 39 me _ _ fmR 33554483 [0, 1, 2, 3, 4, 5, 6, 7] J Jx (by decide) hr hYd (wf_of (by kernel_rfl)) (by kernel_rfl) (rows_of (by repeat' first | exact trivial | refine ⟨by kernel_rfl, ?_⟩))) [1,1,1,1,1,1,0,0] rfl rfl rfl rfl <| ⟨Zq ?_, fun m => Zq <| Zv (ypt rfl rfl) <| Zskip 98 rfl (by kernel_rfl) ?_⟩
    refine Zv (ypt rfl rfl) <| Zv (ym rfl) <| Zg rfl rfl <| Zv (ym rfl) <| Zg rfl rfl ?_
    rotate_left
    refine Zee ?_
    rotate_left
    · exact Zpk (M := [.hp (J (rT 47)), .blk b3 42 [.int .i64 ((47 : Nat) : Int)], .blk b1 384 [.func (.yield y) #[] #[]], .blk b2 385 [.map (some r)], smap r me c, .blk b4 388 [.func (.func 262) #[] #[.pointer (some ⟨b3, 0, none⟩), .pointer (some ⟨b1, 0, none⟩), .pointer (some ⟨b2, 0, none⟩)]], spC]) (F := X) [0,0,0,0,0,0,1] 1 rfl rfl <| Zsb (T' := [(99, .bool true), (100, .func (.func 265) #[] #[.pointer (some ⟨b4, 0, none⟩)]), (4, .pointer (some ⟨b4, 0, none⟩)), (5, .func (.func 263) #[] #[.pointer (some ⟨b4, 0, none⟩)]), (6, .func (.func 265) #[] #[.pointer (some ⟨b4, 0, none⟩)])]) ⟨rfl, rfl, rfl, rfl, rfl, trivial⟩ hk
    · refine Zre .n (hS.2 (rT m) (List.take_prefix m rowT)) [0,0] 0 rfl rfl rfl rfl
  apply Zcut (T1 := [(104, .bool true), (105, .func (.func 265) #[] #[.pointer (some ⟨b4, 0, none⟩)]), (4, .pointer (some ⟨b4, 0, none⟩)), (5, .func (.func 263) #[] #[.pointer (some ⟨b4, 0, none⟩)]), (6, .func (.func 265) #[] #[.pointer (some ⟨b4, 0, none⟩)])]) (L1 := [.hp (J (rT 48)), .blk b3 42 [.int .i64 ((48 : Nat) : Int)], .blk b1 384 [.func (.yield y) #[] #[]], .blk b2 385 [.map (some r)], smap r me c, .blk b4 388 [.func (.func 262) #[] #[.pointer (some ⟨b3, 0, none⟩), .pointer (some ⟨b1, 0, none⟩), .pointer (some ⟨b2, 0, none⟩)]], spC] ++ X)
  case h =>
    intro hk
    refine Ze (ebc [2] rfl (by decide) (by decide) (by kernel_rfl)) fun g18 => Zw <| Zg rfl rfl ?_
    refine Zkv (b1 := []) (b2 := [.pointer (some ⟨b4, 0, none⟩)]) (args := [.string _, .string _, .slice (some ⟨g18, 0, none⟩) 1 1]) (c265 y r b3 b1 b2 b4 g18 c 47 me _ _ fmLr [2] J Jx (by decide) hlr hYd (wf_of (by kernel_rfl)) (by kernel_rfl) (rows_of (by repeat' first | exact trivial | refine ⟨by kernel_rfl, ?_⟩))) [1,1,1,1,1,1,0,0] rfl rfl rfl rfl <| ⟨Zq ?_, fun m => Zq <| Zv (ypt rfl rfl) <| Zskip 103 rfl (by kernel_rfl) ?_⟩
    refine Zv (ypt rfl rfl) <| Zv (ym rfl) <| Zg rfl rfl <| Zv (ym rfl) <| Zg rfl rfl ?_
    rotate_left
    refine Zee ?_
    rotate_left
    · exact Zpk (M := [.hp (J (rT 48)), .blk b3 42 [.int .i64 ((48 : Nat) : Int)], .blk b1 384 [.func (.yield y) #[] #[]], .blk b2 385 [.map (some r)], smap r me c, .blk b4 388 [.func (.func 262) #[] #[.pointer (some ⟨b3, 0, none⟩), .pointer (some ⟨b1, 0, none⟩), .pointer (some ⟨b2, 0, none⟩)]], spC]) (F := X) [0,0,0,0,0,0,1] 1 rfl rfl <| Zsb (T' := [(104, .bool true), (105, .func (.func 265) #[] #[.pointer (some ⟨b4, 0, none⟩)]), (4, .pointer (some ⟨b4, 0, none⟩)), (5, .func (.func 263) #[] #[.pointer (some ⟨b4, 0, none⟩)]), (6, .func (.func 265) #[] #[.pointer (some ⟨b4, 0, none⟩)])]) ⟨rfl, rfl, rfl, rfl, rfl, trivial⟩ hk
    · refine Zre .n (hS.2 (rT m) (List.take_prefix m rowT)) [0,0] 0 rfl rfl rfl rfl
  apply Zcut (T1 := [(109, .bool true), (110, .func (.func 262) #[] #[.pointer (some ⟨b3, 0, none⟩), .pointer (some ⟨b1, 0, none⟩), .pointer (some ⟨b2, 0, none⟩)]), (4, .pointer (some ⟨b4, 0, none⟩)), (5, .func (.func 263) #[] #[.pointer (some ⟨b4, 0, none⟩)]), (6, .func (.func 265) #[] #[.pointer (some ⟨b4, 0, none⟩)])]) (L1 := [.hp (J (rT 58)), .blk b3 42 [.int .i64 ((58 : Nat) : Int)], .blk b1 384 [.func (.yield y) #[] #[]], .blk b2 385 [.map (some r)], smap r me c, .blk b4 388 [.func (.func 262) #[] #[.pointer (some ⟨b3, 0, none⟩), .pointer (some ⟨b1, 0, none⟩), .pointer (some ⟨b2, 0, none⟩)]], spC] ++ X)
  case h =>
    intro hk
    refine Ze (ebc [3, 1, 0, 4, 12, 8, 16, 20, 24, 28] rfl (by decide) (by decide) (by kernel_rfl)) fun g19 => Zw <| Zg rfl rfl ?_
    refine Zkv (b1 := []) (b2 := [.pointer (some ⟨b4, 0, none⟩)]) (args := [.string _, .string _, .slice (some ⟨g19, 0, none⟩) 10 10]) (c265 y r b3 b1 b2 b4 g19 c 48 me _ _ fmA [3, 1, 0, 4, 12, 8, 16, 20, 24, 28] J Jx (by decide) ha hYd (wf_of (by kernel_rfl)) (by kernel_rfl) (rows_of (by repeat' first | exact trivial | refine ⟨by kernel_rfl, ?_⟩))) [1,1,1,1,1,1,0,0] rfl rfl rfl rfl <| ⟨Zq ?_, fun m => Zq <| Zv (ypt rfl rfl) <| Zskip 108 rfl (by kernel_rfl) ?_⟩
    refine Zv (ypt rfl rfl) <| Zv (ym rfl) <| Zg rfl rfl <| Zv (yd 5 rfl rfl rfl) <| Zg rfl rfl ?_
    rotate_left
    refine Zee ?_
    rotate_left
    · exact Zpk (M := [.hp (J (rT 58)), .blk b3 42 [.int .i64 ((58 : Nat) : Int)], .blk b1 384 [.func (.yield y) #[] #[]], .blk b2 385 [.map (some r)], smap r me c, .blk b4 388 [.func (.func 262) #[] #[.pointer (some ⟨b3, 0, none⟩), .pointer (some ⟨b1, 0, none⟩), .pointer (some ⟨b2, 0, none⟩)]], spC]) (F := X) [0,0,0,0,0,0,1] 1 rfl rfl <| Zsb (T' := [(109, .bool true), (110, .func (.func 262) #[] #[.pointer (some ⟨b3, 0, none⟩), .pointer (some ⟨b1, 0, none⟩), .pointer (some ⟨b2, 0, none⟩)]), (4, .pointer (some ⟨b4, 0, none⟩)), (5, .func (.func 263) #[] #[.pointer (some ⟨b4, 0, none⟩)]), (6, .func (.func 265) #[] #[.pointer (some ⟨b4, 0, none⟩)])]) ⟨rfl, rfl, rfl, rfl, rfl, trivial⟩ hk
    · refine Zre .n (hS.2 (rT m) (List.take_prefix m rowT)) [0,0] 0 rfl rfl rfl rfl
  refine Ze (ebst rfl) fun g20 => Zw <| Zg rfl rfl ?_
  refine Zkv (b1 := []) (b2 := [.pointer (some ⟨b3, 0, none⟩), .pointer (some ⟨b1, 0, none⟩), .pointer (some ⟨b2, 0, none⟩)]) (args := [.string _, .int .u32 4047511667, .slice (some ⟨g20, 0, none⟩) 1 1]) (c262 y r g20 b3 b1 b2 c 58 me _ _ fmCsr 4047511667 (J (rT 58)) (J rowT) (Jx rowT) (by omega) hcs (row_last hYd)) [1,1,1,1,1,0] rfl rfl rfl rfl <| ⟨Zq ?_, Zq <| Zv (ypt rfl rfl) <| Zskip 113 rfl (by kernel_rfl) ?_⟩
  refine Zv (ypt rfl rfl) <| Znl <| Zee ?_
  rotate_left
  refine Zee ?_
  rotate_left
  · refine Zre .n hS.1 [0,6] 6 rfl rfl rfl rfl
  · refine Zre .n (hS.2 rowT (List.prefix_refl _)) [0,6] 6 rfl rfl rfl rfl
end Go.Proofs.YtpfijldkkfiooaaGreatDoor
namespace Go.Proofs.YtpfijldkkfiooaaGreatDoor
open Go Go.RowKit
set_option maxRecDepth 4000
def rowCs (x : RowD) (nm : ByteArray) (m p t : Value) : List Value := .int .i64 x.1 :: .string nm :: (fmCs x.2.1 m p t ++ [.int .u32 x.2.2])
def rowDC (b : Nat) (w : Int) : HP := fun h => ∃ x nm m p t, rowF w = some x ∧ IsF m ∧ IsF p ∧ IsF t ∧ Sep [.blk b 357 (rowCs x nm m p t)] h
theorem rwc_op {b : Nat} {w : Int} : Op_ (rowDC b w) fun K => ∀ x nm m p t, rowF w = some x → IsF m → IsF p → IsF t → K [.blk b 357 (rowCs x nm m p t)] := .mk fun _ k _ ⟨x, nm, m, p, t, h1, hm, hp, ht, hs⟩ => ⟨_, k x nm m p t h1 hm hp ht, hs⟩
theorem rwc_fold {b : Nat} {w : Int} {x : RowD} {nm : ByteArray} {m p t : Value} (h1 : rowF w = some x) (hm : IsF m) (hp : IsF p) (ht : IsF t) : ∀ h, Sep [.blk b 357 (rowCs x nm m p t)] h → rowDC b w h := fun _ hs => ⟨x, nm, m, p, t, h1, hm, hp, ht, hs⟩
theorem row_found {w : Int} {pre : List RowD} {x : RowD} (h : pre ++ [x] <+: rowT) (hn : ∀ y ∈ pre, andF w y.2.1.mask ≠ y.2.2) (hx : andF w x.2.1.mask = x.2.2) : rowF w = some x := by
  obtain ⟨s, hs⟩ := h
  unfold rowF
  rw [← hs, List.append_assoc, List.find?_append, List.find?_eq_none.2 (fun y hy => by simpa using hn y hy)]
  simp [hx]
theorem Zjw {P : Program} {n : Nat} {r : Option Nat} {N : Nat × List Deferred} {T : Tb} {e : World} {Q : Exit → Act → World → Prop} {L : List Ck} {c c' : Code} {ι : Type} (Ti : ι → Tb) (Mi : ι → List Ck) (Y : List Ck) (h1 : ZC P r n c (Exit.then (Jk Ti (fun i => Mi i ++ Y) N e) Q) N T e L) (h2 : ∀ i, ZC P r n c' Q N (Ti i) e (Mi i ++ Y)) : ZC P r n c (Exit.then (Kc P r n c' Q) Q) N T e L := fun w hp ok a fr => by
  refine Code.wpIn_mono ?_ (h1 w hp ok a fr)
  intro ex a' w' he
  cases ex with
  | normal =>
    obtain ⟨j, h3, h4⟩ := he
    exact h2 j w' h4 ok a' h3
  | _ => exact he
def insP (w op : Int) (rd rs1 rs2 : Bool) (im : Int) (i : Nat) : List Value := [.int .i64 op, .int .i64 (cond (Nat.blt 0 i && rd) ((partF w 11 7).toNat : Int) 0), .int .i64 (cond (Nat.blt 1 i && rs1) ((partF w 19 15).toNat : Int) 0), .int .i64 (cond (Nat.blt 2 i && rs2) ((partF w 24 20).toNat : Int) 0), .int .u32 im, .bool false, .bool false]
theorem eb3 {N : Nat × List Deferred} {T : Tb} {e : World} {L : List Ck} {ty : TypeId} {pos : String} {af : Array Edge} {g : Option (Nat × Bool)} {dd : Option Nat} {x0 x1 x2 : Operand} {a0 a1 a2 : Bool} {p0 p1 p2 : Option Addr} {i0 i1 i2 : Int} (h0 : evT T x0 = some (.agg #[.bool a0, .pointer p0, .int .i64 i0])) (h1 : evT T x1 = some (.agg #[.bool a1, .pointer p1, .int .i64 i1])) (h2 : evT T x2 = some (.agg #[.bool a2, .pointer p2, .int .i64 i2])) : Ef Tryz.prog N T e L ⟨dd, .buildSlice 363 3 #[(0, x0), (1, x1), (2, x2)], ty, pos, af, g⟩ fun K => ∀ b, K (some (.slice (some ⟨b, 0, none⟩) 3 3)) (.blk b 362 [.bool a0, .pointer p0, .int .i64 i0, .bool a1, .pointer p1, .int .i64 i1, .bool a2, .pointer p2, .int .i64 i2] :: L) := fun ac w fr hp G kk => .inl (by
  obtain ⟨i, hi, hz0, hz1, hz2⟩ := info_parts (show (Tryz.prog.info? 362).map (fun i => (i.zero, i.size, i.bytes)) = some (some (.agg #[.bool false, .pointer none, .int .i64 0]), 3, 24) by kernel_rfl)
  have hzz : (Array.range (3 * 3)).map ((Value.agg #[.bool false, .pointer none, .int .i64 0]).cells[· % (Value.agg #[.bool false, .pointer none, .int .i64 0]).cells.size]!) = #[.bool false, .pointer none, .int .i64 0, .bool false, .pointer none, .int .i64 0, .bool false, .pointer none, .int .i64 0] := by kernel_rfl
  have hfill : Instr.fill (fun q => some (q * i.size, i.size)) ((Array.range (3 * i.size)).map ((Value.agg #[.bool false, .pointer none, .int .i64 0]).cells[· % (Value.agg #[.bool false, .pointer none, .int .i64 0]).cells.size]!)) [(0, .agg #[.bool a0, .pointer p0, .int .i64 i0]), (1, .agg #[.bool a1, .pointer p1, .int .i64 i1]), (2, .agg #[.bool a2, .pointer p2, .int .i64 i2])] = some #[.bool a0, .pointer p0, .int .i64 i0, .bool a1, .pointer p1, .int .i64 i1, .bool a2, .pointer p2, .int .i64 i2] := by
    rw [hz1, hzz]
    kernel_rfl
  have := run_buildSlice (P := Tryz.prog) w 363 362 3 #[(0, .agg #[.bool a0, .pointer p0, .int .i64 i0]), (1, .agg #[.bool a1, .pointer p1, .int .i64 i1]), (2, .agg #[.bool a2, .pointer p2, .int .i64 i2])] #[.bool a0, .pointer p0, .int .i64 i0, .bool a1, .pointer p1, .int .i64 i1, .bool a2, .pointer p2, .int .i64 i2] i _ Tryz.underlying363 hi hz0 (by rw [hz1]; omega) (by rw [hz1]; omega) hfill
  refine ⟨.slice (some ⟨w.heap.size, 0, none⟩) 3 3, w.alloc (.cells #[.bool a0, .pointer p0, .int .i64 i0, .bool a1, .pointer p1, .int .i64 i1, .bool a2, .pointer p2, .int .i64 i2] 362), ?_, kk _ _ (hp.newB ((Only.refl _ w).alloc _) (Go.heap_alloc_new w _) (Nat.le_refl _))⟩
  simp [execOp, fr.evT h0, fr.evT h1, fr.evT h2, this])
theorem all_c {p : RowD → Prop} {y : RowD} {l : List RowD} (h : p y) (h2 : ∀ x ∈ l, p x) : ∀ x ∈ y :: l, p x := fun x hx => by
  rcases List.mem_cons.1 hx with rfl | hx
  · exact h
  · exact h2 x hx
theorem take_sp {x : RowD} (h : x ∈ rowT) (w : Int) : Sp Tryz.prog x.2.1.tk [.int .u32 w] [] fun K => K (.returned (.int .u32 (x.2.1.take w))) [] := by
  refine (?_ : ∀ x ∈ rowT, Sp Tryz.prog x.2.1.tk [.int .u32 w] [] fun K => K (.returned (.int .u32 (x.2.1.take w))) []) x h
  exact all_c (c319 w) <| all_c (c319 w) <| all_c (c324 w) <| all_c (c304 w) <| all_c (c329 w) <| all_c (c329 w) <| all_c (c329 w) <| all_c (c329 w) <| all_c (c329 w) <| all_c (c329 w) <| all_c (c304 w) <| all_c (c304 w) <| all_c (c304 w) <| all_c (c304 w) <| all_c (c304 w) <| all_c (c332 w) <| all_c (c332 w) <| all_c (c332 w) <| all_c (c304 w) <| all_c (c304 w) <| all_c (c304 w) <| all_c (c304 w) <| all_c (c304 w) <| all_c (c304 w) <| all_c (c327 w) <| all_c (c327 w) <| all_c (c327 w) <| all_c (c303 w) <| all_c (c303 w) <| all_c (c303 w) <| all_c (c303 w) <| all_c (c303 w) <| all_c (c303 w) <| all_c (c303 w) <| all_c (c303 w) <| all_c (c303 w) <| all_c (c303 w) <| all_c (c335 w) <| all_c (c303 w) <| all_c (c303 w) <| all_c (c303 w) <| all_c (c303 w) <| all_c (c303 w) <| all_c (c303 w) <| all_c (c303 w) <| all_c (c303 w) <| all_c (c303 w) <| all_c (c303 w) <| all_c (c303 w) <| all_c (c303 w) <| all_c (c303 w) <| all_c (c303 w) <| all_c (c303 w) <| all_c (c303 w) <| all_c (c303 w) <| all_c (c303 w) <| all_c (c303 w) <| all_c (c303 w) <| all_c (c303 w) <| fun _ h => by cases h
theorem take_ok {x : RowD} (h : x ∈ rowT) : callOk Tryz.prog x.2.1.tk = true := by
  have : (rowT.all fun x => callOk Tryz.prog x.2.1.tk) = true := by kernel_rfl
  exact List.all_eq_true.1 this x h
end Go.Proofs.YtpfijldkkfiooaaGreatDoor
