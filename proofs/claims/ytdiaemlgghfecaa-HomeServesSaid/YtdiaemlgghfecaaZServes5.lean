/-
  Part 5 of what the claim stands on: walks through the code, plain laws.
-/
import Derived.Test.YtdiaemlgghfecaaZServes4
namespace Go.Proofs.Ytdiaemlgghfecaa
open Go.RowKit
def role (m : Msg) : List (Nat × Int) :=
  if m.kind = 4 ∨ m.kind = 5 then [(0, m.dst)] else if m.kind = 11 then [(0, m.src)] else if m.kind = 6 then [(1, m.dst)] else if m.kind = 12 then [(1, m.src)]
  else if m.kind = 8 ∨ m.kind = 9 ∨ m.kind = 10 then [(2, m.dst)] else if m.kind = 13 then [(2, m.src)] else []
def rl (n : Int) (m : Msg) : List (Nat × Int) := if m.line = n then role m else []
def rolesOf (n : Int) (way : List Msg) : List (Nat × Int) := way.flatMap (rl n)
def qcost (m : Msg) : Nat := if m.kind = 3 then 1 else 8
def cost (m : Msg) : Nat := if m.kind = 1 ∨ m.kind = 2 then 9 else if m.kind = 3 then 2 else if m.kind = 4 ∨ m.kind = 5 ∨ m.kind = 6 ∨ m.kind = 8 ∨ m.kind = 9 ∨ m.kind = 10 then 2 else if m.kind = 7 ∨ m.kind = 11 ∨ m.kind = 12 ∨ m.kind = 13 then 1 else 0
def pend (m : Msg) : Nat := if m.kind = 1 ∨ m.kind = 2 ∨ m.kind = 3 ∨ m.kind = 7 ∨ m.kind = 8 ∨ m.kind = 9 ∨ m.kind = 10 then 1 else 0
def owes (d : Ent) : Bool := d.busy && !d.told
def sumF {α : Type} (f : α → Nat) (l : List α) : Nat := (l.map f).sum
def ecost (d : Ent) : Nat := (if owes d then 2 else 0) + sumF qcost d.q
def epend (d : Ent) : Nat := (if owes d then 1 else 0) + d.q.length
structure Good (N : Nat) (m : Msg) : Prop where
  line : m.line.toNat < N
  what : ((1 ≤ m.kind ∧ m.kind ≤ 3) ∧ m.dst = 4 ∧ (0 ≤ m.src ∧ m.src < 4) ∧ (m.kind = 3 ∨ m.bs = b16z)) ∨ ((4 ≤ m.kind ∧ m.kind ≤ 10) ∧ (0 ≤ m.dst ∧ m.dst < 4)) ∨ ((11 ≤ m.kind ∧ m.kind ≤ 13) ∧ m.dst = 4 ∧ (0 ≤ m.src ∧ m.src < 4) ∧ (m.kind = 11 ∨ m.bs = b16z))
def Exp (d : Ent) (R : List (Nat × Int)) : Prop :=
  (d.busy = false ∧ R = []) ∨ (d.busy = true ∧ d.told = true ∧ R = [(2, d.asks)]) ∨ (d.busy = true ∧ d.told = false ∧ 0 ≤ d.o ∧ d.waits = 1 ∧ R = [(0, d.o)]) ∨
  (d.busy = true ∧ d.told = false ∧ d.o < 0 ∧ 1 ≤ d.waits ∧ ∃ C : List Int, R.Perm (C.map (Prod.mk 1)) ∧ C.Nodup ∧ ((C.length : Nat) : Int) = d.waits ∧ ∀ c ∈ C, d.sh.get c = true ∧ c ≠ d.asks)
section
variable {α : Type}
theorem sumF_nil (f : α → Nat) : sumF f [] = 0 := rfl
theorem sumF_cons (f : α → Nat) (x : α) (l : List α) : sumF f (x :: l) = f x + sumF f l := by simp [sumF]
theorem sumF_app (f : α → Nat) (l l' : List α) : sumF f (l ++ l') = sumF f l + sumF f l' := by simp [sumF]
theorem sumF_perm (f : α → Nat) {l l' : List α} (h : l.Perm l') : sumF f l = sumF f l' := by
  induction h with
  | nil => rfl
  | cons x _ ih => rw [sumF_cons, sumF_cons, ih]
  | swap x y l => rw [sumF_cons, sumF_cons, sumF_cons, sumF_cons]; omega
  | trans _ _ h1 h2 => exact h1.trans h2
theorem sumF_set (f : Ent → Nat) : ∀ (E : List Ent) (n : Nat) (d : Ent), n < E.length → sumF f (E.set n d) + f (entOf E n) = sumF f E + f d
  | [], n, d, h => by simp at h
  | x :: E, 0, d, h => by
    show sumF f (d :: E) + f x = _
    rw [sumF_cons, sumF_cons]; omega
  | x :: E, n + 1, d, h => by
    have ih := sumF_set f E n d (by simpa using h)
    show sumF f (x :: E.set n d) + f (entOf E n) = _
    rw [sumF_cons, sumF_cons]; omega
theorem sumF_le {f : α → Nat} {k : Nat} {l : List α} (h : ∀ x ∈ l, f x ≤ k) : sumF f l ≤ k * l.length := by
  induction l with
  | nil => simp [sumF_nil]
  | cons x r ih =>
    have h1 := h x (List.mem_cons_self ..)
    have h2 := ih fun y hy => h y (List.mem_cons_of_mem _ hy)
    rw [sumF_cons, List.length_cons, Nat.mul_succ]
    omega
theorem sumF_eq {f : α → Nat} {k : Nat} {l : List α} (h : ∀ x ∈ l, f x = k) : sumF f l = k * l.length := by
  induction l with
  | nil => simp [sumF_nil]
  | cons x r ih =>
    have h1 := h x (List.mem_cons_self ..)
    have h2 := ih fun y hy => h y (List.mem_cons_of_mem _ hy)
    rw [sumF_cons, List.length_cons, Nat.mul_succ]
    omega
end
theorem roles_app (n : Int) (l l' : List Msg) : rolesOf n (l ++ l') = rolesOf n l ++ rolesOf n l' := by simp [rolesOf]
theorem roles_cons (n : Int) (m : Msg) (l : List Msg) : rolesOf n (m :: l) = rl n m ++ rolesOf n l := by simp [rolesOf]
theorem roles_perm (n : Int) {l l' : List Msg} (h : l.Perm l') : (rolesOf n l).Perm (rolesOf n l') := by
  induction h with
  | nil => exact List.Perm.refl _
  | cons x _ ih => rw [roles_cons, roles_cons]; exact List.Perm.append_left _ ih
  | swap x y l => rw [roles_cons, roles_cons, roles_cons, roles_cons, ← List.append_assoc, ← List.append_assoc]; exact List.Perm.append_right _ List.perm_append_comm
  | trans _ _ h1 h2 => exact h1.trans h2
theorem way_perm {way : List Msg} {i : Nat} (h : i < way.length) : way.Perm (way.getD i msg0 :: (way.take i ++ way.drop (i + 1))) := by
  have h1 : way.getD i msg0 = way[i] := by simp [List.getD, h]
  have h2 : way = way.take i ++ way[i] :: way.drop (i + 1) := by rw [← List.drop_eq_getElem_cons h, List.take_append_drop]
  rw [h1]
  conv => lhs; rw [h2]
  exact List.perm_middle
theorem Exp.perm {d : Ent} {R R' : List (Nat × Int)} (h : Exp d R) (hp : R.Perm R') : Exp d R' := by
  rcases h with ⟨a, rfl⟩ | ⟨a, b, rfl⟩ | ⟨a, b, c, e, rfl⟩ | ⟨a, b, c, e, C, f, g⟩
  · exact .inl ⟨a, hp.nil_eq.symm⟩
  · exact .inr (.inl ⟨a, b, List.perm_singleton.1 hp.symm⟩)
  · exact .inr (.inr (.inl ⟨a, b, c, e, List.perm_singleton.1 hp.symm⟩))
  · exact .inr (.inr (.inr ⟨a, b, c, e, C, hp.symm.trans f, g⟩))
theorem Exp.idle {d : Ent} {R : List (Nat × Int)} (h : Exp d R) (hb : d.busy = false) : R = [] := by
  rcases h with ⟨a, rfl⟩ | ⟨a, _⟩ | ⟨a, _⟩ | ⟨a, _⟩
  · rfl
  all_goals rw [hb] at a; cases a
theorem Exp.nil {d : Ent} (h : Exp d []) : d.busy = false := by
  rcases h with ⟨a, _⟩ | ⟨_, _, h⟩ | ⟨_, _, _, _, h⟩ | ⟨_, _, _, e, C, f, _, g, _⟩
  · exact a
  · cases h
  · cases h
  · have : C.map (Prod.mk 1) = [] := f.nil_eq.symm
    rw [List.map_eq_nil_iff] at this
    subst this
    simp at g
    omega
theorem sh_get_rng {s : Sh} {c : Int} (h : s.get c = true) : 0 ≤ c ∧ c < 4 := by
  unfold Sh.get at h
  by_cases h0 : c = 0
  · omega
  by_cases h1 : c = 1
  · omega
  by_cases h2 : c = 2
  · omega
  by_cases h3 : c = 3
  · omega
  simp [h0, h1, h2, h3] at h
theorem sh_set_ne {s : Sh} {i c : Int} {x : Bool} (h : c ≠ i) : (s.set i x).get c = s.get c := by
  unfold Sh.set
  by_cases h0 : i = 0
  · subst h0; rw [if_pos rfl]; unfold Sh.get; rw [if_neg h, if_neg h]
  by_cases h1 : i = 1
  · subst h1; rw [if_neg (by decide), if_pos rfl]; unfold Sh.get; simp only [if_neg h]
  by_cases h2 : i = 2
  · subst h2; rw [if_neg (by decide), if_neg (by decide), if_pos rfl]; unfold Sh.get; simp only [if_neg h]
  by_cases h3 : i = 3
  · subst h3; rw [if_neg (by decide), if_neg (by decide), if_neg (by decide), if_pos rfl]; unfold Sh.get; simp only [if_neg h]
  simp only [if_neg h0, if_neg h1, if_neg h2, if_neg h3]
theorem othK_mem (sh : Sh) (r : Int) : ∀ (k : Nat) (c : Int), c ∈ othK sh r k → sh.get c = true ∧ c ≠ r ∧ c < k
  | 0, c, h => by simp [othK] at h
  | k + 1, c, h => by
    unfold othK at h
    split at h
    · rename_i hc
      rw [List.mem_append] at h
      rcases h with h | h
      · obtain ⟨a, b, e⟩ := othK_mem sh r k c h
        exact ⟨a, b, by omega⟩
      · simp at h
        subst h
        simp only [Bool.and_eq_true, decide_eq_true_eq] at hc
        exact ⟨hc.1, hc.2, by omega⟩
    · obtain ⟨a, b, e⟩ := othK_mem sh r k c h
      exact ⟨a, b, by omega⟩
theorem othK_nodup (sh : Sh) (r : Int) : ∀ k, (othK sh r k).Nodup
  | 0 => List.nodup_nil
  | k + 1 => by
    unfold othK
    split
    · rw [List.nodup_append]
      refine ⟨othK_nodup sh r k, by simp, fun x hx y hy e => ?_⟩
      simp at hy
      have := (othK_mem sh r k x hx).2.2
      omega
    · exact othK_nodup sh r k
theorem nodup_sub : ∀ (l m : List Int), l.Nodup → (∀ x ∈ l, x ∈ m) → l.length ≤ m.length
  | [], _, _, _ => Nat.zero_le _
  | x :: l, m, hn, hs => by
    have hx : x ∈ m := hs x (List.mem_cons_self ..)
    have h1 := nodup_sub l (m.erase x) (List.nodup_cons.1 hn).2 fun y hy => by
      have hne : y ≠ x := fun e => (List.nodup_cons.1 hn).1 (e ▸ hy)
      exact (List.mem_erase_of_ne hne).2 (hs y (List.mem_cons_of_mem _ hy))
    have h2 := List.length_erase_of_mem hx
    have h3 : 0 < m.length := List.length_pos_of_mem hx
    simp only [List.length_cons]
    omega
structure Sent (N : Nat) (n : Int) (d' : Ent) (out : List Msg) (R : List (Nat × Int)) (c p : Nat) : Prop where
  good : ∀ m ∈ out, Good N m ∧ m.line = n
  exp : Exp d' (R ++ rolesOf n out)
  cost : sumF cost out + ecost d' ≤ c
  pend : sumF pend out + epend d' = p
theorem send_roles {n : Int} {m : Msg} {k dst : Int} {b : B16} (h : m.line = n) : rl n (sendM m k dst b) = role (sendM m k dst b) := if_pos h
theorem send_good {N : Nat} {n : Int} {m : Msg} {k dst : Int} {b : B16} (h : m.line = n) (hn : n.toNat < N) (hk : 4 ≤ k ∧ k ≤ 10) (hd : 0 ≤ dst ∧ dst < 4) : Good N (sendM m k dst b) ∧ (sendM m k dst b).line = n :=
  ⟨⟨by show m.line.toNat < N; rw [h]; exact hn, .inr (.inl ⟨hk, hd⟩)⟩, h⟩
theorem one_good {N : Nat} {n : Int} {x : Msg} (h : Good N x ∧ x.line = n) : ∀ m ∈ [x], Good N m ∧ m.line = n := fun m hm => by
  simp at hm; subst hm; exact h
theorem begin_step {N : Nat} {n : Int} {d : Ent} {bs : List UInt8} {m : Msg} (h : EI n d) (hb : d.busy = false) (hm : ROk n m) (hn : n.toNat < N) :
    Sent N n (beginF bs d m).1 (beginF bs d m).2.2 [] (qcost m + sumF qcost d.q) (1 + d.q.length) := by
  have hl := leave_ok (r := m.src) h
  have hln := hm.line
  have hs := hm.src
  by_cases h3 : m.kind = 3
  · rw [begin_put h3]
    have ho : owes (leaveF d m.src) = false := by show (d.busy && !d.told) = false; rw [hb]; rfl
    refine ⟨one_good (send_good hln hn (by decide) hs), .inl ⟨hb, ?_⟩, ?_, ?_⟩
    · rw [roles_cons, send_roles hln]; rfl
    · show sumF cost [_] + ((if owes (leaveF d m.src) then 2 else 0) + sumF qcost d.q) ≤ _
      rw [ho, sumF_cons, sumF_nil, show cost (sendM m 7 m.src) = 1 from rfl, qcost, if_pos h3]
      simp
    · show sumF pend [_] + ((if owes (leaveF d m.src) then 1 else 0) + d.q.length) = _
      rw [ho, sumF_cons, sumF_nil, show pend (sendM m 7 m.src) = 1 from rfl]
      simp
  have hq8 : qcost m = 8 := by unfold qcost; rw [if_neg h3]
  have hk12 : m.kind = 1 ∨ m.kind = 2 := by have := hm.kind; omega
  -- data at once
  have told : ∀ (d' : Ent) (k : Int) (b : B16), d'.busy = true → d'.told = true → d'.asks = m.src → d'.q = d.q → (k = 8 ∨ k = 9 ∨ k = 10) → Sent N n d' [sendM m k m.src b] [] (qcost m + sumF qcost d.q) (1 + d.q.length) := by
    intro d' k b h1 h2 h3' h4 h5
    have ho : owes d' = false := by unfold owes; rw [h2]; simp
    have hc : cost (sendM m k m.src b) = 2 := by
      show cost (mkM k 4 m.src m.line b m.hn) = 2
      unfold cost mkM
      rcases h5 with rfl | rfl | rfl <;> simp
    have hp : pend (sendM m k m.src b) = 1 := by
      show pend (mkM k 4 m.src m.line b m.hn) = 1
      unfold pend mkM
      rcases h5 with rfl | rfl | rfl <;> simp
    refine ⟨one_good (send_good hln hn (by omega) hs), .inr (.inl ⟨h1, h2, ?_⟩), ?_, ?_⟩
    · rw [roles_cons, send_roles hln, h3']
      show _ ++ (role (mkM k 4 m.src m.line b m.hn) ++ []) = _
      unfold role mkM
      rcases h5 with rfl | rfl | rfl <;> simp
    · unfold ecost; rw [ho, h4, sumF_cons, sumF_nil, hc, hq8]; simp
    · unfold epend; rw [ho, h4, sumF_cons, sumF_nil, hp]; simp
  by_cases h0 : 0 ≤ (leaveF d m.src).o
  · have hown : 0 ≤ (leaveF d m.src).o ∧ (leaveF d m.src).o < 4 := ⟨h0, hl.ok.own.2⟩
    have hob : owes (busyF (leaveF d m.src) m 1 false) = true := rfl
    have he : Exp (busyF (leaveF d m.src) m 1 false) [(0, (leaveF d m.src).o)] := .inr (.inr (.inl ⟨rfl, rfl, h0, rfl, rfl⟩))
    have hc : ∀ k, k = 4 ∨ k = 5 → Sent N n (busyF (leaveF d m.src) m 1 false) [sendM m k (leaveF d m.src).o] [] (qcost m + sumF qcost d.q) (1 + d.q.length) := by
      intro k hk
      have hc : cost (sendM m k (leaveF d m.src).o) = 2 := by
        show cost (mkM k 4 _ m.line b16z m.hn) = 2
        unfold cost mkM
        rcases hk with rfl | rfl <;> simp
      have hp : pend (sendM m k (leaveF d m.src).o) = 0 := by
        show pend (mkM k 4 _ m.line b16z m.hn) = 0
        unfold pend mkM
        rcases hk with rfl | rfl <;> simp
      refine ⟨one_good (send_good hln hn (by omega) hown), ?_, ?_, ?_⟩
      · rw [roles_cons, send_roles hln]
        show Exp _ ([] ++ (role (mkM k 4 (leaveF d m.src).o m.line b16z m.hn) ++ []))
        have : role (mkM k 4 (leaveF d m.src).o m.line b16z m.hn) = [(0, (leaveF d m.src).o)] := by
          unfold role mkM
          rcases hk with rfl | rfl <;> simp
        rw [this]
        exact he
      · show sumF cost [_] + ((if owes (busyF (leaveF d m.src) m 1 false) then 2 else 0) + sumF qcost d.q) ≤ _
        rw [hob, sumF_cons, sumF_nil, hc, hq8]; simp; omega
      · show sumF pend [_] + ((if owes (busyF (leaveF d m.src) m 1 false) then 1 else 0) + d.q.length) = _
        rw [hob, sumF_cons, sumF_nil, hp]; simp
    rcases hk12 with hk | hk
    · rw [begin_s1 hk h0]; exact hc 4 (.inl rfl)
    · rw [begin_m1 hk h0]; exact hc 5 (.inr rfl)
  rcases hk12 with hk | hk
  · by_cases h1 : 0 < (othersF (leaveF d m.src).sh m.src).length
    · rw [begin_s2 hk h0 h1]; exact told _ 8 _ rfl rfl rfl rfl (by decide)
    · rw [begin_s3 hk h0 h1]; exact told _ 9 _ rfl rfl rfl rfl (by decide)
  · by_cases h1 : (othersF (leaveF d m.src).sh m.src).length = 0
    · rw [begin_m3 hk h0 h1]; exact told _ 10 _ rfl rfl rfl rfl (by decide)
    · rw [begin_m2 hk h0 h1]
      generalize hC : othersF (leaveF d m.src).sh m.src = C at h1
      have hmem : ∀ c ∈ C, (leaveF d m.src).sh.get c = true ∧ c ≠ m.src := fun c hc => by
        rw [← hC] at hc
        obtain ⟨a, b, _⟩ := othK_mem _ _ _ _ hc
        exact ⟨a, b⟩
      have hnd : C.Nodup := by rw [← hC]; exact othK_nodup _ _ _
      have hlen : C.length ≤ 4 := by rw [← hC]; exact othK_len _ _ 4
      have hl3 : C.length ≤ 3 := by
        by_cases h4 : C.length ≤ 3
        · exact h4
        exfalso
        have hin : ∀ c ∈ C, c ∈ ([0, 1, 2, 3] : List Int).erase m.src := fun c hc => by
          have := sh_get_rng (hmem c hc).1
          have hne := (hmem c hc).2
          rw [List.Nodup.mem_erase_iff (by decide)]
          refine ⟨hne, ?_⟩
          simp only [List.mem_cons, List.mem_nil_iff, or_false]
          omega
        have h5 : (([0, 1, 2, 3] : List Int).erase m.src).length = 3 := by
          rw [List.length_erase_of_mem (by simp only [List.mem_cons, List.mem_nil_iff, or_false]; omega)]
          rfl
        have := nodup_sub C _ hnd hin
        omega
      have hob : owes (busyF (leaveF d m.src) m ((C.length : Nat) : Int) false) = true := rfl
      have hr : rolesOf n (C.map (sendM m 6)) = C.map (Prod.mk 1) := by
        clear hob hl3 hlen hnd hmem h1 hC
        induction C with
        | nil => rfl
        | cons c r ih =>
          rw [List.map_cons, roles_cons, send_roles hln, List.map_cons, ih]
          rfl
      refine ⟨fun x hx => ?_, ?_, ?_, ?_⟩
      · obtain ⟨c, hc, rfl⟩ := List.mem_map.1 hx
        exact send_good hln hn (by decide) (sh_get_rng (hmem c hc).1)
      · rw [hr]
        exact .inr (.inr (.inr ⟨rfl, rfl, by show (leaveF d m.src).o < 0; omega, by show (1 : Int) ≤ ((C.length : Nat) : Int); omega, C, List.Perm.refl _, hnd, rfl, hmem⟩))
      · show sumF cost (C.map (sendM m 6)) + ((if owes (busyF (leaveF d m.src) m ((C.length : Nat) : Int) false) then 2 else 0) + sumF qcost d.q) ≤ _
        have := sumF_le (f := cost) (k := 2) (l := C.map (sendM m 6)) fun x hx => by
          obtain ⟨c, _, rfl⟩ := List.mem_map.1 hx
          exact Nat.le_refl _
        rw [List.length_map] at this
        rw [hob, hq8, if_pos rfl]; omega
      · show sumF pend (C.map (sendM m 6)) + ((if owes (busyF (leaveF d m.src) m ((C.length : Nat) : Int) false) then 1 else 0) + d.q.length) = _
        have := sumF_eq (f := pend) (k := 0) (l := C.map (sendM m 6)) fun x hx => by
          obtain ⟨c, _, rfl⟩ := List.mem_map.1 hx
          rfl
        rw [hob, if_pos rfl]; omega
theorem drain_out {N : Nat} {n : Int} (hn : n.toNat < N) : ∀ (q : List Msg) (bs : List UInt8) (d : Ent) (R : List (Nat × Int)), EI n d → (∀ m ∈ q, ROk n m) → Exp d R →
    Sent N n (drainF q bs d).1 (drainF q bs d).2.2 R ((if owes d then 2 else 0) + sumF qcost q) ((if owes d then 1 else 0) + q.length)
  | [], bs, d, R, h, hq, he => ⟨fun m hm => (by cases hm), by show Exp _ (R ++ []); rw [List.append_nil]; exact he, by show sumF cost [] + ecost _ ≤ _; rw [sumF_nil]; simp [ecost]; exact Nat.le_refl _, by show sumF pend [] + epend _ = _; rw [sumF_nil]; simp [epend]; rfl⟩
  | m :: r, bs, d, R, h, hq, he => by
    have hr : ∀ x ∈ r, ROk n x := fun x hx => hq x (List.mem_cons_of_mem _ hx)
    rw [drain_cons]
    cases hb : d.busy with
    | true =>
      rw [if_pos rfl]
      exact ⟨fun m hm => (by cases hm), by show Exp _ (R ++ []); rw [List.append_nil]; have : Exp d R := he; unfold Exp at this; rw [hb] at this; exact this, by show sumF cost [] + ecost _ ≤ _; rw [sumF_nil]; simp [ecost, owes, hb], by show sumF pend [] + epend _ = _; rw [sumF_nil]; simp [epend, owes, hb]⟩
    | false =>
      rw [if_neg (by decide)]
      obtain rfl := he.idle hb
      have ho : owes d = false := by unfold owes; rw [hb]; rfl
      rw [ho]
      have hm := hq m (List.mem_cons_self ..)
      have hd' := h.queue r hr
      have e1 := begin_ei (bs := bs) (m := m) hd' (show ({ d with q := r } : Ent).busy = false from hb) hm
      have s1 := begin_step (N := N) (bs := bs) (m := m) hd' (show ({ d with q := r } : Ent).busy = false from hb) hm hn
      rw [hb] at e1 s1
      have hqq : (beginF bs { o := d.o, sh := d.sh, busy := false, asks := d.asks, kind := d.kind, waits := d.waits, told := d.told, q := r } m).1.q = r := begin_q
      generalize hx : beginF bs { o := d.o, sh := d.sh, busy := false, asks := d.asks, kind := d.kind, waits := d.waits, told := d.told, q := r } m = x at *
      have s2 := drain_out hn r x.2.1 x.1 (rolesOf n x.2.2) e1 hr (by have := s1.exp; rwa [List.nil_append] at this)
      have c1 := s1.cost
      have p1 := s1.pend
      have c2 := s2.cost
      have p2 := s2.pend
      unfold ecost at c1
      unfold epend at p1
      rw [hqq] at c1 p1
      refine ⟨fun y hy => ?_, ?_, ?_, ?_⟩
      · rcases List.mem_append.1 hy with hy | hy
        · exact s1.good y hy
        · exact s2.good y hy
      · rw [roles_app, List.nil_append]; exact s2.exp
      · show sumF cost (x.2.2 ++ (drainF r x.2.1 x.1).2.2) + ecost (drainF r x.2.1 x.1).1 ≤ (if false = true then 2 else 0) + sumF qcost (m :: r)
        rw [sumF_app, sumF_cons, if_neg (by decide)]; dsimp only at c1; omega
      · show sumF pend (x.2.2 ++ (drainF r x.2.1 x.1).2.2) + epend (drainF r x.2.1 x.1).1 = (if false = true then 1 else 0) + (m :: r).length
        rw [sumF_app, List.length_cons, if_neg (by decide)]; dsimp only at p1; omega
theorem other_step {N : Nat} {n : Int} {d : Ent} {bs : List UInt8} {m : Msg} {R : List (Nat × Int)} (h : EI n d) (hk : 11 ≤ m.kind ∧ m.kind ≤ 13) (hln : m.line = n) (hn : n.toNat < N) (he : Exp d (role m ++ R)) :
    strayF d m = false ∧ Sent N n (otherF bs d m).1 (otherF bs d m).2.2 R (ecost d) (epend d) := by
  have hask := h.ok.asks
  -- told behind it
  have told : ∀ (d' : Ent) (k : Int) (b : B16), R = [] → owes d = true → d'.busy = true → d'.told = true → d'.asks = d.asks → d'.q = d.q → (k = 8 ∨ k = 10) → Sent N n d' [sendM m k d.asks b] R (ecost d) (epend d) := by
    intro d' k b hR h0 h1 h2 h3' h4 h5
    subst hR
    have ho : owes d' = false := by unfold owes; rw [h2]; simp
    have hc : cost (sendM m k d.asks b) = 2 := by
      show cost (mkM k 4 d.asks m.line b m.hn) = 2
      unfold cost mkM
      rcases h5 with rfl | rfl <;> simp
    have hp : pend (sendM m k d.asks b) = 1 := by
      show pend (mkM k 4 d.asks m.line b m.hn) = 1
      unfold pend mkM
      rcases h5 with rfl | rfl <;> simp
    refine ⟨one_good (send_good hln hn (by omega) hask), .inr (.inl ⟨h1, h2, ?_⟩), ?_, ?_⟩
    · rw [roles_cons, send_roles hln, h3']
      show _ ++ (role (mkM k 4 d.asks m.line b m.hn) ++ []) = _
      unfold role mkM
      rcases h5 with rfl | rfl <;> simp
    · unfold ecost; rw [ho, h4, sumF_cons, sumF_nil, hc, h0]; simp
    · unfold epend; rw [ho, h4, sumF_cons, sumF_nil, hp, h0]; simp
  have hk' : m.kind = 11 ∨ m.kind = 12 ∨ m.kind = 13 := by omega
  rcases hk' with hk | hk | hk
  · have hro : role m = [(0, m.src)] := by unfold role; simp [hk]
    rw [hro] at he
    rcases he with ⟨_, e⟩ | ⟨_, _, e⟩ | ⟨a, b, c, w1, e⟩ | ⟨_, _, _, _, C, f, _⟩
    · cases e
    · simp at e
    · simp at e
      obtain ⟨e1, e2⟩ := e
      have ho : owes d = true := by unfold owes; rw [a, b]; rfl
      refine ⟨by unfold strayF; simp [hk, a, w1, e1], ?_⟩
      by_cases h1 : d.kind = 1
      · rw [other_b1 hk h1]; exact told _ 8 _ e2 ho a rfl rfl rfl (by decide)
      · rw [other_b2 hk h1]; exact told _ 10 _ e2 ho a rfl rfl rfl (by decide)
    · have := f.subset (List.mem_cons_self ..)
      simp at this
  · have hro : role m = [(1, m.src)] := by unfold role; simp [hk]
    rw [hro] at he
    rcases he with ⟨_, e⟩ | ⟨_, _, e⟩ | ⟨a, b, c, w1, e⟩ | ⟨a, b, c, w1, C, f, nd, cl, ce⟩
    · cases e
    · simp at e
    · simp at e
    · have hin : m.src ∈ C := by
        have := f.subset (List.mem_cons_self ..)
        simpa using this
      have ho : owes d = true := by unfold owes; rw [a, b]; rfl
      obtain ⟨g1, g2⟩ := ce _ hin
      refine ⟨by unfold strayF; simp [hk, a, g1, g2]; omega, ?_⟩
      have hR : R.Perm ((C.erase m.src).map (Prod.mk 1)) := by
        have h1 : C.Perm (m.src :: C.erase m.src) := List.perm_cons_erase hin
        have h2 := h1.map (Prod.mk 1)
        exact (f.trans h2).cons_inv
      have hl : (C.erase m.src).length = C.length - 1 := List.length_erase_of_mem hin
      by_cases h1 : d.waits = 1
      · rw [other_a1 hk h1]
        have : C.erase m.src = [] := List.eq_nil_of_length_eq_zero (by omega)
        rw [this] at hR
        exact told _ 10 _ (List.Perm.eq_nil hR) ho a rfl rfl rfl (by decide)
      · rw [other_a2 hk h1]
        refine ⟨fun x hx => (by cases hx), ?_, ?_, ?_⟩
        · show Exp _ (R ++ [])
          rw [List.append_nil]
          refine .inr (.inr (.inr ⟨a, b, c, by show 1 ≤ d.waits - 1; omega, C.erase m.src, hR, nd.erase _, by show _ = d.waits - 1; rw [hl]; have : 0 < C.length := List.length_pos_of_mem hin; omega, fun x hx => ?_⟩))
          have hx' := (nd.mem_erase_iff).1 hx
          obtain ⟨g1, g2⟩ := ce x hx'.2
          exact ⟨by show (d.sh.set m.src false).get x = true; rw [sh_set_ne hx'.1]; exact g1, g2⟩
        · show sumF cost [] + _ ≤ _
          rw [sumF_nil, Nat.zero_add]
          exact Nat.le_refl _
        · show sumF pend [] + _ = _
          rw [sumF_nil, Nat.zero_add]
          rfl
  · have hro : role m = [(2, m.src)] := by unfold role; simp [hk]
    rw [hro] at he
    rcases he with ⟨_, e⟩ | ⟨a, b, e⟩ | ⟨_, _, _, _, e⟩ | ⟨_, _, _, _, C, f, _⟩
    · cases e
    · simp at e
      obtain ⟨e1, rfl⟩ := e
      refine ⟨by unfold strayF; simp [hk, a, b, e1], ?_⟩
      rw [other_d hk]
      have h' : EI n { d with busy := false, asks := 0, kind := 0, waits := 0, told := false } := ⟨⟨by show (0 : Int) ≤ 0 ∧ (0 : Int) < 4; decide, fun _ => rfl, h.ok.own, h.ok.q, pW0, fun h => (by cases h)⟩, h.apart, fun _ => ⟨rfl, rfl⟩⟩
      have s := drain_out (N := N) hn d.q bs _ [] h' h.ok.rest (.inl ⟨rfl, rfl⟩)
      have ho : owes d = false := by unfold owes; rw [b]; simp
      have c1 : ecost d = (if owes { d with busy := false, asks := 0, kind := 0, waits := 0, told := false } then 2 else 0) + sumF qcost d.q := by unfold ecost; rw [ho]; rfl
      have p1 : epend d = (if owes { d with busy := false, asks := 0, kind := 0, waits := 0, told := false } then 1 else 0) + d.q.length := by unfold epend; rw [ho]; rfl
      rw [c1, p1]
      exact s
    · simp at e
    · have := f.subset (List.mem_cons_self ..)
      simp at this
end Go.Proofs.Ytdiaemlgghfecaa
namespace Go.Proofs.Ytdiaemlgghfecaa
open Go.RowKit
structure Sv (T asked turns : Nat) (h : HD) (way : List Msg) (told : Nat) : Prop where
  hi : HI turns h
  good : ∀ m ∈ way, Good h.E.length m
  exp : ∀ n, n < h.E.length → Exp (entOf h.E n) (rolesOf n way)
  phi : turns + (sumF cost way + sumF ecost h.E) ≤ T
  ask : told + (sumF pend way + sumF epend h.E) = asked
theorem p11 : 11 ≤ (11 : Int) ∧ (11 : Int) ≤ 13 := by decide
theorem p12 : 11 ≤ (12 : Int) ∧ (12 : Int) ≤ 13 := by decide
theorem p13 : 11 ≤ (13 : Int) ∧ (13 : Int) ≤ 13 := by decide
theorem Good.cost {N : Nat} {m : Msg} (h : Good N m) : 1 ≤ Go.Proofs.Ytdiaemlgghfecaa.cost m := by
  unfold Go.Proofs.Ytdiaemlgghfecaa.cost
  rcases h.what with ⟨a, _⟩ | ⟨a, _⟩ | ⟨a, _⟩
  all_goals (repeat' split) <;> omega
theorem rl_same {m : Msg} {n : Int} (h : m.line = n) : rl n m = role m := if_pos h
theorem rl_other {m : Msg} {n : Int} (h : ¬ m.line = n) : rl n m = [] := if_neg h
theorem roles_other {n : Int} {k : Int} {out : List Msg} (h : ∀ m ∈ out, m.line = k) (hne : ¬ k = n) : rolesOf n out = [] := by
  induction out with
  | nil => rfl
  | cons m r ih =>
    rw [roles_cons, rl_other (by rw [h m (List.mem_cons_self ..)]; exact hne), ih fun x hx => h x (List.mem_cons_of_mem _ hx)]
    rfl
theorem Good.chk {N : Nat} {m : Msg} (h : Good N m) (hd : m.dst = 4) : Go.Proofs.Ytdiaemlgghfecaa.chk m = 0 ∧ (0 ≤ m.src ∧ m.src < 4) ∧ ((1 ≤ m.kind ∧ m.kind ≤ 3) ∨ (11 ≤ m.kind ∧ m.kind ≤ 13)) := by
  rcases h.what with ⟨a, _, c, e⟩ | ⟨_, b⟩ | ⟨a, _, c, e⟩
  · refine ⟨?_, c, .inl a⟩
    have hs : isCache m.src = true := by unfold isCache; simp; omega
    have hh : homeK m.kind = true := by unfold homeK; simp; omega
    have hb : bytesK m.kind = true ∨ m.bs = b16z := e.imp (fun h => by unfold bytesK; simp [h]) id
    unfold Go.Proofs.Ytdiaemlgghfecaa.chk goodMsg
    rcases hb with hb | hb <;> simp [hd, hs, hh, hb, bs0]
  · omega
  · refine ⟨?_, c, .inr a⟩
    have hs : isCache m.src = true := by unfold isCache; simp; omega
    have hh : homeK m.kind = true := by unfold homeK; simp; omega
    have hb : bytesK m.kind = true ∨ m.bs = b16z := e.imp (fun h => by unfold bytesK; simp [h]) id
    unfold Go.Proofs.Ytdiaemlgghfecaa.chk goodMsg
    rcases hb with hb | hb <;> simp [hd, hs, hh, hb, bs0]
theorem take_zero {h : HD} {m : Msg} (h0 : chk m = 0) (h1 : m.dst = 4) (h2 : m.line.toNat < h.E.length) (h3 : 3 < m.kind → strayF (entOf h.E m.line.toNat) m = false) : (takeH h m).2.2 = 0 := by
  have hmn := m.hn
  unfold takeH
  rw [if_neg (by simp [h0, h1]), if_neg (by omega)]
  dsimp only
  by_cases hk : m.kind ≤ 3
  · rw [if_pos hk]
    split <;> rfl
  · rw [if_neg hk, show h.E.getD m.line.toNat ent0 = entOf h.E m.line.toNat from rfl, h3 (by omega), if_neg (by decide)]
theorem role_req {m : Msg} (h : 1 ≤ m.kind ∧ m.kind ≤ 3) : role m = [] := by
  unfold role
  (repeat' rw [if_neg (by omega)])
theorem cost_req {m : Msg} (h : 1 ≤ m.kind ∧ m.kind ≤ 3) : cost m = qcost m + 1 ∧ pend m = 1 := by
  unfold cost pend qcost
  constructor
  · by_cases h3 : m.kind = 3
    · rw [if_neg (by omega), if_pos h3, if_pos h3]
    · rw [if_pos (by omega), if_neg h3]
  · rw [if_pos (by omega)]
theorem cost_ans {m : Msg} (h : 11 ≤ m.kind ∧ m.kind ≤ 13) : cost m = 1 ∧ pend m = 0 := by
  unfold cost pend
  constructor
  · rw [if_neg (by omega), if_neg (by omega), if_neg (by omega), if_pos (by omega)]
  · rw [if_neg (by omega)]
theorem Sv.take {T asked turns : Nat} {h : HD} {way rest : List Msg} {told : Nat} {m : Msg} (s : Sv T asked turns h way told) (hp : way.Perm (m :: rest)) (hd : m.dst = 4) :
    (takeH h m).2.2 = 0 ∧ Sv T asked (turns + 1) (takeH h m).1 (rest ++ (takeH h m).2.1) told := by
  have hg := s.good m (hp.symm.subset (List.mem_cons_self ..))
  obtain ⟨hc, hsrc, hk⟩ := hg.chk hd
  have hln := hg.line
  have hmn := m.hn
  have hline : m.line = ((m.line.toNat : Nat) : Int) := by omega
  have hrest : ∀ x ∈ rest, Good h.E.length x := fun x hx => s.good x (hp.symm.subset (List.mem_cons_of_mem _ hx))
  obtain ⟨e1, e2, e3⟩ := s.hi.2 _ hln
  have hexp := (s.exp _ hln).perm (roles_perm _ hp)
  rw [roles_cons, rl_same hline] at hexp
  have hcost := sumF_perm cost hp
  have hpend := sumF_perm pend hp
  rw [sumF_cons] at hcost hpend
  have hphi := s.phi
  have hask := s.ask
  have hz : (takeH h m).2.2 = 0 := by
    refine take_zero hc hd hln fun h3 => ?_
    exact (other_step (N := h.E.length) (bs := h.bs) e1 (by omega) hline (by omega) hexp).1
  refine ⟨hz, ?_⟩
  have hI := s.hi.take m
  rcases take_cases h m with ⟨e, he, hne⟩ | ⟨_, _, _, _, _, x, hx, hcs⟩
  · rw [he] at hz; exact absurd hz hne
  · rw [hx] at hI ⊢
    have hE : (h.E.set m.line.toNat x.1).length = h.E.length := List.length_set
    -- what all three have in common
    have fin : Sent h.E.length (m.line.toNat : Int) x.1 x.2.2 (rolesOf (m.line.toNat : Int) rest) (cost m - 1 + ecost (entOf h.E m.line.toNat)) (pend m + epend (entOf h.E m.line.toNat)) → 1 ≤ cost m → Sv T asked (turns + 1) ⟨x.2.1, h.E.set m.line.toNat x.1⟩ (rest ++ x.2.2) told := by
      intro st hc1
      refine ⟨hI, ?_, ?_, ?_, ?_⟩
      · intro y hy
        show Good (h.E.set m.line.toNat x.1).length y
        rw [hE]
        rcases List.mem_append.1 hy with hy | hy
        · exact hrest y hy
        · exact (st.good y hy).1
      · intro n hn
        show Exp (entOf (h.E.set m.line.toNat x.1) n) (rolesOf n (rest ++ x.2.2))
        replace hn : n < h.E.length := by rw [← hE]; exact hn
        rw [entOf_set hln, roles_app]
        by_cases hnn : n = m.line.toNat
        · subst hnn
          rw [if_pos rfl]
          exact st.exp
        · rw [if_neg hnn, roles_other (fun y hy => (st.good y hy).2) (by omega), List.append_nil]
          have := (s.exp n hn).perm (roles_perm _ hp)
          rwa [roles_cons, rl_other (by omega), List.nil_append] at this
      · show turns + 1 + (sumF cost (rest ++ x.2.2) + sumF ecost (h.E.set m.line.toNat x.1)) ≤ T
        have h1 := sumF_set ecost h.E m.line.toNat x.1 hln
        have h2 := st.cost
        rw [sumF_app]
        omega
      · show told + (sumF pend (rest ++ x.2.2) + sumF epend (h.E.set m.line.toNat x.1)) = asked
        have h1 := sumF_set epend h.E m.line.toNat x.1 hln
        have h2 := st.pend
        rw [sumF_app]
        omega
    rcases hcs with ⟨a, b, c, rfl⟩ | ⟨a, b, c, rfl⟩ | ⟨a, b, rfl⟩
    · obtain ⟨k1, k2⟩ := cost_req ⟨a, b⟩
      rw [role_req ⟨a, b⟩, List.nil_append] at hexp
      refine fin ⟨fun y hy => (by cases hy), ?_, ?_, ?_⟩ (by omega)
      · show Exp _ (_ ++ [])
        rw [List.append_nil]
        exact hexp
      · show sumF cost [] + ((if owes (entOf h.E m.line.toNat) then 2 else 0) + sumF qcost ((entOf h.E m.line.toNat).q ++ [m])) ≤ _
        rw [sumF_nil, sumF_app, sumF_cons, sumF_nil, k1]
        unfold ecost
        omega
      · show sumF pend [] + ((if owes (entOf h.E m.line.toNat) then 1 else 0) + ((entOf h.E m.line.toNat).q ++ [m]).length) = _
        rw [sumF_nil, List.length_append, k2]
        unfold epend
        simp only [List.length_cons, List.length_nil]
        omega
    · obtain ⟨k1, k2⟩ := cost_req ⟨a, b⟩
      rw [role_req ⟨a, b⟩, List.nil_append] at hexp
      have st := begin_step (N := h.E.length) (bs := h.bs) e1 c ⟨⟨a, b⟩, hsrc, hline⟩ (by omega)
      have ho : owes (entOf h.E m.line.toNat) = false := by unfold owes; rw [c]; rfl
      rw [hexp.idle c] at fin
      refine fin ⟨st.good, st.exp, ?_, ?_⟩ (by omega)
      · have := st.cost
        unfold ecost at this ⊢
        rw [ho, k1]
        simp only [Bool.false_eq_true, if_false]
        omega
      · have := st.pend
        unfold epend at this ⊢
        rw [ho, k2]
        simp only [Bool.false_eq_true, if_false]
        omega
    · obtain ⟨k1, k2⟩ := cost_ans (m := m) (by omega)
      have st := (other_step (N := h.E.length) (bs := h.bs) e1 (by omega) hline (by omega) hexp).2
      refine fin ⟨st.good, st.exp, ?_, ?_⟩ (by omega)
      · have := st.cost; omega
      · have := st.pend; omega
theorem Sv.answer {T asked turns : Nat} {h : HD} {way rest : List Msg} {told : Nat} {m : Msg} (s : Sv T asked turns h way told) (hp : way.Perm (m :: rest)) (hd : m.dst ≠ 4) (b : Int) (hb : 0 ≤ b ∧ b < 256) :
    Sv T asked (turns + 1) h (rest ++ (if (ansF m b hb).2 then [(ansF m b hb).1] else [])) (told + (if m.kind = 7 ∨ m.kind = 8 ∨ m.kind = 9 ∨ m.kind = 10 then 1 else 0)) := by
  have hg := s.good m (hp.symm.subset (List.mem_cons_self ..))
  have hln := hg.line
  have hrest : ∀ x ∈ rest, Good h.E.length x := fun x hx => s.good x (hp.symm.subset (List.mem_cons_of_mem _ hx))
  have hcost := sumF_perm cost hp
  have hpend := sumF_perm pend hp
  rw [sumF_cons] at hcost hpend
  have hphi := s.phi
  have hask := s.ask
  obtain ⟨hk, hdst⟩ : (4 ≤ m.kind ∧ m.kind ≤ 10) ∧ (0 ≤ m.dst ∧ m.dst < 4) := by
    rcases hg.what with ⟨_, b, _⟩ | h | ⟨_, b, _⟩
    · exact absurd b hd
    · exact h
    · exact absurd b hd
  have fin : ∀ (out : List Msg) (t : Nat), (∀ y ∈ out, Good h.E.length y ∧ y.line = m.line) → (∀ n : Int, m.line = n → rolesOf n out = role m) → sumF cost out + 1 ≤ cost m → t + sumF pend out = pend m → Sv T asked (turns + 1) h (rest ++ out) (told + t) := by
    intro out t h1 h2 h3 h4
    refine ⟨s.hi.mono (Nat.le_succ _), ?_, ?_, ?_, ?_⟩
    · intro y hy
      rcases List.mem_append.1 hy with hy | hy
      · exact hrest y hy
      · exact (h1 y hy).1
    · intro n hn
      have := (s.exp n hn).perm (roles_perm _ hp)
      rw [roles_cons] at this
      rw [roles_app]
      by_cases hnn : m.line = (n : Int)
      · rw [rl_same hnn] at this
        rw [h2 _ hnn]
        exact this.perm List.perm_append_comm
      · rw [rl_other hnn, List.nil_append] at this
        rw [roles_other (fun y hy => (h1 y hy).2) hnn, List.append_nil]
        exact this
    · rw [sumF_app]; omega
    · rw [sumF_app]; omega
  have one : ∀ (y : Msg) (t : Nat), Good h.E.length y → y.line = m.line → role y = role m → cost y + 1 ≤ cost m → t + pend y = pend m → Sv T asked (turns + 1) h (rest ++ [y]) (told + t) := by
    intro y t h1 h2 h3 h4 h5
    refine fin [y] t (fun z hz => ?_) (fun n hn => ?_) ?_ ?_
    · simp at hz; subst hz; exact ⟨h1, h2⟩
    · rw [roles_cons, rl_same (h2.trans hn), h3]; exact List.append_nil _
    · rw [sumF_cons, sumF_nil]; omega
    · rw [sumF_cons, sumF_nil]; omega
  unfold ansF
  by_cases h1 : m.kind = 4 ∨ m.kind = 5
  · rw [if_pos h1, if_pos rfl]
    refine one _ _ ⟨hln, .inr (.inr ⟨p11, rfl, hdst, .inl rfl⟩)⟩ rfl ?_ ?_ ?_
    · show [(0, m.dst)] = _
      unfold role; rw [if_pos h1]
    · show 1 + 1 ≤ cost m
      unfold cost; rw [if_neg (by omega), if_neg (by omega), if_pos (by omega)]; decide
    · show _ + 0 = pend m
      unfold pend; rw [if_neg (by omega), if_neg (by omega)]
  rw [if_neg h1]
  by_cases h2 : m.kind = 6
  · rw [if_pos h2, if_pos rfl]
    refine one _ _ ⟨hln, .inr (.inr ⟨p12, rfl, hdst, .inr rfl⟩)⟩ rfl ?_ ?_ ?_
    · show [(1, m.dst)] = _
      unfold role; rw [if_neg h1, if_neg (by omega), if_pos h2]
    · show 1 + 1 ≤ cost m
      unfold cost; rw [if_neg (by omega), if_neg (by omega), if_pos (by omega)]; decide
    · show _ + 0 = pend m
      unfold pend; rw [if_neg (by omega), if_neg (by omega)]
  rw [if_neg h2]
  by_cases h3 : m.kind = 8 ∨ m.kind = 9 ∨ m.kind = 10
  · rw [if_pos h3, if_pos rfl]
    refine one _ _ ⟨hln, .inr (.inr ⟨p13, rfl, hdst, .inr rfl⟩)⟩ rfl ?_ ?_ ?_
    · show [(2, m.dst)] = _
      unfold role; rw [if_neg h1, if_neg (by omega), if_neg h2, if_neg (by omega), if_pos h3]
    · show 1 + 1 ≤ cost m
      unfold cost; rw [if_neg (by omega), if_neg (by omega), if_pos (by omega)]; decide
    · show _ + 0 = pend m
      unfold pend; rw [if_pos (by omega), if_pos (by omega)]
  rw [if_neg h3]
  have h7 : m.kind = 7 := by omega
  rw [if_neg (by decide), if_pos (.inl h7)]
  refine fin [] 1 (fun y hy => by cases hy) (fun n hn => ?_) ?_ ?_
  · show [] = role m
    unfold role; rw [if_neg h1, if_neg (by omega), if_neg h2, if_neg (by omega), if_neg h3, if_neg (by omega)]
  · rw [sumF_nil]
    unfold cost; rw [if_neg (by omega), if_neg (by omega), if_neg (by omega), if_pos (by omega)]
    exact Nat.le_refl _
  · rw [sumF_nil]
    unfold pend; rw [if_pos (by omega)]
theorem Sv.done {T asked turns : Nat} {h : HD} {told : Nat} (s : Sv T asked turns h [] told) : told = asked ∧ idleB h.E = true := by
  have hb : ∀ n, n < h.E.length → (entOf h.E n).busy = false := fun n hn => (s.exp n hn).nil
  have hz : sumF epend h.E = 0 * h.E.length := sumF_eq fun d hd => by
    obtain ⟨n, hn, rfl⟩ := List.getElem_of_mem hd
    have he : entOf h.E n = h.E[n] := by simp [entOf, List.getD, hn]
    have h1 := hb n hn
    have h2 := (s.hi.2 n hn).2.1 h1
    rw [he] at h1 h2
    unfold epend owes
    rw [h1, h2]
    rfl
  have := s.ask
  rw [sumF_nil] at this
  refine ⟨by omega, ?_⟩
  unfold idleB
  rw [List.all_eq_true]
  intro d hd
  obtain ⟨n, hn, rfl⟩ := List.getElem_of_mem hd
  have he : entOf h.E n = h.E[n] := by simp [entOf, List.getD, hn]
  have h1 := hb n hn
  rw [he] at h1
  simp [h1]
theorem Sv.start {bs : List UInt8} {way : List Msg} (hg : ∀ m ∈ way, Good (bs.length / 16) m ∧ 1 ≤ m.kind ∧ m.kind ≤ 3) : Sv (9 * way.length) way.length 0 (home0 bs) way 0 := by
  have he : ∀ n, entOf (home0 bs).E n = ent0 := fun n => entOf_rep _ _
  refine ⟨HI.home0 bs, fun m hm => ?_, fun n hn => .inl ⟨by rw [he]; rfl, ?_⟩, ?_, ?_⟩
  · show Good (List.replicate (bs.length / 16) ent0).length m
    rw [List.length_replicate]
    exact (hg m hm).1
  · clear hn
    induction way with
    | nil => rfl
    | cons m r ih =>
      rw [roles_cons, ih fun x hx => hg x (List.mem_cons_of_mem _ hx)]
      unfold rl
      split
      · rw [role_req (hg m (List.mem_cons_self ..)).2]; rfl
      · rfl
  · have h1 : sumF ecost (home0 bs).E = 0 * (home0 bs).E.length := sumF_eq fun d hd => by
      rw [show (home0 bs).E = List.replicate (bs.length / 16) ent0 from rfl] at hd
      rw [(List.mem_replicate.1 hd).2]; rfl
    have h2 : sumF cost way ≤ 9 * way.length := sumF_le fun m hm => by
      have h3 := (cost_req (hg m hm).2).1
      unfold qcost at h3
      split at h3 <;> omega
    omega
  · have h1 : sumF epend (home0 bs).E = 0 * (home0 bs).E.length := sumF_eq fun d hd => by
      rw [show (home0 bs).E = List.replicate (bs.length / 16) ent0 from rfl] at hd
      rw [(List.mem_replicate.1 hd).2]; rfl
    have h2 : sumF pend way = 1 * way.length := sumF_eq fun m hm => (cost_req (hg m hm).2).2
    omega
theorem Sv.len {T asked turns : Nat} {h : HD} {way : List Msg} {told : Nat} (s : Sv T asked turns h way told) : way.length + turns ≤ T := by
  have h1 := s.phi
  have h2 : way.length ≤ sumF cost way := by
    have hg : ∀ m ∈ way, 1 ≤ cost m := fun m hm => (s.good m hm).cost
    clear h1 s
    induction way with
    | nil => exact Nat.le_refl _
    | cons m r ih =>
      rw [sumF_cons, List.length_cons]
      have := hg m (List.mem_cons_self ..)
      have := ih fun x hx => hg x (List.mem_cons_of_mem _ hx)
      omega
  omega
theorem u8bd (x : Int) : 0 ≤ IntKind.u8.wrap x ∧ IntKind.u8.wrap x < 256 := by
  simp only [IntKind.wrap, IntKind.signed, IntKind.bits]
  constructor
  · exact Int.emod_nonneg _ (by decide)
  · exact Int.emod_lt_of_pos _ (by decide)
end Go.Proofs.Ytdiaemlgghfecaa
namespace Go.Proofs.Ytdiaemlgghfecaa
open Go.RowKit
set_option maxRecDepth 100000 in
set_option maxHeartbeats 4000000 in
theorem serves_no {w : World} {A : Option Addr} {cap : Nat} {bs : List UInt8} (hV : View byE w A cap bs) {C : Option Addr} {cc : Nat} {l : List Hact} (hL : View hactE w C cc l) (pick : Int) (hs : sizeB bs = false) : Calls Try.prog 4 #[.slice A bs.length cap, .slice C l.length cc, .int .i64 pick] w (Ret fun v w' => v = .bool true ∧ New w w') := by
  have hVl := hV.len
  have hLl := hL.len
  unfold maxLen at hVl hLl
  have hF := Only.refl (fun _ => False) w
  refine fx_enter Try.func4 rfl (N := (175, [])) (T := [(0, .slice A bs.length cap), (1, .slice C l.length cc), (2, .int .i64 pick)]) rfl (show 3 ≤ 175 by decide) ⟨rfl, rfl, rfl, trivial⟩ fun a fr => ?_
  refine wp_seq ?_
  refine wp_region_lit ?_  -- region 0
  refine fx_val (v := .bool false) fr rfl rfl (by first | decide | simp) (x_assign rfl rfl) ?_
  clear fr a; intro a fr
  refine wpList_nil ?_
  refine fx_next ?_
  refine wp_seq ?_
  refine wp_region_lit ?_  -- region 1
  refine fx_val (v := .slice A bs.length cap) fr rfl rfl (by first | decide | simp) (x_move rfl (fr.ev rfl)) ?_
  clear fr a; intro a fr
  refine fx_call fr rfl rfl (by first | decide | simp) (x_call (vs := [.slice A bs.length cap]) rfl rfl ⟨(fr.ev rfl), trivial⟩ Try.func9 nm9 rfl) (made_no hV hs) ?_
  clear fr a
  rintro v w1 ⟨rfl, hN2⟩ a fr
  replace hV := hV.new hN2
  replace hL := hL.new hN2
  replace hF := hF.trNew hN2
  refine fx_val (v := .tuple #[.pointer none, .agg (#[.slice none 0 0, .slice none 0 0]), .bool false]) fr rfl rfl (by first | decide | simp) (x_move rfl (fr.ev rfl)) ?_
  clear fr a; intro a fr
  refine fx_val (v := .pointer none) fr rfl rfl (by first | decide | simp) (x_extract rfl (fr.ev rfl) rfl) ?_
  clear fr a; intro a fr
  refine fx_val (v := .agg (#[.slice none 0 0, .slice none 0 0])) fr rfl rfl (by first | decide | simp) (x_extract rfl (fr.ev rfl) rfl) ?_
  clear fr a; intro a fr
  refine fx_val (v := .bool false) fr rfl rfl (by first | decide | simp) (x_extract rfl (fr.ev rfl) rfl) ?_
  clear fr a; intro a fr
  refine fx_new fr rfl rfl (by first | decide | simp) (x_alloc (z := .agg (#[.slice none 0 0, .slice none 0 0])) (cs := #[.slice none 0 0, .slice none 0 0]) rfl (by kernel_rfl) rfl) ?_
  clear fr a
  intro b3 w4 hN5 B6 hb7 a fr
  have ap_A_b3 : Apart A b3 := hV.apart hb7
  have ap_C_b3 : Apart C b3 := hL.apart hb7
  have g_b3 := Nat.le_trans hF.size hb7
  replace hV := hV.new hN5
  replace hL := hL.new hN5
  replace hF := hF.trNew hN5
  refine fx_val (v := .pointer none) fr rfl rfl (by first | decide | simp) (x_assign rfl (fr.ev rfl)) ?_
  clear fr a; intro a fr
  refine fx_storeS sz28 rfl rfl rfl (fr.ev rfl) (fr.ev rfl) (by simp [Value.oneCell']) B6 rfl rfl fun w8 hO9 hBq => ?_
  replace hV := hV.only hO9 (Apart.ne1 ap_A_b3)
  replace hL := hL.only hO9 (Apart.ne1 ap_C_b3)
  replace hF := hF.loc hO9 (.inr g_b3)
  replace B6 := hBq
  clear hBq
  refine fx_val (v := .bool false) fr rfl rfl (by first | decide | simp) (x_assign rfl (fr.ev rfl)) ?_
  clear fr a; intro a fr
  refine wpList_nil ?_
  refine fx_next ?_
  refine wp_seq ?_
  refine wp_seq ?_
  refine wp_region_lit ?_  -- region 2
  refine fx_val (v := .bool false) fr rfl rfl (by first | decide | simp) (x_move rfl (fr.ev rfl)) ?_
  clear fr a; intro a fr
  refine fx_val (v := .bool true) fr rfl rfl (by first | decide | simp) (x_not rfl (fr.ev rfl) rfl) ?_
  clear fr a; intro a fr
  refine fx_val (v := .bool true) fr rfl rfl (by first | decide | simp) (x_move rfl (fr.ev rfl)) ?_
  clear fr a; intro a fr
  refine fx_skip fr (fr.unwant rfl rfl rfl (by decide)) rfl (by first | decide | simp) ?_
  clear fr a; intro a fr
  refine fx_skip fr (fr.unwant rfl rfl rfl (by decide)) rfl (by first | decide | simp) ?_
  clear fr a; intro a fr
  refine fx_skip fr (fr.unwant rfl rfl rfl (by decide)) rfl (by first | decide | simp) ?_
  clear fr a; intro a fr
  refine fx_val (v := .bool true) fr rfl rfl (by first | decide | simp) (x_pick_t rfl (fr.ev rfl) rfl) ?_
  clear fr a; intro a fr
  refine wpList_nil ?_
  refine fx_next ?_
  refine fx_cond_t fr rfl ?_
  refine wp_seq ?_
  refine wp_region_lit ?_  -- region 3
  refine fx_call fr rfl rfl (by first | decide | simp) (x_call (vs := []) rfl rfl trivial Try.func11 nm11 rfl) (known_c _) ?_
  clear fr a
  rintro v w10 ⟨rfl, hN11⟩ a fr
  replace hV := hV.new hN11
  replace hL := hL.new hN11
  replace B6 := B6.new hN11
  replace hF := hF.trNew hN11
  refine fx_val (v := .bool true) fr rfl rfl (by first | decide | simp) (x_assign rfl (fr.ev rfl)) ?_
  clear fr a; intro a fr
  refine wpList_nil ?_
  refine fx_next ?_
  refine wp_ret ?_
  refine fx_rt ?_
  refine fx_ret fr [.tmp 6] [.bool true] rfl ⟨rfl, trivial⟩ rfl ?_
  exact ⟨_, rfl, rfl, hF⟩
set_option maxRecDepth 100000 in
set_option maxHeartbeats 4000000 in
theorem serves_yes {w : World} {A : Option Addr} {cap : Nat} {bs : List UInt8} (hV : View byE w A cap bs) {C : Option Addr} {cc : Nat} {l : List Hact} (hL : View hactE w C cc l) (pick : Int) (hs : sizeB bs = true) : Calls Try.prog 4 #[.slice A bs.length cap, .slice C l.length cc, .int .i64 pick] w (Ret fun v w' => v = .bool true ∧ New w w') := by
  have hVl := hV.len
  have hLl := hL.len
  unfold maxLen at hVl hLl
  have hsz := size_bd hs
  have h0l : (home0 bs).E.length = bs.length / 16 := by simp [home0]
  have hF := Only.refl (fun _ => False) w
  refine fx_enter Try.func4 rfl (N := (175, [])) (T := [(0, .slice A bs.length cap), (1, .slice C l.length cc), (2, .int .i64 pick)]) rfl (show 3 ≤ 175 by decide) ⟨rfl, rfl, rfl, trivial⟩ fun a fr => ?_
  refine wp_seq ?_
  refine wp_region_lit ?_  -- region 0
  refine fx_val (v := .bool false) fr rfl rfl (by first | decide | simp) (x_assign rfl rfl) ?_
  clear fr a; intro a fr
  refine wpList_nil ?_
  refine fx_next ?_
  refine wp_seq ?_
  refine wp_region_lit ?_  -- region 1
  refine fx_val (v := .slice A bs.length cap) fr rfl rfl (by first | decide | simp) (x_move rfl (fr.ev rfl)) ?_
  clear fr a; intro a fr
  refine fx_call fr rfl rfl (by first | decide | simp) (x_call (vs := [.slice A bs.length cap]) rfl rfl ⟨(fr.ev rfl), trivial⟩ Try.func9 nm9 rfl) (made_yes hV hs) ?_
  clear fr a
  rintro v w13 ⟨hb1, Fp2, A3, cap4, B5, cb6, FpR7, rfl, H8, R9, hf10, hr11, hd12, hN14⟩ a fr
  have ap2_A_Fp2 : ∀ k, inA A k → Fp2 k → False := symP (new_apart2P hf10 fun _ hg => hV.lt hg)
  have ap2_C_Fp2 : ∀ k, inA C k → Fp2 k → False := symP (new_apart2P hf10 fun _ hg => hL.lt hg)
  have gA_Fp2 := gA_newP hF hf10
  have gN_Fp2 := fun g (hg : Fp2 g) => Nat.le_trans hF.size (hf10 g hg)
  have ap2_A_FpR7 : ∀ k, inA A k → FpR7 k → False := symP (new_apart2P hr11 fun _ hg => hV.lt hg)
  have ap2_C_FpR7 : ∀ k, inA C k → FpR7 k → False := symP (new_apart2P hr11 fun _ hg => hL.lt hg)
  have gA_FpR7 := gA_newP hF hr11
  have gN_FpR7 := fun g (hg : FpR7 g) => Nat.le_trans hF.size (hr11 g hg)
  have ap2_Fp2_FpR7 := hd12
  replace hV := hV.new hN14
  replace hL := hL.new hN14
  replace hF := hF.trNew hN14
  refine fx_val (v := .tuple #[.pointer (some ⟨hb1, 0, none⟩), .agg (#[.slice A3 bs.length cap4, .slice B5 (bs.length / 16) cb6]), .bool true]) fr rfl rfl (by first | decide | simp) (x_move rfl (fr.ev rfl)) ?_
  clear fr a; intro a fr
  refine fx_val (v := .pointer (some ⟨hb1, 0, none⟩)) fr rfl rfl (by first | decide | simp) (x_extract rfl (fr.ev rfl) rfl) ?_
  clear fr a; intro a fr
  refine fx_val (v := .agg (#[.slice A3 bs.length cap4, .slice B5 (bs.length / 16) cb6])) fr rfl rfl (by first | decide | simp) (x_extract rfl (fr.ev rfl) rfl) ?_
  clear fr a; intro a fr
  refine fx_val (v := .bool true) fr rfl rfl (by first | decide | simp) (x_extract rfl (fr.ev rfl) rfl) ?_
  clear fr a; intro a fr
  refine fx_new fr rfl rfl (by first | decide | simp) (x_alloc (z := .agg (#[.slice none 0 0, .slice none 0 0])) (cs := #[.slice none 0 0, .slice none 0 0]) rfl (by kernel_rfl) rfl) ?_
  clear fr a
  intro b15 w16 hN17 B18 hb19 a fr
  have ap_A_b15 : Apart A b15 := hV.apart hb19
  have ap_C_b15 : Apart C b15 := hL.apart hb19
  have ap_Fp2_b15 : ¬ Fp2 b15 := H8.apart hb19
  have ap_FpR7_b15 : ¬ FpR7 b15 := R9.apart hb19
  have g_b15 := Nat.le_trans hF.size hb19
  replace hV := hV.new hN17
  replace hL := hL.new hN17
  replace H8 := H8.new hN17
  replace R9 := R9.new hN17
  replace hF := hF.trNew hN17
  refine fx_val (v := .pointer (some ⟨hb1, 0, none⟩)) fr rfl rfl (by first | decide | simp) (x_assign rfl (fr.ev rfl)) ?_
  clear fr a; intro a fr
  refine fx_storeS sz28 rfl rfl rfl (fr.ev rfl) (fr.ev rfl) (by simp [Value.oneCell']) B18 rfl rfl fun w20 hO21 hBq => ?_
  replace hV := hV.only hO21 (Apart.ne1 ap_A_b15)
  replace hL := hL.only hO21 (Apart.ne1 ap_C_b15)
  replace H8 := H8.only hO21 (ne1P ap_Fp2_b15)
  replace R9 := R9.only hO21 (ne1P ap_FpR7_b15)
  replace hF := hF.loc hO21 (.inr g_b15)
  replace B18 := hBq
  clear hBq
  refine fx_val (v := .bool true) fr rfl rfl (by first | decide | simp) (x_assign rfl (fr.ev rfl)) ?_
  clear fr a; intro a fr
  refine wpList_nil ?_
  refine fx_next ?_
  refine wp_seq ?_
  refine wp_seq ?_
  refine wp_region_lit ?_  -- region 2
  refine fx_val (v := .bool true) fr rfl rfl (by first | decide | simp) (x_move rfl (fr.ev rfl)) ?_
  clear fr a; intro a fr
  refine fx_val (v := .bool false) fr rfl rfl (by first | decide | simp) (x_not rfl (fr.ev rfl) rfl) ?_
  clear fr a; intro a fr
  refine fx_val (v := .bool false) fr rfl rfl (by first | decide | simp) (x_move rfl (fr.ev rfl)) ?_
  clear fr a; intro a fr
  refine fx_val (v := .slice C l.length cc) fr (fr.want rfl rfl rfl) rfl (by first | decide | simp) (x_move rfl (fr.ev rfl)) ?_
  clear fr a; intro a fr
  refine fx_val (v := .int .i64 ((l.length : Nat) : Int)) fr (fr.want rfl rfl rfl) rfl (by first | decide | simp) (x_len Try.underlying47 rfl (fr.ev rfl)) ?_
  clear fr a; intro a fr
  refine fx_val (v := .bool (decide (20 < ((l.length : Nat) : Int)))) fr (fr.want rfl rfl rfl) rfl (by first | decide | simp) (x_gtr rfl (fr.ev rfl) rfl rfl) ?_
  clear fr a; intro a fr
  refine fx_val (v := .bool (decide (20 < ((l.length : Nat) : Int)))) fr rfl rfl (by first | decide | simp) (x_pick_f rfl (fr.ev rfl) (fr.ev rfl)) ?_
  clear fr a; intro a fr
  refine wpList_nil ?_
  refine fx_next ?_
  refine fx_cond fr rfl (fun hc22 => ?_) (fun hc22 => ?_)
  · skip
    have hc22 := of_decide_eq_true hc22
    refine wp_seq ?_
    refine wp_region_lit ?_  -- region 3
    refine fx_call fr rfl rfl (by first | decide | simp) (x_call (vs := []) rfl rfl trivial Try.func11 nm11 rfl) (known_c _) ?_
    clear fr a
    rintro v w23 ⟨rfl, hN24⟩ a fr
    replace hV := hV.new hN24
    replace hL := hL.new hN24
    replace H8 := H8.new hN24
    replace R9 := R9.new hN24
    replace B18 := B18.new hN24
    replace hF := hF.trNew hN24
    refine fx_val (v := .bool true) fr rfl rfl (by first | decide | simp) (x_assign rfl (fr.ev rfl)) ?_
    clear fr a; intro a fr
    refine wpList_nil ?_
    refine fx_next ?_
    refine wp_ret ?_
    refine fx_rt ?_
    refine fx_ret fr [.tmp 6] [.bool true] rfl ⟨rfl, trivial⟩ rfl ?_
    exact ⟨_, rfl, rfl, hF⟩
  · skip
    have hc22 := of_decide_eq_false hc22
    refine wp_skip ?_
    refine fx_next ?_
    refine wp_seq ?_
    refine wp_region_lit ?_  -- region 4
    refine fx_val (v := .slice none 0 0) fr rfl rfl (by first | decide | simp) (x_assign rfl rfl) ?_
    clear fr a; intro a fr
    refine wpList_nil ?_
    refine fx_next ?_
    refine wp_seq ?_
    refine wp_region_lit ?_  -- region 5
    refine fx_val (v := .int .i64 0) fr rfl rfl (by first | decide | simp) (x_assign rfl rfl) ?_
    clear fr a; intro a fr
    refine fx_val (v := .int .i64 0) fr rfl rfl (by first | decide | simp) (x_assign rfl rfl) ?_
    clear fr a; intro a fr
    refine wpList_nil ?_
    refine fx_next ?_
    refine wp_seq ?_
    refine wp_seq ?_
    refine wp_region_lit ?_  -- region 6
    refine fx_val (v := .int .i64 0) fr rfl rfl (by first | decide | simp) (x_assign rfl rfl) ?_
    clear fr a; intro a fr
    refine wpList_nil ?_
    refine fx_next ?_
    refine wp_block ?_
    refine fx_loop (fun nM a wL => ∃ i : Nat, ∃ W : Option Addr, ∃ wc : Nat, ∃ wy0 : List Msg, ∃ ask : Nat, nM = l.length - i ∧ Fr (175, []) [(0, .slice A bs.length cap), (1, .slice C l.length cc), (2, .int .i64 pick), (7, .pointer (some ⟨hb1, 0, none⟩)), (12, .int .i64 0), (10, .slice W wy0.length wc), (11, .int .i64 ((ask : Nat) : Int)), (13, .int .i64 ((i : Nat) : Int))] a ∧ Only (fun _ => False) w wL ∧ View hactE wL C cc l ∧ HomeAt wL Fp2 hb1 (home0 bs) ∧ Own msgE wL W wc wy0 ∧ i ≤ l.length ∧ (∀ m ∈ wy0, Good (bs.length / 16) m ∧ 1 ≤ m.kind ∧ m.kind ≤ 3) ∧ ask ≤ i ∧ wy0.length = ask ∧ (Apart2 C W) ∧ (∀ k, Fp2 k → inA W k → False) ∧ (∀ g, inA W g → (fun _ => False) g ∨ w.heap.size ≤ g)) (n0 := _) ⟨0, none, 0, [], 0, rfl, fr.sub ⟨rfl, rfl, rfl, rfl, rfl, rfl, rfl, rfl, trivial⟩, hF, hL, H8, Own.nil, by omega, (fun m hm => by cases hm), Nat.le_refl _, rfl, (fun k _ h => apart_none k h), (fun k _ h => apart_none k h), gA_none⟩ ?_
    rintro n26 a w25 ⟨i, W, wc, wy0, ask, rfl, fr, hF, hL, H8, OW, hi, hgood, hwl, hwa, ap2_C_W, ap2_Fp2_W, gA_W⟩
    refine wp_seq ?_
    refine wp_seq ?_
    refine wp_region_lit ?_  -- region 7
    refine fx_val (v := .int .i64 ((i : Nat) : Int)) fr rfl rfl (by first | decide | simp) (x_move rfl (fr.ev rfl)) ?_
    clear fr a; intro a fr
    refine fx_val (v := .slice C l.length cc) fr rfl rfl (by first | decide | simp) (x_move rfl (fr.ev rfl)) ?_
    clear fr a; intro a fr
    refine fx_val (v := .int .i64 ((l.length : Nat) : Int)) fr rfl rfl (by first | decide | simp) (x_len Try.underlying47 rfl (fr.ev rfl)) ?_
    clear fr a; intro a fr
    refine fx_val (v := .bool (decide (((i : Nat) : Int) < ((l.length : Nat) : Int)))) fr rfl rfl (by first | decide | simp) (x_lss rfl (fr.ev rfl) (fr.ev rfl) rfl) ?_
    clear fr a; intro a fr
    refine wpList_nil ?_
    refine fx_next ?_
    refine fx_cond fr rfl (fun hc27 => ?_) (fun hc27 => ?_)
    · skip
      have hc27 := of_decide_eq_true hc27
      refine wp_skip ?_
      refine fx_next ?_
      refine wp_seq ?_
      refine wp_block ?_
      refine wp_seq ?_
      obtain ⟨k, hk, hkl⟩ := modF_nat (l.getD i hact0).line (home0 bs).E.length (by omega)
      obtain ⟨kc, hkc, hkcl⟩ := modF_nat (l.getD i hact0).cache 4 (by decide)
      change modF (l.getD i hact0).cache 4 = _ at hkc
      refine fx_heldT (n := 22) (k := 22) (fun w => View hactE w C cc l ∧ HomeAt w Fp2 hb1 (home0 bs) ∧ Own msgE w W wc wy0 ∧ True) (by kernel_rfl) (by kernel_rfl) rfl ?_  -- region 9
      intro w28 hN29
      replace hL := hL.new hN29
      replace H8 := H8.new hN29
      replace OW := OW.new hN29
      replace hF := hF.trNew hN29
      refine fx_take (i := 0) (v := .slice C l.length cc) fr rfl (by kernel_rfl) rfl rfl (by first | decide | simp) (fun _ _ _ h => h) (fun _ ⟨hL, H8, OW, _⟩ => x_move rfl (fr.ev rfl)) ⟨hL, H8, OW, trivial⟩ ?_
      clear fr a; intro a fr
      refine fx_take (i := 1) (v := .int .i64 ((i : Nat) : Int)) fr rfl (by kernel_rfl) rfl rfl (by first | decide | simp) (fun _ _ _ h => h) (fun _ ⟨hL, H8, OW, _⟩ => x_move rfl (fr.ev rfl)) ⟨hL, H8, OW, trivial⟩ ?_
      clear fr a; intro a fr
      obtain ⟨g30, o31, hA32⟩ := (hL).some_ (by first | omega | decide)
      refine fx_take (i := 2) (v := .pointer (some ⟨g30, o31 + i * 4, none⟩)) fr rfl (by kernel_rfl) rfl rfl (by first | decide | simp) (fun _ _ _ h => h) (fun _ ⟨hL, H8, OW, _⟩ => x_indexV Try.underlying47 sz49 rfl (fr.ev rfl) hA32 (fr.ev rfl) (by first | omega | decide) rfl) ⟨hL, H8, OW, trivial⟩ ?_
      clear fr a; intro a fr
      refine fx_take (i := 3) (v := .pointer (some ⟨g30, o31 + i * 4 + 2, none⟩)) fr rfl (by kernel_rfl) rfl rfl (by first | decide | simp) (fun _ _ _ h => h) (fun _ ⟨hL, H8, OW, _⟩ => x_fieldAddr fo49_2 rfl (fr.ev rfl) rfl) ⟨hL, H8, OW, trivial⟩ ?_
      clear fr a; intro a fr
      refine fx_take (i := 4) (v := .int .i64 ((l.getD i hact0).kind)) fr rfl (by kernel_rfl) rfl rfl (by first | decide | simp) (fun _ _ _ h => h) (fun _ ⟨hL, H8, OW, _⟩ => x_load1 pl33 rfl (fr.ev rfl) (range_cell ((hL).elem hA32 i hact0 (by first | omega | decide)) 2 rfl rfl)) ⟨hL, H8, OW, trivial⟩ ?_
      clear fr a; intro a fr
      refine fx_take (i := 5) (v := .slice C l.length cc) fr rfl (by kernel_rfl) rfl rfl (by first | decide | simp) (fun _ _ _ h => h) (fun _ ⟨hL, H8, OW, _⟩ => x_move rfl (fr.ev rfl)) ⟨hL, H8, OW, trivial⟩ ?_
      clear fr a; intro a fr
      refine fx_take (i := 6) (v := .int .i64 ((i : Nat) : Int)) fr rfl (by kernel_rfl) rfl rfl (by first | decide | simp) (fun _ _ _ h => h) (fun _ ⟨hL, H8, OW, _⟩ => x_move rfl (fr.ev rfl)) ⟨hL, H8, OW, trivial⟩ ?_
      clear fr a; intro a fr
      refine fx_take (i := 7) (v := .pointer (some ⟨g30, o31 + i * 4, none⟩)) fr rfl (by kernel_rfl) rfl rfl (by first | decide | simp) (fun _ _ _ h => h) (fun _ ⟨hL, H8, OW, _⟩ => x_indexV Try.underlying47 sz49 rfl (fr.ev rfl) hA32 (fr.ev rfl) (by first | omega | decide) rfl) ⟨hL, H8, OW, trivial⟩ ?_
      clear fr a; intro a fr
      refine fx_take (i := 8) (v := .pointer (some ⟨g30, o31 + i * 4, none⟩)) fr rfl (by kernel_rfl) rfl rfl (by first | decide | simp) (fun _ _ _ h => h) (fun _ ⟨hL, H8, OW, _⟩ => x_fieldAddr fo49_0 rfl (fr.ev rfl) rfl) ⟨hL, H8, OW, trivial⟩ ?_
      clear fr a; intro a fr
      refine fx_take (i := 9) (v := .int .i64 ((l.getD i hact0).cache)) fr rfl (by kernel_rfl) rfl rfl (by first | decide | simp) (fun _ _ _ h => h) (fun _ ⟨hL, H8, OW, _⟩ => x_load1 pl3 rfl (fr.ev rfl) (range_cell ((hL).elem hA32 i hact0 (by first | omega | decide)) 0 rfl rfl)) ⟨hL, H8, OW, trivial⟩ ?_
      clear fr a; intro a fr
      refine fx_take (i := 11) (v := .slice C l.length cc) fr rfl (by kernel_rfl) rfl rfl (by first | decide | simp) (fun _ _ _ h => h) (fun _ ⟨hL, H8, OW, _⟩ => x_move rfl (fr.ev rfl)) ⟨hL, H8, OW, trivial⟩ ?_
      clear fr a; intro a fr
      refine fx_take (i := 12) (v := .int .i64 ((i : Nat) : Int)) fr rfl (by kernel_rfl) rfl rfl (by first | decide | simp) (fun _ _ _ h => h) (fun _ ⟨hL, H8, OW, _⟩ => x_move rfl (fr.ev rfl)) ⟨hL, H8, OW, trivial⟩ ?_
      clear fr a; intro a fr
      refine fx_take (i := 13) (v := .pointer (some ⟨g30, o31 + i * 4, none⟩)) fr rfl (by kernel_rfl) rfl rfl (by first | decide | simp) (fun _ _ _ h => h) (fun _ ⟨hL, H8, OW, _⟩ => x_indexV Try.underlying47 sz49 rfl (fr.ev rfl) hA32 (fr.ev rfl) (by first | omega | decide) rfl) ⟨hL, H8, OW, trivial⟩ ?_
      clear fr a; intro a fr
      refine fx_take (i := 14) (v := .pointer (some ⟨g30, o31 + i * 4 + 1, none⟩)) fr rfl (by kernel_rfl) rfl rfl (by first | decide | simp) (fun _ _ _ h => h) (fun _ ⟨hL, H8, OW, _⟩ => x_fieldAddr fo49_1 rfl (fr.ev rfl) rfl) ⟨hL, H8, OW, trivial⟩ ?_
      clear fr a; intro a fr
      refine fx_take (i := 15) (v := .int .i64 ((l.getD i hact0).line)) fr rfl (by kernel_rfl) rfl rfl (by first | decide | simp) (fun _ _ _ h => h) (fun _ ⟨hL, H8, OW, _⟩ => x_load1 pl3 rfl (fr.ev rfl) (range_cell ((hL).elem hA32 i hact0 (by first | omega | decide)) 1 rfl rfl)) ⟨hL, H8, OW, trivial⟩ ?_
      clear fr a; intro a fr
      refine fx_take (i := 16) (v := .pointer (some ⟨hb1, 0, none⟩)) fr rfl (by kernel_rfl) rfl rfl (by first | decide | simp) (fun _ _ _ h => h) (fun _ ⟨hL, H8, OW, _⟩ => x_move rfl (fr.ev rfl)) ⟨hL, H8, OW, trivial⟩ ?_
      clear fr a; intro a fr
      refine fx_two (i := 10) (j := 21) (by kernel_rfl) (fx_op rfl ?_) (fx_op rfl ?_)
      · skip
        refine fx_call fr rfl rfl (by first | decide | simp) (x_call (vs := [.int .i64 ((l.getD i hact0).cache), .int .i64 4]) rfl rfl ⟨(fr.ev rfl), rfl, trivial⟩ Try.func15 nm15 rfl) (mod_p ((l.getD i hact0).cache) 4 (by omega) (by omega) _) ?_
        clear fr a
        rintro v w9 ⟨rfl, hw9⟩ a fr
        obtain rfl := hw9.symm
        refine wpList_nil ?_
        refine ⟨⟨hL, H8, OW, trivial⟩, ?_⟩
        refine fx_two (i := 17) (j := 21) (by kernel_rfl) (fx_op rfl ?_) (fx_op rfl ?_)
        · skip
          refine fx_call fr rfl rfl (by first | decide | simp) (x_call (vs := [.pointer (some ⟨hb1, 0, none⟩)]) rfl rfl ⟨(fr.ev rfl), trivial⟩ Try.func10 nm10 rfl) (lines_h H8) ?_
          clear fr a
          rintro v w9 ⟨rfl, hw9⟩ a fr
          obtain rfl := hw9.symm
          refine wpList_nil ?_
          refine ⟨⟨hL, H8, OW, trivial⟩, ?_⟩
          refine fx_two (i := 18) (j := 21) (by kernel_rfl) (fx_op rfl ?_) (fx_op rfl ?_)
          · skip
            refine fx_call fr rfl rfl (by first | decide | simp) (x_call (vs := [.int .i64 ((l.getD i hact0).line), .int .i64 (((home0 bs).E.length : Nat) : Int)]) rfl rfl ⟨(fr.ev rfl), (fr.ev rfl), trivial⟩ Try.func15 nm15 rfl) (mod_p ((l.getD i hact0).line) ((home0 bs).E.length) (by omega) (by omega) _) ?_
            clear fr a
            rintro v w9 ⟨rfl, hw9⟩ a fr
            obtain rfl := hw9.symm
            refine wpList_nil ?_
            refine ⟨⟨hL, H8, OW, trivial⟩, ?_⟩
            refine fx_take (i := 19) (v := .int .u32 ((k : Nat) : Int)) fr rfl (by kernel_rfl) rfl rfl (by first | decide | simp) (fun _ _ _ h => h) (fun _ ⟨hL, H8, OW, _⟩ => x_convert Try.underlying3 Try.underlying24 rfl (fr.ev rfl) (u32w (r := ((k : Nat) : Int)) hk (by omega))) ⟨hL, H8, OW, trivial⟩ ?_
            clear fr a; intro a fr
            refine fx_take (i := 20) (v := .agg (msgE.arr (mkM ((l.getD i hact0).kind) (modF ((l.getD i hact0).cache) 4) 4 ((k : Nat) : Int) b16z (by first | decide | omega)))) fr rfl (by kernel_rfl) rfl rfl (by first | decide | simp) (fun _ _ _ h => h) (fun _ ⟨hL, H8, OW, _⟩ => x_build (cells := msgE.arr (mkM ((l.getD i hact0).kind) (modF ((l.getD i hact0).cache) 4) 4 ((k : Nat) : Int) b16z (by first | decide | omega))) rfl (by simp only [List.map_toArray, List.map_cons, List.map_nil, show a.eval (.tmp 46) = .int .i64 ((l.getD i hact0).kind) from fr.ev rfl, show a.eval (.tmp 52) = .int .i64 (modF ((l.getD i hact0).cache) 4) from fr.ev rfl, show a.eval (.tmp 61) = .int .u32 ((k : Nat) : Int) from fr.ev rfl]; kernel_rfl)) ⟨hL, H8, OW, trivial⟩ ?_
            clear fr a; intro a fr
            refine fx_one (i := 21) (by kernel_rfl) (fx_op rfl ?_)
            refine fx_new fr rfl rfl (by first | decide | simp) (x_alloc (z := .agg (#[.int .i64 0, .int .i64 0, .int .i64 0, .int .u32 0, .int .u8 0, .int .u8 0, .int .u8 0, .int .u8 0, .int .u8 0, .int .u8 0, .int .u8 0, .int .u8 0, .int .u8 0, .int .u8 0, .int .u8 0, .int .u8 0, .int .u8 0, .int .u8 0, .int .u8 0, .int .u8 0])) (cs := msgE.arr msg0) rfl (by kernel_rfl) rfl) ?_
            clear fr a
            intro b39 w40 hN41 B42 hb43 a fr
            have ap_C_b39 : Apart C b39 := hL.apart hb43
            have ap_Fp2_b39 : ¬ Fp2 b39 := H8.apart hb43
            have ap_W_b39 : Apart W b39 := OW.apart hb43
            have g_b39 := Nat.le_trans hF.size hb43
            replace hL := hL.new hN41
            replace H8 := H8.new hN41
            replace OW := OW.new hN41
            replace hF := hF.trNew hN41
            refine wpList_nil ?_
            refine ⟨⟨hL, H8, OW, trivial⟩, ?_⟩
            refine fx_hdone (by kernel_rfl) ?_
            refine fx_tail ?_
            refine fx_storeS sz36 rfl rfl rfl (fr.ev rfl) (fr.ev rfl) (msgE.all _) B42 (msgE.size _) (msgE.size _) fun w44 hO45 hBq => ?_
            replace hL := hL.only hO45 (Apart.ne1 ap_C_b39)
            replace H8 := H8.only hO45 (ne1P ap_Fp2_b39)
            replace OW := OW.only hO45 (Apart.ne1 ap_W_b39)
            replace hF := hF.loc hO45 (.inr g_b39)
            replace B42 := hBq
            clear hBq
            refine wpList_nil ?_
            refine fx_next ?_
            refine wp_seq ?_
            refine wp_region_lit ?_  -- region 10
            refine fx_val (v := .pointer (some ⟨b39, 0, none⟩)) fr rfl rfl (by first | decide | simp) (x_fieldAddr fo36_0 rfl (fr.ev rfl) rfl) ?_
            clear fr a; intro a fr
            refine fx_val (v := .int .i64 ((mkM ((l.getD i hact0).kind) (modF ((l.getD i hact0).cache) 4) 4 ((k : Nat) : Int) b16z (by first | decide | omega)).kind)) fr rfl rfl (by first | decide | simp) (x_load1 pl33 rfl (fr.ev rfl) (B42.cell 0 rfl)) ?_
            clear fr a; intro a fr
            refine fx_val (v := .bool (decide ((mkM ((l.getD i hact0).kind) (modF ((l.getD i hact0).cache) 4) 4 ((k : Nat) : Int) b16z (by first | decide | omega)).kind = 1))) fr rfl rfl (by first | decide | simp) (x_eql rfl (fr.ev rfl) rfl rfl) ?_
            clear fr a; intro a fr
            refine fx_val (v := .bool (decide ((mkM ((l.getD i hact0).kind) (modF ((l.getD i hact0).cache) 4) 4 ((k : Nat) : Int) b16z (by first | decide | omega)).kind = 1))) fr rfl rfl (by first | decide | simp) (x_move rfl (fr.ev rfl)) ?_
            clear fr a; intro a fr
            refine fx_may (g := !(decide ((mkM ((l.getD i hact0).kind) (modF ((l.getD i hact0).cache) 4) 4 ((k : Nat) : Int) b16z (by first | decide | omega)).kind = 1))) (v := .pointer (some ⟨b39, 0, none⟩)) fr rfl rfl rfl (by simp) rfl (by first | decide | simp) (fun hg => x_fieldAddr fo36_0 rfl (fr.ev rfl) rfl) ?_
            clear fr a; intro a fr
            refine fx_may (g := !(decide ((mkM ((l.getD i hact0).kind) (modF ((l.getD i hact0).cache) 4) 4 ((k : Nat) : Int) b16z (by first | decide | omega)).kind = 1))) (v := .int .i64 ((mkM ((l.getD i hact0).kind) (modF ((l.getD i hact0).cache) 4) 4 ((k : Nat) : Int) b16z (by first | decide | omega)).kind)) fr rfl rfl rfl (by simp) rfl (by first | decide | simp) (fun hg => x_load1 pl33 rfl ((fr.ev rfl).trans (onlyIf_t hg)) (B42.cell 0 rfl)) ?_
            clear fr a; intro a fr
            refine fx_may (g := !(decide ((mkM ((l.getD i hact0).kind) (modF ((l.getD i hact0).cache) 4) 4 ((k : Nat) : Int) b16z (by first | decide | omega)).kind = 1))) (v := .bool (decide ((mkM ((l.getD i hact0).kind) (modF ((l.getD i hact0).cache) 4) 4 ((k : Nat) : Int) b16z (by first | decide | omega)).kind = 2))) fr rfl rfl rfl (by simp) rfl (by first | decide | simp) (fun hg => x_eql rfl ((fr.ev rfl).trans (onlyIf_t hg)) rfl rfl) ?_
            clear fr a; intro a fr
            refine fx_val (v := .bool ((decide ((mkM ((l.getD i hact0).kind) (modF ((l.getD i hact0).cache) 4) 4 ((k : Nat) : Int) b16z (by first | decide | omega)).kind = 1)) || (decide ((mkM ((l.getD i hact0).kind) (modF ((l.getD i hact0).cache) 4) 4 ((k : Nat) : Int) b16z (by first | decide | omega)).kind = 2)))) fr rfl rfl (by first | decide | simp) (x_pick_or rfl (fr.ev rfl) (fun _ => rfl) (fun hb => ((fr.ev rfl)).trans (onlyIf_t (by simp_all))) rfl) ?_
            clear fr a; intro a fr
            refine fx_val (v := .bool ((decide ((mkM ((l.getD i hact0).kind) (modF ((l.getD i hact0).cache) 4) 4 ((k : Nat) : Int) b16z (by first | decide | omega)).kind = 1)) || (decide ((mkM ((l.getD i hact0).kind) (modF ((l.getD i hact0).cache) 4) 4 ((k : Nat) : Int) b16z (by first | decide | omega)).kind = 2)))) fr rfl rfl (by first | decide | simp) (x_move rfl (fr.ev rfl)) ?_
            clear fr a; intro a fr
            refine fx_may (g := !((decide ((mkM ((l.getD i hact0).kind) (modF ((l.getD i hact0).cache) 4) 4 ((k : Nat) : Int) b16z (by first | decide | omega)).kind = 1)) || (decide ((mkM ((l.getD i hact0).kind) (modF ((l.getD i hact0).cache) 4) 4 ((k : Nat) : Int) b16z (by first | decide | omega)).kind = 2)))) (v := .pointer (some ⟨b39, 0, none⟩)) fr rfl rfl rfl (by simp) rfl (by first | decide | simp) (fun hg => x_fieldAddr fo36_0 rfl (fr.ev rfl) rfl) ?_
            clear fr a; intro a fr
            refine fx_may (g := !((decide ((mkM ((l.getD i hact0).kind) (modF ((l.getD i hact0).cache) 4) 4 ((k : Nat) : Int) b16z (by first | decide | omega)).kind = 1)) || (decide ((mkM ((l.getD i hact0).kind) (modF ((l.getD i hact0).cache) 4) 4 ((k : Nat) : Int) b16z (by first | decide | omega)).kind = 2)))) (v := .int .i64 ((mkM ((l.getD i hact0).kind) (modF ((l.getD i hact0).cache) 4) 4 ((k : Nat) : Int) b16z (by first | decide | omega)).kind)) fr rfl rfl rfl (by simp) rfl (by first | decide | simp) (fun hg => x_load1 pl33 rfl ((fr.ev rfl).trans (onlyIf_t hg)) (B42.cell 0 rfl)) ?_
            clear fr a; intro a fr
            refine fx_may (g := !((decide ((mkM ((l.getD i hact0).kind) (modF ((l.getD i hact0).cache) 4) 4 ((k : Nat) : Int) b16z (by first | decide | omega)).kind = 1)) || (decide ((mkM ((l.getD i hact0).kind) (modF ((l.getD i hact0).cache) 4) 4 ((k : Nat) : Int) b16z (by first | decide | omega)).kind = 2)))) (v := .bool (decide ((mkM ((l.getD i hact0).kind) (modF ((l.getD i hact0).cache) 4) 4 ((k : Nat) : Int) b16z (by first | decide | omega)).kind = 3))) fr rfl rfl rfl (by simp) rfl (by first | decide | simp) (fun hg => x_eql rfl ((fr.ev rfl).trans (onlyIf_t hg)) rfl rfl) ?_
            clear fr a; intro a fr
            refine fx_val (v := .bool (((decide ((mkM ((l.getD i hact0).kind) (modF ((l.getD i hact0).cache) 4) 4 ((k : Nat) : Int) b16z (by first | decide | omega)).kind = 1)) || (decide ((mkM ((l.getD i hact0).kind) (modF ((l.getD i hact0).cache) 4) 4 ((k : Nat) : Int) b16z (by first | decide | omega)).kind = 2))) || (decide ((mkM ((l.getD i hact0).kind) (modF ((l.getD i hact0).cache) 4) 4 ((k : Nat) : Int) b16z (by first | decide | omega)).kind = 3)))) fr rfl rfl (by first | decide | simp) (x_pick_or rfl (fr.ev rfl) (fun _ => rfl) (fun hb => ((fr.ev rfl)).trans (onlyIf_t (by simp_all))) rfl) ?_
            clear fr a; intro a fr
            refine wpList_nil ?_
            refine fx_next ?_
            refine fx_cond fr rfl (fun hc46 => ?_) (fun hc46 => ?_)
            · skip
              have hc46s := hc46
              try simp at hc46s
              refine wp_seq ?_
              refine wp_region_lit ?_  -- region 11
              refine fx_val (v := .slice W wy0.length wc) fr rfl rfl (by first | decide | simp) (x_move rfl (fr.ev rfl)) ?_
              clear fr a; intro a fr
              refine fx_val (v := .agg (msgE.arr (mkM ((l.getD i hact0).kind) (modF ((l.getD i hact0).cache) 4) 4 ((k : Nat) : Int) b16z (by first | decide | omega)))) fr rfl rfl (by first | decide | simp) (x_loadE (E := msgE) ag36 rfl rfl (fr.ev rfl) (B42.rangeE msgE)) ?_
              clear fr a; intro a fr
              refine fx_build1 (E := msgE) (p := (mkM ((l.getD i hact0).kind) (modF ((l.getD i hact0).cache) 4) 4 ((k : Nat) : Int) b16z (by first | decide | omega))) elMsg (by decide) fr rfl rfl (by decide) rfl (fr.ev rfl) ?_
              clear fr a
              intro A47 w48 hN49 O50 hA51 a fr
              have ap2_C_A47 : Apart2 C A47 := (new_apart2 hA51 fun _ hg => hL.lt hg).symm
              have ap2_Fp2_A47 : ∀ k, Fp2 k → inA A47 k → False := symP (new_apart2P hA51 fun _ hg => H8.lt hg)
              have ap2_W_A47 : Apart2 W A47 := (new_apart2 hA51 fun _ hg => OW.lt hg).symm
              have ap_A47_b39 : Apart A47 b39 := new_apart hA51 B42.lt
              have gA_A47 := gA_new hF hA51
              have gN_A47 := fun g (hg : inA A47 g) => Nat.le_trans hF.size (hA51 g hg)
              replace hL := hL.new hN49
              replace H8 := H8.new hN49
              replace OW := OW.new hN49
              replace B42 := B42.new hN49
              replace hF := hF.trNew hN49
              refine fx_append (E := msgE) (l := wy0) (l' := [(mkM ((l.getD i hact0).kind) (modF ((l.getD i hact0).cache) 4) 4 ((k : Nat) : Int) b16z (by first | decide | omega))]) elMsg fr rfl rfl (by decide) rfl (fr.ev rfl) (fr.ev rfl) (by first | rfl | (simp; done) | (simp; omega)) (by first | rfl | (simp; done) | (simp; omega)) OW O50.view (by first | omega | (simp only [List.length_append, List.length_cons, List.length_nil, List.length_take, List.length_drop]; omega) | (simp; omega)) (by first | (unfold maxLen; done) | (unfold maxLen; first | omega | (simp only [List.length_append, List.length_cons, List.length_nil]; omega) | (simp; done) | (simp; omega))) ?_
              clear fr a
              intro A52 cap53 w54 O55 hO56 mv57 a fr
              have ap2_A52_C : Apart2 A52 C := moved_apart2 mv57 ap2_C_W.symm fun _ hg => hL.lt hg
              have ap2_A52_Fp2 : ∀ k, inA A52 k → Fp2 k → False := moved_apart2P mv57 (symP ap2_Fp2_W) fun _ hg => H8.lt hg
              have ap_A52_b39 : Apart A52 b39 := moved_apart mv57 ap_W_b39 B42.lt
              have ap2_A52_A47 : Apart2 A52 A47 := moved_apart2 mv57 ap2_W_A47 fun _ hg => O50.lt hg
              have gA_A52 := gA_moved hF mv57 gA_W
              replace hL := hL.only hO56 (fun g h1 h2 => ap2_C_W g h1 h2)
              replace H8 := H8.only hO56 (fun g h1 h2 => ap2_Fp2_W g h1 h2)
              replace B42 := B42.only hO56 ap_W_b39
              replace O50 := O50.only hO56 (fun g h1 h2 => ap2_W_A47.symm g h1 h2)
              replace hF := hF.locA hO56 gA_W
              clear OW
              refine fx_val (v := .slice A52 ((wy0 ++ ([(mkM ((l.getD i hact0).kind) (modF ((l.getD i hact0).cache) 4) 4 ((k : Nat) : Int) b16z (by first | decide | omega))])).length) cap53) fr rfl rfl (by first | decide | simp) (x_assign rfl (fr.ev rfl)) ?_
              clear fr a; intro a fr
              refine wpList_nil ?_
              refine fx_next ?_
              refine wp_region_lit ?_  -- region 12
              refine fx_val (v := .int .i64 ((ask : Nat) : Int)) fr rfl rfl (by first | decide | simp) (x_move rfl (fr.ev rfl)) ?_
              clear fr a; intro a fr
              refine fx_val (v := .int .i64 ((ask + 1 : Nat) : Int)) fr rfl rfl (by first | decide | simp) (x_add rfl (fr.ev rfl) rfl (i64w (r := ((ask + 1 : Nat) : Int)) (by omega) (by omega))) ?_
              clear fr a; intro a fr
              refine fx_val (v := .int .i64 ((ask + 1 : Nat) : Int)) fr rfl rfl (by first | decide | simp) (x_assign rfl (fr.ev rfl)) ?_
              clear fr a; intro a fr
              refine wpList_nil ?_
              refine fx_blk ?_
              refine fx_next ?_
              refine wp_region_lit ?_  -- region 8
              refine fx_val (v := .int .i64 ((i : Nat) : Int)) fr rfl rfl (by first | decide | simp) (x_move rfl (fr.ev rfl)) ?_
              clear fr a; intro a fr
              refine fx_val (v := .int .i64 ((i + 1 : Nat) : Int)) fr rfl rfl (by first | decide | simp) (x_add rfl (fr.ev rfl) rfl (i64w (r := ((i + 1 : Nat) : Int)) (by omega) (by omega))) ?_
              clear fr a; intro a fr
              refine fx_val (v := .int .i64 ((i + 1 : Nat) : Int)) fr rfl rfl (by first | decide | simp) (x_assign rfl (fr.ev rfl)) ?_
              clear fr a; intro a fr
              refine wpList_nil ?_
              refine fx_next ?_
              have hknd : 1 ≤ (l.getD i hact0).kind ∧ (l.getD i hact0).kind ≤ 3 := by have h9 := hc46; simp only [Bool.or_eq_true, decide_eq_true_eq] at h9; change ((l.getD i hact0).kind = 1 ∨ (l.getD i hact0).kind = 2) ∨ (l.getD i hact0).kind = 3 at h9; omega
              have hgood2 : ∀ m ∈ wy0 ++ ([(mkM ((l.getD i hact0).kind) (modF ((l.getD i hact0).cache) 4) 4 ((k : Nat) : Int) b16z (by first | decide | omega))]), Good (bs.length / 16) m ∧ 1 ≤ m.kind ∧ m.kind ≤ 3 := by
                intro m hm
                rcases List.mem_append.1 hm with h | h
                · exact hgood m h
                · simp only [List.mem_cons, List.mem_nil_iff, or_false] at h
                  subst h
                  exact ⟨⟨(by show ((k : Nat) : Int).toNat < _; omega), .inl ⟨hknd, rfl, (by show 0 ≤ modF (l.getD i hact0).cache 4 ∧ modF (l.getD i hact0).cache 4 < 4; omega), .inr rfl⟩⟩, hknd⟩
              exact ⟨_, by omega, (i + 1), A52, cap53, (wy0 ++ ([(mkM ((l.getD i hact0).kind) (modF ((l.getD i hact0).cache) 4) 4 ((k : Nat) : Int) b16z (by first | decide | omega))])), (ask + 1), rfl, fr.sub ⟨rfl, rfl, rfl, rfl, rfl, rfl, rfl, rfl, trivial⟩, hF, hL, H8, O55, by omega, hgood2, by omega, (by rw [List.length_append, List.length_cons, List.length_nil]; omega), ap2_A52_C.symm, (symP ap2_A52_Fp2), gA_A52⟩
            · skip
              have hc46s := hc46
              try simp at hc46s
              refine wp_skip ?_
              refine fx_blk ?_
              refine fx_next ?_
              refine wp_region_lit ?_  -- region 8
              refine fx_val (v := .int .i64 ((i : Nat) : Int)) fr rfl rfl (by first | decide | simp) (x_move rfl (fr.ev rfl)) ?_
              clear fr a; intro a fr
              refine fx_val (v := .int .i64 ((i + 1 : Nat) : Int)) fr rfl rfl (by first | decide | simp) (x_add rfl (fr.ev rfl) rfl (i64w (r := ((i + 1 : Nat) : Int)) (by omega) (by omega))) ?_
              clear fr a; intro a fr
              refine fx_val (v := .int .i64 ((i + 1 : Nat) : Int)) fr rfl rfl (by first | decide | simp) (x_assign rfl (fr.ev rfl)) ?_
              clear fr a; intro a fr
              refine wpList_nil ?_
              refine fx_next ?_
              exact ⟨_, by omega, (i + 1), W, wc, wy0, ask, rfl, fr.sub ⟨rfl, rfl, rfl, rfl, rfl, rfl, rfl, rfl, trivial⟩, hF, hL, H8, OW, by omega, hgood, by omega, by omega, ap2_C_W, ap2_Fp2_W, gA_W⟩
          · skip
            refine fx_new fr rfl rfl (by first | decide | simp) (x_alloc (z := .agg (#[.int .i64 0, .int .i64 0, .int .i64 0, .int .u32 0, .int .u8 0, .int .u8 0, .int .u8 0, .int .u8 0, .int .u8 0, .int .u8 0, .int .u8 0, .int .u8 0, .int .u8 0, .int .u8 0, .int .u8 0, .int .u8 0, .int .u8 0, .int .u8 0, .int .u8 0, .int .u8 0])) (cs := msgE.arr msg0) rfl (by kernel_rfl) rfl) ?_
            clear fr a
            intro b58 w59 hN60 B61 hb62 a fr
            have ap_C_b58 : Apart C b58 := hL.apart hb62
            have ap_Fp2_b58 : ¬ Fp2 b58 := H8.apart hb62
            have ap_W_b58 : Apart W b58 := OW.apart hb62
            have g_b58 := Nat.le_trans hF.size hb62
            replace hL := hL.new hN60
            replace H8 := H8.new hN60
            replace OW := OW.new hN60
            replace hF := hF.trNew hN60
            refine wpList_nil ?_
            refine ⟨⟨hL, H8, OW, trivial⟩, ?_⟩
            refine fx_one (i := 18) (by kernel_rfl) (fx_op rfl ?_)
            refine fx_call fr rfl rfl (by first | decide | simp) (x_call (vs := [.int .i64 ((l.getD i hact0).line), .int .i64 (((home0 bs).E.length : Nat) : Int)]) rfl rfl ⟨(fr.ev rfl), (fr.ev rfl), trivial⟩ Try.func15 nm15 rfl) (mod_p ((l.getD i hact0).line) ((home0 bs).E.length) (by omega) (by omega) _) ?_
            clear fr a
            rintro v w9 ⟨rfl, hw9⟩ a fr
            obtain rfl := hw9.symm
            refine wpList_nil ?_
            refine ⟨⟨hL, H8, OW, trivial⟩, ?_⟩
            refine fx_take (i := 19) (v := .int .u32 ((k : Nat) : Int)) fr rfl (by kernel_rfl) rfl rfl (by first | decide | simp) (fun _ _ _ h => h) (fun _ ⟨hL, H8, OW, _⟩ => x_convert Try.underlying3 Try.underlying24 rfl (fr.ev rfl) (u32w (r := ((k : Nat) : Int)) hk (by omega))) ⟨hL, H8, OW, trivial⟩ ?_
            clear fr a; intro a fr
            refine fx_take (i := 20) (v := .agg (msgE.arr (mkM ((l.getD i hact0).kind) (modF ((l.getD i hact0).cache) 4) 4 ((k : Nat) : Int) b16z (by first | decide | omega)))) fr rfl (by kernel_rfl) rfl rfl (by first | decide | simp) (fun _ _ _ h => h) (fun _ ⟨hL, H8, OW, _⟩ => x_build (cells := msgE.arr (mkM ((l.getD i hact0).kind) (modF ((l.getD i hact0).cache) 4) 4 ((k : Nat) : Int) b16z (by first | decide | omega))) rfl (by simp only [List.map_toArray, List.map_cons, List.map_nil, show a.eval (.tmp 46) = .int .i64 ((l.getD i hact0).kind) from fr.ev rfl, show a.eval (.tmp 52) = .int .i64 (modF ((l.getD i hact0).cache) 4) from fr.ev rfl, show a.eval (.tmp 61) = .int .u32 ((k : Nat) : Int) from fr.ev rfl]; kernel_rfl)) ⟨hL, H8, OW, trivial⟩ ?_
            clear fr a; intro a fr
            refine fx_hdone (by kernel_rfl) ?_
            refine fx_tail ?_
            refine fx_storeS sz36 rfl rfl rfl (fr.ev rfl) (fr.ev rfl) (msgE.all _) B61 (msgE.size _) (msgE.size _) fun w65 hO66 hBq => ?_
            replace hL := hL.only hO66 (Apart.ne1 ap_C_b58)
            replace H8 := H8.only hO66 (ne1P ap_Fp2_b58)
            replace OW := OW.only hO66 (Apart.ne1 ap_W_b58)
            replace hF := hF.loc hO66 (.inr g_b58)
            replace B61 := hBq
            clear hBq
            refine wpList_nil ?_
            refine fx_next ?_
            refine wp_seq ?_
            refine wp_region_lit ?_  -- region 10
            refine fx_val (v := .pointer (some ⟨b58, 0, none⟩)) fr rfl rfl (by first | decide | simp) (x_fieldAddr fo36_0 rfl (fr.ev rfl) rfl) ?_
            clear fr a; intro a fr
            refine fx_val (v := .int .i64 ((mkM ((l.getD i hact0).kind) (modF ((l.getD i hact0).cache) 4) 4 ((k : Nat) : Int) b16z (by first | decide | omega)).kind)) fr rfl rfl (by first | decide | simp) (x_load1 pl33 rfl (fr.ev rfl) (B61.cell 0 rfl)) ?_
            clear fr a; intro a fr
            refine fx_val (v := .bool (decide ((mkM ((l.getD i hact0).kind) (modF ((l.getD i hact0).cache) 4) 4 ((k : Nat) : Int) b16z (by first | decide | omega)).kind = 1))) fr rfl rfl (by first | decide | simp) (x_eql rfl (fr.ev rfl) rfl rfl) ?_
            clear fr a; intro a fr
            refine fx_val (v := .bool (decide ((mkM ((l.getD i hact0).kind) (modF ((l.getD i hact0).cache) 4) 4 ((k : Nat) : Int) b16z (by first | decide | omega)).kind = 1))) fr rfl rfl (by first | decide | simp) (x_move rfl (fr.ev rfl)) ?_
            clear fr a; intro a fr
            refine fx_may (g := !(decide ((mkM ((l.getD i hact0).kind) (modF ((l.getD i hact0).cache) 4) 4 ((k : Nat) : Int) b16z (by first | decide | omega)).kind = 1))) (v := .pointer (some ⟨b58, 0, none⟩)) fr rfl rfl rfl (by simp) rfl (by first | decide | simp) (fun hg => x_fieldAddr fo36_0 rfl (fr.ev rfl) rfl) ?_
            clear fr a; intro a fr
            refine fx_may (g := !(decide ((mkM ((l.getD i hact0).kind) (modF ((l.getD i hact0).cache) 4) 4 ((k : Nat) : Int) b16z (by first | decide | omega)).kind = 1))) (v := .int .i64 ((mkM ((l.getD i hact0).kind) (modF ((l.getD i hact0).cache) 4) 4 ((k : Nat) : Int) b16z (by first | decide | omega)).kind)) fr rfl rfl rfl (by simp) rfl (by first | decide | simp) (fun hg => x_load1 pl33 rfl ((fr.ev rfl).trans (onlyIf_t hg)) (B61.cell 0 rfl)) ?_
            clear fr a; intro a fr
            refine fx_may (g := !(decide ((mkM ((l.getD i hact0).kind) (modF ((l.getD i hact0).cache) 4) 4 ((k : Nat) : Int) b16z (by first | decide | omega)).kind = 1))) (v := .bool (decide ((mkM ((l.getD i hact0).kind) (modF ((l.getD i hact0).cache) 4) 4 ((k : Nat) : Int) b16z (by first | decide | omega)).kind = 2))) fr rfl rfl rfl (by simp) rfl (by first | decide | simp) (fun hg => x_eql rfl ((fr.ev rfl).trans (onlyIf_t hg)) rfl rfl) ?_
            clear fr a; intro a fr
            refine fx_val (v := .bool ((decide ((mkM ((l.getD i hact0).kind) (modF ((l.getD i hact0).cache) 4) 4 ((k : Nat) : Int) b16z (by first | decide | omega)).kind = 1)) || (decide ((mkM ((l.getD i hact0).kind) (modF ((l.getD i hact0).cache) 4) 4 ((k : Nat) : Int) b16z (by first | decide | omega)).kind = 2)))) fr rfl rfl (by first | decide | simp) (x_pick_or rfl (fr.ev rfl) (fun _ => rfl) (fun hb => ((fr.ev rfl)).trans (onlyIf_t (by simp_all))) rfl) ?_
            clear fr a; intro a fr
            refine fx_val (v := .bool ((decide ((mkM ((l.getD i hact0).kind) (modF ((l.getD i hact0).cache) 4) 4 ((k : Nat) : Int) b16z (by first | decide | omega)).kind = 1)) || (decide ((mkM ((l.getD i hact0).kind) (modF ((l.getD i hact0).cache) 4) 4 ((k : Nat) : Int) b16z (by first | decide | omega)).kind = 2)))) fr rfl rfl (by first | decide | simp) (x_move rfl (fr.ev rfl)) ?_
            clear fr a; intro a fr
            refine fx_may (g := !((decide ((mkM ((l.getD i hact0).kind) (modF ((l.getD i hact0).cache) 4) 4 ((k : Nat) : Int) b16z (by first | decide | omega)).kind = 1)) || (decide ((mkM ((l.getD i hact0).kind) (modF ((l.getD i hact0).cache) 4) 4 ((k : Nat) : Int) b16z (by first | decide | omega)).kind = 2)))) (v := .pointer (some ⟨b58, 0, none⟩)) fr rfl rfl rfl (by simp) rfl (by first | decide | simp) (fun hg => x_fieldAddr fo36_0 rfl (fr.ev rfl) rfl) ?_
            clear fr a; intro a fr
            refine fx_may (g := !((decide ((mkM ((l.getD i hact0).kind) (modF ((l.getD i hact0).cache) 4) 4 ((k : Nat) : Int) b16z (by first | decide | omega)).kind = 1)) || (decide ((mkM ((l.getD i hact0).kind) (modF ((l.getD i hact0).cache) 4) 4 ((k : Nat) : Int) b16z (by first | decide | omega)).kind = 2)))) (v := .int .i64 ((mkM ((l.getD i hact0).kind) (modF ((l.getD i hact0).cache) 4) 4 ((k : Nat) : Int) b16z (by first | decide | omega)).kind)) fr rfl rfl rfl (by simp) rfl (by first | decide | simp) (fun hg => x_load1 pl33 rfl ((fr.ev rfl).trans (onlyIf_t hg)) (B61.cell 0 rfl)) ?_
            clear fr a; intro a fr
            refine fx_may (g := !((decide ((mkM ((l.getD i hact0).kind) (modF ((l.getD i hact0).cache) 4) 4 ((k : Nat) : Int) b16z (by first | decide | omega)).kind = 1)) || (decide ((mkM ((l.getD i hact0).kind) (modF ((l.getD i hact0).cache) 4) 4 ((k : Nat) : Int) b16z (by first | decide | omega)).kind = 2)))) (v := .bool (decide ((mkM ((l.getD i hact0).kind) (modF ((l.getD i hact0).cache) 4) 4 ((k : Nat) : Int) b16z (by first | decide | omega)).kind = 3))) fr rfl rfl rfl (by simp) rfl (by first | decide | simp) (fun hg => x_eql rfl ((fr.ev rfl).trans (onlyIf_t hg)) rfl rfl) ?_
            clear fr a; intro a fr
            refine fx_val (v := .bool (((decide ((mkM ((l.getD i hact0).kind) (modF ((l.getD i hact0).cache) 4) 4 ((k : Nat) : Int) b16z (by first | decide | omega)).kind = 1)) || (decide ((mkM ((l.getD i hact0).kind) (modF ((l.getD i hact0).cache) 4) 4 ((k : Nat) : Int) b16z (by first | decide | omega)).kind = 2))) || (decide ((mkM ((l.getD i hact0).kind) (modF ((l.getD i hact0).cache) 4) 4 ((k : Nat) : Int) b16z (by first | decide | omega)).kind = 3)))) fr rfl rfl (by first | decide | simp) (x_pick_or rfl (fr.ev rfl) (fun _ => rfl) (fun hb => ((fr.ev rfl)).trans (onlyIf_t (by simp_all))) rfl) ?_
            clear fr a; intro a fr
            refine wpList_nil ?_
            refine fx_next ?_
            refine fx_cond fr rfl (fun hc67 => ?_) (fun hc67 => ?_)
            · skip
              have hc67s := hc67
              try simp at hc67s
              refine wp_seq ?_
              refine wp_region_lit ?_  -- region 11
              refine fx_val (v := .slice W wy0.length wc) fr rfl rfl (by first | decide | simp) (x_move rfl (fr.ev rfl)) ?_
              clear fr a; intro a fr
              refine fx_val (v := .agg (msgE.arr (mkM ((l.getD i hact0).kind) (modF ((l.getD i hact0).cache) 4) 4 ((k : Nat) : Int) b16z (by first | decide | omega)))) fr rfl rfl (by first | decide | simp) (x_loadE (E := msgE) ag36 rfl rfl (fr.ev rfl) (B61.rangeE msgE)) ?_
              clear fr a; intro a fr
              refine fx_build1 (E := msgE) (p := (mkM ((l.getD i hact0).kind) (modF ((l.getD i hact0).cache) 4) 4 ((k : Nat) : Int) b16z (by first | decide | omega))) elMsg (by decide) fr rfl rfl (by decide) rfl (fr.ev rfl) ?_
              clear fr a
              intro A68 w69 hN70 O71 hA72 a fr
              have ap2_C_A68 : Apart2 C A68 := (new_apart2 hA72 fun _ hg => hL.lt hg).symm
              have ap2_Fp2_A68 : ∀ k, Fp2 k → inA A68 k → False := symP (new_apart2P hA72 fun _ hg => H8.lt hg)
              have ap2_W_A68 : Apart2 W A68 := (new_apart2 hA72 fun _ hg => OW.lt hg).symm
              have ap_A68_b58 : Apart A68 b58 := new_apart hA72 B61.lt
              have gA_A68 := gA_new hF hA72
              have gN_A68 := fun g (hg : inA A68 g) => Nat.le_trans hF.size (hA72 g hg)
              replace hL := hL.new hN70
              replace H8 := H8.new hN70
              replace OW := OW.new hN70
              replace B61 := B61.new hN70
              replace hF := hF.trNew hN70
              refine fx_append (E := msgE) (l := wy0) (l' := [(mkM ((l.getD i hact0).kind) (modF ((l.getD i hact0).cache) 4) 4 ((k : Nat) : Int) b16z (by first | decide | omega))]) elMsg fr rfl rfl (by decide) rfl (fr.ev rfl) (fr.ev rfl) (by first | rfl | (simp; done) | (simp; omega)) (by first | rfl | (simp; done) | (simp; omega)) OW O71.view (by first | omega | (simp only [List.length_append, List.length_cons, List.length_nil, List.length_take, List.length_drop]; omega) | (simp; omega)) (by first | (unfold maxLen; done) | (unfold maxLen; first | omega | (simp only [List.length_append, List.length_cons, List.length_nil]; omega) | (simp; done) | (simp; omega))) ?_
              clear fr a
              intro A73 cap74 w75 O76 hO77 mv78 a fr
              have ap2_A73_C : Apart2 A73 C := moved_apart2 mv78 ap2_C_W.symm fun _ hg => hL.lt hg
              have ap2_A73_Fp2 : ∀ k, inA A73 k → Fp2 k → False := moved_apart2P mv78 (symP ap2_Fp2_W) fun _ hg => H8.lt hg
              have ap_A73_b58 : Apart A73 b58 := moved_apart mv78 ap_W_b58 B61.lt
              have ap2_A73_A68 : Apart2 A73 A68 := moved_apart2 mv78 ap2_W_A68 fun _ hg => O71.lt hg
              have gA_A73 := gA_moved hF mv78 gA_W
              replace hL := hL.only hO77 (fun g h1 h2 => ap2_C_W g h1 h2)
              replace H8 := H8.only hO77 (fun g h1 h2 => ap2_Fp2_W g h1 h2)
              replace B61 := B61.only hO77 ap_W_b58
              replace O71 := O71.only hO77 (fun g h1 h2 => ap2_W_A68.symm g h1 h2)
              replace hF := hF.locA hO77 gA_W
              clear OW
              refine fx_val (v := .slice A73 ((wy0 ++ ([(mkM ((l.getD i hact0).kind) (modF ((l.getD i hact0).cache) 4) 4 ((k : Nat) : Int) b16z (by first | decide | omega))])).length) cap74) fr rfl rfl (by first | decide | simp) (x_assign rfl (fr.ev rfl)) ?_
              clear fr a; intro a fr
              refine wpList_nil ?_
              refine fx_next ?_
              refine wp_region_lit ?_  -- region 12
              refine fx_val (v := .int .i64 ((ask : Nat) : Int)) fr rfl rfl (by first | decide | simp) (x_move rfl (fr.ev rfl)) ?_
              clear fr a; intro a fr
              refine fx_val (v := .int .i64 ((ask + 1 : Nat) : Int)) fr rfl rfl (by first | decide | simp) (x_add rfl (fr.ev rfl) rfl (i64w (r := ((ask + 1 : Nat) : Int)) (by omega) (by omega))) ?_
              clear fr a; intro a fr
              refine fx_val (v := .int .i64 ((ask + 1 : Nat) : Int)) fr rfl rfl (by first | decide | simp) (x_assign rfl (fr.ev rfl)) ?_
              clear fr a; intro a fr
              refine wpList_nil ?_
              refine fx_blk ?_
              refine fx_next ?_
              refine wp_region_lit ?_  -- region 8
              refine fx_val (v := .int .i64 ((i : Nat) : Int)) fr rfl rfl (by first | decide | simp) (x_move rfl (fr.ev rfl)) ?_
              clear fr a; intro a fr
              refine fx_val (v := .int .i64 ((i + 1 : Nat) : Int)) fr rfl rfl (by first | decide | simp) (x_add rfl (fr.ev rfl) rfl (i64w (r := ((i + 1 : Nat) : Int)) (by omega) (by omega))) ?_
              clear fr a; intro a fr
              refine fx_val (v := .int .i64 ((i + 1 : Nat) : Int)) fr rfl rfl (by first | decide | simp) (x_assign rfl (fr.ev rfl)) ?_
              clear fr a; intro a fr
              refine wpList_nil ?_
              refine fx_next ?_
              have hknd : 1 ≤ (l.getD i hact0).kind ∧ (l.getD i hact0).kind ≤ 3 := by have h9 := hc67; simp only [Bool.or_eq_true, decide_eq_true_eq] at h9; change ((l.getD i hact0).kind = 1 ∨ (l.getD i hact0).kind = 2) ∨ (l.getD i hact0).kind = 3 at h9; omega
              have hgood2 : ∀ m ∈ wy0 ++ ([(mkM ((l.getD i hact0).kind) (modF ((l.getD i hact0).cache) 4) 4 ((k : Nat) : Int) b16z (by first | decide | omega))]), Good (bs.length / 16) m ∧ 1 ≤ m.kind ∧ m.kind ≤ 3 := by
                intro m hm
                rcases List.mem_append.1 hm with h | h
                · exact hgood m h
                · simp only [List.mem_cons, List.mem_nil_iff, or_false] at h
                  subst h
                  exact ⟨⟨(by show ((k : Nat) : Int).toNat < _; omega), .inl ⟨hknd, rfl, (by show 0 ≤ modF (l.getD i hact0).cache 4 ∧ modF (l.getD i hact0).cache 4 < 4; omega), .inr rfl⟩⟩, hknd⟩
              exact ⟨_, by omega, (i + 1), A73, cap74, (wy0 ++ ([(mkM ((l.getD i hact0).kind) (modF ((l.getD i hact0).cache) 4) 4 ((k : Nat) : Int) b16z (by first | decide | omega))])), (ask + 1), rfl, fr.sub ⟨rfl, rfl, rfl, rfl, rfl, rfl, rfl, rfl, trivial⟩, hF, hL, H8, O76, by omega, hgood2, by omega, (by rw [List.length_append, List.length_cons, List.length_nil]; omega), ap2_A73_C.symm, (symP ap2_A73_Fp2), gA_A73⟩
            · skip
              have hc67s := hc67
              try simp at hc67s
              refine wp_skip ?_
              refine fx_blk ?_
              refine fx_next ?_
              refine wp_region_lit ?_  -- region 8
              refine fx_val (v := .int .i64 ((i : Nat) : Int)) fr rfl rfl (by first | decide | simp) (x_move rfl (fr.ev rfl)) ?_
              clear fr a; intro a fr
              refine fx_val (v := .int .i64 ((i + 1 : Nat) : Int)) fr rfl rfl (by first | decide | simp) (x_add rfl (fr.ev rfl) rfl (i64w (r := ((i + 1 : Nat) : Int)) (by omega) (by omega))) ?_
              clear fr a; intro a fr
              refine fx_val (v := .int .i64 ((i + 1 : Nat) : Int)) fr rfl rfl (by first | decide | simp) (x_assign rfl (fr.ev rfl)) ?_
              clear fr a; intro a fr
              refine wpList_nil ?_
              refine fx_next ?_
              exact ⟨_, by omega, (i + 1), W, wc, wy0, ask, rfl, fr.sub ⟨rfl, rfl, rfl, rfl, rfl, rfl, rfl, rfl, trivial⟩, hF, hL, H8, OW, by omega, hgood, by omega, by omega, ap2_C_W, ap2_Fp2_W, gA_W⟩
        · skip
          refine fx_new fr rfl rfl (by first | decide | simp) (x_alloc (z := .agg (#[.int .i64 0, .int .i64 0, .int .i64 0, .int .u32 0, .int .u8 0, .int .u8 0, .int .u8 0, .int .u8 0, .int .u8 0, .int .u8 0, .int .u8 0, .int .u8 0, .int .u8 0, .int .u8 0, .int .u8 0, .int .u8 0, .int .u8 0, .int .u8 0, .int .u8 0, .int .u8 0])) (cs := msgE.arr msg0) rfl (by kernel_rfl) rfl) ?_
          clear fr a
          intro b79 w80 hN81 B82 hb83 a fr
          have ap_C_b79 : Apart C b79 := hL.apart hb83
          have ap_Fp2_b79 : ¬ Fp2 b79 := H8.apart hb83
          have ap_W_b79 : Apart W b79 := OW.apart hb83
          have g_b79 := Nat.le_trans hF.size hb83
          replace hL := hL.new hN81
          replace H8 := H8.new hN81
          replace OW := OW.new hN81
          replace hF := hF.trNew hN81
          refine wpList_nil ?_
          refine ⟨⟨hL, H8, OW, trivial⟩, ?_⟩
          refine fx_one (i := 17) (by kernel_rfl) (fx_op rfl ?_)
          refine fx_call fr rfl rfl (by first | decide | simp) (x_call (vs := [.pointer (some ⟨hb1, 0, none⟩)]) rfl rfl ⟨(fr.ev rfl), trivial⟩ Try.func10 nm10 rfl) (lines_h H8) ?_
          clear fr a
          rintro v w9 ⟨rfl, hw9⟩ a fr
          obtain rfl := hw9.symm
          refine wpList_nil ?_
          refine ⟨⟨hL, H8, OW, trivial⟩, ?_⟩
          refine fx_one (i := 18) (by kernel_rfl) (fx_op rfl ?_)
          refine fx_call fr rfl rfl (by first | decide | simp) (x_call (vs := [.int .i64 ((l.getD i hact0).line), .int .i64 (((home0 bs).E.length : Nat) : Int)]) rfl rfl ⟨(fr.ev rfl), (fr.ev rfl), trivial⟩ Try.func15 nm15 rfl) (mod_p ((l.getD i hact0).line) ((home0 bs).E.length) (by omega) (by omega) _) ?_
          clear fr a
          rintro v w9 ⟨rfl, hw9⟩ a fr
          obtain rfl := hw9.symm
          refine wpList_nil ?_
          refine ⟨⟨hL, H8, OW, trivial⟩, ?_⟩
          refine fx_take (i := 19) (v := .int .u32 ((k : Nat) : Int)) fr rfl (by kernel_rfl) rfl rfl (by first | decide | simp) (fun _ _ _ h => h) (fun _ ⟨hL, H8, OW, _⟩ => x_convert Try.underlying3 Try.underlying24 rfl (fr.ev rfl) (u32w (r := ((k : Nat) : Int)) hk (by omega))) ⟨hL, H8, OW, trivial⟩ ?_
          clear fr a; intro a fr
          refine fx_take (i := 20) (v := .agg (msgE.arr (mkM ((l.getD i hact0).kind) (modF ((l.getD i hact0).cache) 4) 4 ((k : Nat) : Int) b16z (by first | decide | omega)))) fr rfl (by kernel_rfl) rfl rfl (by first | decide | simp) (fun _ _ _ h => h) (fun _ ⟨hL, H8, OW, _⟩ => x_build (cells := msgE.arr (mkM ((l.getD i hact0).kind) (modF ((l.getD i hact0).cache) 4) 4 ((k : Nat) : Int) b16z (by first | decide | omega))) rfl (by simp only [List.map_toArray, List.map_cons, List.map_nil, show a.eval (.tmp 46) = .int .i64 ((l.getD i hact0).kind) from fr.ev rfl, show a.eval (.tmp 52) = .int .i64 (modF ((l.getD i hact0).cache) 4) from fr.ev rfl, show a.eval (.tmp 61) = .int .u32 ((k : Nat) : Int) from fr.ev rfl]; kernel_rfl)) ⟨hL, H8, OW, trivial⟩ ?_
          clear fr a; intro a fr
          refine fx_hdone (by kernel_rfl) ?_
          refine fx_tail ?_
          refine fx_storeS sz36 rfl rfl rfl (fr.ev rfl) (fr.ev rfl) (msgE.all _) B82 (msgE.size _) (msgE.size _) fun w88 hO89 hBq => ?_
          replace hL := hL.only hO89 (Apart.ne1 ap_C_b79)
          replace H8 := H8.only hO89 (ne1P ap_Fp2_b79)
          replace OW := OW.only hO89 (Apart.ne1 ap_W_b79)
          replace hF := hF.loc hO89 (.inr g_b79)
          replace B82 := hBq
          clear hBq
          refine wpList_nil ?_
          refine fx_next ?_
          refine wp_seq ?_
          refine wp_region_lit ?_  -- region 10
          refine fx_val (v := .pointer (some ⟨b79, 0, none⟩)) fr rfl rfl (by first | decide | simp) (x_fieldAddr fo36_0 rfl (fr.ev rfl) rfl) ?_
          clear fr a; intro a fr
          refine fx_val (v := .int .i64 ((mkM ((l.getD i hact0).kind) (modF ((l.getD i hact0).cache) 4) 4 ((k : Nat) : Int) b16z (by first | decide | omega)).kind)) fr rfl rfl (by first | decide | simp) (x_load1 pl33 rfl (fr.ev rfl) (B82.cell 0 rfl)) ?_
          clear fr a; intro a fr
          refine fx_val (v := .bool (decide ((mkM ((l.getD i hact0).kind) (modF ((l.getD i hact0).cache) 4) 4 ((k : Nat) : Int) b16z (by first | decide | omega)).kind = 1))) fr rfl rfl (by first | decide | simp) (x_eql rfl (fr.ev rfl) rfl rfl) ?_
          clear fr a; intro a fr
          refine fx_val (v := .bool (decide ((mkM ((l.getD i hact0).kind) (modF ((l.getD i hact0).cache) 4) 4 ((k : Nat) : Int) b16z (by first | decide | omega)).kind = 1))) fr rfl rfl (by first | decide | simp) (x_move rfl (fr.ev rfl)) ?_
          clear fr a; intro a fr
          refine fx_may (g := !(decide ((mkM ((l.getD i hact0).kind) (modF ((l.getD i hact0).cache) 4) 4 ((k : Nat) : Int) b16z (by first | decide | omega)).kind = 1))) (v := .pointer (some ⟨b79, 0, none⟩)) fr rfl rfl rfl (by simp) rfl (by first | decide | simp) (fun hg => x_fieldAddr fo36_0 rfl (fr.ev rfl) rfl) ?_
          clear fr a; intro a fr
          refine fx_may (g := !(decide ((mkM ((l.getD i hact0).kind) (modF ((l.getD i hact0).cache) 4) 4 ((k : Nat) : Int) b16z (by first | decide | omega)).kind = 1))) (v := .int .i64 ((mkM ((l.getD i hact0).kind) (modF ((l.getD i hact0).cache) 4) 4 ((k : Nat) : Int) b16z (by first | decide | omega)).kind)) fr rfl rfl rfl (by simp) rfl (by first | decide | simp) (fun hg => x_load1 pl33 rfl ((fr.ev rfl).trans (onlyIf_t hg)) (B82.cell 0 rfl)) ?_
          clear fr a; intro a fr
          refine fx_may (g := !(decide ((mkM ((l.getD i hact0).kind) (modF ((l.getD i hact0).cache) 4) 4 ((k : Nat) : Int) b16z (by first | decide | omega)).kind = 1))) (v := .bool (decide ((mkM ((l.getD i hact0).kind) (modF ((l.getD i hact0).cache) 4) 4 ((k : Nat) : Int) b16z (by first | decide | omega)).kind = 2))) fr rfl rfl rfl (by simp) rfl (by first | decide | simp) (fun hg => x_eql rfl ((fr.ev rfl).trans (onlyIf_t hg)) rfl rfl) ?_
          clear fr a; intro a fr
          refine fx_val (v := .bool ((decide ((mkM ((l.getD i hact0).kind) (modF ((l.getD i hact0).cache) 4) 4 ((k : Nat) : Int) b16z (by first | decide | omega)).kind = 1)) || (decide ((mkM ((l.getD i hact0).kind) (modF ((l.getD i hact0).cache) 4) 4 ((k : Nat) : Int) b16z (by first | decide | omega)).kind = 2)))) fr rfl rfl (by first | decide | simp) (x_pick_or rfl (fr.ev rfl) (fun _ => rfl) (fun hb => ((fr.ev rfl)).trans (onlyIf_t (by simp_all))) rfl) ?_
          clear fr a; intro a fr
          refine fx_val (v := .bool ((decide ((mkM ((l.getD i hact0).kind) (modF ((l.getD i hact0).cache) 4) 4 ((k : Nat) : Int) b16z (by first | decide | omega)).kind = 1)) || (decide ((mkM ((l.getD i hact0).kind) (modF ((l.getD i hact0).cache) 4) 4 ((k : Nat) : Int) b16z (by first | decide | omega)).kind = 2)))) fr rfl rfl (by first | decide | simp) (x_move rfl (fr.ev rfl)) ?_
          clear fr a; intro a fr
          refine fx_may (g := !((decide ((mkM ((l.getD i hact0).kind) (modF ((l.getD i hact0).cache) 4) 4 ((k : Nat) : Int) b16z (by first | decide | omega)).kind = 1)) || (decide ((mkM ((l.getD i hact0).kind) (modF ((l.getD i hact0).cache) 4) 4 ((k : Nat) : Int) b16z (by first | decide | omega)).kind = 2)))) (v := .pointer (some ⟨b79, 0, none⟩)) fr rfl rfl rfl (by simp) rfl (by first | decide | simp) (fun hg => x_fieldAddr fo36_0 rfl (fr.ev rfl) rfl) ?_
          clear fr a; intro a fr
          refine fx_may (g := !((decide ((mkM ((l.getD i hact0).kind) (modF ((l.getD i hact0).cache) 4) 4 ((k : Nat) : Int) b16z (by first | decide | omega)).kind = 1)) || (decide ((mkM ((l.getD i hact0).kind) (modF ((l.getD i hact0).cache) 4) 4 ((k : Nat) : Int) b16z (by first | decide | omega)).kind = 2)))) (v := .int .i64 ((mkM ((l.getD i hact0).kind) (modF ((l.getD i hact0).cache) 4) 4 ((k : Nat) : Int) b16z (by first | decide | omega)).kind)) fr rfl rfl rfl (by simp) rfl (by first | decide | simp) (fun hg => x_load1 pl33 rfl ((fr.ev rfl).trans (onlyIf_t hg)) (B82.cell 0 rfl)) ?_
          clear fr a; intro a fr
          refine fx_may (g := !((decide ((mkM ((l.getD i hact0).kind) (modF ((l.getD i hact0).cache) 4) 4 ((k : Nat) : Int) b16z (by first | decide | omega)).kind = 1)) || (decide ((mkM ((l.getD i hact0).kind) (modF ((l.getD i hact0).cache) 4) 4 ((k : Nat) : Int) b16z (by first | decide | omega)).kind = 2)))) (v := .bool (decide ((mkM ((l.getD i hact0).kind) (modF ((l.getD i hact0).cache) 4) 4 ((k : Nat) : Int) b16z (by first | decide | omega)).kind = 3))) fr rfl rfl rfl (by simp) rfl (by first | decide | simp) (fun hg => x_eql rfl ((fr.ev rfl).trans (onlyIf_t hg)) rfl rfl) ?_
          clear fr a; intro a fr
          refine fx_val (v := .bool (((decide ((mkM ((l.getD i hact0).kind) (modF ((l.getD i hact0).cache) 4) 4 ((k : Nat) : Int) b16z (by first | decide | omega)).kind = 1)) || (decide ((mkM ((l.getD i hact0).kind) (modF ((l.getD i hact0).cache) 4) 4 ((k : Nat) : Int) b16z (by first | decide | omega)).kind = 2))) || (decide ((mkM ((l.getD i hact0).kind) (modF ((l.getD i hact0).cache) 4) 4 ((k : Nat) : Int) b16z (by first | decide | omega)).kind = 3)))) fr rfl rfl (by first | decide | simp) (x_pick_or rfl (fr.ev rfl) (fun _ => rfl) (fun hb => ((fr.ev rfl)).trans (onlyIf_t (by simp_all))) rfl) ?_
          clear fr a; intro a fr
          refine wpList_nil ?_
          refine fx_next ?_
          refine fx_cond fr rfl (fun hc90 => ?_) (fun hc90 => ?_)
          · skip
            have hc90s := hc90
            try simp at hc90s
            refine wp_seq ?_
            refine wp_region_lit ?_  -- region 11
            refine fx_val (v := .slice W wy0.length wc) fr rfl rfl (by first | decide | simp) (x_move rfl (fr.ev rfl)) ?_
            clear fr a; intro a fr
            refine fx_val (v := .agg (msgE.arr (mkM ((l.getD i hact0).kind) (modF ((l.getD i hact0).cache) 4) 4 ((k : Nat) : Int) b16z (by first | decide | omega)))) fr rfl rfl (by first | decide | simp) (x_loadE (E := msgE) ag36 rfl rfl (fr.ev rfl) (B82.rangeE msgE)) ?_
            clear fr a; intro a fr
            refine fx_build1 (E := msgE) (p := (mkM ((l.getD i hact0).kind) (modF ((l.getD i hact0).cache) 4) 4 ((k : Nat) : Int) b16z (by first | decide | omega))) elMsg (by decide) fr rfl rfl (by decide) rfl (fr.ev rfl) ?_
            clear fr a
            intro A91 w92 hN93 O94 hA95 a fr
            have ap2_C_A91 : Apart2 C A91 := (new_apart2 hA95 fun _ hg => hL.lt hg).symm
            have ap2_Fp2_A91 : ∀ k, Fp2 k → inA A91 k → False := symP (new_apart2P hA95 fun _ hg => H8.lt hg)
            have ap2_W_A91 : Apart2 W A91 := (new_apart2 hA95 fun _ hg => OW.lt hg).symm
            have ap_A91_b79 : Apart A91 b79 := new_apart hA95 B82.lt
            have gA_A91 := gA_new hF hA95
            have gN_A91 := fun g (hg : inA A91 g) => Nat.le_trans hF.size (hA95 g hg)
            replace hL := hL.new hN93
            replace H8 := H8.new hN93
            replace OW := OW.new hN93
            replace B82 := B82.new hN93
            replace hF := hF.trNew hN93
            refine fx_append (E := msgE) (l := wy0) (l' := [(mkM ((l.getD i hact0).kind) (modF ((l.getD i hact0).cache) 4) 4 ((k : Nat) : Int) b16z (by first | decide | omega))]) elMsg fr rfl rfl (by decide) rfl (fr.ev rfl) (fr.ev rfl) (by first | rfl | (simp; done) | (simp; omega)) (by first | rfl | (simp; done) | (simp; omega)) OW O94.view (by first | omega | (simp only [List.length_append, List.length_cons, List.length_nil, List.length_take, List.length_drop]; omega) | (simp; omega)) (by first | (unfold maxLen; done) | (unfold maxLen; first | omega | (simp only [List.length_append, List.length_cons, List.length_nil]; omega) | (simp; done) | (simp; omega))) ?_
            clear fr a
            intro A96 cap97 w98 O99 hO100 mv101 a fr
            have ap2_A96_C : Apart2 A96 C := moved_apart2 mv101 ap2_C_W.symm fun _ hg => hL.lt hg
            have ap2_A96_Fp2 : ∀ k, inA A96 k → Fp2 k → False := moved_apart2P mv101 (symP ap2_Fp2_W) fun _ hg => H8.lt hg
            have ap_A96_b79 : Apart A96 b79 := moved_apart mv101 ap_W_b79 B82.lt
            have ap2_A96_A91 : Apart2 A96 A91 := moved_apart2 mv101 ap2_W_A91 fun _ hg => O94.lt hg
            have gA_A96 := gA_moved hF mv101 gA_W
            replace hL := hL.only hO100 (fun g h1 h2 => ap2_C_W g h1 h2)
            replace H8 := H8.only hO100 (fun g h1 h2 => ap2_Fp2_W g h1 h2)
            replace B82 := B82.only hO100 ap_W_b79
            replace O94 := O94.only hO100 (fun g h1 h2 => ap2_W_A91.symm g h1 h2)
            replace hF := hF.locA hO100 gA_W
            clear OW
            refine fx_val (v := .slice A96 ((wy0 ++ ([(mkM ((l.getD i hact0).kind) (modF ((l.getD i hact0).cache) 4) 4 ((k : Nat) : Int) b16z (by first | decide | omega))])).length) cap97) fr rfl rfl (by first | decide | simp) (x_assign rfl (fr.ev rfl)) ?_
            clear fr a; intro a fr
            refine wpList_nil ?_
            refine fx_next ?_
            refine wp_region_lit ?_  -- region 12
            refine fx_val (v := .int .i64 ((ask : Nat) : Int)) fr rfl rfl (by first | decide | simp) (x_move rfl (fr.ev rfl)) ?_
            clear fr a; intro a fr
            refine fx_val (v := .int .i64 ((ask + 1 : Nat) : Int)) fr rfl rfl (by first | decide | simp) (x_add rfl (fr.ev rfl) rfl (i64w (r := ((ask + 1 : Nat) : Int)) (by omega) (by omega))) ?_
            clear fr a; intro a fr
            refine fx_val (v := .int .i64 ((ask + 1 : Nat) : Int)) fr rfl rfl (by first | decide | simp) (x_assign rfl (fr.ev rfl)) ?_
            clear fr a; intro a fr
            refine wpList_nil ?_
            refine fx_blk ?_
            refine fx_next ?_
            refine wp_region_lit ?_  -- region 8
            refine fx_val (v := .int .i64 ((i : Nat) : Int)) fr rfl rfl (by first | decide | simp) (x_move rfl (fr.ev rfl)) ?_
            clear fr a; intro a fr
            refine fx_val (v := .int .i64 ((i + 1 : Nat) : Int)) fr rfl rfl (by first | decide | simp) (x_add rfl (fr.ev rfl) rfl (i64w (r := ((i + 1 : Nat) : Int)) (by omega) (by omega))) ?_
            clear fr a; intro a fr
            refine fx_val (v := .int .i64 ((i + 1 : Nat) : Int)) fr rfl rfl (by first | decide | simp) (x_assign rfl (fr.ev rfl)) ?_
            clear fr a; intro a fr
            refine wpList_nil ?_
            refine fx_next ?_
            have hknd : 1 ≤ (l.getD i hact0).kind ∧ (l.getD i hact0).kind ≤ 3 := by have h9 := hc90; simp only [Bool.or_eq_true, decide_eq_true_eq] at h9; change ((l.getD i hact0).kind = 1 ∨ (l.getD i hact0).kind = 2) ∨ (l.getD i hact0).kind = 3 at h9; omega
            have hgood2 : ∀ m ∈ wy0 ++ ([(mkM ((l.getD i hact0).kind) (modF ((l.getD i hact0).cache) 4) 4 ((k : Nat) : Int) b16z (by first | decide | omega))]), Good (bs.length / 16) m ∧ 1 ≤ m.kind ∧ m.kind ≤ 3 := by
              intro m hm
              rcases List.mem_append.1 hm with h | h
              · exact hgood m h
              · simp only [List.mem_cons, List.mem_nil_iff, or_false] at h
                subst h
                exact ⟨⟨(by show ((k : Nat) : Int).toNat < _; omega), .inl ⟨hknd, rfl, (by show 0 ≤ modF (l.getD i hact0).cache 4 ∧ modF (l.getD i hact0).cache 4 < 4; omega), .inr rfl⟩⟩, hknd⟩
            exact ⟨_, by omega, (i + 1), A96, cap97, (wy0 ++ ([(mkM ((l.getD i hact0).kind) (modF ((l.getD i hact0).cache) 4) 4 ((k : Nat) : Int) b16z (by first | decide | omega))])), (ask + 1), rfl, fr.sub ⟨rfl, rfl, rfl, rfl, rfl, rfl, rfl, rfl, trivial⟩, hF, hL, H8, O99, by omega, hgood2, by omega, (by rw [List.length_append, List.length_cons, List.length_nil]; omega), ap2_A96_C.symm, (symP ap2_A96_Fp2), gA_A96⟩
          · skip
            have hc90s := hc90
            try simp at hc90s
            refine wp_skip ?_
            refine fx_blk ?_
            refine fx_next ?_
            refine wp_region_lit ?_  -- region 8
            refine fx_val (v := .int .i64 ((i : Nat) : Int)) fr rfl rfl (by first | decide | simp) (x_move rfl (fr.ev rfl)) ?_
            clear fr a; intro a fr
            refine fx_val (v := .int .i64 ((i + 1 : Nat) : Int)) fr rfl rfl (by first | decide | simp) (x_add rfl (fr.ev rfl) rfl (i64w (r := ((i + 1 : Nat) : Int)) (by omega) (by omega))) ?_
            clear fr a; intro a fr
            refine fx_val (v := .int .i64 ((i + 1 : Nat) : Int)) fr rfl rfl (by first | decide | simp) (x_assign rfl (fr.ev rfl)) ?_
            clear fr a; intro a fr
            refine wpList_nil ?_
            refine fx_next ?_
            exact ⟨_, by omega, (i + 1), W, wc, wy0, ask, rfl, fr.sub ⟨rfl, rfl, rfl, rfl, rfl, rfl, rfl, rfl, trivial⟩, hF, hL, H8, OW, by omega, hgood, by omega, by omega, ap2_C_W, ap2_Fp2_W, gA_W⟩
      · skip
        refine fx_new fr rfl rfl (by first | decide | simp) (x_alloc (z := .agg (#[.int .i64 0, .int .i64 0, .int .i64 0, .int .u32 0, .int .u8 0, .int .u8 0, .int .u8 0, .int .u8 0, .int .u8 0, .int .u8 0, .int .u8 0, .int .u8 0, .int .u8 0, .int .u8 0, .int .u8 0, .int .u8 0, .int .u8 0, .int .u8 0, .int .u8 0, .int .u8 0])) (cs := msgE.arr msg0) rfl (by kernel_rfl) rfl) ?_
        clear fr a
        intro b102 w103 hN104 B105 hb106 a fr
        have ap_C_b102 : Apart C b102 := hL.apart hb106
        have ap_Fp2_b102 : ¬ Fp2 b102 := H8.apart hb106
        have ap_W_b102 : Apart W b102 := OW.apart hb106
        have g_b102 := Nat.le_trans hF.size hb106
        replace hL := hL.new hN104
        replace H8 := H8.new hN104
        replace OW := OW.new hN104
        replace hF := hF.trNew hN104
        refine wpList_nil ?_
        refine ⟨⟨hL, H8, OW, trivial⟩, ?_⟩
        refine fx_one (i := 10) (by kernel_rfl) (fx_op rfl ?_)
        refine fx_call fr rfl rfl (by first | decide | simp) (x_call (vs := [.int .i64 ((l.getD i hact0).cache), .int .i64 4]) rfl rfl ⟨(fr.ev rfl), rfl, trivial⟩ Try.func15 nm15 rfl) (mod_p ((l.getD i hact0).cache) 4 (by omega) (by omega) _) ?_
        clear fr a
        rintro v w9 ⟨rfl, hw9⟩ a fr
        obtain rfl := hw9.symm
        refine wpList_nil ?_
        refine ⟨⟨hL, H8, OW, trivial⟩, ?_⟩
        refine fx_one (i := 17) (by kernel_rfl) (fx_op rfl ?_)
        refine fx_call fr rfl rfl (by first | decide | simp) (x_call (vs := [.pointer (some ⟨hb1, 0, none⟩)]) rfl rfl ⟨(fr.ev rfl), trivial⟩ Try.func10 nm10 rfl) (lines_h H8) ?_
        clear fr a
        rintro v w9 ⟨rfl, hw9⟩ a fr
        obtain rfl := hw9.symm
        refine wpList_nil ?_
        refine ⟨⟨hL, H8, OW, trivial⟩, ?_⟩
        refine fx_one (i := 18) (by kernel_rfl) (fx_op rfl ?_)
        refine fx_call fr rfl rfl (by first | decide | simp) (x_call (vs := [.int .i64 ((l.getD i hact0).line), .int .i64 (((home0 bs).E.length : Nat) : Int)]) rfl rfl ⟨(fr.ev rfl), (fr.ev rfl), trivial⟩ Try.func15 nm15 rfl) (mod_p ((l.getD i hact0).line) ((home0 bs).E.length) (by omega) (by omega) _) ?_
        clear fr a
        rintro v w9 ⟨rfl, hw9⟩ a fr
        obtain rfl := hw9.symm
        refine wpList_nil ?_
        refine ⟨⟨hL, H8, OW, trivial⟩, ?_⟩
        refine fx_take (i := 19) (v := .int .u32 ((k : Nat) : Int)) fr rfl (by kernel_rfl) rfl rfl (by first | decide | simp) (fun _ _ _ h => h) (fun _ ⟨hL, H8, OW, _⟩ => x_convert Try.underlying3 Try.underlying24 rfl (fr.ev rfl) (u32w (r := ((k : Nat) : Int)) hk (by omega))) ⟨hL, H8, OW, trivial⟩ ?_
        clear fr a; intro a fr
        refine fx_take (i := 20) (v := .agg (msgE.arr (mkM ((l.getD i hact0).kind) (modF ((l.getD i hact0).cache) 4) 4 ((k : Nat) : Int) b16z (by first | decide | omega)))) fr rfl (by kernel_rfl) rfl rfl (by first | decide | simp) (fun _ _ _ h => h) (fun _ ⟨hL, H8, OW, _⟩ => x_build (cells := msgE.arr (mkM ((l.getD i hact0).kind) (modF ((l.getD i hact0).cache) 4) 4 ((k : Nat) : Int) b16z (by first | decide | omega))) rfl (by simp only [List.map_toArray, List.map_cons, List.map_nil, show a.eval (.tmp 46) = .int .i64 ((l.getD i hact0).kind) from fr.ev rfl, show a.eval (.tmp 52) = .int .i64 (modF ((l.getD i hact0).cache) 4) from fr.ev rfl, show a.eval (.tmp 61) = .int .u32 ((k : Nat) : Int) from fr.ev rfl]; kernel_rfl)) ⟨hL, H8, OW, trivial⟩ ?_
        clear fr a; intro a fr
        refine fx_hdone (by kernel_rfl) ?_
        refine fx_tail ?_
        refine fx_storeS sz36 rfl rfl rfl (fr.ev rfl) (fr.ev rfl) (msgE.all _) B105 (msgE.size _) (msgE.size _) fun w113 hO114 hBq => ?_
        replace hL := hL.only hO114 (Apart.ne1 ap_C_b102)
        replace H8 := H8.only hO114 (ne1P ap_Fp2_b102)
        replace OW := OW.only hO114 (Apart.ne1 ap_W_b102)
        replace hF := hF.loc hO114 (.inr g_b102)
        replace B105 := hBq
        clear hBq
        refine wpList_nil ?_
        refine fx_next ?_
        refine wp_seq ?_
        refine wp_region_lit ?_  -- region 10
        refine fx_val (v := .pointer (some ⟨b102, 0, none⟩)) fr rfl rfl (by first | decide | simp) (x_fieldAddr fo36_0 rfl (fr.ev rfl) rfl) ?_
        clear fr a; intro a fr
        refine fx_val (v := .int .i64 ((mkM ((l.getD i hact0).kind) (modF ((l.getD i hact0).cache) 4) 4 ((k : Nat) : Int) b16z (by first | decide | omega)).kind)) fr rfl rfl (by first | decide | simp) (x_load1 pl33 rfl (fr.ev rfl) (B105.cell 0 rfl)) ?_
        clear fr a; intro a fr
        refine fx_val (v := .bool (decide ((mkM ((l.getD i hact0).kind) (modF ((l.getD i hact0).cache) 4) 4 ((k : Nat) : Int) b16z (by first | decide | omega)).kind = 1))) fr rfl rfl (by first | decide | simp) (x_eql rfl (fr.ev rfl) rfl rfl) ?_
        clear fr a; intro a fr
        refine fx_val (v := .bool (decide ((mkM ((l.getD i hact0).kind) (modF ((l.getD i hact0).cache) 4) 4 ((k : Nat) : Int) b16z (by first | decide | omega)).kind = 1))) fr rfl rfl (by first | decide | simp) (x_move rfl (fr.ev rfl)) ?_
        clear fr a; intro a fr
        refine fx_may (g := !(decide ((mkM ((l.getD i hact0).kind) (modF ((l.getD i hact0).cache) 4) 4 ((k : Nat) : Int) b16z (by first | decide | omega)).kind = 1))) (v := .pointer (some ⟨b102, 0, none⟩)) fr rfl rfl rfl (by simp) rfl (by first | decide | simp) (fun hg => x_fieldAddr fo36_0 rfl (fr.ev rfl) rfl) ?_
        clear fr a; intro a fr
        refine fx_may (g := !(decide ((mkM ((l.getD i hact0).kind) (modF ((l.getD i hact0).cache) 4) 4 ((k : Nat) : Int) b16z (by first | decide | omega)).kind = 1))) (v := .int .i64 ((mkM ((l.getD i hact0).kind) (modF ((l.getD i hact0).cache) 4) 4 ((k : Nat) : Int) b16z (by first | decide | omega)).kind)) fr rfl rfl rfl (by simp) rfl (by first | decide | simp) (fun hg => x_load1 pl33 rfl ((fr.ev rfl).trans (onlyIf_t hg)) (B105.cell 0 rfl)) ?_
        clear fr a; intro a fr
        refine fx_may (g := !(decide ((mkM ((l.getD i hact0).kind) (modF ((l.getD i hact0).cache) 4) 4 ((k : Nat) : Int) b16z (by first | decide | omega)).kind = 1))) (v := .bool (decide ((mkM ((l.getD i hact0).kind) (modF ((l.getD i hact0).cache) 4) 4 ((k : Nat) : Int) b16z (by first | decide | omega)).kind = 2))) fr rfl rfl rfl (by simp) rfl (by first | decide | simp) (fun hg => x_eql rfl ((fr.ev rfl).trans (onlyIf_t hg)) rfl rfl) ?_
        clear fr a; intro a fr
        refine fx_val (v := .bool ((decide ((mkM ((l.getD i hact0).kind) (modF ((l.getD i hact0).cache) 4) 4 ((k : Nat) : Int) b16z (by first | decide | omega)).kind = 1)) || (decide ((mkM ((l.getD i hact0).kind) (modF ((l.getD i hact0).cache) 4) 4 ((k : Nat) : Int) b16z (by first | decide | omega)).kind = 2)))) fr rfl rfl (by first | decide | simp) (x_pick_or rfl (fr.ev rfl) (fun _ => rfl) (fun hb => ((fr.ev rfl)).trans (onlyIf_t (by simp_all))) rfl) ?_
        clear fr a; intro a fr
        refine fx_val (v := .bool ((decide ((mkM ((l.getD i hact0).kind) (modF ((l.getD i hact0).cache) 4) 4 ((k : Nat) : Int) b16z (by first | decide | omega)).kind = 1)) || (decide ((mkM ((l.getD i hact0).kind) (modF ((l.getD i hact0).cache) 4) 4 ((k : Nat) : Int) b16z (by first | decide | omega)).kind = 2)))) fr rfl rfl (by first | decide | simp) (x_move rfl (fr.ev rfl)) ?_
        clear fr a; intro a fr
        refine fx_may (g := !((decide ((mkM ((l.getD i hact0).kind) (modF ((l.getD i hact0).cache) 4) 4 ((k : Nat) : Int) b16z (by first | decide | omega)).kind = 1)) || (decide ((mkM ((l.getD i hact0).kind) (modF ((l.getD i hact0).cache) 4) 4 ((k : Nat) : Int) b16z (by first | decide | omega)).kind = 2)))) (v := .pointer (some ⟨b102, 0, none⟩)) fr rfl rfl rfl (by simp) rfl (by first | decide | simp) (fun hg => x_fieldAddr fo36_0 rfl (fr.ev rfl) rfl) ?_
        clear fr a; intro a fr
        refine fx_may (g := !((decide ((mkM ((l.getD i hact0).kind) (modF ((l.getD i hact0).cache) 4) 4 ((k : Nat) : Int) b16z (by first | decide | omega)).kind = 1)) || (decide ((mkM ((l.getD i hact0).kind) (modF ((l.getD i hact0).cache) 4) 4 ((k : Nat) : Int) b16z (by first | decide | omega)).kind = 2)))) (v := .int .i64 ((mkM ((l.getD i hact0).kind) (modF ((l.getD i hact0).cache) 4) 4 ((k : Nat) : Int) b16z (by first | decide | omega)).kind)) fr rfl rfl rfl (by simp) rfl (by first | decide | simp) (fun hg => x_load1 pl33 rfl ((fr.ev rfl).trans (onlyIf_t hg)) (B105.cell 0 rfl)) ?_
        clear fr a; intro a fr
        refine fx_may (g := !((decide ((mkM ((l.getD i hact0).kind) (modF ((l.getD i hact0).cache) 4) 4 ((k : Nat) : Int) b16z (by first | decide | omega)).kind = 1)) || (decide ((mkM ((l.getD i hact0).kind) (modF ((l.getD i hact0).cache) 4) 4 ((k : Nat) : Int) b16z (by first | decide | omega)).kind = 2)))) (v := .bool (decide ((mkM ((l.getD i hact0).kind) (modF ((l.getD i hact0).cache) 4) 4 ((k : Nat) : Int) b16z (by first | decide | omega)).kind = 3))) fr rfl rfl rfl (by simp) rfl (by first | decide | simp) (fun hg => x_eql rfl ((fr.ev rfl).trans (onlyIf_t hg)) rfl rfl) ?_
        clear fr a; intro a fr
        refine fx_val (v := .bool (((decide ((mkM ((l.getD i hact0).kind) (modF ((l.getD i hact0).cache) 4) 4 ((k : Nat) : Int) b16z (by first | decide | omega)).kind = 1)) || (decide ((mkM ((l.getD i hact0).kind) (modF ((l.getD i hact0).cache) 4) 4 ((k : Nat) : Int) b16z (by first | decide | omega)).kind = 2))) || (decide ((mkM ((l.getD i hact0).kind) (modF ((l.getD i hact0).cache) 4) 4 ((k : Nat) : Int) b16z (by first | decide | omega)).kind = 3)))) fr rfl rfl (by first | decide | simp) (x_pick_or rfl (fr.ev rfl) (fun _ => rfl) (fun hb => ((fr.ev rfl)).trans (onlyIf_t (by simp_all))) rfl) ?_
        clear fr a; intro a fr
        refine wpList_nil ?_
        refine fx_next ?_
        refine fx_cond fr rfl (fun hc115 => ?_) (fun hc115 => ?_)
        · skip
          have hc115s := hc115
          try simp at hc115s
          refine wp_seq ?_
          refine wp_region_lit ?_  -- region 11
          refine fx_val (v := .slice W wy0.length wc) fr rfl rfl (by first | decide | simp) (x_move rfl (fr.ev rfl)) ?_
          clear fr a; intro a fr
          refine fx_val (v := .agg (msgE.arr (mkM ((l.getD i hact0).kind) (modF ((l.getD i hact0).cache) 4) 4 ((k : Nat) : Int) b16z (by first | decide | omega)))) fr rfl rfl (by first | decide | simp) (x_loadE (E := msgE) ag36 rfl rfl (fr.ev rfl) (B105.rangeE msgE)) ?_
          clear fr a; intro a fr
          refine fx_build1 (E := msgE) (p := (mkM ((l.getD i hact0).kind) (modF ((l.getD i hact0).cache) 4) 4 ((k : Nat) : Int) b16z (by first | decide | omega))) elMsg (by decide) fr rfl rfl (by decide) rfl (fr.ev rfl) ?_
          clear fr a
          intro A116 w117 hN118 O119 hA120 a fr
          have ap2_C_A116 : Apart2 C A116 := (new_apart2 hA120 fun _ hg => hL.lt hg).symm
          have ap2_Fp2_A116 : ∀ k, Fp2 k → inA A116 k → False := symP (new_apart2P hA120 fun _ hg => H8.lt hg)
          have ap2_W_A116 : Apart2 W A116 := (new_apart2 hA120 fun _ hg => OW.lt hg).symm
          have ap_A116_b102 : Apart A116 b102 := new_apart hA120 B105.lt
          have gA_A116 := gA_new hF hA120
          have gN_A116 := fun g (hg : inA A116 g) => Nat.le_trans hF.size (hA120 g hg)
          replace hL := hL.new hN118
          replace H8 := H8.new hN118
          replace OW := OW.new hN118
          replace B105 := B105.new hN118
          replace hF := hF.trNew hN118
          refine fx_append (E := msgE) (l := wy0) (l' := [(mkM ((l.getD i hact0).kind) (modF ((l.getD i hact0).cache) 4) 4 ((k : Nat) : Int) b16z (by first | decide | omega))]) elMsg fr rfl rfl (by decide) rfl (fr.ev rfl) (fr.ev rfl) (by first | rfl | (simp; done) | (simp; omega)) (by first | rfl | (simp; done) | (simp; omega)) OW O119.view (by first | omega | (simp only [List.length_append, List.length_cons, List.length_nil, List.length_take, List.length_drop]; omega) | (simp; omega)) (by first | (unfold maxLen; done) | (unfold maxLen; first | omega | (simp only [List.length_append, List.length_cons, List.length_nil]; omega) | (simp; done) | (simp; omega))) ?_
          clear fr a
          intro A121 cap122 w123 O124 hO125 mv126 a fr
          have ap2_A121_C : Apart2 A121 C := moved_apart2 mv126 ap2_C_W.symm fun _ hg => hL.lt hg
          have ap2_A121_Fp2 : ∀ k, inA A121 k → Fp2 k → False := moved_apart2P mv126 (symP ap2_Fp2_W) fun _ hg => H8.lt hg
          have ap_A121_b102 : Apart A121 b102 := moved_apart mv126 ap_W_b102 B105.lt
          have ap2_A121_A116 : Apart2 A121 A116 := moved_apart2 mv126 ap2_W_A116 fun _ hg => O119.lt hg
          have gA_A121 := gA_moved hF mv126 gA_W
          replace hL := hL.only hO125 (fun g h1 h2 => ap2_C_W g h1 h2)
          replace H8 := H8.only hO125 (fun g h1 h2 => ap2_Fp2_W g h1 h2)
          replace B105 := B105.only hO125 ap_W_b102
          replace O119 := O119.only hO125 (fun g h1 h2 => ap2_W_A116.symm g h1 h2)
          replace hF := hF.locA hO125 gA_W
          clear OW
          refine fx_val (v := .slice A121 ((wy0 ++ ([(mkM ((l.getD i hact0).kind) (modF ((l.getD i hact0).cache) 4) 4 ((k : Nat) : Int) b16z (by first | decide | omega))])).length) cap122) fr rfl rfl (by first | decide | simp) (x_assign rfl (fr.ev rfl)) ?_
          clear fr a; intro a fr
          refine wpList_nil ?_
          refine fx_next ?_
          refine wp_region_lit ?_  -- region 12
          refine fx_val (v := .int .i64 ((ask : Nat) : Int)) fr rfl rfl (by first | decide | simp) (x_move rfl (fr.ev rfl)) ?_
          clear fr a; intro a fr
          refine fx_val (v := .int .i64 ((ask + 1 : Nat) : Int)) fr rfl rfl (by first | decide | simp) (x_add rfl (fr.ev rfl) rfl (i64w (r := ((ask + 1 : Nat) : Int)) (by omega) (by omega))) ?_
          clear fr a; intro a fr
          refine fx_val (v := .int .i64 ((ask + 1 : Nat) : Int)) fr rfl rfl (by first | decide | simp) (x_assign rfl (fr.ev rfl)) ?_
          clear fr a; intro a fr
          refine wpList_nil ?_
          refine fx_blk ?_
          refine fx_next ?_
          refine wp_region_lit ?_  -- region 8
          refine fx_val (v := .int .i64 ((i : Nat) : Int)) fr rfl rfl (by first | decide | simp) (x_move rfl (fr.ev rfl)) ?_
          clear fr a; intro a fr
          refine fx_val (v := .int .i64 ((i + 1 : Nat) : Int)) fr rfl rfl (by first | decide | simp) (x_add rfl (fr.ev rfl) rfl (i64w (r := ((i + 1 : Nat) : Int)) (by omega) (by omega))) ?_
          clear fr a; intro a fr
          refine fx_val (v := .int .i64 ((i + 1 : Nat) : Int)) fr rfl rfl (by first | decide | simp) (x_assign rfl (fr.ev rfl)) ?_
          clear fr a; intro a fr
          refine wpList_nil ?_
          refine fx_next ?_
          have hknd : 1 ≤ (l.getD i hact0).kind ∧ (l.getD i hact0).kind ≤ 3 := by have h9 := hc115; simp only [Bool.or_eq_true, decide_eq_true_eq] at h9; change ((l.getD i hact0).kind = 1 ∨ (l.getD i hact0).kind = 2) ∨ (l.getD i hact0).kind = 3 at h9; omega
          have hgood2 : ∀ m ∈ wy0 ++ ([(mkM ((l.getD i hact0).kind) (modF ((l.getD i hact0).cache) 4) 4 ((k : Nat) : Int) b16z (by first | decide | omega))]), Good (bs.length / 16) m ∧ 1 ≤ m.kind ∧ m.kind ≤ 3 := by
            intro m hm
            rcases List.mem_append.1 hm with h | h
            · exact hgood m h
            · simp only [List.mem_cons, List.mem_nil_iff, or_false] at h
              subst h
              exact ⟨⟨(by show ((k : Nat) : Int).toNat < _; omega), .inl ⟨hknd, rfl, (by show 0 ≤ modF (l.getD i hact0).cache 4 ∧ modF (l.getD i hact0).cache 4 < 4; omega), .inr rfl⟩⟩, hknd⟩
          exact ⟨_, by omega, (i + 1), A121, cap122, (wy0 ++ ([(mkM ((l.getD i hact0).kind) (modF ((l.getD i hact0).cache) 4) 4 ((k : Nat) : Int) b16z (by first | decide | omega))])), (ask + 1), rfl, fr.sub ⟨rfl, rfl, rfl, rfl, rfl, rfl, rfl, rfl, trivial⟩, hF, hL, H8, O124, by omega, hgood2, by omega, (by rw [List.length_append, List.length_cons, List.length_nil]; omega), ap2_A121_C.symm, (symP ap2_A121_Fp2), gA_A121⟩
        · skip
          have hc115s := hc115
          try simp at hc115s
          refine wp_skip ?_
          refine fx_blk ?_
          refine fx_next ?_
          refine wp_region_lit ?_  -- region 8
          refine fx_val (v := .int .i64 ((i : Nat) : Int)) fr rfl rfl (by first | decide | simp) (x_move rfl (fr.ev rfl)) ?_
          clear fr a; intro a fr
          refine fx_val (v := .int .i64 ((i + 1 : Nat) : Int)) fr rfl rfl (by first | decide | simp) (x_add rfl (fr.ev rfl) rfl (i64w (r := ((i + 1 : Nat) : Int)) (by omega) (by omega))) ?_
          clear fr a; intro a fr
          refine fx_val (v := .int .i64 ((i + 1 : Nat) : Int)) fr rfl rfl (by first | decide | simp) (x_assign rfl (fr.ev rfl)) ?_
          clear fr a; intro a fr
          refine wpList_nil ?_
          refine fx_next ?_
          exact ⟨_, by omega, (i + 1), W, wc, wy0, ask, rfl, fr.sub ⟨rfl, rfl, rfl, rfl, rfl, rfl, rfl, rfl, trivial⟩, hF, hL, H8, OW, by omega, hgood, by omega, by omega, ap2_C_W, ap2_Fp2_W, gA_W⟩
    · skip
      have hc27 := of_decide_eq_false hc27
      refine wp_exit ?_
      refine fx_xt ?_
      refine fx_xt ?_
      refine fx_xx ?_
      refine fx_next ?_
      refine wp_seq ?_
      refine wp_seq ?_
      refine wp_region_lit ?_  -- region 13
      refine fx_val (v := .int .i64 0) fr rfl rfl (by first | decide | simp) (x_assign rfl rfl) ?_
      clear fr a; intro a fr
      refine wpList_nil ?_
      refine fx_next ?_
      refine wp_block ?_
      refine fx_loop (fun nM a wL => ∃ turns : Nat, ∃ hd : HD, ∃ FpX : Nat → Prop, ∃ W2 : Option Addr, ∃ wc2 : Nat, ∃ wy : List Msg, ∃ told : Nat, nM = 400 - turns ∧ Fr (175, []) [(2, .int .i64 pick), (7, .pointer (some ⟨hb1, 0, none⟩)), (11, .int .i64 ((ask : Nat) : Int)), (10, .slice W2 wy.length wc2), (12, .int .i64 ((told : Nat) : Int)), (15, .int .i64 ((turns : Nat) : Int))] a ∧ Only (fun _ => False) w wL ∧ HomeAt wL FpX hb1 hd ∧ Own msgE wL W2 wc2 wy ∧ Sv (9 * wy0.length) wy0.length turns hd wy told ∧ hd.E.length = bs.length / 16 ∧ (∀ k, FpX k → inA W2 k → False) ∧ (∀ g, FpX g → (fun _ => False) g ∨ w.heap.size ≤ g) ∧ (∀ g, inA W2 g → (fun _ => False) g ∨ w.heap.size ≤ g)) (n0 := _) ⟨0, (home0 bs), Fp2, W, wc, wy0, 0, rfl, fr.sub ⟨rfl, rfl, rfl, rfl, rfl, rfl, trivial⟩, hF, H8, OW, Sv.start hgood, (by simp [home0]), ap2_Fp2_W, gA_Fp2, gA_W⟩ ?_
      rintro n128 a w127 ⟨turns, hd, FpX, W2, wc2, wy, told, rfl, fr, hF, HH, OW, hSv, hEl, ap2_FpX_W2, gA_FpX, gA_W2⟩
      have hwl2 := hSv.len
      have htl := hSv.ask
      refine wp_seq ?_
      refine wp_seq ?_
      refine wp_region_lit ?_  -- region 14
      refine fx_val (v := .slice W2 wy.length wc2) fr rfl rfl (by first | decide | simp) (x_move rfl (fr.ev rfl)) ?_
      clear fr a; intro a fr
      refine fx_val (v := .int .i64 ((wy.length : Nat) : Int)) fr rfl rfl (by first | decide | simp) (x_len Try.underlying23 rfl (fr.ev rfl)) ?_
      clear fr a; intro a fr
      refine fx_val (v := .bool (decide (0 < ((wy.length : Nat) : Int)))) fr rfl rfl (by first | decide | simp) (x_gtr rfl (fr.ev rfl) rfl rfl) ?_
      clear fr a; intro a fr
      refine fx_val (v := .bool (decide (0 < ((wy.length : Nat) : Int)))) fr rfl rfl (by first | decide | simp) (x_move rfl (fr.ev rfl)) ?_
      clear fr a; intro a fr
      refine fx_may (g := (decide (0 < ((wy.length : Nat) : Int)))) (v := .int .i64 ((turns : Nat) : Int)) fr rfl rfl rfl (by simp) rfl (by first | decide | simp) (fun hg => x_move rfl (fr.ev rfl)) ?_
      clear fr a; intro a fr
      refine fx_may (g := (decide (0 < ((wy.length : Nat) : Int)))) (v := .bool (decide (((turns : Nat) : Int) < 400))) fr rfl rfl rfl (by simp) rfl (by first | decide | simp) (fun hg => x_lss rfl ((fr.ev rfl).trans (onlyIf_t hg)) rfl rfl) ?_
      clear fr a; intro a fr
      refine fx_val (v := .bool ((decide (0 < ((wy.length : Nat) : Int))) && (decide (((turns : Nat) : Int) < 400)))) fr rfl rfl (by first | decide | simp) (x_pick_and rfl (fr.ev rfl) (fun hb => ((fr.ev rfl)).trans (onlyIf_t (by simp_all))) (fun _ => rfl) rfl) ?_
      clear fr a; intro a fr
      refine wpList_nil ?_
      refine fx_next ?_
      refine fx_cond fr rfl (fun hc129 => ?_) (fun hc129 => ?_)
      · skip
        have hc129s := hc129
        try simp at hc129s
        refine wp_skip ?_
        refine fx_next ?_
        refine wp_seq ?_
        refine wp_block ?_
        refine wp_seq ?_
        obtain ⟨p9, hp9, hpl9⟩ := modF_nat pick wy.length (by omega)
        refine wp_region_lit ?_  -- region 16
        refine fx_val (v := .int .i64 pick) fr rfl rfl (by first | decide | simp) (x_move rfl (fr.ev rfl)) ?_
        clear fr a; intro a fr
        refine fx_val (v := .slice W2 wy.length wc2) fr rfl rfl (by first | decide | simp) (x_move rfl (fr.ev rfl)) ?_
        clear fr a; intro a fr
        refine fx_val (v := .int .i64 ((wy.length : Nat) : Int)) fr rfl rfl (by first | decide | simp) (x_len Try.underlying23 rfl (fr.ev rfl)) ?_
        clear fr a; intro a fr
        refine fx_call fr rfl rfl (by first | decide | simp) (x_call (vs := [.int .i64 pick, .int .i64 ((wy.length : Nat) : Int)]) rfl rfl ⟨(fr.ev rfl), (fr.ev rfl), trivial⟩ Try.func15 nm15 rfl) (mod_p pick wy.length (by omega) (by omega) _) ?_
        clear fr a
        rintro v w9 ⟨rfl, hw9⟩ a fr
        obtain rfl := hw9.symm
        refine fx_val (v := .int .i64 ((turns : Nat) : Int)) fr rfl rfl (by first | decide | simp) (x_move rfl (fr.ev rfl)) ?_
        clear fr a; intro a fr
        refine fx_val (v := .int .i64 ((7 * turns : Nat) : Int)) fr rfl rfl (by first | decide | simp) (x_mul rfl rfl (fr.ev rfl) (i64w (r := ((7 * turns : Nat) : Int)) (by omega) (by omega))) ?_
        clear fr a; intro a fr
        refine fx_val (v := .int .i64 (modF pick ((wy.length : Nat) : Int) + ((7 * turns : Nat) : Int))) fr rfl rfl (by first | decide | simp) (x_add rfl (fr.ev rfl) (fr.ev rfl) (i64w (r := modF pick ((wy.length : Nat) : Int) + ((7 * turns : Nat) : Int)) (by omega) (by omega))) ?_
        clear fr a; intro a fr
        refine fx_val (v := .slice W2 wy.length wc2) fr rfl rfl (by first | decide | simp) (x_move rfl (fr.ev rfl)) ?_
        clear fr a; intro a fr
        refine fx_val (v := .int .i64 ((wy.length : Nat) : Int)) fr rfl rfl (by first | decide | simp) (x_len Try.underlying23 rfl (fr.ev rfl)) ?_
        clear fr a; intro a fr
        refine fx_call fr rfl rfl (by first | decide | simp) (x_call (vs := [.int .i64 (modF pick ((wy.length : Nat) : Int) + ((7 * turns : Nat) : Int)), .int .i64 ((wy.length : Nat) : Int)]) rfl rfl ⟨(fr.ev rfl), (fr.ev rfl), trivial⟩ Try.func15 nm15 rfl) (mod_p (modF pick ((wy.length : Nat) : Int) + ((7 * turns : Nat) : Int)) wy.length (by omega) (by omega) _) ?_
        clear fr a
        rintro v w9 ⟨rfl, hw9⟩ a fr
        obtain rfl := hw9.symm
        refine fx_val (v := .int .i64 (modF (modF pick ((wy.length : Nat) : Int) + ((7 * turns : Nat) : Int)) ((wy.length : Nat) : Int))) fr rfl rfl (by first | decide | simp) (x_assign rfl (fr.ev rfl)) ?_
        clear fr a; intro a fr
        refine wpList_nil ?_
        refine fx_next ?_
        refine wp_seq ?_
        obtain ⟨at9, hat9, hatl9⟩ := modF_nat (modF pick ((wy.length : Nat) : Int) + ((7 * turns : Nat) : Int)) wy.length (by omega)
        rw [hat9] at fr
        refine wp_region_lit ?_  -- region 17
        refine fx_val (v := .slice W2 wy.length wc2) fr rfl rfl (by first | decide | simp) (x_move rfl (fr.ev rfl)) ?_
        clear fr a; intro a fr
        refine fx_val (v := .int .i64 ((at9 : Nat) : Int)) fr rfl rfl (by first | decide | simp) (x_move rfl (fr.ev rfl)) ?_
        clear fr a; intro a fr
        obtain ⟨g134, o135, hA136⟩ := (OW.view).some_ (by first | omega | decide)
        refine fx_val (v := .pointer (some ⟨g134, o135 + at9 * 20, none⟩)) fr rfl rfl (by first | decide | simp) (x_indexV Try.underlying23 sz36 rfl (fr.ev rfl) hA136 (fr.ev rfl) (by first | omega | decide) rfl) ?_
        clear fr a; intro a fr
        refine fx_val (v := .agg (msgE.arr (wy.getD at9 msg0))) fr rfl rfl (by first | decide | simp) (x_loadE (E := msgE) ag36 rfl rfl (fr.ev rfl) ((OW.view).elem hA136 at9 msg0 (by omega))) ?_
        clear fr a; intro a fr
        refine fx_new fr rfl rfl (by first | decide | simp) (x_alloc (z := .agg (#[.int .i64 0, .int .i64 0, .int .i64 0, .int .u32 0, .int .u8 0, .int .u8 0, .int .u8 0, .int .u8 0, .int .u8 0, .int .u8 0, .int .u8 0, .int .u8 0, .int .u8 0, .int .u8 0, .int .u8 0, .int .u8 0, .int .u8 0, .int .u8 0, .int .u8 0, .int .u8 0])) (cs := msgE.arr msg0) rfl (by kernel_rfl) rfl) ?_
        clear fr a
        intro b137 w138 hN139 B140 hb141 a fr
        have ap_FpX_b137 : ¬ FpX b137 := HH.apart hb141
        have ap_W2_b137 : Apart W2 b137 := OW.apart hb141
        have g_b137 := Nat.le_trans hF.size hb141
        replace HH := HH.new hN139
        replace OW := OW.new hN139
        replace hF := hF.trNew hN139
        refine fx_storeS sz36 rfl rfl rfl (fr.ev rfl) (fr.ev rfl) (msgE.all _) B140 (msgE.size _) (msgE.size _) fun w142 hO143 hBq => ?_
        replace HH := HH.only hO143 (ne1P ap_FpX_b137)
        replace OW := OW.only hO143 (Apart.ne1 ap_W2_b137)
        replace hF := hF.loc hO143 (.inr g_b137)
        replace B140 := hBq
        clear hBq
        refine wpList_nil ?_
        refine fx_next ?_
        refine wp_seq ?_
        refine fx_heldT (n := 9) (k := 9) (fun w => HomeAt w FpX hb1 hd ∧ Blk w b137 36 (msgE.arr (wy.getD at9 msg0)) ∧ True) (by kernel_rfl) (by kernel_rfl) rfl ?_  -- region 18
        intro w144 hN145
        replace HH := HH.new hN145
        replace OW := OW.new hN145
        replace B140 := B140.new hN145
        replace hF := hF.trNew hN145
        refine fx_take (i := 0) (v := .slice W2 wy.length wc2) fr rfl (by kernel_rfl) rfl rfl (by first | decide | simp) (fun _ _ _ h => h) (fun _ ⟨HH, B140, _⟩ => x_move rfl (fr.ev rfl)) ⟨HH, B140, trivial⟩ ?_
        clear fr a; intro a fr
        refine fx_take (i := 1) (v := .int .i64 ((at9 : Nat) : Int)) fr rfl (by kernel_rfl) rfl rfl (by first | decide | simp) (fun _ _ _ h => h) (fun _ ⟨HH, B140, _⟩ => x_move rfl (fr.ev rfl)) ⟨HH, B140, trivial⟩ ?_
        clear fr a; intro a fr
        refine fx_take (i := 2) (v := .slice W2 at9 wc2) fr rfl (by kernel_rfl) rfl rfl (by first | decide | simp) (fun _ _ _ h => h) (fun _ ⟨HH, B140, _⟩ => x_slice_to Try.underlying23 sz36 rfl (fr.ev rfl) (fr.ev rfl) (by have := (OW.view).len; omega)) ⟨HH, B140, trivial⟩ ?_
        clear fr a; intro a fr
        refine fx_take (i := 4) (v := .slice W2 wy.length wc2) fr rfl (by kernel_rfl) rfl rfl (by first | decide | simp) (fun _ _ _ h => h) (fun _ ⟨HH, B140, _⟩ => x_move rfl (fr.ev rfl)) ⟨HH, B140, trivial⟩ ?_
        clear fr a; intro a fr
        refine fx_take (i := 5) (v := .int .i64 ((at9 : Nat) : Int)) fr rfl (by kernel_rfl) rfl rfl (by first | decide | simp) (fun _ _ _ h => h) (fun _ ⟨HH, B140, _⟩ => x_move rfl (fr.ev rfl)) ⟨HH, B140, trivial⟩ ?_
        clear fr a; intro a fr
        refine fx_take (i := 6) (v := .int .i64 ((at9 + 1 : Nat) : Int)) fr rfl (by kernel_rfl) rfl rfl (by first | decide | simp) (fun _ _ _ h => h) (fun _ ⟨HH, B140, _⟩ => x_add rfl (fr.ev rfl) rfl (i64w (r := ((at9 + 1 : Nat) : Int)) (by omega) (by omega))) ⟨HH, B140, trivial⟩ ?_
        clear fr a; intro a fr
        refine fx_take (i := 7) (v := .slice (cutA W2 wc2 (at9 + 1) 20) (wy.length - (at9 + 1)) (wc2 - (at9 + 1))) fr rfl (by kernel_rfl) rfl rfl (by first | decide | simp) (fun _ _ _ h => h) (fun _ ⟨HH, B140, _⟩ => x_slice_from Try.underlying23 sz36 rfl (fr.ev rfl) (fr.ev rfl) (by omega)) ⟨HH, B140, trivial⟩ ?_
        clear fr a; intro a fr
        refine fx_one (i := 3) (by kernel_rfl) (fx_op rfl ?_)
        refine fx_append (E := msgE) (l := []) (l' := wy.take at9) elMsg fr rfl rfl (by decide) rfl rfl (fr.ev rfl) (by first | rfl | (simp; done) | (simp; omega)) (by first | rfl | (simp; done) | (simp; omega)) Own.nil ((OW.view).pre at9) (by first | omega | (simp only [List.length_append, List.length_cons, List.length_nil, List.length_take, List.length_drop]; omega) | (simp; omega)) (by first | (unfold maxLen; done) | (unfold maxLen; first | omega | (simp only [List.length_append, List.length_cons, List.length_nil]; omega) | (simp; done) | (simp; omega))) ?_
        clear fr a
        intro A146 cap147 w148 O149 hO150 mv151 a fr
        have ap2_A146_FpX : ∀ k, inA A146 k → FpX k → False := moved_apart2P mv151 (fun k h _ => apart_none k h) fun _ hg => HH.lt hg
        have ap2_A146_W2 : Apart2 A146 W2 := moved_apart2 mv151 (fun k h _ => apart_none k h) fun _ hg => OW.lt hg
        have ap_A146_b137 : Apart A146 b137 := moved_apart mv151 (apart_none b137) B140.lt
        have gA_A146 := gA_moved hF mv151 gA_none
        have gN_A146 := fun g (hg : inA A146 g) => (mv151 g hg).elim (fun h => absurd h (apart_none g)) (fun h => Nat.le_trans hF.size h)
        replace hO150 := only_none hO150
        replace HH := HH.new hO150
        replace OW := OW.new hO150
        replace B140 := B140.new hO150
        replace hF := hF.trNew hO150
        simp only [List.nil_append] at fr O149
        refine wpList_nil ?_
        refine ⟨⟨HH, B140, trivial⟩, ?_⟩
        refine fx_one (i := 8) (by kernel_rfl) (fx_op rfl ?_)
        refine fx_append (E := msgE) (l := wy.take at9) (l' := wy.drop (at9 + 1)) elMsg fr rfl rfl (by decide) rfl (fr.ev rfl) (fr.ev rfl) (by first | rfl | (simp; done) | (simp; omega)) (by first | rfl | (simp; done) | (simp; omega)) O149 ((OW.view).drop (at9 + 1) (by omega)) (by first | omega | (simp only [List.length_append, List.length_cons, List.length_nil, List.length_take, List.length_drop]; omega) | (simp; omega)) (by first | (unfold maxLen; done) | (unfold maxLen; first | omega | (simp only [List.length_append, List.length_cons, List.length_nil]; omega) | (simp; done) | (simp; omega))) ?_
        clear fr a
        intro A152 cap153 w154 O155 hO156 mv157 a fr
        have ap2_A152_FpX : ∀ k, inA A152 k → FpX k → False := moved_apart2P mv157 ap2_A146_FpX fun _ hg => HH.lt hg
        have ap2_A152_W2 : Apart2 A152 W2 := moved_apart2 mv157 ap2_A146_W2 fun _ hg => OW.lt hg
        have ap_A152_b137 : Apart A152 b137 := moved_apart mv157 ap_A146_b137 B140.lt
        have gA_A152 := gA_moved hF mv157 gA_A146
        have gN_A152 := fun g (hg : inA A152 g) => (mv157 g hg).elim (gN_A146 g) (fun h => Nat.le_trans hF.size h)
        replace HH := HH.only hO156 (fun g h1 h2 => (symP ap2_A146_FpX) g h1 h2)
        replace OW := OW.only hO156 (fun g h1 h2 => ap2_A146_W2.symm g h1 h2)
        replace B140 := B140.only hO156 ap_A146_b137
        replace hF := hF.locA hO156 gA_A146
        clear O149
        refine wpList_nil ?_
        refine ⟨⟨HH, B140, trivial⟩, ?_⟩
        refine fx_hdone (by kernel_rfl) ?_
        refine fx_tail ?_
        refine fx_val (v := .slice A152 (((wy.take at9) ++ (wy.drop (at9 + 1))).length) cap153) fr rfl rfl (by first | decide | simp) (x_assign rfl (fr.ev rfl)) ?_
        clear fr a; intro a fr
        refine wpList_nil ?_
        refine fx_next ?_
        refine wp_seq ?_
        refine wp_seq ?_
        refine wp_region_lit ?_  -- region 19
        refine fx_val (v := .pointer (some ⟨b137, 2, none⟩)) fr rfl rfl (by first | decide | simp) (x_fieldAddr fo36_2 rfl (fr.ev rfl) rfl) ?_
        clear fr a; intro a fr
        refine fx_val (v := .int .i64 ((wy.getD at9 msg0).dst)) fr rfl rfl (by first | decide | simp) (x_load1 pl3 rfl (fr.ev rfl) (B140.cell 2 rfl)) ?_
        clear fr a; intro a fr
        refine fx_val (v := .bool (decide ((wy.getD at9 msg0).dst = 4))) fr rfl rfl (by first | decide | simp) (x_eql rfl (fr.ev rfl) rfl rfl) ?_
        clear fr a; intro a fr
        refine wpList_nil ?_
        refine fx_next ?_
        refine fx_cond fr rfl (fun hc158 => ?_) (fun hc158 => ?_)
        · skip
          have hc158 := of_decide_eq_true hc158
          refine wp_seq ?_
          refine wp_region_lit ?_  -- region 20
          refine fx_val (v := .pointer (some ⟨hb1, 0, none⟩)) fr rfl rfl (by first | decide | simp) (x_move rfl (fr.ev rfl)) ?_
          clear fr a; intro a fr
          refine fx_val (v := .agg (msgE.arr (wy.getD at9 msg0))) fr rfl rfl (by first | decide | simp) (x_loadE (E := msgE) ag36 rfl rfl (fr.ev rfl) (B140.rangeE msgE)) ?_
          clear fr a; intro a fr
          refine fx_call fr rfl rfl (by first | decide | simp) (x_call (vs := [.pointer (some ⟨hb1, 0, none⟩), .agg (msgE.arr (wy.getD at9 msg0))]) rfl rfl ⟨(fr.ev rfl), (fr.ev rfl), trivial⟩ Try.func12 nm12 rfl) (take_c HH (wy.getD at9 msg0) (hSv.hi.ok (by have := hSv.len; omega))) ?_
          clear fr a
          rintro v w167 ⟨A159, ac160, Fp161, rfl, O162, hA163, H164, hs165, hi166, hN168⟩ a fr
          clear HH
          have ap2_Fp161_W2 : ∀ k, Fp161 k → inA W2 k → False := moved_apart2P hi166 ap2_FpX_W2 fun _ hg => OW.lt hg
          have ap2_W2_A159 : Apart2 W2 A159 := (new_apart2 hA163 fun _ hg => OW.lt hg).symm
          have ap_Fp161_b137 : ¬ Fp161 b137 := moved_apartP hi166 ap_FpX_b137 B140.lt
          have ap_A159_b137 : Apart A159 b137 := new_apart hA163 B140.lt
          have ap2_Fp161_A152 : ∀ k, Fp161 k → inA A152 k → False := moved_apart2P hi166 (symP ap2_A152_FpX) fun _ hg => O155.lt hg
          have ap2_A152_A159 : Apart2 A152 A159 := (new_apart2 hA163 fun _ hg => O155.lt hg).symm
          have ap2_Fp161_A159 : ∀ k, Fp161 k → inA A159 k → False := hs165
          have gA_Fp161 := gA_movedP hF hi166 gA_FpX
          have gA_A159 := gA_new hF hA163
          replace OW := OW.only hN168 (fun g h1 h2 => (symP ap2_FpX_W2) g h1 h2)
          replace B140 := B140.only hN168 ap_FpX_b137
          replace O155 := O155.only hN168 (fun g h1 h2 => ap2_A152_FpX g h1 h2)
          replace hF := hF.locP hN168 gA_FpX
          have hst := hSv.take (way_perm hatl9) hc158
          rw [hst.1] at fr
          have hln2 := hst.2.len
          simp only [List.length_append] at hln2
          have hTl := take_len hd (wy.getD at9 msg0)
          generalize takeH hd (wy.getD at9 msg0) = T9 at *
          refine fx_val (v := .tuple #[.slice A159 T9.2.1.length ac160, .int .i64 0]) fr rfl rfl (by first | decide | simp) (x_move rfl (fr.ev rfl)) ?_
          clear fr a; intro a fr
          refine fx_val (v := .slice A159 T9.2.1.length ac160) fr rfl rfl (by first | decide | simp) (x_extract rfl (fr.ev rfl) rfl) ?_
          clear fr a; intro a fr
          refine fx_val (v := .int .i64 0) fr rfl rfl (by first | decide | simp) (x_extract rfl (fr.ev rfl) rfl) ?_
          clear fr a; intro a fr
          refine fx_val (v := .slice A159 T9.2.1.length ac160) fr rfl rfl (by first | decide | simp) (x_assign rfl (fr.ev rfl)) ?_
          clear fr a; intro a fr
          refine fx_val (v := .int .i64 0) fr rfl rfl (by first | decide | simp) (x_assign rfl (fr.ev rfl)) ?_
          clear fr a; intro a fr
          refine wpList_nil ?_
          refine fx_next ?_
          refine wp_seq ?_
          refine wp_seq ?_
          refine wp_region_lit ?_  -- region 21
          refine fx_val (v := .int .i64 0) fr rfl rfl (by first | decide | simp) (x_move rfl (fr.ev rfl)) ?_
          clear fr a; intro a fr
          refine fx_val (v := .bool false) fr rfl rfl (by first | decide | simp) (x_neq rfl (fr.ev rfl) rfl rfl) ?_
          clear fr a; intro a fr
          refine wpList_nil ?_
          refine fx_next ?_
          refine fx_cond_f fr rfl ?_
          refine wp_skip ?_
          refine fx_next ?_
          refine wp_seq ?_
          refine wp_region_lit ?_  -- region 23
          refine fx_val (v := .slice A152 (((wy.take at9) ++ (wy.drop (at9 + 1))).length) cap153) fr rfl rfl (by first | decide | simp) (x_move rfl (fr.ev rfl)) ?_
          clear fr a; intro a fr
          refine fx_val (v := .slice A159 T9.2.1.length ac160) fr rfl rfl (by first | decide | simp) (x_move rfl (fr.ev rfl)) ?_
          clear fr a; intro a fr
          refine fx_append (E := msgE) (l := (wy.take at9) ++ (wy.drop (at9 + 1))) (l' := T9.2.1) elMsg fr rfl rfl (by decide) rfl (fr.ev rfl) (fr.ev rfl) (by first | rfl | (simp; done) | (simp; omega)) (by first | rfl | (simp; done) | (simp; omega)) O155 O162.view (by first | omega | (simp only [List.length_append, List.length_cons, List.length_nil, List.length_take, List.length_drop]; omega) | (simp; omega)) (by first | (unfold maxLen; done) | (unfold maxLen; first | omega | (simp only [List.length_append, List.length_cons, List.length_nil]; omega) | (simp; done) | (simp; omega))) ?_
          clear fr a
          intro A169 cap170 w171 O172 hO173 mv174 a fr
          have ap2_A169_W2 : Apart2 A169 W2 := moved_apart2 mv174 ap2_A152_W2 fun _ hg => OW.lt hg
          have ap_A169_b137 : Apart A169 b137 := moved_apart mv174 ap_A152_b137 B140.lt
          have ap2_A169_Fp161 : ∀ k, inA A169 k → Fp161 k → False := moved_apart2P mv174 (symP ap2_Fp161_A152) fun _ hg => H164.lt hg
          have ap2_A169_A159 : Apart2 A169 A159 := moved_apart2 mv174 ap2_A152_A159 fun _ hg => O162.lt hg
          have gA_A169 := gA_moved hF mv174 gA_A152
          have gN_A169 := fun g (hg : inA A169 g) => (mv174 g hg).elim (gN_A152 g) (fun h => Nat.le_trans hF.size h)
          replace OW := OW.only hO173 (fun g h1 h2 => ap2_A152_W2.symm g h1 h2)
          replace B140 := B140.only hO173 ap_A152_b137
          replace H164 := H164.only hO173 (fun g h1 h2 => ap2_Fp161_A152 g h1 h2)
          replace O162 := O162.only hO173 (fun g h1 h2 => ap2_A152_A159.symm g h1 h2)
          replace hF := hF.locA hO173 gA_A152
          clear O155
          refine fx_val (v := .slice A169 ((((wy.take at9) ++ (wy.drop (at9 + 1))) ++ T9.2.1).length) cap170) fr rfl rfl (by first | decide | simp) (x_assign rfl (fr.ev rfl)) ?_
          clear fr a; intro a fr
          refine wpList_nil ?_
          refine fx_next ?_
          refine wp_exit ?_
          refine fx_xt ?_
          refine fx_xx ?_
          refine fx_next ?_
          refine wp_region_lit ?_  -- region 15
          refine fx_val (v := .int .i64 ((turns : Nat) : Int)) fr rfl rfl (by first | decide | simp) (x_move rfl (fr.ev rfl)) ?_
          clear fr a; intro a fr
          refine fx_val (v := .int .i64 ((turns + 1 : Nat) : Int)) fr rfl rfl (by first | decide | simp) (x_add rfl (fr.ev rfl) rfl (i64w (r := ((turns + 1 : Nat) : Int)) (by omega) (by omega))) ?_
          clear fr a; intro a fr
          refine fx_val (v := .int .i64 ((turns + 1 : Nat) : Int)) fr rfl rfl (by first | decide | simp) (x_assign rfl (fr.ev rfl)) ?_
          clear fr a; intro a fr
          refine wpList_nil ?_
          refine fx_next ?_
          exact ⟨_, by omega, (turns + 1), T9.1, Fp161, A169, cap170, (((wy.take at9) ++ (wy.drop (at9 + 1))) ++ T9.2.1), told, rfl, fr.sub ⟨rfl, rfl, rfl, rfl, rfl, rfl, trivial⟩, hF, H164, O172, hst.2, (hTl.trans hEl), (symP ap2_A169_Fp161), gA_Fp161, gA_A169⟩
        · skip
          have hc158 := of_decide_eq_false hc158
          refine wp_skip ?_
          refine fx_next ?_
          refine wp_seq ?_
          refine wp_seq ?_
          refine wp_region_lit ?_  -- region 24
          refine fx_val (v := .pointer (some ⟨b137, 0, none⟩)) fr rfl rfl (by first | decide | simp) (x_fieldAddr fo36_0 rfl (fr.ev rfl) rfl) ?_
          clear fr a; intro a fr
          refine fx_val (v := .int .i64 ((wy.getD at9 msg0).kind)) fr rfl rfl (by first | decide | simp) (x_load1 pl33 rfl (fr.ev rfl) (B140.cell 0 rfl)) ?_
          clear fr a; intro a fr
          refine fx_val (v := .bool (decide ((wy.getD at9 msg0).kind = 7))) fr rfl rfl (by first | decide | simp) (x_eql rfl (fr.ev rfl) rfl rfl) ?_
          clear fr a; intro a fr
          refine fx_val (v := .bool (decide ((wy.getD at9 msg0).kind = 7))) fr rfl rfl (by first | decide | simp) (x_move rfl (fr.ev rfl)) ?_
          clear fr a; intro a fr
          refine fx_may (g := !(decide ((wy.getD at9 msg0).kind = 7))) (v := .pointer (some ⟨b137, 0, none⟩)) fr rfl rfl rfl (by simp) rfl (by first | decide | simp) (fun hg => x_fieldAddr fo36_0 rfl (fr.ev rfl) rfl) ?_
          clear fr a; intro a fr
          refine fx_may (g := !(decide ((wy.getD at9 msg0).kind = 7))) (v := .int .i64 ((wy.getD at9 msg0).kind)) fr rfl rfl rfl (by simp) rfl (by first | decide | simp) (fun hg => x_load1 pl33 rfl ((fr.ev rfl).trans (onlyIf_t hg)) (B140.cell 0 rfl)) ?_
          clear fr a; intro a fr
          refine fx_may (g := !(decide ((wy.getD at9 msg0).kind = 7))) (v := .bool (decide ((wy.getD at9 msg0).kind = 8))) fr rfl rfl rfl (by simp) rfl (by first | decide | simp) (fun hg => x_eql rfl ((fr.ev rfl).trans (onlyIf_t hg)) rfl rfl) ?_
          clear fr a; intro a fr
          refine fx_val (v := .bool ((decide ((wy.getD at9 msg0).kind = 7)) || (decide ((wy.getD at9 msg0).kind = 8)))) fr rfl rfl (by first | decide | simp) (x_pick_or rfl (fr.ev rfl) (fun _ => rfl) (fun hb => ((fr.ev rfl)).trans (onlyIf_t (by simp_all))) rfl) ?_
          clear fr a; intro a fr
          refine fx_val (v := .bool ((decide ((wy.getD at9 msg0).kind = 7)) || (decide ((wy.getD at9 msg0).kind = 8)))) fr rfl rfl (by first | decide | simp) (x_move rfl (fr.ev rfl)) ?_
          clear fr a; intro a fr
          refine fx_may (g := !((decide ((wy.getD at9 msg0).kind = 7)) || (decide ((wy.getD at9 msg0).kind = 8)))) (v := .pointer (some ⟨b137, 0, none⟩)) fr rfl rfl rfl (by simp) rfl (by first | decide | simp) (fun hg => x_fieldAddr fo36_0 rfl (fr.ev rfl) rfl) ?_
          clear fr a; intro a fr
          refine fx_may (g := !((decide ((wy.getD at9 msg0).kind = 7)) || (decide ((wy.getD at9 msg0).kind = 8)))) (v := .int .i64 ((wy.getD at9 msg0).kind)) fr rfl rfl rfl (by simp) rfl (by first | decide | simp) (fun hg => x_load1 pl33 rfl ((fr.ev rfl).trans (onlyIf_t hg)) (B140.cell 0 rfl)) ?_
          clear fr a; intro a fr
          refine fx_may (g := !((decide ((wy.getD at9 msg0).kind = 7)) || (decide ((wy.getD at9 msg0).kind = 8)))) (v := .bool (decide ((wy.getD at9 msg0).kind = 9))) fr rfl rfl rfl (by simp) rfl (by first | decide | simp) (fun hg => x_eql rfl ((fr.ev rfl).trans (onlyIf_t hg)) rfl rfl) ?_
          clear fr a; intro a fr
          refine fx_val (v := .bool (((decide ((wy.getD at9 msg0).kind = 7)) || (decide ((wy.getD at9 msg0).kind = 8))) || (decide ((wy.getD at9 msg0).kind = 9)))) fr rfl rfl (by first | decide | simp) (x_pick_or rfl (fr.ev rfl) (fun _ => rfl) (fun hb => ((fr.ev rfl)).trans (onlyIf_t (by simp_all))) rfl) ?_
          clear fr a; intro a fr
          refine fx_val (v := .bool (((decide ((wy.getD at9 msg0).kind = 7)) || (decide ((wy.getD at9 msg0).kind = 8))) || (decide ((wy.getD at9 msg0).kind = 9)))) fr rfl rfl (by first | decide | simp) (x_move rfl (fr.ev rfl)) ?_
          clear fr a; intro a fr
          refine fx_may (g := !(((decide ((wy.getD at9 msg0).kind = 7)) || (decide ((wy.getD at9 msg0).kind = 8))) || (decide ((wy.getD at9 msg0).kind = 9)))) (v := .pointer (some ⟨b137, 0, none⟩)) fr rfl rfl rfl (by simp) rfl (by first | decide | simp) (fun hg => x_fieldAddr fo36_0 rfl (fr.ev rfl) rfl) ?_
          clear fr a; intro a fr
          refine fx_may (g := !(((decide ((wy.getD at9 msg0).kind = 7)) || (decide ((wy.getD at9 msg0).kind = 8))) || (decide ((wy.getD at9 msg0).kind = 9)))) (v := .int .i64 ((wy.getD at9 msg0).kind)) fr rfl rfl rfl (by simp) rfl (by first | decide | simp) (fun hg => x_load1 pl33 rfl ((fr.ev rfl).trans (onlyIf_t hg)) (B140.cell 0 rfl)) ?_
          clear fr a; intro a fr
          refine fx_may (g := !(((decide ((wy.getD at9 msg0).kind = 7)) || (decide ((wy.getD at9 msg0).kind = 8))) || (decide ((wy.getD at9 msg0).kind = 9)))) (v := .bool (decide ((wy.getD at9 msg0).kind = 10))) fr rfl rfl rfl (by simp) rfl (by first | decide | simp) (fun hg => x_eql rfl ((fr.ev rfl).trans (onlyIf_t hg)) rfl rfl) ?_
          clear fr a; intro a fr
          refine fx_val (v := .bool ((((decide ((wy.getD at9 msg0).kind = 7)) || (decide ((wy.getD at9 msg0).kind = 8))) || (decide ((wy.getD at9 msg0).kind = 9))) || (decide ((wy.getD at9 msg0).kind = 10)))) fr rfl rfl (by first | decide | simp) (x_pick_or rfl (fr.ev rfl) (fun _ => rfl) (fun hb => ((fr.ev rfl)).trans (onlyIf_t (by simp_all))) rfl) ?_
          clear fr a; intro a fr
          refine wpList_nil ?_
          refine fx_next ?_
          refine fx_cond fr rfl (fun hc175 => ?_) (fun hc175 => ?_)
          · skip
            have hc175s := hc175
            try simp at hc175s
            refine wp_region_lit ?_  -- region 25
            refine fx_val (v := .int .i64 ((told : Nat) : Int)) fr rfl rfl (by first | decide | simp) (x_move rfl (fr.ev rfl)) ?_
            clear fr a; intro a fr
            refine fx_val (v := .int .i64 ((told + 1 : Nat) : Int)) fr rfl rfl (by first | decide | simp) (x_add rfl (fr.ev rfl) rfl (i64w (r := ((told + 1 : Nat) : Int)) (by omega) (by omega))) ?_
            clear fr a; intro a fr
            refine fx_val (v := .int .i64 ((told + 1 : Nat) : Int)) fr rfl rfl (by first | decide | simp) (x_assign rfl (fr.ev rfl)) ?_
            clear fr a; intro a fr
            refine wpList_nil ?_
            refine fx_next ?_
            refine wp_seq ?_
            refine wp_region_lit ?_  -- region 26
            refine fx_val (v := .agg (msgE.arr (wy.getD at9 msg0))) fr rfl rfl (by first | decide | simp) (x_loadE (E := msgE) ag36 rfl rfl (fr.ev rfl) (B140.rangeE msgE)) ?_
            clear fr a; intro a fr
            refine fx_val (v := .int .i64 ((turns : Nat) : Int)) fr rfl rfl (by first | decide | simp) (x_move rfl (fr.ev rfl)) ?_
            clear fr a; intro a fr
            refine fx_val (v := .int .u8 (IntKind.u8.wrap ((turns : Nat) : Int))) fr rfl rfl (by first | decide | simp) (x_convert Try.underlying3 Try.underlying5 rfl (fr.ev rfl) rfl) ?_
            clear fr a; intro a fr
            refine fx_call fr rfl rfl (by first | decide | simp) (x_call (vs := [.agg (msgE.arr (wy.getD at9 msg0)), .int .u8 (IntKind.u8.wrap ((turns : Nat) : Int))]) rfl rfl ⟨(fr.ev rfl), (fr.ev rfl), trivial⟩ Try.func16 nm16 rfl) (answer_c (wy.getD at9 msg0) (IntKind.u8.wrap ((turns : Nat) : Int)) (u8bd _) _) ?_
            clear fr a
            rintro v w176 ⟨rfl, hN177⟩ a fr
            replace HH := HH.new hN177
            replace OW := OW.new hN177
            replace B140 := B140.new hN177
            replace O155 := O155.new hN177
            replace hF := hF.trNew hN177
            refine fx_val (v := .tuple #[.agg (msgE.arr (ansF (wy.getD at9 msg0) (IntKind.u8.wrap ((turns : Nat) : Int)) (u8bd _)).1), .bool ((ansF (wy.getD at9 msg0) (IntKind.u8.wrap ((turns : Nat) : Int)) (u8bd _)).2)]) fr rfl rfl (by first | decide | simp) (x_move rfl (fr.ev rfl)) ?_
            clear fr a; intro a fr
            refine fx_val (v := .agg (msgE.arr (ansF (wy.getD at9 msg0) (IntKind.u8.wrap ((turns : Nat) : Int)) (u8bd _)).1)) fr rfl rfl (by first | decide | simp) (x_extract rfl (fr.ev rfl) rfl) ?_
            clear fr a; intro a fr
            refine fx_val (v := .bool ((ansF (wy.getD at9 msg0) (IntKind.u8.wrap ((turns : Nat) : Int)) (u8bd _)).2)) fr rfl rfl (by first | decide | simp) (x_extract rfl (fr.ev rfl) rfl) ?_
            clear fr a; intro a fr
            refine fx_new fr rfl rfl (by first | decide | simp) (x_alloc (z := .agg (#[.int .i64 0, .int .i64 0, .int .i64 0, .int .u32 0, .int .u8 0, .int .u8 0, .int .u8 0, .int .u8 0, .int .u8 0, .int .u8 0, .int .u8 0, .int .u8 0, .int .u8 0, .int .u8 0, .int .u8 0, .int .u8 0, .int .u8 0, .int .u8 0, .int .u8 0, .int .u8 0])) (cs := msgE.arr msg0) rfl (by kernel_rfl) rfl) ?_
            clear fr a
            intro b178 w179 hN180 B181 hb182 a fr
            have ap_FpX_b178 : ¬ FpX b178 := HH.apart hb182
            have ap_W2_b178 : Apart W2 b178 := OW.apart hb182
            have ne_b137_b178 : NE b137 b178 := NE.mk (Nat.lt_of_lt_of_le B140.lt hb182)
            have ap_A152_b178 : Apart A152 b178 := O155.apart hb182
            have g_b178 := Nat.le_trans hF.size hb182
            replace HH := HH.new hN180
            replace OW := OW.new hN180
            replace B140 := B140.new hN180
            replace O155 := O155.new hN180
            replace hF := hF.trNew hN180
            refine fx_storeS sz36 rfl rfl rfl (fr.ev rfl) (fr.ev rfl) (msgE.all _) B181 (msgE.size _) (msgE.size _) fun w183 hO184 hBq => ?_
            replace HH := HH.only hO184 (ne1P ap_FpX_b178)
            replace OW := OW.only hO184 (Apart.ne1 ap_W2_b178)
            replace B140 := B140.only hO184 (by first | exact ne_b137_b178 | exact ne_b178_b137.symm | (show ¬ b137 = b178; omega))
            replace O155 := O155.only hO184 (Apart.ne1 ap_A152_b178)
            replace hF := hF.loc hO184 (.inr g_b178)
            replace B181 := hBq
            clear hBq
            refine fx_val (v := .bool ((ansF (wy.getD at9 msg0) (IntKind.u8.wrap ((turns : Nat) : Int)) (u8bd _)).2)) fr rfl rfl (by first | decide | simp) (x_assign rfl (fr.ev rfl)) ?_
            clear fr a; intro a fr
            refine wpList_nil ?_
            refine fx_next ?_
            refine wp_seq ?_
            refine wp_region_lit ?_  -- region 27
            refine fx_val (v := .bool ((ansF (wy.getD at9 msg0) (IntKind.u8.wrap ((turns : Nat) : Int)) (u8bd _)).2)) fr rfl rfl (by first | decide | simp) (x_move rfl (fr.ev rfl)) ?_
            clear fr a; intro a fr
            refine wpList_nil ?_
            refine fx_next ?_
            refine fx_cond fr rfl (fun hc185 => ?_) (fun hc185 => ?_)
            · skip
              refine wp_region_lit ?_  -- region 28
              refine fx_val (v := .slice A152 (((wy.take at9) ++ (wy.drop (at9 + 1))).length) cap153) fr rfl rfl (by first | decide | simp) (x_move rfl (fr.ev rfl)) ?_
              clear fr a; intro a fr
              refine fx_val (v := .agg (msgE.arr (ansF (wy.getD at9 msg0) (IntKind.u8.wrap ((turns : Nat) : Int)) (u8bd _)).1)) fr rfl rfl (by first | decide | simp) (x_loadE (E := msgE) ag36 rfl rfl (fr.ev rfl) (B181.rangeE msgE)) ?_
              clear fr a; intro a fr
              refine fx_build1 (E := msgE) (p := (ansF (wy.getD at9 msg0) (IntKind.u8.wrap ((turns : Nat) : Int)) (u8bd _)).1) elMsg (by decide) fr rfl rfl (by decide) rfl (fr.ev rfl) ?_
              clear fr a
              intro A186 w187 hN188 O189 hA190 a fr
              have ap2_FpX_A186 : ∀ k, FpX k → inA A186 k → False := symP (new_apart2P hA190 fun _ hg => HH.lt hg)
              have ap2_W2_A186 : Apart2 W2 A186 := (new_apart2 hA190 fun _ hg => OW.lt hg).symm
              have ap_A186_b137 : Apart A186 b137 := new_apart hA190 B140.lt
              have ap2_A152_A186 : Apart2 A152 A186 := (new_apart2 hA190 fun _ hg => O155.lt hg).symm
              have ap_A186_b178 : Apart A186 b178 := new_apart hA190 B181.lt
              have gA_A186 := gA_new hF hA190
              have gN_A186 := fun g (hg : inA A186 g) => Nat.le_trans hF.size (hA190 g hg)
              replace HH := HH.new hN188
              replace OW := OW.new hN188
              replace B140 := B140.new hN188
              replace O155 := O155.new hN188
              replace B181 := B181.new hN188
              replace hF := hF.trNew hN188
              refine fx_append (E := msgE) (l := (wy.take at9) ++ (wy.drop (at9 + 1))) (l' := [(ansF (wy.getD at9 msg0) (IntKind.u8.wrap ((turns : Nat) : Int)) (u8bd _)).1]) elMsg fr rfl rfl (by decide) rfl (fr.ev rfl) (fr.ev rfl) (by first | rfl | (simp; done) | (simp; omega)) (by first | rfl | (simp; done) | (simp; omega)) O155 O189.view (by first | omega | (simp only [List.length_append, List.length_cons, List.length_nil, List.length_take, List.length_drop]; omega) | (simp; omega)) (by first | (unfold maxLen; done) | (unfold maxLen; first | omega | (simp only [List.length_append, List.length_cons, List.length_nil]; omega) | (simp; done) | (simp; omega))) ?_
              clear fr a
              intro A191 cap192 w193 O194 hO195 mv196 a fr
              have ap2_A191_FpX : ∀ k, inA A191 k → FpX k → False := moved_apart2P mv196 ap2_A152_FpX fun _ hg => HH.lt hg
              have ap2_A191_W2 : Apart2 A191 W2 := moved_apart2 mv196 ap2_A152_W2 fun _ hg => OW.lt hg
              have ap_A191_b137 : Apart A191 b137 := moved_apart mv196 ap_A152_b137 B140.lt
              have ap_A191_b178 : Apart A191 b178 := moved_apart mv196 ap_A152_b178 B181.lt
              have ap2_A191_A186 : Apart2 A191 A186 := moved_apart2 mv196 ap2_A152_A186 fun _ hg => O189.lt hg
              have gA_A191 := gA_moved hF mv196 gA_A152
              have gN_A191 := fun g (hg : inA A191 g) => (mv196 g hg).elim (gN_A152 g) (fun h => Nat.le_trans hF.size h)
              replace HH := HH.only hO195 (fun g h1 h2 => (symP ap2_A152_FpX) g h1 h2)
              replace OW := OW.only hO195 (fun g h1 h2 => ap2_A152_W2.symm g h1 h2)
              replace B140 := B140.only hO195 ap_A152_b137
              replace B181 := B181.only hO195 ap_A152_b178
              replace O189 := O189.only hO195 (fun g h1 h2 => ap2_A152_A186.symm g h1 h2)
              replace hF := hF.locA hO195 gA_A152
              clear O155
              refine fx_val (v := .slice A191 ((((wy.take at9) ++ (wy.drop (at9 + 1))) ++ ([(ansF (wy.getD at9 msg0) (IntKind.u8.wrap ((turns : Nat) : Int)) (u8bd _)).1])).length) cap192) fr rfl rfl (by first | decide | simp) (x_assign rfl (fr.ev rfl)) ?_
              clear fr a; intro a fr
              refine wpList_nil ?_
              refine fx_blk ?_
              refine fx_next ?_
              refine wp_region_lit ?_  -- region 15
              refine fx_val (v := .int .i64 ((turns : Nat) : Int)) fr rfl rfl (by first | decide | simp) (x_move rfl (fr.ev rfl)) ?_
              clear fr a; intro a fr
              refine fx_val (v := .int .i64 ((turns + 1 : Nat) : Int)) fr rfl rfl (by first | decide | simp) (x_add rfl (fr.ev rfl) rfl (i64w (r := ((turns + 1 : Nat) : Int)) (by omega) (by omega))) ?_
              clear fr a; intro a fr
              refine fx_val (v := .int .i64 ((turns + 1 : Nat) : Int)) fr rfl rfl (by first | decide | simp) (x_assign rfl (fr.ev rfl)) ?_
              clear fr a; intro a fr
              refine wpList_nil ?_
              refine fx_next ?_
              have hsa := hSv.answer (way_perm hatl9) hc158 (IntKind.u8.wrap ((turns : Nat) : Int)) (u8bd _)
              rw [if_pos (show (ansF (wy.getD at9 msg0) (IntKind.u8.wrap ((turns : Nat) : Int)) (u8bd _)).2 = true from hc185), if_pos (by have h9 := hc175; simp only [Bool.or_eq_true, decide_eq_true_eq] at h9; omega)] at hsa
              exact ⟨_, by omega, (turns + 1), hd, FpX, A191, cap192, (((wy.take at9) ++ (wy.drop (at9 + 1))) ++ ([(ansF (wy.getD at9 msg0) (IntKind.u8.wrap ((turns : Nat) : Int)) (u8bd _)).1])), (told + 1), rfl, fr.sub ⟨rfl, rfl, rfl, rfl, rfl, rfl, trivial⟩, hF, HH, O194, hsa, hEl, (symP ap2_A191_FpX), gA_FpX, gA_A191⟩
            · skip
              refine wp_skip ?_
              refine fx_blk ?_
              refine fx_next ?_
              refine wp_region_lit ?_  -- region 15
              refine fx_val (v := .int .i64 ((turns : Nat) : Int)) fr rfl rfl (by first | decide | simp) (x_move rfl (fr.ev rfl)) ?_
              clear fr a; intro a fr
              refine fx_val (v := .int .i64 ((turns + 1 : Nat) : Int)) fr rfl rfl (by first | decide | simp) (x_add rfl (fr.ev rfl) rfl (i64w (r := ((turns + 1 : Nat) : Int)) (by omega) (by omega))) ?_
              clear fr a; intro a fr
              refine fx_val (v := .int .i64 ((turns + 1 : Nat) : Int)) fr rfl rfl (by first | decide | simp) (x_assign rfl (fr.ev rfl)) ?_
              clear fr a; intro a fr
              refine wpList_nil ?_
              refine fx_next ?_
              have hsa := hSv.answer (way_perm hatl9) hc158 (IntKind.u8.wrap ((turns : Nat) : Int)) (u8bd _)
              rw [if_neg (show ¬ (ansF (wy.getD at9 msg0) (IntKind.u8.wrap ((turns : Nat) : Int)) (u8bd _)).2 = true from (by rw [hc185]; decide)), if_pos (by have h9 := hc175; simp only [Bool.or_eq_true, decide_eq_true_eq] at h9; omega)] at hsa
              rw [List.append_nil] at hsa
              exact ⟨_, by omega, (turns + 1), hd, FpX, A152, cap153, ((wy.take at9) ++ (wy.drop (at9 + 1))), (told + 1), rfl, fr.sub ⟨rfl, rfl, rfl, rfl, rfl, rfl, trivial⟩, hF, HH, O155, hsa, hEl, (symP ap2_A152_FpX), gA_FpX, gA_A152⟩
          · skip
            have hc175s := hc175
            try simp at hc175s
            refine wp_skip ?_
            refine fx_next ?_
            refine wp_seq ?_
            refine wp_region_lit ?_  -- region 26
            refine fx_val (v := .agg (msgE.arr (wy.getD at9 msg0))) fr rfl rfl (by first | decide | simp) (x_loadE (E := msgE) ag36 rfl rfl (fr.ev rfl) (B140.rangeE msgE)) ?_
            clear fr a; intro a fr
            refine fx_val (v := .int .i64 ((turns : Nat) : Int)) fr rfl rfl (by first | decide | simp) (x_move rfl (fr.ev rfl)) ?_
            clear fr a; intro a fr
            refine fx_val (v := .int .u8 (IntKind.u8.wrap ((turns : Nat) : Int))) fr rfl rfl (by first | decide | simp) (x_convert Try.underlying3 Try.underlying5 rfl (fr.ev rfl) rfl) ?_
            clear fr a; intro a fr
            refine fx_call fr rfl rfl (by first | decide | simp) (x_call (vs := [.agg (msgE.arr (wy.getD at9 msg0)), .int .u8 (IntKind.u8.wrap ((turns : Nat) : Int))]) rfl rfl ⟨(fr.ev rfl), (fr.ev rfl), trivial⟩ Try.func16 nm16 rfl) (answer_c (wy.getD at9 msg0) (IntKind.u8.wrap ((turns : Nat) : Int)) (u8bd _) _) ?_
            clear fr a
            rintro v w197 ⟨rfl, hN198⟩ a fr
            replace HH := HH.new hN198
            replace OW := OW.new hN198
            replace B140 := B140.new hN198
            replace O155 := O155.new hN198
            replace hF := hF.trNew hN198
            refine fx_val (v := .tuple #[.agg (msgE.arr (ansF (wy.getD at9 msg0) (IntKind.u8.wrap ((turns : Nat) : Int)) (u8bd _)).1), .bool ((ansF (wy.getD at9 msg0) (IntKind.u8.wrap ((turns : Nat) : Int)) (u8bd _)).2)]) fr rfl rfl (by first | decide | simp) (x_move rfl (fr.ev rfl)) ?_
            clear fr a; intro a fr
            refine fx_val (v := .agg (msgE.arr (ansF (wy.getD at9 msg0) (IntKind.u8.wrap ((turns : Nat) : Int)) (u8bd _)).1)) fr rfl rfl (by first | decide | simp) (x_extract rfl (fr.ev rfl) rfl) ?_
            clear fr a; intro a fr
            refine fx_val (v := .bool ((ansF (wy.getD at9 msg0) (IntKind.u8.wrap ((turns : Nat) : Int)) (u8bd _)).2)) fr rfl rfl (by first | decide | simp) (x_extract rfl (fr.ev rfl) rfl) ?_
            clear fr a; intro a fr
            refine fx_new fr rfl rfl (by first | decide | simp) (x_alloc (z := .agg (#[.int .i64 0, .int .i64 0, .int .i64 0, .int .u32 0, .int .u8 0, .int .u8 0, .int .u8 0, .int .u8 0, .int .u8 0, .int .u8 0, .int .u8 0, .int .u8 0, .int .u8 0, .int .u8 0, .int .u8 0, .int .u8 0, .int .u8 0, .int .u8 0, .int .u8 0, .int .u8 0])) (cs := msgE.arr msg0) rfl (by kernel_rfl) rfl) ?_
            clear fr a
            intro b199 w200 hN201 B202 hb203 a fr
            have ap_FpX_b199 : ¬ FpX b199 := HH.apart hb203
            have ap_W2_b199 : Apart W2 b199 := OW.apart hb203
            have ne_b137_b199 : NE b137 b199 := NE.mk (Nat.lt_of_lt_of_le B140.lt hb203)
            have ap_A152_b199 : Apart A152 b199 := O155.apart hb203
            have g_b199 := Nat.le_trans hF.size hb203
            replace HH := HH.new hN201
            replace OW := OW.new hN201
            replace B140 := B140.new hN201
            replace O155 := O155.new hN201
            replace hF := hF.trNew hN201
            refine fx_storeS sz36 rfl rfl rfl (fr.ev rfl) (fr.ev rfl) (msgE.all _) B202 (msgE.size _) (msgE.size _) fun w204 hO205 hBq => ?_
            replace HH := HH.only hO205 (ne1P ap_FpX_b199)
            replace OW := OW.only hO205 (Apart.ne1 ap_W2_b199)
            replace B140 := B140.only hO205 (by first | exact ne_b137_b199 | exact ne_b199_b137.symm | (show ¬ b137 = b199; omega))
            replace O155 := O155.only hO205 (Apart.ne1 ap_A152_b199)
            replace hF := hF.loc hO205 (.inr g_b199)
            replace B202 := hBq
            clear hBq
            refine fx_val (v := .bool ((ansF (wy.getD at9 msg0) (IntKind.u8.wrap ((turns : Nat) : Int)) (u8bd _)).2)) fr rfl rfl (by first | decide | simp) (x_assign rfl (fr.ev rfl)) ?_
            clear fr a; intro a fr
            refine wpList_nil ?_
            refine fx_next ?_
            refine wp_seq ?_
            refine wp_region_lit ?_  -- region 27
            refine fx_val (v := .bool ((ansF (wy.getD at9 msg0) (IntKind.u8.wrap ((turns : Nat) : Int)) (u8bd _)).2)) fr rfl rfl (by first | decide | simp) (x_move rfl (fr.ev rfl)) ?_
            clear fr a; intro a fr
            refine wpList_nil ?_
            refine fx_next ?_
            refine fx_cond fr rfl (fun hc206 => ?_) (fun hc206 => ?_)
            · skip
              refine wp_region_lit ?_  -- region 28
              refine fx_val (v := .slice A152 (((wy.take at9) ++ (wy.drop (at9 + 1))).length) cap153) fr rfl rfl (by first | decide | simp) (x_move rfl (fr.ev rfl)) ?_
              clear fr a; intro a fr
              refine fx_val (v := .agg (msgE.arr (ansF (wy.getD at9 msg0) (IntKind.u8.wrap ((turns : Nat) : Int)) (u8bd _)).1)) fr rfl rfl (by first | decide | simp) (x_loadE (E := msgE) ag36 rfl rfl (fr.ev rfl) (B202.rangeE msgE)) ?_
              clear fr a; intro a fr
              refine fx_build1 (E := msgE) (p := (ansF (wy.getD at9 msg0) (IntKind.u8.wrap ((turns : Nat) : Int)) (u8bd _)).1) elMsg (by decide) fr rfl rfl (by decide) rfl (fr.ev rfl) ?_
              clear fr a
              intro A207 w208 hN209 O210 hA211 a fr
              have ap2_FpX_A207 : ∀ k, FpX k → inA A207 k → False := symP (new_apart2P hA211 fun _ hg => HH.lt hg)
              have ap2_W2_A207 : Apart2 W2 A207 := (new_apart2 hA211 fun _ hg => OW.lt hg).symm
              have ap_A207_b137 : Apart A207 b137 := new_apart hA211 B140.lt
              have ap2_A152_A207 : Apart2 A152 A207 := (new_apart2 hA211 fun _ hg => O155.lt hg).symm
              have ap_A207_b199 : Apart A207 b199 := new_apart hA211 B202.lt
              have gA_A207 := gA_new hF hA211
              have gN_A207 := fun g (hg : inA A207 g) => Nat.le_trans hF.size (hA211 g hg)
              replace HH := HH.new hN209
              replace OW := OW.new hN209
              replace B140 := B140.new hN209
              replace O155 := O155.new hN209
              replace B202 := B202.new hN209
              replace hF := hF.trNew hN209
              refine fx_append (E := msgE) (l := (wy.take at9) ++ (wy.drop (at9 + 1))) (l' := [(ansF (wy.getD at9 msg0) (IntKind.u8.wrap ((turns : Nat) : Int)) (u8bd _)).1]) elMsg fr rfl rfl (by decide) rfl (fr.ev rfl) (fr.ev rfl) (by first | rfl | (simp; done) | (simp; omega)) (by first | rfl | (simp; done) | (simp; omega)) O155 O210.view (by first | omega | (simp only [List.length_append, List.length_cons, List.length_nil, List.length_take, List.length_drop]; omega) | (simp; omega)) (by first | (unfold maxLen; done) | (unfold maxLen; first | omega | (simp only [List.length_append, List.length_cons, List.length_nil]; omega) | (simp; done) | (simp; omega))) ?_
              clear fr a
              intro A212 cap213 w214 O215 hO216 mv217 a fr
              have ap2_A212_FpX : ∀ k, inA A212 k → FpX k → False := moved_apart2P mv217 ap2_A152_FpX fun _ hg => HH.lt hg
              have ap2_A212_W2 : Apart2 A212 W2 := moved_apart2 mv217 ap2_A152_W2 fun _ hg => OW.lt hg
              have ap_A212_b137 : Apart A212 b137 := moved_apart mv217 ap_A152_b137 B140.lt
              have ap_A212_b199 : Apart A212 b199 := moved_apart mv217 ap_A152_b199 B202.lt
              have ap2_A212_A207 : Apart2 A212 A207 := moved_apart2 mv217 ap2_A152_A207 fun _ hg => O210.lt hg
              have gA_A212 := gA_moved hF mv217 gA_A152
              have gN_A212 := fun g (hg : inA A212 g) => (mv217 g hg).elim (gN_A152 g) (fun h => Nat.le_trans hF.size h)
              replace HH := HH.only hO216 (fun g h1 h2 => (symP ap2_A152_FpX) g h1 h2)
              replace OW := OW.only hO216 (fun g h1 h2 => ap2_A152_W2.symm g h1 h2)
              replace B140 := B140.only hO216 ap_A152_b137
              replace B202 := B202.only hO216 ap_A152_b199
              replace O210 := O210.only hO216 (fun g h1 h2 => ap2_A152_A207.symm g h1 h2)
              replace hF := hF.locA hO216 gA_A152
              clear O155
              refine fx_val (v := .slice A212 ((((wy.take at9) ++ (wy.drop (at9 + 1))) ++ ([(ansF (wy.getD at9 msg0) (IntKind.u8.wrap ((turns : Nat) : Int)) (u8bd _)).1])).length) cap213) fr rfl rfl (by first | decide | simp) (x_assign rfl (fr.ev rfl)) ?_
              clear fr a; intro a fr
              refine wpList_nil ?_
              refine fx_blk ?_
              refine fx_next ?_
              refine wp_region_lit ?_  -- region 15
              refine fx_val (v := .int .i64 ((turns : Nat) : Int)) fr rfl rfl (by first | decide | simp) (x_move rfl (fr.ev rfl)) ?_
              clear fr a; intro a fr
              refine fx_val (v := .int .i64 ((turns + 1 : Nat) : Int)) fr rfl rfl (by first | decide | simp) (x_add rfl (fr.ev rfl) rfl (i64w (r := ((turns + 1 : Nat) : Int)) (by omega) (by omega))) ?_
              clear fr a; intro a fr
              refine fx_val (v := .int .i64 ((turns + 1 : Nat) : Int)) fr rfl rfl (by first | decide | simp) (x_assign rfl (fr.ev rfl)) ?_
              clear fr a; intro a fr
              refine wpList_nil ?_
              refine fx_next ?_
              have hsa := hSv.answer (way_perm hatl9) hc158 (IntKind.u8.wrap ((turns : Nat) : Int)) (u8bd _)
              rw [if_pos (show (ansF (wy.getD at9 msg0) (IntKind.u8.wrap ((turns : Nat) : Int)) (u8bd _)).2 = true from hc206), if_neg (by have h9 := hc175; simp only [Bool.or_eq_false_iff, decide_eq_false_iff_not] at h9; omega)] at hsa
              exact ⟨_, by omega, (turns + 1), hd, FpX, A212, cap213, (((wy.take at9) ++ (wy.drop (at9 + 1))) ++ ([(ansF (wy.getD at9 msg0) (IntKind.u8.wrap ((turns : Nat) : Int)) (u8bd _)).1])), (told), rfl, fr.sub ⟨rfl, rfl, rfl, rfl, rfl, rfl, trivial⟩, hF, HH, O215, hsa, hEl, (symP ap2_A212_FpX), gA_FpX, gA_A212⟩
            · skip
              refine wp_skip ?_
              refine fx_blk ?_
              refine fx_next ?_
              refine wp_region_lit ?_  -- region 15
              refine fx_val (v := .int .i64 ((turns : Nat) : Int)) fr rfl rfl (by first | decide | simp) (x_move rfl (fr.ev rfl)) ?_
              clear fr a; intro a fr
              refine fx_val (v := .int .i64 ((turns + 1 : Nat) : Int)) fr rfl rfl (by first | decide | simp) (x_add rfl (fr.ev rfl) rfl (i64w (r := ((turns + 1 : Nat) : Int)) (by omega) (by omega))) ?_
              clear fr a; intro a fr
              refine fx_val (v := .int .i64 ((turns + 1 : Nat) : Int)) fr rfl rfl (by first | decide | simp) (x_assign rfl (fr.ev rfl)) ?_
              clear fr a; intro a fr
              refine wpList_nil ?_
              refine fx_next ?_
              have hsa := hSv.answer (way_perm hatl9) hc158 (IntKind.u8.wrap ((turns : Nat) : Int)) (u8bd _)
              rw [if_neg (show ¬ (ansF (wy.getD at9 msg0) (IntKind.u8.wrap ((turns : Nat) : Int)) (u8bd _)).2 = true from (by rw [hc206]; decide)), if_neg (by have h9 := hc175; simp only [Bool.or_eq_false_iff, decide_eq_false_iff_not] at h9; omega)] at hsa
              rw [List.append_nil] at hsa
              exact ⟨_, by omega, (turns + 1), hd, FpX, A152, cap153, ((wy.take at9) ++ (wy.drop (at9 + 1))), (told), rfl, fr.sub ⟨rfl, rfl, rfl, rfl, rfl, rfl, trivial⟩, hF, HH, O155, hsa, hEl, (symP ap2_A152_FpX), gA_FpX, gA_A152⟩
      · skip
        have hc129s := hc129
        try simp at hc129s
        refine wp_exit ?_
        refine fx_xt ?_
        refine fx_xt ?_
        refine fx_xx ?_
        refine fx_next ?_
        refine wp_seq ?_
        have hw0 : wy.length = 0 := by
          rcases Nat.eq_zero_or_pos wy.length with e | e
          · exact e
          · exfalso
            rw [decide_eq_true (show 0 < ((wy.length : Nat) : Int) by omega), decide_eq_true (show ((turns : Nat) : Int) < 400 by omega)] at hc129
            cases hc129
        have hdn : told = wy0.length ∧ idleB hd.E = true := by
          have h9 := hSv
          rw [List.eq_nil_of_length_eq_zero hw0] at h9
          exact h9.done
        have hw1 : ((wy.length : Nat) : Int) = 0 := by omega
        have hw2 : ((ask : Nat) : Int) = ((told : Nat) : Int) := by omega
        have hidl := hdn.2
        refine wp_region_lit ?_  -- region 29
        refine fx_val (v := .slice W2 wy.length wc2) fr rfl rfl (by first | decide | simp) (x_move rfl (fr.ev rfl)) ?_
        clear fr a; intro a fr
        refine fx_val (v := .int .i64 ((wy.length : Nat) : Int)) fr rfl rfl (by first | decide | simp) (x_len Try.underlying23 rfl (fr.ev rfl)) ?_
        clear fr a; intro a fr
        refine fx_val (v := .bool true) fr rfl rfl (by first | decide | simp) (x_eql rfl (fr.ev rfl) rfl (decide_eq_true (by omega))) ?_
        clear fr a; intro a fr
        refine fx_val (v := .bool true) fr rfl rfl (by first | decide | simp) (x_move rfl (fr.ev rfl)) ?_
        clear fr a; intro a fr
        refine fx_val (v := .int .i64 ((ask : Nat) : Int)) fr (fr.want rfl rfl rfl) rfl (by first | decide | simp) (x_move rfl (fr.ev rfl)) ?_
        clear fr a; intro a fr
        refine fx_val (v := .int .i64 ((told : Nat) : Int)) fr (fr.want rfl rfl rfl) rfl (by first | decide | simp) (x_move rfl (fr.ev rfl)) ?_
        clear fr a; intro a fr
        refine fx_val (v := .bool true) fr (fr.want rfl rfl rfl) rfl (by first | decide | simp) (x_eql rfl (fr.ev rfl) (fr.ev rfl) (decide_eq_true hw2)) ?_
        clear fr a; intro a fr
        refine fx_val (v := .bool true) fr rfl rfl (by first | decide | simp) (x_pick_t rfl (fr.ev rfl) (fr.ev rfl)) ?_
        clear fr a; intro a fr
        refine fx_val (v := .bool true) fr rfl rfl (by first | decide | simp) (x_move rfl (fr.ev rfl)) ?_
        clear fr a; intro a fr
        refine fx_val (v := .pointer (some ⟨hb1, 0, none⟩)) fr (fr.want rfl rfl rfl) rfl (by first | decide | simp) (x_move rfl (fr.ev rfl)) ?_
        clear fr a; intro a fr
        refine fx_call fr (fr.want rfl rfl rfl) rfl (by first | decide | simp) (x_call (vs := [.pointer (some ⟨hb1, 0, none⟩)]) rfl rfl ⟨(fr.ev rfl), trivial⟩ Try.func17 nm17 rfl) (idle_h HH) ?_
        clear fr a
        rintro v w218 ⟨rfl, hN219⟩ a fr
        replace HH := HH.new hN219
        replace OW := OW.new hN219
        replace hF := hF.trNew hN219
        rw [hidl] at fr
        refine fx_val (v := .bool true) fr rfl rfl (by first | decide | simp) (x_pick_t rfl (fr.ev rfl) (fr.ev rfl)) ?_
        clear fr a; intro a fr
        refine fx_val (v := .bool true) fr rfl rfl (by first | decide | simp) (x_move rfl (fr.ev rfl)) ?_
        clear fr a; intro a fr
        refine fx_call fr (fr.want rfl rfl rfl) rfl (by first | decide | simp) (x_call (vs := []) rfl rfl trivial Try.func11 nm11 rfl) (known_c _) ?_
        clear fr a
        rintro v w220 ⟨rfl, hN221⟩ a fr
        replace HH := HH.new hN221
        replace OW := OW.new hN221
        replace hF := hF.trNew hN221
        refine fx_val (v := .bool true) fr rfl rfl (by first | decide | simp) (x_pick_t rfl (fr.ev rfl) (fr.ev rfl)) ?_
        clear fr a; intro a fr
        refine fx_val (v := .bool true) fr rfl rfl (by first | decide | simp) (x_assign rfl (fr.ev rfl)) ?_
        clear fr a; intro a fr
        refine wpList_nil ?_
        refine fx_next ?_
        refine wp_ret ?_
        refine fx_ret fr [.tmp 6] [.bool true] rfl ⟨rfl, trivial⟩ rfl ?_
        exact ⟨_, rfl, rfl, hF⟩
end Go.Proofs.Ytdiaemlgghfecaa
namespace Go.Proofs.Ytdiaemlgghfecaa
open Go.RowKit Go.ChangeShapes Go.WideShapes Go.ChangeAt Go.Deep
section
variable {H : Type} {enc : TypeId × Value → H} {P : Program} {w : World} {base : Nat} {spare : Nat → Bool} {held : Bool} {fuel : Nat} {cs : List Value} {x : DataW H × List MemPlace}
theorem piece {q n : Nat} {a b : List Value} (h1 : (cs.drop q).take n = a) (h2 : cs.drop (q + n) = b) : cs.drop q = a ++ b := by
  rw [← h1, ← h2, ← List.drop_drop, List.take_append_drop]
theorem has_addr {r : Reach} {a : Addr} {e n : Nat} (h : w.has P r base a e n) : ∃ g o, a = ⟨g, o, none⟩ ∧ g < w.heap.size := by
  obtain ⟨_, h1, row, cells, h2, _⟩ := h
  obtain ⟨g, o, s⟩ := a
  subst h1
  refine ⟨g, o, rfl, ?_⟩
  unfold World.shape? at h2
  rcases Nat.lt_or_ge g w.heap.size with h | h
  · exact h
  · have : w.heap[g]? = none := Array.getElem?_eq_none h
    simp [this] at h2
theorem add_none (g o i : Nat) : (⟨g, o, none⟩ : Addr).add i = ⟨g, o + i, none⟩ := by
  unfold Addr.add
  by_cases h : i = 0 <;> simp [h]
theorem open_recs {α : Type} [DecidableEq α] {E : Enc P α} {OK : α → Prop} {t : TypeId} {r : Reach} {b0 : Nat} {v : Value} {d : DataW H} {p : List MemPlace} (ht : P.underlying t = some (.slice E.T)) (hC : P.cellsOf E.T = E.n)
    (hel : ∀ fuel cs x, DataW.trod enc P w base (fun _ => true) held fuel E.T cs = some x → ∃ m, OK m ∧ cs = E.cells m) (hv : Value.okWide P w r b0 t v) (h : DataW.Trod enc P w base (fun _ => true) held t v d p) :
    ∃ A cap l, v = .slice A l.length cap ∧ View E w A cap l ∧ ∀ m ∈ l, OK m := by
  obtain ⟨a0, len, cap, rfl⟩ := okWide_slice ht hv
  obtain ⟨fuel, hf⟩ := h
  rcases open_slice ht hf with ⟨hcs, _⟩ | ⟨a, l, c, m, n, D, Pl, hcs, _, hl, hm, hz, _, hcell⟩
  · simp [Value.cells] at hcs
    obtain ⟨rfl, rfl, rfl⟩ := hcs
    exact ⟨none, 0, [], rfl, View.nil, by simp⟩
  · simp [Value.cells] at hcs
    obtain ⟨rfl, rfl, rfl⟩ := hcs
    rw [if_pos rfl] at hz
    subst hz
    have hh : w.has P r b0 a E.T m := by
      unfold Value.okWide at hv
      rw [ht] at hv
      simp only [Cell.okWide, ht, Cell.ok] at hv
      exact hv.2.2
    obtain ⟨g, o, rfl, hg⟩ := has_addr hh
    rw [hC] at hcell
    have hb : ∀ i : Fin len, ∃ q : α, OK q ∧ w.rangeAt g (o + i.1 * E.n) (E.cells q) := by
      intro i
      obtain ⟨cs', h1, h2⟩ := hcell i.1 (by omega)
      obtain ⟨q, hq, rfl⟩ := hel _ _ _ h2
      obtain ⟨_, hcl, hat⟩ := World.cells?_some h1
      refine ⟨q, hq, fun j v hj => ?_⟩
      have hjl := (List.getElem?_eq_some_iff.1 hj).1
      have := hat j (by omega)
      rw [add_none, add_none] at this
      rw [this, hj]
    obtain ⟨f, hf⟩ : ∃ f : Fin len → α, ∀ i, OK (f i) ∧ w.rangeAt g (o + i.1 * E.n) (E.cells (f i)) := ⟨fun i => (hb i).choose, fun i => (hb i).choose_spec⟩
    refine ⟨some ⟨g, o, none⟩, m, List.ofFn f, by simp, ⟨by simp; omega, hm, .inr ⟨g, o, rfl, hg, fun j v hj => ?_⟩⟩, ?_⟩
    · have hjl := (List.getElem?_eq_some_iff.1 hj).1
      rw [flat_len, List.length_ofFn] at hjl
      have hn := E.pos
      have hq : j / E.n < len := (Nat.div_lt_iff_lt_mul hn).2 hjl
      have hr : j % E.n < E.n := Nat.mod_lt _ hn
      have hj2 : j / E.n * E.n + j % E.n = j := by rw [Nat.mul_comm]; exact Nat.div_add_mod j E.n
      have e1 := flat_drop (E := E) (List.ofFn f) (j / E.n) (by simpa using hq)
      have e2 : (E.cells (f ⟨j / E.n, hq⟩))[j % E.n]? = some v := by
        rw [List.getElem_ofFn] at e1
        rw [← e1, List.getElem?_take, if_pos hr, List.getElem?_drop, hj2]
        exact hj
      have := (hf ⟨j / E.n, hq⟩).2 (j % E.n) v e2
      rw [← this]
      show _ = w.cell? ⟨g, o + j / E.n * E.n + j % E.n, none⟩
      rw [Nat.add_assoc, hj2]
    · intro q hq
      obtain ⟨i, rfl⟩ := List.mem_ofFn.1 hq
      exact (hf i).1
end
end Go.Proofs.Ytdiaemlgghfecaa
namespace Go.Proofs.Ytdiaemlgghfecaa
open Go.RowKit Go.ChangeShapes Go.WideShapes Go.ChangeAt
section
variable {H : Type} {enc : TypeId × Value → H} {w : World} {base : Nat} {spare : Nat → Bool} {held : Bool} {fuel : Nat} {cs : List Value} {x : DataW H × List MemPlace}
theorem cellsACT : Try.prog.cellsOf 49 = 4 := by kernel_rfl
theorem cellsKIND : Try.prog.cellsOf 33 = 1 := by kernel_rfl
theorem cellsU8 : Try.prog.cellsOf 5 = 1 := by kernel_rfl
theorem cellsI64 : Try.prog.cellsOf 3 = 1 := by kernel_rfl
theorem wf_u8 {a : Int} (h : (Lit.int .u8 a).wf = true) : 0 ≤ a ∧ a < 256 := by
  simp [Lit.wf, IntKind.min, IntKind.max, IntKind.signed, IntKind.bits] at h
  omega
theorem wf_i64 {a : Int} (h : (Lit.int .i64 a).wf = true) : -9223372036854775808 ≤ a ∧ a ≤ 9223372036854775807 := by
  simp [Lit.wf, IntKind.min, IntKind.max, IntKind.signed, IntKind.bits] at h
  omega
theorem trod_act (h : DataW.trod enc Try.prog w base spare held fuel 49 cs = some x) : ∃ m : Hact, (-9223372036854775808 ≤ m.cache ∧ m.cache ≤ 9223372036854775807 ∧ -9223372036854775808 ≤ m.line ∧ m.line ≤ 9223372036854775807) ∧ cs = m.cells := by
  obtain ⟨xs, n, _, _, hl, hlen, hg⟩ := DataW.trod_struct Try.underlying49 h
  rw [cellsACT] at hl
  match xs, hlen with
  | [y0, y1, y2, y3], _ =>
    have h0 : DataW.trod enc Try.prog w base spare held n 3 ((cs.drop 0).take (Try.prog.cellsOf 3)) = some y0 := hg 0 _ rfl
    rw [cellsI64] at h0
    have h1 : DataW.trod enc Try.prog w base spare held n 3 ((cs.drop 1).take (Try.prog.cellsOf 3)) = some y1 := hg 1 _ rfl
    rw [cellsI64] at h1
    have h2 : DataW.trod enc Try.prog w base spare held n 33 ((cs.drop 2).take (Try.prog.cellsOf 33)) = some y2 := hg 2 _ rfl
    rw [cellsKIND] at h2
    have h3 : DataW.trod enc Try.prog w base spare held n 5 ((cs.drop 3).take (Try.prog.cellsOf 5)) = some y3 := hg 3 _ rfl
    rw [cellsU8] at h3
    obtain ⟨a0, e0, _, w0⟩ := DataW.trod_int Try.underlying3 h0
    obtain ⟨a1, e1, _, w1⟩ := DataW.trod_int Try.underlying3 h1
    obtain ⟨a2, e2, _⟩ := DataW.trod_int Try.underlying33 h2
    obtain ⟨a3, e3, _, w3⟩ := DataW.trod_int Try.underlying5 h3
    refine ⟨⟨a0, a1, a2, a3, wf_u8 w3⟩, ⟨(wf_i64 w0).1, (wf_i64 w0).2, wf_i64 w1⟩, ?_⟩
    have p4 : cs.drop 4 = [] := List.drop_eq_nil_of_le (by omega)
    have p3 := piece e3 p4
    have p2 := piece e2 p3
    have p1 := piece e1 p2
    have p0 := piece e0 p1
    rw [List.drop_zero] at p0
    rw [p0]
    simp [Hact.cells]
theorem trod_byte (h : DataW.trod enc Try.prog w base spare held fuel 5 cs = some x) : ∃ m : UInt8, True ∧ cs = byE.cells m := by
  obtain ⟨a, e, _, wa⟩ := DataW.trod_int Try.underlying5 h
  have := wf_u8 wa
  refine ⟨UInt8.ofNat a.toNat, trivial, ?_⟩
  rw [e]
  show _ = [u8v _]
  unfold u8v
  congr 2
  simp
  omega
def ActsArg (w : World) (v : Value) : Prop := ∃ A cap l, v = .slice A l.length cap ∧ View hactE w A cap l ∧ ∀ m ∈ l, -9223372036854775808 ≤ m.cache ∧ m.cache ≤ 9223372036854775807 ∧ -9223372036854775808 ≤ m.line ∧ m.line ≤ 9223372036854775807
def BytArg (w : World) (v : Value) : Prop := ∃ A cap l, v = .slice A l.length cap ∧ View byE w A cap l
set_option maxRecDepth 100000 in
theorem open_acts {r : Reach} {b0 : Nat} {v : Value} {d : DataW H} {p : List MemPlace} (hv : Value.okWide Try.prog w r b0 47 v) (h : DataW.Trod enc Try.prog w base (fun _ => true) held 47 v d p) : ActsArg w v :=
  open_recs (E := hactE) Try.underlying47 cellsACT (fun _ _ _ => trod_act) hv h
set_option maxRecDepth 100000 in
theorem open_byts {r : Reach} {b0 : Nat} {v : Value} {d : DataW H} {p : List MemPlace} (hv : Value.okWide Try.prog w r b0 22 v) (h : DataW.Trod enc Try.prog w base (fun _ => true) held 22 v d p) : BytArg w v := by
  obtain ⟨A, cap, l, h1, h2, _⟩ := open_recs (E := byE) (OK := fun _ => True) Try.underlying22 cellsU8 (fun _ _ _ => trod_byte) hv h
  exact ⟨A, cap, l, h1, h2⟩
end
end Go.Proofs.Ytdiaemlgghfecaa
namespace Go.Proofs.Ytdiaemlgghfecaa
open Go.RowKit
set_option linter.unusedVariables false
theorem walk_HomeServes (w : World) (v0 : Value) (hv0 : BytArg w v0) (v1 : Value) (hv1 : ActsArg w v1) (a2 : Int) (h2 : (Lit.int .i64 a2).wf = true) : Calls Try.prog 4 #[v0, v1, .int .i64 a2] w fun e w' => e = .returned (.bool true) ∧ Below w.heap.size w w' := by
  obtain ⟨A0, c0, l0, rfl, hv0⟩ := hv0
  obtain ⟨A1, c1, l1, rfl, hv1, hl1⟩ := hv1
  cases hs : sizeB l0 with
  | false =>
    refine (serves_no hv0 hv1 a2 hs).mono ?_
    rintro e w' ⟨v, rfl, rfl, hn⟩
    exact ⟨rfl, hn.nb⟩
  | true =>
    refine (serves_yes hv0 hv1 a2 hs).mono ?_
    rintro e w' ⟨v, rfl, rfl, hn⟩
    exact ⟨rfl, hn.nb⟩
end Go.Proofs.Ytdiaemlgghfecaa
