/-
  Part 5 of what the claim stands on: walks through the code, plain laws.
-/
import Derived.Test.YtflnlmibkbojcaaZEnds4
set_option maxRecDepth 100000
set_option maxHeartbeats 4000000
namespace Go.Proofs.Ytflnlmibkbojcaa
open Go.RowKit
def role (m : Msg) : List (Nat × Int) :=
  if m.kind = 4 ∨ m.kind = 5 then [(0, m.dst)] else if m.kind = 11 then [(0, m.src)] else if m.kind = 6 then [(1, m.dst)] else if m.kind = 12 then [(1, m.src)]
  else if m.kind = 8 ∨ m.kind = 9 ∨ m.kind = 10 then [(2, m.dst)] else if m.kind = 13 then [(2, m.src)] else []
def rl (n : Int) (m : Msg) : List (Nat × Int) := if m.line = n then role m else []
def rolesOf (n : Int) (way : List Msg) : List (Nat × Int) := way.flatMap (rl n)
def qcost (m : Msg) : Nat := if m.kind = 3 then 1 else 8
def cost (m : Msg) : Nat := if m.kind = 1 ∨ m.kind = 2 then 9 else if m.kind = 3 then 2 else if m.kind = 4 ∨ m.kind = 5 ∨ m.kind = 6 ∨ m.kind = 8 ∨ m.kind = 9 ∨ m.kind = 10 then 2 else if m.kind = 7 ∨ m.kind = 11 ∨ m.kind = 12 ∨ m.kind = 13 then 1 else 0
def pend (m : Msg) : Nat := if m.kind = 1 ∨ m.kind = 2 ∨ m.kind = 3 ∨ m.kind = 7 ∨ m.kind = 8 ∨ m.kind = 9 ∨ m.kind = 10 then 1 else 0
def owes (d : Ent) : Bool := d.busy && !d.told
def sumF {α : Type} (f : α → Nat) (l : List α) : Nat := (l.map f).sum
def ecost (d : Ent) : Nat := (if owes d then 2 else 0) + sumF qcost d.q
def epend (d : Ent) : Nat := (if owes d then 1 else 0) + d.q.length
structure Good (N : Nat) (m : Msg) : Prop where
  line : m.line.toNat < N
  what : ((1 ≤ m.kind ∧ m.kind ≤ 3) ∧ m.dst = 4 ∧ (0 ≤ m.src ∧ m.src < 4) ∧ (m.kind = 3 ∨ m.bs = b16z)) ∨ ((4 ≤ m.kind ∧ m.kind ≤ 10) ∧ (0 ≤ m.dst ∧ m.dst < 4)) ∨ ((11 ≤ m.kind ∧ m.kind ≤ 13) ∧ m.dst = 4 ∧ (0 ≤ m.src ∧ m.src < 4) ∧ (m.kind = 11 ∨ m.bs = b16z))
def Exp (d : Ent) (R : List (Nat × Int)) : Prop :=
  (d.busy = false ∧ R = []) ∨ (d.busy = true ∧ d.told = true ∧ R = [(2, d.asks)]) ∨ (d.busy = true ∧ d.told = false ∧ 0 ≤ d.o ∧ d.waits = 1 ∧ R = [(0, d.o)]) ∨
  (d.busy = true ∧ d.told = false ∧ d.o < 0 ∧ 1 ≤ d.waits ∧ ∃ C : List Int, R.Perm (C.map (Prod.mk 1)) ∧ C.Nodup ∧ ((C.length : Nat) : Int) = d.waits ∧ ∀ c ∈ C, d.sh.get c = true ∧ c ≠ d.asks)
section
variable {α : Type}
theorem sumF_nil (f : α → Nat) : sumF f [] = 0 := rfl
theorem sumF_cons (f : α → Nat) (x : α) (l : List α) : sumF f (x :: l) = f x + sumF f l := by simp [sumF]
theorem sumF_app (f : α → Nat) (l l' : List α) : sumF f (l ++ l') = sumF f l + sumF f l' := by simp [sumF]
theorem sumF_perm (f : α → Nat) {l l' : List α} (h : l.Perm l') : sumF f l = sumF f l' := by
  induction h with
  | nil => rfl
  | cons x _ ih => rw [sumF_cons, sumF_cons, ih]
  | swap x y l => rw [sumF_cons, sumF_cons, sumF_cons, sumF_cons]; omega
  | trans _ _ h1 h2 => exact h1.trans h2
theorem sumF_set (f : Ent → Nat) : ∀ (E : List Ent) (n : Nat) (d : Ent), n < E.length → sumF f (E.set n d) + f (entOf E n) = sumF f E + f d
  | [], n, d, h => by simp at h
  | x :: E, 0, d, h => by
    show sumF f (d :: E) + f x = _
    rw [sumF_cons, sumF_cons]; omega
  | x :: E, n + 1, d, h => by
    have ih := sumF_set f E n d (by simpa using h)
    show sumF f (x :: E.set n d) + f (entOf E n) = _
    rw [sumF_cons, sumF_cons]; omega
theorem sumF_zero {f : α → Nat} {l : List α} (h : ∀ x ∈ l, 1 ≤ f x) (hz : sumF f l = 0) : l = [] := by
  cases l with
  | nil => rfl
  | cons x r =>
    rw [sumF_cons] at hz
    have := h x (List.mem_cons_self ..)
    omega
theorem sumF_le {f : α → Nat} {k : Nat} {l : List α} (h : ∀ x ∈ l, f x ≤ k) : sumF f l ≤ k * l.length := by
  induction l with
  | nil => simp [sumF_nil]
  | cons x r ih =>
    have h1 := h x (List.mem_cons_self ..)
    have h2 := ih fun y hy => h y (List.mem_cons_of_mem _ hy)
    rw [sumF_cons, List.length_cons, Nat.mul_succ]
    omega
theorem sumF_eq {f : α → Nat} {k : Nat} {l : List α} (h : ∀ x ∈ l, f x = k) : sumF f l = k * l.length := by
  induction l with
  | nil => simp [sumF_nil]
  | cons x r ih =>
    have h1 := h x (List.mem_cons_self ..)
    have h2 := ih fun y hy => h y (List.mem_cons_of_mem _ hy)
    rw [sumF_cons, List.length_cons, Nat.mul_succ]
    omega
end
theorem roles_app (n : Int) (l l' : List Msg) : rolesOf n (l ++ l') = rolesOf n l ++ rolesOf n l' := by simp [rolesOf]
theorem roles_cons (n : Int) (m : Msg) (l : List Msg) : rolesOf n (m :: l) = rl n m ++ rolesOf n l := by simp [rolesOf]
theorem roles_perm (n : Int) {l l' : List Msg} (h : l.Perm l') : (rolesOf n l).Perm (rolesOf n l') := by
  induction h with
  | nil => exact List.Perm.refl _
  | cons x _ ih => rw [roles_cons, roles_cons]; exact List.Perm.append_left _ ih
  | swap x y l => rw [roles_cons, roles_cons, roles_cons, roles_cons, ← List.append_assoc, ← List.append_assoc]; exact List.Perm.append_right _ List.perm_append_comm
  | trans _ _ h1 h2 => exact h1.trans h2
theorem way_perm {way : List Msg} {i : Nat} (h : i < way.length) : way.Perm (way.getD i msg0 :: (way.take i ++ way.drop (i + 1))) := by
  have h1 : way.getD i msg0 = way[i] := by simp [List.getD, h]
  have h2 : way = way.take i ++ way[i] :: way.drop (i + 1) := by rw [← List.drop_eq_getElem_cons h, List.take_append_drop]
  rw [h1]
  conv => lhs; rw [h2]
  exact List.perm_middle
theorem Exp.perm {d : Ent} {R R' : List (Nat × Int)} (h : Exp d R) (hp : R.Perm R') : Exp d R' := by
  rcases h with ⟨a, rfl⟩ | ⟨a, b, rfl⟩ | ⟨a, b, c, e, rfl⟩ | ⟨a, b, c, e, C, f, g⟩
  · exact .inl ⟨a, hp.nil_eq.symm⟩
  · exact .inr (.inl ⟨a, b, List.perm_singleton.1 hp.symm⟩)
  · exact .inr (.inr (.inl ⟨a, b, c, e, List.perm_singleton.1 hp.symm⟩))
  · exact .inr (.inr (.inr ⟨a, b, c, e, C, hp.symm.trans f, g⟩))
theorem Exp.idle {d : Ent} {R : List (Nat × Int)} (h : Exp d R) (hb : d.busy = false) : R = [] := by
  rcases h with ⟨a, rfl⟩ | ⟨a, _⟩ | ⟨a, _⟩ | ⟨a, _⟩
  · rfl
  all_goals rw [hb] at a; cases a
theorem Exp.nil {d : Ent} (h : Exp d []) : d.busy = false := by
  rcases h with ⟨a, _⟩ | ⟨_, _, h⟩ | ⟨_, _, _, _, h⟩ | ⟨_, _, _, e, C, f, _, g, _⟩
  · exact a
  · cases h
  · cases h
  · have : C.map (Prod.mk 1) = [] := f.nil_eq.symm
    rw [List.map_eq_nil_iff] at this
    subst this
    simp at g
    omega
theorem sh_get_rng {s : Sh} {c : Int} (h : s.get c = true) : 0 ≤ c ∧ c < 4 := by
  unfold Sh.get at h
  by_cases h0 : c = 0
  · omega
  by_cases h1 : c = 1
  · omega
  by_cases h2 : c = 2
  · omega
  by_cases h3 : c = 3
  · omega
  simp [h0, h1, h2, h3] at h
theorem sh_set_ne {s : Sh} {i c : Int} {x : Bool} (h : c ≠ i) : (s.set i x).get c = s.get c := by
  unfold Sh.set
  by_cases h0 : i = 0
  · subst h0; rw [if_pos rfl]; unfold Sh.get; rw [if_neg h, if_neg h]
  by_cases h1 : i = 1
  · subst h1; rw [if_neg (by decide), if_pos rfl]; unfold Sh.get; simp only [if_neg h]
  by_cases h2 : i = 2
  · subst h2; rw [if_neg (by decide), if_neg (by decide), if_pos rfl]; unfold Sh.get; simp only [if_neg h]
  by_cases h3 : i = 3
  · subst h3; rw [if_neg (by decide), if_neg (by decide), if_neg (by decide), if_pos rfl]; unfold Sh.get; simp only [if_neg h]
  simp only [if_neg h0, if_neg h1, if_neg h2, if_neg h3]
theorem othK_mem (sh : Sh) (r : Int) : ∀ (k : Nat) (c : Int), c ∈ othK sh r k → sh.get c = true ∧ c ≠ r ∧ c < k
  | 0, c, h => by simp [othK] at h
  | k + 1, c, h => by
    unfold othK at h
    split at h
    · rename_i hc
      rw [List.mem_append] at h
      rcases h with h | h
      · obtain ⟨a, b, e⟩ := othK_mem sh r k c h
        exact ⟨a, b, by omega⟩
      · simp at h
        subst h
        simp only [Bool.and_eq_true, decide_eq_true_eq] at hc
        exact ⟨hc.1, hc.2, by omega⟩
    · obtain ⟨a, b, e⟩ := othK_mem sh r k c h
      exact ⟨a, b, by omega⟩
theorem othK_nodup (sh : Sh) (r : Int) : ∀ k, (othK sh r k).Nodup
  | 0 => List.nodup_nil
  | k + 1 => by
    unfold othK
    split
    · rw [List.nodup_append]
      refine ⟨othK_nodup sh r k, by simp, fun x hx y hy e => ?_⟩
      simp at hy
      have := (othK_mem sh r k x hx).2.2
      omega
    · exact othK_nodup sh r k
theorem nodup_sub : ∀ (l m : List Int), l.Nodup → (∀ x ∈ l, x ∈ m) → l.length ≤ m.length
  | [], _, _, _ => Nat.zero_le _
  | x :: l, m, hn, hs => by
    have hx : x ∈ m := hs x (List.mem_cons_self ..)
    have h1 := nodup_sub l (m.erase x) (List.nodup_cons.1 hn).2 fun y hy => by
      have hne : y ≠ x := fun e => (List.nodup_cons.1 hn).1 (e ▸ hy)
      exact (List.mem_erase_of_ne hne).2 (hs y (List.mem_cons_of_mem _ hy))
    have h2 := List.length_erase_of_mem hx
    have h3 : 0 < m.length := List.length_pos_of_mem hx
    simp only [List.length_cons]
    omega
structure Sent (N : Nat) (n : Int) (d' : Ent) (out : List Msg) (R : List (Nat × Int)) (c p : Nat) : Prop where
  good : ∀ m ∈ out, Good N m ∧ m.line = n
  exp : Exp d' (R ++ rolesOf n out)
  cost : sumF cost out + ecost d' ≤ c
  pend : sumF pend out + epend d' = p
theorem send_roles {n : Int} {m : Msg} {k dst : Int} {b : B16} (h : m.line = n) : rl n (sendM m k dst b) = role (sendM m k dst b) := if_pos h
theorem send_good {N : Nat} {n : Int} {m : Msg} {k dst : Int} {b : B16} (h : m.line = n) (hn : n.toNat < N) (hk : 4 ≤ k ∧ k ≤ 10) (hd : 0 ≤ dst ∧ dst < 4) : Good N (sendM m k dst b) ∧ (sendM m k dst b).line = n :=
  ⟨⟨by show m.line.toNat < N; rw [h]; exact hn, .inr (.inl ⟨hk, hd⟩)⟩, h⟩
theorem one_good {N : Nat} {n : Int} {x : Msg} (h : Good N x ∧ x.line = n) : ∀ m ∈ [x], Good N m ∧ m.line = n := fun m hm => by
  simp at hm; subst hm; exact h
theorem begin_step {N : Nat} {n : Int} {d : Ent} {bs : List UInt8} {m : Msg} (h : EI n d) (hb : d.busy = false) (hm : ROk n m) (hn : n.toNat < N) :
    Sent N n (beginF bs d m).1 (beginF bs d m).2.2 [] (qcost m + sumF qcost d.q) (1 + d.q.length) := by
  have hl := leave_ok (r := m.src) h
  have hln := hm.line
  have hs := hm.src
  by_cases h3 : m.kind = 3
  · rw [begin_put h3]
    have ho : owes (leaveF d m.src) = false := by show (d.busy && !d.told) = false; rw [hb]; rfl
    refine ⟨one_good (send_good hln hn (by decide) hs), .inl ⟨hb, ?_⟩, ?_, ?_⟩
    · rw [roles_cons, send_roles hln]; rfl
    · show sumF cost [_] + ((if owes (leaveF d m.src) then 2 else 0) + sumF qcost d.q) ≤ _
      rw [ho, sumF_cons, sumF_nil, show cost (sendM m 7 m.src) = 1 from rfl, qcost, if_pos h3]
      simp
    · show sumF pend [_] + ((if owes (leaveF d m.src) then 1 else 0) + d.q.length) = _
      rw [ho, sumF_cons, sumF_nil, show pend (sendM m 7 m.src) = 1 from rfl]
      simp
  have hq8 : qcost m = 8 := by unfold qcost; rw [if_neg h3]
  have hk12 : m.kind = 1 ∨ m.kind = 2 := by have := hm.kind; omega
  -- data at once
  have told : ∀ (d' : Ent) (k : Int) (b : B16), d'.busy = true → d'.told = true → d'.asks = m.src → d'.q = d.q → (k = 8 ∨ k = 9 ∨ k = 10) → Sent N n d' [sendM m k m.src b] [] (qcost m + sumF qcost d.q) (1 + d.q.length) := by
    intro d' k b h1 h2 h3' h4 h5
    have ho : owes d' = false := by unfold owes; rw [h2]; simp
    have hc : cost (sendM m k m.src b) = 2 := by
      show cost (mkM k 4 m.src m.line b m.hn) = 2
      unfold cost mkM
      rcases h5 with rfl | rfl | rfl <;> simp
    have hp : pend (sendM m k m.src b) = 1 := by
      show pend (mkM k 4 m.src m.line b m.hn) = 1
      unfold pend mkM
      rcases h5 with rfl | rfl | rfl <;> simp
    refine ⟨one_good (send_good hln hn (by omega) hs), .inr (.inl ⟨h1, h2, ?_⟩), ?_, ?_⟩
    · rw [roles_cons, send_roles hln, h3']
      show _ ++ (role (mkM k 4 m.src m.line b m.hn) ++ []) = _
      unfold role mkM
      rcases h5 with rfl | rfl | rfl <;> simp
    · unfold ecost; rw [ho, h4, sumF_cons, sumF_nil, hc, hq8]; simp
    · unfold epend; rw [ho, h4, sumF_cons, sumF_nil, hp]; simp
  by_cases h0 : 0 ≤ (leaveF d m.src).o
  · have hown : 0 ≤ (leaveF d m.src).o ∧ (leaveF d m.src).o < 4 := ⟨h0, hl.ok.own.2⟩
    have hob : owes (busyF (leaveF d m.src) m 1 false) = true := rfl
    have he : Exp (busyF (leaveF d m.src) m 1 false) [(0, (leaveF d m.src).o)] := .inr (.inr (.inl ⟨rfl, rfl, h0, rfl, rfl⟩))
    have hc : ∀ k, k = 4 ∨ k = 5 → Sent N n (busyF (leaveF d m.src) m 1 false) [sendM m k (leaveF d m.src).o] [] (qcost m + sumF qcost d.q) (1 + d.q.length) := by
      intro k hk
      have hc : cost (sendM m k (leaveF d m.src).o) = 2 := by
        show cost (mkM k 4 _ m.line b16z m.hn) = 2
        unfold cost mkM
        rcases hk with rfl | rfl <;> simp
      have hp : pend (sendM m k (leaveF d m.src).o) = 0 := by
        show pend (mkM k 4 _ m.line b16z m.hn) = 0
        unfold pend mkM
        rcases hk with rfl | rfl <;> simp
      refine ⟨one_good (send_good hln hn (by omega) hown), ?_, ?_, ?_⟩
      · rw [roles_cons, send_roles hln]
        show Exp _ ([] ++ (role (mkM k 4 (leaveF d m.src).o m.line b16z m.hn) ++ []))
        have : role (mkM k 4 (leaveF d m.src).o m.line b16z m.hn) = [(0, (leaveF d m.src).o)] := by
          unfold role mkM
          rcases hk with rfl | rfl <;> simp
        rw [this]
        exact he
      · show sumF cost [_] + ((if owes (busyF (leaveF d m.src) m 1 false) then 2 else 0) + sumF qcost d.q) ≤ _
        rw [hob, sumF_cons, sumF_nil, hc, hq8]; simp; omega
      · show sumF pend [_] + ((if owes (busyF (leaveF d m.src) m 1 false) then 1 else 0) + d.q.length) = _
        rw [hob, sumF_cons, sumF_nil, hp]; simp
    rcases hk12 with hk | hk
    · rw [begin_s1 hk h0]; exact hc 4 (.inl rfl)
    · rw [begin_m1 hk h0]; exact hc 5 (.inr rfl)
  rcases hk12 with hk | hk
  · by_cases h1 : 0 < (othersF (leaveF d m.src).sh m.src).length
    · rw [begin_s2 hk h0 h1]; exact told _ 8 _ rfl rfl rfl rfl (by decide)
    · rw [begin_s3 hk h0 h1]; exact told _ 9 _ rfl rfl rfl rfl (by decide)
  · by_cases h1 : (othersF (leaveF d m.src).sh m.src).length = 0
    · rw [begin_m3 hk h0 h1]; exact told _ 10 _ rfl rfl rfl rfl (by decide)
    · rw [begin_m2 hk h0 h1]
      generalize hC : othersF (leaveF d m.src).sh m.src = C at h1
      have hmem : ∀ c ∈ C, (leaveF d m.src).sh.get c = true ∧ c ≠ m.src := fun c hc => by
        rw [← hC] at hc
        obtain ⟨a, b, _⟩ := othK_mem _ _ _ _ hc
        exact ⟨a, b⟩
      have hnd : C.Nodup := by rw [← hC]; exact othK_nodup _ _ _
      have hlen : C.length ≤ 4 := by rw [← hC]; exact othK_len _ _ 4
      have hl3 : C.length ≤ 3 := by
        by_cases h4 : C.length ≤ 3
        · exact h4
        exfalso
        have hin : ∀ c ∈ C, c ∈ ([0, 1, 2, 3] : List Int).erase m.src := fun c hc => by
          have := sh_get_rng (hmem c hc).1
          have hne := (hmem c hc).2
          rw [List.Nodup.mem_erase_iff (by decide)]
          refine ⟨hne, ?_⟩
          simp only [List.mem_cons, List.mem_nil_iff, or_false]
          omega
        have h5 : (([0, 1, 2, 3] : List Int).erase m.src).length = 3 := by
          rw [List.length_erase_of_mem (by simp only [List.mem_cons, List.mem_nil_iff, or_false]; omega)]
          rfl
        have := nodup_sub C _ hnd hin
        omega
      have hob : owes (busyF (leaveF d m.src) m ((C.length : Nat) : Int) false) = true := rfl
      have hr : rolesOf n (C.map (sendM m 6)) = C.map (Prod.mk 1) := by
        clear hob hl3 hlen hnd hmem h1 hC
        induction C with
        | nil => rfl
        | cons c r ih =>
          rw [List.map_cons, roles_cons, send_roles hln, List.map_cons, ih]
          rfl
      refine ⟨fun x hx => ?_, ?_, ?_, ?_⟩
      · obtain ⟨c, hc, rfl⟩ := List.mem_map.1 hx
        exact send_good hln hn (by decide) (sh_get_rng (hmem c hc).1)
      · rw [hr]
        exact .inr (.inr (.inr ⟨rfl, rfl, by show (leaveF d m.src).o < 0; omega, by show (1 : Int) ≤ ((C.length : Nat) : Int); omega, C, List.Perm.refl _, hnd, rfl, hmem⟩))
      · show sumF cost (C.map (sendM m 6)) + ((if owes (busyF (leaveF d m.src) m ((C.length : Nat) : Int) false) then 2 else 0) + sumF qcost d.q) ≤ _
        have := sumF_le (f := cost) (k := 2) (l := C.map (sendM m 6)) fun x hx => by
          obtain ⟨c, _, rfl⟩ := List.mem_map.1 hx
          exact Nat.le_refl _
        rw [List.length_map] at this
        rw [hob, hq8, if_pos rfl]; omega
      · show sumF pend (C.map (sendM m 6)) + ((if owes (busyF (leaveF d m.src) m ((C.length : Nat) : Int) false) then 1 else 0) + d.q.length) = _
        have := sumF_eq (f := pend) (k := 0) (l := C.map (sendM m 6)) fun x hx => by
          obtain ⟨c, _, rfl⟩ := List.mem_map.1 hx
          rfl
        rw [hob, if_pos rfl]; omega
theorem drain_out {N : Nat} {n : Int} (hn : n.toNat < N) : ∀ (q : List Msg) (bs : List UInt8) (d : Ent) (R : List (Nat × Int)), EI n d → (∀ m ∈ q, ROk n m) → Exp d R →
    Sent N n (drainF q bs d).1 (drainF q bs d).2.2 R ((if owes d then 2 else 0) + sumF qcost q) ((if owes d then 1 else 0) + q.length)
  | [], bs, d, R, h, hq, he => ⟨fun m hm => (by cases hm), by show Exp _ (R ++ []); rw [List.append_nil]; exact he, by show sumF cost [] + ecost _ ≤ _; rw [sumF_nil]; simp [ecost]; exact Nat.le_refl _, by show sumF pend [] + epend _ = _; rw [sumF_nil]; simp [epend]; rfl⟩
  | m :: r, bs, d, R, h, hq, he => by
    have hr : ∀ x ∈ r, ROk n x := fun x hx => hq x (List.mem_cons_of_mem _ hx)
    rw [drain_cons]
    cases hb : d.busy with
    | true =>
      rw [if_pos rfl]
      exact ⟨fun m hm => (by cases hm), by show Exp _ (R ++ []); rw [List.append_nil]; have : Exp d R := he; unfold Exp at this; rw [hb] at this; exact this, by show sumF cost [] + ecost _ ≤ _; rw [sumF_nil]; simp [ecost, owes, hb], by show sumF pend [] + epend _ = _; rw [sumF_nil]; simp [epend, owes, hb]⟩
    | false =>
      rw [if_neg (by decide)]
      obtain rfl := he.idle hb
      have ho : owes d = false := by unfold owes; rw [hb]; rfl
      rw [ho]
      have hm := hq m (List.mem_cons_self ..)
      have hd' := h.queue r hr
      have e1 := begin_ei (bs := bs) (m := m) hd' (show ({ d with q := r } : Ent).busy = false from hb) hm
      have s1 := begin_step (N := N) (bs := bs) (m := m) hd' (show ({ d with q := r } : Ent).busy = false from hb) hm hn
      rw [hb] at e1 s1
      have hqq : (beginF bs { o := d.o, sh := d.sh, busy := false, asks := d.asks, kind := d.kind, waits := d.waits, told := d.told, q := r } m).1.q = r := begin_q
      generalize hx : beginF bs { o := d.o, sh := d.sh, busy := false, asks := d.asks, kind := d.kind, waits := d.waits, told := d.told, q := r } m = x at *
      have s2 := drain_out hn r x.2.1 x.1 (rolesOf n x.2.2) e1 hr (by have := s1.exp; rwa [List.nil_append] at this)
      have c1 := s1.cost
      have p1 := s1.pend
      have c2 := s2.cost
      have p2 := s2.pend
      unfold ecost at c1
      unfold epend at p1
      rw [hqq] at c1 p1
      refine ⟨fun y hy => ?_, ?_, ?_, ?_⟩
      · rcases List.mem_append.1 hy with hy | hy
        · exact s1.good y hy
        · exact s2.good y hy
      · rw [roles_app, List.nil_append]; exact s2.exp
      · show sumF cost (x.2.2 ++ (drainF r x.2.1 x.1).2.2) + ecost (drainF r x.2.1 x.1).1 ≤ (if false = true then 2 else 0) + sumF qcost (m :: r)
        rw [sumF_app, sumF_cons, if_neg (by decide)]; dsimp only at c1; omega
      · show sumF pend (x.2.2 ++ (drainF r x.2.1 x.1).2.2) + epend (drainF r x.2.1 x.1).1 = (if false = true then 1 else 0) + (m :: r).length
        rw [sumF_app, List.length_cons, if_neg (by decide)]; dsimp only at p1; omega
theorem other_step {N : Nat} {n : Int} {d : Ent} {bs : List UInt8} {m : Msg} {R : List (Nat × Int)} (h : EI n d) (hk : 11 ≤ m.kind ∧ m.kind ≤ 13) (hln : m.line = n) (hn : n.toNat < N) (he : Exp d (role m ++ R)) :
    strayF d m = false ∧ Sent N n (otherF bs d m).1 (otherF bs d m).2.2 R (ecost d) (epend d) := by
  have hask := h.ok.asks
  -- told behind it
  have told : ∀ (d' : Ent) (k : Int) (b : B16), R = [] → owes d = true → d'.busy = true → d'.told = true → d'.asks = d.asks → d'.q = d.q → (k = 8 ∨ k = 10) → Sent N n d' [sendM m k d.asks b] R (ecost d) (epend d) := by
    intro d' k b hR h0 h1 h2 h3' h4 h5
    subst hR
    have ho : owes d' = false := by unfold owes; rw [h2]; simp
    have hc : cost (sendM m k d.asks b) = 2 := by
      show cost (mkM k 4 d.asks m.line b m.hn) = 2
      unfold cost mkM
      rcases h5 with rfl | rfl <;> simp
    have hp : pend (sendM m k d.asks b) = 1 := by
      show pend (mkM k 4 d.asks m.line b m.hn) = 1
      unfold pend mkM
      rcases h5 with rfl | rfl <;> simp
    refine ⟨one_good (send_good hln hn (by omega) hask), .inr (.inl ⟨h1, h2, ?_⟩), ?_, ?_⟩
    · rw [roles_cons, send_roles hln, h3']
      show _ ++ (role (mkM k 4 d.asks m.line b m.hn) ++ []) = _
      unfold role mkM
      rcases h5 with rfl | rfl <;> simp
    · unfold ecost; rw [ho, h4, sumF_cons, sumF_nil, hc, h0]; simp
    · unfold epend; rw [ho, h4, sumF_cons, sumF_nil, hp, h0]; simp
  have hk' : m.kind = 11 ∨ m.kind = 12 ∨ m.kind = 13 := by omega
  rcases hk' with hk | hk | hk
  · have hro : role m = [(0, m.src)] := by unfold role; simp [hk]
    rw [hro] at he
    rcases he with ⟨_, e⟩ | ⟨_, _, e⟩ | ⟨a, b, c, w1, e⟩ | ⟨_, _, _, _, C, f, _⟩
    · cases e
    · simp at e
    · simp at e
      obtain ⟨e1, e2⟩ := e
      have ho : owes d = true := by unfold owes; rw [a, b]; rfl
      refine ⟨by unfold strayF; simp [hk, a, w1, e1], ?_⟩
      by_cases h1 : d.kind = 1
      · rw [other_b1 hk h1]; exact told _ 8 _ e2 ho a rfl rfl rfl (by decide)
      · rw [other_b2 hk h1]; exact told _ 10 _ e2 ho a rfl rfl rfl (by decide)
    · have := f.subset (List.mem_cons_self ..)
      simp at this
  · have hro : role m = [(1, m.src)] := by unfold role; simp [hk]
    rw [hro] at he
    rcases he with ⟨_, e⟩ | ⟨_, _, e⟩ | ⟨a, b, c, w1, e⟩ | ⟨a, b, c, w1, C, f, nd, cl, ce⟩
    · cases e
    · simp at e
    · simp at e
    · have hin : m.src ∈ C := by
        have := f.subset (List.mem_cons_self ..)
        simpa using this
      have ho : owes d = true := by unfold owes; rw [a, b]; rfl
      obtain ⟨g1, g2⟩ := ce _ hin
      refine ⟨by unfold strayF; simp [hk, a, g1, g2]; omega, ?_⟩
      have hR : R.Perm ((C.erase m.src).map (Prod.mk 1)) := by
        have h1 : C.Perm (m.src :: C.erase m.src) := List.perm_cons_erase hin
        have h2 := h1.map (Prod.mk 1)
        exact (f.trans h2).cons_inv
      have hl : (C.erase m.src).length = C.length - 1 := List.length_erase_of_mem hin
      by_cases h1 : d.waits = 1
      · rw [other_a1 hk h1]
        have : C.erase m.src = [] := List.eq_nil_of_length_eq_zero (by omega)
        rw [this] at hR
        exact told _ 10 _ (List.Perm.eq_nil hR) ho a rfl rfl rfl (by decide)
      · rw [other_a2 hk h1]
        refine ⟨fun x hx => (by cases hx), ?_, ?_, ?_⟩
        · show Exp _ (R ++ [])
          rw [List.append_nil]
          refine .inr (.inr (.inr ⟨a, b, c, by show 1 ≤ d.waits - 1; omega, C.erase m.src, hR, nd.erase _, by show _ = d.waits - 1; rw [hl]; have : 0 < C.length := List.length_pos_of_mem hin; omega, fun x hx => ?_⟩))
          have hx' := (nd.mem_erase_iff).1 hx
          obtain ⟨g1, g2⟩ := ce x hx'.2
          exact ⟨by show (d.sh.set m.src false).get x = true; rw [sh_set_ne hx'.1]; exact g1, g2⟩
        · show sumF cost [] + _ ≤ _
          rw [sumF_nil, Nat.zero_add]
          exact Nat.le_refl _
        · show sumF pend [] + _ = _
          rw [sumF_nil, Nat.zero_add]
          rfl
  · have hro : role m = [(2, m.src)] := by unfold role; simp [hk]
    rw [hro] at he
    rcases he with ⟨_, e⟩ | ⟨a, b, e⟩ | ⟨_, _, _, _, e⟩ | ⟨_, _, _, _, C, f, _⟩
    · cases e
    · simp at e
      obtain ⟨e1, rfl⟩ := e
      refine ⟨by unfold strayF; simp [hk, a, b, e1], ?_⟩
      rw [other_d hk]
      have h' : EI n { d with busy := false, asks := 0, kind := 0, waits := 0, told := false } := ⟨⟨by show (0 : Int) ≤ 0 ∧ (0 : Int) < 4; decide, fun _ => rfl, h.ok.own, h.ok.q, pW0, fun h => (by cases h)⟩, h.apart, fun _ => ⟨rfl, rfl⟩⟩
      have s := drain_out (N := N) hn d.q bs _ [] h' h.ok.rest (.inl ⟨rfl, rfl⟩)
      have ho : owes d = false := by unfold owes; rw [b]; simp
      have c1 : ecost d = (if owes { d with busy := false, asks := 0, kind := 0, waits := 0, told := false } then 2 else 0) + sumF qcost d.q := by unfold ecost; rw [ho]; rfl
      have p1 : epend d = (if owes { d with busy := false, asks := 0, kind := 0, waits := 0, told := false } then 1 else 0) + d.q.length := by unfold epend; rw [ho]; rfl
      rw [c1, p1]
      exact s
    · simp at e
    · have := f.subset (List.mem_cons_self ..)
      simp at this
end Go.Proofs.Ytflnlmibkbojcaa
namespace Go.Proofs.Ytflnlmibkbojcaa
open Go.RowKit
structure Sv (T asked turns : Nat) (h : HD) (way : List Msg) (told : Nat) : Prop where
  hi : HI turns h
  good : ∀ m ∈ way, Good h.E.length m
  exp : ∀ n, n < h.E.length → Exp (entOf h.E n) (rolesOf n way)
  phi : turns + (sumF cost way + sumF ecost h.E) ≤ T
  ask : told + (sumF pend way + sumF epend h.E) = asked
theorem Good.cost {N : Nat} {m : Msg} (h : Good N m) : 1 ≤ Go.Proofs.Ytflnlmibkbojcaa.cost m := by
  unfold Go.Proofs.Ytflnlmibkbojcaa.cost
  rcases h.what with ⟨a, _⟩ | ⟨a, _⟩ | ⟨a, _⟩
  all_goals (repeat' split) <;> omega
theorem rl_same {m : Msg} {n : Int} (h : m.line = n) : rl n m = role m := if_pos h
theorem rl_other {m : Msg} {n : Int} (h : ¬ m.line = n) : rl n m = [] := if_neg h
theorem roles_other {n : Int} {k : Int} {out : List Msg} (h : ∀ m ∈ out, m.line = k) (hne : ¬ k = n) : rolesOf n out = [] := by
  induction out with
  | nil => rfl
  | cons m r ih =>
    rw [roles_cons, rl_other (by rw [h m (List.mem_cons_self ..)]; exact hne), ih fun x hx => h x (List.mem_cons_of_mem _ hx)]
    rfl
theorem Good.chk {N : Nat} {m : Msg} (h : Good N m) (hd : m.dst = 4) : Go.Proofs.Ytflnlmibkbojcaa.chk m = 0 ∧ (0 ≤ m.src ∧ m.src < 4) ∧ ((1 ≤ m.kind ∧ m.kind ≤ 3) ∨ (11 ≤ m.kind ∧ m.kind ≤ 13)) := by
  rcases h.what with ⟨a, _, c, e⟩ | ⟨_, b⟩ | ⟨a, _, c, e⟩
  · refine ⟨?_, c, .inl a⟩
    have hs : isCache m.src = true := by unfold isCache; simp; omega
    have hh : homeK m.kind = true := by unfold homeK; simp; omega
    have hb : bytesK m.kind = true ∨ m.bs = b16z := e.imp (fun h => by unfold bytesK; simp [h]) id
    unfold Go.Proofs.Ytflnlmibkbojcaa.chk goodMsg
    rcases hb with hb | hb <;> simp [hd, hs, hh, hb, bs0]
  · omega
  · refine ⟨?_, c, .inr a⟩
    have hs : isCache m.src = true := by unfold isCache; simp; omega
    have hh : homeK m.kind = true := by unfold homeK; simp; omega
    have hb : bytesK m.kind = true ∨ m.bs = b16z := e.imp (fun h => by unfold bytesK; simp [h]) id
    unfold Go.Proofs.Ytflnlmibkbojcaa.chk goodMsg
    rcases hb with hb | hb <;> simp [hd, hs, hh, hb, bs0]
theorem take_zero {h : HD} {m : Msg} (h0 : chk m = 0) (h1 : m.dst = 4) (h2 : m.line.toNat < h.E.length) (h3 : 3 < m.kind → strayF (entOf h.E m.line.toNat) m = false) : (takeH h m).2.2 = 0 := by
  have hmn := m.hn
  unfold takeH
  rw [if_neg (by simp [h0, h1]), if_neg (by omega)]
  dsimp only
  by_cases hk : m.kind ≤ 3
  · rw [if_pos hk]
    split <;> rfl
  · rw [if_neg hk, show h.E.getD m.line.toNat ent0 = entOf h.E m.line.toNat from rfl, h3 (by omega), if_neg (by decide)]
theorem role_req {m : Msg} (h : 1 ≤ m.kind ∧ m.kind ≤ 3) : role m = [] := by
  unfold role
  (repeat' rw [if_neg (by omega)])
theorem cost_req {m : Msg} (h : 1 ≤ m.kind ∧ m.kind ≤ 3) : cost m = qcost m + 1 ∧ pend m = 1 := by
  unfold cost pend qcost
  constructor
  · by_cases h3 : m.kind = 3
    · rw [if_neg (by omega), if_pos h3, if_pos h3]
    · rw [if_pos (by omega), if_neg h3]
  · rw [if_pos (by omega)]
theorem cost_ans {m : Msg} (h : 11 ≤ m.kind ∧ m.kind ≤ 13) : cost m = 1 ∧ pend m = 0 := by
  unfold cost pend
  constructor
  · rw [if_neg (by omega), if_neg (by omega), if_neg (by omega), if_pos (by omega)]
  · rw [if_neg (by omega)]
theorem Sv.take {T asked turns : Nat} {h : HD} {way rest : List Msg} {told : Nat} {m : Msg} (s : Sv T asked turns h way told) (hp : way.Perm (m :: rest)) (hd : m.dst = 4) :
    (takeH h m).2.2 = 0 ∧ Sv T asked (turns + 1) (takeH h m).1 (rest ++ (takeH h m).2.1) told := by
  have hg := s.good m (hp.symm.subset (List.mem_cons_self ..))
  obtain ⟨hc, hsrc, hk⟩ := hg.chk hd
  have hln := hg.line
  have hmn := m.hn
  have hline : m.line = ((m.line.toNat : Nat) : Int) := by omega
  have hrest : ∀ x ∈ rest, Good h.E.length x := fun x hx => s.good x (hp.symm.subset (List.mem_cons_of_mem _ hx))
  obtain ⟨e1, e2, e3⟩ := s.hi.2 _ hln
  have hexp := (s.exp _ hln).perm (roles_perm _ hp)
  rw [roles_cons, rl_same hline] at hexp
  have hcost := sumF_perm cost hp
  have hpend := sumF_perm pend hp
  rw [sumF_cons] at hcost hpend
  have hphi := s.phi
  have hask := s.ask
  have hz : (takeH h m).2.2 = 0 := by
    refine take_zero hc hd hln fun h3 => ?_
    exact (other_step (N := h.E.length) (bs := h.bs) e1 (by omega) hline (by omega) hexp).1
  refine ⟨hz, ?_⟩
  have hI := s.hi.take m
  rcases take_cases h m with ⟨e, he, hne⟩ | ⟨_, _, _, _, _, x, hx, hcs⟩
  · rw [he] at hz; exact absurd hz hne
  · rw [hx] at hI ⊢
    have hE : (h.E.set m.line.toNat x.1).length = h.E.length := List.length_set
    -- what all three have in common
    have fin : Sent h.E.length (m.line.toNat : Int) x.1 x.2.2 (rolesOf (m.line.toNat : Int) rest) (cost m - 1 + ecost (entOf h.E m.line.toNat)) (pend m + epend (entOf h.E m.line.toNat)) → 1 ≤ cost m → Sv T asked (turns + 1) ⟨x.2.1, h.E.set m.line.toNat x.1⟩ (rest ++ x.2.2) told := by
      intro st hc1
      refine ⟨hI, ?_, ?_, ?_, ?_⟩
      · intro y hy
        show Good (h.E.set m.line.toNat x.1).length y
        rw [hE]
        rcases List.mem_append.1 hy with hy | hy
        · exact hrest y hy
        · exact (st.good y hy).1
      · intro n hn
        show Exp (entOf (h.E.set m.line.toNat x.1) n) (rolesOf n (rest ++ x.2.2))
        replace hn : n < h.E.length := by rw [← hE]; exact hn
        rw [entOf_set hln, roles_app]
        by_cases hnn : n = m.line.toNat
        · subst hnn
          rw [if_pos rfl]
          exact st.exp
        · rw [if_neg hnn, roles_other (fun y hy => (st.good y hy).2) (by omega), List.append_nil]
          have := (s.exp n hn).perm (roles_perm _ hp)
          rwa [roles_cons, rl_other (by omega), List.nil_append] at this
      · show turns + 1 + (sumF cost (rest ++ x.2.2) + sumF ecost (h.E.set m.line.toNat x.1)) ≤ T
        have h1 := sumF_set ecost h.E m.line.toNat x.1 hln
        have h2 := st.cost
        rw [sumF_app]
        omega
      · show told + (sumF pend (rest ++ x.2.2) + sumF epend (h.E.set m.line.toNat x.1)) = asked
        have h1 := sumF_set epend h.E m.line.toNat x.1 hln
        have h2 := st.pend
        rw [sumF_app]
        omega
    rcases hcs with ⟨a, b, c, rfl⟩ | ⟨a, b, c, rfl⟩ | ⟨a, b, rfl⟩
    · obtain ⟨k1, k2⟩ := cost_req ⟨a, b⟩
      rw [role_req ⟨a, b⟩, List.nil_append] at hexp
      refine fin ⟨fun y hy => (by cases hy), ?_, ?_, ?_⟩ (by omega)
      · show Exp _ (_ ++ [])
        rw [List.append_nil]
        exact hexp
      · show sumF cost [] + ((if owes (entOf h.E m.line.toNat) then 2 else 0) + sumF qcost ((entOf h.E m.line.toNat).q ++ [m])) ≤ _
        rw [sumF_nil, sumF_app, sumF_cons, sumF_nil, k1]
        unfold ecost
        omega
      · show sumF pend [] + ((if owes (entOf h.E m.line.toNat) then 1 else 0) + ((entOf h.E m.line.toNat).q ++ [m]).length) = _
        rw [sumF_nil, List.length_append, k2]
        unfold epend
        simp only [List.length_cons, List.length_nil]
        omega
    · obtain ⟨k1, k2⟩ := cost_req ⟨a, b⟩
      rw [role_req ⟨a, b⟩, List.nil_append] at hexp
      have st := begin_step (N := h.E.length) (bs := h.bs) e1 c ⟨⟨a, b⟩, hsrc, hline⟩ (by omega)
      have ho : owes (entOf h.E m.line.toNat) = false := by unfold owes; rw [c]; rfl
      rw [hexp.idle c] at fin
      refine fin ⟨st.good, st.exp, ?_, ?_⟩ (by omega)
      · have := st.cost
        unfold ecost at this ⊢
        rw [ho, k1]
        simp only [Bool.false_eq_true, if_false]
        omega
      · have := st.pend
        unfold epend at this ⊢
        rw [ho, k2]
        simp only [Bool.false_eq_true, if_false]
        omega
    · obtain ⟨k1, k2⟩ := cost_ans (m := m) (by omega)
      have st := (other_step (N := h.E.length) (bs := h.bs) e1 (by omega) hline (by omega) hexp).2
      refine fin ⟨st.good, st.exp, ?_, ?_⟩ (by omega)
      · have := st.cost; omega
      · have := st.pend; omega
theorem Sv.done {T asked turns : Nat} {h : HD} {told : Nat} (s : Sv T asked turns h [] told) : told = asked ∧ idleB h.E = true := by
  have hb : ∀ n, n < h.E.length → (entOf h.E n).busy = false := fun n hn => (s.exp n hn).nil
  have hz : sumF epend h.E = 0 * h.E.length := sumF_eq fun d hd => by
    obtain ⟨n, hn, rfl⟩ := List.getElem_of_mem hd
    have he : entOf h.E n = h.E[n] := by simp [entOf, List.getD, hn]
    have h1 := hb n hn
    have h2 := (s.hi.2 n hn).2.1 h1
    rw [he] at h1 h2
    unfold epend owes
    rw [h1, h2]
    rfl
  have := s.ask
  rw [sumF_nil] at this
  refine ⟨by omega, ?_⟩
  unfold idleB
  rw [List.all_eq_true]
  intro d hd
  obtain ⟨n, hn, rfl⟩ := List.getElem_of_mem hd
  have he : entOf h.E n = h.E[n] := by simp [entOf, List.getD, hn]
  have h1 := hb n hn
  rw [he] at h1
  simp [h1]
end Go.Proofs.Ytflnlmibkbojcaa
namespace Go.Proofs.Ytflnlmibkbojcaa
open Go.RowKit
structure CV where
  s : Int
  b : B16
  g : Option B16
  a : Option Bool
abbrev ER := Int × Int × B16
def er (m : Msg) : List ER := if 4 ≤ m.kind ∧ m.kind ≤ 13 ∧ m.kind ≠ 7 then [(m.kind, if m.kind ≤ 10 then m.dst else m.src, if 8 ≤ m.kind ∧ m.kind ≤ 11 then m.bs else b16z)] else []
def gt (c : Int) (m : Msg) : List Bool := if m.src = c ∧ (m.kind = 1 ∨ m.kind = 2) then [decide (m.kind = 2)] else []
def pt (c : Int) (m : Msg) : List B16 := if m.src = c ∧ m.kind = 3 then [m.bs] else []
def kt (c : Int) (m : Msg) : List Unit := if m.dst = c ∧ m.kind = 7 then [()] else []
def wr (s : Int) : Prop := s = 2 ∨ s = 3
def Hold (v : CV) (P : List B16) (cur : B16) : Prop := (wr v.s ∧ v.b = cur ∧ v.g = none) ∨ (v.s = 0 ∧ v.g = some cur ∧ P = [cur])
def Alone (M : Int) (v : Int → CV) (o : Int) : Prop := ∀ c, 0 ≤ c → c < M → c ≠ o → (v c).s = 0
def Shared (M : Int) (sh : Sh) (mem cur : B16) (v : Int → CV) : Prop := mem = cur ∧ ∀ c, 0 ≤ c → c < M → (v c).s = 0 ∨ ((v c).s = 1 ∧ (v c).b = cur ∧ sh.get c = true)
inductive Ph (M : Int) (d : Ent) (mem cur : B16) (v : Int → CV) (P : Int → List B16) : List ER → Bool → Prop
  | idleO : d.busy = false → 0 ≤ d.o → Hold (v d.o) (P d.o) cur → Alone M v d.o → Ph M d mem cur v P [] false
  | idleS : d.busy = false → d.o < 0 → Shared M d.sh mem cur v → Ph M d mem cur v P [] false
  | fwd : d.busy = true → d.told = false → 0 ≤ d.o → d.waits = 1 → d.o ≠ d.asks → Hold (v d.o) (P d.o) cur → Alone M v d.o → Ph M d mem cur v P [(3 + d.kind, d.o, b16z)] true
  | back : d.busy = true → d.told = false → 0 ≤ d.o → d.waits = 1 → d.o ≠ d.asks → Alone M v d.o → ((v d.o).s = 0 ∨ ((v d.o).s = 1 ∧ (v d.o).b = cur ∧ d.kind = 1)) → Ph M d mem cur v P [(11, d.o, cur)] true
  | drops (C : List (Int × Bool)) : d.busy = true → d.told = false → d.o < 0 → d.kind = 2 → Shared M d.sh mem cur v → (C.map Prod.fst).Nodup → ((C.length : Nat) : Int) = d.waits → 1 ≤ d.waits →
      (∀ x ∈ C, d.sh.get x.1 = true ∧ x.1 ≠ d.asks ∧ (x.2 = true → (v x.1).s = 0)) → (∀ c, d.sh.get c = true → c = d.asks ∨ c ∈ C.map Prod.fst) → Ph M d mem cur v P (C.map fun x => (if x.2 then 12 else 6, x.1, b16z)) true
  | dataO (k : Int) : d.busy = true → d.told = true → d.o = d.asks → Alone M v d.asks → ((v d.asks).s = 0 ∨ ((v d.asks).s = 1 ∧ (v d.asks).b = cur)) → ((k = 9 ∧ d.kind = 1) ∨ (k = 10 ∧ d.kind = 2)) → Ph M d mem cur v P [(k, d.asks, cur)] true
  | dataS : d.busy = true → d.told = true → d.o < 0 → d.kind = 1 → Shared M d.sh mem cur v → d.sh.get d.asks = true → Ph M d mem cur v P [(8, d.asks, cur)] true
  | doneO : d.busy = true → d.told = true → d.o = d.asks → Hold (v d.asks) (P d.asks) cur → Alone M v d.asks → Ph M d mem cur v P [(13, d.asks, b16z)] false
  | doneS : d.busy = true → d.told = true → d.o < 0 → Shared M d.sh mem cur v → Ph M d mem cur v P [(13, d.asks, b16z)] false
def Wait (d : Ent) (sv : Bool) (c : Int) : List Bool := if sv = true ∧ d.asks = c then [decide (d.kind = 2)] else []
structure Tok (d : Ent) (sv : Bool) (c : Int) (v : CV) (G : List Bool) (P : List B16) (A : List Unit) : Prop where
  ask : G ++ Wait d sv c = v.a.toList
  put : (v.g = none ∧ P = [] ∧ A = []) ∨ (∃ b, v.g = some b ∧ ((P = [b] ∧ A = []) ∨ (P = [] ∧ A = [()])))
  giv : v.g ≠ none → v.s = 0 ∧ v.a = none
  st : ∀ w, v.a = some w → v.s = 0 ∨ (v.s = 1 ∧ w = true)
  rng : v.s = 0 ∨ v.s = 1 ∨ v.s = 2 ∨ v.s = 3
structure LI (M : Int) (d : Ent) (mem cur : B16) (v : Int → CV) (R : List ER) (G : Int → List Bool) (P : Int → List B16) (A : Int → List Unit) : Prop where
  ph : ∃ R' sv, R.Perm R' ∧ Ph M d mem cur v P R' sv ∧ ∀ c, 0 ≤ c → c < M → Tok d sv c (v c) (G c) (P c) (A c)
  shr : ∀ c, d.sh.get c = true → c < M
  own : d.o < M
  ask : d.busy = true → 0 ≤ d.asks ∧ d.asks < M
theorem wr_ne {s : Int} (h : wr s) : s ≠ 0 ∧ s ≠ 1 := by unfold wr at h; omega
theorem one_nil {α : Type} {x : α} {l : List α} {o : Option α} (h : x :: l = o.toList) : l = [] ∧ o = some x := by
  cases o with
  | none => cases h
  | some y => simp at h; obtain ⟨rfl, rfl⟩ := h; exact ⟨rfl, rfl⟩
theorem LI.idle {M : Int} {d : Ent} {mem cur : B16} {v : Int → CV} {R : List ER} {G : Int → List Bool} {P : Int → List B16} {A : Int → List Unit} (h : LI M d mem cur v R G P A) (hb : d.busy = false) :
    R = [] ∧ ((0 ≤ d.o ∧ Hold (v d.o) (P d.o) cur ∧ Alone M v d.o) ∨ (d.o < 0 ∧ Shared M d.sh mem cur v)) ∧ ∀ c, 0 ≤ c → c < M → Tok d false c (v c) (G c) (P c) (A c) := by
  obtain ⟨R', sv, hp, hph, ht⟩ := h.ph
  cases hph with
  | idleO a b c e => exact ⟨hp.eq_nil, .inl ⟨b, c, e⟩, ht⟩
  | idleS a b c => exact ⟨hp.eq_nil, .inr ⟨b, c⟩, ht⟩
  | fwd a => rw [hb] at a; cases a
  | back a => rw [hb] at a; cases a
  | drops C a => rw [hb] at a; cases a
  | dataO k a => rw [hb] at a; cases a
  | dataS a => rw [hb] at a; cases a
  | doneO a => rw [hb] at a; cases a
  | doneS a => rw [hb] at a; cases a
theorem Tok.move {d d' : Ent} {sv sv' : Bool} {c : Int} {v : CV} {G G' : List Bool} {P : List B16} {A : List Unit} (t : Tok d sv c v G P A) (h : G' ++ Wait d' sv' c = G ++ Wait d sv c) : Tok d' sv' c v G' P A :=
  ⟨by rw [h]; exact t.ask, t.put, t.giv, t.st, t.rng⟩
def sansF {α : Type} (F : Int → List α) (r : Int) (c : Int) : List α := if c = r then [] else F c
theorem send_er (m : Msg) (k dst : Int) (b : B16) (hk : 4 ≤ k ∧ k ≤ 10 ∧ k ≠ 7) : er (sendM m k dst b) = [(k, dst, if 8 ≤ k ∧ k ≤ 11 then b else b16z)] := by
  show er (mkM k 4 dst m.line b m.hn) = _
  unfold er mkM
  rw [if_pos (by show 4 ≤ k ∧ k ≤ 13 ∧ k ≠ 7; omega)]
  show [(k, if k ≤ 10 then dst else 4, if 8 ≤ k ∧ k ≤ 11 then b else b16z)] = _
  rw [if_pos (by omega)]
theorem othK_in {sh : Sh} {r c : Int} (h : sh.get c = true) (hc : c ≠ r) (h0 : 0 ≤ c) : ∀ k : Nat, c < k → c ∈ othK sh r k
  | 0, hk => by omega
  | k + 1, hk => by
    unfold othK
    by_cases e : c = k
    · subst e
      rw [if_pos (by rw [h]; simp [hc])]
      simp
    · have := othK_in h hc h0 k (by omega)
      split
      · exact List.mem_append_left _ this
      · exact this
theorem sh_set_eq {s : Sh} {i : Int} {x : Bool} (h : 0 ≤ i ∧ i < 4) : (s.set i x).get i = x := by
  obtain rfl | rfl | rfl | rfl : i = 0 ∨ i = 1 ∨ i = 2 ∨ i = 3 := by omega
  all_goals rfl
theorem sh0_none {c : Int} : sh0.get c = true → False := by
  unfold sh0 Sh.get
  (repeat' split) <;> simp
section
variable {M : Int} {d : Ent} {bs : List UInt8} {cur : B16} {v : Int → CV} {G : Int → List Bool} {P : Int → List B16} {A : Int → List Unit} {m : Msg} {n : Int}
structure Snt (M n : Int) (out : List Msg) : Prop where
  what : ∀ y ∈ out, y.line = n ∧ (4 ≤ y.kind ∧ y.kind ≤ 10) ∧ y.kind ≠ 7 ∧ (0 ≤ y.dst ∧ y.dst < M)
theorem snt_one {k dst : Int} {b : B16} (hn : m.line = n) (hk : 4 ≤ k ∧ k ≤ 10 ∧ k ≠ 7) (hd : 0 ≤ dst ∧ dst < M) : Snt M n [sendM m k dst b] := ⟨fun y hy => by
  simp at hy; subst hy; exact ⟨hn, ⟨hk.1, hk.2.1⟩, hk.2.2, hd⟩⟩
theorem begin_get (h : LI M d (lineB bs n) cur v [] G P A) (hM : M ≤ 4) (hi : EI n d) (hb : d.busy = false) (hm : ROk n m) (hr : m.src < M) (hk : m.kind = 1 ∨ m.kind = 2) (hG : G m.src = [decide (m.kind = 2)]) :
    LI M (beginF bs d m).1 (lineB (beginF bs d m).2.1 n) cur v ((beginF bs d m).2.2.flatMap er) (sansF G m.src) P A ∧ Snt M n (beginF bs d m).2.2 := by
  obtain ⟨-, hph, ht⟩ := h.idle hb
  have hs := hm.src
  have hln := hm.line
  have tr := ht m.src hs.1 hr
  have ha : (v m.src).a = some (decide (m.kind = 2)) := by
    have := tr.ask
    unfold Wait at this
    rw [hG, if_neg (by simp), List.append_nil] at this
    exact (one_nil this).2
  have hg : (v m.src).g = none := by
    cases hg : (v m.src).g with
    | none => rfl
    | some b => have := (tr.giv (by rw [hg]; simp)).2; rw [ha] at this; cases this
  have hst := tr.st _ ha
  -- tokens behind it
  have tok : ∀ d' : Ent, d'.asks = m.src → d'.kind = m.kind → ∀ c, 0 ≤ c → c < M → Tok d' true c (v c) (sansF G m.src c) (P c) (A c) := by
    intro d' h1 h2 c hc hc'
    refine (ht c hc hc').move ?_
    unfold sansF Wait
    by_cases e : c = m.src
    · subst e; rw [if_pos rfl, if_pos ⟨rfl, h1⟩, hG, h2]; simp
    · rw [if_neg e, if_neg (by rw [h1]; exact fun h => e h.2.symm)]; simp
  have hl : leaveF d m.src = d := by
    refine leave_ne fun ho => ?_
    rcases hph with ⟨h0, hH, _⟩ | ⟨h0, _⟩
    · rw [ho] at hH
      rcases hH with ⟨hw, _⟩ | ⟨_, hg', _⟩
      · have := wr_ne hw; omega
      · rw [hg] at hg'; cases hg'
    · omega
  rcases hph with ⟨h0, hH, hA⟩ | ⟨h0, hS⟩
  · -- an owner is asked
    have hne : d.o ≠ m.src := fun e => by
      rw [e] at hH
      rcases hH with ⟨hw, _⟩ | ⟨_, hg', _⟩
      · have := wr_ne hw; omega
      · rw [hg] at hg'; cases hg'
    have e : beginF bs d m = (busyF d m 1 false, bs, [sendM m (3 + m.kind) d.o]) := by
      rcases hk with hk | hk
      · rw [begin_s1 hk (by rw [hl]; exact h0), hl, hk]; rfl
      · rw [begin_m1 hk (by rw [hl]; exact h0), hl, hk]; rfl
    rw [e]
    refine ⟨⟨⟨_, true, ?_, Ph.fwd (d := busyF d m 1 false) rfl rfl h0 rfl hne hH hA, tok _ rfl rfl⟩, h.shr, h.own, fun _ => ⟨hs.1, hr⟩⟩, snt_one hln (by omega) ⟨h0, h.own⟩⟩
    rw [List.flatMap_cons, send_er _ _ _ _ (by omega), if_neg (by omega)]
    exact List.Perm.refl _
  · obtain ⟨hmem, hSh⟩ := hS
    have hrs := hSh m.src hs.1 hr
    -- the bytes at once, to write
    have give : ∀ k : Int, (k = 9 ∧ m.kind = 1) ∨ (k = 10 ∧ m.kind = 2) → othersF d.sh m.src = [] → LI M (busyF (ownF d m.src) m 0 true) (lineB bs n) cur v ([sendM m k m.src (lineB bs m.line)].flatMap er) (sansF G m.src) P A ∧ Snt M n [sendM m k m.src (lineB bs m.line)] := by
      intro k hk' ho
      refine ⟨⟨⟨_, true, ?_, Ph.dataO (d := busyF (ownF d m.src) m 0 true) k rfl rfl rfl (fun c hc hc' hne => ?_) (hrs.imp id fun h => ⟨h.1, h.2.1⟩) hk', tok _ rfl rfl⟩, fun c hc => (sh0_none hc).elim, hr, fun _ => ⟨hs.1, hr⟩⟩, snt_one hln (by omega) ⟨hs.1, hr⟩⟩
      · rw [List.flatMap_cons, send_er _ _ _ _ (by omega), if_pos (by omega), hln, hmem]
        exact List.Perm.refl _
      · rcases hSh c hc hc' with h | ⟨_, _, h⟩
        · exact h
        · have := othK_in h (show c ≠ m.src from hne) hc 4 (by have := (sh_get_rng h).2; omega)
          rw [show othK d.sh m.src 4 = [] from ho] at this
          cases this
    have hno : ¬ 0 ≤ (leaveF d m.src).o := by rw [hl]; omega
    rcases hk with hk | hk
    · by_cases ho : 0 < (othersF d.sh m.src).length
      · rw [begin_s2 hk hno (by rw [hl]; exact ho), hl]
        refine ⟨⟨⟨_, true, ?_, Ph.dataS (d := busyF { d with sh := d.sh.set m.src true } m 0 true) rfl rfl h0 hk ⟨hmem, fun c hc hc' => ?_⟩ (sh_set_eq hs), tok _ rfl rfl⟩, fun c hc => ?_, h.own, fun _ => ⟨hs.1, hr⟩⟩, snt_one hln (by decide) ⟨hs.1, hr⟩⟩
        · rw [List.flatMap_cons, send_er _ _ _ _ (by decide), if_pos (by decide), hln, hmem]
          exact List.Perm.refl _
        · refine (hSh c hc hc').imp id fun ⟨h1, h2, h3⟩ => ⟨h1, h2, ?_⟩
          show (d.sh.set m.src true).get c = true
          by_cases e : c = m.src
          · subst e; exact sh_set_eq hs
          · rw [sh_set_ne e]; exact h3
        · by_cases e : c = m.src
          · subst e; exact hr
          · have hc' : (d.sh.set m.src true).get c = true := hc
            rw [sh_set_ne e] at hc'
            exact h.shr c hc'
      · rw [begin_s3 hk hno (by rw [hl]; exact ho), hl]
        exact give 9 (.inl ⟨rfl, hk⟩) (List.eq_nil_of_length_eq_zero (by omega))
    · by_cases ho : (othersF d.sh m.src).length = 0
      · rw [begin_m3 hk hno (by rw [hl]; exact ho), hl]
        exact give 10 (.inr ⟨rfl, hk⟩) (List.eq_nil_of_length_eq_zero ho)
      · rw [begin_m2 hk hno (by rw [hl]; exact ho), hl]
        have hmm : ((othersF d.sh m.src).map fun c => (c, false)).map Prod.fst = othersF d.sh m.src := by rw [List.map_map]; exact List.map_id _
        refine ⟨⟨⟨_, true, ?_, Ph.drops (d := busyF d m ((othersF d.sh m.src).length : Int) false) ((othersF d.sh m.src).map fun c => (c, false)) rfl rfl h0 hk ⟨hmem, hSh⟩ (by rw [hmm]; exact othK_nodup _ _ _) (by rw [List.length_map]; rfl) (by show (1 : Int) ≤ ((othersF d.sh m.src).length : Int); omega) (fun x hx => ?_) (fun c hc => ?_), tok _ rfl rfl⟩, h.shr, h.own, fun _ => ⟨hs.1, hr⟩⟩, ⟨fun y hy => ?_⟩⟩
        · have : ((othersF d.sh m.src).map (sendM m 6)).flatMap er = ((othersF d.sh m.src).map fun c => (c, false)).map fun x => ((if x.2 then 12 else 6 : Int), x.1, b16z) := by
            generalize othersF d.sh m.src = C
            induction C with
            | nil => rfl
            | cons c r ih => rw [List.map_cons, List.flatMap_cons, ih, send_er _ _ _ _ (by decide), if_neg (by decide)]; rfl
          rw [this]
        · obtain ⟨c, hc, rfl⟩ := List.mem_map.1 hx
          obtain ⟨h1, h2, _⟩ := othK_mem _ _ _ _ hc
          exact ⟨h1, h2, fun h => by cases h⟩
        · by_cases e : c = m.src
          · exact .inl e
          · rw [hmm]
            have := sh_get_rng hc
            exact .inr (othK_in hc e this.1 4 (by omega))
        · obtain ⟨c, hc, rfl⟩ := List.mem_map.1 hy
          obtain ⟨h1, h2, _⟩ := othK_mem _ _ _ _ hc
          exact ⟨hln, ⟨by show (4 : Int) ≤ 6; decide, by show (6 : Int) ≤ 10; decide⟩, by show (6 : Int) ≠ 7; decide, (sh_get_rng h1).1, h.shr c h1⟩
end
end Go.Proofs.Ytflnlmibkbojcaa
namespace Go.Proofs.Ytflnlmibkbojcaa
open Go.RowKit
theorem Ph.q {M : Int} {d : Ent} {mem cur : B16} {v : Int → CV} {P : Int → List B16} {R : List ER} {sv : Bool} (h : Ph M d mem cur v P R sv) (q : List Msg) : Ph M { d with q := q } mem cur v P R sv := by
  cases h with
  | idleO a b c e => exact .idleO a b c e
  | idleS a b c => exact .idleS a b c
  | fwd a b c e f g i => exact Ph.fwd (d := { d with q := q }) a b c e f g i
  | back a b c e f g i => exact Ph.back (d := { d with q := q }) a b c e f g i
  | drops C a b c e f g i j k l => exact Ph.drops (d := { d with q := q }) C a b c e f g i j k l
  | dataO k a b c e f g => exact Ph.dataO (d := { d with q := q }) k a b c e f g
  | dataS a b c e f g => exact Ph.dataS (d := { d with q := q }) a b c e f g
  | doneO a b c e f => exact Ph.doneO (d := { d with q := q }) a b c e f
  | doneS a b c e => exact Ph.doneS (d := { d with q := q }) a b c e
theorem LI.q {M : Int} {d : Ent} {mem cur : B16} {v : Int → CV} {R : List ER} {G : Int → List Bool} {P : Int → List B16} {A : Int → List Unit} (h : LI M d mem cur v R G P A) (q : List Msg) : LI M { d with q := q } mem cur v R G P A := by
  obtain ⟨R', sv, hp, hph, ht⟩ := h.ph
  exact ⟨⟨R', sv, hp, hph.q q, fun c h1 h2 => (ht c h1 h2).move rfl⟩, h.shr, h.own, h.ask⟩
theorem perm_one {α : Type} {l : List α} {o : Option α} {w : List α} (hp : l.Perm w) (h : l = o.toList) : w = o.toList := by
  subst h
  cases o with
  | none => exact hp.nil_eq.symm
  | some x => exact List.perm_singleton.1 hp.symm
theorem LI.perm {M : Int} {d : Ent} {mem cur : B16} {v : Int → CV} {R R' : List ER} {G G' : Int → List Bool} {P P' : Int → List B16} {A A' : Int → List Unit} (h : LI M d mem cur v R G P A) (hR : R.Perm R') (hG : ∀ c, (G c).Perm (G' c)) (hP : ∀ c, (P c).Perm (P' c)) (hA : ∀ c, (A c).Perm (A' c)) : LI M d mem cur v R' G' P' A' := by
  obtain ⟨R9, sv, hp, hph, ht⟩ := h.ph
  have pe : ∀ c b, P c = [b] → P' c = [b] := fun c b e => List.perm_singleton.1 ((hP c).symm.trans (by rw [e]))
  have pn : ∀ c, P c = [] → P' c = [] := fun c e => ((by rw [← e]; exact hP c : ([] : List B16).Perm (P' c))).nil_eq.symm
  have an : ∀ c, A c = [] → A' c = [] := fun c e => ((by rw [← e]; exact hA c : ([] : List Unit).Perm (A' c))).nil_eq.symm
  have ae : ∀ c, A c = [()] → A' c = [()] := fun c e => List.perm_singleton.1 ((hA c).symm.trans (by rw [e]))
  have hold : ∀ c cu, Hold (v c) (P c) cu → Hold (v c) (P' c) cu := fun c cu hh => hh.imp id fun ⟨a, b, e⟩ => ⟨a, b, pe c _ e⟩
  have ph' : Ph M d mem cur v P' R9 sv := by
    cases hph with
    | idleO a b c e => exact .idleO a b (hold _ _ c) e
    | idleS a b c => exact .idleS a b c
    | fwd a b c e f g i => exact .fwd a b c e f (hold _ _ g) i
    | back a b c e f g i => exact .back a b c e f g i
    | drops C a b c e f g i j k l => exact .drops C a b c e f g i j k l
    | dataO k a b c e f g => exact .dataO k a b c e f g
    | dataS a b c e f g => exact .dataS a b c e f g
    | doneO a b c e f => exact .doneO a b c (hold _ _ e) f
    | doneS a b c e => exact .doneS a b c e
  refine ⟨⟨R9, sv, hR.symm.trans hp, ph', fun c h1 h2 => ?_⟩, h.shr, h.own, h.ask⟩
  have t := ht c h1 h2
  refine ⟨perm_one (List.Perm.append_right _ (hG c)) t.ask, ?_, t.giv, t.st, t.rng⟩
  rcases t.put with ⟨a, b, e⟩ | ⟨b, a, ⟨e, f⟩ | ⟨e, f⟩⟩
  · exact .inl ⟨a, pn _ b, an _ e⟩
  · exact .inr ⟨b, a, .inl ⟨pe _ _ e, an _ f⟩⟩
  · exact .inr ⟨b, a, .inr ⟨pn _ e, ae _ f⟩⟩
section
variable {M : Int} {d : Ent} {bs : List UInt8} {cur : B16} {v : Int → CV} {G : Int → List Bool} {P : Int → List B16} {A : Int → List Unit} {m : Msg} {n : Int}
theorem er_ack (m : Msg) (r : Int) : er (sendM m 7 r) = [] := by
  show er (mkM 7 4 r m.line b16z m.hn) = []
  unfold er mkM
  rw [if_neg (by show ¬ (4 ≤ (7 : Int) ∧ (7 : Int) ≤ 13 ∧ (7 : Int) ≠ 7); decide)]
theorem begin_putL (h : LI M d (lineB bs n) cur v [] G P A) (hb : d.busy = false) (hm : ROk n m) (hr : m.src < M) (hk : m.kind = 3) (hP : P m.src = [m.bs]) (h0 : 0 ≤ n) (hn : n.toNat < bs.length / 16) :
    LI M (beginF bs d m).1 (lineB (beginF bs d m).2.1 n) cur v ((beginF bs d m).2.2.flatMap er) G (sansF P m.src) (fun c => A c ++ (beginF bs d m).2.2.flatMap (kt c)) ∧ (∀ y ∈ (beginF bs d m).2.2, y.line = n ∧ y.kind = 7 ∧ y.dst = m.src) ∧ (beginF bs d m).2.2 ≠ [] := by
  obtain ⟨-, hph, ht⟩ := h.idle hb
  have hs := hm.src
  have hln := hm.line
  have tr := ht m.src hs.1 hr
  obtain ⟨b9, hg, hPA⟩ : ∃ b, (v m.src).g = some b ∧ ((P m.src = [b] ∧ A m.src = []) ∨ (P m.src = [] ∧ A m.src = [()])) := by
    rcases tr.put with ⟨_, a, _⟩ | h
    · rw [hP] at a; cases a
    · exact h
  obtain ⟨hb9, hA9⟩ : b9 = m.bs ∧ A m.src = [] := by
    rcases hPA with ⟨a, b⟩ | ⟨a, _⟩
    · rw [hP] at a; simp at a; exact ⟨a.symm, b⟩
    · rw [hP] at a; cases a
  subst hb9
  have hs0 := (tr.giv (by rw [hg]; simp)).1
  rw [begin_put hk]
  have hkt : ∀ c, [sendM m 7 m.src].flatMap (kt c) = if c = m.src then [()] else [] := fun c => by
    show kt c (mkM 7 4 m.src m.line b16z m.hn) ++ [] = _
    unfold kt mkM
    by_cases e : c = m.src
    · subst e; simp
    · simp [e, Ne.symm e]
  have her : [sendM m 7 m.src].flatMap er = [] := by rw [List.flatMap_cons, er_ack]; rfl
  have tok : ∀ d' : Ent, ∀ c, 0 ≤ c → c < M → Tok d' false c (v c) (G c) (sansF P m.src c) (A c ++ [sendM m 7 m.src].flatMap (kt c)) := fun d' c h1 h2 => by
    have t := ht c h1 h2
    rw [hkt]
    refine ⟨?_, ?_, t.giv, t.st, t.rng⟩
    · have := t.ask
      unfold Wait at this ⊢
      rw [if_neg (by simp)] at this ⊢
      exact this
    · unfold sansF
      by_cases e : c = m.src
      · subst e
        rw [if_pos rfl, if_pos rfl, hA9]
        exact .inr ⟨_, hg, .inr ⟨rfl, rfl⟩⟩
      · rw [if_neg e, if_neg e, List.append_nil]
        exact t.put
  refine ⟨⟨⟨[], false, by rw [her], ?_, fun c h1 h2 => tok _ c h1 h2⟩, h.shr, ?_, fun h' => by rw [show d.busy = true from h'] at hb; cases hb⟩, fun y hy => ?_, by simp⟩
  · rcases hph with ⟨o0, hH, hA⟩ | ⟨o0, hS⟩
    · by_cases ho : d.o = m.src
      · rw [leave_eq ho]
        refine Ph.idleS (d := { d with o := -1 }) hb (show (-1 : Int) < 0 by decide) ⟨?_, fun c h1 h2 => .inl ?_⟩
        · show lineB (if d.o = m.src then setLn bs m.line m.bs else bs) n = cur
          rw [if_pos ho, hln, lineB_same _ _ _ h0 hn]
          rw [ho] at hH
          rcases hH with ⟨hw, _⟩ | ⟨_, hg', _⟩
          · have := wr_ne hw; omega
          · rw [hg] at hg'; simpa using hg'
        · by_cases e : c = m.src
          · subst e; exact hs0
          · exact hA c h1 h2 (by rw [ho]; exact e)
      · rw [leave_ne ho]
        refine Ph.idleO hb o0 ?_ hA
        show Hold (v d.o) (if d.o = m.src then [] else P d.o) cur
        rw [if_neg ho]
        exact hH
    · have ho : ¬ d.o = m.src := by omega
      rw [leave_ne ho]
      refine Ph.idleS hb o0 ?_
      show Shared M d.sh (lineB (if d.o = m.src then setLn bs m.line m.bs else bs) n) cur v
      rw [if_neg ho]
      exact hS
  · show (if d.o = m.src then (-1 : Int) else d.o) < M
    split
    · omega
    · exact h.own
  · simp at hy; subst hy; exact ⟨hln, rfl, rfl⟩
theorem gt_get {r : Int} (hk : m.kind = 1 ∨ m.kind = 2) (h : m.src = r) : gt r m = [decide (m.kind = 2)] := by unfold gt; rw [if_pos ⟨h, hk⟩]
theorem gt_no {r : Int} (h : ¬ (m.src = r ∧ (m.kind = 1 ∨ m.kind = 2))) : gt r m = [] := if_neg h
theorem pt_put {r : Int} (hk : m.kind = 3) (h : m.src = r) : pt r m = [m.bs] := by unfold pt; rw [if_pos ⟨h, hk⟩]
theorem pt_no {r : Int} (h : ¬ (m.src = r ∧ m.kind = 3)) : pt r m = [] := if_neg h
theorem kt_no {r : Int} (h : m.kind ≠ 7) : kt r m = [] := if_neg fun e => h e.2
theorem begin_any {GW : Int → List Bool} {PW : Int → List B16} {q : List Msg} (h : LI M d (lineB bs n) cur v [] (fun c => GW c ++ (gt c m ++ q.flatMap (gt c))) (fun c => PW c ++ (pt c m ++ q.flatMap (pt c))) A) (hM : M ≤ 4) (hi : EI n d) (hb : d.busy = false) (hm : ROk n m) (hr : m.src < M) (h0 : 0 ≤ n) (hn : n.toNat < bs.length / 16) :
    LI M (beginF bs d m).1 (lineB (beginF bs d m).2.1 n) cur v ((beginF bs d m).2.2.flatMap er) (fun c => GW c ++ q.flatMap (gt c)) (fun c => PW c ++ q.flatMap (pt c)) (fun c => A c ++ (beginF bs d m).2.2.flatMap (kt c)) ∧ ∀ y ∈ (beginF bs d m).2.2, y.line = n ∧ (4 ≤ y.kind ∧ y.kind ≤ 10) ∧ (0 ≤ y.dst ∧ y.dst < M) := by
  have hs := hm.src
  have tr := (h.idle hb).2.2 m.src hs.1 hr
  by_cases hk : m.kind = 3
  · have hPl : PW m.src ++ (pt m.src m ++ q.flatMap (pt m.src)) = [m.bs] ∧ PW m.src = [] ∧ q.flatMap (pt m.src) = [] := by
      have hp := tr.put
      rw [pt_put hk rfl] at hp ⊢
      have key : ∀ b, PW m.src ++ ([m.bs] ++ q.flatMap (pt m.src)) = [b] → PW m.src = [] ∧ q.flatMap (pt m.src) = [] := by
        intro b hb
        have hl := congrArg List.length hb
        simp only [List.length_append, List.length_cons, List.length_nil] at hl
        exact ⟨List.eq_nil_of_length_eq_zero (by omega), List.eq_nil_of_length_eq_zero (by omega)⟩
      rcases hp with ⟨_, a, _⟩ | ⟨b, _, ⟨a, _⟩ | ⟨a, _⟩⟩
      · simp at a
      · obtain ⟨k1, k2⟩ := key b a
        rw [k1, k2]; exact ⟨rfl, rfl, rfl⟩
      · simp at a
    obtain ⟨hL, hW, hY⟩ := begin_putL h hb hm hr hk hPl.1 h0 hn
    refine ⟨hL.perm (List.Perm.refl _) (fun c => ?_) (fun c => ?_) (fun c => List.Perm.refl _), fun y hy => ?_⟩
    · rw [gt_no (by rintro ⟨_, h | h⟩ <;> omega)]; exact List.Perm.refl _
    · unfold sansF
      by_cases e : c = m.src
      · subst e; rw [if_pos rfl, hPl.2.1, hPl.2.2]; exact List.Perm.refl _
      · rw [if_neg e]; show (PW c ++ (pt c m ++ q.flatMap (pt c))).Perm _; rw [pt_no (fun h => e h.1.symm)]; exact List.Perm.refl _
    · obtain ⟨a, b, c⟩ := hW y hy
      exact ⟨a, by omega, by omega⟩
  · have hk' : m.kind = 1 ∨ m.kind = 2 := by have := hm.kind; omega
    have hGl : GW m.src ++ (gt m.src m ++ q.flatMap (gt m.src)) = [decide (m.kind = 2)] ∧ GW m.src = [] ∧ q.flatMap (gt m.src) = [] := by
      have ha := tr.ask
      unfold Wait at ha
      rw [if_neg (by simp), List.append_nil, gt_get hk' rfl] at ha
      rw [gt_get hk' rfl]
      have hl := congrArg List.length ha
      have hle : (v m.src).a.toList.length ≤ 1 := by cases (v m.src).a <;> simp
      simp only [List.length_append, List.length_cons, List.length_nil] at hl
      have k1 : GW m.src = [] := List.eq_nil_of_length_eq_zero (by omega)
      have k2 : q.flatMap (gt m.src) = [] := List.eq_nil_of_length_eq_zero (by omega)
      rw [k1, k2]; exact ⟨rfl, rfl, rfl⟩
    obtain ⟨hL, hS⟩ := begin_get h hM hi hb hm hr hk' hGl.1
    refine ⟨hL.perm (List.Perm.refl _) (fun c => ?_) (fun c => ?_) (fun c => ?_), fun y hy => ?_⟩
    · unfold sansF
      by_cases e : c = m.src
      · subst e; rw [if_pos rfl, hGl.2.1, hGl.2.2]; exact List.Perm.refl _
      · rw [if_neg e]; show (GW c ++ (gt c m ++ q.flatMap (gt c))).Perm _; rw [gt_no (fun h => e h.1.symm)]; exact List.Perm.refl _
    · rw [pt_no (fun h => hk h.2)]; exact List.Perm.refl _
    · have : (beginF bs d m).2.2.flatMap (kt c) = [] := by
        rw [List.flatMap_eq_nil_iff]
        exact fun y hy => kt_no (hS.what y hy).2.2.1
      rw [this, List.append_nil]
    · obtain ⟨a, b, _, e⟩ := hS.what y hy
      exact ⟨a, b, e⟩
theorem drain_li {GW : Int → List Bool} {PW : Int → List B16} (hM : M ≤ 4) (h0 : 0 ≤ n) : ∀ (q : List Msg) (bs : List UInt8) (d : Ent) (R : List ER) (A : Int → List Unit), LI M d (lineB bs n) cur v R (fun c => GW c ++ q.flatMap (gt c)) (fun c => PW c ++ q.flatMap (pt c)) A → EI n d → (∀ m ∈ q, ROk n m ∧ m.src < M) → n.toNat < bs.length / 16 →
    LI M (drainF q bs d).1 (lineB (drainF q bs d).2.1 n) cur v (R ++ (drainF q bs d).2.2.flatMap er) (fun c => GW c ++ (drainF q bs d).1.q.flatMap (gt c)) (fun c => PW c ++ (drainF q bs d).1.q.flatMap (pt c)) (fun c => A c ++ (drainF q bs d).2.2.flatMap (kt c)) ∧ (∀ y ∈ (drainF q bs d).2.2, y.line = n ∧ (4 ≤ y.kind ∧ y.kind ≤ 10) ∧ (0 ≤ y.dst ∧ y.dst < M)) ∧ ∀ m ∈ (drainF q bs d).1.q, m.src < M
  | [], bs, d, R, A, h, hi, hq, hn => by
    refine ⟨?_, (fun y hy => by cases hy), (fun y hy => by cases hy)⟩
    have := h.q []
    refine this.perm (by show R.Perm (R ++ []); rw [List.append_nil]) (fun c => List.Perm.refl _) (fun c => List.Perm.refl _) (fun c => by show (A c).Perm (A c ++ []); rw [List.append_nil])
  | m :: r, bs, d, R, A, h, hi, hq, hn => by
    have hr : ∀ x ∈ r, ROk n x ∧ x.src < M := fun x hx => hq x (List.mem_cons_of_mem _ hx)
    rw [drain_cons]
    by_cases hb : d.busy = true
    · rw [if_pos hb]
      refine ⟨?_, (fun y hy => by cases hy), fun y hy => (hq y hy).2⟩
      exact (h.q (m :: r)).perm (by show R.Perm (R ++ []); rw [List.append_nil]) (fun c => List.Perm.refl _) (fun c => List.Perm.refl _) (fun c => by show (A c).Perm (A c ++ []); rw [List.append_nil])
    · rw [if_neg hb]
      have hb' : d.busy = false := by simpa using hb
      obtain rfl := (h.idle hb').1
      obtain ⟨hm, hms⟩ := hq m (List.mem_cons_self ..)
      have hd' := hi.queue r fun x hx => (hr x hx).1
      have h' : LI M { d with q := r } (lineB bs n) cur v [] (fun c => GW c ++ (gt c m ++ r.flatMap (gt c))) (fun c => PW c ++ (pt c m ++ r.flatMap (pt c))) A := (h.q r).perm (List.Perm.refl _) (fun c => by rw [List.flatMap_cons]) (fun c => by rw [List.flatMap_cons]) (fun c => List.Perm.refl _)
      obtain ⟨s1, s2⟩ := begin_any h' hM hd' hb' hm hms h0 hn
      have e1 := begin_ei (bs := bs) (m := m) hd' hb' hm
      have hqq : (beginF bs { d with q := r } m).1.q = r := begin_q
      have hbl : (beginF bs { d with q := r } m).2.1.length = bs.length := begin_bs
      generalize beginF bs { d with q := r } m = x at *
      obtain ⟨t1, t2, t3⟩ := drain_li hM h0 r x.2.1 x.1 (x.2.2.flatMap er) (fun c => A c ++ x.2.2.flatMap (kt c)) s1 e1 hr (by rw [hbl]; exact hn)
      refine ⟨t1.perm ?_ (fun c => List.Perm.refl _) (fun c => List.Perm.refl _) (fun c => ?_), fun y hy => ?_, t3⟩
      · rw [List.nil_append, List.flatMap_append]
      · rw [List.flatMap_append, List.append_assoc]
      · rcases List.mem_append.1 hy with hy | hy
        · exact s2 y hy
        · exact t2 y hy
end
end Go.Proofs.Ytflnlmibkbojcaa
namespace Go.Proofs.Ytflnlmibkbojcaa
open Go.RowKit
section
variable {M : Int} {d : Ent} {bs : List UInt8} {cur : B16} {v : Int → CV} {G : Int → List Bool} {P : Int → List B16} {A : Int → List Unit} {m : Msg} {n : Int} {R : List ER}
theorem er_one {k c : Int} {b : B16} (hk : m.kind = k) (h1 : 4 ≤ k ∧ k ≤ 13 ∧ k ≠ 7) (hc : (if k ≤ 10 then m.dst else m.src) = c) (hb : (if 8 ≤ k ∧ k ≤ 11 then m.bs else b16z) = b) : er m = [(k, c, b)] := by
  unfold er
  rw [hk, if_pos h1, hc, hb]
theorem perm_cons_one {α : Type} {x y : α} {l : List α} (h : (x :: l).Perm [y]) : x = y ∧ l = [] := by
  have := List.perm_singleton.1 h
  simp at this
  exact this
theorem nodup_of_map {α β : Type} {f : α → β} {l : List α} (h : (l.map f).Nodup) : l.Nodup := by
  induction l with
  | nil => exact List.nodup_nil
  | cons x r ih =>
    rw [List.map_cons, List.nodup_cons] at h
    rw [List.nodup_cons]
    exact ⟨fun hx => h.1 (List.mem_map.2 ⟨x, hx, rfl⟩), ih h.2⟩
theorem nodup_fst {C : List (Int × Bool)} (h : (C.map Prod.fst).Nodup) {x y : Int × Bool} (hx : x ∈ C) (hy : y ∈ C) (e : x.1 = y.1) : x = y := by
  induction C with
  | nil => cases hx
  | cons z r ih =>
    rw [List.map_cons, List.nodup_cons] at h
    rcases List.mem_cons.1 hx with rfl | hx
    · rcases List.mem_cons.1 hy with rfl | hy
      · rfl
      · exact absurd (List.mem_map.2 ⟨y, hy, e.symm⟩) h.1
    · rcases List.mem_cons.1 hy with hy | hy
      · rw [hy] at e; exact absurd (List.mem_map.2 ⟨x, hx, e⟩) h.1
      · exact ih h.2 hx hy
theorem other_li {GW : Int → List Bool} {PW : Int → List B16} (h : LI M d (lineB bs n) cur v (er m ++ R) (fun c => GW c ++ d.q.flatMap (gt c)) (fun c => PW c ++ d.q.flatMap (pt c)) A) (hM : M ≤ 4) (hi : EI n d) (hq : ∀ m ∈ d.q, m.src < M) (hk : 11 ≤ m.kind ∧ m.kind ≤ 13) (hm : m.line = n) (h0 : 0 ≤ n) (hn : n.toNat < bs.length / 16) :
    LI M (otherF bs d m).1 (lineB (otherF bs d m).2.1 n) cur v (R ++ (otherF bs d m).2.2.flatMap er) (fun c => GW c ++ (otherF bs d m).1.q.flatMap (gt c)) (fun c => PW c ++ (otherF bs d m).1.q.flatMap (pt c)) (fun c => A c ++ (otherF bs d m).2.2.flatMap (kt c)) ∧ (∀ y ∈ (otherF bs d m).2.2, y.line = n ∧ (4 ≤ y.kind ∧ y.kind ≤ 10) ∧ (0 ≤ y.dst ∧ y.dst < M)) ∧ ∀ z ∈ (otherF bs d m).1.q, z.src < M := by
  obtain ⟨R', sv, hp, hph, ht⟩ := h.ph
  have one : ∀ (k dst : Int) (b : B16), 4 ≤ k ∧ k ≤ 10 ∧ k ≠ 7 → (0 ≤ dst ∧ dst < M) → ∀ y ∈ [sendM m k dst b], y.line = n ∧ (4 ≤ y.kind ∧ y.kind ≤ 10) ∧ (0 ≤ y.dst ∧ y.dst < M) := by
    intro k dst b h1 h2 y hy
    simp at hy; subst hy
    exact ⟨hm, ⟨h1.1, h1.2.1⟩, h2⟩
  have nok : ∀ (k dst : Int) (b : B16), k ≠ 7 → ∀ c, A c = A c ++ [sendM m k dst b].flatMap (kt c) := by
    intro k dst b h c
    rw [List.flatMap_cons, kt_no (show (sendM m k dst b).kind ≠ 7 from h)]
    simp
  have tok : ∀ d' : Ent, d'.asks = d.asks → d'.kind = d.kind → d'.q = d.q → ∀ (out : List Msg), (∀ c, A c = A c ++ out.flatMap (kt c)) → ∀ c, 0 ≤ c → c < M → Tok d' sv c (v c) (GW c ++ d'.q.flatMap (gt c)) (PW c ++ d'.q.flatMap (pt c)) (A c ++ out.flatMap (kt c)) := by
    intro d' h1 h2 h3 out h4 c hc hc'
    rw [← h4, h3]
    exact (ht c hc hc').move (by unfold Wait; rw [h1, h2])
  have hk' : m.kind = 11 ∨ m.kind = 12 ∨ m.kind = 13 := by omega
  rcases hk' with hk | hk | hk
  · rw [er_one hk (by decide) (if_neg (by decide)) (if_pos (by decide))] at hp
    cases hph with
    | idleO a => exact absurd hp.length_eq (by simp)
    | idleS a => exact absurd hp.length_eq (by simp)
    | fwd a b c e f g i =>
      have := (perm_cons_one hp).1
      simp only [Prod.mk.injEq] at this
      have hkd := hi.ok.kind a
      omega
    | back a b c e f g i =>
      obtain ⟨he, rfl⟩ := perm_cons_one hp
      simp only [Prod.mk.injEq] at he
      obtain ⟨-, hsrc, hbs⟩ := he
      have hask := h.ask a
      have hown := h.own
      have hkd := hi.ok.kind a
      have hmem : lineB (setLn bs m.line m.bs) n = cur := by rw [hm, lineB_same _ _ _ h0 hn, hbs]
      by_cases hk1 : d.kind = 1
      · rw [other_b1 hk hk1]
        refine ⟨⟨⟨_, true, ?_, Ph.dataS (d := { d with o := -1, sh := (sh0.set m.src true).set d.asks true, waits := 0, told := true }) a rfl (show (-1 : Int) < 0 by decide) hk1 ⟨hmem, fun c h1 h2 => ?_⟩ (sh_set_eq (by omega)), tok { d with o := -1, sh := (sh0.set m.src true).set d.asks true, waits := 0, told := true } rfl rfl rfl [sendM m 8 d.asks (lineB (setLn bs m.line m.bs) m.line)] (nok 8 d.asks _ (by decide))⟩, fun c hc => ?_, by show (-1 : Int) < M; omega, fun _ => hask⟩, one 8 d.asks _ (by decide) hask, hq⟩
        · rw [List.nil_append, List.flatMap_cons, send_er _ _ _ _ (by decide), if_pos (by decide), hm]
          rw [hm] at hmem
          rw [hmem]
          exact List.Perm.refl _
        · by_cases e : c = d.o
          · subst e
            refine i.imp id fun ⟨j1, j2, _⟩ => ⟨j1, j2, ?_⟩
            show ((sh0.set m.src true).set d.asks true).get d.o = true
            rw [sh_set_ne f, hsrc]
            exact sh_set_eq (by omega)
          · exact .inl (g c h1 h2 e)
        · have hc' : ((sh0.set m.src true).set d.asks true).get c = true := hc
          by_cases e1 : c = d.asks
          · rw [e1]; exact hask.2
          · rw [sh_set_ne e1] at hc'
            by_cases e2 : c = m.src
            · rw [e2, hsrc]; exact hown
            · rw [sh_set_ne e2] at hc'
              exact (sh0_none hc').elim
      · rw [other_b2 hk hk1]
        refine ⟨⟨⟨_, true, ?_, Ph.dataO (d := { ownF d d.asks with waits := 0, told := true }) 10 a rfl rfl (fun c h1 h2 hne => ?_) (.inl ?_) (.inr ⟨rfl, by show d.kind = 2; omega⟩), tok { ownF d d.asks with waits := 0, told := true } rfl rfl rfl [sendM m 10 d.asks (lineB (setLn bs m.line m.bs) m.line)] (nok 10 d.asks _ (by decide))⟩, fun c hc => (sh0_none hc).elim, hask.2, fun _ => hask⟩, one 10 d.asks _ (by decide) hask, hq⟩
        · rw [List.nil_append, List.flatMap_cons, send_er _ _ _ _ (by decide), if_pos (by decide), hm]
          rw [hm] at hmem
          rw [hmem]
          exact List.Perm.refl _
        · by_cases e : c = d.o
          · subst e
            rcases i with i | ⟨_, _, i⟩
            · exact i
            · exact absurd i hk1
          · exact g c h1 h2 e
        · exact g d.asks hask.1 hask.2 (Ne.symm f)
    | drops C a b c e f g i j k l =>
      have hmem := hp.subset (List.mem_cons_self ..)
      obtain ⟨x, _, hx⟩ := List.mem_map.1 hmem
      have := congrArg (fun z => z.1) hx
      by_cases hx2 : x.2 = true <;> simp [hx2] at this
    | dataO k a b c e f g =>
      have := (perm_cons_one hp).1
      simp only [Prod.mk.injEq] at this
      omega
    | dataS a =>
      have := (perm_cons_one hp).1
      simp only [Prod.mk.injEq] at this
      omega
    | doneO a =>
      have := (perm_cons_one hp).1
      simp only [Prod.mk.injEq] at this
      omega
    | doneS a =>
      have := (perm_cons_one hp).1
      simp only [Prod.mk.injEq] at this
      omega
  · rw [er_one hk (by decide) (if_neg (by decide)) (if_neg (by decide))] at hp
    cases hph with
    | idleO a => exact absurd hp.length_eq (by simp)
    | idleS a => exact absurd hp.length_eq (by simp)
    | fwd a b c e f g i =>
      have := (perm_cons_one hp).1
      simp only [Prod.mk.injEq] at this
      have hkd := hi.ok.kind a
      omega
    | back a =>
      have := (perm_cons_one hp).1
      simp only [Prod.mk.injEq] at this
      omega
    | drops C a b c e f g i j k l =>
      have hin : (m.src, true) ∈ C := by
        obtain ⟨x, hx, hx'⟩ := List.mem_map.1 (hp.subset (List.mem_cons_self ..))
        obtain ⟨x1, x2⟩ := x
        cases x2
        · simp at hx'
        · simp at hx'; rw [← hx']; exact hx
      have hnd := nodup_of_map g
      have hlen : (C.erase (m.src, true)).length = C.length - 1 := List.length_erase_of_mem hin
      have hpos : 0 < C.length := List.length_pos_of_mem hin
      have hR : R.Perm ((C.erase (m.src, true)).map fun x => (if x.2 then 12 else 6, x.1, b16z)) := by
        have h1 : C.Perm ((m.src, true) :: C.erase (m.src, true)) := List.perm_cons_erase hin
        have h2 := h1.map fun x : Int × Bool => ((if x.2 then 12 else 6 : Int), x.1, b16z)
        exact (hp.trans h2).cons_inv
      have hs0 : (v m.src).s = 0 := (k _ hin).2.2 rfl
      have hask := h.ask a
      obtain ⟨hmem, hSh⟩ := f
      by_cases hw : d.waits = 1
      · rw [other_a1 hk hw]
        have hC : C.erase (m.src, true) = [] := List.eq_nil_of_length_eq_zero (by omega)
        have hall : ∀ x ∈ C, x = (m.src, true) := fun x hx => by
          by_cases ex : x = (m.src, true)
          · exact ex
          · have := (List.Nodup.mem_erase_iff hnd).2 ⟨ex, hx⟩
            rw [hC] at this
            cases this
        rw [hC] at hR
        obtain rfl := List.Perm.eq_nil hR
        refine ⟨⟨⟨_, true, ?_, Ph.dataO (d := { ownF d d.asks with waits := 0, told := true }) 10 a rfl rfl (fun c h1 h2 hne => ?_) ((hSh d.asks hask.1 hask.2).imp id fun h => ⟨h.1, h.2.1⟩) (.inr ⟨rfl, e⟩), tok { ownF d d.asks with waits := 0, told := true } rfl rfl rfl [sendM m 10 d.asks (lineB bs m.line)] (nok 10 d.asks _ (by decide))⟩, fun c hc => (sh0_none hc).elim, hask.2, fun _ => hask⟩, one 10 d.asks _ (by decide) hask, hq⟩
        · rw [List.nil_append, List.flatMap_cons, send_er _ _ _ _ (by decide), if_pos (by decide), hm, hmem]
          exact List.Perm.refl _
        · rcases hSh c h1 h2 with h | ⟨_, _, h⟩
          · exact h
          · rcases l c h with h | h
            · exact absurd h hne
            · obtain ⟨x, hx, rfl⟩ := List.mem_map.1 h
              rw [hall x hx]
              exact hs0
      · rw [other_a2 hk hw]
        refine ⟨⟨⟨_, true, ?_, Ph.drops (d := { d with sh := d.sh.set m.src false, waits := d.waits - 1 }) (C.erase (m.src, true)) a b c e ⟨hmem, fun c' h1 h2 => ?_⟩ ?_ ?_ ?_ (fun x hx => ?_) (fun c' hc => ?_), fun c' h1 h2 => ?_⟩, fun c' hc => ?_, h.own, fun _ => hask⟩, (fun y hy => by cases hy), hq⟩
        · show (R ++ [].flatMap er).Perm _
          rw [List.flatMap_nil, List.append_nil]
          exact hR
        · refine (hSh c' h1 h2).imp id fun ⟨j1, j2, j3⟩ => ⟨j1, j2, ?_⟩
          show (d.sh.set m.src false).get c' = true
          rw [sh_set_ne fun e => by rw [e] at j1; omega]
          exact j3
        · exact List.Nodup.sublist (List.Sublist.map _ (List.erase_sublist)) g
        · show _ = d.waits - 1
          omega
        · show 1 ≤ d.waits - 1
          omega
        · obtain ⟨hne, hx'⟩ := (List.Nodup.mem_erase_iff hnd).1 hx
          obtain ⟨k1, k2, k3⟩ := k x hx'
          refine ⟨?_, k2, k3⟩
          show (d.sh.set m.src false).get x.1 = true
          rw [sh_set_ne fun e => hne (nodup_fst g hx' hin e)]
          exact k1
        · have hc' : (d.sh.set m.src false).get c' = true := hc
          have hcm : c' ≠ m.src := fun e => by
            subst e
            have hk1 := k _ hin
            have := sh_get_rng hk1.1
            rw [sh_set_eq this] at hc'
            cases hc'
          rw [sh_set_ne hcm] at hc'
          refine (l c' hc').imp id fun h => ?_
          obtain ⟨x, hx, rfl⟩ := List.mem_map.1 h
          exact List.mem_map.2 ⟨x, (List.Nodup.mem_erase_iff hnd).2 ⟨fun e => hcm (by rw [e]), hx⟩, rfl⟩
        · exact tok { d with sh := d.sh.set m.src false, waits := d.waits - 1 } rfl rfl rfl [] (fun c => by rw [List.flatMap_nil, List.append_nil]) c' h1 h2
        · have hc' : (d.sh.set m.src false).get c' = true := hc
          by_cases e : c' = m.src
          · subst e
            exact h.shr _ (k _ hin).1
          · rw [sh_set_ne e] at hc'
            exact h.shr _ hc'
    | dataO k a b c e f g =>
      have := (perm_cons_one hp).1
      simp only [Prod.mk.injEq] at this
      omega
    | dataS a =>
      have := (perm_cons_one hp).1
      simp only [Prod.mk.injEq] at this
      omega
    | doneO a =>
      have := (perm_cons_one hp).1
      simp only [Prod.mk.injEq] at this
      omega
    | doneS a =>
      have := (perm_cons_one hp).1
      simp only [Prod.mk.injEq] at this
      omega
  · rw [er_one hk (by decide) (if_neg (by decide)) (if_neg (by decide))] at hp
    have fin : ∀ (hR : R = []), sv = false → Ph M { d with busy := false, asks := 0, kind := 0, waits := 0, told := false } (lineB bs n) cur v (fun c => PW c ++ d.q.flatMap (pt c)) [] false → EI n { d with busy := false, asks := 0, kind := 0, waits := 0, told := false } → LI M (drainF d.q bs { d with busy := false, asks := 0, kind := 0, waits := 0, told := false }).1 (lineB (drainF d.q bs { d with busy := false, asks := 0, kind := 0, waits := 0, told := false }).2.1 n) cur v (R ++ (drainF d.q bs { d with busy := false, asks := 0, kind := 0, waits := 0, told := false }).2.2.flatMap er) (fun c => GW c ++ (drainF d.q bs { d with busy := false, asks := 0, kind := 0, waits := 0, told := false }).1.q.flatMap (gt c)) (fun c => PW c ++ (drainF d.q bs { d with busy := false, asks := 0, kind := 0, waits := 0, told := false }).1.q.flatMap (pt c)) (fun c => A c ++ (drainF d.q bs { d with busy := false, asks := 0, kind := 0, waits := 0, told := false }).2.2.flatMap (kt c)) ∧ (∀ y ∈ (drainF d.q bs { d with busy := false, asks := 0, kind := 0, waits := 0, told := false }).2.2, y.line = n ∧ (4 ≤ y.kind ∧ y.kind ≤ 10) ∧ (0 ≤ y.dst ∧ y.dst < M)) ∧ ∀ z ∈ (drainF d.q bs { d with busy := false, asks := 0, kind := 0, waits := 0, told := false }).1.q, z.src < M := by
      intro hR hsv hPh hEI
      subst hR hsv
      have hL : LI M { d with busy := false, asks := 0, kind := 0, waits := 0, told := false } (lineB bs n) cur v [] (fun c => GW c ++ d.q.flatMap (gt c)) (fun c => PW c ++ d.q.flatMap (pt c)) A := ⟨⟨[], false, List.Perm.refl _, hPh, fun c h1 h2 => (ht c h1 h2).move (by unfold Wait; rw [if_neg (by simp), if_neg (by simp)])⟩, h.shr, h.own, fun h => by cases h⟩
      exact drain_li hM h0 d.q bs _ [] A hL hEI (fun m hm => ⟨hi.ok.rest m hm, hq m hm⟩) hn
    have hEI : EI n { d with busy := false, asks := 0, kind := 0, waits := 0, told := false } := ⟨⟨by show (0 : Int) ≤ 0 ∧ (0 : Int) < 4; decide, fun _ => rfl, hi.ok.own, hi.ok.q, pW0, fun h => (by cases h)⟩, hi.apart, fun _ => ⟨rfl, rfl⟩⟩
    rw [other_d hk]
    cases hph with
    | idleO a => exact absurd hp.length_eq (by simp)
    | idleS a => exact absurd hp.length_eq (by simp)
    | fwd a b c e f g i =>
      have := (perm_cons_one hp).1
      simp only [Prod.mk.injEq] at this
      have hkd := hi.ok.kind a
      omega
    | back a =>
      have := (perm_cons_one hp).1
      simp only [Prod.mk.injEq] at this
      omega
    | drops C a b c e f g i j k l =>
      have hmem := hp.subset (List.mem_cons_self ..)
      obtain ⟨x, _, hx⟩ := List.mem_map.1 hmem
      have := congrArg (fun z => z.1) hx
      by_cases hx2 : x.2 = true <;> simp [hx2] at this
    | dataO k a b c e f g =>
      have := (perm_cons_one hp).1
      simp only [Prod.mk.injEq] at this
      omega
    | dataS a =>
      have := (perm_cons_one hp).1
      simp only [Prod.mk.injEq] at this
      omega
    | doneO a b c e f =>
      have hask := h.ask a
      have hR : R = [] := (perm_cons_one hp).2
      exact fin hR rfl (Ph.idleO (d := { d with busy := false, asks := 0, kind := 0, waits := 0, told := false }) rfl (by show 0 ≤ d.o; rw [c]; exact hask.1) (by show Hold (v d.o) (PW d.o ++ d.q.flatMap (pt d.o)) cur; rw [c]; exact e) (by show Alone M v d.o; rw [c]; exact f)) hEI
    | doneS a b c e =>
      have hR : R = [] := (perm_cons_one hp).2
      exact fin hR rfl (Ph.idleS (d := { d with busy := false, asks := 0, kind := 0, waits := 0, told := false }) rfl c e) hEI
end
end Go.Proofs.Ytflnlmibkbojcaa
namespace Go.Proofs.Ytflnlmibkbojcaa
open Go.RowKit
def updC (v : Int → CV) (c : Int) (x : CV) : Int → CV := fun z => if z = c then x else v z
theorem upd_same (v : Int → CV) (c : Int) (x : CV) : updC v c x c = x := if_pos rfl
theorem upd_ne {v : Int → CV} {c z : Int} {x : CV} (h : z ≠ c) : updC v c x z = v z := if_neg h
def put1 {α : Type} (F : Int → List α) (c : Int) (l : List α) : Int → List α := fun z => if z = c then l else F z
theorem put1_same {α : Type} (F : Int → List α) (c : Int) (l : List α) : put1 F c l c = l := if_pos rfl
theorem put1_ne {α : Type} {F : Int → List α} {c z : Int} {l : List α} (h : z ≠ c) : put1 F c l z = F z := if_neg h
section
variable {M : Int} {d : Ent} {mem cur : B16} {v : Int → CV} {R : List ER} {G : Int → List Bool} {P : Int → List B16} {A : Int → List Unit} {m : Msg} {c : Int} {x : CV}
theorem Alone.updC (h : Alone M v c) : Alone M (updC v c x) c := fun z h1 h2 h3 => by rw [upd_ne h3]; exact h z h1 h2 h3
theorem Alone.upd0 {o : Int} (h : Alone M v o) (hx : x.s = 0) : Alone M (Go.Proofs.Ytflnlmibkbojcaa.updC v c x) o := fun z h1 h2 h3 => by
  by_cases e : z = c
  · subst e; rw [upd_same]; exact hx
  · rw [upd_ne e]; exact h z h1 h2 h3
theorem Alone.keep {o : Int} (h : Alone M v o) (hx : x.s = (v c).s) : Alone M (Go.Proofs.Ytflnlmibkbojcaa.updC v c x) o := fun z h1 h2 h3 => by
  by_cases e : z = c
  · subst e; rw [upd_same, hx]; exact h z h1 h2 h3
  · rw [upd_ne e]; exact h z h1 h2 h3
theorem Shared.upd0 {sh : Sh} (h : Shared M sh mem cur v) (hx : x.s = 0) : Shared M sh mem cur (Go.Proofs.Ytflnlmibkbojcaa.updC v c x) := ⟨h.1, fun z h1 h2 => by
  by_cases e : z = c
  · subst e; rw [upd_same]; exact .inl hx
  · rw [upd_ne e]; exact h.2 z h1 h2⟩
theorem Shared.keep {sh : Sh} (h : Shared M sh mem cur v) (hx : x.s = (v c).s) (hb : x.b = (v c).b) : Shared M sh mem cur (Go.Proofs.Ytflnlmibkbojcaa.updC v c x) := ⟨h.1, fun z h1 h2 => by
  by_cases e : z = c
  · subst e; rw [upd_same, hx, hb]; exact h.2 z h1 h2
  · rw [upd_ne e]; exact h.2 z h1 h2⟩
theorem Shared.low {sh : Sh} (h : Shared M sh mem cur v) (h0 : 0 ≤ c) (h1 : c < M) : (v c).s = 0 ∨ (v c).s = 1 := (h.2 c h0 h1).imp id fun h => h.1
theorem er_in {k z : Int} {b : B16} {R R' : List ER} (h : ((k, z, b) :: R).Perm R') : (k, z, b) ∈ R' := h.subset (List.mem_cons_self ..)
theorem data_li (h : LI M d mem cur v (er m ++ R) G P A) (hk : m.kind = 8 ∨ m.kind = 9 ∨ m.kind = 10) (hi : d.busy = true → d.kind = 1 ∨ d.kind = 2) (hc : m.dst = c) (s : Int) (hs : s = if m.kind = 8 then 1 else 2) :
    (0 ≤ c ∧ c < M) ∧ (v c).a = some (decide (m.kind = 10)) ∧ (v c).g = none ∧ m.bs = cur ∧ LI M d mem cur (updC v c ⟨s, m.bs, (v c).g, none⟩) ((13, c, b16z) :: R) G P A := by
  obtain ⟨R', sv, hp, hph, ht⟩ := h.ph
  rw [er_one (k := m.kind) rfl (by omega) (if_pos (by omega)) (if_pos (by omega)), hc] at hp
  have no : ∀ {k z : Int} {b : B16}, ([(m.kind, c, m.bs)] ++ R).Perm [(k, z, b)] → m.kind = k ∧ c = z ∧ m.bs = b ∧ R = [] := fun h => by
    obtain ⟨a, b⟩ := perm_cons_one h
    simp only [Prod.mk.injEq] at a
    exact ⟨a.1, a.2.1, a.2.2, b⟩
  -- who asks is served
  have srv : sv = true → d.busy = true → c = d.asks → ((m.kind = 10) ↔ d.kind = 2) → (0 ≤ c ∧ c < M) ∧ (v c).a = some (decide (m.kind = 10)) ∧ (v c).g = none ∧ ∀ z, 0 ≤ z → z < M → Tok d false z (updC v c ⟨s, m.bs, (v c).g, none⟩ z) (G z) (P z) (A z) := by
    intro h1 h2 h3 h4
    have hask := h.ask h2
    rw [← h3] at hask
    have t := ht c hask.1 hask.2
    have ha := t.ask
    unfold Wait at ha
    rw [if_pos ⟨h1, h3.symm⟩] at ha
    have hG : G c = [] ∧ (v c).a = some (decide (d.kind = 2)) := by
      cases hA : (v c).a with
      | none => rw [hA] at ha; simp at ha
      | some y =>
        rw [hA] at ha
        have hl := congrArg List.length ha
        simp only [List.length_append, List.length_cons, List.length_nil, Option.toList_some] at hl
        have hg : G c = [] := List.eq_nil_of_length_eq_zero (by omega)
        rw [hg] at ha
        simp at ha
        exact ⟨hg, by rw [← ha]⟩
    have hg : (v c).g = none := by
      cases hg : (v c).g with
      | none => rfl
      | some b => have := (t.giv (by rw [hg]; simp)).2; rw [hG.2] at this; cases this
    refine ⟨hask, ?_, hg, fun z hz1 hz2 => ?_⟩
    · rw [hG.2]; congr 1; exact decide_eq_decide.2 h4.symm
    · by_cases e : z = c
      · subst e
        rw [upd_same]
        refine ⟨?_, t.put, fun hg' => absurd hg hg', fun w hw => (by cases hw), ?_⟩
        · rw [hG.1]; unfold Wait; rw [if_neg (by simp)]; rfl
        · show s = 0 ∨ s = 1 ∨ s = 2 ∨ s = 3
          rw [hs]; split <;> omega
      · rw [upd_ne e]
        refine (ht z hz1 hz2).move ?_
        unfold Wait
        rw [if_neg (by simp), if_neg (by rw [← h3]; exact fun h => e h.2.symm)]
  cases hph with
  | idleO a => exact absurd hp.length_eq (by simp)
  | idleS a => exact absurd hp.length_eq (by simp)
  | fwd a => have := (no hp).1; have := hi a; omega
  | back a => have := (no hp).1; omega
  | drops C =>
    obtain ⟨x, _, hx⟩ := List.mem_map.1 (er_in hp)
    have := congrArg (fun z => z.1) hx
    by_cases hx2 : x.2 = true <;> simp [hx2] at this <;> omega
  | doneO a => have := (no hp).1; omega
  | doneS a => have := (no hp).1; omega
  | dataO k a b e f g i =>
    obtain ⟨h1, h2, h3, rfl⟩ := no hp
    have hid := hi a
    obtain ⟨s1, s2, s3, s4⟩ := srv rfl a h2 (by omega)
    refine ⟨s1, s2, s3, h3, ⟨_, false, List.Perm.refl _, ?_, s4⟩, h.shr, h.own, h.ask⟩
    rw [h2]
    refine Ph.doneO a b e (.inl ?_) ?_
    · rw [upd_same]
      refine ⟨?_, h3, by show (v d.asks).g = none; rw [← h2]; exact s3⟩
      show wr s
      rw [hs, if_neg (by omega)]; exact .inl rfl
    · exact Alone.updC f
  | dataS a b e f g i =>
    obtain ⟨h1, h2, h3, rfl⟩ := no hp
    obtain ⟨s1, s2, s3, s4⟩ := srv rfl a h2 (by omega)
    refine ⟨s1, s2, s3, h3, ⟨_, false, List.Perm.refl _, ?_, s4⟩, h.shr, h.own, h.ask⟩
    rw [h2]
    refine Ph.doneS a b e ⟨g.1, fun z z1 z2 => ?_⟩
    by_cases e' : z = d.asks
    · subst e'; rw [upd_same]; exact .inr ⟨by show s = 1; rw [hs, if_pos h1], h3, i⟩
    · rw [upd_ne e']; exact g.2 z z1 z2
theorem share_li (h : LI M d mem cur v (er m ++ R) G P A) (hk : m.kind = 4 ∨ m.kind = 5) (hi : d.busy = true → d.kind = 1 ∨ d.kind = 2) (hc : m.dst = c) (b9 : B16) :
    (0 ≤ c ∧ c < M) ∧ (((v c).g = some cur ∧ LI M d mem cur v ((11, c, cur) :: R) G P A) ∨ ((v c).g = none ∧ wr (v c).s ∧ (v c).b = cur ∧ LI M d mem cur (updC v c ⟨if m.kind = 4 then 1 else 0, if m.kind = 4 then cur else b9, (v c).g, (v c).a⟩) ((11, c, cur) :: R) G P A)) := by
  obtain ⟨R', sv, hp, hph, ht⟩ := h.ph
  rw [er_one (k := m.kind) rfl (by omega) (if_pos (by omega)) (if_neg (by omega)), hc] at hp
  have no : ∀ {k z : Int} {b : B16}, ([(m.kind, c, b16z)] ++ R).Perm [(k, z, b)] → m.kind = k ∧ c = z ∧ R = [] := fun h => by
    obtain ⟨a, b⟩ := perm_cons_one h
    simp only [Prod.mk.injEq] at a
    exact ⟨a.1, a.2.1, b⟩
  cases hph with
  | idleO a => exact absurd hp.length_eq (by simp)
  | idleS a => exact absurd hp.length_eq (by simp)
  | back a => have := (no hp).1; omega
  | drops C =>
    obtain ⟨x, _, hx⟩ := List.mem_map.1 (er_in hp)
    have := congrArg (fun z => z.1) hx
    by_cases hx2 : x.2 = true <;> simp [hx2] at this <;> omega
  | doneO a => have := (no hp).1; omega
  | doneS a => have := (no hp).1; omega
  | dataO k a b e f g i => have := (no hp).1; omega
  | dataS a => have := (no hp).1; omega
  | fwd a b e f g i j =>
    obtain ⟨h1, h2, rfl⟩ := no hp
    have hrng : 0 ≤ c ∧ c < M := ⟨by rw [h2]; exact e, by rw [h2]; exact h.own⟩
    refine ⟨hrng, ?_⟩
    rcases i with ⟨i1, i2, i3⟩ | ⟨i1, i2, i3⟩
    · rw [← h2] at i1 i2 i3
      refine .inr ⟨i3, i1, i2, ⟨_, true, List.Perm.refl _, ?_, fun z z1 z2 => ?_⟩, h.shr, h.own, h.ask⟩
      · rw [h2]
        refine Ph.back a b e f g (Alone.updC j) ?_
        rw [upd_same]
        by_cases h4 : m.kind = 4
        · exact .inr ⟨if_pos h4, if_pos h4, by omega⟩
        · exact .inl (if_neg h4)
      · by_cases ez : z = c
        · subst ez
          rw [upd_same]
          have t := ht z z1 z2
          have hw := wr_ne i1
          refine ⟨t.ask, t.put, fun hg => absurd i3 hg, fun w hw' => (t.st w hw').elim (fun h => absurd h hw.1) (fun h => absurd h.1 hw.2), ?_⟩
          · show (if m.kind = 4 then (1 : Int) else 0) = 0 ∨ (if m.kind = 4 then (1 : Int) else 0) = 1 ∨ (if m.kind = 4 then (1 : Int) else 0) = 2 ∨ (if m.kind = 4 then (1 : Int) else 0) = 3
            split <;> omega
        · rw [upd_ne ez]; exact ht z z1 z2
    · rw [← h2] at i1 i2 i3
      refine .inl ⟨i2, ⟨_, true, List.Perm.refl _, ?_, ht⟩, h.shr, h.own, h.ask⟩
      rw [h2]
      exact Ph.back a b e f g j (.inl (by rw [← h2]; exact i1))
theorem drop_li (h : LI M d mem cur v (er m ++ R) G P A) (hk : m.kind = 6) (hi : d.busy = true → d.kind = 1 ∨ d.kind = 2) (hc : m.dst = c) (b9 : B16) :
    (0 ≤ c ∧ c < M) ∧ ¬ wr (v c).s ∧ LI M d mem cur (updC v c ⟨0, b9, (v c).g, (v c).a⟩) ((12, c, b16z) :: R) G P A := by
  obtain ⟨R', sv, hp, hph, ht⟩ := h.ph
  rw [er_one hk (by omega) (if_pos (by omega)) (if_neg (by omega)), hc] at hp
  have no : ∀ {k z : Int} {b : B16}, ([((6 : Int), c, b16z)] ++ R).Perm [(k, z, b)] → 6 = k := fun h => by
    have := (perm_cons_one h).1
    simp only [Prod.mk.injEq] at this
    exact this.1
  cases hph with
  | idleO a => exact absurd hp.length_eq (by simp)
  | idleS a => exact absurd hp.length_eq (by simp)
  | fwd a => have := no hp; have := hi a; omega
  | back a => have := no hp; omega
  | doneO a => have := no hp; omega
  | doneS a => have := no hp; omega
  | dataO k a b e f g i => have := no hp; omega
  | dataS a => have := no hp; omega
  | drops C a b e f g i j k l o =>
    have hin : (c, false) ∈ C := by
      obtain ⟨x, hx, hx'⟩ := List.mem_map.1 (er_in hp)
      obtain ⟨x1, x2⟩ := x
      cases x2
      · simp at hx'; rw [← hx']; exact hx
      · simp at hx'
    have hnd := nodup_of_map i
    have hrng : 0 ≤ c ∧ c < M := ⟨(sh_get_rng (l _ hin).1).1, h.shr _ (l _ hin).1⟩
    have hlow := g.low hrng.1 hrng.2
    have hpc : C.Perm ((c, false) :: C.erase (c, false)) := List.perm_cons_erase hin
    have hR : R.Perm ((C.erase (c, false)).map fun x => (if x.2 then 12 else 6, x.1, b16z)) := by
      have h2 := hpc.map fun x : Int × Bool => ((if x.2 then 12 else 6 : Int), x.1, b16z)
      exact (hp.trans h2).cons_inv
    have hfst : (C.map Prod.fst).Perm (((c, true) :: C.erase (c, false)).map Prod.fst) := hpc.map Prod.fst
    have hlen := hfst.length_eq
    rw [List.length_map, List.length_map] at hlen
    refine ⟨hrng, fun hw => by have := wr_ne hw; omega, ⟨_, true, ?_, Ph.drops ((c, true) :: C.erase (c, false)) a b e f (g.upd0 rfl) (hfst.nodup_iff.1 i) (by rw [← hlen]; exact j) k (fun x hx => ?_) (fun z hz => (o z hz).imp id fun h => hfst.subset h), fun z z1 z2 => ?_⟩, h.shr, h.own, h.ask⟩
    · rw [List.map_cons]
      exact List.Perm.cons _ hR
    · rcases List.mem_cons.1 hx with rfl | hx
      · obtain ⟨l1, l2, _⟩ := l _ hin
        exact ⟨l1, l2, fun _ => by rw [upd_same]⟩
      · obtain ⟨hne, hx'⟩ := (List.Nodup.mem_erase_iff hnd).1 hx
        obtain ⟨l1, l2, l3⟩ := l x hx'
        have : x.1 ≠ c := fun e => hne (nodup_fst i hx' hin e)
        exact ⟨l1, l2, fun h => by rw [upd_ne this]; exact l3 h⟩
    · by_cases ez : z = c
      · subst ez
        rw [upd_same]
        have t := ht z z1 z2
        exact ⟨t.ask, t.put, fun hg => ⟨rfl, (t.giv hg).2⟩, fun w hw => .inl rfl, .inl rfl⟩
      · rw [upd_ne ez]; exact ht z z1 z2
end
end Go.Proofs.Ytflnlmibkbojcaa
namespace Go.Proofs.Ytflnlmibkbojcaa
open Go.RowKit
section
variable {M : Int} {d : Ent} {mem cur : B16} {v : Int → CV} {R : List ER} {G : Int → List Bool} {P : Int → List B16} {A : Int → List Unit} {m : Msg} {c : Int} {x : CV}
theorem Hold.updC {o : Int} {p : List B16} (h : Hold (v o) p cur) (ho : o ≠ c) : Hold (Go.Proofs.Ytflnlmibkbojcaa.updC v c x o) p cur := by rw [upd_ne ho]; exact h
theorem acked_li (h : LI M d mem cur v R G P A) (h0 : 0 ≤ c ∧ c < M) {l : List Unit} (hA : A c = () :: l) :
    (v c).g ≠ none ∧ LI M d mem cur (updC v c ⟨(v c).s, (v c).b, none, (v c).a⟩) R G P (put1 A c l) := by
  obtain ⟨R', sv, hp, hph, ht⟩ := h.ph
  have t := ht c h0.1 h0.2
  obtain ⟨b, hg, hP, hl⟩ : ∃ b, (v c).g = some b ∧ P c = [] ∧ l = [] := by
    rcases t.put with ⟨_, _, a⟩ | ⟨b, a, ⟨_, e⟩ | ⟨e, f⟩⟩
    · rw [hA] at a; cases a
    · rw [hA] at e; cases e
    · rw [hA] at f; simp at f; exact ⟨b, a, e, f⟩
  have hs := t.giv (by rw [hg]; simp)
  have hold : ∀ o, Hold (v o) (P o) cur → Hold (updC v c ⟨(v c).s, (v c).b, none, (v c).a⟩ o) (P o) cur := fun o ho => by
    by_cases e : o = c
    · subst e
      rcases ho with ⟨hw, _⟩ | ⟨_, _, e⟩
      · have := wr_ne hw; omega
      · rw [hP] at e; cases e
    · exact ho.updC e
  refine ⟨by rw [hg]; simp, ⟨R', sv, hp, ?_, fun z z1 z2 => ?_⟩, h.shr, h.own, h.ask⟩
  · cases hph with
    | idleO a b e f => exact .idleO a b (hold _ e) (f.keep rfl)
    | idleS a b e => exact .idleS a b (e.keep rfl rfl)
    | fwd a b e f g i j => exact .fwd a b e f g (hold _ i) (j.keep rfl)
    | back a b e f g i j =>
      refine .back a b e f g (i.keep rfl) ?_
      by_cases ec : d.o = c
      · rw [ec, upd_same, ← ec]; exact j
      · rw [upd_ne ec]; exact j
    | drops C a b e f g i j k l o =>
      refine .drops C a b e f (g.keep rfl rfl) i j k (fun x hx => ?_) o
      obtain ⟨l1, l2, l3⟩ := l x hx
      refine ⟨l1, l2, fun hx2 => ?_⟩
      by_cases ec : x.1 = c
      · rw [ec, upd_same]; show (v c).s = 0; rw [← ec]; exact l3 hx2
      · rw [upd_ne ec]; exact l3 hx2
    | dataO k a b e f g i =>
      refine .dataO k a b e (f.keep rfl) ?_ i
      by_cases ec : d.asks = c
      · rw [ec, upd_same, ← ec]; exact g
      · rw [upd_ne ec]; exact g
    | dataS a b e f g i => exact .dataS a b e f (g.keep rfl rfl) i
    | doneO a b e f g => exact .doneO a b e (hold _ f) (g.keep rfl)
    | doneS a b e f => exact .doneS a b e (f.keep rfl rfl)
  · by_cases ez : z = c
    · subst ez
      rw [upd_same, put1_same, hl]
      exact ⟨t.ask, .inl ⟨rfl, hP, rfl⟩, fun h => absurd rfl h, t.st, t.rng⟩
    · rw [upd_ne ez, put1_ne ez]; exact ht z z1 z2
theorem ask_li (h : LI M d mem cur v R G P A) (h0 : 0 ≤ c ∧ c < M) {w : Bool} (ha : (v c).a = none) (hg : (v c).g = none) (hs : (v c).s = 0 ∨ ((v c).s = 1 ∧ w = true)) :
    LI M d mem cur (updC v c ⟨(v c).s, (v c).b, (v c).g, some w⟩) R (put1 G c (G c ++ [w])) P A := by
  obtain ⟨R', sv, hp, hph, ht⟩ := h.ph
  have t := ht c h0.1 h0.2
  have hGW : G c = [] ∧ Wait d sv c = [] := by
    have := t.ask
    rw [ha] at this
    exact List.append_eq_nil_iff.1 this
  have hold : ∀ o, Hold (v o) (P o) cur → Hold (updC v c ⟨(v c).s, (v c).b, (v c).g, some w⟩ o) (P o) cur := fun o ho => by
    by_cases e : o = c
    · subst e; rw [upd_same]; exact ho
    · exact ho.updC e
  refine ⟨⟨R', sv, hp, ?_, fun z z1 z2 => ?_⟩, h.shr, h.own, h.ask⟩
  · cases hph with
    | idleO a b e f => exact .idleO a b (hold _ e) (f.keep rfl)
    | idleS a b e => exact .idleS a b (e.keep rfl rfl)
    | fwd a b e f g i j => exact .fwd a b e f g (hold _ i) (j.keep rfl)
    | back a b e f g i j =>
      refine .back a b e f g (i.keep rfl) ?_
      by_cases ec : d.o = c
      · rw [ec, upd_same, ← ec]; exact j
      · rw [upd_ne ec]; exact j
    | drops C a b e f g i j k l o =>
      refine .drops C a b e f (g.keep rfl rfl) i j k (fun x hx => ?_) o
      obtain ⟨l1, l2, l3⟩ := l x hx
      refine ⟨l1, l2, fun hx2 => ?_⟩
      by_cases ec : x.1 = c
      · rw [ec, upd_same]; show (v c).s = 0; rw [← ec]; exact l3 hx2
      · rw [upd_ne ec]; exact l3 hx2
    | dataO k a b e f g i =>
      refine .dataO k a b e (f.keep rfl) ?_ i
      by_cases ec : d.asks = c
      · rw [ec, upd_same, ← ec]; exact g
      · rw [upd_ne ec]; exact g
    | dataS a b e f g i => exact .dataS a b e f (g.keep rfl rfl) i
    | doneO a b e f g => exact .doneO a b e (hold _ f) (g.keep rfl)
    | doneS a b e f => exact .doneS a b e (f.keep rfl rfl)
  · by_cases ez : z = c
    · subst ez
      rw [upd_same, put1_same, hGW.1]
      refine ⟨?_, t.put, fun h => absurd hg h, fun w' hw => ?_, t.rng⟩
      · rw [hGW.2]; rfl
      · simp at hw; subst hw; exact hs
    · rw [upd_ne ez, put1_ne ez]; exact ht z z1 z2
theorem outS_li (h : LI M d mem cur v R G P A) (h0 : 0 ≤ c ∧ c < M) (hs : (v c).s = 1) (b9 : B16) :
    LI M d mem cur (updC v c ⟨0, b9, (v c).g, (v c).a⟩) R G P A := by
  obtain ⟨R', sv, hp, hph, ht⟩ := h.ph
  have hold : ∀ o, Hold (v o) (P o) cur → Hold (updC v c ⟨0, b9, (v c).g, (v c).a⟩ o) (P o) cur := fun o ho => by
    by_cases e : o = c
    · subst e
      rcases ho with ⟨hw, _⟩ | ⟨e, _⟩
      · have := wr_ne hw; omega
      · omega
    · exact ho.updC e
  refine ⟨⟨R', sv, hp, ?_, fun z z1 z2 => ?_⟩, h.shr, h.own, h.ask⟩
  · cases hph with
    | idleO a b e f => exact .idleO a b (hold _ e) (f.upd0 rfl)
    | idleS a b e => exact .idleS a b (e.upd0 rfl)
    | fwd a b e f g i j => exact .fwd a b e f g (hold _ i) (j.upd0 rfl)
    | back a b e f g i j =>
      refine .back a b e f g (i.upd0 rfl) ?_
      by_cases ec : d.o = c
      · rw [ec, upd_same]; exact .inl rfl
      · rw [upd_ne ec]; exact j
    | drops C a b e f g i j k l o =>
      refine .drops C a b e f (g.upd0 rfl) i j k (fun x hx => ?_) o
      obtain ⟨l1, l2, l3⟩ := l x hx
      refine ⟨l1, l2, fun hx2 => ?_⟩
      by_cases ec : x.1 = c
      · rw [ec, upd_same]
      · rw [upd_ne ec]; exact l3 hx2
    | dataO k a b e f g i =>
      refine .dataO k a b e (f.upd0 rfl) ?_ i
      by_cases ec : d.asks = c
      · rw [ec, upd_same]; exact .inl rfl
      · rw [upd_ne ec]; exact g
    | dataS a b e f g i => exact .dataS a b e f (g.upd0 rfl) i
    | doneO a b e f g => exact .doneO a b e (hold _ f) (g.upd0 rfl)
    | doneS a b e f => exact .doneS a b e (f.upd0 rfl)
  · by_cases ez : z = c
    · subst ez
      rw [upd_same]
      have t := ht z z1 z2
      exact ⟨t.ask, t.put, fun hg => ⟨rfl, (t.giv hg).2⟩, fun w hw => .inl rfl, .inl rfl⟩
    · rw [upd_ne ez]; exact ht z z1 z2
theorem own_li (h : LI M d mem cur v R G P A) (h0 : 0 ≤ c ∧ c < M) (hw : wr (v c).s) : (v c).b = cur ∧ (v c).g = none ∧ (v c).a = none ∧ Alone M v c ∧ P c = [] := by
  obtain ⟨R', sv, hp, hph, ht⟩ := h.ph
  have t := ht c h0.1 h0.2
  have hn := wr_ne hw
  have hg : (v c).g = none := by
    cases hg : (v c).g with
    | none => rfl
    | some b => have := (t.giv (by rw [hg]; simp)).1; omega
  have ha : (v c).a = none := by
    cases ha : (v c).a with
    | none => rfl
    | some w => exact (t.st w ha).elim (fun h => absurd h hn.1) (fun h => absurd h.1 hn.2)
  have hP : P c = [] := by
    rcases t.put with ⟨_, a, _⟩ | ⟨b, a, _⟩
    · exact a
    · rw [hg] at a; cases a
  have fin : ∀ o, Hold (v o) (P o) cur → Alone M v o → (v c).b = cur ∧ (v c).g = none ∧ (v c).a = none ∧ Alone M v c ∧ P c = [] := fun o ho hA => by
    by_cases e : c = o
    · subst e
      rcases ho with ⟨_, hb, _⟩ | ⟨e, _⟩
      · exact ⟨hb, hg, ha, hA, hP⟩
      · omega
    · have := hA c h0.1 h0.2 e; omega
  have sh : ∀ {s : Sh}, Shared M s mem cur v → False := fun h => by have := h.low h0.1 h0.2; omega
  cases hph with
  | idleO a b e f => exact fin _ e f
  | idleS a b e => exact (sh e).elim
  | fwd a b e f g i j => exact fin _ i j
  | back a b e f g i j =>
    exfalso
    by_cases ec : c = d.o
    · subst ec; rcases j with j | ⟨j, _⟩ <;> omega
    · have := i c h0.1 h0.2 ec; omega
  | drops C a b e f g => exact (sh g).elim
  | dataO k a b e f g i =>
    exfalso
    by_cases ec : c = d.asks
    · subst ec; rcases g with j | ⟨j, _⟩ <;> omega
    · have := f c h0.1 h0.2 ec; omega
  | dataS a b e f g i => exact (sh g).elim
  | doneO a b e f g => exact fin _ f g
  | doneS a b e f => exact (sh f).elim
theorem has_li (h : LI M d mem cur v R G P A) (h0 : 0 ≤ c ∧ c < M) (hs : (v c).s ≠ 0) : (v c).b = cur := by
  by_cases hw : wr (v c).s
  · exact (own_li h h0 hw).1
  obtain ⟨R', sv, hp, hph, ht⟩ := h.ph
  have hr := (ht c h0.1 h0.2).rng
  have h1 : (v c).s = 1 := by unfold wr at hw; omega
  have al : ∀ o, Hold (v o) (P o) cur → Alone M v o → False := fun o ho hA => by
    by_cases e : c = o
    · subst e
      rcases ho with ⟨hw', _⟩ | ⟨e, _⟩
      · exact hw hw'
      · exact hs e
    · exact hs (hA c h0.1 h0.2 e)
  have sh : ∀ {s : Sh}, Shared M s mem cur v → (v c).b = cur := fun h => (h.2 c h0.1 h0.2).elim (fun h => absurd h hs) (fun h => h.2.1)
  cases hph with
  | idleO a b e f => exact (al _ e f).elim
  | idleS a b e => exact sh e
  | fwd a b e f g i j => exact (al _ i j).elim
  | back a b e f g i j =>
    by_cases ec : c = d.o
    · subst ec; exact j.elim (fun h => absurd h hs) (fun h => h.2.1)
    · exact absurd (i c h0.1 h0.2 ec) hs
  | drops C a b e f g => exact sh g
  | dataO k a b e f g i =>
    by_cases ec : c = d.asks
    · subst ec; exact g.elim (fun h => absurd h hs) (fun h => h.2)
    · exact absurd (f c h0.1 h0.2 ec) hs
  | dataS a b e f g i => exact sh g
  | doneO a b e f g => exact (al _ f g).elim
  | doneS a b e f => exact sh f
theorem turn_li (h : LI M d mem cur v R G P A) (h0 : 0 ≤ c ∧ c < M) (hw : wr (v c).s) {cur' : B16} {P' : Int → List B16} (hP : ∀ z, z ≠ c → P' z = P z) (hx : Hold x (P' c) cur') (ht : ∀ sv, Tok d sv c (v c) (G c) (P c) (A c) → Tok d sv c x (G c) (P' c) (A c)) : LI M d mem cur' (updC v c x) R G P' A := by
  obtain ⟨hb, hg, ha, hA, hPc⟩ := own_li h h0 hw
  obtain ⟨R', sv, hp, hph, htk⟩ := h.ph
  have hn := wr_ne hw
  have who : ∀ o, Hold (v o) (P o) cur → Alone M v o → o = c := fun o ho hA => by
    by_cases e : c = o
    · exact e.symm
    · have := hA c h0.1 h0.2 e; omega
  have sh : ∀ {s : Sh}, Shared M s mem cur v → False := fun h => by have := h.low h0.1 h0.2; omega
  refine ⟨⟨R', sv, hp, ?_, fun z z1 z2 => ?_⟩, h.shr, h.own, h.ask⟩
  · cases hph with
    | idleO a b e f =>
      have e' := who _ e f
      refine .idleO a b ?_ (by rw [e']; exact hA.updC)
      rw [e', upd_same]; exact hx
    | idleS a b e => exact (sh e).elim
    | fwd a b e f g i j =>
      have e' := who _ i j
      refine .fwd a b e f g ?_ (by rw [e']; exact hA.updC)
      rw [e', upd_same]; exact hx
    | back a b e f g i j =>
      exfalso
      by_cases ec : c = d.o
      · subst ec; rcases j with j | ⟨j, _⟩ <;> omega
      · have := i c h0.1 h0.2 ec; omega
    | drops C a b e f g => exact (sh g).elim
    | dataO k a b e f g i =>
      exfalso
      by_cases ec : c = d.asks
      · subst ec; rcases g with j | ⟨j, _⟩ <;> omega
      · have := f c h0.1 h0.2 ec; omega
    | dataS a b e f g i => exact (sh g).elim
    | doneO a b e f g =>
      have e' := who _ f g
      refine .doneO a b e ?_ (by rw [e']; exact hA.updC)
      rw [e', upd_same]; exact hx
    | doneS a b e f => exact (sh f).elim
  · by_cases ez : z = c
    · subst ez; rw [upd_same]; exact ht sv (htk z z1 z2)
    · rw [upd_ne ez, hP z ez]; exact htk z z1 z2
theorem write_li (h : LI M d mem cur v R G P A) (h0 : 0 ≤ c ∧ c < M) (hw : wr (v c).s) (cur' : B16) {s : Int} (hs : wr s) : LI M d mem cur' (updC v c ⟨s, cur', (v c).g, (v c).a⟩) R G P A := by
  obtain ⟨hb, hg, ha, hA, hPc⟩ := own_li h h0 hw
  refine turn_li h h0 hw (fun z _ => rfl) (.inl ⟨hs, rfl, hg⟩) fun sv t => ⟨t.ask, t.put, fun hg' => absurd hg hg', fun w hw' => (by rw [show (v c).a = some w from hw'] at ha; cases ha), ?_⟩
  show s = 0 ∨ s = 1 ∨ s = 2 ∨ s = 3
  unfold wr at hs; omega
theorem outW_li (h : LI M d mem cur v R G P A) (h0 : 0 ≤ c ∧ c < M) (hw : wr (v c).s) (b9 : B16) : LI M d mem cur (updC v c ⟨0, b9, some (v c).b, (v c).a⟩) R G (put1 P c (P c ++ [(v c).b])) A := by
  obtain ⟨hb, hg, ha, hA, hPc⟩ := own_li h h0 hw
  refine turn_li h h0 hw (fun z hz => put1_ne hz) (.inr ⟨rfl, by show some (v c).b = _; rw [hb], by rw [put1_same, hPc, hb]; rfl⟩) fun sv t => ⟨t.ask, ?_, fun _ => ⟨rfl, ha⟩, fun w hw' => .inl rfl, .inl rfl⟩
  refine .inr ⟨(v c).b, rfl, .inl ⟨by rw [put1_same, hPc]; rfl, ?_⟩⟩
  rcases t.put with ⟨_, _, a⟩ | ⟨b, a, _⟩
  · exact a
  · rw [hg] at a; cases a
end
end Go.Proofs.Ytflnlmibkbojcaa
namespace Go.Proofs.Ytflnlmibkbojcaa
open Go.RowKit
def gvw (g : Option Ln) (n : Int) : Option B16 := match g with | some x => if x.num = n then some x.bs else none | none => none
def avw (a : Option (Int × Bool)) (n : Int) : Option Bool := match a with | some (l, w) => if l = n then some w else none | none => none
def bvw (L : List Ln) (n : Int) : B16 := ((getN L n).getD ln0).bs
def cvw (d : CD) (n : Int) : CV := ⟨stateOf d.L n, bvw d.L n, gvw d.giv n, avw d.ask n⟩
section
variable {n k : Int} {L : List Ln} {d : CD} {x : Ln} {m : Msg}
theorem state_drop : stateOf (dropL L k) n = if n = k then 0 else stateOf L n := by
  unfold stateOf
  rw [get_drop]
  split <;> rfl
theorem bvw_drop : bvw (dropL L k) n = if n = k then b16z else bvw L n := by
  unfold bvw
  rw [get_drop]
  split <;> rfl
theorem get_appC (A B : List Ln) (num : Int) : getN (A ++ B) num = (getN A num).or (getN B num) := by
  unfold getN
  rw [List.find?_append]
theorem get_put {c : Nat} {ways : Int} (he : putE c ways L x = 0) : getN (putL c ways L x) n = if n = x.num then some x else getN L n := by
  unfold putL
  rw [if_pos he]
  by_cases h : getN L x.num = none
  · rw [if_pos h, get_appC]
    by_cases e : n = x.num
    · subst e
      rw [if_pos rfl, h]
      simp [getN, isNum]
    · rw [if_neg e]
      have : getN [x] n = none := by simp [getN, isNum]; exact fun h => e h.symm
      rw [this]; simp
  · rw [if_neg h]; exact get_repl h
theorem state_put {c : Nat} {ways : Int} (he : putE c ways L x = 0) : stateOf (putL c ways L x) n = if n = x.num then x.state else stateOf L n := by
  unfold stateOf
  rw [get_put he]
  split <;> rfl
theorem bvw_put {c : Nat} {ways : Int} (he : putE c ways L x = 0) : bvw (putL c ways L x) n = if n = x.num then x.bs else bvw L n := by
  unfold bvw
  rw [get_put he]
  split <;> rfl
end
end Go.Proofs.Ytflnlmibkbojcaa
namespace Go.Proofs.Ytflnlmibkbojcaa
open Go.RowKit
theorem wrb (s : Int) : writesB s = true ↔ wr s := by unfold writesB wr; simp
section
variable {d : CD} {m : Msg} {n : Int}
theorem avw_some {a : Option (Int × Bool)} {w : Bool} (h : avw a n = some w) : a = some (n, w) := by
  unfold avw at h
  cases a with
  | none => cases h
  | some y =>
    obtain ⟨l, w'⟩ := y
    dsimp only at h
    split at h
    · rename_i e; cases h; rw [e]
    · cases h
theorem gvw_some {g : Option Ln} {b : B16} (h : gvw g n = some b) : ∃ x, g = some x ∧ x.num = n ∧ x.bs = b := by
  unfold gvw at h
  cases g with
  | none => cases h
  | some y =>
    dsimp only at h
    split at h
    · rename_i e; cases h; exact ⟨y, rfl, e, rfl⟩
    · cases h
theorem there_of {L : List Ln} (h : stateOf L n ≠ 0) : ∃ x, getN L n = some x ∧ (getN L n).getD ln0 = x ∧ x.num = n := by
  unfold stateOf at h
  cases hg : getN L n with
  | none => rw [hg] at h; exact absurd rfl h
  | some x => exact ⟨x, rfl, rfl, get_num hg⟩
theorem putE_there {c : Nat} {ways : Int} {L : List Ln} {x : Ln} (hx : getN L x.num ≠ none) (hs : 1 ≤ x.state ∧ x.state ≤ 3) : putE c ways L x = 0 := by
  unfold putE
  rw [if_neg (by simp [okS, hs.1, hs.2]), if_neg fun h => hx h.1]
theorem take_data (hd : DOk d) (hc : chk m = 0) (hto : m.dst = d.id) (hk : m.kind = 8 ∨ m.kind = 9 ∨ m.kind = 10) (ha : avw d.ask m.line = some (decide (m.kind = 10))) :
    takeF d m = ({ d with L := putL d.n d.ways d.L (dataLn m), ask := none }, [mkM 13 d.id 4 m.line b16z m.hn], 0) ∧
      ∀ n, cvw { d with L := putL d.n d.ways d.L (dataLn m), ask := none } n = if n = m.line then ⟨if m.kind = 8 then 1 else 2, m.bs, gvw d.giv n, none⟩ else cvw d n := by
  have ha' := avw_some ha
  have hok : dataOk d m = true := by
    unfold dataOk
    rw [ha']
    simp
  have he := data_room (d := d) hd.room m hok
  refine ⟨?_, fun n => ?_⟩
  · unfold takeF
    rw [if_neg (by simp [hc, hto]), if_pos hk, if_pos ⟨hok, he⟩]
  · unfold cvw
    dsimp only
    rw [state_put he, bvw_put he]
    show (⟨if n = m.line then _ else _, if n = m.line then _ else _, _, _⟩ : CV) = _
    by_cases e : n = m.line
    · rw [if_pos e, if_pos e, if_pos e]; rfl
    · rw [if_neg e, if_neg e, if_neg e, ha']
      congr 1
      unfold avw
      dsimp only
      rw [if_neg (Ne.symm e)]
theorem take_share_g (hc : chk m = 0) (hto : m.dst = d.id) (hk : m.kind = 4 ∨ m.kind = 5) {b : B16} (hg : gvw d.giv m.line = some b) : takeF d m = (d, [mkM 11 d.id 4 m.line b m.hn], 0) := by
  obtain ⟨x, hx, hn, rfl⟩ := gvw_some hg
  unfold takeF
  rw [if_neg (by simp [hc, hto]), if_neg (by omega), if_pos hk, hx]
  dsimp only
  rw [if_pos hn]
theorem take_share_w (hc : chk m = 0) (hto : m.dst = d.id) (hk : m.kind = 4 ∨ m.kind = 5) (hg : gvw d.giv m.line = none) (hw : wr (stateOf d.L m.line)) :
    ∃ L', takeF d m = ({ d with L := L' }, [mkM 11 d.id 4 m.line (bvw d.L m.line) m.hn], 0) ∧
      ∀ n, cvw { d with L := L' } n = if n = m.line then ⟨if m.kind = 4 then 1 else 0, if m.kind = 4 then bvw d.L m.line else b16z, gvw d.giv n, avw d.ask n⟩ else cvw d n := by
  have hb : takeF d m = takeF.backF d m := by
    unfold takeF
    rw [if_neg (by simp [hc, hto]), if_neg (by omega), if_pos hk]
    cases hgv : d.giv with
    | none => rfl
    | some x =>
      dsimp only
      rw [if_neg fun e => by rw [hgv] at hg; unfold gvw at hg; dsimp only at hg; rw [if_pos e] at hg; cases hg]
  have hw' : writesB (stateOf d.L m.line) = true := (wrb _).2 hw
  obtain ⟨x, hx1, hx2, hx3⟩ := there_of (wr_ne hw).1
  rw [hb]
  unfold takeF.backF
  rw [if_pos hw']
  refine ⟨_, rfl, fun n => ?_⟩
  rw [hx2]
  by_cases h4 : m.kind = 4
  · rw [if_pos h4]
    have he : putE d.n d.ways d.L { x with state := 1 } = 0 := putE_there (by show getN d.L x.num ≠ none; rw [hx3, hx1]; simp) (by show 1 ≤ (1 : Int) ∧ (1 : Int) ≤ 3; decide)
    unfold cvw
    dsimp only
    rw [state_put he, bvw_put he]
    show (⟨if n = x.num then 1 else _, if n = x.num then x.bs else _, _, _⟩ : CV) = _
    rw [hx3]
    by_cases e : n = m.line
    · rw [if_pos e, if_pos e, if_pos e, if_pos h4, if_pos h4]
      congr 1
      unfold bvw; rw [hx2]
    · rw [if_neg e, if_neg e, if_neg e]
  · rw [if_neg h4]
    unfold cvw
    dsimp only
    rw [state_drop, bvw_drop, hx3]
    by_cases e : n = m.line
    · rw [if_pos e, if_pos e, if_pos e, if_neg h4, if_neg h4]
    · rw [if_neg e, if_neg e, if_neg e]
theorem take_drop (hc : chk m = 0) (hto : m.dst = d.id) (hk : m.kind = 6) (hw : ¬ wr (stateOf d.L m.line)) :
    takeF d m = ({ d with L := dropL d.L m.line }, [mkM 12 d.id 4 m.line b16z m.hn], 0) ∧ ∀ n, cvw { d with L := dropL d.L m.line } n = if n = m.line then ⟨0, b16z, gvw d.giv n, avw d.ask n⟩ else cvw d n := by
  refine ⟨?_, fun n => ?_⟩
  · unfold takeF
    rw [if_neg (by simp [hc, hto]), if_neg (by omega), if_neg (by omega), if_pos hk, if_neg fun h => hw ((wrb _).1 h)]
  · unfold cvw
    dsimp only
    rw [state_drop, bvw_drop]
    by_cases e : n = m.line
    · rw [if_pos e, if_pos e, if_pos e]
    · rw [if_neg e, if_neg e, if_neg e]
theorem take_acked (hc : chk m = 0) (hto : m.dst = d.id) (hk : m.kind = 7) (hg : gvw d.giv m.line ≠ none) :
    takeF d m = ({ d with giv := none }, [], 0) ∧ ∀ n, cvw { d with giv := none } n = if n = m.line then ⟨stateOf d.L n, bvw d.L n, none, avw d.ask n⟩ else cvw d n := by
  obtain ⟨b, hb⟩ : ∃ b, gvw d.giv m.line = some b := by
    cases h : gvw d.giv m.line with
    | none => exact absurd h hg
    | some b => exact ⟨b, rfl⟩
  obtain ⟨x, hx, hn, _⟩ := gvw_some hb
  refine ⟨?_, fun n => ?_⟩
  · unfold takeF
    rw [if_neg (by simp [hc, hto]), if_neg (by omega), if_neg (by omega), if_neg (by omega), if_pos (by rw [hx]; simp [mine, hn])]
  · unfold cvw
    dsimp only
    by_cases e : n = m.line
    · rw [if_pos e]; rfl
    · rw [if_neg e, hx]
      congr 1
      unfold gvw
      dsimp only
      rw [if_neg (by rw [hn]; exact Ne.symm e)]
theorem get_mem {L : List Ln} (hu : Uniq L) {x : Ln} (hx : x ∈ L) : getN L x.num = some x := by
  unfold getN
  induction L with
  | nil => cases hx
  | cons y r ih =>
    rw [List.find?_cons]
    have hu' := List.pairwise_cons.1 hu
    by_cases e : y.num = x.num
    · have : isNum x.num y = true := by simp [isNum, e]
      rw [this]
      rcases List.mem_cons.1 hx with h | h
      · rw [h]
      · exact absurd e (hu'.1 x h)
    · have : isNum x.num y = false := by simp [isNum, e]
      rw [this]
      rcases List.mem_cons.1 hx with h | h
      · exact absurd (by rw [h]) e
      · exact ih hu'.2 h
theorem out_cases (hd : DOk d) {x : Ln} (hx : x ∈ d.L) : (stateOf d.L x.num = 1 ∧ outF d x = ({ d with L := dropL d.L x.num }, [], true) ∧ ∀ n, cvw { d with L := dropL d.L x.num } n = if n = x.num then ⟨0, b16z, gvw d.giv n, avw d.ask n⟩ else cvw d n) ∨
    (wr (stateOf d.L x.num) ∧ d.giv = none ∧ bvw d.L x.num = x.bs ∧ outF d x = ({ d with L := dropL d.L x.num, giv := some x }, [putM d.id x], true) ∧ ∀ n, cvw { d with L := dropL d.L x.num, giv := some x } n = if n = x.num then ⟨0, b16z, some x.bs, avw d.ask n⟩ else cvw d n) ∨
    ((outF d x).1 = d ∧ (outF d x).2.1 = [] ∧ (outF d x).2.2 = false) := by
  have hg := get_mem hd.uniq hx
  have hst : stateOf d.L x.num = x.state := by unfold stateOf; rw [hg]; rfl
  have hrg := hd.st x hx
  have hbv : bvw d.L x.num = x.bs := by unfold bvw; rw [hg]; rfl
  by_cases h1 : x.state = 1
  · refine .inl ⟨by rw [hst, h1], by unfold outF; rw [if_pos h1], fun n => ?_⟩
    unfold cvw
    dsimp only
    rw [state_drop, bvw_drop]
    by_cases e : n = x.num
    · rw [if_pos e, if_pos e, if_pos e]
    · rw [if_neg e, if_neg e, if_neg e]
  · have hw : wr (stateOf d.L x.num) := by rw [hst]; unfold wr; omega
    cases hgv : d.giv with
    | none =>
      refine .inr (.inl ⟨hw, rfl, hbv, by unfold outF; rw [if_neg h1, hgv], fun n => ?_⟩)
      unfold cvw
      dsimp only
      rw [state_drop, bvw_drop, hgv]
      by_cases e : n = x.num
      · rw [if_pos e, if_pos e, if_pos e]
        subst e
        show (⟨0, b16z, gvw (some x) x.num, _⟩ : CV) = _
        unfold gvw
        dsimp only
        rw [if_pos rfl]
      · rw [if_neg e, if_neg e, if_neg e]
        congr 1
        unfold gvw
        dsimp only
        rw [if_neg (Ne.symm e)]
    | some y => exact .inr (.inr (by unfold outF; rw [if_neg h1, hgv]; exact ⟨rfl, rfl, rfl⟩))
end
end Go.Proofs.Ytflnlmibkbojcaa
namespace Go.Proofs.Ytflnlmibkbojcaa
open Go.RowKit
def cd0 : CD := ⟨0, 1, 1, [], none, none⟩
def cat (cs : List CD) (z : Int) : CD := if 0 ≤ z then cs.getD z.toNat cd0 else cd0
def vw (cs : List CD) (n : Int) (z : Int) : CV := cvw (cat cs z) n
def wn (n : Int) (way : List Msg) : List Msg := way.filter fun m => decide (m.line = n)
theorem wn_app (n : Int) (a b : List Msg) : wn n (a ++ b) = wn n a ++ wn n b := List.filter_append ..
theorem wn_cons {n : Int} {m : Msg} {l : List Msg} : wn n (m :: l) = if m.line = n then m :: wn n l else wn n l := by
  unfold wn
  by_cases h : m.line = n
  · rw [if_pos h, List.filter_cons_of_pos (by simp [h])]
  · rw [if_neg h, List.filter_cons_of_neg (by simp [h])]
theorem wn_all {n : Int} {l : List Msg} (h : ∀ m ∈ l, m.line = n) : wn n l = l := List.filter_eq_self.2 fun m hm => by simp [h m hm]
theorem wn_none {n k : Int} {l : List Msg} (h : ∀ m ∈ l, m.line = k) (hk : k ≠ n) : wn n l = [] := List.filter_eq_nil_iff.2 fun m hm => by simp [h m hm, hk]
theorem cat_set {cs : List CD} {c : Int} {d : CD} (h0 : 0 ≤ c) (h1 : c < cs.length) (z : Int) : cat (cs.set c.toNat d) z = if z = c then d else cat cs z := by
  unfold cat
  by_cases hz : 0 ≤ z
  · rw [if_pos hz, if_pos hz]
    by_cases e : z = c
    · subst e
      rw [if_pos rfl]
      have : z.toNat < cs.length := by omega
      simp [List.getD, this]
    · rw [if_neg e]
      have : c.toNat ≠ z.toNat := by omega
      simp [List.getD, List.getElem?_set, this]
  · rw [if_neg hz, if_neg hz, if_neg (by omega)]
theorem vw_set {cs : List CD} {c : Int} {d : CD} (h0 : 0 ≤ c) (h1 : c < cs.length) (n : Int) : vw (cs.set c.toNat d) n = updC (vw cs n) c (cvw d n) := by
  funext z
  unfold vw updC
  rw [cat_set h0 h1]
  split <;> rfl
theorem upd_self (v : Int → CV) (c : Int) : updC v c (v c) = v := by
  funext z
  unfold updC
  split
  · rename_i h; rw [h]
  · rfl
def LS (cs : List CD) (h : HD) (way : List Msg) (cur : B16) (n : Nat) : Prop :=
  LI cs.length (entOf h.E n) (lineB h.bs n) cur (vw cs n) ((wn n way).flatMap er) (fun c => (wn n way).flatMap (gt c) ++ (entOf h.E n).q.flatMap (gt c)) (fun c => (wn n way).flatMap (pt c) ++ (entOf h.E n).q.flatMap (pt c)) (fun c => (wn n way).flatMap (kt c))
theorem LS.perm {cs : List CD} {h : HD} {way way' : List Msg} {cur : B16} {n : Nat} (hl : LS cs h way cur n) (hp : (wn n way).Perm (wn n way')) : LS cs h way' cur n :=
  LI.perm hl (hp.flatMap_right _) (fun c => List.Perm.append_right _ (hp.flatMap_right _)) (fun c => List.Perm.append_right _ (hp.flatMap_right _)) (fun c => hp.flatMap_right _)
structure GM (M : Int) (N : Nat) (m : Msg) : Prop where
  line : m.line.toNat < N
  chk : Go.Proofs.Ytflnlmibkbojcaa.chk m = 0
  rng : (m.dst = 4 ∧ (0 ≤ m.src ∧ m.src < M)) ∨ (m.dst ≠ 4 ∧ (0 ≤ m.dst ∧ m.dst < M) ∧ (4 ≤ m.kind ∧ m.kind ≤ 10))
structure SI (cs : List CD) (h : HD) (way : List Msg) (last : Nat → B16) (k : Nat) : Prop where
  len : 1 ≤ cs.length ∧ cs.length ≤ 4
  ok : ∀ c : Int, 0 ≤ c → c < cs.length → DOk (cat cs c) ∧ (cat cs c).id = c
  hi : HI k h
  good : ∀ m ∈ way, GM cs.length h.E.length m
  li : ∀ n, n < h.E.length → LS cs h way (last n) n
  q : ∀ n, n < h.E.length → ∀ m ∈ (entOf h.E n).q, m.src < cs.length
  z : ∀ c : Int, 0 ≤ c → c < cs.length → ∀ n : Int, ¬ (0 ≤ n ∧ n < h.E.length) → (cvw (cat cs c) n).s = 0 ∧ (cvw (cat cs c) n).a = none ∧ (cvw (cat cs c) n).g = none
def Sd (m y : Msg) : Prop := ∃ k dst b, y = sendM m k dst b ∧ (4 ≤ k ∧ k ≤ 10) ∧ (b = b16z ∨ 8 ≤ k)
theorem begin_sd {bs : List UInt8} {d : Ent} {m : Msg} (hk : 1 ≤ m.kind ∧ m.kind ≤ 3) : ∀ y ∈ (beginF bs d m).2.2, Sd m y := by
  unfold beginF
  dsimp only
  intro y hy
  split at hy
  · simp at hy; exact ⟨7, _, _, hy, by decide, .inl rfl⟩
  · split at hy
    · simp at hy; exact ⟨_, _, _, hy, by omega, .inl rfl⟩
    · split at hy
      · split at hy
        · simp at hy; exact ⟨10, _, _, hy, by decide, .inr (by decide)⟩
        · obtain ⟨c, _, hc⟩ := List.mem_map.1 hy
          exact ⟨6, _, _, hc.symm, by decide, .inl rfl⟩
      · split at hy
        · simp at hy; exact ⟨9, _, _, hy, by decide, .inr (by decide)⟩
        · simp at hy; exact ⟨8, _, _, hy, by decide, .inr (by decide)⟩
theorem drain_sd {n : Int} : ∀ (q : List Msg) (bs : List UInt8) (d : Ent), (∀ m ∈ q, ROk n m) → ∀ y ∈ (drainF q bs d).2.2, ∃ m, m.line = n ∧ Sd m y
  | [], bs, d, hq, y, hy => by cases hy
  | m :: r, bs, d, hq, y, hy => by
    rw [drain_cons] at hy
    have hm := hq m (List.mem_cons_self ..)
    split at hy
    · cases hy
    · rcases List.mem_append.1 hy with hy | hy
      · exact ⟨m, hm.line, begin_sd hm.kind y hy⟩
      · exact drain_sd r _ _ (fun x hx => hq x (List.mem_cons_of_mem _ hx)) y hy
theorem other_sd {n : Int} {bs : List UInt8} {d : Ent} {m : Msg} (hm : m.line = n) (hq : ∀ m ∈ d.q, ROk n m) : ∀ y ∈ (otherF bs d m).2.2, ∃ m, m.line = n ∧ Sd m y := by
  intro y hy
  unfold otherF at hy
  split at hy
  · exact drain_sd d.q _ _ hq y hy
  · split at hy
    · dsimp only at hy
      split at hy
      · simp at hy; exact ⟨m, hm, 8, _, _, hy, by decide, .inr (by decide)⟩
      · simp at hy; exact ⟨m, hm, 10, _, _, hy, by decide, .inr (by decide)⟩
    · split at hy
      · simp at hy; exact ⟨m, hm, 10, _, _, hy, by decide, .inr (by decide)⟩
      · cases hy
theorem sd_chk {m y : Msg} (h : Sd m y) (hd : 0 ≤ y.dst ∧ y.dst < 4) : chk y = 0 := by
  obtain ⟨k, dst, b, rfl, hk, hb⟩ := h
  have hd' : 0 ≤ dst ∧ dst < 4 := hd
  have h1 : isCache dst = true := by unfold isCache; simp; omega
  have h2 : cacheK k = true := by unfold cacheK; simp; omega
  have h3 : (bytesK k || decide (b = bs0)) = true := by
    rcases hb with rfl | h
    · simp [bs0]
    · unfold bytesK; simp; omega
  show chk (mkM k 4 dst m.line b m.hn) = 0
  unfold chk goodMsg mkM
  simp [h1, h2, h3]
theorem line_home {M : Int} {N : Nat} {m : Msg} (g : GM M N m) (hd : m.dst = 4) : (0 ≤ m.src ∧ m.src < M) ∧ ((1 ≤ m.kind ∧ m.kind ≤ 3) ∨ (11 ≤ m.kind ∧ m.kind ≤ 13)) := by
  obtain ⟨hh, _⟩ := chk_home g.chk hd
  unfold homeK at hh
  simp at hh
  rcases g.rng with ⟨_, h⟩ | ⟨h, _⟩
  · exact ⟨h, by omega⟩
  · exact absurd hd h
theorem other_ok {M : Int} {d : Ent} {mem cur : B16} {v : Int → CV} {R : List ER} {G : Int → List Bool} {P : Int → List B16} {A : Int → List Unit} {m : Msg} {n : Int} (h : LI M d mem cur v (er m ++ R) G P A) (hi : EI n d) (hk : 11 ≤ m.kind ∧ m.kind ≤ 13) : strayF d m = false := by
  obtain ⟨R', sv, hp, hph, ht⟩ := h.ph
  have he : er m = [(m.kind, m.src, if m.kind = 11 then m.bs else b16z)] := er_one rfl (by omega) (if_neg (by omega)) (by
    by_cases e : m.kind = 11
    · rw [if_pos (by omega), if_pos e]
    · rw [if_neg (by omega), if_neg e])
  rw [he] at hp
  have one : ∀ {k z : Int} {b : B16}, ([(m.kind, m.src, if m.kind = 11 then m.bs else b16z)] ++ R).Perm [(k, z, b)] → m.kind = k ∧ m.src = z := fun h => by
    have := (perm_cons_one h).1
    simp only [Prod.mk.injEq] at this
    exact ⟨this.1, this.2.1⟩
  unfold strayF
  cases hph with
  | idleO a => exact absurd hp.length_eq (by simp)
  | idleS a => exact absurd hp.length_eq (by simp)
  | fwd a => have := (one hp).1; have := hi.ok.kind a; omega
  | back a b c e f g i => obtain ⟨h1, h2⟩ := one hp; simp [a, h1, h2, e]
  | drops C a b c e f g i j k l =>
    obtain ⟨x, hx, hx'⟩ := List.mem_map.1 (er_in hp)
    simp only [Prod.mk.injEq] at hx'
    obtain ⟨k1, k2, k3⟩ := k x hx
    have h12 : m.kind = 12 := by
      have := hx'.1
      by_cases h2 : x.2 = true <;> simp [h2] at this <;> omega
    rw [hx'.2.1] at k1 k2
    simp [a, h12, k1, k2]
    omega
  | dataO k a b c e f g => have := (one hp).1; omega
  | dataS a => have := (one hp).1; omega
  | doneO a b => obtain ⟨h1, h2⟩ := one hp; simp [a, b, h1, h2]
  | doneS a b => obtain ⟨h1, h2⟩ := one hp; simp [a, b, h1, h2]
theorem SI.home {cs : List CD} {h : HD} {way rest : List Msg} {last : Nat → B16} {k : Nat} {m : Msg} (s : SI cs h way last k) (hp : way.Perm (m :: rest)) (hd : m.dst = 4) :
    (takeH h m).2.2 = 0 ∧ SI cs (takeH h m).1 (rest ++ (takeH h m).2.1) last (k + 1) := by
  have hg := s.good m (hp.symm.subset (List.mem_cons_self ..))
  obtain ⟨hsrc, hk⟩ := line_home hg hd
  have hln := hg.line
  have hmn := m.hn
  have hline : m.line = ((m.line.toNat : Nat) : Int) := by omega
  obtain ⟨e1, e2, e3⟩ := s.hi.2 _ hln
  have hM : (cs.length : Int) ≤ 4 := by have := s.len; omega
  have hbl : m.line.toNat < h.bs.length / 16 := by rw [← s.hi.1]; exact hln
  have hrest : ∀ x ∈ rest, GM cs.length h.E.length x := fun x hx => s.good x (hp.symm.subset (List.mem_cons_of_mem _ hx))
  have hpf : ∀ n : Int, (wn n way).Perm (wn n (m :: rest)) := fun n => hp.filter _
  have hL : LI cs.length (entOf h.E m.line.toNat) (lineB h.bs m.line.toNat) (last m.line.toNat) (vw cs m.line.toNat) (er m ++ (wn m.line.toNat rest).flatMap er) (fun c => (gt c m ++ (wn m.line.toNat rest).flatMap (gt c)) ++ (entOf h.E m.line.toNat).q.flatMap (gt c)) (fun c => (pt c m ++ (wn m.line.toNat rest).flatMap (pt c)) ++ (entOf h.E m.line.toNat).q.flatMap (pt c)) (fun c => kt c m ++ (wn m.line.toNat rest).flatMap (kt c)) := by
    have h1 := (s.li _ hln).perm (hpf _)
    unfold LS at h1
    rw [wn_cons, if_pos hline] at h1
    exact h1
  have hkt : ∀ c, kt c m = [] := fun c => kt_no (by omega)
  have hkt' : (fun c => kt c m ++ (wn m.line.toNat rest).flatMap (kt c)) = fun c => (wn m.line.toNat rest).flatMap (kt c) := by funext c; rw [hkt]; rfl
  rw [hkt'] at hL
  have hz : (takeH h m).2.2 = 0 := by
    refine take_zero hg.chk hd hln fun h3 => ?_
    exact other_ok hL e1 (by omega)
  refine ⟨hz, ?_⟩
  have hI := s.hi.take m
  have hoth : ∀ n : Nat, n < h.E.length → n ≠ m.line.toNat → entOf (takeH h m).1.E n = entOf h.E n ∧ lineB (takeH h m).1.bs n = lineB h.bs n := fun n hn hne => by
    have := take_other s.hi (m := m) (k := ((n : Nat) : Int)) (by omega) (by rw [Int.toNat_natCast]; exact hn) (by omega)
    rw [Int.toNat_natCast] at this
    exact this
  rcases take_cases h m with ⟨e, he, hne⟩ | ⟨_, _, _, _, _, x, hx, hcs⟩
  · rw [he] at hz; exact absurd hz hne
  rw [hx] at hI hoth ⊢
  have hE : (h.E.set m.line.toNat x.1).length = h.E.length := List.length_set
  have fin : LI cs.length x.1 (lineB x.2.1 m.line.toNat) (last m.line.toNat) (vw cs m.line.toNat) ((wn m.line.toNat rest).flatMap er ++ x.2.2.flatMap er) (fun c => (wn m.line.toNat rest).flatMap (gt c) ++ x.1.q.flatMap (gt c)) (fun c => (wn m.line.toNat rest).flatMap (pt c) ++ x.1.q.flatMap (pt c)) (fun c => (wn m.line.toNat rest).flatMap (kt c) ++ x.2.2.flatMap (kt c)) →
      (∀ y ∈ x.2.2, y.line = ((m.line.toNat : Nat) : Int) ∧ (4 ≤ y.kind ∧ y.kind ≤ 10) ∧ (0 ≤ y.dst ∧ y.dst < cs.length)) → (∀ y ∈ x.2.2, ∃ m', Sd m' y) → (∀ z ∈ x.1.q, z.src < cs.length) → SI cs ⟨x.2.1, h.E.set m.line.toNat x.1⟩ (rest ++ x.2.2) last (k + 1) := by
    intro h1 h2 h3 h4
    have hout : ∀ y ∈ x.2.2, y.line = ((m.line.toNat : Nat) : Int) := fun y hy => (h2 y hy).1
    refine ⟨s.len, s.ok, hI, ?_, ?_, ?_, fun c h0 h1 n hn => s.z c h0 h1 n (by rw [← hE]; exact hn)⟩
    · intro y hy
      show GM cs.length (h.E.set m.line.toNat x.1).length y
      rw [hE]
      rcases List.mem_append.1 hy with hy | hy
      · exact hrest y hy
      · obtain ⟨a, b, c⟩ := h2 y hy
        obtain ⟨m', hs'⟩ := h3 y hy
        exact ⟨by rw [a, Int.toNat_natCast]; exact hln, sd_chk hs' (by omega), .inr ⟨by omega, c, b⟩⟩
    · intro n hn
      replace hn : n < h.E.length := by rw [← hE]; exact hn
      by_cases e : n = m.line.toNat
      · subst e
        unfold LS
        show LI cs.length (entOf (h.E.set m.line.toNat x.1) m.line.toNat) (lineB x.2.1 m.line.toNat) _ _ _ (fun c => _ ++ (entOf (h.E.set m.line.toNat x.1) m.line.toNat).q.flatMap (gt c)) (fun c => _ ++ (entOf (h.E.set m.line.toNat x.1) m.line.toNat).q.flatMap (pt c)) _
        rw [entOf_set hln, if_pos rfl, wn_app, wn_all hout]
        refine h1.perm (by rw [List.flatMap_append]) (fun c => ?_) (fun c => ?_) (fun c => by rw [List.flatMap_append])
        · have : x.2.2.flatMap (gt c) = [] := by
            rw [List.flatMap_eq_nil_iff]
            exact fun y hy => gt_no (by have := (h2 y hy).2.1; rintro ⟨_, h | h⟩ <;> omega)
          rw [List.flatMap_append, this, List.append_nil]
        · have : x.2.2.flatMap (pt c) = [] := by
            rw [List.flatMap_eq_nil_iff]
            exact fun y hy => pt_no (by have := (h2 y hy).2.1; rintro ⟨_, h⟩; omega)
          rw [List.flatMap_append, this, List.append_nil]
      · obtain ⟨o1, o2⟩ := hoth n hn e
        have h5 := (s.li n hn).perm (hpf n)
        unfold LS at h5 ⊢
        rw [wn_cons, if_neg (by omega)] at h5
        rw [o1, o2, wn_app, wn_none hout (by omega), List.append_nil]
        exact h5
    · intro n hn z hz'
      replace hn : n < h.E.length := by rw [← hE]; exact hn
      by_cases e : n = m.line.toNat
      · subst e
        have hz2 : z ∈ (entOf (h.E.set m.line.toNat x.1) m.line.toNat).q := hz'
        rw [entOf_set hln, if_pos rfl] at hz2
        exact h4 z hz2
      · rw [(hoth n hn e).1] at hz'
        exact s.q n hn z hz'
  have hqs := s.q _ hln
  rcases hcs with ⟨a, b, c, rfl⟩ | ⟨a, b, c, rfl⟩ | ⟨a, b, rfl⟩
  · have her : er m = [] := by unfold er; rw [if_neg (by omega)]
    rw [her, List.nil_append] at hL
    refine fin ?_ (fun y hy => by cases hy) (fun y hy => by cases hy) fun z hz' => ?_
    · refine (hL.q ((entOf h.E m.line.toNat).q ++ [m])).perm (by show List.Perm _ (_ ++ []); rw [List.append_nil]) (fun c => ?_) (fun c => ?_) (fun c => by show List.Perm _ (_ ++ []); rw [List.append_nil])
      · show List.Perm _ (_ ++ ((entOf h.E m.line.toNat).q ++ [m]).flatMap (gt c))
        rw [List.flatMap_append, List.flatMap_cons, List.flatMap_nil, List.append_nil, ← List.append_assoc]
        exact (List.append_assoc _ _ _ ▸ List.perm_append_comm)
      · show List.Perm _ (_ ++ ((entOf h.E m.line.toNat).q ++ [m]).flatMap (pt c))
        rw [List.flatMap_append, List.flatMap_cons, List.flatMap_nil, List.append_nil, ← List.append_assoc]
        exact (List.append_assoc _ _ _ ▸ List.perm_append_comm)
    · rcases List.mem_append.1 (show z ∈ (entOf h.E m.line.toNat).q ++ [m] from hz') with h | h
      · exact hqs z h
      · simp at h; subst h; exact hsrc.2
  · have her : er m = [] := by unfold er; rw [if_neg (by omega)]
    rw [her, List.nil_append] at hL
    have hR := (hL.idle c).1
    rw [hR] at hL fin
    have hm : ROk ((m.line.toNat : Nat) : Int) m := ⟨⟨a, b⟩, ⟨hsrc.1, by omega⟩, hline⟩
    obtain ⟨b1, b2⟩ := begin_any (bs := h.bs) (m := m) (GW := fun c => (wn m.line.toNat rest).flatMap (gt c)) (PW := fun c => (wn m.line.toNat rest).flatMap (pt c)) (q := (entOf h.E m.line.toNat).q) (hL.perm (List.Perm.refl _) (fun c => by rw [← List.append_assoc]; exact List.Perm.append_right _ List.perm_append_comm) (fun c => by rw [← List.append_assoc]; exact List.Perm.append_right _ List.perm_append_comm) (fun c => List.Perm.refl _)) hM e1 c hm hsrc.2 (by omega) (by omega)
    refine fin ?_ b2 (fun y hy => ⟨m, begin_sd ⟨a, b⟩ y hy⟩) (by rw [begin_q]; exact hqs)
    rw [begin_q]
    exact b1
  · have hgt : ∀ c, gt c m = [] := fun c => gt_no (by rintro ⟨_, h | h⟩ <;> omega)
    have hpt : ∀ c, pt c m = [] := fun c => pt_no (by rintro ⟨_, h⟩; omega)
    have hL' := hL.perm (List.Perm.refl _) (G' := fun c => (wn m.line.toNat rest).flatMap (gt c) ++ (entOf h.E m.line.toNat).q.flatMap (gt c)) (P' := fun c => (wn m.line.toNat rest).flatMap (pt c) ++ (entOf h.E m.line.toNat).q.flatMap (pt c)) (fun c => by rw [hgt]; exact List.Perm.refl _) (fun c => by rw [hpt]; exact List.Perm.refl _) (fun c => List.Perm.refl _)
    obtain ⟨b1, b2, b3⟩ := other_li (bs := h.bs) (m := m) hL' hM e1 hqs (by omega) hline (by omega) (by omega)
    refine fin b1 b2 (fun y hy => ?_) b3
    obtain ⟨m', _, hs'⟩ := other_sd hline e1.ok.rest y hy
    exact ⟨m', hs'⟩
end Go.Proofs.Ytflnlmibkbojcaa
namespace Go.Proofs.Ytflnlmibkbojcaa
open Go.RowKit
theorem SI.upd1 {cs : List CD} {h : HD} {way W : List Msg} {last last' : Nat → B16} {k : Nat} (s : SI cs h way last k) {c : Int} (h0 : 0 ≤ c) (h1 : c < cs.length) {d' : CD} (hd : DOk d') (hid : d'.id = c) {n0 : Nat} (hn0 : n0 < h.E.length) (hlast : ∀ n, n ≠ n0 → last' n = last n) (hW : ∀ n : Nat, n ≠ n0 → (wn n way).Perm (wn n W)) (hg : ∀ m ∈ W, GM cs.length h.E.length m) (hcv : ∀ n : Int, n ≠ n0 → cvw d' n = cvw (cat cs c) n)
    (hL : LI cs.length (entOf h.E n0) (lineB h.bs n0) (last' n0) (updC (vw cs n0) c (cvw d' n0)) ((wn n0 W).flatMap er) (fun z => (wn n0 W).flatMap (gt z) ++ (entOf h.E n0).q.flatMap (gt z)) (fun z => (wn n0 W).flatMap (pt z) ++ (entOf h.E n0).q.flatMap (pt z)) (fun z => (wn n0 W).flatMap (kt z))) : SI (cs.set c.toNat d') h W last' k := by
  have hlen : (cs.set c.toNat d').length = cs.length := List.length_set
  refine ⟨by rw [hlen]; exact s.len, fun z z0 z1 => ?_, s.hi, by rw [hlen]; exact hg, fun n hn => ?_, by rw [hlen]; exact s.q, fun z z0 z1 n hn => ?_⟩
  · rw [hlen] at z1
    rw [cat_set h0 h1]
    split
    · rename_i e; rw [e]; exact ⟨hd, hid⟩
    · exact s.ok z z0 z1
  · unfold LS
    rw [hlen, vw_set h0 h1]
    by_cases e : n = n0
    · subst e; exact hL
    · rw [hlast n e, hcv n (by omega), show cvw (cat cs c) n = vw cs n c from rfl, upd_self]
      exact (s.li n hn).perm (hW n e)
  · rw [hlen] at z1
    rw [cat_set h0 h1]
    split
    · rw [hcv n (by omega)]; exact s.z c h0 h1 n hn
    · exact s.z z z0 z1 n hn
theorem GM_back {M c : Int} {N : Nat} {n : Int} {b : B16} {h : 0 ≤ n ∧ n < 4294967296} {k : Int} (hn : n.toNat < N) (hc : 0 ≤ c ∧ c < M) (hM : M ≤ 4) (hk : (k = 11) ∨ ((k = 12 ∨ k = 13 ∨ k = 1 ∨ k = 2) ∧ b = b16z) ∨ k = 3) : GM M N (mkM k c 4 n b h) := by
  refine ⟨hn, ?_, .inl ⟨rfl, hc⟩⟩
  have h1 : isCache c = true := by unfold isCache; simp; omega
  unfold chk goodMsg mkM
  rcases hk with rfl | ⟨rfl | rfl | rfl | rfl, rfl⟩ | rfl <;> simp [h1, homeK, bytesK, bs0]
theorem SI.atl {cs : List CD} {h : HD} {way rest : List Msg} {last : Nat → B16} {k : Nat} {m : Msg} (s : SI cs h way last k) (hp : way.Perm (m :: rest)) (hd : m.dst ≠ 4) :
    (0 ≤ m.dst ∧ m.dst < cs.length) ∧ (4 ≤ m.kind ∧ m.kind ≤ 10) ∧ m.line.toNat < h.E.length ∧ LI cs.length (entOf h.E m.line.toNat) (lineB h.bs m.line.toNat) (last m.line.toNat) (vw cs m.line.toNat) (er m ++ (wn m.line.toNat rest).flatMap er) (fun c => (wn m.line.toNat rest).flatMap (gt c) ++ (entOf h.E m.line.toNat).q.flatMap (gt c)) (fun c => (wn m.line.toNat rest).flatMap (pt c) ++ (entOf h.E m.line.toNat).q.flatMap (pt c)) (fun c => kt c m ++ (wn m.line.toNat rest).flatMap (kt c)) := by
  have hg := s.good m (hp.symm.subset (List.mem_cons_self ..))
  obtain ⟨hrng, hk⟩ : (0 ≤ m.dst ∧ m.dst < cs.length) ∧ (4 ≤ m.kind ∧ m.kind ≤ 10) := by
    rcases hg.rng with ⟨h, _⟩ | ⟨_, h⟩
    · exact absurd h hd
    · exact h
  have hln := hg.line
  have hmn := m.hn
  have hline : m.line = ((m.line.toNat : Nat) : Int) := by omega
  have hpf : ∀ n : Int, (wn n way).Perm (wn n (m :: rest)) := fun n => hp.filter _
  have hgt : ∀ c, gt c m = [] := fun c => gt_no (by rintro ⟨_, h | h⟩ <;> omega)
  have hpt : ∀ c, pt c m = [] := fun c => pt_no (by rintro ⟨_, h⟩; omega)
  refine ⟨hrng, hk, hln, ?_⟩
  have h1 := (s.li _ hln).perm (hpf _)
  unfold LS at h1
  rw [wn_cons, if_pos hline] at h1
  refine h1.perm (List.Perm.refl _) (fun c => ?_) (fun c => ?_) (fun c => List.Perm.refl _)
  · rw [List.flatMap_cons, hgt]; exact List.Perm.refl _
  · rw [List.flatMap_cons, hpt]; exact List.Perm.refl _
theorem SI.cache {cs : List CD} {h : HD} {way rest : List Msg} {last : Nat → B16} {k : Nat} {m : Msg} (s : SI cs h way last k) (hp : way.Perm (m :: rest)) (hd : m.dst ≠ 4) :
    (0 ≤ m.dst ∧ m.dst < cs.length) ∧ (takeF (cat cs m.dst) m).2.2 = 0 ∧ SI (cs.set m.dst.toNat (takeF (cat cs m.dst) m).1) h (rest ++ (takeF (cat cs m.dst) m).2.1) last k := by
  have hg := s.good m (hp.symm.subset (List.mem_cons_self ..))
  obtain ⟨hrng, hk, hln, hL⟩ := s.atl hp hd
  refine ⟨hrng, ?_⟩
  have hmn := m.hn
  have hline : m.line = ((m.line.toNat : Nat) : Int) := by omega
  obtain ⟨e1, e2, e3⟩ := s.hi.2 _ hln
  have hM : (cs.length : Int) ≤ 4 := by have := s.len; omega
  have hrest : ∀ x ∈ rest, GM cs.length h.E.length x := fun x hx => s.good x (hp.symm.subset (List.mem_cons_of_mem _ hx))
  obtain ⟨hdo, hid⟩ := s.ok m.dst hrng.1 hrng.2
  have hto : m.dst = (cat cs m.dst).id := hid.symm
  have hpf : ∀ n : Int, (wn n way).Perm (wn n (m :: rest)) := fun n => hp.filter _
  have hW : ∀ (out : List Msg), (∀ y ∈ out, y.line = ((m.line.toNat : Nat) : Int)) → ∀ n : Nat, n ≠ m.line.toNat → (wn n way).Perm (wn n (rest ++ out)) := by
    intro out ho n hne
    rw [wn_app, wn_none ho (by omega), List.append_nil]
    have := hpf n
    rwa [wn_cons, if_neg (by omega)] at this
  have hDT := hdo.take m
  -- an answer goes home
  have fin : ∀ (d' : CD) (kk : Int) (b : B16), DOk d' → d'.id = m.dst → (kk = 11 ∨ ((kk = 12 ∨ kk = 13) ∧ b = b16z)) → (∀ n : Int, n ≠ ((m.line.toNat : Nat) : Int) → cvw d' n = cvw (cat cs m.dst) n) → LI cs.length (entOf h.E m.line.toNat) (lineB h.bs m.line.toNat) (last m.line.toNat) (updC (vw cs m.line.toNat) m.dst (cvw d' m.line.toNat)) ((kk, m.dst, b) :: (wn m.line.toNat rest).flatMap er) (fun c => (wn m.line.toNat rest).flatMap (gt c) ++ (entOf h.E m.line.toNat).q.flatMap (gt c)) (fun c => (wn m.line.toNat rest).flatMap (pt c) ++ (entOf h.E m.line.toNat).q.flatMap (pt c)) (fun c => (wn m.line.toNat rest).flatMap (kt c)) →
      SI (cs.set m.dst.toNat d') h (rest ++ [mkM kk m.dst 4 m.line b m.hn]) last k := by
    intro d' kk b h1 h2 h3 h4 h5
    have hol : ∀ y ∈ [mkM kk m.dst 4 m.line b m.hn], y.line = ((m.line.toNat : Nat) : Int) := fun y hy => by simp at hy; subst hy; exact hline
    refine s.upd1 hrng.1 hrng.2 h1 h2 (n0 := m.line.toNat) hln (fun _ _ => rfl) (hW _ hol) (fun y hy => ?_) h4 ?_
    · rcases List.mem_append.1 hy with hy | hy
      · exact hrest y hy
      · simp at hy; subst hy; exact GM_back hln hrng hM (by rcases h3 with h | ⟨h, e⟩; exact .inl h; exact .inr (.inl ⟨by omega, e⟩))
    · rw [wn_app, wn_all hol]
      refine h5.perm ?_ (fun c => ?_) (fun c => ?_) (fun c => ?_)
      · have : er (mkM kk m.dst 4 m.line b m.hn) = [(kk, m.dst, b)] := by
          rcases h3 with rfl | ⟨rfl | rfl, rfl⟩ <;> rfl
        rw [List.flatMap_append, List.flatMap_cons, this]
        exact List.perm_append_comm (l₁ := [_])
      · rw [List.flatMap_append, List.flatMap_cons, gt_no (by rintro ⟨_, h | h⟩ <;> (have h : kk = _ := h; omega))]; simp
      · rw [List.flatMap_append, List.flatMap_cons, pt_no (by rintro ⟨_, h⟩; have h : kk = 3 := h; omega)]; simp
      · rw [List.flatMap_append, List.flatMap_cons, kt_no (by show kk ≠ 7; omega)]; simp
  have hkd := e1.ok.kind
  by_cases h8 : m.kind = 8 ∨ m.kind = 9 ∨ m.kind = 10
  · have hkt : ∀ c, kt c m = [] := fun c => kt_no (by omega)
    obtain ⟨_, ha, hgn, hbs, hli⟩ := data_li (m := m) (hL.perm (List.Perm.refl _) (fun c => List.Perm.refl _) (fun c => List.Perm.refl _) (fun c => by rw [hkt])) h8 hkd rfl _ rfl
    have ha' : avw (cat cs m.dst).ask m.line = some (decide (m.kind = 10)) := by rw [hline]; exact ha
    obtain ⟨t1, t2⟩ := take_data hdo hg.chk hto h8 ha'
    rw [t1] at hDT ⊢
    refine ⟨rfl, ?_⟩
    rw [show (cat cs m.dst).id = m.dst from hid] at *
    refine fin _ 13 b16z hDT hid (.inr ⟨.inr rfl, rfl⟩) (fun n hn => ?_) ?_
    · rw [t2, if_neg (by omega)]
    · rw [t2, if_pos hline.symm]
      exact hli
  by_cases h4 : m.kind = 4 ∨ m.kind = 5
  · have hkt : ∀ c, kt c m = [] := fun c => kt_no (by omega)
    obtain ⟨_, hsh⟩ := share_li (m := m) (hL.perm (List.Perm.refl _) (fun c => List.Perm.refl _) (fun c => List.Perm.refl _) (fun c => by rw [hkt])) h4 hkd rfl b16z
    rcases hsh with ⟨hgv, hli⟩ | ⟨hgn, hw, hbc, hli⟩
    · have hgv' : gvw (cat cs m.dst).giv m.line = some (last m.line.toNat) := by rw [hline]; exact hgv
      have t1 := take_share_g hg.chk hto h4 hgv'
      rw [t1]
      refine ⟨rfl, ?_⟩
      rw [show (cat cs m.dst).id = m.dst from hid]
      refine fin _ 11 _ hdo hid (.inl rfl) (fun n hn => rfl) ?_
      rw [show cvw (cat cs m.dst) m.line.toNat = vw cs m.line.toNat m.dst from rfl, upd_self]
      exact hli
    · have hgn' : gvw (cat cs m.dst).giv m.line = none := by rw [hline]; exact hgn
      have hw' : wr (stateOf (cat cs m.dst).L m.line) := by rw [hline]; exact hw
      obtain ⟨L', t1, t2⟩ := take_share_w hg.chk hto h4 hgn' hw'
      rw [t1] at hDT ⊢
      refine ⟨rfl, ?_⟩
      rw [show (cat cs m.dst).id = m.dst from hid] at *
      have hb9 : bvw (cat cs m.dst).L m.line = last m.line.toNat := by rw [hline]; exact hbc
      rw [hb9] at t2 ⊢
      refine fin _ 11 _ hDT hid (.inl rfl) (fun n hn => ?_) ?_
      · rw [t2, if_neg (by omega)]
      · rw [t2, if_pos hline.symm]
        exact hli
  by_cases h6 : m.kind = 6
  · have hkt : ∀ c, kt c m = [] := fun c => kt_no (by omega)
    obtain ⟨_, hnw, hli⟩ := drop_li (m := m) (hL.perm (List.Perm.refl _) (fun c => List.Perm.refl _) (fun c => List.Perm.refl _) (fun c => by rw [hkt])) h6 hkd rfl b16z
    have hnw' : ¬ wr (stateOf (cat cs m.dst).L m.line) := by rw [hline]; exact hnw
    obtain ⟨t1, t2⟩ := take_drop hg.chk hto h6 hnw'
    rw [t1] at hDT ⊢
    refine ⟨rfl, ?_⟩
    rw [show (cat cs m.dst).id = m.dst from hid] at *
    refine fin _ 12 b16z hDT hid (.inr ⟨.inl rfl, rfl⟩) (fun n hn => ?_) ?_
    · rw [t2, if_neg (by omega)]
    · rw [t2, if_pos hline.symm]
      exact hli
  · have h7 : m.kind = 7 := by omega
    have her : er m = [] := by unfold er; rw [if_neg (by omega)]
    rw [her, List.nil_append] at hL
    have hk1 : kt m.dst m = [()] := by unfold kt; rw [if_pos ⟨rfl, h7⟩]
    obtain ⟨hgn, hli⟩ := acked_li hL hrng (l := (wn m.line.toNat rest).flatMap (kt m.dst)) (by show kt m.dst m ++ _ = _; rw [hk1]; rfl)
    have hgn' : gvw (cat cs m.dst).giv m.line ≠ none := by rw [hline]; exact hgn
    obtain ⟨t1, t2⟩ := take_acked hg.chk hto h7 hgn'
    rw [t1] at hDT ⊢
    refine ⟨rfl, ?_⟩
    rw [show (rest ++ ({ cat cs m.dst with giv := none }, ([] : List Msg), (0 : Int)).2.1) = rest from List.append_nil _]
    refine s.upd1 hrng.1 hrng.2 hDT hid (n0 := m.line.toNat) hln (fun _ _ => rfl) (fun n hn => ?_) hrest (fun n hn => ?_) ?_
    · have := hW [] (fun y hy => by cases hy) n hn
      rwa [List.append_nil] at this
    · rw [t2, if_neg (by omega)]
    · rw [t2, if_pos hline.symm]
      refine hli.perm (List.Perm.refl _) (fun c => List.Perm.refl _) (fun c => List.Perm.refl _) (fun c => ?_)
      unfold put1
      by_cases e : c = m.dst
      · subst e; rw [if_pos rfl]
      · rw [if_neg e]
        show (kt c m ++ _).Perm _
        rw [show kt c m = [] from if_neg fun h => e h.1.symm]
        exact List.Perm.refl _
end Go.Proofs.Ytflnlmibkbojcaa
namespace Go.Proofs.Ytflnlmibkbojcaa
open Go.RowKit
theorem perm_mid {α : Type} (A Q B : List α) : ((A ++ Q) ++ B).Perm ((A ++ B) ++ Q) := by
  rw [List.append_assoc, List.append_assoc]
  exact List.Perm.append_left _ List.perm_append_comm
theorem set_cat {cs : List CD} {c : Int} (h0 : 0 ≤ c) : cs.set c.toNat (cat cs c) = cs := by
  unfold cat
  rw [if_pos h0]
  apply List.ext_getElem?
  intro i
  rw [List.getElem?_set]
  split
  · rename_i e
    subst e
    split
    · rename_i hl
      simp [List.getD, hl]
    · rename_i hl
      simp at hl
      simp [hl]
  · rfl
section
variable {cs : List CD} {h : HD} {way : List Msg} {last : Nat → B16} {k : Nat} {c : Int}
theorem SI.keep (s : SI cs h way last k) (h0 : 0 ≤ c) {d : CD} (hd : d = cat cs c) : SI (cs.set c.toNat d) h (way ++ []) last k := by
  rw [hd, set_cat h0, List.append_nil]; exact s
theorem SI.low (s : SI cs h way last k) (h0 : 0 ≤ c) (h1 : c < cs.length) {n : Int} (hn : 0 ≤ n) (hs : stateOf (cat cs c).L n ≠ 0) : n.toNat < h.E.length := by
  refine Nat.lt_of_not_le fun hle => hs ?_
  exact (s.z c h0 h1 n (by omega)).1
theorem SI.out (s : SI cs h way last k) (h0 : 0 ≤ c) (h1 : c < cs.length) {x : Ln} (hx : x ∈ (cat cs c).L) : SI (cs.set c.toNat (outF (cat cs c) x).1) h (way ++ (outF (cat cs c) x).2.1) last k := by
  obtain ⟨hdo, hid⟩ := s.ok c h0 h1
  have hrg := hdo.st x hx
  have hst : stateOf (cat cs c).L x.num = x.state := by unfold stateOf; rw [get_mem hdo.uniq hx]; rfl
  have hxn := x.hn
  have hN := s.low h0 h1 (n := x.num) hxn.1 (by omega)
  have hn : x.num = ((x.num.toNat : Nat) : Int) := by omega
  have hl := s.li _ hN
  unfold LS at hl
  have hD := hdo.out x
  have hM : (cs.length : Int) ≤ 4 := by have := s.len; omega
  rcases out_cases hdo hx with ⟨a, e, f⟩ | ⟨a, b, g, e, f⟩ | ⟨e1, e2, e3⟩
  · rw [e] at hD ⊢
    dsimp only
    rw [List.append_nil]
    refine s.upd1 h0 h1 hD hid hN (fun _ _ => rfl) (fun _ _ => List.Perm.refl _) s.good (fun j hj => ?_) ?_
    · rw [f, if_neg (by omega)]
    · rw [f, if_pos hn.symm]
      exact outS_li hl ⟨h0, h1⟩ (by show stateOf _ _ = 1; rw [← hn]; exact a) b16z
  · rw [e] at hD ⊢
    dsimp only
    rw [show putM (cat cs c).id x = putM c x by rw [hid]]
    have hol : ∀ y ∈ [putM c x], y.line = ((x.num.toNat : Nat) : Int) := fun y hy => by simp at hy; subst hy; exact hn
    refine s.upd1 h0 h1 hD hid hN (fun _ _ => rfl) (fun j hj => ?_) (fun y hy => ?_) (fun j hj => ?_) ?_
    · rw [wn_app, wn_none hol (by omega), List.append_nil]
    · rcases List.mem_append.1 hy with hy | hy
      · exact s.good y hy
      · simp at hy; subst hy; exact GM_back hN ⟨h0, h1⟩ hM (.inr (.inr rfl))
    · rw [f, if_neg (by omega)]
    · rw [f, if_pos hn.symm, wn_app, wn_all hol]
      have := outW_li hl ⟨h0, h1⟩ (by show wr (stateOf _ _); rw [← hn]; exact a) b16z
      rw [show (vw cs ((x.num.toNat : Nat) : Int) c).b = x.bs by show bvw _ _ = _; rw [← hn]; exact g] at this
      refine this.perm ?_ (fun z => ?_) (fun z => ?_) (fun z => ?_)
      · rw [List.flatMap_append]
        show List.Perm _ (_ ++ [])
        rw [List.append_nil]
      · rw [List.flatMap_append, List.flatMap_cons, gt_no (by rintro ⟨_, h | h⟩ <;> (have h : (3 : Int) = _ := h; omega))]; simp
      · rw [List.flatMap_append]
        unfold put1
        by_cases ez : z = c
        · subst ez
          rw [if_pos rfl]
          show List.Perm _ (_ ++ (pt z (putM z x) ++ []) ++ _)
          rw [show pt z (putM z x) = [x.bs] from if_pos ⟨rfl, rfl⟩]
          exact perm_mid _ _ _
        · rw [if_neg ez]
          show List.Perm _ (_ ++ (pt z (putM c x) ++ []) ++ _)
          rw [show pt z (putM c x) = [] from if_neg fun h => ez h.1.symm]
          simp
      · rw [List.flatMap_append, List.flatMap_cons, kt_no (by show (3 : Int) ≠ 7; decide)]; simp
  · rw [e2]; exact s.keep h0 e1
theorem SI.ask0 (s : SI cs h way last k) (h0 : 0 ≤ c) (h1 : c < cs.length) {line : Int} (hl : 0 ≤ line ∧ line < 4294967296) (hN : line.toNat < h.E.length) {w : Bool} {d' : CD} (hD : DOk d') (e : d' = { cat cs c with ask := some (line, w) }) (ha : (cat cs c).ask = none) (hm : mine (cat cs c).giv line = false) (hs : stateOf (cat cs c).L line = 0 ∨ (stateOf (cat cs c).L line = 1 ∧ w = true)) :
    SI (cs.set c.toNat d') h (way ++ [askM c line w hl]) last k := by
  obtain ⟨hdo, hid⟩ := s.ok c h0 h1
  have hn : line = ((line.toNat : Nat) : Int) := by omega
  have hM : (cs.length : Int) ≤ 4 := by have := s.len; omega
  have hli := s.li _ hN
  unfold LS at hli
  have hol : ∀ y ∈ [askM c line w hl], y.line = ((line.toNat : Nat) : Int) := fun y hy => by simp at hy; subst hy; exact hn
  have hav : avw (cat cs c).ask line = none := by rw [ha]; rfl
  have hgv : gvw (cat cs c).giv line = none := by
    cases hg : (cat cs c).giv with
    | none => rfl
    | some x =>
      rw [hg] at hm
      unfold gvw
      dsimp only
      rw [if_neg (by simpa [mine] using hm)]
  have hk : (askM c line w hl).kind = if w then 2 else 1 := rfl
  refine s.upd1 h0 h1 hD (by rw [e]; exact hid) hN (fun _ _ => rfl) (fun j hj => ?_) (fun y hy => ?_) (fun j hj => ?_) ?_
  · rw [wn_app, wn_none hol (by omega), List.append_nil]
  · rcases List.mem_append.1 hy with hy | hy
    · exact s.good y hy
    · simp at hy; subst hy
      refine GM_back hN ⟨h0, h1⟩ hM (.inr (.inl ⟨?_, rfl⟩))
      cases w
      · exact .inr (.inr (.inl rfl))
      · exact .inr (.inr (.inr rfl))
  · rw [e]
    unfold cvw
    dsimp only
    rw [ha]
    congr 1
    unfold avw
    dsimp only
    rw [if_neg (by omega)]
  · have := ask_li hli ⟨h0, h1⟩ (w := w) (by show avw _ _ = _; rw [← hn]; exact hav) (by show gvw _ _ = _; rw [← hn]; exact hgv) (by show stateOf _ _ = 0 ∨ (stateOf _ _ = 1 ∧ _); rw [← hn]; exact hs)
    have hcv : cvw d' ((line.toNat : Nat) : Int) = ⟨(vw cs ((line.toNat : Nat) : Int) c).s, (vw cs ((line.toNat : Nat) : Int) c).b, (vw cs ((line.toNat : Nat) : Int) c).g, some w⟩ := by
      rw [e]
      unfold vw cvw
      dsimp only
      congr 1
      unfold avw
      dsimp only
      rw [if_pos hn]
    rw [hcv, wn_app, wn_all hol]
    refine this.perm ?_ (fun z => ?_) (fun z => ?_) (fun z => ?_)
    · rw [List.flatMap_append, List.flatMap_cons, show er (askM c line w hl) = [] from if_neg (by rw [hk]; cases w <;> simp)]; simp
    · rw [List.flatMap_append]
      unfold put1
      by_cases ez : z = c
      · subst ez
        rw [if_pos rfl]
        show List.Perm _ (_ ++ (gt z (askM z line w hl) ++ []) ++ _)
        rw [show gt z (askM z line w hl) = [w] from (if_pos ⟨rfl, by rw [hk]; cases w <;> simp⟩).trans (by rw [hk]; cases w <;> rfl)]
        exact perm_mid _ _ _
      · rw [if_neg ez]
        show List.Perm _ (_ ++ (gt z (askM c line w hl) ++ []) ++ _)
        rw [show gt z (askM c line w hl) = [] from if_neg fun h => ez h.1.symm]
        simp
    · rw [List.flatMap_append, List.flatMap_cons, pt_no (by rintro ⟨_, h⟩; rw [hk] at h; cases w <;> simp at h)]; simp
    · rw [List.flatMap_append, List.flatMap_cons, kt_no (by rw [hk]; cases w <;> simp)]; simp
theorem SI.ask (s : SI cs h way last k) (h0 : 0 ≤ c) (h1 : c < cs.length) {line : Int} (hl : 0 ≤ line ∧ line < 4294967296) (hN : line.toNat < h.E.length) (w : Bool) (pick : Int) :
    SI (cs.set c.toNat (askF (cat cs c) line hl w pick).1) h (way ++ (askF (cat cs c) line hl w pick).2.1) last k := by
  obtain ⟨hdo, hid⟩ := s.ok c h0 h1
  have hD := hdo.ask line hl w pick
  revert hD
  unfold askF
  split
  · exact fun _ => s.keep h0 rfl
  rename_i hA
  have hask : (cat cs c).ask = none := by
    cases hx : (cat cs c).ask with
    | none => rfl
    | some y => exact absurd (.inl (by rw [hx]; rfl)) hA
  have hmi : mine (cat cs c).giv line = false := by
    cases hx : mine (cat cs c).giv line with
    | false => rfl
    | true => exact absurd (.inr hx) hA
  split
  · exact fun _ => s.keep h0 rfl
  rename_i hS
  have hst : stateOf (cat cs c).L line = 0 ∨ (stateOf (cat cs c).L line = 1 ∧ w = true) := by
    rcases st_of hdo.st line with ⟨h, _⟩ | ⟨h, _⟩
    · exact .inl h
    · refine .inr ?_
      have hne : stateOf (cat cs c).L line ≠ 0 := by omega
      have h3 : w = true := by
        cases w with
        | true => rfl
        | false => exact absurd ⟨hne, .inl rfl⟩ hS
      have h2 : ¬ writesB (stateOf (cat cs c).L line) = true := fun hw => hS ⟨hne, .inr hw⟩
      rw [wrb] at h2
      unfold wr at h2
      exact ⟨by omega, h3⟩
  split
  · intro hD
    dsimp only
    rw [show askM (cat cs c).id line w hl = askM c line w hl by rw [hid]]
    exact s.ask0 h0 h1 hl hN hD rfl hask hmi hst
  · rename_i x hv
    obtain ⟨v1, v2, _⟩ := vic_mem hdo.bd.2.2.1 hv
    have hx : x ∈ (cat cs c).L := (List.mem_filter.1 v1).1
    split
    · rename_i ho
      intro hD
      dsimp only at hD ⊢
      have s1 := s.out h0 h1 hx
      have hc1 : cat (cs.set c.toNat (outF (cat cs c) x).1) c = (outF (cat cs c) x).1 := by rw [cat_set h0 h1, if_pos rfl]
      have hne : x.num ≠ line := fun e => by
        have := get_mem hdo.uniq hx
        rw [e, v2] at this; cases this
      have hs0 : stateOf (cat cs c).L line = 0 := by unfold stateOf; rw [v2]; rfl
      have f : (outF (cat cs c) x).1.ask = none ∧ mine (outF (cat cs c) x).1.giv line = false ∧ stateOf (outF (cat cs c) x).1.L line = 0 := by
        rcases out_cases hdo hx with ⟨a, e, f⟩ | ⟨a, b, g, e, f⟩ | ⟨e1, e2, e3⟩
        · rw [e]
          exact ⟨hask, hmi, by dsimp only; rw [state_drop, hs0]; split <;> rfl⟩
        · rw [e]
          exact ⟨hask, by simp [mine, hne], by dsimp only; rw [state_drop, hs0]; split <;> rfl⟩
        · rw [ho] at e3; cases e3
      have s2 := s1.ask0 (c := c) h0 (by rw [List.length_set]; exact h1) hl hN (w := w) (d' := { (outF (cat cs c) x).1 with ask := some (line, w) }) hD (by rw [hc1]) (by rw [hc1]; exact f.1) (by rw [hc1]; exact f.2.1) (by rw [hc1]; exact .inl f.2.2)
      rw [List.set_set, List.append_assoc] at s2
      rw [show askM (cat cs c).id line w hl = askM c line w hl by rw [hid]]
      exact s2
    · exact fun _ => s.keep h0 rfl
theorem mem_allL {n : Nat} {L : List Ln} {x : Ln} (h : x ∈ allL n L) : x ∈ L := by
  unfold allL at h
  obtain ⟨i, _, hi⟩ := List.mem_flatMap.1 h
  exact (List.mem_filter.1 hi).1
theorem SI.evict (s : SI cs h way last k) (h0 : 0 ≤ c) (h1 : c < cs.length) (pick : Int) :
    SI (cs.set c.toNat (evictF (cat cs c) pick).1) h (way ++ (evictF (cat cs c) pick).2) last k := by
  obtain ⟨hdo, hid⟩ := s.ok c h0 h1
  unfold evictF
  split
  · exact s.keep h0 rfl
  · rename_i hL
    refine s.out h0 h1 (mem_allL (n := (cat cs c).n) ?_)
    have hlen := allL_len hdo.bd.1 (cat cs c).L
    have hp : pickAt pick (cat cs c).L.length < (allL (cat cs c).n (cat cs c).L).length := by
      rw [hlen]
      exact pickAt_lt _ _ (List.length_pos_iff.2 hL)
    simp [List.getD, hp]
theorem SI.write (s : SI cs h way last k) (h0 : 0 ≤ c) (h1 : c < cs.length) {addr : Int} (ha : 0 ≤ addr) (v : Int) (he : (writeF (cat cs c) addr 4 v).2 = 0) :
    (addr / 16).toNat < h.E.length ∧ SI (cs.set c.toNat (writeF (cat cs c) addr 4 v).1) h way (fun n => if n = (addr / 16).toNat then wrB (last n) (addr % 16).toNat v 4 else last n) k := by
  obtain ⟨hdo, hid⟩ := s.ok c h0 h1
  have hD := hdo.write addr 4 v
  unfold writeF at he hD ⊢
  split at he
  · cases he
  rename_i hr
  rw [if_neg hr] at hD ⊢
  split at he
  · cases he
  rename_i hw
  rw [if_neg hw] at hD ⊢
  have hw : writesB (stateOf (cat cs c).L (addr / 16)) = true := by simpa using hw
  have hwr := (wrb _).1 hw
  have hN := s.low h0 h1 (n := addr / 16) (by omega) (wr_ne hwr).1
  have hn : addr / 16 = (((addr / 16).toNat : Nat) : Int) := by omega
  refine ⟨hN, ?_⟩
  have hli := s.li _ hN
  unfold LS at hli
  obtain ⟨y, hy1, hy2, hy3⟩ := there_of (wr_ne hwr).1
  rw [hy2] at hD ⊢
  have hput : putE (cat cs c).n (cat cs c).ways (cat cs c).L (wrLn y addr 4 v) = 0 := putE_there (by show getN _ y.num ≠ none; rw [hy3, hy1]; simp) (by show 1 ≤ (3 : Int) ∧ (3 : Int) ≤ 3; decide)
  have hyn : (wrLn y addr 4 v).num = addr / 16 := hy3
  have hyb : y.bs = last (addr / 16).toNat := by
    have := has_li hli ⟨h0, h1⟩ (by show stateOf _ _ ≠ 0; rw [← hn]; exact (wr_ne hwr).1)
    have h2 : bvw (cat cs c).L (((addr / 16).toNat : Nat) : Int) = last (addr / 16).toNat := this
    rw [← hn] at h2
    unfold bvw at h2
    rw [hy2] at h2
    exact h2
  refine s.upd1 h0 h1 hD hid hN (fun j hj => if_neg hj) (fun _ _ => List.Perm.refl _) s.good (fun j hj => ?_) ?_
  · unfold cvw
    dsimp only
    rw [state_put hput, bvw_put hput, hyn, if_neg (by omega), if_neg (by omega)]
  · rw [if_pos rfl]
    have := write_li hli ⟨h0, h1⟩ (by show wr (stateOf _ _); rw [← hn]; exact hwr) (wrB (last (addr / 16).toNat) (addr % 16).toNat v 4) (s := 3) (.inr rfl)
    have hcv : cvw { cat cs c with L := putL (cat cs c).n (cat cs c).ways (cat cs c).L (wrLn y addr 4 v) } (((addr / 16).toNat : Nat) : Int) = ⟨3, wrB (last (addr / 16).toNat) (addr % 16).toNat v 4, (vw cs (((addr / 16).toNat : Nat) : Int) c).g, (vw cs (((addr / 16).toNat : Nat) : Int) c).a⟩ := by
      unfold vw cvw
      dsimp only
      rw [state_put hput, bvw_put hput, hyn, if_pos hn.symm, if_pos hn.symm, ← hyb]
      rfl
    rw [hcv]
    exact this
end
end Go.Proofs.Ytflnlmibkbojcaa
namespace Go.Proofs.Ytflnlmibkbojcaa
open Go.RowKit
theorem getD_setI (l : List Int) (i j : Nat) (v : Int) : (l.set i v).getD j 0 = if i = j ∧ j < l.length then v else l.getD j 0 := by
  simp only [List.getD, List.getElem?_set]
  by_cases e : i = j
  · subst e
    by_cases h : i < l.length
    · simp [h]
    · simp [h]
  · simp [e]
theorem wr_get (bs : List Int) (p : Nat) (v : Int) (j : Nat) : ∀ i, (wrL bs p v i).getD j 0 = if p ≤ j ∧ j < p + i ∧ j < bs.length then v / 256 ^ (j - p) % 256 else bs.getD j 0
  | 0 => by rw [if_neg (by omega)]; rfl
  | i + 1 => by
    rw [wrL, getD_setI, wrL_len, wr_get bs p v j i]
    by_cases e : p + i = j ∧ j < bs.length
    · rw [if_pos e, if_pos (by omega), show j - p = i by omega]
    · rw [if_neg e]
      by_cases h : p ≤ j ∧ j < p + i ∧ j < bs.length
      · rw [if_pos h, if_pos (by omega)]
      · rw [if_neg h, if_neg (by omega)]
theorem rd_wr_same (b : B16) {p : Nat} (hp : p + 4 ≤ 16) {v : Int} (hv : 0 ≤ v ∧ v < 4294967296) : rdI (wrB b p v 4).1 p 4 = v := by
  have hl := b.2.1
  show rdI (wrL b.1 p v 4) p 4 = v
  simp only [rdI]
  rw [wr_get, wr_get, wr_get, wr_get, if_pos (by omega), if_pos (by omega), if_pos (by omega), if_pos (by omega)]
  simp only [Nat.add_sub_cancel_left]
  simp only [Nat.sub_self, Int.pow_zero, Int.reducePow]
  omega
theorem rd_wr_other (b : B16) {p q : Nat} (h : q + 4 ≤ p ∨ p + 4 ≤ q) (v : Int) : rdI (wrB b p v 4).1 q 4 = rdI b.1 q 4 := by
  show rdI (wrL b.1 p v 4) q 4 = _
  simp only [rdI]
  rw [wr_get, wr_get, wr_get, wr_get, if_neg (by omega), if_neg (by omega), if_neg (by omega), if_neg (by omega)]
structure Ac where
  kind : Int
  cache : Int
  pick : Int
  addr : Int
  val : Int
  ha : 0 ≤ addr ∧ addr < 4294967296
  hv : 0 ≤ val ∧ val < 4294967296
  deriving DecidableEq
structure RS where
  cs : List CD
  h : HD
  way : List Msg
  last : List Int
  bad : Bool
def wd (a : Ac) : Nat := (a.addr % 16).toNat
def ad (a : Ac) : Int := 4 * (a.addr % 16)
theorem ad_line (a : Ac) : 0 ≤ ad a / 16 ∧ ad a / 16 < 4294967296 := by unfold ad; omega
def cAt (s : RS) (n : Nat) : CD := s.cs.getD n cd0
def cn (s : RS) (a : Ac) : Nat := pickAt a.cache s.cs.length
def askA (s : RS) (a : Ac) (w : Bool) : RS := { s with cs := s.cs.set (cn s a) (askF (cAt s (cn s a)) (ad a / 16) (ad_line a) w a.pick).1, way := s.way ++ (askF (cAt s (cn s a)) (ad a / 16) (ad_line a) w a.pick).2.1 }
def readA (s : RS) (a : Ac) : RS :=
  if (readF (cAt s (cn s a)).L (ad a) 4).2 = 0 then { s with bad := s.bad || decide ((readF (cAt s (cn s a)).L (ad a) 4).1 ≠ s.last.getD (wd a) 0) } else askA s a false
def writeA (s : RS) (a : Ac) : RS :=
  if (writeF (cAt s (cn s a)) (ad a) 4 a.val).2 = 0 then { s with cs := s.cs.set (cn s a) (writeF (cAt s (cn s a)) (ad a) 4 a.val).1, last := s.last.set (wd a) a.val } else askA s a true
def evictA (s : RS) (a : Ac) : RS := { s with cs := s.cs.set (cn s a) (evictF (cAt s (cn s a)) a.pick).1, way := s.way ++ (evictF (cAt s (cn s a)) a.pick).2 }
def headM (s : RS) (pick : Int) : Msg := s.way.getD (pickAt pick s.way.length) msg0
def restM (s : RS) (pick : Int) : List Msg := s.way.take (pickAt pick s.way.length) ++ s.way.drop (pickAt pick s.way.length + 1)
def dlvH (s : RS) (pick : Int) : RS := { s with h := (takeH s.h (headM s pick)).1, way := restM s pick ++ (takeH s.h (headM s pick)).2.1, bad := s.bad || decide ((takeH s.h (headM s pick)).2.2 ≠ 0) }
def dlvC (s : RS) (pick : Int) : RS :=
  { s with cs := s.cs.set (headM s pick).dst.toNat (takeF (cAt s (headM s pick).dst.toNat) (headM s pick)).1, way := restM s pick ++ (takeF (cAt s (headM s pick).dst.toNat) (headM s pick)).2.1, bad := s.bad || decide ((takeF (cAt s (headM s pick).dst.toNat) (headM s pick)).2.2 ≠ 0) }
def dlvA (s : RS) (pick : Int) : RS := if s.way = [] then s else if (headM s pick).dst = 4 then dlvH s pick else dlvC s pick
def actF (s : RS) (a : Ac) : RS := if a.kind = 0 then readA s a else if a.kind = 1 then writeA s a else if a.kind = 2 then evictA s a else if a.kind = 3 then dlvA s a.pick else s
structure RI (k : Nat) (s : RS) : Prop where
  bad : s.bad = false
  len : s.last.length = 16
  E : s.h.E.length = 4
  si : ∃ lb : Nat → B16, SI s.cs s.h s.way lb k ∧ ∀ w, w < 16 → rdI (lb (w / 4)).1 (4 * (w % 4)) 4 = s.last.getD w 0
theorem cat_nat (cs : List CD) (n : Nat) : cat cs (n : Int) = cs.getD n cd0 := by
  unfold cat
  rw [if_pos (by omega)]
  rfl
section
variable {cs : List CD} {h : HD} {way : List Msg} {last : Nat → B16} {k : Nat} {c : Int}
theorem SI.mono (s : SI cs h way last k) {k' : Nat} (hk : k ≤ k') : SI cs h way last k' := ⟨s.len, s.ok, s.hi.mono hk, s.good, s.li, s.q, s.z⟩
theorem SI.read (s : SI cs h way last k) (h0 : 0 ≤ c) (h1 : c < cs.length) {addr : Int} (ha : 0 ≤ addr) (he : (readF (cat cs c).L addr 4).2 = 0) : (addr / 16).toNat < h.E.length ∧ (readF (cat cs c).L addr 4).1 = rdI (last (addr / 16).toNat).1 (addr % 16).toNat 4 := by
  obtain ⟨hdo, hid⟩ := s.ok c h0 h1
  unfold readF at he ⊢
  split at he
  · cases he
  rename_i hr
  rw [if_neg hr]
  cases hg : getN (cat cs c).L (addr / 16) with
  | none => rw [hg] at he; cases he
  | some x =>
    dsimp only
    have hne : stateOf (cat cs c).L (addr / 16) ≠ 0 := by
      unfold stateOf
      rw [hg]
      have := hdo.st x (mem_of_get hg)
      show x.state ≠ 0
      omega
    have hN := s.low h0 h1 (n := addr / 16) (by omega) hne
    have hn : addr / 16 = (((addr / 16).toNat : Nat) : Int) := by omega
    refine ⟨hN, ?_⟩
    have hli := s.li _ hN
    unfold LS at hli
    have h2 : bvw (cat cs c).L (((addr / 16).toNat : Nat) : Int) = last (addr / 16).toNat := has_li hli ⟨h0, h1⟩ (by show stateOf _ _ ≠ 0; rw [← hn]; exact hne)
    rw [← hn] at h2
    unfold bvw at h2
    rw [hg] at h2
    rw [← h2]
    rfl
theorem read_ok {L : List Ln} {addr : Int} (hr : rightA addr 4 = true) (hs : stateOf L (addr / 16) ≠ 0) : (readF L addr 4).2 = 0 := by
  obtain ⟨x, hx, _, _⟩ := there_of hs
  unfold readF
  rw [if_neg (by simp [hr]), hx]
end
theorem right_4 {n : Int} (h : n % 4 = 0) : rightA n 4 = true := by simp [rightA, h]
section
variable {k : Nat} {s : RS} (r : RI k s)
include r
theorem RI.cn (a : Ac) : cn s a < s.cs.length := by
  obtain ⟨lb, si, _⟩ := r.si
  exact pickAt_lt _ _ (by have := si.len; omega)
theorem RI.askA (a : Ac) (w : Bool) : RI k (askA s a w) := by
  have hc := r.cn a
  obtain ⟨lb, si, hw⟩ := r.si
  refine ⟨r.bad, r.len, r.E, lb, ?_, hw⟩
  have := si.ask (c := ((Go.Proofs.Ytflnlmibkbojcaa.cn s a : Nat) : Int)) (by omega) (by omega) (ad_line a) (by rw [r.E]; unfold ad; omega) w a.pick
  rw [cat_nat] at this
  exact this
theorem RI.readA (a : Ac) : RI k (readA s a) := by
  have hc := r.cn a
  unfold Go.Proofs.Ytflnlmibkbojcaa.readA
  split
  · rename_i he
    obtain ⟨lb, si, hw⟩ := r.si
    have h1 := si.read (c := ((Go.Proofs.Ytflnlmibkbojcaa.cn s a : Nat) : Int)) (by omega) (by omega) (addr := ad a) (by unfold ad; omega) (by rw [cat_nat]; exact he)
    rw [cat_nat] at h1
    have h2 := hw (wd a) (by unfold wd; omega)
    refine ⟨?_, r.len, r.E, lb, si, hw⟩
    show (s.bad || _) = false
    rw [r.bad, show (readF (cAt s (Go.Proofs.Ytflnlmibkbojcaa.cn s a)).L (ad a) 4).1 = s.last.getD (wd a) 0 from h1.2.trans (by
      rw [← h2]
      congr 2
      · unfold ad wd; congr 1; omega
      · unfold ad wd; omega)]
    simp
  · exact r.askA a false
theorem RI.writeA (a : Ac) : RI k (writeA s a) := by
  have hc := r.cn a
  unfold Go.Proofs.Ytflnlmibkbojcaa.writeA
  split
  · rename_i he
    obtain ⟨lb, si, hw⟩ := r.si
    obtain ⟨h1, h2⟩ := si.write (c := ((Go.Proofs.Ytflnlmibkbojcaa.cn s a : Nat) : Int)) (by omega) (by omega) (addr := ad a) (by unfold ad; omega) a.val (by rw [cat_nat]; exact he)
    rw [cat_nat] at h2
    refine ⟨r.bad, by show (s.last.set _ _).length = 16; rw [List.length_set]; exact r.len, r.E, _, h2, fun w hlt => ?_⟩
    show _ = (s.last.set (wd a) a.val).getD w 0
    rw [getD_setI, r.len]
    have e1 : (ad a / 16).toNat = wd a / 4 := by unfold ad wd; omega
    have e2 : (ad a % 16).toNat = 4 * (wd a % 4) := by unfold ad wd; omega
    rw [e1, e2]
    by_cases e : w / 4 = wd a / 4
    · rw [if_pos e]
      by_cases e3 : wd a = w
      · rw [if_pos ⟨e3, hlt⟩, ← e3]
        exact rd_wr_same _ (by omega) a.hv
      · rw [if_neg (fun h => e3 h.1), rd_wr_other _ (by omega)]
        exact hw w hlt
    · rw [if_neg e, if_neg (fun h => e (by rw [h.1]))]
      exact hw w hlt
  · exact r.askA a true
theorem RI.evictA (a : Ac) : RI k (evictA s a) := by
  have hc := r.cn a
  obtain ⟨lb, si, hw⟩ := r.si
  refine ⟨r.bad, r.len, r.E, lb, ?_, hw⟩
  have := si.evict (c := ((Go.Proofs.Ytflnlmibkbojcaa.cn s a : Nat) : Int)) (by omega) (by omega) a.pick
  rw [cat_nat] at this
  exact this
omit r in
theorem headM_perm (pick : Int) (hne : s.way ≠ []) : s.way.Perm (headM s pick :: restM s pick) := way_perm (pickAt_lt pick _ (List.length_pos_iff.2 hne))
theorem RI.dlvA (pick : Int) : RI (k + 1) (dlvA s pick) := by
  obtain ⟨lb, si, hw⟩ := r.si
  unfold Go.Proofs.Ytflnlmibkbojcaa.dlvA
  split
  · exact ⟨r.bad, r.len, r.E, lb, si.mono (by omega), hw⟩
  rename_i hne
  have hp := headM_perm pick hne
  split
  · rename_i hd
    obtain ⟨h1, h2⟩ := si.home hp hd
    refine ⟨?_, r.len, ?_, lb, h2, hw⟩
    · show (s.bad || decide (_ ≠ 0)) = false
      rw [r.bad, h1]; rfl
    · exact (take_len _ _).trans r.E
  · rename_i hd
    obtain ⟨h0, h1, h2⟩ := si.cache hp hd
    have hc : cat s.cs (Go.Proofs.Ytflnlmibkbojcaa.headM s pick).dst = cAt s (Go.Proofs.Ytflnlmibkbojcaa.headM s pick).dst.toNat := by unfold cat; rw [if_pos h0.1]; rfl
    rw [hc] at h1 h2
    refine ⟨?_, r.len, r.E, lb, h2.mono (by omega), hw⟩
    show (s.bad || decide (_ ≠ 0)) = false
    rw [r.bad, h1]; rfl
theorem RI.mono {k' : Nat} (hk : k ≤ k') : RI k' s := by
  obtain ⟨lb, si, hw⟩ := r.si
  exact ⟨r.bad, r.len, r.E, lb, si.mono hk, hw⟩
theorem RI.act (a : Ac) : RI (k + 1) (actF s a) := by
  unfold actF
  split
  · exact RI.mono (r.readA a) (by omega)
  split
  · exact RI.mono (r.writeA a) (by omega)
  split
  · exact RI.mono (r.evictA a) (by omega)
  split
  · exact r.dlvA a.pick
  · exact r.mono (by omega)
theorem RI.right : ∀ n : Nat, n < 4 → ∀ i : Nat, i < s.cs.length → stateOf (cAt s i).L n ≠ 0 →
    (∀ w : Nat, w < 4 → readF (cAt s i).L ((16 * n + 4 * w : Nat) : Int) 4 = (s.last.getD (4 * n + w) 0, 0)) ∧ (wr (stateOf (cAt s i).L n) → ∀ j : Nat, j < s.cs.length → j ≠ i → stateOf (cAt s j).L n = 0) := by
  intro n hn i hi hs
  obtain ⟨lb, si, hw⟩ := r.si
  refine ⟨fun w hlt => ?_, fun hwr j hj hne => ?_⟩
  · have e1 : (((16 * n + 4 * w : Nat) : Int) / 16) = (n : Int) := by omega
    have hz := read_ok (L := (cAt s i).L) (addr := ((16 * n + 4 * w : Nat) : Int)) (right_4 (by omega)) (by rw [e1]; exact hs)
    have h1 := si.read (c := ((i : Nat) : Int)) (by omega) (by omega) (addr := ((16 * n + 4 * w : Nat) : Int)) (by omega) (by rw [cat_nat]; exact hz)
    rw [cat_nat] at h1
    refine Prod.ext ?_ hz
    have h2 := hw (4 * n + w) (by omega)
    refine h1.2.trans ?_
    rw [← h2, e1]
    congr 2
    · congr 1; omega
    · omega
  · have hli := si.li n (by rw [r.E]; exact hn)
    unfold LS at hli
    have h1 : wr ((vw s.cs n) ((i : Nat) : Int)).s := by show wr (stateOf (cat s.cs _).L _); rw [cat_nat]; exact hwr
    have h2 := (own_li hli ⟨by omega, by omega⟩ h1).2.2.2.1 ((j : Nat) : Int) (by omega) (by omega) (by omega)
    have h3 : stateOf (cat s.cs ((j : Nat) : Int)).L n = 0 := h2
    rwa [cat_nat] at h3
end
end Go.Proofs.Ytflnlmibkbojcaa
namespace Go.Proofs.Ytflnlmibkbojcaa
open Go.RowKit
def roleE (x : ER) : Nat × Int := (if x.1 = 4 ∨ x.1 = 5 ∨ x.1 = 11 then 0 else if x.1 = 6 ∨ x.1 = 12 then 1 else 2, x.2.1)
theorem role_er (m : Msg) : role m = (er m).map roleE := by
  unfold role er
  by_cases h : 4 ≤ m.kind ∧ m.kind ≤ 13 ∧ m.kind ≠ 7
  · rw [if_pos h]
    obtain hk | hk | hk | hk | hk | hk | hk | hk | hk : m.kind = 4 ∨ m.kind = 5 ∨ m.kind = 6 ∨ m.kind = 8 ∨ m.kind = 9 ∨ m.kind = 10 ∨ m.kind = 11 ∨ m.kind = 12 ∨ m.kind = 13 := by omega
    all_goals simp [hk, roleE]
  · rw [if_neg h]
    (repeat' rw [if_neg (by omega)])
    rfl
theorem roles_wn (n : Int) (way : List Msg) : rolesOf n way = ((wn n way).flatMap er).map roleE := by
  induction way with
  | nil => rfl
  | cons m r ih =>
    rw [roles_cons, wn_cons, ih]
    unfold rl
    split
    · rw [List.flatMap_cons, List.map_append, role_er]
    · rfl
section
variable {M : Int} {d : Ent} {mem cur : B16} {v : Int → CV} {R : List ER} {G : Int → List Bool} {P : Int → List B16} {A : Int → List Unit}
theorem LI.exp (h : LI M d mem cur v R G P A) (hk : d.busy = true → d.kind = 1 ∨ d.kind = 2) : Exp d (R.map roleE) := by
  obtain ⟨R', sv, hp, hph, _⟩ := h.ph
  refine Exp.perm ?_ (hp.map roleE).symm
  cases hph with
  | idleO a => exact .inl ⟨a, rfl⟩
  | idleS a => exact .inl ⟨a, rfl⟩
  | fwd a b c e =>
    refine .inr (.inr (.inl ⟨a, b, c, e, ?_⟩))
    rcases hk a with h | h <;> simp [roleE, h]
  | back a b c e => exact .inr (.inr (.inl ⟨a, b, c, e, by simp [roleE]⟩))
  | drops C a b c k _ nd len w x y =>
    refine .inr (.inr (.inr ⟨a, b, c, w, C.map Prod.fst, ?_, nd, by rw [List.length_map]; exact len, fun z hz => ?_⟩))
    · rw [List.map_map, List.map_map]
      have : (roleE ∘ fun x : Int × Bool => ((if x.2 then 12 else 6 : Int), x.1, b16z)) = (Prod.mk 1 ∘ Prod.fst) := by
        funext x
        obtain ⟨c, t⟩ := x
        cases t <;> simp [roleE]
      rw [this]
    · obtain ⟨y, hy, rfl⟩ := List.mem_map.1 hz
      exact ⟨(x y hy).1, (x y hy).2.1⟩
  | dataO k a b c e f g => exact .inr (.inl ⟨a, b, by rcases g with ⟨h, _⟩ | ⟨h, _⟩ <;> simp [roleE, h]⟩)
  | dataS a b => exact .inr (.inl ⟨a, b, by simp [roleE]⟩)
  | doneO a b => exact .inr (.inl ⟨a, b, by simp [roleE]⟩)
  | doneS a b => exact .inr (.inl ⟨a, b, by simp [roleE]⟩)
theorem LI.few (h : LI M d mem cur v R G P A) : R.length ≤ 4 := by
  obtain ⟨R', sv, hp, hph, _⟩ := h.ph
  rw [hp.length_eq]
  cases hph with
  | drops C a b c k s nd len w x y =>
    rw [List.length_map, ← List.length_map Prod.fst]
    refine nodup_sub _ [0, 1, 2, 3] nd fun z hz => ?_
    obtain ⟨y, hy, rfl⟩ := List.mem_map.1 hz
    have := sh_get_rng (x y hy).1
    simp
    omega
  | _ => simp
theorem LI.one (h : LI M d mem cur v R G P A) {c : Int} (h0 : 0 ≤ c) (h1 : c < M) : (G c).length ≤ 1 ∧ (P c).length ≤ 1 ∧ (A c).length ≤ 1 := by
  obtain ⟨R', sv, hp, hph, ht⟩ := h.ph
  have t := ht c h0 h1
  have e := congrArg List.length t.ask
  rw [List.length_append] at e
  have e2 : (v c).a.toList.length ≤ 1 := by cases (v c).a <;> simp
  refine ⟨by omega, ?_⟩
  rcases t.put with ⟨_, a, b⟩ | ⟨_, _, ⟨a, b⟩ | ⟨a, b⟩⟩ <;> rw [a, b] <;> simp
theorem LI.quiet (h : LI M d mem cur v [] G P A) : d.busy = false := by
  obtain ⟨R', sv, hp, hph, _⟩ := h.ph
  have hl := hp.length_eq
  cases hph with
  | idleO a => exact a
  | idleS a => exact a
  | drops C a b c k s nd len w x y =>
    rw [List.length_map] at hl
    have : C.length = 0 := hl.symm
    omega
  | _ => simp at hl
theorem LI.asker {k z : Int} {b : B16} (h : LI M d mem cur v ((k, z, b) :: R) G P A) (hkd : d.busy = true → d.kind = 1 ∨ d.kind = 2) (hk : k = 4 ∨ k = 5 ∨ k = 6) : ∃ r, (0 ≤ r ∧ r < M) ∧ z ≠ r ∧ (v r).a = some (decide (d.kind = 2)) ∧ (k = 6 → d.kind = 2) := by
  obtain ⟨R', sv, hp, hph, ht⟩ := h.ph
  have hin := er_in hp
  have fin : d.busy = true → sv = true → z ≠ d.asks → (k = 6 → d.kind = 2) → ∃ r, (0 ≤ r ∧ r < M) ∧ z ≠ r ∧ (v r).a = some (decide (d.kind = 2)) ∧ (k = 6 → d.kind = 2) := by
    intro hb hs hz h6
    have hr := h.ask hb
    refine ⟨d.asks, hr, hz, ?_, h6⟩
    have := (ht _ hr.1 hr.2).ask
    unfold Wait at this
    rw [if_pos ⟨hs, rfl⟩] at this
    cases ha : (v d.asks).a with
    | none => rw [ha] at this; simp at this
    | some w =>
      rw [ha] at this
      have h2 := congrArg List.length this
      simp at h2
      rw [h2] at this
      simp at this
      rw [this]
  cases hph with
  | idleO a => cases hin
  | idleS a => cases hin
  | fwd a b c e f =>
    simp only [List.mem_singleton, Prod.mk.injEq] at hin
    have := hkd a
    exact fin a rfl (by rw [hin.2.1]; exact f) (fun h => by omega)
  | back a b c e f => simp at hin; omega
  | drops C a b c kk s nd len w x y =>
    obtain ⟨q, hq, hq'⟩ := List.mem_map.1 hin
    simp only [Prod.mk.injEq] at hq'
    exact fin a rfl (by rw [← hq'.2.1]; exact (x q hq).2.1) fun _ => kk
  | dataO k' a b c e f g => simp only [List.mem_singleton, Prod.mk.injEq] at hin; omega
  | dataS a => simp at hin; omega
  | doneO a => simp at hin; omega
  | doneS a => simp at hin; omega
end
theorem GM.cases {M : Int} {N : Nat} {m : Msg} (g : GM M N m) : (m.dst = 4 ∧ (0 ≤ m.src ∧ m.src < M) ∧ ((1 ≤ m.kind ∧ m.kind ≤ 3) ∨ (11 ≤ m.kind ∧ m.kind ≤ 13))) ∨ ((0 ≤ m.dst ∧ m.dst < M) ∧ (4 ≤ m.kind ∧ m.kind ≤ 10)) := by
  by_cases hd : m.dst = 4
  · exact .inl ⟨hd, line_home g hd⟩
  · rcases g.rng with ⟨h, _⟩ | ⟨_, h⟩
    · exact absurd h hd
    · exact .inr h
theorem GM.good {M : Int} {N : Nat} {m : Msg} (g : GM M N m) (hM : M ≤ 4) : Good N m := by
  refine ⟨g.line, ?_⟩
  have hb : bytesK m.kind = true ∨ m.bs = b16z := by
    have := g.chk
    unfold Go.Proofs.Ytflnlmibkbojcaa.chk at this
    split at this
    · rename_i h
      unfold goodMsg at h
      simp at h
      exact h.2
    · cases this
  rcases g.cases with ⟨h1, h2, h3 | h3⟩ | ⟨h1, h2⟩
  · refine .inl ⟨h3, h1, by omega, ?_⟩
    rcases hb with h | h
    · unfold bytesK at h; simp at h; omega
    · exact .inr h
  · refine .inr (.inr ⟨h3, h1, by omega, ?_⟩)
    rcases hb with h | h
    · unfold bytesK at h; simp at h; omega
    · exact .inr h
  · exact .inr (.inl ⟨h2, by omega⟩)
theorem sumF_add {α : Type} (f g : α → Nat) (l : List α) : sumF (fun x => f x + g x) l = sumF f l + sumF g l := by
  induction l with
  | nil => rfl
  | cons x r ih => rw [sumF_cons, sumF_cons, sumF_cons, ih]; omega
theorem le_sumF {α : Type} {f : α → Nat} {l : List α} {x : α} (h : x ∈ l) : f x ≤ sumF f l := by
  induction l with
  | nil => cases h
  | cons y r ih =>
    rw [sumF_cons]
    rcases List.mem_cons.1 h with rfl | h
    · omega
    · have := ih h; omega
def rng (M : Nat) : List Int := (List.range M).map fun i : Nat => (i : Int)
theorem rng_mem {M : Nat} {c : Int} (h0 : 0 ≤ c) (h1 : c < M) : c ∈ rng M := List.mem_map.2 ⟨c.toNat, List.mem_range.2 (by omega), by omega⟩
theorem mem_rng {M : Nat} {c : Int} (h : c ∈ rng M) : 0 ≤ c ∧ c < M := by
  obtain ⟨i, hi, rfl⟩ := List.mem_map.1 h
  have := List.mem_range.1 hi
  omega
theorem rng_len (M : Nat) : (rng M).length = M := by simp [rng]
def tc (g : List Bool) (p : List B16) (a : List Unit) : Nat := 9 * g.length + 2 * p.length + a.length
theorem tc_app (g g' : List Bool) (p p' : List B16) (a a' : List Unit) : tc (g ++ g') (p ++ p') (a ++ a') = tc g p a + tc g' p' a' := by
  unfold tc
  simp only [List.length_append]
  omega
theorem tc_ge (g : List Bool) (p : List B16) (a : List Unit) : 9 * g.length ≤ tc g p a ∧ 2 * p.length ≤ tc g p a ∧ a.length ≤ tc g p a := by unfold tc; omega
theorem cost_le {M N : Nat} {m : Msg} (g : GM M N m) : cost m ≤ 2 * (er m).length + sumF (fun c => tc (gt c m) (pt c m) (kt c m)) (rng M) := by
  rcases g.cases with ⟨h1, h2, h3 | h3⟩ | ⟨h1, h2⟩
  · have hle : tc (gt m.src m) (pt m.src m) (kt m.src m) ≤ _ := le_sumF (f := fun c => tc (gt c m) (pt c m) (kt c m)) (rng_mem (M := M) h2.1 (by omega))
    by_cases h : m.kind = 3
    · have e : (pt m.src m).length = 1 := congrArg List.length (if_pos ⟨rfl, h⟩ : pt m.src m = [m.bs])
      have : cost m = 2 := by unfold cost; rw [if_neg (by omega), if_pos h]
      have ht := tc_ge (gt m.src m) (pt m.src m) (kt m.src m)
      omega
    · have e : (gt m.src m).length = 1 := congrArg List.length (if_pos ⟨rfl, by omega⟩ : gt m.src m = [decide (m.kind = 2)])
      have : cost m = 9 := by unfold cost; rw [if_pos (by omega)]
      have ht := tc_ge (gt m.src m) (pt m.src m) (kt m.src m)
      omega
  · have e : (er m).length = 1 := by unfold er; rw [if_pos (by omega)]; rfl
    have := (cost_ans h3).1
    omega
  · by_cases h : m.kind = 7
    · have hle := le_sumF (f := fun c => tc (gt c m) (pt c m) (kt c m)) (rng_mem (M := M) h1.1 (by omega))
      have e : (kt m.dst m).length = 1 := congrArg List.length (if_pos ⟨rfl, h⟩ : kt m.dst m = [()])
      have : cost m = 1 := by unfold cost; rw [if_neg (by omega), if_neg (by omega), if_neg (by omega), if_pos (by omega)]
      have ht := tc_ge (gt m.dst m) (pt m.dst m) (kt m.dst m)
      omega
    · have e : (er m).length = 1 := by unfold er; rw [if_pos (by omega)]; rfl
      have : cost m = 2 := by unfold cost; rw [if_neg (by omega), if_neg (by omega), if_pos (by omega)]
      omega
theorem qcost_le {M : Nat} {m : Msg} (h : 1 ≤ m.kind ∧ m.kind ≤ 3) (h2 : 0 ≤ m.src ∧ m.src < M) : qcost m ≤ sumF (fun c => tc (gt c m) (pt c m) []) (rng M) := by
  have hle : tc (gt m.src m) (pt m.src m) [] ≤ _ := le_sumF (f := fun c => tc (gt c m) (pt c m) []) (rng_mem (M := M) h2.1 (by omega))
  unfold qcost
  by_cases h : m.kind = 3
  · have e : (pt m.src m).length = 1 := congrArg List.length (if_pos ⟨rfl, h⟩ : pt m.src m = [m.bs])
    rw [if_pos h]
    have ht := tc_ge (gt m.src m) (pt m.src m) []
    omega
  · have e : (gt m.src m).length = 1 := congrArg List.length (if_pos ⟨rfl, by omega⟩ : gt m.src m = [decide (m.kind = 2)])
    rw [if_neg h]
    have ht := tc_ge (gt m.src m) (pt m.src m) []
    omega
theorem costs_le {M N : Nat} : ∀ (l : List Msg), (∀ m ∈ l, GM M N m) → sumF cost l ≤ 2 * (l.flatMap er).length + sumF (fun c => tc (l.flatMap (gt c)) (l.flatMap (pt c)) (l.flatMap (kt c))) (rng M)
  | [], _ => by rw [sumF_nil]; omega
  | m :: r, h => by
    have h1 := cost_le (h m (List.mem_cons_self ..))
    have h2 := costs_le r fun x hx => h x (List.mem_cons_of_mem _ hx)
    have e : (fun c => tc ((m :: r).flatMap (gt c)) ((m :: r).flatMap (pt c)) ((m :: r).flatMap (kt c))) = fun c => tc (gt c m) (pt c m) (kt c m) + tc (r.flatMap (gt c)) (r.flatMap (pt c)) (r.flatMap (kt c)) := by
      funext c
      rw [List.flatMap_cons, List.flatMap_cons, List.flatMap_cons, tc_app]
    rw [e, sumF_add, sumF_cons, List.flatMap_cons, List.length_append]
    omega
theorem qcosts_le {M : Nat} : ∀ (l : List Msg), (∀ m ∈ l, (1 ≤ m.kind ∧ m.kind ≤ 3) ∧ (0 ≤ m.src ∧ m.src < M)) → sumF qcost l ≤ sumF (fun c => tc (l.flatMap (gt c)) (l.flatMap (pt c)) []) (rng M)
  | [], _ => by rw [sumF_nil]; omega
  | m :: r, h => by
    obtain ⟨a, b⟩ := h m (List.mem_cons_self ..)
    have h1 := qcost_le a b
    have h2 := qcosts_le r fun x hx => h x (List.mem_cons_of_mem _ hx)
    have e : (fun c => tc ((m :: r).flatMap (gt c)) ((m :: r).flatMap (pt c)) []) = fun c => tc (gt c m) (pt c m) [] + tc (r.flatMap (gt c)) (r.flatMap (pt c)) [] := by
      funext c
      rw [List.flatMap_cons, List.flatMap_cons]
      exact tc_app _ _ _ _ [] []
    rw [e, sumF_add, sumF_cons]
    omega
theorem wn_sum : ∀ (l : List Msg), (∀ m ∈ l, m.line.toNat < 4) → sumF cost l = sumF cost (wn 0 l) + sumF cost (wn 1 l) + sumF cost (wn 2 l) + sumF cost (wn 3 l)
  | [], _ => rfl
  | m :: r, h => by
    have h1 := h m (List.mem_cons_self ..)
    have h2 := wn_sum r fun x hx => h x (List.mem_cons_of_mem _ hx)
    have hm := m.hn
    rw [sumF_cons, wn_cons, wn_cons, wn_cons, wn_cons]
    obtain e | e | e | e : m.line = 0 ∨ m.line = 1 ∨ m.line = 2 ∨ m.line = 3 := by omega
    all_goals
      simp only [e]
      simp [sumF_cons]
      omega
section
variable {cs : List CD} {h : HD} {way : List Msg} {last : Nat → B16} {k : Nat} {c : Int}
theorem SI.kd (s : SI cs h way last k) {n : Nat} (hn : n < h.E.length) : (entOf h.E n).busy = true → (entOf h.E n).kind = 1 ∨ (entOf h.E n).kind = 2 := fun hb => by
  have := (s.hi.2 n hn).1.ok.kind hb
  omega
theorem SI.line_le (s : SI cs h way last k) {n : Nat} (hn : n < h.E.length) : sumF cost (wn n way) + ecost (entOf h.E n) ≤ 58 := by
  have hl := s.li n hn
  unfold LS at hl
  have h1 := costs_le (M := cs.length) (N := h.E.length) (wn n way) fun m hm => s.good m (List.mem_filter.1 hm).1
  have h2 := qcosts_le (M := cs.length) (entOf h.E n).q fun m hm => by
    have h3 := (s.hi.2 n hn).1.ok.rest m hm
    exact ⟨h3.kind, h3.src.1, by have := s.q n hn m hm; omega⟩
  have h3 := hl.few
  have h4 : sumF (fun c => tc ((wn n way).flatMap (gt c)) ((wn n way).flatMap (pt c)) ((wn n way).flatMap (kt c))) (rng cs.length) + sumF (fun c => tc ((entOf h.E n).q.flatMap (gt c)) ((entOf h.E n).q.flatMap (pt c)) []) (rng cs.length) ≤ 12 * (rng cs.length).length := by
    rw [← sumF_add]
    refine sumF_le fun c hc => ?_
    have hc := mem_rng hc
    rw [← tc_app, List.append_nil]
    have h5 := hl.one (c := c) hc.1 hc.2
    unfold tc
    omega
  rw [rng_len] at h4
  have := s.len
  have h6 : ecost (entOf h.E n) ≤ 2 + sumF qcost (entOf h.E n).q := by
    unfold ecost
    split <;> omega
  omega
theorem SI.phi (s : SI cs h way last k) (hE : h.E.length = 4) : sumF cost way + sumF ecost h.E ≤ 232 := by
  have e1 := wn_sum way fun m hm => by have := (s.good m hm).line; omega
  have a0 := s.line_le (n := 0) (by omega)
  have a1 := s.line_le (n := 1) (by omega)
  have a2 := s.line_le (n := 2) (by omega)
  have a3 := s.line_le (n := 3) (by omega)
  have e2 : sumF ecost h.E = ecost (entOf h.E 0) + ecost (entOf h.E 1) + ecost (entOf h.E 2) + ecost (entOf h.E 3) := by
    match hh : h.E, hE with
    | [a, b, c, d], _ =>
      rw [sumF_cons, sumF_cons, sumF_cons, sumF_cons, sumF_nil]
      show _ = ecost a + ecost b + ecost c + ecost d
      omega
  have b0 : sumF cost (wn ((0 : Nat) : Int) way) = sumF cost (wn 0 way) := rfl
  have b1 : sumF cost (wn ((1 : Nat) : Int) way) = sumF cost (wn 1 way) := rfl
  have b2 : sumF cost (wn ((2 : Nat) : Int) way) = sumF cost (wn 2 way) := rfl
  have b3 : sumF cost (wn ((3 : Nat) : Int) way) = sumF cost (wn 3 way) := rfl
  omega
theorem SI.sv (s : SI cs h way last k) : Sv (k + (sumF cost way + sumF ecost h.E)) (0 + (sumF pend way + sumF epend h.E)) k h way 0 := by
  have hM : (cs.length : Int) ≤ 4 := by have := s.len; omega
  refine ⟨s.hi, fun m hm => (s.good m hm).good hM, fun n hn => ?_, Nat.le_refl _, rfl⟩
  rw [roles_wn]
  have hl := s.li n hn
  unfold LS at hl
  exact hl.exp (s.kd hn)
end
theorem take_cost {d : CD} {m : Msg} (hz : (takeF d m).2.2 = 0) (hk : 4 ≤ m.kind ∧ m.kind ≤ 10) : sumF cost (takeF d m).2.1 + 1 ≤ cost m := by
  have one : ∀ (k : Int) (b : B16), (k = 11 ∨ k = 12 ∨ k = 13) → sumF cost [mkM k d.id 4 m.line b m.hn] = 1 := fun k b h => by
    rw [sumF_cons, sumF_nil]
    unfold cost mkM
    rcases h with rfl | rfl | rfl <;> rfl
  have c2 : m.kind ≠ 7 → cost m = 2 := fun h => by unfold cost; rw [if_neg (by omega), if_neg (by omega), if_pos (by omega)]
  have c1 : m.kind = 7 → cost m = 1 := fun h => by unfold cost; rw [if_neg (by omega), if_neg (by omega), if_neg (by omega), if_pos (by omega)]
  have back : (takeF.backF d m).2.2 = 0 → sumF cost (takeF.backF d m).2.1 = 1 := by
    unfold takeF.backF
    split
    · exact fun _ => one 11 _ (.inl rfl)
    · exact fun h => by cases h
  revert hz
  unfold takeF
  split
  · exact fun h => by cases h
  split
  · split
    · intro _
      rw [one 13 _ (.inr (.inr rfl)), c2 (by omega)]; exact Nat.le_refl _
    · exact fun h => by cases h
  split
  · rw [c2 (by omega)]
    split
    · split
      · intro _; rw [one 11 _ (.inl rfl)]; exact Nat.le_refl _
      · intro h; rw [back h]; exact Nat.le_refl _
    · intro h; rw [back h]; exact Nat.le_refl _
  split
  · rw [c2 (by omega)]
    split
    · exact fun h => by cases h
    · intro _; rw [one 12 _ (.inr (.inl rfl))]; exact Nat.le_refl _
  split
  · intro _
    rw [sumF_nil]
    have h7 : m.kind = 7 := by omega
    rw [c1 h7]; exact Nat.le_refl _
  · exact fun h => by cases h
def phiF (s : RS) : Nat := sumF cost s.way + sumF ecost s.h.E
def dlvN : Nat → RS → RS
  | 0, s => s
  | i + 1, s => dlvN i (dlvA s 0)
theorem dlv_nil {s : RS} (h : s.way = []) (p : Int) : dlvA s p = s := if_pos h
theorem dlvN_nil {s : RS} (h : s.way = []) : ∀ i, dlvN i s = s
  | 0 => rfl
  | i + 1 => by show dlvN i (dlvA s 0) = s; rw [dlv_nil h, dlvN_nil h i]
theorem dlvN_add (s : RS) : ∀ i j, dlvN (i + j) s = dlvN j (dlvN i s)
  | 0, j => by rw [Nat.zero_add]; rfl
  | i + 1, j => by rw [Nat.add_right_comm]; exact dlvN_add (dlvA s 0) i j
theorem RI.less {k : Nat} {s : RS} (r : RI k s) (p : Int) (hne : s.way ≠ []) : phiF (Go.Proofs.Ytflnlmibkbojcaa.dlvA s p) + 1 ≤ phiF s := by
  have hp := headM_perm p hne
  obtain ⟨lb, si, hw⟩ := r.si
  have hcost := sumF_perm cost hp
  rw [sumF_cons] at hcost
  unfold Go.Proofs.Ytflnlmibkbojcaa.dlvA
  rw [if_neg hne]
  split
  · rename_i hd
    have := (si.sv.take hp hd).2.phi
    show sumF cost (_ ++ _) + sumF ecost (takeH s.h (Go.Proofs.Ytflnlmibkbojcaa.headM s p)).1.E + 1 ≤ _
    unfold phiF
    omega
  · rename_i hd
    obtain ⟨h0, h1, h2⟩ := si.cache hp hd
    have hk := (si.good _ (hp.symm.subset (List.mem_cons_self ..))).cases
    have hc : cat s.cs (Go.Proofs.Ytflnlmibkbojcaa.headM s p).dst = cAt s (Go.Proofs.Ytflnlmibkbojcaa.headM s p).dst.toNat := by unfold cat; rw [if_pos h0.1]; rfl
    rw [hc] at h1
    have h3 := take_cost h1 (by rcases hk with ⟨h, _⟩ | h; exact absurd h hd; exact h.2)
    show sumF cost (_ ++ _) + sumF ecost s.h.E + 1 ≤ _
    unfold phiF
    rw [sumF_app]
    omega
theorem RI.dlvN : ∀ (i : Nat) {s : RS} {k : Nat}, RI k s → RI (k + i) (dlvN i s)
  | 0, s, k, r => r
  | i + 1, s, k, r => by
    have := RI.dlvN i (r.dlvA 0)
    rwa [Nat.add_assoc, Nat.add_comm 1] at this
theorem RI.calm : ∀ (i : Nat) {s : RS} {k : Nat}, RI k s → phiF s ≤ i → (Go.Proofs.Ytflnlmibkbojcaa.dlvN i s).way = []
  | 0, s, k, r, h => by
    obtain ⟨lb, si, hw⟩ := r.si
    have hM : (s.cs.length : Int) ≤ 4 := by have := si.len; omega
    exact sumF_zero (f := cost) (fun m hm => ((si.good m hm).good hM).cost) (by unfold phiF at h; show sumF cost s.way = 0; omega)
  | i + 1, s, k, r, h => by
    by_cases hne : s.way = []
    · rw [dlvN_nil hne]; exact hne
    · have := r.less 0 hne
      exact RI.calm i (r.dlvA 0) (by omega)
theorem RI.bound {k : Nat} {s : RS} (r : RI k s) : phiF s ≤ 400 := by
  obtain ⟨lb, si, hw⟩ := r.si
  have := si.phi r.E
  unfold phiF
  omega
end Go.Proofs.Ytflnlmibkbojcaa
namespace Go.Proofs.Ytflnlmibkbojcaa
open Go.RowKit
section
variable {cs : List CD} {h : HD} {way rest : List Msg} {last : Nat → B16} {k : Nat} {m : Msg} {line c : Int}
theorem SI.eff (s : SI cs h way last k) (hp : way.Perm (m :: rest)) (hd : m.dst ≠ 4) :
    (∀ n : Int, n ≠ m.line → cvw (takeF (cat cs m.dst) m).1 n = cvw (cat cs m.dst) n) ∧
      ((avw (cat cs m.dst).ask m.line = some (decide (m.kind = 10)) ∧ (cvw (takeF (cat cs m.dst) m).1 m.line).s ≠ 0 ∧ (cvw (takeF (cat cs m.dst) m).1 m.line).a = none) ∨
        (∃ (r : Int) (w : Bool), (0 ≤ r ∧ r < cs.length) ∧ m.dst ≠ r ∧ (vw cs m.line r).a = some w ∧ (m.kind = 6 → w = true) ∧ (cvw (takeF (cat cs m.dst) m).1 m.line).a = (cvw (cat cs m.dst) m.line).a) ∨
        ((cvw (takeF (cat cs m.dst) m).1 m.line).a = (cvw (cat cs m.dst) m.line).a ∧ (cvw (takeF (cat cs m.dst) m).1 m.line).s = (cvw (cat cs m.dst) m.line).s)) := by
  have hg := s.good m (hp.symm.subset (List.mem_cons_self ..))
  obtain ⟨hrng, hk, hln, hL⟩ := s.atl hp hd
  have hmn := m.hn
  have hline : m.line = ((m.line.toNat : Nat) : Int) := by omega
  obtain ⟨e1, e2, e3⟩ := s.hi.2 _ hln
  obtain ⟨hdo, hid⟩ := s.ok m.dst hrng.1 hrng.2
  have hto : m.dst = (cat cs m.dst).id := hid.symm
  have hkd := e1.ok.kind
  by_cases h8 : m.kind = 8 ∨ m.kind = 9 ∨ m.kind = 10
  · have hkt : ∀ c, kt c m = [] := fun c => kt_no (by omega)
    obtain ⟨_, ha, hgn, hbs, hli⟩ := data_li (m := m) (hL.perm (List.Perm.refl _) (fun c => List.Perm.refl _) (fun c => List.Perm.refl _) (fun c => by rw [hkt])) h8 hkd rfl _ rfl
    have ha' : avw (cat cs m.dst).ask m.line = some (decide (m.kind = 10)) := by rw [hline]; exact ha
    obtain ⟨t1, t2⟩ := take_data hdo hg.chk hto h8 ha'
    rw [t1]
    refine ⟨fun n hn => by rw [t2, if_neg hn], .inl ⟨ha', ?_, ?_⟩⟩
    · rw [t2, if_pos rfl]
      show (if m.kind = 8 then (1 : Int) else 2) ≠ 0
      split <;> decide
    · rw [t2, if_pos rfl]
  have asker : m.kind = 4 ∨ m.kind = 5 ∨ m.kind = 6 → ∃ (r : Int) (w : Bool), (0 ≤ r ∧ r < cs.length) ∧ m.dst ≠ r ∧ (vw cs m.line r).a = some w ∧ (m.kind = 6 → w = true) := by
    intro h
    have he : er m = [(m.kind, m.dst, b16z)] := er_one rfl (by omega) (if_pos (by omega)) (if_neg (by omega))
    rw [he] at hL
    obtain ⟨r, a, b, e, f⟩ := hL.asker (fun hb => by have := hkd hb; omega) h
    exact ⟨r, _, a, b, by rw [hline]; exact e, fun h6 => by simp [f h6]⟩
  by_cases h4 : m.kind = 4 ∨ m.kind = 5
  · have hkt : ∀ c, kt c m = [] := fun c => kt_no (by omega)
    obtain ⟨r, w, a1, a2, a3, a4⟩ := asker (by omega)
    obtain ⟨_, hsh⟩ := share_li (m := m) (hL.perm (List.Perm.refl _) (fun c => List.Perm.refl _) (fun c => List.Perm.refl _) (fun c => by rw [hkt])) h4 hkd rfl b16z
    rcases hsh with ⟨hgv, hli⟩ | ⟨hgn, hw, hbc, hli⟩
    · have hgv' : gvw (cat cs m.dst).giv m.line = some (last m.line.toNat) := by rw [hline]; exact hgv
      rw [take_share_g hg.chk hto h4 hgv']
      exact ⟨fun n _ => rfl, .inr (.inr ⟨rfl, rfl⟩)⟩
    · have hgn' : gvw (cat cs m.dst).giv m.line = none := by rw [hline]; exact hgn
      have hw' : wr (stateOf (cat cs m.dst).L m.line) := by rw [hline]; exact hw
      obtain ⟨L', t1, t2⟩ := take_share_w hg.chk hto h4 hgn' hw'
      rw [t1]
      exact ⟨fun n hn => by rw [t2, if_neg hn], .inr (.inl ⟨r, w, a1, a2, a3, a4, by rw [t2, if_pos rfl]; rfl⟩)⟩
  by_cases h6 : m.kind = 6
  · have hkt : ∀ c, kt c m = [] := fun c => kt_no (by omega)
    obtain ⟨r, w, a1, a2, a3, a4⟩ := asker (by omega)
    obtain ⟨_, hnw, hli⟩ := drop_li (m := m) (hL.perm (List.Perm.refl _) (fun c => List.Perm.refl _) (fun c => List.Perm.refl _) (fun c => by rw [hkt])) h6 hkd rfl b16z
    have hnw' : ¬ wr (stateOf (cat cs m.dst).L m.line) := by rw [hline]; exact hnw
    obtain ⟨t1, t2⟩ := take_drop hg.chk hto h6 hnw'
    rw [t1]
    exact ⟨fun n hn => by rw [t2, if_neg hn], .inr (.inl ⟨r, w, a1, a2, a3, a4, by rw [t2, if_pos rfl]; rfl⟩)⟩
  · have h7 : m.kind = 7 := by omega
    have her : er m = [] := by unfold er; rw [if_neg (by omega)]
    rw [her, List.nil_append] at hL
    have hk1 : kt m.dst m = [()] := by unfold kt; rw [if_pos ⟨rfl, h7⟩]
    obtain ⟨hgn, hli⟩ := acked_li hL hrng (l := (wn m.line.toNat rest).flatMap (kt m.dst)) (by show kt m.dst m ++ _ = _; rw [hk1]; rfl)
    have hgn' : gvw (cat cs m.dst).giv m.line ≠ none := by rw [hline]; exact hgn
    obtain ⟨t1, t2⟩ := take_acked hg.chk hto h7 hgn'
    rw [t1]
    exact ⟨fun n hn => by rw [t2, if_neg hn], .inr (.inr ⟨by rw [t2, if_pos rfl]; rfl, by rw [t2, if_pos rfl]; rfl⟩)⟩
def J (cs : List CD) (line c : Int) : Prop :=
  (∀ z : Int, 0 ≤ z → z < cs.length → z ≠ c → (vw cs line z).a = none) ∧ ((vw cs line c).a = some false ∨ ((vw cs line c).a = none ∧ (vw cs line c).s ≠ 0))
theorem J.cache (j : J cs line c) (s : SI cs h way last k) (hp : way.Perm (m :: rest)) (hd : m.dst ≠ 4) : J (cs.set m.dst.toNat (takeF (cat cs m.dst) m).1) line c := by
  obtain ⟨hrng, hk, hln, hL⟩ := s.atl hp hd
  obtain ⟨f1, f2⟩ := s.eff hp hd
  obtain ⟨j1, j2⟩ := j
  unfold J
  rw [List.length_set, vw_set hrng.1 hrng.2]
  by_cases hl : line = m.line
  · subst hl
    rcases f2 with ⟨a, b, e⟩ | ⟨r, w, hr, hne, ha, h6, e⟩ | ⟨e, f⟩
    · have hc : m.dst = c := by
        by_cases h : m.dst = c
        · exact h
        · have := j1 m.dst hrng.1 hrng.2 h
          rw [show (vw cs m.line m.dst).a = avw (cat cs m.dst).ask m.line from rfl, a] at this
          cases this
      subst hc
      refine ⟨fun z z0 z1 hz => by rw [upd_ne hz]; exact j1 z z0 z1 hz, .inr ?_⟩
      rw [upd_same]
      exact ⟨e, b⟩
    · have hc : r = c := by
        by_cases h : r = c
        · exact h
        · rw [j1 r hr.1 hr.2 h] at ha; cases ha
      subst hc
      refine ⟨fun z z0 z1 hz => ?_, by rw [upd_ne (Ne.symm hne)]; exact j2⟩
      by_cases h : z = m.dst
      · subst h
        rw [upd_same, e]
        exact j1 _ z0 z1 hz
      · rw [upd_ne h]; exact j1 z z0 z1 hz
    · have hu : ∀ z, (updC (vw cs m.line) m.dst (cvw (takeF (cat cs m.dst) m).1 m.line) z).a = (vw cs m.line z).a ∧ (updC (vw cs m.line) m.dst (cvw (takeF (cat cs m.dst) m).1 m.line) z).s = (vw cs m.line z).s := fun z => by
        by_cases h : z = m.dst
        · subst h
          rw [upd_same]
          exact ⟨e, f⟩
        · rw [upd_ne h]; exact ⟨rfl, rfl⟩
      refine ⟨fun z z0 z1 hz => by rw [(hu z).1]; exact j1 z z0 z1 hz, ?_⟩
      rw [(hu c).1, (hu c).2]
      exact j2
  · rw [f1 line hl, show cvw (cat cs m.dst) line = vw cs line m.dst from rfl, upd_self]
    exact ⟨j1, j2⟩
theorem SI.quiet (s : SI cs h [] last k) {z : Int} (z0 : 0 ≤ z) (z1 : z < cs.length) (n : Int) : (vw cs n z).a = none ∧ (vw cs n z).g = none := by
  by_cases hn : 0 ≤ n ∧ n < h.E.length
  · have hN : n.toNat < h.E.length := by omega
    have hl := s.li _ hN
    unfold LS at hl
    rw [show ((n.toNat : Nat) : Int) = n by omega] at hl
    have hb := hl.quiet
    have hq := (s.hi.2 _ hN).2.1 hb
    have t := (hl.idle hb).2.2 z z0 z1
    rw [hq] at t
    have ha := t.ask
    unfold Wait at ha
    rw [if_neg (by simp)] at ha
    refine ⟨?_, ?_⟩
    · cases hx : (vw cs n z).a with
      | none => rfl
      | some w => rw [hx] at ha; cases ha
    · rcases t.put with ⟨a, _⟩ | ⟨b, _, ⟨a, _⟩ | ⟨_, a⟩⟩
      · exact a
      · cases a
      · cases a
  · have := s.z z z0 z1 n hn
    exact this.2
theorem ask_none {d : CD} (h : ∀ n, avw d.ask n = none) : d.ask = none := by
  cases ha : d.ask with
  | none => rfl
  | some x =>
    obtain ⟨l, w⟩ := x
    have := h l
    rw [ha] at this
    unfold avw at this
    dsimp only at this
    rw [if_pos rfl] at this
    cases this
theorem giv_none {d : CD} (h : ∀ n, gvw d.giv n = none) : d.giv = none := by
  cases ha : d.giv with
  | none => rfl
  | some x =>
    have := h x.num
    rw [ha] at this
    unfold gvw at this
    dsimp only at this
    rw [if_pos rfl] at this
    cases this
theorem asks {d : CD} (ha : d.ask = none) (hg : d.giv = none) {line : Int} (hl : 0 ≤ line ∧ line < 4294967296) (hs : stateOf d.L line = 0) (pick : Int) : (askF d line hl false pick).1.ask = some (line, false) := by
  unfold askF
  rw [if_neg (by rw [ha, hg]; simp [mine]), if_neg (by rw [hs]; simp)]
  split
  · rfl
  · rename_i x hv
    have : (outF d x).2.2 = true := by
      unfold outF
      split
      · rfl
      · rw [hg]
    rw [if_pos this]
end
theorem dlvA_len (s : RS) (p : Int) : (dlvA s p).cs.length = s.cs.length ∧ (dlvA s p).last = s.last := by
  unfold dlvA
  split
  · exact ⟨rfl, rfl⟩
  split
  · exact ⟨rfl, rfl⟩
  · exact ⟨List.length_set, rfl⟩
theorem dlvN_len : ∀ (i : Nat) (s : RS), (dlvN i s).cs.length = s.cs.length ∧ (dlvN i s).last = s.last
  | 0, s => ⟨rfl, rfl⟩
  | i + 1, s => by
    have h1 := dlvN_len i (dlvA s 0)
    have h2 := dlvA_len s 0
    exact ⟨h1.1.trans h2.1, h1.2.trans h2.2⟩
theorem RI.jd {k : Nat} {s : RS} (r : RI k s) {line c : Int} (j : J s.cs line c) (p : Int) : J (Go.Proofs.Ytflnlmibkbojcaa.dlvA s p).cs line c := by
  unfold Go.Proofs.Ytflnlmibkbojcaa.dlvA
  split
  · exact j
  rename_i hne
  split
  · exact j
  · rename_i hd
    have hp := headM_perm p hne
    obtain ⟨lb, si, hw⟩ := r.si
    have := j.cache si hp hd
    have h0 := (si.atl hp hd).1
    have hc : cat s.cs (Go.Proofs.Ytflnlmibkbojcaa.headM s p).dst = cAt s (Go.Proofs.Ytflnlmibkbojcaa.headM s p).dst.toNat := by unfold cat; rw [if_pos h0.1]; rfl
    rw [hc] at this
    exact this
theorem RI.jN {line c : Int} : ∀ (i : Nat) {s : RS} {k : Nat}, RI k s → J s.cs line c → J (Go.Proofs.Ytflnlmibkbojcaa.dlvN i s).cs line c
  | 0, _, _, _, j => j
  | i + 1, _, _, r, j => RI.jN i (r.dlvA 0) (r.jd j 0)
theorem RI.value {k : Nat} {s : RS} (r : RI k s) {i : Nat} (hi : i < s.cs.length) (a : Ac) (hz : (readF (cAt s i).L (ad a) 4).2 = 0) : readF (cAt s i).L (ad a) 4 = (s.last.getD (wd a) 0, 0) := by
  obtain ⟨lb, si, hw⟩ := r.si
  have h1 := si.read (c := ((i : Nat) : Int)) (by omega) (by omega) (addr := ad a) (by unfold ad; omega) (by rw [cat_nat]; exact hz)
  rw [cat_nat] at h1
  have h2 := hw (wd a) (by unfold wd; omega)
  refine Prod.ext (h1.2.trans ?_) hz
  show _ = s.last.getD (wd a) 0
  rw [← h2]
  congr 2
  · unfold ad wd; congr 1; omega
  · unfold ad wd; omega
theorem RI.turn {k : Nat} {s : RS} (r : RI k s) (hw : s.way = []) (a : Ac) {N : Nat} (hN : 400 ≤ N) :
    RI (k + N) (Go.Proofs.Ytflnlmibkbojcaa.dlvN N (Go.Proofs.Ytflnlmibkbojcaa.readA s a)) ∧ (Go.Proofs.Ytflnlmibkbojcaa.dlvN N (Go.Proofs.Ytflnlmibkbojcaa.readA s a)).way = [] ∧ (Go.Proofs.Ytflnlmibkbojcaa.dlvN N (Go.Proofs.Ytflnlmibkbojcaa.readA s a)).cs.length = s.cs.length ∧
      readF (cAt (Go.Proofs.Ytflnlmibkbojcaa.dlvN N (Go.Proofs.Ytflnlmibkbojcaa.readA s a)) (Go.Proofs.Ytflnlmibkbojcaa.cn s a)).L (ad a) 4 = ((Go.Proofs.Ytflnlmibkbojcaa.dlvN N (Go.Proofs.Ytflnlmibkbojcaa.readA s a)).last.getD (wd a) 0, 0) := by
  have hc := r.cn a
  have r1 := r.readA a
  have r2 := RI.dlvN N r1
  have w2 := RI.calm N r1 (Nat.le_trans r1.bound hN)
  have hl : (Go.Proofs.Ytflnlmibkbojcaa.readA s a).cs.length = s.cs.length := by
    unfold Go.Proofs.Ytflnlmibkbojcaa.readA
    split
    · rfl
    · exact List.length_set
  have l2 := dlvN_len N (Go.Proofs.Ytflnlmibkbojcaa.readA s a)
  have l3 : (Go.Proofs.Ytflnlmibkbojcaa.dlvN N (Go.Proofs.Ytflnlmibkbojcaa.readA s a)).cs.length = s.cs.length := l2.1.trans hl
  refine ⟨r2, w2, l3, ?_⟩
  by_cases hz : (readF (cAt s (Go.Proofs.Ytflnlmibkbojcaa.cn s a)).L (ad a) 4).2 = 0
  · have e : Go.Proofs.Ytflnlmibkbojcaa.readA s a = { s with bad := s.bad || decide ((readF (cAt s (Go.Proofs.Ytflnlmibkbojcaa.cn s a)).L (ad a) 4).1 ≠ s.last.getD (wd a) 0) } := if_pos hz
    have ew : (Go.Proofs.Ytflnlmibkbojcaa.readA s a).way = [] := by rw [e]; exact hw
    rw [dlvN_nil ew] at r2 l3 ⊢
    exact r2.value (by rw [l3]; exact hc) a (by rw [e]; exact hz)
  · refine r2.value (by rw [l3]; exact hc) a ?_
    have e : Go.Proofs.Ytflnlmibkbojcaa.readA s a = Go.Proofs.Ytflnlmibkbojcaa.askA s a false := if_neg hz
    have hs : stateOf (cAt s (Go.Proofs.Ytflnlmibkbojcaa.cn s a)).L (ad a / 16) = 0 := by
      by_cases h : stateOf (cAt s (Go.Proofs.Ytflnlmibkbojcaa.cn s a)).L (ad a / 16) = 0
      · exact h
      · exact absurd (read_ok (right_4 (by unfold ad; omega)) h) hz
    obtain ⟨lb, si, hwd⟩ := r.si
    rw [hw] at si
    have hq := fun n => si.quiet (z := ((Go.Proofs.Ytflnlmibkbojcaa.cn s a : Nat) : Int)) (by omega) (by omega) n
    have hcat : cat s.cs ((Go.Proofs.Ytflnlmibkbojcaa.cn s a : Nat) : Int) = cAt s (Go.Proofs.Ytflnlmibkbojcaa.cn s a) := cat_nat _ _
    have hask : (cAt s (Go.Proofs.Ytflnlmibkbojcaa.cn s a)).ask = none := ask_none fun n => by rw [← hcat]; exact (hq n).1
    have hgiv : (cAt s (Go.Proofs.Ytflnlmibkbojcaa.cn s a)).giv = none := giv_none fun n => by rw [← hcat]; exact (hq n).2
    have j0 : J (Go.Proofs.Ytflnlmibkbojcaa.readA s a).cs (ad a / 16) ((Go.Proofs.Ytflnlmibkbojcaa.cn s a : Nat) : Int) := by
      rw [e]
      unfold J
      show (∀ z : Int, 0 ≤ z → z < ((s.cs.set (Go.Proofs.Ytflnlmibkbojcaa.cn s a) _).length : Int) → _) ∧ _
      rw [List.length_set]
      have hv : vw (Go.Proofs.Ytflnlmibkbojcaa.askA s a false).cs (ad a / 16) = updC (vw s.cs (ad a / 16)) ((Go.Proofs.Ytflnlmibkbojcaa.cn s a : Nat) : Int) (cvw (askF (cAt s (Go.Proofs.Ytflnlmibkbojcaa.cn s a)) (ad a / 16) (ad_line a) false a.pick).1 (ad a / 16)) :=
        vw_set (c := ((Go.Proofs.Ytflnlmibkbojcaa.cn s a : Nat) : Int)) (by omega) (by omega) _
      rw [hv]
      refine ⟨fun z z0 z1 hz => by rw [upd_ne hz]; exact (si.quiet z0 z1 _).1, .inl ?_⟩
      rw [upd_same]
      show avw (askF _ _ _ _ _).1.ask _ = _
      rw [asks hask hgiv (ad_line a) hs]
      exact if_pos rfl
    have j2 := RI.jN N r1 j0
    obtain ⟨lb2, si2, _⟩ := r2.si
    rw [w2] at si2
    have q2 := si2.quiet (z := ((Go.Proofs.Ytflnlmibkbojcaa.cn s a : Nat) : Int)) (by omega) (by rw [l3]; omega) (ad a / 16)
    rcases j2.2 with h | ⟨_, h⟩
    · rw [q2.1] at h; cases h
    · refine read_ok (right_4 (by unfold ad; omega)) ?_
      have h2 : stateOf (cat (Go.Proofs.Ytflnlmibkbojcaa.dlvN N (Go.Proofs.Ytflnlmibkbojcaa.readA s a)).cs ((Go.Proofs.Ytflnlmibkbojcaa.cn s a : Nat) : Int)).L (ad a / 16) ≠ 0 := h
      rwa [cat_nat] at h2
theorem RI.idle {k : Nat} {s : RS} (r : RI k s) (hw : s.way = []) : idleB s.h.E = true := by
  obtain ⟨lb, si, _⟩ := r.si
  rw [hw] at si
  exact si.sv.done.2
def cs0 (many n : Nat) (ways : Int) : List CD := (List.range many).map fun i : Nat => ⟨i, n, ways, [], none, none⟩
theorem cs0_at {many n : Nat} {ways : Int} {i : Nat} (h : i < many) : (cs0 many n ways).getD i cd0 = ⟨i, n, ways, [], none, none⟩ := by
  simp [cs0, List.getD, h]
theorem SI.init {many n : Nat} {ways : Int} (hm : 1 ≤ many ∧ many ≤ 4) (hn : 0 < n ∧ n ≤ 64 ∧ 1 ≤ ways ∧ ways ≤ 8) (bs : List UInt8) : SI (cs0 many n ways) (home0 bs) [] (fun n => lineB bs n) 0 := by
  have hlen : (cs0 many n ways).length = many := by simp [cs0]
  have hat : ∀ c : Int, 0 ≤ c → c < many → cat (cs0 many n ways) c = ⟨c, n, ways, [], none, none⟩ := fun c h0 h1 => by
    have := cat_nat (cs0 many n ways) c.toNat
    rw [cs0_at (by omega), show ((c.toNat : Nat) : Int) = c by omega] at this
    exact this
  have hv : ∀ c : Int, 0 ≤ c → c < many → ∀ n' : Int, vw (cs0 many n ways) n' c = ⟨0, b16z, none, none⟩ := fun c h0 h1 n' => by
    unfold vw
    rw [hat c h0 h1]
    rfl
  have he : ∀ i, entOf (home0 bs).E i = ent0 := fun i => entOf_rep _ _
  refine ⟨by rw [hlen]; exact hm, fun c h0 h1 => ?_, HI.home0 bs, fun m hm => (by cases hm), fun i hi => ?_, fun i hi m hm => ?_, fun c h0 h1 n' _ => ?_⟩
  · rw [hlen] at h1
    rw [hat c h0 h1]
    exact ⟨DOk.new (by omega) hn, rfl⟩
  · unfold LS
    rw [he, hlen]
    refine ⟨⟨[], false, List.Perm.refl _, .idleS rfl (by decide) ⟨rfl, fun c h0 h1 => .inl (by rw [hv c h0 h1])⟩, fun c h0 h1 => ?_⟩, fun c h => (sh0_none h).elim, by show (-1 : Int) < _; omega, fun h => by cases h⟩
    rw [hv c h0 h1]
    exact ⟨rfl, .inl ⟨rfl, rfl, rfl⟩, fun h => absurd rfl h, fun w h => .inl rfl, .inl rfl⟩
  · rw [he] at hm; cases hm
  · rw [hlen] at h1
    have := hv c h0 h1 n'
    unfold vw at this
    rw [this]
    exact ⟨rfl, rfl, rfl⟩
end Go.Proofs.Ytflnlmibkbojcaa
namespace Go.Proofs.Ytflnlmibkbojcaa
open Go.RowKit
def ptrE : Enc Try.prog Nat where
  T := 25
  n := 1
  cells := fun b => [.pointer (some ⟨b, 0, none⟩)]
  len := fun _ => rfl
  one := fun b v hv => by simp at hv; subst hv; rfl
  pos := by decide
theorem elPtr : ElemI ptrE 94 8 := ⟨Try.underlying94, by
  obtain ⟨i0, hi, hz0, hz1, hz2⟩ := info_parts (show (Try.prog.info? 25).map (fun i => (i.zero, i.size, i.bytes)) = some (some (.pointer none), 1, 8) by kernel_rfl)
  exact ⟨i0, _, hi, hz0, hz1, hz2, rfl⟩⟩
def Ac.cells (m : Ac) : List Value := [.int .i64 m.kind, .int .i64 m.cache, .int .i64 m.pick, .int .u32 m.addr, .int .u32 m.val]
def acE : Enc Try.prog Ac where
  T := 100
  n := 5
  cells := Ac.cells
  len := fun _ => rfl
  one := fun m v hv => by
    simp only [Ac.cells, List.mem_cons, List.not_mem_nil, or_false] at hv
    rcases hv with rfl | rfl | rfl | rfl | rfl <;> rfl
  pos := by decide
def ac0 : Ac := ⟨0, 0, 0, 0, 0, by decide, by decide⟩
def ac3 : Ac := ⟨3, 0, 0, 0, 0, by decide, by decide⟩
def acW (w : Nat) (h : w < 16 := by omega) : Ac := ⟨0, w, 0, w, 0, by omega, by decide⟩
def runA (A : Option Addr) (n cap : Nat) (bh : Nat) (W : Option Addr) (m wc : Nat) (last : List Int) (bad : Bool) : Array Value :=
  (Value.slice A n cap :: .pointer (some ⟨bh, 0, none⟩) :: .slice W m wc :: (last.map (Value.int .u32) ++ [.bool bad])).toArray
section
variable {A W : Option Addr} {n cap bh m wc : Nat} {last : List Int} {bad : Bool}
theorem run_size : (runA A n cap bh W m wc last bad).size = last.length + 4 := by simp [runA]
theorem run_last {j : Nat} (h : j < last.length) : (runA A n cap bh W m wc last bad)[3 + j]? = some (.int .u32 (last.getD j 0)) := by
  rw [show 3 + j = j + 1 + 1 + 1 by omega]
  simp [runA, List.getD, List.getElem?_append, h]
theorem run_bad (h : last.length = 16) : (runA A n cap bh W m wc last bad)[19]? = some (.bool bad) := by
  simp [runA, List.getElem?_append, h]
theorem run_setC {A' : Option Addr} {n' cap' : Nat} : (runA A n cap bh W m wc last bad).setIfInBounds 0 (.slice A' n' cap') = runA A' n' cap' bh W m wc last bad := by
  simp [runA]
theorem run_setW {W' : Option Addr} {m' wc' : Nat} : (runA A n cap bh W m wc last bad).setIfInBounds 2 (.slice W' m' wc') = runA A n cap bh W' m' wc' last bad := by
  simp [runA]
theorem run_setL {j : Nat} {v : Int} (h : j < last.length) : (runA A n cap bh W m wc last bad).setIfInBounds (3 + j) (.int .u32 v) = runA A n cap bh W m wc (last.set j v) bad := by
  rw [show 3 + j = j + 1 + 1 + 1 by omega]
  simp only [runA, List.setIfInBounds_toArray, List.set_cons_succ]
  rw [List.set_append_left _ _ (by simpa using h), List.map_set]
theorem run_setB {b' : Bool} (h : last.length = 16) : (runA A n cap bh W m wc last bad).setIfInBounds 19 (.bool b') = runA A n cap bh W m wc last b' := by
  simp only [runA, List.setIfInBounds_toArray]
  rw [show 19 = 16 + 1 + 1 + 1 from rfl]
  simp only [List.set_cons_succ]
  rw [List.set_append_right _ _ (by simp [h])]
  simp [h]
end
structure CachesAt (w : World) (Fp : Nat → Prop) (ps : List Nat) (cs : List CD) : Prop where
  len : ps.length = cs.length
  ex : ∃ F : Nat → Nat → Prop, (∀ i, i < cs.length → CacAt w (F i) (ps.getD i 0) (cs.getD i cd0)) ∧ (∀ i j, i < cs.length → j < cs.length → i ≠ j → ∀ k, F i k → F j k → False) ∧ ∀ k, Fp k ↔ ∃ i, i < cs.length ∧ F i k
section
variable {w w' : World} {Fp S : Nat → Prop} {ps : List Nat} {cs : List CD} {d : CD}
theorem CachesAt.only (h : CachesAt w Fp ps cs) (k : Only S w w') (hs : ∀ g, Fp g → ¬ S g) : CachesAt w' Fp ps cs := by
  obtain ⟨h0, F, h1, h2, h3⟩ := h
  exact ⟨h0, F, fun i hi => (h1 i hi).only k fun g hg => hs g ((h3 g).2 ⟨i, hi, hg⟩), h2, h3⟩
theorem CachesAt.new (h : CachesAt w Fp ps cs) (k : New w w') : CachesAt w' Fp ps cs := h.only k fun _ _ => id
theorem CachesAt.lt (h : CachesAt w Fp ps cs) {g : Nat} (hg : Fp g) : g < w.heap.size := by
  obtain ⟨h0, F, h1, h2, h3⟩ := h
  obtain ⟨i, hi, hg⟩ := (h3 g).1 hg
  exact (h1 i hi).lt hg
theorem CachesAt.apart (h : CachesAt w Fp ps cs) {c : Nat} (hc : w.heap.size ≤ c) : ¬ Fp c := fun hi => by have := h.lt hi; omega
theorem CachesAt.none (w : World) : CachesAt w (fun _ => False) [] [] := ⟨rfl, fun _ _ => False, fun i hi => absurd hi (Nat.not_lt_zero i), fun i j hi => absurd hi (Nat.not_lt_zero i), fun k => ⟨fun h => h.elim, fun ⟨i, hi, _⟩ => absurd hi (Nat.not_lt_zero i)⟩⟩
theorem get_snoc {α : Type} (l : List α) (x d : α) : (l ++ [x]).getD l.length d = x := by simp [List.getD]
theorem get_snoc' {α : Type} (l : List α) (x d : α) {i : Nat} (h : i < l.length) : (l ++ [x]).getD i d = l.getD i d := by simp [List.getD, List.getElem?_append, h]
theorem CachesAt.snoc {Fq : Nat → Prop} {b : Nat} (h : CachesAt w Fp ps cs) (hd : CacAt w Fq b d) (ha : ∀ k, Fp k → Fq k → False) : CachesAt w (fun g => Fp g ∨ Fq g) (ps ++ [b]) (cs ++ [d]) := by
  obtain ⟨h0, F, h1, h2, h3⟩ := h
  refine ⟨by simp [h0], fun i => if i < cs.length then F i else Fq, fun i hi => ?_, fun i j hi hj hne k => ?_, fun k => ⟨fun hk => ?_, fun ⟨i, hi, hk⟩ => ?_⟩⟩
  · by_cases hl : i < cs.length
    · simp only [if_pos hl]
      rw [get_snoc' _ _ _ hl, get_snoc' _ _ _ (by omega)]
      exact h1 i hl
    · simp only [if_neg hl]
      rw [List.length_append, List.length_singleton] at hi
      obtain rfl : i = cs.length := by omega
      rw [get_snoc, ← h0, get_snoc]
      exact hd
  · rw [List.length_append, List.length_singleton] at hi hj
    by_cases hi' : i < cs.length
    · by_cases hj' : j < cs.length
      · simp only [if_pos hi', if_pos hj']; exact h2 i j hi' hj' hne k
      · simp only [if_pos hi', if_neg hj']; exact fun a b => ha k ((h3 k).2 ⟨i, hi', a⟩) b
    · by_cases hj' : j < cs.length
      · simp only [if_neg hi', if_pos hj']; exact fun a b => ha k ((h3 k).2 ⟨j, hj', b⟩) a
      · omega
  · rcases hk with hk | hk
    · obtain ⟨i, hi, hk⟩ := (h3 k).1 hk
      exact ⟨i, by rw [List.length_append]; omega, by simp only [if_pos hi]; exact hk⟩
    · exact ⟨cs.length, by simp, by simp only [Nat.lt_irrefl, if_false]; exact hk⟩
  · by_cases hl : i < cs.length
    · simp only [if_pos hl] at hk; exact .inl ((h3 k).2 ⟨i, hl, hk⟩)
    · simp only [if_neg hl] at hk; exact .inr hk
theorem CachesAt.move {i : Nat} (h : CachesAt w Fp ps cs) (hi : i < cs.length) : ∃ Fi, CacAt w Fi (ps.getD i 0) (cs.getD i cd0) ∧ (∀ g, Fi g → Fp g) ∧
    ∀ {w' d' Fi'}, CacAt w' Fi' (ps.getD i 0) d' → Only Fi w w' → (∀ g, Fi' g → Fi g ∨ w.heap.size ≤ g) → ∃ Fp', CachesAt w' Fp' ps (cs.set i d') ∧ Only Fp w w' ∧ (∀ g, Fp' g → Fp g ∨ w.heap.size ≤ g) ∧ ∀ g, Fp' g → (Fp g ∧ ¬ Fi g) ∨ Fi' g := by
  obtain ⟨h0, F, h1, h2, h3⟩ := h
  refine ⟨F i, h1 i hi, fun g hg => (h3 g).2 ⟨i, hi, hg⟩, fun {w' d' Fi'} hc hO hF => ?_⟩
  refine ⟨fun g => ∃ j, j < cs.length ∧ (if j = i then Fi' g else F j g), ⟨by rw [List.length_set]; exact h0, fun j => if j = i then Fi' else F j, fun j hj => ?_, fun j j' hj hj' hne k => ?_, fun k => ?_⟩, hO.mono fun g _ hg => (h3 g).2 ⟨i, hi, hg⟩, fun g ⟨j, hj, hg⟩ => ?_, fun g ⟨j, hj, hg⟩ => ?_⟩
  · rw [List.length_set] at hj
    by_cases e : j = i
    · subst e
      simp only [if_true]
      rw [show (cs.set j d').getD j cd0 = d' by simp [List.getD, hj]]
      exact hc
    · simp only [if_neg e]
      rw [show (cs.set i d').getD j cd0 = cs.getD j cd0 by simp [List.getD, List.getElem?_set, Ne.symm e]]
      exact (h1 j hj).only hO fun g a b => h2 j i hj hi e g a b
  · rw [List.length_set] at hj hj'
    have key : ∀ q, q < cs.length → q ≠ i → Fi' k → F q k → False := fun q hq hqi a b => by
      rcases hF k a with h | h
      · exact h2 i q hi hq (Ne.symm hqi) k h b
      · have := (h1 q hq).lt b; omega
    by_cases e : j = i
    · have e' : j' ≠ i := fun e' => hne (e.trans e'.symm)
      simp only [if_pos e, if_neg e']
      exact key j' hj' e'
    · by_cases e' : j' = i
      · simp only [if_neg e, if_pos e']; exact fun a b => key j hj e b a
      · simp only [if_neg e, if_neg e']; exact h2 j j' hj hj' hne k
  · rw [List.length_set]
    refine exists_congr fun j => and_congr_right fun _ => ?_
    by_cases e : j = i
    · simp only [if_pos e]
    · simp only [if_neg e]
  · split at hg
    · rcases hF g hg with h | h
      · exact .inl ((h3 g).2 ⟨i, hi, h⟩)
      · exact .inr h
    · exact .inl ((h3 g).2 ⟨j, hj, hg⟩)
  · split at hg
    · exact .inr hg
    · rename_i e
      exact .inl ⟨(h3 g).2 ⟨j, hj, hg⟩, fun h => h2 j i hj hi e g hg h⟩
def TakeCs (w : World) (Fp : Nat → Prop) (ps : List Nat) (cs : List CD) (i : Nat) (r : CD × List Msg × Int) (v : Value) (w' : World) : Prop :=
  ∃ A' cap', v = .tuple #[.slice A' r.2.1.length cap', .int .i64 r.2.2] ∧ Own msgE w' A' cap' r.2.1 ∧ (∀ g, inA A' g → w.heap.size ≤ g) ∧ ∃ Fp', CachesAt w' Fp' ps (cs.set i r.1) ∧ Only Fp w w' ∧ (∀ g, Fp' g → Fp g ∨ w.heap.size ≤ g) ∧ ∀ g, Fp' g → inA A' g → False
theorem CachesAt.msg_ap {Fp : Nat → Prop} (h : CachesAt w Fp ps cs) {A : Option Addr} {cap : Nat} {l : List Msg} (hO : Own msgE w A cap l) : ∀ k, Fp k → inA A k → False := fun k h1 h2 => by
  obtain ⟨h0, F, a, b, c⟩ := h
  obtain ⟨i, hi, hk⟩ := (c k).1 h1
  exact (a i hi).msg_ap hO k hk h2
theorem cs_ask (H : CachesAt w Fp ps cs) {i : Nat} (hi : i < cs.length) (line : Int) (hln : 0 ≤ line ∧ line < 4294967296) (wr : Bool) (pick : Int) : Calls Try.prog 13 #[.pointer (some ⟨ps.getD i 0, 0, none⟩), .int .u32 line, .bool wr, .int .i64 pick] w (Ret fun v w' => TakeCs w Fp ps cs i (askF (cs.getD i cd0) line hln wr pick) v w') := by
  obtain ⟨Fi, h1, h2, h3⟩ := H.move hi
  refine (u_ask h1 line hln wr pick).mono ?_
  rintro e w' ⟨v, rfl, A', cap', a1, a2, a3, Fi', a4, a5, a6⟩
  obtain ⟨Fp', b1, b2, b3, _⟩ := h3 a4 a5 a6
  exact ⟨_, rfl, A', cap', a1, a2, a3, Fp', b1, b2, b3, b1.msg_ap a2⟩
theorem cs_take (H : CachesAt w Fp ps cs) {i : Nat} (hi : i < cs.length) (m : Msg) : Calls Try.prog 14 #[.pointer (some ⟨ps.getD i 0, 0, none⟩), .agg (msgE.arr m)] w (Ret fun v w' => TakeCs w Fp ps cs i (takeF (cs.getD i cd0) m) v w') := by
  obtain ⟨Fi, h1, h2, h3⟩ := H.move hi
  refine (u_take h1 m).mono ?_
  rintro e w' ⟨v, rfl, A', cap', a1, a2, a3, Fi', a4, a5, a6⟩
  obtain ⟨Fp', b1, b2, b3, _⟩ := h3 a4 a5 a6
  exact ⟨_, rfl, A', cap', a1, a2, a3, Fp', b1, b2, b3, b1.msg_ap a2⟩
def EvictCs (w : World) (Fp : Nat → Prop) (ps : List Nat) (cs : List CD) (i : Nat) (r : CD × List Msg) (v : Value) (w' : World) : Prop :=
  ∃ A' cap', v = .slice A' r.2.length cap' ∧ Own msgE w' A' cap' r.2 ∧ (∀ g, inA A' g → w.heap.size ≤ g) ∧ ∃ Fp', CachesAt w' Fp' ps (cs.set i r.1) ∧ Only Fp w w' ∧ (∀ g, Fp' g → Fp g ∨ w.heap.size ≤ g) ∧ ∀ g, Fp' g → inA A' g → False
theorem cs_evict (H : CachesAt w Fp ps cs) {i : Nat} (hi : i < cs.length) (pick : Int) : Calls Try.prog 25 #[.pointer (some ⟨ps.getD i 0, 0, none⟩), .int .i64 pick] w (Ret fun v w' => EvictCs w Fp ps cs i (evictF (cs.getD i cd0) pick) v w') := by
  obtain ⟨Fi, h1, h2, h3⟩ := H.move hi
  refine (u_evict h1 pick).mono ?_
  rintro e w' ⟨v, rfl, A', cap', a1, a2, a3, Fi', a4, a5, a6⟩
  obtain ⟨Fp', b1, b2, b3, _⟩ := h3 a4 a5 a6
  exact ⟨_, rfl, A', cap', a1, a2, a3, Fp', b1, b2, b3, b1.msg_ap a2⟩
def WriteCs (w : World) (Fp : Nat → Prop) (ps : List Nat) (cs : List CD) (i : Nat) (r : CD × Int) (v : Value) (w' : World) : Prop :=
  v = .int .i64 r.2 ∧ ∃ Fp', CachesAt w' Fp' ps (cs.set i r.1) ∧ Only Fp w w' ∧ ∀ g, Fp' g → Fp g ∨ w.heap.size ≤ g
theorem cs_write (H : CachesAt w Fp ps cs) {i : Nat} (hi : i < cs.length) (addr : Int) (ha : 0 ≤ addr ∧ addr < 4294967296) (width value : Int) : Calls Try.prog 15 #[.pointer (some ⟨ps.getD i 0, 0, none⟩), .int .u32 addr, .int .i64 width, .int .u32 value] w (Ret fun v w' => WriteCs w Fp ps cs i (writeF (cs.getD i cd0) addr width value) v w') := by
  obtain ⟨Fi, h1, h2, h3⟩ := H.move hi
  refine (u_write h1 addr ha width value).mono ?_
  rintro e w' ⟨v, rfl, a1, Fi', a4, a5, a6⟩
  obtain ⟨Fp', b1, b2, b3, _⟩ := h3 a4 a5 a6
  exact ⟨_, rfl, a1, Fp', b1, b2, b3⟩
theorem cs_read (H : CachesAt w Fp ps cs) {i : Nat} (hi : i < cs.length) (addr : Int) (ha : 0 ≤ addr ∧ addr < 4294967296) (width : Int) : Calls Try.prog 17 #[.pointer (some ⟨ps.getD i 0, 0, none⟩), .int .u32 addr, .int .i64 width] w (Ret fun v w' => v = .tuple #[.int .u32 (readF (cs.getD i cd0).L addr width).1, .int .i64 (readF (cs.getD i cd0).L addr width).2] ∧ New w w') := by
  obtain ⟨Fi, h1, h2, h3⟩ := H.move hi
  exact u_read h1 addr ha width
theorem cs_state (H : CachesAt w Fp ps cs) {i : Nat} (hi : i < cs.length) (line : Int) (hln : 0 ≤ line ∧ line < 4294967296) : Calls Try.prog 34 #[.pointer (some ⟨ps.getD i 0, 0, none⟩), .int .u32 line] w (Ret fun v w' => v = .int .i64 (stateOf (cs.getD i cd0).L line) ∧ New w w') := by
  obtain ⟨Fi, h1, h2, h3⟩ := H.move hi
  exact u_state h1 line hln
end
structure RunSep (Fp : Nat → Prop) (b : Nat) (A W : Option Addr) (FpC FpH : Nat → Prop) : Prop where
  ab : Apart A b
  wb : Apart W b
  cb : ¬ FpC b
  hb : ¬ FpH b
  aw : Apart2 A W
  ac : ∀ k, inA A k → FpC k → False
  ah : ∀ k, inA A k → FpH k → False
  wc : ∀ k, inA W k → FpC k → False
  wh : ∀ k, inA W k → FpH k → False
  ch : ∀ k, FpC k → FpH k → False
  foot : ∀ g, Fp g ↔ g = b ∨ inA A g ∨ inA W g ∨ FpC g ∨ FpH g
def RunAt (w : World) (Fp : Nat → Prop) (b bh : Nat) (s : RS) : Prop :=
  ∃ A cap ps W wc FpC FpH, Blk w b 97 (runA A ps.length cap bh W s.way.length wc s.last s.bad) ∧ Own ptrE w A cap ps ∧ CachesAt w FpC ps s.cs ∧ HomeAt w FpH bh s.h ∧ Own msgE w W wc s.way ∧ RunSep Fp b A W FpC FpH
section
variable {w w' : World} {Fp S : Nat → Prop} {b bh : Nat} {s : RS}
theorem RunAt.only (h : RunAt w Fp b bh s) (k : Only S w w') (hs : ∀ g, Fp g → ¬ S g) : RunAt w' Fp b bh s := by
  obtain ⟨A, cap, ps, W, wc, FpC, FpH, h1, h2, h3, h4, h5, h6⟩ := h
  exact ⟨A, cap, ps, W, wc, FpC, FpH, h1.only k (hs _ ((h6.foot _).2 (.inl rfl))), h2.only k fun g hg => hs g ((h6.foot g).2 (.inr (.inl hg))), h3.only k fun g hg => hs g ((h6.foot g).2 (.inr (.inr (.inr (.inl hg))))), h4.only k fun g hg => hs g ((h6.foot g).2 (.inr (.inr (.inr (.inr hg))))), h5.only k fun g hg => hs g ((h6.foot g).2 (.inr (.inr (.inl hg)))), h6⟩
theorem RunAt.new (h : RunAt w Fp b bh s) (k : New w w') : RunAt w' Fp b bh s := h.only k fun _ _ => id
theorem RunAt.lt (h : RunAt w Fp b bh s) {g : Nat} (hg : Fp g) : g < w.heap.size := by
  obtain ⟨A, cap, ps, W, wc, FpC, FpH, h1, h2, h3, h4, h5, h6⟩ := h
  rcases (h6.foot g).1 hg with rfl | hg | hg | hg | hg
  · exact h1.lt
  · exact h2.lt hg
  · exact h5.lt hg
  · exact h3.lt hg
  · exact h4.lt hg
theorem RunAt.apart (h : RunAt w Fp b bh s) {c : Nat} (hc : w.heap.size ≤ c) : ¬ Fp c := fun hi => by have := h.lt hi; omega
end
theorem wd_lt (a : Ac) : wd a < 16 := by unfold wd; have := a.ha; omega
theorem ad_bd (a : Ac) : 0 ≤ ad a ∧ ad a < 64 := by unfold ad; have := a.ha; omega
theorem ad_bd' (a : Ac) : 0 ≤ ad a ∧ ad a < 4294967296 := by have := ad_bd a; omega
theorem wd_eq (a : Ac) : ((wd a : Nat) : Int) = a.addr % 16 := by unfold wd; have := a.ha; omega
theorem wd_rem (a : Ac) : Int.tmod a.addr 16 = ((wd a : Nat) : Int) := by rw [wd_eq, Int.tmod_eq_emod_of_nonneg a.ha.1]
theorem ad_eq (a : Ac) : ((4 * wd a : Nat) : Int) = ad a := by have := wd_eq a; unfold ad; omega
theorem ad_quo (a : Ac) : Int.tdiv (ad a) 16 = ad a / 16 := Int.tdiv_eq_ediv_of_nonneg (ad_bd a).1
theorem run_few {k : Nat} {s : RS} (r : RI k s) : s.way.length ≤ 400 := by
  have hb := r.bound
  obtain ⟨lb, si, _⟩ := r.si
  have hM : (s.cs.length : Int) ≤ 4 := by have := si.len; omega
  have h1 : ∀ l : List Msg, (∀ m ∈ l, 1 ≤ cost m) → l.length ≤ sumF cost l := fun l => by
    induction l with
    | nil => intro _; exact Nat.zero_le _
    | cons m t ih =>
      intro h
      rw [sumF_cons, List.length_cons]
      have := h m (List.mem_cons_self ..)
      have := ih fun x hx => h x (List.mem_cons_of_mem _ hx)
      omega
  have h2 := h1 s.way fun m hm => ((si.good m hm).good hM).cost
  unfold phiF at hb
  omega
theorem run_cs_len {k : Nat} {s : RS} (r : RI k s) : 1 ≤ s.cs.length ∧ s.cs.length ≤ 4 := by
  obtain ⟨lb, si, _⟩ := r.si
  exact si.len
theorem run_hok {k : Nat} {s : RS} (r : RI k s) (hk : k ≤ 100000) : HOk s.h := by
  obtain ⟨lb, si, _⟩ := r.si
  exact si.hi.ok hk
theorem run_hit {k : Nat} {s : RS} (r : RI k s) (a : Ac) (hz : (readF (cAt s (cn s a)).L (ad a) 4).2 = 0) : (readF (cAt s (cn s a)).L (ad a) 4).1 = s.last.getD (wd a) 0 ∧ readA s a = s := by
  have h := r.readA a
  have hb := h.bad
  unfold readA at hb ⊢
  rw [if_pos hz] at hb ⊢
  have hb' : (s.bad || decide ((readF (cAt s (cn s a)).L (ad a) 4).1 ≠ s.last.getD (wd a) 0)) = false := hb
  rw [r.bad, Bool.false_or] at hb'
  refine ⟨Classical.not_not.1 (of_decide_eq_false hb'), ?_⟩
  rw [hb', r.bad]
  obtain ⟨cs, h, way, last, bad⟩ := s
  obtain rfl : bad = false := r.bad
  rfl
theorem run_atH {k : Nat} {s : RS} (r : RI k s) (p : Int) (hne : s.way ≠ []) (hd : (headM s p).dst = 4) : (takeH s.h (headM s p)).2.2 = 0 ∧ dlvA s p = ⟨s.cs, (takeH s.h (headM s p)).1, restM s p ++ (takeH s.h (headM s p)).2.1, s.last, false⟩ := by
  have h := (r.dlvA p).bad
  unfold dlvA at h ⊢
  rw [if_neg hne, if_pos hd] at h ⊢
  unfold dlvH at h ⊢
  have h' : (s.bad || decide ((takeH s.h (headM s p)).2.2 ≠ 0)) = false := h
  rw [r.bad, Bool.false_or] at h'
  refine ⟨Classical.not_not.1 (of_decide_eq_false h'), ?_⟩
  rw [r.bad, h']
  rfl
theorem run_atC {k : Nat} {s : RS} (r : RI k s) (p : Int) (hne : s.way ≠ []) (hd : (headM s p).dst ≠ 4) :
    ∃ j : Nat, (headM s p).dst = ((j : Nat) : Int) ∧ j < s.cs.length ∧ (takeF (cAt s j) (headM s p)).2.2 = 0 ∧ dlvA s p = ⟨s.cs.set j (takeF (cAt s j) (headM s p)).1, s.h, restM s p ++ (takeF (cAt s j) (headM s p)).2.1, s.last, false⟩ := by
  have h := (r.dlvA p).bad
  obtain ⟨lb, si, hw⟩ := r.si
  have h0 := (si.atl (headM_perm p hne) hd).1
  obtain ⟨j, hj⟩ : ∃ j : Nat, (headM s p).dst = ((j : Nat) : Int) := ⟨(headM s p).dst.toNat, by omega⟩
  have hj' : (headM s p).dst.toNat = j := by omega
  unfold dlvA at h ⊢
  rw [if_neg hne, if_neg hd] at h ⊢
  unfold dlvC at h ⊢
  rw [hj'] at h ⊢
  have h' : (s.bad || decide ((takeF (cAt s j) (headM s p)).2.2 ≠ 0)) = false := h
  rw [r.bad, Bool.false_or] at h'
  refine ⟨j, hj, by omega, Classical.not_not.1 (of_decide_eq_false h'), ?_⟩
  rw [r.bad, h']
  rfl
theorem set_own {α : Type} (l : List α) (i : Nat) (d : α) : l.set i (l.getD i d) = l := by
  induction l generalizing i with
  | nil => rfl
  | cons x r ih =>
    cases i with
    | zero => rfl
    | succ i =>
      rw [List.set_cons_succ, show (x :: r).getD (i + 1) d = r.getD i d from rfl, ih]
theorem write_fail {d : CD} {addr width value : Int} (h : (writeF d addr width value).2 ≠ 0) : (writeF d addr width value).1 = d := by
  revert h
  unfold writeF
  repeat' split
  all_goals first | exact fun _ => rfl | exact fun h => absurd rfl h
theorem act_no {s : RS} {a : Ac} (h0 : a.kind ≠ 0) (h1 : a.kind ≠ 1) (h2 : a.kind ≠ 2) (h3 : a.kind ≠ 3) : actF s a = s := by
  unfold actF
  rw [if_neg h0, if_neg h1, if_neg h2, if_neg h3]
theorem act_0 {s : RS} {a : Ac} (h : a.kind = 0) : actF s a = readA s a := if_pos h
theorem act_1 {s : RS} {a : Ac} (h : a.kind = 1) : actF s a = writeA s a := by
  unfold actF
  rw [if_neg (by omega), if_pos h]
theorem act_2 {s : RS} {a : Ac} (h : a.kind = 2) : actF s a = evictA s a := by
  unfold actF
  rw [if_neg (by omega), if_neg (by omega), if_pos h]
theorem act_3 {s : RS} {a : Ac} (h : a.kind = 3) : actF s a = dlvA s a.pick := by
  unfold actF
  rw [if_neg (by omega), if_neg (by omega), if_neg (by omega), if_pos h]
end Go.Proofs.Ytflnlmibkbojcaa
