/-
  Part 7 of what the claim stands on: walks through the code, plain laws.
-/
import Derived.Test.YtdiaemlgghfecaaZQueues6
namespace Go.Proofs.Ytdiaemlgghfecaa
open Go.RowKit
structure Sv (T asked turns : Nat) (h : HD) (way : List Msg) (told : Nat) : Prop where
  hi : HI turns h
  good : ∀ m ∈ way, Good h.E.length m
  exp : ∀ n, n < h.E.length → Exp (entOf h.E n) (rolesOf n way)
  phi : turns + (sumF cost way + sumF ecost h.E) ≤ T
  ask : told + (sumF pend way + sumF epend h.E) = asked
theorem p11 : 11 ≤ (11 : Int) ∧ (11 : Int) ≤ 13 := by decide
theorem p12 : 11 ≤ (12 : Int) ∧ (12 : Int) ≤ 13 := by decide
theorem p13 : 11 ≤ (13 : Int) ∧ (13 : Int) ≤ 13 := by decide
theorem Good.cost {N : Nat} {m : Msg} (h : Good N m) : 1 ≤ Go.Proofs.Ytdiaemlgghfecaa.cost m := by
  unfold Go.Proofs.Ytdiaemlgghfecaa.cost
  rcases h.what with ⟨a, _⟩ | ⟨a, _⟩ | ⟨a, _⟩
  all_goals (repeat' split) <;> omega
theorem rl_same {m : Msg} {n : Int} (h : m.line = n) : rl n m = role m := if_pos h
theorem rl_other {m : Msg} {n : Int} (h : ¬ m.line = n) : rl n m = [] := if_neg h
theorem roles_other {n : Int} {k : Int} {out : List Msg} (h : ∀ m ∈ out, m.line = k) (hne : ¬ k = n) : rolesOf n out = [] := by
  induction out with
  | nil => rfl
  | cons m r ih =>
    rw [roles_cons, rl_other (by rw [h m (List.mem_cons_self ..)]; exact hne), ih fun x hx => h x (List.mem_cons_of_mem _ hx)]
    rfl
theorem Good.chk {N : Nat} {m : Msg} (h : Good N m) (hd : m.dst = 4) : Go.Proofs.Ytdiaemlgghfecaa.chk m = 0 ∧ (0 ≤ m.src ∧ m.src < 4) ∧ ((1 ≤ m.kind ∧ m.kind ≤ 3) ∨ (11 ≤ m.kind ∧ m.kind ≤ 13)) := by
  rcases h.what with ⟨a, _, c, e⟩ | ⟨_, b⟩ | ⟨a, _, c, e⟩
  · refine ⟨?_, c, .inl a⟩
    have hs : isCache m.src = true := by unfold isCache; simp; omega
    have hh : homeK m.kind = true := by unfold homeK; simp; omega
    have hb : bytesK m.kind = true ∨ m.bs = b16z := e.imp (fun h => by unfold bytesK; simp [h]) id
    unfold Go.Proofs.Ytdiaemlgghfecaa.chk goodMsg
    rcases hb with hb | hb <;> simp [hd, hs, hh, hb, bs0]
  · omega
  · refine ⟨?_, c, .inr a⟩
    have hs : isCache m.src = true := by unfold isCache; simp; omega
    have hh : homeK m.kind = true := by unfold homeK; simp; omega
    have hb : bytesK m.kind = true ∨ m.bs = b16z := e.imp (fun h => by unfold bytesK; simp [h]) id
    unfold Go.Proofs.Ytdiaemlgghfecaa.chk goodMsg
    rcases hb with hb | hb <;> simp [hd, hs, hh, hb, bs0]
theorem take_zero {h : HD} {m : Msg} (h0 : chk m = 0) (h1 : m.dst = 4) (h2 : m.line.toNat < h.E.length) (h3 : 3 < m.kind → strayF (entOf h.E m.line.toNat) m = false) : (takeH h m).2.2 = 0 := by
  have hmn := m.hn
  unfold takeH
  rw [if_neg (by simp [h0, h1]), if_neg (by omega)]
  dsimp only
  by_cases hk : m.kind ≤ 3
  · rw [if_pos hk]
    split <;> rfl
  · rw [if_neg hk, show h.E.getD m.line.toNat ent0 = entOf h.E m.line.toNat from rfl, h3 (by omega), if_neg (by decide)]
theorem role_req {m : Msg} (h : 1 ≤ m.kind ∧ m.kind ≤ 3) : role m = [] := by
  unfold role
  (repeat' rw [if_neg (by omega)])
theorem cost_req {m : Msg} (h : 1 ≤ m.kind ∧ m.kind ≤ 3) : cost m = qcost m + 1 ∧ pend m = 1 := by
  unfold cost pend qcost
  constructor
  · by_cases h3 : m.kind = 3
    · rw [if_neg (by omega), if_pos h3, if_pos h3]
    · rw [if_pos (by omega), if_neg h3]
  · rw [if_pos (by omega)]
theorem cost_ans {m : Msg} (h : 11 ≤ m.kind ∧ m.kind ≤ 13) : cost m = 1 ∧ pend m = 0 := by
  unfold cost pend
  constructor
  · rw [if_neg (by omega), if_neg (by omega), if_neg (by omega), if_pos (by omega)]
  · rw [if_neg (by omega)]
theorem Sv.take {T asked turns : Nat} {h : HD} {way rest : List Msg} {told : Nat} {m : Msg} (s : Sv T asked turns h way told) (hp : way.Perm (m :: rest)) (hd : m.dst = 4) :
    (takeH h m).2.2 = 0 ∧ Sv T asked (turns + 1) (takeH h m).1 (rest ++ (takeH h m).2.1) told := by
  have hg := s.good m (hp.symm.subset (List.mem_cons_self ..))
  obtain ⟨hc, hsrc, hk⟩ := hg.chk hd
  have hln := hg.line
  have hmn := m.hn
  have hline : m.line = ((m.line.toNat : Nat) : Int) := by omega
  have hrest : ∀ x ∈ rest, Good h.E.length x := fun x hx => s.good x (hp.symm.subset (List.mem_cons_of_mem _ hx))
  obtain ⟨e1, e2, e3⟩ := s.hi.2 _ hln
  have hexp := (s.exp _ hln).perm (roles_perm _ hp)
  rw [roles_cons, rl_same hline] at hexp
  have hcost := sumF_perm cost hp
  have hpend := sumF_perm pend hp
  rw [sumF_cons] at hcost hpend
  have hphi := s.phi
  have hask := s.ask
  have hz : (takeH h m).2.2 = 0 := by
    refine take_zero hc hd hln fun h3 => ?_
    exact (other_step (N := h.E.length) (bs := h.bs) e1 (by omega) hline (by omega) hexp).1
  refine ⟨hz, ?_⟩
  have hI := s.hi.take m
  rcases take_cases h m with ⟨e, he, hne⟩ | ⟨_, _, _, _, _, x, hx, hcs⟩
  · rw [he] at hz; exact absurd hz hne
  · rw [hx] at hI ⊢
    have hE : (h.E.set m.line.toNat x.1).length = h.E.length := List.length_set
    -- what all three have in common
    have fin : Sent h.E.length (m.line.toNat : Int) x.1 x.2.2 (rolesOf (m.line.toNat : Int) rest) (cost m - 1 + ecost (entOf h.E m.line.toNat)) (pend m + epend (entOf h.E m.line.toNat)) → 1 ≤ cost m → Sv T asked (turns + 1) ⟨x.2.1, h.E.set m.line.toNat x.1⟩ (rest ++ x.2.2) told := by
      intro st hc1
      refine ⟨hI, ?_, ?_, ?_, ?_⟩
      · intro y hy
        show Good (h.E.set m.line.toNat x.1).length y
        rw [hE]
        rcases List.mem_append.1 hy with hy | hy
        · exact hrest y hy
        · exact (st.good y hy).1
      · intro n hn
        show Exp (entOf (h.E.set m.line.toNat x.1) n) (rolesOf n (rest ++ x.2.2))
        replace hn : n < h.E.length := by rw [← hE]; exact hn
        rw [entOf_set hln, roles_app]
        by_cases hnn : n = m.line.toNat
        · subst hnn
          rw [if_pos rfl]
          exact st.exp
        · rw [if_neg hnn, roles_other (fun y hy => (st.good y hy).2) (by omega), List.append_nil]
          have := (s.exp n hn).perm (roles_perm _ hp)
          rwa [roles_cons, rl_other (by omega), List.nil_append] at this
      · show turns + 1 + (sumF cost (rest ++ x.2.2) + sumF ecost (h.E.set m.line.toNat x.1)) ≤ T
        have h1 := sumF_set ecost h.E m.line.toNat x.1 hln
        have h2 := st.cost
        rw [sumF_app]
        omega
      · show told + (sumF pend (rest ++ x.2.2) + sumF epend (h.E.set m.line.toNat x.1)) = asked
        have h1 := sumF_set epend h.E m.line.toNat x.1 hln
        have h2 := st.pend
        rw [sumF_app]
        omega
    rcases hcs with ⟨a, b, c, rfl⟩ | ⟨a, b, c, rfl⟩ | ⟨a, b, rfl⟩
    · obtain ⟨k1, k2⟩ := cost_req ⟨a, b⟩
      rw [role_req ⟨a, b⟩, List.nil_append] at hexp
      refine fin ⟨fun y hy => (by cases hy), ?_, ?_, ?_⟩ (by omega)
      · show Exp _ (_ ++ [])
        rw [List.append_nil]
        exact hexp
      · show sumF cost [] + ((if owes (entOf h.E m.line.toNat) then 2 else 0) + sumF qcost ((entOf h.E m.line.toNat).q ++ [m])) ≤ _
        rw [sumF_nil, sumF_app, sumF_cons, sumF_nil, k1]
        unfold ecost
        omega
      · show sumF pend [] + ((if owes (entOf h.E m.line.toNat) then 1 else 0) + ((entOf h.E m.line.toNat).q ++ [m]).length) = _
        rw [sumF_nil, List.length_append, k2]
        unfold epend
        simp only [List.length_cons, List.length_nil]
        omega
    · obtain ⟨k1, k2⟩ := cost_req ⟨a, b⟩
      rw [role_req ⟨a, b⟩, List.nil_append] at hexp
      have st := begin_step (N := h.E.length) (bs := h.bs) e1 c ⟨⟨a, b⟩, hsrc, hline⟩ (by omega)
      have ho : owes (entOf h.E m.line.toNat) = false := by unfold owes; rw [c]; rfl
      rw [hexp.idle c] at fin
      refine fin ⟨st.good, st.exp, ?_, ?_⟩ (by omega)
      · have := st.cost
        unfold ecost at this ⊢
        rw [ho, k1]
        simp only [Bool.false_eq_true, if_false]
        omega
      · have := st.pend
        unfold epend at this ⊢
        rw [ho, k2]
        simp only [Bool.false_eq_true, if_false]
        omega
    · obtain ⟨k1, k2⟩ := cost_ans (m := m) (by omega)
      have st := (other_step (N := h.E.length) (bs := h.bs) e1 (by omega) hline (by omega) hexp).2
      refine fin ⟨st.good, st.exp, ?_, ?_⟩ (by omega)
      · have := st.cost; omega
      · have := st.pend; omega
theorem Sv.answer {T asked turns : Nat} {h : HD} {way rest : List Msg} {told : Nat} {m : Msg} (s : Sv T asked turns h way told) (hp : way.Perm (m :: rest)) (hd : m.dst ≠ 4) (b : Int) (hb : 0 ≤ b ∧ b < 256) :
    Sv T asked (turns + 1) h (rest ++ (if (ansF m b hb).2 then [(ansF m b hb).1] else [])) (told + (if m.kind = 7 ∨ m.kind = 8 ∨ m.kind = 9 ∨ m.kind = 10 then 1 else 0)) := by
  have hg := s.good m (hp.symm.subset (List.mem_cons_self ..))
  have hln := hg.line
  have hrest : ∀ x ∈ rest, Good h.E.length x := fun x hx => s.good x (hp.symm.subset (List.mem_cons_of_mem _ hx))
  have hcost := sumF_perm cost hp
  have hpend := sumF_perm pend hp
  rw [sumF_cons] at hcost hpend
  have hphi := s.phi
  have hask := s.ask
  obtain ⟨hk, hdst⟩ : (4 ≤ m.kind ∧ m.kind ≤ 10) ∧ (0 ≤ m.dst ∧ m.dst < 4) := by
    rcases hg.what with ⟨_, b, _⟩ | h | ⟨_, b, _⟩
    · exact absurd b hd
    · exact h
    · exact absurd b hd
  have fin : ∀ (out : List Msg) (t : Nat), (∀ y ∈ out, Good h.E.length y ∧ y.line = m.line) → (∀ n : Int, m.line = n → rolesOf n out = role m) → sumF cost out + 1 ≤ cost m → t + sumF pend out = pend m → Sv T asked (turns + 1) h (rest ++ out) (told + t) := by
    intro out t h1 h2 h3 h4
    refine ⟨s.hi.mono (Nat.le_succ _), ?_, ?_, ?_, ?_⟩
    · intro y hy
      rcases List.mem_append.1 hy with hy | hy
      · exact hrest y hy
      · exact (h1 y hy).1
    · intro n hn
      have := (s.exp n hn).perm (roles_perm _ hp)
      rw [roles_cons] at this
      rw [roles_app]
      by_cases hnn : m.line = (n : Int)
      · rw [rl_same hnn] at this
        rw [h2 _ hnn]
        exact this.perm List.perm_append_comm
      · rw [rl_other hnn, List.nil_append] at this
        rw [roles_other (fun y hy => (h1 y hy).2) hnn, List.append_nil]
        exact this
    · rw [sumF_app]; omega
    · rw [sumF_app]; omega
  have one : ∀ (y : Msg) (t : Nat), Good h.E.length y → y.line = m.line → role y = role m → cost y + 1 ≤ cost m → t + pend y = pend m → Sv T asked (turns + 1) h (rest ++ [y]) (told + t) := by
    intro y t h1 h2 h3 h4 h5
    refine fin [y] t (fun z hz => ?_) (fun n hn => ?_) ?_ ?_
    · simp at hz; subst hz; exact ⟨h1, h2⟩
    · rw [roles_cons, rl_same (h2.trans hn), h3]; exact List.append_nil _
    · rw [sumF_cons, sumF_nil]; omega
    · rw [sumF_cons, sumF_nil]; omega
  unfold ansF
  by_cases h1 : m.kind = 4 ∨ m.kind = 5
  · rw [if_pos h1, if_pos rfl]
    refine one _ _ ⟨hln, .inr (.inr ⟨p11, rfl, hdst, .inl rfl⟩)⟩ rfl ?_ ?_ ?_
    · show [(0, m.dst)] = _
      unfold role; rw [if_pos h1]
    · show 1 + 1 ≤ cost m
      unfold cost; rw [if_neg (by omega), if_neg (by omega), if_pos (by omega)]; decide
    · show _ + 0 = pend m
      unfold pend; rw [if_neg (by omega), if_neg (by omega)]
  rw [if_neg h1]
  by_cases h2 : m.kind = 6
  · rw [if_pos h2, if_pos rfl]
    refine one _ _ ⟨hln, .inr (.inr ⟨p12, rfl, hdst, .inr rfl⟩)⟩ rfl ?_ ?_ ?_
    · show [(1, m.dst)] = _
      unfold role; rw [if_neg h1, if_neg (by omega), if_pos h2]
    · show 1 + 1 ≤ cost m
      unfold cost; rw [if_neg (by omega), if_neg (by omega), if_pos (by omega)]; decide
    · show _ + 0 = pend m
      unfold pend; rw [if_neg (by omega), if_neg (by omega)]
  rw [if_neg h2]
  by_cases h3 : m.kind = 8 ∨ m.kind = 9 ∨ m.kind = 10
  · rw [if_pos h3, if_pos rfl]
    refine one _ _ ⟨hln, .inr (.inr ⟨p13, rfl, hdst, .inr rfl⟩)⟩ rfl ?_ ?_ ?_
    · show [(2, m.dst)] = _
      unfold role; rw [if_neg h1, if_neg (by omega), if_neg h2, if_neg (by omega), if_pos h3]
    · show 1 + 1 ≤ cost m
      unfold cost; rw [if_neg (by omega), if_neg (by omega), if_pos (by omega)]; decide
    · show _ + 0 = pend m
      unfold pend; rw [if_pos (by omega), if_pos (by omega)]
  rw [if_neg h3]
  have h7 : m.kind = 7 := by omega
  rw [if_neg (by decide), if_pos (.inl h7)]
  refine fin [] 1 (fun y hy => by cases hy) (fun n hn => ?_) ?_ ?_
  · show [] = role m
    unfold role; rw [if_neg h1, if_neg (by omega), if_neg h2, if_neg (by omega), if_neg h3, if_neg (by omega)]
  · rw [sumF_nil]
    unfold cost; rw [if_neg (by omega), if_neg (by omega), if_neg (by omega), if_pos (by omega)]
    exact Nat.le_refl _
  · rw [sumF_nil]
    unfold pend; rw [if_pos (by omega)]
theorem Sv.done {T asked turns : Nat} {h : HD} {told : Nat} (s : Sv T asked turns h [] told) : told = asked ∧ idleB h.E = true := by
  have hb : ∀ n, n < h.E.length → (entOf h.E n).busy = false := fun n hn => (s.exp n hn).nil
  have hz : sumF epend h.E = 0 * h.E.length := sumF_eq fun d hd => by
    obtain ⟨n, hn, rfl⟩ := List.getElem_of_mem hd
    have he : entOf h.E n = h.E[n] := by simp [entOf, List.getD, hn]
    have h1 := hb n hn
    have h2 := (s.hi.2 n hn).2.1 h1
    rw [he] at h1 h2
    unfold epend owes
    rw [h1, h2]
    rfl
  have := s.ask
  rw [sumF_nil] at this
  refine ⟨by omega, ?_⟩
  unfold idleB
  rw [List.all_eq_true]
  intro d hd
  obtain ⟨n, hn, rfl⟩ := List.getElem_of_mem hd
  have he : entOf h.E n = h.E[n] := by simp [entOf, List.getD, hn]
  have h1 := hb n hn
  rw [he] at h1
  simp [h1]
theorem Sv.start {bs : List UInt8} {way : List Msg} (hg : ∀ m ∈ way, Good (bs.length / 16) m ∧ 1 ≤ m.kind ∧ m.kind ≤ 3) : Sv (9 * way.length) way.length 0 (home0 bs) way 0 := by
  have he : ∀ n, entOf (home0 bs).E n = ent0 := fun n => entOf_rep _ _
  refine ⟨HI.home0 bs, fun m hm => ?_, fun n hn => .inl ⟨by rw [he]; rfl, ?_⟩, ?_, ?_⟩
  · show Good (List.replicate (bs.length / 16) ent0).length m
    rw [List.length_replicate]
    exact (hg m hm).1
  · clear hn
    induction way with
    | nil => rfl
    | cons m r ih =>
      rw [roles_cons, ih fun x hx => hg x (List.mem_cons_of_mem _ hx)]
      unfold rl
      split
      · rw [role_req (hg m (List.mem_cons_self ..)).2]; rfl
      · rfl
  · have h1 : sumF ecost (home0 bs).E = 0 * (home0 bs).E.length := sumF_eq fun d hd => by
      rw [show (home0 bs).E = List.replicate (bs.length / 16) ent0 from rfl] at hd
      rw [(List.mem_replicate.1 hd).2]; rfl
    have h2 : sumF cost way ≤ 9 * way.length := sumF_le fun m hm => by
      have h3 := (cost_req (hg m hm).2).1
      unfold qcost at h3
      split at h3 <;> omega
    omega
  · have h1 : sumF epend (home0 bs).E = 0 * (home0 bs).E.length := sumF_eq fun d hd => by
      rw [show (home0 bs).E = List.replicate (bs.length / 16) ent0 from rfl] at hd
      rw [(List.mem_replicate.1 hd).2]; rfl
    have h2 : sumF pend way = 1 * way.length := sumF_eq fun m hm => (cost_req (hg m hm).2).2
    omega
theorem Sv.len {T asked turns : Nat} {h : HD} {way : List Msg} {told : Nat} (s : Sv T asked turns h way told) : way.length + turns ≤ T := by
  have h1 := s.phi
  have h2 : way.length ≤ sumF cost way := by
    have hg : ∀ m ∈ way, 1 ≤ cost m := fun m hm => (s.good m hm).cost
    clear h1 s
    induction way with
    | nil => exact Nat.le_refl _
    | cons m r ih =>
      rw [sumF_cons, List.length_cons]
      have := hg m (List.mem_cons_self ..)
      have := ih fun x hx => hg x (List.mem_cons_of_mem _ hx)
      omega
  omega
theorem u8bd (x : Int) : 0 ≤ IntKind.u8.wrap x ∧ IntKind.u8.wrap x < 256 := by
  simp only [IntKind.wrap, IntKind.signed, IntKind.bits]
  constructor
  · exact Int.emod_nonneg _ (by decide)
  · exact Int.emod_lt_of_pos _ (by decide)
end Go.Proofs.Ytdiaemlgghfecaa
namespace Go.Proofs.Ytdiaemlgghfecaa
open Go.RowKit
theorem way_perm0 {way : List Msg} (h : 0 < way.length) : way.Perm (way.getD 0 msg0 :: way.drop 1) := by
  have := way_perm h
  simpa using this
set_option maxRecDepth 100000 in
set_option maxHeartbeats 4000000 in
theorem queues_no {w : World} {A : Option Addr} {cap : Nat} {bs : List UInt8} (hV : View byE w A cap bs) {C : Option Addr} {cc : Nat} {l : List Hact} (hL : View hactE w C cc l) (hs : sizeB bs = false) : Calls Try.prog 7 #[.slice A bs.length cap, .slice C l.length cc] w (Ret fun v w' => v = .bool true ∧ New w w') := by
 have hVl := hV.len
 have hLl := hL.len
 unfold maxLen at hVl hLl
 have hF := Only.refl (fun _ => False) w
 refine Zen 139 Try.func7 ?_
 refine Zsr ?_
 refine Za ?_
 refine Znn ?_
 refine Zsr ?_
 refine Zm ?_
 refine Zk cf9 (made_no hV hs) ?_
 rintro v w1 ⟨rfl, hN2⟩
 refine Zm ?_
 refine Zt ?_
 refine Zt ?_
 refine Zt ?_
 refine Zna (z := zv4) (cs := #[.slice none 0 0, .slice none 0 0]) (by kernel_rfl) fun b3 w4 hN5 B6 hb7 => ?_
 replace hF := hF.trNew hN2
 have g_b3 := Nat.le_trans hF.size hb7
 refine Za ?_
 refine ZsS sz28 (by simp [Value.oneCell']) B6 rfl rfl (ho := rfl) (hy := rfl) fun w8 hO9 hBq => ?_
 clear hBq
 refine Za ?_
 refine Znn ?_
 refine Zsq ?_
 refine Zsr ?_
 refine Zm ?_
 refine Zv (.bool true) (fun _ fr => x_not rfl (fr.ev rfl) rfl) ?_
 refine Zm ?_
 refine Zs ?_
 refine Zs ?_
 refine Zs ?_
 refine Zpt ?_
 refine Znn ?_
 refine Zct ?_
 refine Zsr ?_
 refine Zk cf11 (known_c _) ?_
 rintro v w10 ⟨rfl, hN11⟩
 refine Za ?_
 refine Znn ?_
 refine Zrt ?_
 refine Zr1 ?_
 refine Zre rfl [_] ⟨rfl, trivial⟩ ?_
 replace hF := ((hF.trNew hN5).loc hO9 (.inr g_b3)).trNew hN11
 exact ⟨_, rfl, rfl, hF⟩
set_option maxRecDepth 100000 in
set_option maxHeartbeats 4000000 in
theorem queues_yes {w : World} {A : Option Addr} {cap : Nat} {bs : List UInt8} (hV : View byE w A cap bs) {C : Option Addr} {cc : Nat} {l : List Hact} (hL : View hactE w C cc l) (hs : sizeB bs = true) : Calls Try.prog 7 #[.slice A bs.length cap, .slice C l.length cc] w (Ret fun v w' => v = .bool true ∧ New w w') := by
 have hVl := hV.len
 have hLl := hL.len
 unfold maxLen at hVl hLl
 have hsz := size_bd hs
 have h0l : (home0 bs).E.length = bs.length / 16 := by simp [home0]
 have hF := Only.refl (fun _ => False) w
 refine fx_enter Try.func7 rfl (N := (139, [])) (T := [(0, .slice A bs.length cap), (1, .slice C l.length cc)]) rfl (show 2 ≤ 139 by decide) ⟨rfl, rfl, trivial⟩ fun a fr => ?_
 refine wp_seq ?_
 refine wp_region_lit ?_
 refine fx_val (v := .bool false) fr rfl rfl (by decide) (x_assign rfl rfl) ?_
 clear fr a; intro a fr
 refine wpList_nil ?_
 refine fx_next ?_
 refine wp_seq ?_
 refine wp_region_lit ?_
 refine fx_val (v := .slice A bs.length cap) fr rfl rfl (by decide) (x_move rfl (fr.ev rfl)) ?_
 clear fr a; intro a fr
 refine fx_call fr rfl rfl (by decide) (x_call (vs := [.slice A bs.length cap]) rfl rfl ⟨(fr.ev rfl), trivial⟩ Try.func9 nm9 rfl) (made_yes hV hs) ?_
 clear fr a
 rintro v w13 ⟨hb1, Fp2, A3, cap4, B5, cb6, FpR7, rfl, H8, R9, hf10, hr11, hd12, hN14⟩ a fr
 have ap2_A_Fp2 : ∀ k, inA A k → Fp2 k → False := symP (new_apart2P hf10 fun _ hg => hV.lt hg)
 have ap2_C_Fp2 : ∀ k, inA C k → Fp2 k → False := symP (new_apart2P hf10 fun _ hg => hL.lt hg)
 have gA_Fp2 := gA_newP hF hf10
 have gN_Fp2 := fun g (hg : Fp2 g) => Nat.le_trans hF.size (hf10 g hg)
 have ap2_A_FpR7 : ∀ k, inA A k → FpR7 k → False := symP (new_apart2P hr11 fun _ hg => hV.lt hg)
 have ap2_C_FpR7 : ∀ k, inA C k → FpR7 k → False := symP (new_apart2P hr11 fun _ hg => hL.lt hg)
 have gA_FpR7 := gA_newP hF hr11
 have gN_FpR7 := fun g (hg : FpR7 g) => Nat.le_trans hF.size (hr11 g hg)
 have ap2_Fp2_FpR7 := hd12
 replace hV := hV.new hN14
 replace hL := hL.new hN14
 replace hF := hF.trNew hN14
 refine fx_val (v := .tuple #[.pointer (some ⟨hb1, 0, none⟩), .agg (#[.slice A3 bs.length cap4, .slice B5 (bs.length / 16) cb6]), .bool true]) fr rfl rfl (by decide) (x_move rfl (fr.ev rfl)) ?_
 clear fr a; intro a fr
 refine fx_val (v := .pointer (some ⟨hb1, 0, none⟩)) fr rfl rfl (by decide) (x_extract rfl (fr.ev rfl) rfl) ?_
 clear fr a; intro a fr
 refine fx_val (v := .agg (#[.slice A3 bs.length cap4, .slice B5 (bs.length / 16) cb6])) fr rfl rfl (by decide) (x_extract rfl (fr.ev rfl) rfl) ?_
 clear fr a; intro a fr
 refine fx_val (v := .bool true) fr rfl rfl (by decide) (x_extract rfl (fr.ev rfl) rfl) ?_
 clear fr a; intro a fr
 refine fx_new fr rfl rfl (by decide) (x_alloc (z := .agg (#[.slice none 0 0, .slice none 0 0])) (cs := #[.slice none 0 0, .slice none 0 0]) rfl (by kernel_rfl) rfl) ?_
 clear fr a
 intro b15 w16 hN17 B18 hb19 a fr
 have ap_A_b15 : Apart A b15 := hV.apart hb19
 have ap_C_b15 : Apart C b15 := hL.apart hb19
 have ap_Fp2_b15 : ¬ Fp2 b15 := H8.apart hb19
 have ap_FpR7_b15 : ¬ FpR7 b15 := R9.apart hb19
 have g_b15 := Nat.le_trans hF.size hb19
 replace hV := hV.new hN17
 replace hL := hL.new hN17
 replace H8 := H8.new hN17
 replace R9 := R9.new hN17
 replace hF := hF.trNew hN17
 refine fx_val (v := .pointer (some ⟨hb1, 0, none⟩)) fr rfl rfl (by decide) (x_assign rfl (fr.ev rfl)) ?_
 clear fr a; intro a fr
 refine fx_storeS sz28 rfl rfl rfl (fr.ev rfl) (fr.ev rfl) (by simp [Value.oneCell']) B18 rfl rfl fun w20 hO21 hBq => ?_
 replace hV := hV.only hO21 (Apart.ne1 ap_A_b15)
 replace hL := hL.only hO21 (Apart.ne1 ap_C_b15)
 replace H8 := H8.only hO21 (ne1P ap_Fp2_b15)
 replace R9 := R9.only hO21 (ne1P ap_FpR7_b15)
 replace hF := hF.loc hO21 (.inr g_b15)
 replace B18 := hBq
 clear hBq
 refine fx_val (v := .bool true) fr rfl rfl (by decide) (x_assign rfl (fr.ev rfl)) ?_
 clear fr a; intro a fr
 refine wpList_nil ?_
 refine fx_next ?_
 refine wp_seq ?_
 refine wp_seq ?_
 refine wp_region_lit ?_
 refine fx_val (v := .bool true) fr rfl rfl (by decide) (x_move rfl (fr.ev rfl)) ?_
 clear fr a; intro a fr
 refine fx_val (v := .bool false) fr rfl rfl (by decide) (x_not rfl (fr.ev rfl) rfl) ?_
 clear fr a; intro a fr
 refine fx_val (v := .bool false) fr rfl rfl (by decide) (x_move rfl (fr.ev rfl)) ?_
 clear fr a; intro a fr
 refine fx_val (v := .slice C l.length cc) fr (fr.want rfl rfl rfl) rfl (by decide) (x_move rfl (fr.ev rfl)) ?_
 clear fr a; intro a fr
 refine fx_val (v := .int .i64 ((l.length : Nat) : Int)) fr (fr.want rfl rfl rfl) rfl (by decide) (x_len Try.underlying47 rfl (fr.ev rfl)) ?_
 clear fr a; intro a fr
 refine fx_val (v := .bool (decide (12 < ((l.length : Nat) : Int)))) fr (fr.want rfl rfl rfl) rfl (by decide) (x_gtr rfl (fr.ev rfl) rfl rfl) ?_
 clear fr a; intro a fr
 refine fx_val (v := .bool (decide (12 < ((l.length : Nat) : Int)))) fr rfl rfl (by decide) (x_pick_f rfl (fr.ev rfl) (fr.ev rfl)) ?_
 clear fr a; intro a fr
 refine wpList_nil ?_
 refine fx_next ?_
 refine fx_cond fr rfl (fun hc22 => ?_) (fun hc22 => ?_)
 ·skip
  have hc22 := of_decide_eq_true hc22
  refine wp_seq ?_
  refine wp_region_lit ?_
  refine fx_call fr rfl rfl (by decide) (x_call (vs := []) rfl rfl trivial Try.func11 nm11 rfl) (known_c _) ?_
  clear fr a
  rintro v w23 ⟨rfl, hN24⟩ a fr
  replace hV := hV.new hN24
  replace hL := hL.new hN24
  replace H8 := H8.new hN24
  replace R9 := R9.new hN24
  replace B18 := B18.new hN24
  replace hF := hF.trNew hN24
  refine fx_val (v := .bool true) fr rfl rfl (by decide) (x_assign rfl (fr.ev rfl)) ?_
  clear fr a; intro a fr
  refine wpList_nil ?_
  refine fx_next ?_
  refine wp_ret ?_
  refine fx_rt ?_
  refine fx_ret fr [.tmp 4] [.bool true] rfl ⟨rfl, trivial⟩ rfl ?_
  exact ⟨_, rfl, rfl, hF⟩
 ·skip
  have hc22 := of_decide_eq_false hc22
  refine wp_skip ?_
  refine fx_next ?_
  refine wp_seq ?_
  refine wp_region_lit ?_
  refine fx_val (v := .agg (msgE.arr (mkM 2 0 4 0 b16z (by first | decide | omega)))) fr rfl rfl (by decide) (x_build (cells := msgE.arr (mkM 2 0 4 0 b16z (by first | decide | omega))) rfl (by kernel_rfl)) ?_
  clear fr a; intro a fr
  refine fx_build1 (E := msgE) (p := (mkM 2 0 4 0 b16z (by first | decide | omega))) elMsg (by decide) fr rfl rfl (by decide) rfl (fr.ev rfl) ?_
  clear fr a
  intro A25 w26 hN27 O28 hA29 a fr
  have ap2_A_A25 : Apart2 A A25 := (new_apart2 hA29 fun _ hg => hV.lt hg).symm
  have ap2_C_A25 : Apart2 C A25 := (new_apart2 hA29 fun _ hg => hL.lt hg).symm
  have ap2_Fp2_A25 : ∀ k, Fp2 k → inA A25 k → False := symP (new_apart2P hA29 fun _ hg => H8.lt hg)
  have ap2_FpR7_A25 : ∀ k, FpR7 k → inA A25 k → False := symP (new_apart2P hA29 fun _ hg => R9.lt hg)
  have ap_A25_b15 : Apart A25 b15 := new_apart hA29 B18.lt
  have gA_A25 := gA_new hF hA29
  have gN_A25 := fun g (hg : inA A25 g) => Nat.le_trans hF.size (hA29 g hg)
  replace hV := hV.new hN27
  replace hL := hL.new hN27
  replace H8 := H8.new hN27
  replace R9 := R9.new hN27
  replace B18 := B18.new hN27
  replace hF := hF.trNew hN27
  refine fx_val (v := .slice A25 1 1) fr rfl rfl (by decide) (x_assign rfl (fr.ev rfl)) ?_
  clear fr a; intro a fr
  refine wpList_nil ?_
  refine fx_next ?_
  refine wp_seq ?_
  refine wp_seq ?_
  refine wp_region_lit ?_
  refine fx_val (v := .int .i64 0) fr rfl rfl (by decide) (x_assign rfl rfl) ?_
  clear fr a; intro a fr
  refine wpList_nil ?_
  refine fx_next ?_
  refine wp_block ?_
  refine fx_loop (fun nM a wL => ∃ i : Nat, ∃ W : Option Addr, ∃ wc : Nat, ∃ wy0 : List Msg, nM = l.length - i ∧ Fr (139, []) [(1, .slice C l.length cc), (4, .bool false), (6, .pointer (some ⟨b15, 0, none⟩)), (5, .pointer (some ⟨hb1, 0, none⟩)), (8, .slice W wy0.length wc), (9, .int .i64 ((i : Nat) : Int))] a ∧ Only (fun _ => False) w wL ∧ View hactE wL C cc l ∧ HomeAt wL Fp2 hb1 (home0 bs) ∧ RefH wL FpR7 A3 cap4 B5 cb6 (home0 bs) ∧ Blk wL b15 28 (#[.slice A3 bs.length cap4, .slice B5 (bs.length / 16) cb6]) ∧ Own msgE wL W wc wy0 ∧ i ≤ l.length ∧ (∀ m ∈ wy0, Good (bs.length / 16) m ∧ 1 ≤ m.kind ∧ m.kind ≤ 3) ∧ wy0.length ≤ i + 1 ∧ (Apart2 C W) ∧ (∀ k, Fp2 k → inA W k → False) ∧ (∀ k, FpR7 k → inA W k → False) ∧ (Apart W b15) ∧ (∀ g, inA W g → (fun _ => False) g ∨ w.heap.size ≤ g)) (n0 := _) ⟨0, A25, 1, ([(mkM 2 0 4 0 b16z (by first | decide | omega))]), rfl, fr.sub ⟨rfl, rfl, rfl, rfl, rfl, rfl, trivial⟩, hF, hL, H8, R9, B18, O28, Nat.zero_le _, (fun m hm => by simp only [List.mem_cons, List.mem_nil_iff, or_false] at hm; subst hm; exact ⟨⟨(by show 0 < _; omega), .inl ⟨(by show 1 ≤ (2 : Int) ∧ (2 : Int) ≤ 3; decide), rfl, (by show 0 ≤ (0 : Int) ∧ (0 : Int) < 4; decide), .inr rfl⟩⟩, (by show 1 ≤ (2 : Int) ∧ (2 : Int) ≤ 3; decide)⟩), Nat.le_refl _, ap2_C_A25, ap2_Fp2_A25, ap2_FpR7_A25, ap_A25_b15, gA_A25⟩ ?_
  rintro n31 a w30 ⟨i, W, wc, wy0, rfl, fr, hF, hL, H8, R9, B18, OW, hi, hgood, hwl, ap2_C_W, ap2_Fp2_W, ap2_FpR7_W, ap_W_b15, gA_W⟩
  refine wp_seq ?_
  refine wp_seq ?_
  refine wp_region_lit ?_
  refine fx_val (v := .int .i64 ((i : Nat) : Int)) fr rfl rfl (by decide) (x_move rfl (fr.ev rfl)) ?_
  clear fr a; intro a fr
  refine fx_val (v := .slice C l.length cc) fr rfl rfl (by decide) (x_move rfl (fr.ev rfl)) ?_
  clear fr a; intro a fr
  refine fx_val (v := .int .i64 ((l.length : Nat) : Int)) fr rfl rfl (by decide) (x_len Try.underlying47 rfl (fr.ev rfl)) ?_
  clear fr a; intro a fr
  refine fx_val (v := .bool (decide (((i : Nat) : Int) < ((l.length : Nat) : Int)))) fr rfl rfl (by decide) (x_lss rfl (fr.ev rfl) (fr.ev rfl) rfl) ?_
  clear fr a; intro a fr
  refine wpList_nil ?_
  refine fx_next ?_
  refine fx_cond fr rfl (fun hc32 => ?_) (fun hc32 => ?_)
  ·skip
   have hc32 := of_decide_eq_true hc32
   refine wp_skip ?_
   refine fx_next ?_
   refine wp_seq ?_
   refine wp_block ?_
   refine wp_seq ?_
   refine wp_region_lit ?_
   refine fx_val (v := .slice C l.length cc) fr rfl rfl (by decide) (x_move rfl (fr.ev rfl)) ?_
   clear fr a; intro a fr
   refine fx_val (v := .int .i64 ((i : Nat) : Int)) fr rfl rfl (by decide) (x_move rfl (fr.ev rfl)) ?_
   clear fr a; intro a fr
   obtain ⟨g33, o34, hA35⟩ := (hL).some_ (by first | omega | decide)
   refine fx_val (v := .pointer (some ⟨g33, o34 + i * 4, none⟩)) fr rfl rfl (by decide) (x_indexV Try.underlying47 sz49 rfl (fr.ev rfl) hA35 (fr.ev rfl) (by first | omega | decide) rfl) ?_
   clear fr a; intro a fr
   refine fx_val (v := .pointer (some ⟨g33, o34 + i * 4 + 2, none⟩)) fr rfl rfl (by decide) (x_fieldAddr fo49_2 rfl (fr.ev rfl) rfl) ?_
   clear fr a; intro a fr
   refine fx_val (v := .int .i64 ((l.getD i hact0).kind)) fr rfl rfl (by decide) (x_load1 pl33 rfl (fr.ev rfl) (range_cell ((hL).elem hA35 i hact0 (by first | omega | decide)) 2 rfl rfl)) ?_
   clear fr a; intro a fr
   refine fx_val (v := .int .i64 ((l.getD i hact0).kind)) fr rfl rfl (by decide) (x_assign rfl (fr.ev rfl)) ?_
   clear fr a; intro a fr
   refine wpList_nil ?_
   refine fx_next ?_
   refine wp_seq ?_
   refine wp_region_lit ?_
   refine fx_val (v := .int .i64 ((l.getD i hact0).kind)) fr rfl rfl (by decide) (x_move rfl (fr.ev rfl)) ?_
   clear fr a; intro a fr
   refine fx_val (v := .bool (decide ((l.getD i hact0).kind = 1))) fr rfl rfl (by decide) (x_eql rfl (fr.ev rfl) rfl rfl) ?_
   clear fr a; intro a fr
   refine fx_val (v := .bool (decide ((l.getD i hact0).kind = 1))) fr rfl rfl (by decide) (x_move rfl (fr.ev rfl)) ?_
   clear fr a; intro a fr
   refine fx_may (g := !(decide ((l.getD i hact0).kind = 1))) (v := .int .i64 ((l.getD i hact0).kind)) fr rfl rfl rfl (by simp) rfl (by decide) (fun hg => x_move rfl (fr.ev rfl)) ?_
   clear fr a; intro a fr
   refine fx_may (g := !(decide ((l.getD i hact0).kind = 1))) (v := .bool (decide ((l.getD i hact0).kind = 2))) fr rfl rfl rfl (by simp) rfl (by decide) (fun hg => x_eql rfl ((fr.ev rfl).trans (onlyIf_t hg)) rfl rfl) ?_
   clear fr a; intro a fr
   refine fx_val (v := .bool ((decide ((l.getD i hact0).kind = 1)) || (decide ((l.getD i hact0).kind = 2)))) fr rfl rfl (by decide) (x_pick_or rfl (fr.ev rfl) (fun _ => rfl) (fun hb => ((fr.ev rfl)).trans (onlyIf_t (by simp_all))) rfl) ?_
   clear fr a; intro a fr
   refine fx_val (v := .bool ((decide ((l.getD i hact0).kind = 1)) || (decide ((l.getD i hact0).kind = 2)))) fr rfl rfl (by decide) (x_move rfl (fr.ev rfl)) ?_
   clear fr a; intro a fr
   refine fx_may (g := !((decide ((l.getD i hact0).kind = 1)) || (decide ((l.getD i hact0).kind = 2)))) (v := .int .i64 ((l.getD i hact0).kind)) fr rfl rfl rfl (by simp) rfl (by decide) (fun hg => x_move rfl (fr.ev rfl)) ?_
   clear fr a; intro a fr
   refine fx_may (g := !((decide ((l.getD i hact0).kind = 1)) || (decide ((l.getD i hact0).kind = 2)))) (v := .bool (decide ((l.getD i hact0).kind = 3))) fr rfl rfl rfl (by simp) rfl (by decide) (fun hg => x_eql rfl ((fr.ev rfl).trans (onlyIf_t hg)) rfl rfl) ?_
   clear fr a; intro a fr
   refine fx_val (v := .bool (((decide ((l.getD i hact0).kind = 1)) || (decide ((l.getD i hact0).kind = 2))) || (decide ((l.getD i hact0).kind = 3)))) fr rfl rfl (by decide) (x_pick_or rfl (fr.ev rfl) (fun _ => rfl) (fun hb => ((fr.ev rfl)).trans (onlyIf_t (by simp_all))) rfl) ?_
   clear fr a; intro a fr
   refine wpList_nil ?_
   refine fx_next ?_
   refine fx_cond fr rfl (fun hc36 => ?_) (fun hc36 => ?_)
   ·skip
    have hc36s := hc36
    try simp at hc36s
    obtain ⟨kc, hkc, hkcl⟩ := modF_nat (l.getD i hact0).cache 4 (by decide)
    change modF (l.getD i hact0).cache 4 = _ at hkc
    refine wp_region_lit ?_
    refine fx_val (v := .slice W wy0.length wc) fr rfl rfl (by decide) (x_move rfl (fr.ev rfl)) ?_
    clear fr a; intro a fr
    refine fx_val (v := .int .i64 ((l.getD i hact0).kind)) fr rfl rfl (by decide) (x_move rfl (fr.ev rfl)) ?_
    clear fr a; intro a fr
    refine fx_val (v := .slice C l.length cc) fr rfl rfl (by decide) (x_move rfl (fr.ev rfl)) ?_
    clear fr a; intro a fr
    refine fx_val (v := .int .i64 ((i : Nat) : Int)) fr rfl rfl (by decide) (x_move rfl (fr.ev rfl)) ?_
    clear fr a; intro a fr
    refine fx_val (v := .pointer (some ⟨g33, o34 + i * 4, none⟩)) fr rfl rfl (by decide) (x_indexV Try.underlying47 sz49 rfl (fr.ev rfl) hA35 (fr.ev rfl) (by first | omega | decide) rfl) ?_
    clear fr a; intro a fr
    refine fx_val (v := .pointer (some ⟨g33, o34 + i * 4, none⟩)) fr rfl rfl (by decide) (x_fieldAddr fo49_0 rfl (fr.ev rfl) rfl) ?_
    clear fr a; intro a fr
    refine fx_val (v := .int .i64 ((l.getD i hact0).cache)) fr rfl rfl (by decide) (x_load1 pl3 rfl (fr.ev rfl) (range_cell ((hL).elem hA35 i hact0 (by first | omega | decide)) 0 rfl rfl)) ?_
    clear fr a; intro a fr
    refine fx_call fr rfl rfl (by decide) (x_call (vs := [.int .i64 ((l.getD i hact0).cache), .int .i64 4]) rfl rfl ⟨(fr.ev rfl), rfl, trivial⟩ Try.func15 nm15 rfl) (mod_p ((l.getD i hact0).cache) 4 (by omega) (by omega) _) ?_
    clear fr a
    rintro v w9 ⟨rfl, hw9⟩ a fr
    obtain rfl := hw9.symm
    refine fx_val (v := .agg (msgE.arr (mkM ((l.getD i hact0).kind) (modF ((l.getD i hact0).cache) 4) 4 0 b16z (by first | decide | omega)))) fr rfl rfl (by decide) (x_build (cells := msgE.arr (mkM ((l.getD i hact0).kind) (modF ((l.getD i hact0).cache) 4) 4 0 b16z (by first | decide | omega))) rfl (by simp only [List.map_toArray, List.map_cons, List.map_nil, show a.eval (.tmp 58) = .int .i64 ((l.getD i hact0).kind) from fr.ev rfl, show a.eval (.tmp 64) = .int .i64 (modF ((l.getD i hact0).cache) 4) from fr.ev rfl]; kernel_rfl)) ?_
    clear fr a; intro a fr
    refine fx_build1 (E := msgE) (p := (mkM ((l.getD i hact0).kind) (modF ((l.getD i hact0).cache) 4) 4 0 b16z (by first | decide | omega))) elMsg (by decide) fr rfl rfl (by decide) rfl (fr.ev rfl) ?_
    clear fr a
    intro A39 w40 hN41 O42 hA43 a fr
    have ap2_C_A39 : Apart2 C A39 := (new_apart2 hA43 fun _ hg => hL.lt hg).symm
    have ap2_Fp2_A39 : ∀ k, Fp2 k → inA A39 k → False := symP (new_apart2P hA43 fun _ hg => H8.lt hg)
    have ap2_FpR7_A39 : ∀ k, FpR7 k → inA A39 k → False := symP (new_apart2P hA43 fun _ hg => R9.lt hg)
    have ap_A39_b15 : Apart A39 b15 := new_apart hA43 B18.lt
    have ap2_W_A39 : Apart2 W A39 := (new_apart2 hA43 fun _ hg => OW.lt hg).symm
    have gA_A39 := gA_new hF hA43
    have gN_A39 := fun g (hg : inA A39 g) => Nat.le_trans hF.size (hA43 g hg)
    replace hL := hL.new hN41
    replace H8 := H8.new hN41
    replace R9 := R9.new hN41
    replace B18 := B18.new hN41
    replace OW := OW.new hN41
    replace hF := hF.trNew hN41
    refine fx_append (E := msgE) (l := wy0) (l' := [(mkM ((l.getD i hact0).kind) (modF ((l.getD i hact0).cache) 4) 4 0 b16z (by first | decide | omega))]) elMsg fr rfl rfl (by decide) rfl (fr.ev rfl) (fr.ev rfl) (by first | rfl | (simp; done) | (simp; omega)) (by first | rfl | (simp; done) | (simp; omega)) OW O42.view (by first | omega | (simp only [List.length_append, List.length_cons, List.length_nil, List.length_take, List.length_drop]; omega) | (simp; omega)) (by first | (unfold maxLen; done) | (unfold maxLen; first | omega | (simp only [List.length_append, List.length_cons, List.length_nil]; omega) | (simp; done) | (simp; omega))) ?_
    clear fr a
    intro A44 cap45 w46 O47 hO48 mv49 a fr
    have ap2_A44_C : Apart2 A44 C := moved_apart2 mv49 ap2_C_W.symm fun _ hg => hL.lt hg
    have ap2_A44_Fp2 : ∀ k, inA A44 k → Fp2 k → False := moved_apart2P mv49 (symP ap2_Fp2_W) fun _ hg => H8.lt hg
    have ap2_A44_FpR7 : ∀ k, inA A44 k → FpR7 k → False := moved_apart2P mv49 (symP ap2_FpR7_W) fun _ hg => R9.lt hg
    have ap_A44_b15 : Apart A44 b15 := moved_apart mv49 ap_W_b15 B18.lt
    have ap2_A44_A39 : Apart2 A44 A39 := moved_apart2 mv49 ap2_W_A39 fun _ hg => O42.lt hg
    have gA_A44 := gA_moved hF mv49 gA_W
    replace hL := hL.only hO48 (fun g h1 h2 => ap2_C_W g h1 h2)
    replace H8 := H8.only hO48 (fun g h1 h2 => ap2_Fp2_W g h1 h2)
    replace R9 := R9.only hO48 (fun g h1 h2 => ap2_FpR7_W g h1 h2)
    replace B18 := B18.only hO48 ap_W_b15
    replace O42 := O42.only hO48 (fun g h1 h2 => ap2_W_A39.symm g h1 h2)
    replace hF := hF.locA hO48 gA_W
    clear OW
    refine fx_val (v := .slice A44 ((wy0 ++ ([(mkM ((l.getD i hact0).kind) (modF ((l.getD i hact0).cache) 4) 4 0 b16z (by first | decide | omega))])).length) cap45) fr rfl rfl (by decide) (x_assign rfl (fr.ev rfl)) ?_
    clear fr a; intro a fr
    refine wpList_nil ?_
    refine fx_blk ?_
    refine fx_next ?_
    refine wp_region_lit ?_
    refine fx_val (v := .int .i64 ((i : Nat) : Int)) fr rfl rfl (by decide) (x_move rfl (fr.ev rfl)) ?_
    clear fr a; intro a fr
    refine fx_val (v := .int .i64 ((i + 1 : Nat) : Int)) fr rfl rfl (by decide) (x_add rfl (fr.ev rfl) rfl (i64w (r := ((i + 1 : Nat) : Int)) (by omega) (by omega))) ?_
    clear fr a; intro a fr
    refine fx_val (v := .int .i64 ((i + 1 : Nat) : Int)) fr rfl rfl (by decide) (x_assign rfl (fr.ev rfl)) ?_
    clear fr a; intro a fr
    refine wpList_nil ?_
    refine fx_next ?_
    have hknd : 1 ≤ (l.getD i hact0).kind ∧ (l.getD i hact0).kind ≤ 3 := by have h9 := hc36; simp only [Bool.or_eq_true, decide_eq_true_eq] at h9; omega
    have hgood2 : ∀ m ∈ wy0 ++ ([(mkM ((l.getD i hact0).kind) (modF ((l.getD i hact0).cache) 4) 4 0 b16z (by first | decide | omega))]), Good (bs.length / 16) m ∧ 1 ≤ m.kind ∧ m.kind ≤ 3 := by
     intro m hm
     rcases List.mem_append.1 hm with h | h
     ·exact hgood m h
     ·simp only [List.mem_cons, List.mem_nil_iff, or_false] at h
      subst h
      exact ⟨⟨(by show (0 : Int).toNat < _; show 0 < _; omega), .inl ⟨hknd, rfl, (by show 0 ≤ modF (l.getD i hact0).cache 4 ∧ modF (l.getD i hact0).cache 4 < 4; omega), .inr rfl⟩⟩, hknd⟩
    exact ⟨_, by omega, (i + 1), A44, cap45, (wy0 ++ ([(mkM ((l.getD i hact0).kind) (modF ((l.getD i hact0).cache) 4) 4 0 b16z (by first | decide | omega))])), rfl, fr.sub ⟨rfl, rfl, rfl, rfl, rfl, rfl, trivial⟩, hF, hL, H8, R9, B18, O47, by omega, hgood2, (by rw [List.length_append, List.length_cons, List.length_nil]; omega), ap2_A44_C.symm, (symP ap2_A44_Fp2), (symP ap2_A44_FpR7), ap_A44_b15, gA_A44⟩
   ·skip
    have hc36s := hc36
    try simp at hc36s
    refine wp_skip ?_
    refine fx_blk ?_
    refine fx_next ?_
    refine wp_region_lit ?_
    refine fx_val (v := .int .i64 ((i : Nat) : Int)) fr rfl rfl (by decide) (x_move rfl (fr.ev rfl)) ?_
    clear fr a; intro a fr
    refine fx_val (v := .int .i64 ((i + 1 : Nat) : Int)) fr rfl rfl (by decide) (x_add rfl (fr.ev rfl) rfl (i64w (r := ((i + 1 : Nat) : Int)) (by omega) (by omega))) ?_
    clear fr a; intro a fr
    refine fx_val (v := .int .i64 ((i + 1 : Nat) : Int)) fr rfl rfl (by decide) (x_assign rfl (fr.ev rfl)) ?_
    clear fr a; intro a fr
    refine wpList_nil ?_
    refine fx_next ?_
    exact ⟨_, by omega, (i + 1), W, wc, wy0, rfl, fr.sub ⟨rfl, rfl, rfl, rfl, rfl, rfl, trivial⟩, hF, hL, H8, R9, B18, OW, by omega, hgood, by omega, ap2_C_W, ap2_Fp2_W, ap2_FpR7_W, ap_W_b15, gA_W⟩
  ·skip
   have hc32 := of_decide_eq_false hc32
   refine wp_exit ?_
   refine fx_xt ?_
   refine fx_xt ?_
   refine fx_xx ?_
   refine fx_next ?_
   refine wp_seq ?_
   refine wp_seq ?_
   refine wp_region_lit ?_
   refine fx_val (v := .int .i64 0) fr rfl rfl (by decide) (x_assign rfl rfl) ?_
   clear fr a; intro a fr
   refine wpList_nil ?_
   refine fx_next ?_
   refine wp_block ?_
   refine fx_loop (fun nM a wL => ∃ turns : Nat, ∃ hd : HD, ∃ FpX : Nat → Prop, ∃ FpY : Nat → Prop, ∃ AY : Option Addr, ∃ capY : Nat, ∃ BY : Option Addr, ∃ cbY : Nat, ∃ W2 : Option Addr, ∃ wc2 : Nat, ∃ wy : List Msg, ∃ told : Nat, nM = 300 - turns ∧ Fr (139, []) [(4, .bool false), (6, .pointer (some ⟨b15, 0, none⟩)), (5, .pointer (some ⟨hb1, 0, none⟩)), (8, .slice W2 wy.length wc2), (11, .int .i64 ((turns : Nat) : Int))] a ∧ Only (fun _ => False) w wL ∧ HomeAt wL FpX hb1 hd ∧ RefH wL FpY AY capY BY cbY hd ∧ Blk wL b15 28 (#[.slice AY hd.bs.length capY, .slice BY hd.E.length cbY]) ∧ Own msgE wL W2 wc2 wy ∧ Sv (9 * wy0.length) wy0.length turns hd wy told ∧ hd.E.length = bs.length / 16 ∧ hd.bs.length = bs.length ∧ (∀ k, FpX k → FpY k → False) ∧ (¬ FpX b15) ∧ (∀ k, FpX k → inA W2 k → False) ∧ (¬ FpY b15) ∧ (∀ k, FpY k → inA W2 k → False) ∧ (Apart W2 b15) ∧ (∀ g, FpX g → (fun _ => False) g ∨ w.heap.size ≤ g) ∧ (∀ g, FpY g → (fun _ => False) g ∨ w.heap.size ≤ g) ∧ (∀ g, inA W2 g → (fun _ => False) g ∨ w.heap.size ≤ g)) (n0 := _) ⟨0, (home0 bs), Fp2, FpR7, A3, cap4, B5, cb6, W, wc, wy0, 0, rfl, fr.sub ⟨rfl, rfl, rfl, rfl, rfl, trivial⟩, hF, H8, R9, (by have h9 := B18; rw [show bs.length / 16 = (home0 bs).E.length by simp [home0]] at h9; exact h9), OW, Sv.start hgood, (by simp [home0]), rfl, ap2_Fp2_FpR7, ap_Fp2_b15, ap2_Fp2_W, ap_FpR7_b15, ap2_FpR7_W, ap_W_b15, gA_Fp2, gA_FpR7, gA_W⟩ ?_
   rintro n51 a w50 ⟨turns, hd, FpX, FpY, AY, capY, BY, cbY, W2, wc2, wy, told, rfl, fr, hF, HH, RR, B18, OW, hSv, hEl, hbl, ap2_FpX_FpY, ap_FpX_b15, ap2_FpX_W2, ap_FpY_b15, ap2_FpY_W2, ap_W2_b15, gA_FpX, gA_FpY, gA_W2⟩
   have hwl2 := hSv.len
   have htl := hSv.ask
   refine wp_seq ?_
   refine wp_seq ?_
   refine wp_region_lit ?_
   refine fx_val (v := .slice W2 wy.length wc2) fr rfl rfl (by decide) (x_move rfl (fr.ev rfl)) ?_
   clear fr a; intro a fr
   refine fx_val (v := .int .i64 ((wy.length : Nat) : Int)) fr rfl rfl (by decide) (x_len Try.underlying23 rfl (fr.ev rfl)) ?_
   clear fr a; intro a fr
   refine fx_val (v := .bool (decide (0 < ((wy.length : Nat) : Int)))) fr rfl rfl (by decide) (x_gtr rfl (fr.ev rfl) rfl rfl) ?_
   clear fr a; intro a fr
   refine fx_val (v := .bool (decide (0 < ((wy.length : Nat) : Int)))) fr rfl rfl (by decide) (x_move rfl (fr.ev rfl)) ?_
   clear fr a; intro a fr
   refine fx_may (g := (decide (0 < ((wy.length : Nat) : Int)))) (v := .int .i64 ((turns : Nat) : Int)) fr rfl rfl rfl (by simp) rfl (by decide) (fun hg => x_move rfl (fr.ev rfl)) ?_
   clear fr a; intro a fr
   refine fx_may (g := (decide (0 < ((wy.length : Nat) : Int)))) (v := .bool (decide (((turns : Nat) : Int) < 300))) fr rfl rfl rfl (by simp) rfl (by decide) (fun hg => x_lss rfl ((fr.ev rfl).trans (onlyIf_t hg)) rfl rfl) ?_
   clear fr a; intro a fr
   refine fx_val (v := .bool ((decide (0 < ((wy.length : Nat) : Int))) && (decide (((turns : Nat) : Int) < 300)))) fr rfl rfl (by decide) (x_pick_and rfl (fr.ev rfl) (fun hb => ((fr.ev rfl)).trans (onlyIf_t (by simp_all))) (fun _ => rfl) rfl) ?_
   clear fr a; intro a fr
   refine wpList_nil ?_
   refine fx_next ?_
   refine fx_cond fr rfl (fun hc52 => ?_) (fun hc52 => ?_)
   ·skip
    have hc52s := hc52
    try simp at hc52s
    refine wp_skip ?_
    refine fx_next ?_
    refine wp_seq ?_
    refine wp_block ?_
    refine wp_seq ?_
    have hwp : 0 < wy.length := by omega
    refine wp_region_lit ?_
    refine fx_val (v := .slice W2 wy.length wc2) fr rfl rfl (by decide) (x_move rfl (fr.ev rfl)) ?_
    clear fr a; intro a fr
    obtain ⟨g53, o54, hA55⟩ := (OW.view).some_ (by first | omega | decide)
    refine fx_val (v := .pointer (some ⟨g53, o54 + 0 * 20, none⟩)) fr rfl rfl (by decide) (x_indexV Try.underlying23 sz36 rfl (fr.ev rfl) hA55 rfl (by first | omega | decide) rfl) ?_
    clear fr a; intro a fr
    refine fx_val (v := .agg (msgE.arr (wy.getD 0 msg0))) fr rfl rfl (by decide) (x_loadE (E := msgE) ag36 rfl rfl (fr.ev rfl) ((OW.view).elem hA55 0 msg0 (by omega))) ?_
    clear fr a; intro a fr
    refine fx_new fr rfl rfl (by decide) (x_alloc (z := .agg (#[.int .i64 0, .int .i64 0, .int .i64 0, .int .u32 0, .int .u8 0, .int .u8 0, .int .u8 0, .int .u8 0, .int .u8 0, .int .u8 0, .int .u8 0, .int .u8 0, .int .u8 0, .int .u8 0, .int .u8 0, .int .u8 0, .int .u8 0, .int .u8 0, .int .u8 0, .int .u8 0])) (cs := msgE.arr msg0) rfl (by kernel_rfl) rfl) ?_
    clear fr a
    intro b56 w57 hN58 B59 hb60 a fr
    have ap_FpX_b56 : ¬ FpX b56 := HH.apart hb60
    have ap_FpY_b56 : ¬ FpY b56 := RR.apart hb60
    have ne_b15_b56 : NE b15 b56 := NE.mk (Nat.lt_of_lt_of_le B18.lt hb60)
    have ap_W2_b56 : Apart W2 b56 := OW.apart hb60
    have g_b56 := Nat.le_trans hF.size hb60
    replace HH := HH.new hN58
    replace RR := RR.new hN58
    replace B18 := B18.new hN58
    replace OW := OW.new hN58
    replace hF := hF.trNew hN58
    refine fx_storeS sz36 rfl rfl rfl (fr.ev rfl) (fr.ev rfl) (msgE.all _) B59 (msgE.size _) (msgE.size _) fun w61 hO62 hBq => ?_
    replace HH := HH.only hO62 (ne1P ap_FpX_b56)
    replace RR := RR.only hO62 (ne1P ap_FpY_b56)
    replace B18 := B18.only hO62 (by first | exact ne_b15_b56 | exact ne_b56_b15.symm | (show ¬ b15 = b56; omega))
    replace OW := OW.only hO62 (Apart.ne1 ap_W2_b56)
    replace hF := hF.loc hO62 (.inr g_b56)
    replace B59 := hBq
    clear hBq
    refine wpList_nil ?_
    refine fx_next ?_
    refine wp_seq ?_
    refine wp_region_lit ?_
    refine fx_val (v := .slice W2 wy.length wc2) fr rfl rfl (by decide) (x_move rfl (fr.ev rfl)) ?_
    clear fr a; intro a fr
    refine fx_val (v := .slice (cutA W2 wc2 1 20) (wy.length - 1) (wc2 - 1)) fr rfl rfl (by decide) (x_slice_from Try.underlying23 sz36 rfl (fr.ev rfl) rfl (by omega)) ?_
    clear fr a; intro a fr
    refine fx_val (v := .slice (cutA W2 wc2 1 20) (wy.length - 1) (wc2 - 1)) fr rfl rfl (by decide) (x_assign rfl (fr.ev rfl)) ?_
    clear fr a; intro a fr
    refine wpList_nil ?_
    refine fx_next ?_
    refine wp_seq ?_
    refine wp_seq ?_
    have OWd := OW.drop 1 (by omega)
    obtain ⟨W3, hW3⟩ : ∃ W3, W3 = cutA W2 wc2 1 20 := ⟨_, rfl⟩
    have hcut : ∀ g, inA W3 g → inA W2 g := fun g hg => cut_inO OW (hW3 ▸ hg)
    change Own msgE w61 (cutA W2 wc2 1 20) (wc2 - 1) (wy.drop 1) at OWd
    rw [← hW3] at fr OWd
    have ap2_FpX_W3 : ∀ k, FpX k → inA W3 k → False := fun k h1 h2 => ap2_FpX_W2 k h1 (hcut k h2)
    have ap2_FpY_W3 : ∀ k, FpY k → inA W3 k → False := fun k h1 h2 => ap2_FpY_W2 k h1 (hcut k h2)
    have ap_W3_b15 : Apart W3 b15 := fun h => ap_W2_b15 (hcut _ h)
    have ap_W3_b56 : Apart W3 b56 := fun h => ap_W2_b56 (hcut _ h)
    have gA_W3 : ∀ g, inA W3 g → (fun _ => False) g ∨ w.heap.size ≤ g := fun g hg => gA_W2 g (hcut g hg)
    have hdl : (wy.drop 1).length = wy.length - 1 := List.length_drop ..
    rw [← hdl] at fr
    refine wp_region_lit ?_
    refine fx_val (v := .pointer (some ⟨b56, 2, none⟩)) fr rfl rfl (by decide) (x_fieldAddr fo36_2 rfl (fr.ev rfl) rfl) ?_
    clear fr a; intro a fr
    refine fx_val (v := .int .i64 ((wy.getD 0 msg0).dst)) fr rfl rfl (by decide) (x_load1 pl3 rfl (fr.ev rfl) (B59.cell 2 rfl)) ?_
    clear fr a; intro a fr
    refine fx_val (v := .bool (decide ((wy.getD 0 msg0).dst ≠ 4))) fr rfl rfl (by decide) (x_neq rfl (fr.ev rfl) rfl rfl) ?_
    clear fr a; intro a fr
    refine wpList_nil ?_
    refine fx_next ?_
    refine fx_cond fr rfl (fun hc63 => ?_) (fun hc63 => ?_)
    ·skip
     have hc63 := of_decide_eq_true hc63
     refine wp_seq ?_
     refine wp_region_lit ?_
     refine fx_val (v := .agg (msgE.arr (wy.getD 0 msg0))) fr rfl rfl (by decide) (x_loadE (E := msgE) ag36 rfl rfl (fr.ev rfl) (B59.rangeE msgE)) ?_
     clear fr a; intro a fr
     refine fx_val (v := .int .i64 ((turns : Nat) : Int)) fr rfl rfl (by decide) (x_move rfl (fr.ev rfl)) ?_
     clear fr a; intro a fr
     refine fx_val (v := .int .u8 (IntKind.u8.wrap ((turns : Nat) : Int))) fr rfl rfl (by decide) (x_convert Try.underlying3 Try.underlying5 rfl (fr.ev rfl) rfl) ?_
     clear fr a; intro a fr
     refine fx_call fr rfl rfl (by decide) (x_call (vs := [.agg (msgE.arr (wy.getD 0 msg0)), .int .u8 (IntKind.u8.wrap ((turns : Nat) : Int))]) rfl rfl ⟨(fr.ev rfl), (fr.ev rfl), trivial⟩ Try.func16 nm16 rfl) (answer_c (wy.getD 0 msg0) (IntKind.u8.wrap ((turns : Nat) : Int)) (u8bd _) _) ?_
     clear fr a
     rintro v w64 ⟨rfl, hN65⟩ a fr
     replace HH := HH.new hN65
     replace RR := RR.new hN65
     replace B18 := B18.new hN65
     replace B59 := B59.new hN65
     replace OWd := OWd.new hN65
     replace hF := hF.trNew hN65
     refine fx_val (v := .tuple #[.agg (msgE.arr (ansF (wy.getD 0 msg0) (IntKind.u8.wrap ((turns : Nat) : Int)) (u8bd _)).1), .bool ((ansF (wy.getD 0 msg0) (IntKind.u8.wrap ((turns : Nat) : Int)) (u8bd _)).2)]) fr rfl rfl (by decide) (x_move rfl (fr.ev rfl)) ?_
     clear fr a; intro a fr
     refine fx_val (v := .agg (msgE.arr (ansF (wy.getD 0 msg0) (IntKind.u8.wrap ((turns : Nat) : Int)) (u8bd _)).1)) fr rfl rfl (by decide) (x_extract rfl (fr.ev rfl) rfl) ?_
     clear fr a; intro a fr
     refine fx_val (v := .bool ((ansF (wy.getD 0 msg0) (IntKind.u8.wrap ((turns : Nat) : Int)) (u8bd _)).2)) fr rfl rfl (by decide) (x_extract rfl (fr.ev rfl) rfl) ?_
     clear fr a; intro a fr
     refine fx_new fr rfl rfl (by decide) (x_alloc (z := .agg (#[.int .i64 0, .int .i64 0, .int .i64 0, .int .u32 0, .int .u8 0, .int .u8 0, .int .u8 0, .int .u8 0, .int .u8 0, .int .u8 0, .int .u8 0, .int .u8 0, .int .u8 0, .int .u8 0, .int .u8 0, .int .u8 0, .int .u8 0, .int .u8 0, .int .u8 0, .int .u8 0])) (cs := msgE.arr msg0) rfl (by kernel_rfl) rfl) ?_
     clear fr a
     intro b66 w67 hN68 B69 hb70 a fr
     have ap_FpX_b66 : ¬ FpX b66 := HH.apart hb70
     have ap_FpY_b66 : ¬ FpY b66 := RR.apart hb70
     have ne_b15_b66 : NE b15 b66 := NE.mk (Nat.lt_of_lt_of_le B18.lt hb70)
     have ne_b56_b66 : NE b56 b66 := NE.mk (Nat.lt_of_lt_of_le B59.lt hb70)
     have ap_W3_b66 : Apart W3 b66 := OWd.apart hb70
     have g_b66 := Nat.le_trans hF.size hb70
     replace HH := HH.new hN68
     replace RR := RR.new hN68
     replace B18 := B18.new hN68
     replace B59 := B59.new hN68
     replace OWd := OWd.new hN68
     replace hF := hF.trNew hN68
     refine fx_storeS sz36 rfl rfl rfl (fr.ev rfl) (fr.ev rfl) (msgE.all _) B69 (msgE.size _) (msgE.size _) fun w71 hO72 hBq => ?_
     replace HH := HH.only hO72 (ne1P ap_FpX_b66)
     replace RR := RR.only hO72 (ne1P ap_FpY_b66)
     replace B18 := B18.only hO72 (by first | exact ne_b15_b66 | exact ne_b66_b15.symm | (show ¬ b15 = b66; omega))
     replace B59 := B59.only hO72 (by first | exact ne_b56_b66 | exact ne_b66_b56.symm | (show ¬ b56 = b66; omega))
     replace OWd := OWd.only hO72 (Apart.ne1 ap_W3_b66)
     replace hF := hF.loc hO72 (.inr g_b66)
     replace B69 := hBq
     clear hBq
     refine fx_val (v := .bool ((ansF (wy.getD 0 msg0) (IntKind.u8.wrap ((turns : Nat) : Int)) (u8bd _)).2)) fr rfl rfl (by decide) (x_assign rfl (fr.ev rfl)) ?_
     clear fr a; intro a fr
     refine wpList_nil ?_
     refine fx_next ?_
     refine wp_seq ?_
     refine wp_seq ?_
     refine wp_region_lit ?_
     refine fx_val (v := .bool ((ansF (wy.getD 0 msg0) (IntKind.u8.wrap ((turns : Nat) : Int)) (u8bd _)).2)) fr rfl rfl (by decide) (x_move rfl (fr.ev rfl)) ?_
     clear fr a; intro a fr
     refine wpList_nil ?_
     refine fx_next ?_
     refine fx_cond fr rfl (fun hc73 => ?_) (fun hc73 => ?_)
     ·skip
      refine wp_region_lit ?_
      refine fx_val (v := .slice W3 ((wy.drop 1).length) (wc2 - 1)) fr rfl rfl (by decide) (x_move rfl (fr.ev rfl)) ?_
      clear fr a; intro a fr
      refine fx_val (v := .agg (msgE.arr (ansF (wy.getD 0 msg0) (IntKind.u8.wrap ((turns : Nat) : Int)) (u8bd _)).1)) fr rfl rfl (by decide) (x_loadE (E := msgE) ag36 rfl rfl (fr.ev rfl) (B69.rangeE msgE)) ?_
      clear fr a; intro a fr
      refine fx_build1 (E := msgE) (p := (ansF (wy.getD 0 msg0) (IntKind.u8.wrap ((turns : Nat) : Int)) (u8bd _)).1) elMsg (by decide) fr rfl rfl (by decide) rfl (fr.ev rfl) ?_
      clear fr a
      intro A74 w75 hN76 O77 hA78 a fr
      have ap2_FpX_A74 : ∀ k, FpX k → inA A74 k → False := symP (new_apart2P hA78 fun _ hg => HH.lt hg)
      have ap2_FpY_A74 : ∀ k, FpY k → inA A74 k → False := symP (new_apart2P hA78 fun _ hg => RR.lt hg)
      have ap_A74_b15 : Apart A74 b15 := new_apart hA78 B18.lt
      have ap_A74_b56 : Apart A74 b56 := new_apart hA78 B59.lt
      have ap2_W3_A74 : Apart2 W3 A74 := (new_apart2 hA78 fun _ hg => OWd.lt hg).symm
      have ap_A74_b66 : Apart A74 b66 := new_apart hA78 B69.lt
      have gA_A74 := gA_new hF hA78
      have gN_A74 := fun g (hg : inA A74 g) => Nat.le_trans hF.size (hA78 g hg)
      replace HH := HH.new hN76
      replace RR := RR.new hN76
      replace B18 := B18.new hN76
      replace B59 := B59.new hN76
      replace OWd := OWd.new hN76
      replace B69 := B69.new hN76
      replace hF := hF.trNew hN76
      refine fx_append (E := msgE) (l := wy.drop 1) (l' := [(ansF (wy.getD 0 msg0) (IntKind.u8.wrap ((turns : Nat) : Int)) (u8bd _)).1]) elMsg fr rfl rfl (by decide) rfl (fr.ev rfl) (fr.ev rfl) (by first | rfl | (simp; done) | (simp; omega)) (by first | rfl | (simp; done) | (simp; omega)) OWd O77.view (by first | omega | (simp only [List.length_append, List.length_cons, List.length_nil, List.length_take, List.length_drop]; omega) | (simp; omega)) (by first | (unfold maxLen; done) | (unfold maxLen; first | omega | (simp only [List.length_append, List.length_cons, List.length_nil]; omega) | (simp; done) | (simp; omega))) ?_
      clear fr a
      intro A79 cap80 w81 O82 hO83 mv84 a fr
      have ap2_A79_FpX : ∀ k, inA A79 k → FpX k → False := moved_apart2P mv84 (symP ap2_FpX_W3) fun _ hg => HH.lt hg
      have ap2_A79_FpY : ∀ k, inA A79 k → FpY k → False := moved_apart2P mv84 (symP ap2_FpY_W3) fun _ hg => RR.lt hg
      have ap_A79_b15 : Apart A79 b15 := moved_apart mv84 ap_W3_b15 B18.lt
      have ap_A79_b56 : Apart A79 b56 := moved_apart mv84 ap_W3_b56 B59.lt
      have ap_A79_b66 : Apart A79 b66 := moved_apart mv84 ap_W3_b66 B69.lt
      have ap2_A79_A74 : Apart2 A79 A74 := moved_apart2 mv84 ap2_W3_A74 fun _ hg => O77.lt hg
      have gA_A79 := gA_moved hF mv84 gA_W3
      replace HH := HH.only hO83 (fun g h1 h2 => ap2_FpX_W3 g h1 h2)
      replace RR := RR.only hO83 (fun g h1 h2 => ap2_FpY_W3 g h1 h2)
      replace B18 := B18.only hO83 ap_W3_b15
      replace B59 := B59.only hO83 ap_W3_b56
      replace B69 := B69.only hO83 ap_W3_b66
      replace O77 := O77.only hO83 (fun g h1 h2 => ap2_W3_A74.symm g h1 h2)
      replace hF := hF.locA hO83 gA_W3
      clear OWd
      refine fx_val (v := .slice A79 (((wy.drop 1) ++ ([(ansF (wy.getD 0 msg0) (IntKind.u8.wrap ((turns : Nat) : Int)) (u8bd _)).1])).length) cap80) fr rfl rfl (by decide) (x_assign rfl (fr.ev rfl)) ?_
      clear fr a; intro a fr
      refine wpList_nil ?_
      refine fx_next ?_
      refine wp_exit ?_
      refine fx_xt ?_
      refine fx_xx ?_
      refine fx_next ?_
      refine wp_region_lit ?_
      refine fx_val (v := .int .i64 ((turns : Nat) : Int)) fr rfl rfl (by decide) (x_move rfl (fr.ev rfl)) ?_
      clear fr a; intro a fr
      refine fx_val (v := .int .i64 ((turns + 1 : Nat) : Int)) fr rfl rfl (by decide) (x_add rfl (fr.ev rfl) rfl (i64w (r := ((turns + 1 : Nat) : Int)) (by omega) (by omega))) ?_
      clear fr a; intro a fr
      refine fx_val (v := .int .i64 ((turns + 1 : Nat) : Int)) fr rfl rfl (by decide) (x_assign rfl (fr.ev rfl)) ?_
      clear fr a; intro a fr
      refine wpList_nil ?_
      refine fx_next ?_
      have hsa := hSv.answer (way_perm0 hwp) hc63 (IntKind.u8.wrap ((turns : Nat) : Int)) (u8bd _)
      rw [if_pos (show (ansF (wy.getD 0 msg0) (IntKind.u8.wrap ((turns : Nat) : Int)) (u8bd _)).2 = true from hc73)] at hsa
      exact ⟨_, by omega, (turns + 1), hd, FpX, FpY, AY, capY, BY, cbY, A79, cap80, ((wy.drop 1) ++ ([(ansF (wy.getD 0 msg0) (IntKind.u8.wrap ((turns : Nat) : Int)) (u8bd _)).1])), (told + (if ((wy.getD 0 msg0).kind = 7 ∨ (wy.getD 0 msg0).kind = 8 ∨ (wy.getD 0 msg0).kind = 9 ∨ (wy.getD 0 msg0).kind = 10) then 1 else 0)), rfl, fr.sub ⟨rfl, rfl, rfl, rfl, rfl, trivial⟩, hF, HH, RR, B18, O82, hsa, hEl, hbl, ap2_FpX_FpY, ap_FpX_b15, (symP ap2_A79_FpX), ap_FpY_b15, (symP ap2_A79_FpY), ap_A79_b15, gA_FpX, gA_FpY, gA_A79⟩
     ·skip
      refine wp_skip ?_
      refine fx_next ?_
      refine wp_exit ?_
      refine fx_xt ?_
      refine fx_xx ?_
      refine fx_next ?_
      refine wp_region_lit ?_
      refine fx_val (v := .int .i64 ((turns : Nat) : Int)) fr rfl rfl (by decide) (x_move rfl (fr.ev rfl)) ?_
      clear fr a; intro a fr
      refine fx_val (v := .int .i64 ((turns + 1 : Nat) : Int)) fr rfl rfl (by decide) (x_add rfl (fr.ev rfl) rfl (i64w (r := ((turns + 1 : Nat) : Int)) (by omega) (by omega))) ?_
      clear fr a; intro a fr
      refine fx_val (v := .int .i64 ((turns + 1 : Nat) : Int)) fr rfl rfl (by decide) (x_assign rfl (fr.ev rfl)) ?_
      clear fr a; intro a fr
      refine wpList_nil ?_
      refine fx_next ?_
      have hsa := hSv.answer (way_perm0 hwp) hc63 (IntKind.u8.wrap ((turns : Nat) : Int)) (u8bd _)
      rw [if_neg (show ¬ (ansF (wy.getD 0 msg0) (IntKind.u8.wrap ((turns : Nat) : Int)) (u8bd _)).2 = true from (by rw [hc73]; decide))] at hsa
      rw [List.append_nil] at hsa
      exact ⟨_, by omega, (turns + 1), hd, FpX, FpY, AY, capY, BY, cbY, W3, (wc2 - 1), (wy.drop 1), (told + (if ((wy.getD 0 msg0).kind = 7 ∨ (wy.getD 0 msg0).kind = 8 ∨ (wy.getD 0 msg0).kind = 9 ∨ (wy.getD 0 msg0).kind = 10) then 1 else 0)), rfl, fr.sub ⟨rfl, rfl, rfl, rfl, rfl, trivial⟩, hF, HH, RR, B18, OWd, hsa, hEl, hbl, ap2_FpX_FpY, ap_FpX_b15, ap2_FpX_W3, ap_FpY_b15, ap2_FpY_W3, ap_W3_b15, gA_FpX, gA_FpY, gA_W3⟩
    ·skip
     have hc63 := of_decide_eq_false hc63
     refine wp_skip ?_
     refine fx_next ?_
     refine wp_seq ?_
     refine wp_region_lit ?_
     refine fx_val (v := .pointer (some ⟨hb1, 0, none⟩)) fr rfl rfl (by decide) (x_move rfl (fr.ev rfl)) ?_
     clear fr a; intro a fr
     refine fx_val (v := .agg (msgE.arr (wy.getD 0 msg0))) fr rfl rfl (by decide) (x_loadE (E := msgE) ag36 rfl rfl (fr.ev rfl) (B59.rangeE msgE)) ?_
     clear fr a; intro a fr
     refine fx_call fr rfl rfl (by decide) (x_call (vs := [.pointer (some ⟨hb1, 0, none⟩), .agg (msgE.arr (wy.getD 0 msg0))]) rfl rfl ⟨(fr.ev rfl), (fr.ev rfl), trivial⟩ Try.func12 nm12 rfl) (take_c HH (wy.getD 0 msg0) (hSv.hi.ok (by omega))) ?_
     clear fr a
     rintro v w93 ⟨A85, ac86, Fp87, rfl, O88, hA89, H90, hs91, hi92, hN94⟩ a fr
     clear HH
     have ap2_Fp87_FpY : ∀ k, Fp87 k → FpY k → False := moved_apart2P hi92 ap2_FpX_FpY fun _ hg => RR.lt hg
     have ap2_FpY_A85 : ∀ k, FpY k → inA A85 k → False := symP (new_apart2P hA89 fun _ hg => RR.lt hg)
     have ap_Fp87_b15 : ¬ Fp87 b15 := moved_apartP hi92 ap_FpX_b15 B18.lt
     have ap_A85_b15 : Apart A85 b15 := new_apart hA89 B18.lt
     have ap_Fp87_b56 : ¬ Fp87 b56 := moved_apartP hi92 ap_FpX_b56 B59.lt
     have ap_A85_b56 : Apart A85 b56 := new_apart hA89 B59.lt
     have ap2_Fp87_W3 : ∀ k, Fp87 k → inA W3 k → False := moved_apart2P hi92 ap2_FpX_W3 fun _ hg => OWd.lt hg
     have ap2_W3_A85 : Apart2 W3 A85 := (new_apart2 hA89 fun _ hg => OWd.lt hg).symm
     have ap2_Fp87_A85 : ∀ k, Fp87 k → inA A85 k → False := hs91
     have gA_Fp87 := gA_movedP hF hi92 gA_FpX
     have gA_A85 := gA_new hF hA89
     replace RR := RR.only hN94 (fun g h1 h2 => (symP ap2_FpX_FpY) g h1 h2)
     replace B18 := B18.only hN94 ap_FpX_b15
     replace B59 := B59.only hN94 ap_FpX_b56
     replace OWd := OWd.only hN94 (fun g h1 h2 => (symP ap2_FpX_W3) g h1 h2)
     replace hF := hF.locP hN94 gA_FpX
     refine fx_val (v := .tuple #[.slice A85 ((takeH hd (wy.getD 0 msg0)).2.1.length) ac86, .int .i64 ((takeH hd (wy.getD 0 msg0)).2.2)]) fr rfl rfl (by decide) (x_move rfl (fr.ev rfl)) ?_
     clear fr a; intro a fr
     refine fx_val (v := .slice A85 ((takeH hd (wy.getD 0 msg0)).2.1.length) ac86) fr rfl rfl (by decide) (x_extract rfl (fr.ev rfl) rfl) ?_
     clear fr a; intro a fr
     refine fx_val (v := .int .i64 ((takeH hd (wy.getD 0 msg0)).2.2)) fr rfl rfl (by decide) (x_extract rfl (fr.ev rfl) rfl) ?_
     clear fr a; intro a fr
     refine fx_val (v := .slice A85 ((takeH hd (wy.getD 0 msg0)).2.1.length) ac86) fr rfl rfl (by decide) (x_assign rfl (fr.ev rfl)) ?_
     clear fr a; intro a fr
     refine fx_val (v := .int .i64 ((takeH hd (wy.getD 0 msg0)).2.2)) fr rfl rfl (by decide) (x_assign rfl (fr.ev rfl)) ?_
     clear fr a; intro a fr
     refine wpList_nil ?_
     refine fx_next ?_
     refine wp_seq ?_
     refine wp_region_lit ?_
     refine fx_val (v := .agg (#[.slice AY hd.bs.length capY, .slice BY hd.E.length cbY])) fr rfl rfl (by decide) (x_loadS ag28 rfl (fr.ev rfl) rfl B18.range) ?_
     clear fr a; intro a fr
     refine fx_val (v := .agg (msgE.arr (wy.getD 0 msg0))) fr rfl rfl (by decide) (x_loadE (E := msgE) ag36 rfl rfl (fr.ev rfl) (B59.rangeE msgE)) ?_
     clear fr a; intro a fr
     refine fx_call fr rfl rfl (by decide) (x_call (vs := [.agg (#[.slice AY hd.bs.length capY, .slice BY hd.E.length cbY]), .agg (msgE.arr (wy.getD 0 msg0))]) rfl rfl ⟨(fr.ev rfl), (fr.ev rfl), trivial⟩ Try.func19 nm19 rfl) (rtake_c (wy.getD 0 msg0) RR hSv.hi (by omega) (by omega)) ?_
     clear fr a
     rintro v w107 ⟨A95, cap96, B97, cb98, FpR99, M100, mc101, rfl, R102, O103, mv104, hM105, hap106, hN108⟩ a fr
     have ap_FpR99_b15 : ¬ FpR99 b15 := moved_apartP mv104 ap_FpY_b15 B18.lt
     have ap_FpR99_b56 : ¬ FpR99 b56 := moved_apartP mv104 ap_FpY_b56 B59.lt
     have ap2_FpR99_W3 : ∀ k, FpR99 k → inA W3 k → False := moved_apart2P mv104 ap2_FpY_W3 fun _ hg => OWd.lt hg
     have ap2_FpR99_Fp87 : ∀ k, FpR99 k → Fp87 k → False := moved_apart2P mv104 (symP ap2_Fp87_FpY) fun _ hg => H90.lt hg
     have ap2_FpR99_A85 : ∀ k, FpR99 k → inA A85 k → False := moved_apart2P mv104 ap2_FpY_A85 fun _ hg => O88.lt hg
     have gA_FpR99 := gA_movedP hF mv104 gA_FpY
     have ap2_FpY_M100 : ∀ k, FpY k → inA M100 k → False := symP (new_apart2P hM105 fun _ hg => RR.lt hg)
     have ap_M100_b15 : Apart M100 b15 := new_apart hM105 B18.lt
     have ap_M100_b56 : Apart M100 b56 := new_apart hM105 B59.lt
     have ap2_W3_M100 : Apart2 W3 M100 := (new_apart2 hM105 fun _ hg => OWd.lt hg).symm
     have ap2_Fp87_M100 : ∀ k, Fp87 k → inA M100 k → False := symP (new_apart2P hM105 fun _ hg => H90.lt hg)
     have ap2_A85_M100 : Apart2 A85 M100 := (new_apart2 hM105 fun _ hg => O88.lt hg).symm
     have gA_M100 := gA_new hF hM105
     have gN_M100 := fun g (hg : inA M100 g) => Nat.le_trans hF.size (hM105 g hg)
     have ap2_FpR99_M100 := hap106
     replace RR := RR.new hN108
     replace B18 := B18.new hN108
     replace B59 := B59.new hN108
     replace OWd := OWd.new hN108
     replace H90 := H90.new hN108
     replace O88 := O88.new hN108
     replace hF := hF.trNew hN108
     refine fx_val (v := .tuple #[.agg (#[.slice A95 (((takeH hd (wy.getD 0 msg0)).1).bs.length) cap96, .slice B97 (((takeH hd (wy.getD 0 msg0)).1).E.length) cb98]), .slice M100 ((takeH hd (wy.getD 0 msg0)).2.1.length) mc101, .int .i64 ((takeH hd (wy.getD 0 msg0)).2.2)]) fr rfl rfl (by decide) (x_move rfl (fr.ev rfl)) ?_
     clear fr a; intro a fr
     refine fx_val (v := .agg (#[.slice A95 (((takeH hd (wy.getD 0 msg0)).1).bs.length) cap96, .slice B97 (((takeH hd (wy.getD 0 msg0)).1).E.length) cb98])) fr rfl rfl (by decide) (x_extract rfl (fr.ev rfl) rfl) ?_
     clear fr a; intro a fr
     refine fx_val (v := .slice M100 ((takeH hd (wy.getD 0 msg0)).2.1.length) mc101) fr rfl rfl (by decide) (x_extract rfl (fr.ev rfl) rfl) ?_
     clear fr a; intro a fr
     refine fx_val (v := .int .i64 ((takeH hd (wy.getD 0 msg0)).2.2)) fr rfl rfl (by decide) (x_extract rfl (fr.ev rfl) rfl) ?_
     clear fr a; intro a fr
     refine fx_new fr rfl rfl (by decide) (x_alloc (z := .agg (#[.slice none 0 0, .slice none 0 0])) (cs := #[.slice none 0 0, .slice none 0 0]) rfl (by kernel_rfl) rfl) ?_
     clear fr a
     intro b109 w110 hN111 B112 hb113 a fr
     have ap_FpY_b109 : ¬ FpY b109 := RR.apart hb113
     have ne_b15_b109 : NE b15 b109 := NE.mk (Nat.lt_of_lt_of_le B18.lt hb113)
     have ne_b56_b109 : NE b56 b109 := NE.mk (Nat.lt_of_lt_of_le B59.lt hb113)
     have ap_W3_b109 : Apart W3 b109 := OWd.apart hb113
     have ap_Fp87_b109 : ¬ Fp87 b109 := H90.apart hb113
     have ap_A85_b109 : Apart A85 b109 := O88.apart hb113
     have ap_FpR99_b109 : ¬ FpR99 b109 := R102.apart hb113
     have ap_M100_b109 : Apart M100 b109 := O103.apart hb113
     have g_b109 := Nat.le_trans hF.size hb113
     replace RR := RR.new hN111
     replace B18 := B18.new hN111
     replace B59 := B59.new hN111
     replace OWd := OWd.new hN111
     replace H90 := H90.new hN111
     replace O88 := O88.new hN111
     replace R102 := R102.new hN111
     replace O103 := O103.new hN111
     replace hF := hF.trNew hN111
     refine fx_storeS sz28 rfl rfl rfl (fr.ev rfl) (fr.ev rfl) (by simp [Value.oneCell']) B112 rfl rfl fun w114 hO115 hBq => ?_
     replace RR := RR.only hO115 (ne1P ap_FpY_b109)
     replace B18 := B18.only hO115 (by first | exact ne_b15_b109 | exact ne_b109_b15.symm | (show ¬ b15 = b109; omega))
     replace B59 := B59.only hO115 (by first | exact ne_b56_b109 | exact ne_b109_b56.symm | (show ¬ b56 = b109; omega))
     replace OWd := OWd.only hO115 (Apart.ne1 ap_W3_b109)
     replace H90 := H90.only hO115 (ne1P ap_Fp87_b109)
     replace O88 := O88.only hO115 (Apart.ne1 ap_A85_b109)
     replace R102 := R102.only hO115 (ne1P ap_FpR99_b109)
     replace O103 := O103.only hO115 (Apart.ne1 ap_M100_b109)
     replace hF := hF.loc hO115 (.inr g_b109)
     replace B112 := hBq
     clear hBq
     refine fx_val (v := .slice M100 ((takeH hd (wy.getD 0 msg0)).2.1.length) mc101) fr rfl rfl (by decide) (x_assign rfl (fr.ev rfl)) ?_
     clear fr a; intro a fr
     refine fx_val (v := .int .i64 ((takeH hd (wy.getD 0 msg0)).2.2)) fr rfl rfl (by decide) (x_assign rfl (fr.ev rfl)) ?_
     clear fr a; intro a fr
     refine wpList_nil ?_
     refine fx_next ?_
     refine wp_seq ?_
     refine wp_seq ?_
     have hst := hSv.take (way_perm0 hwp) (Decidable.not_not.1 hc63)
     have hTl := take_len hd (wy.getD 0 msg0)
     have hTb := take_bs hd (wy.getD 0 msg0)
     have hln2 := hst.2.len
     simp only [List.length_append] at hln2
     generalize takeH hd (wy.getD 0 msg0) = T9 at *
     refine wp_region_lit ?_
     refine fx_val (v := .int .i64 T9.2.2) fr rfl rfl (by decide) (x_move rfl (fr.ev rfl)) ?_
     clear fr a; intro a fr
     refine fx_val (v := .int .i64 T9.2.2) fr rfl rfl (by decide) (x_move rfl (fr.ev rfl)) ?_
     clear fr a; intro a fr
     refine fx_val (v := .bool false) fr rfl rfl (by decide) (x_neq rfl (fr.ev rfl) (fr.ev rfl) (by simp)) ?_
     clear fr a; intro a fr
     refine fx_val (v := .bool false) fr rfl rfl (by decide) (x_move rfl (fr.ev rfl)) ?_
     clear fr a; intro a fr
     refine fx_val (v := .slice A85 T9.2.1.length ac86) fr (fr.want rfl rfl rfl) rfl (by decide) (x_move rfl (fr.ev rfl)) ?_
     clear fr a; intro a fr
     refine fx_val (v := .slice M100 T9.2.1.length mc101) fr (fr.want rfl rfl rfl) rfl (by decide) (x_move rfl (fr.ev rfl)) ?_
     clear fr a; intro a fr
     refine fx_call fr (fr.want rfl rfl rfl) rfl (by decide) (x_call (vs := [.slice A85 T9.2.1.length ac86, .slice M100 T9.2.1.length mc101]) rfl rfl ⟨(fr.ev rfl), (fr.ev rfl), trivial⟩ Try.func20 nm20 rfl) (msgs_c (la := T9.2.1) (lb := T9.2.1) (O88.view) (O103.view)) ?_
     clear fr a
     rintro v w116 ⟨rfl, hN117⟩ a fr
     replace RR := RR.new hN117
     replace B18 := B18.new hN117
     replace B59 := B59.new hN117
     replace OWd := OWd.new hN117
     replace H90 := H90.new hN117
     replace O88 := O88.new hN117
     replace R102 := R102.new hN117
     replace O103 := O103.new hN117
     replace B112 := B112.new hN117
     replace hF := hF.trNew hN117
     rw [show decide (T9.2.1 = T9.2.1) = true from decide_eq_true rfl] at fr
     refine fx_val (v := .bool false) fr (fr.want rfl rfl rfl) rfl (by decide) (x_not rfl (fr.ev rfl) rfl) ?_
     clear fr a; intro a fr
     refine fx_val (v := .bool false) fr rfl rfl (by decide) (x_pick_f rfl (fr.ev rfl) (fr.ev rfl)) ?_
     clear fr a; intro a fr
     refine fx_val (v := .bool false) fr rfl rfl (by decide) (x_move rfl (fr.ev rfl)) ?_
     clear fr a; intro a fr
     refine fx_val (v := .pointer (some ⟨hb1, 0, none⟩)) fr (fr.want rfl rfl rfl) rfl (by decide) (x_move rfl (fr.ev rfl)) ?_
     clear fr a; intro a fr
     refine fx_val (v := .agg (#[.slice A95 ((T9.1).bs.length) cap96, .slice B97 ((T9.1).E.length) cb98])) fr (fr.want rfl rfl rfl) rfl (by decide) (x_loadS ag28 rfl (fr.ev rfl) rfl B112.range) ?_
     clear fr a; intro a fr
     refine fx_call fr (fr.want rfl rfl rfl) rfl (by decide) (x_call (vs := [.pointer (some ⟨hb1, 0, none⟩), .agg (#[.slice A95 ((T9.1).bs.length) cap96, .slice B97 ((T9.1).E.length) cb98])]) rfl rfl ⟨(fr.ev rfl), (fr.ev rfl), trivial⟩ Try.func21 nm21 rfl) (same_c H90 R102 (symP ap2_FpR99_Fp87) hst.2.hi (by omega)) ?_
     clear fr a
     rintro v w118 ⟨rfl, hN119⟩ a fr
     replace RR := RR.new hN119
     replace B18 := B18.new hN119
     replace B59 := B59.new hN119
     replace OWd := OWd.new hN119
     replace H90 := H90.new hN119
     replace O88 := O88.new hN119
     replace R102 := R102.new hN119
     replace O103 := O103.new hN119
     replace B112 := B112.new hN119
     replace hF := hF.trNew hN119
     refine fx_val (v := .bool false) fr (fr.want rfl rfl rfl) rfl (by decide) (x_not rfl (fr.ev rfl) rfl) ?_
     clear fr a; intro a fr
     refine fx_val (v := .bool false) fr rfl rfl (by decide) (x_pick_f rfl (fr.ev rfl) (fr.ev rfl)) ?_
     clear fr a; intro a fr
     refine wpList_nil ?_
     refine fx_next ?_
     refine fx_cond_f fr rfl ?_
     refine wp_skip ?_
     refine fx_next ?_
     refine wp_seq ?_
     refine wp_region_lit ?_
     refine fx_val (v := .agg (#[.slice A95 ((T9.1).bs.length) cap96, .slice B97 ((T9.1).E.length) cb98])) fr rfl rfl (by decide) (x_loadS ag28 rfl (fr.ev rfl) rfl B112.range) ?_
     clear fr a; intro a fr
     refine fx_storeS sz28 rfl rfl rfl (fr.ev rfl) (fr.ev rfl) (by simp [Value.oneCell']) B18 rfl rfl fun w120 hO121 hBq => ?_
     replace RR := RR.only hO121 (ne1P ap_FpY_b15)
     replace B59 := B59.only hO121 (by first | exact ne_b56_b15 | exact ne_b15_b56.symm | (show ¬ b56 = b15; omega))
     replace OWd := OWd.only hO121 (Apart.ne1 ap_W3_b15)
     replace H90 := H90.only hO121 (ne1P ap_Fp87_b15)
     replace O88 := O88.only hO121 (Apart.ne1 ap_A85_b15)
     replace R102 := R102.only hO121 (ne1P ap_FpR99_b15)
     replace O103 := O103.only hO121 (Apart.ne1 ap_M100_b15)
     replace B112 := B112.only hO121 (by first | exact ne_b109_b15 | exact ne_b15_b109.symm | (show ¬ b109 = b15; omega))
     replace hF := hF.loc hO121 (.inr g_b15)
     replace B18 := hBq
     clear hBq
     refine wpList_nil ?_
     refine fx_next ?_
     refine wp_region_lit ?_
     refine fx_val (v := .slice W3 ((wy.drop 1).length) (wc2 - 1)) fr rfl rfl (by decide) (x_move rfl (fr.ev rfl)) ?_
     clear fr a; intro a fr
     refine fx_val (v := .slice A85 T9.2.1.length ac86) fr rfl rfl (by decide) (x_move rfl (fr.ev rfl)) ?_
     clear fr a; intro a fr
     refine fx_append (E := msgE) (l := wy.drop 1) (l' := T9.2.1) elMsg fr rfl rfl (by decide) rfl (fr.ev rfl) (fr.ev rfl) (by first | rfl | (simp; done) | (simp; omega)) (by first | rfl | (simp; done) | (simp; omega)) OWd O88.view (by first | omega | (simp only [List.length_append, List.length_cons, List.length_nil, List.length_take, List.length_drop]; omega) | (simp; omega)) (by first | (unfold maxLen; done) | (unfold maxLen; first | omega | (simp only [List.length_append, List.length_cons, List.length_nil]; omega) | (simp; done) | (simp; omega))) ?_
     clear fr a
     intro A122 cap123 w124 O125 hO126 mv127 a fr
     have ap2_A122_FpY : ∀ k, inA A122 k → FpY k → False := moved_apart2P mv127 (symP ap2_FpY_W3) fun _ hg => RR.lt hg
     have ap_A122_b56 : Apart A122 b56 := moved_apart mv127 ap_W3_b56 B59.lt
     have ap2_A122_Fp87 : ∀ k, inA A122 k → Fp87 k → False := moved_apart2P mv127 (symP ap2_Fp87_W3) fun _ hg => H90.lt hg
     have ap2_A122_A85 : Apart2 A122 A85 := moved_apart2 mv127 ap2_W3_A85 fun _ hg => O88.lt hg
     have ap2_A122_FpR99 : ∀ k, inA A122 k → FpR99 k → False := moved_apart2P mv127 (symP ap2_FpR99_W3) fun _ hg => R102.lt hg
     have ap2_A122_M100 : Apart2 A122 M100 := moved_apart2 mv127 ap2_W3_M100 fun _ hg => O103.lt hg
     have ap_A122_b109 : Apart A122 b109 := moved_apart mv127 ap_W3_b109 B112.lt
     have ap_A122_b15 : Apart A122 b15 := moved_apart mv127 ap_W3_b15 B18.lt
     have gA_A122 := gA_moved hF mv127 gA_W3
     replace RR := RR.only hO126 (fun g h1 h2 => ap2_FpY_W3 g h1 h2)
     replace B59 := B59.only hO126 ap_W3_b56
     replace H90 := H90.only hO126 (fun g h1 h2 => ap2_Fp87_W3 g h1 h2)
     replace O88 := O88.only hO126 (fun g h1 h2 => ap2_W3_A85.symm g h1 h2)
     replace R102 := R102.only hO126 (fun g h1 h2 => ap2_FpR99_W3 g h1 h2)
     replace O103 := O103.only hO126 (fun g h1 h2 => ap2_W3_M100.symm g h1 h2)
     replace B112 := B112.only hO126 ap_W3_b109
     replace B18 := B18.only hO126 ap_W3_b15
     replace hF := hF.locA hO126 gA_W3
     clear OWd
     refine fx_val (v := .slice A122 (((wy.drop 1) ++ T9.2.1).length) cap123) fr rfl rfl (by decide) (x_assign rfl (fr.ev rfl)) ?_
     clear fr a; intro a fr
     refine wpList_nil ?_
     refine fx_blk ?_
     refine fx_next ?_
     refine wp_region_lit ?_
     refine fx_val (v := .int .i64 ((turns : Nat) : Int)) fr rfl rfl (by decide) (x_move rfl (fr.ev rfl)) ?_
     clear fr a; intro a fr
     refine fx_val (v := .int .i64 ((turns + 1 : Nat) : Int)) fr rfl rfl (by decide) (x_add rfl (fr.ev rfl) rfl (i64w (r := ((turns + 1 : Nat) : Int)) (by omega) (by omega))) ?_
     clear fr a; intro a fr
     refine fx_val (v := .int .i64 ((turns + 1 : Nat) : Int)) fr rfl rfl (by decide) (x_assign rfl (fr.ev rfl)) ?_
     clear fr a; intro a fr
     refine wpList_nil ?_
     refine fx_next ?_
     exact ⟨_, by omega, (turns + 1), T9.1, Fp87, FpR99, A95, cap96, B97, cb98, A122, cap123, ((wy.drop 1) ++ T9.2.1), told, rfl, fr.sub ⟨rfl, rfl, rfl, rfl, rfl, trivial⟩, hF, H90, R102, B18, O125, hst.2, (hTl.trans hEl), (hTb.trans hbl), (symP ap2_FpR99_Fp87), ap_Fp87_b15, (symP ap2_A122_Fp87), ap_FpR99_b15, (symP ap2_A122_FpR99), ap_A122_b15, gA_Fp87, gA_FpR99, gA_A122⟩
   ·skip
    have hc52s := hc52
    try simp at hc52s
    refine wp_exit ?_
    refine fx_xt ?_
    refine fx_xt ?_
    refine fx_xx ?_
    refine fx_next ?_
    refine wp_seq ?_
    have hw0 : wy.length = 0 := by
     rcases Nat.eq_zero_or_pos wy.length with e | e
     ·exact e
     ·exfalso
      rw [decide_eq_true (show 0 < ((wy.length : Nat) : Int) by omega), decide_eq_true (show ((turns : Nat) : Int) < 300 by omega)] at hc52
      cases hc52
    have hdn : told = wy0.length ∧ idleB hd.E = true := by
     have h9 := hSv
     rw [List.eq_nil_of_length_eq_zero hw0] at h9
     exact h9.done
    have hw1 : ((wy.length : Nat) : Int) = 0 := by omega
    have hidl := hdn.2
    refine wp_region_lit ?_
    refine fx_val (v := .slice W2 wy.length wc2) fr rfl rfl (by decide) (x_move rfl (fr.ev rfl)) ?_
    clear fr a; intro a fr
    refine fx_val (v := .int .i64 ((wy.length : Nat) : Int)) fr rfl rfl (by decide) (x_len Try.underlying23 rfl (fr.ev rfl)) ?_
    clear fr a; intro a fr
    refine fx_val (v := .bool true) fr rfl rfl (by decide) (x_eql rfl (fr.ev rfl) rfl (decide_eq_true (by omega))) ?_
    clear fr a; intro a fr
    refine fx_val (v := .bool true) fr rfl rfl (by decide) (x_move rfl (fr.ev rfl)) ?_
    clear fr a; intro a fr
    refine fx_val (v := .pointer (some ⟨hb1, 0, none⟩)) fr (fr.want rfl rfl rfl) rfl (by decide) (x_move rfl (fr.ev rfl)) ?_
    clear fr a; intro a fr
    refine fx_call fr (fr.want rfl rfl rfl) rfl (by decide) (x_call (vs := [.pointer (some ⟨hb1, 0, none⟩)]) rfl rfl ⟨(fr.ev rfl), trivial⟩ Try.func17 nm17 rfl) (idle_h HH) ?_
    clear fr a
    rintro v w128 ⟨rfl, hN129⟩ a fr
    replace HH := HH.new hN129
    replace RR := RR.new hN129
    replace B18 := B18.new hN129
    replace OW := OW.new hN129
    replace hF := hF.trNew hN129
    rw [hidl] at fr
    refine fx_val (v := .bool true) fr rfl rfl (by decide) (x_pick_t rfl (fr.ev rfl) (fr.ev rfl)) ?_
    clear fr a; intro a fr
    refine fx_val (v := .bool true) fr rfl rfl (by decide) (x_move rfl (fr.ev rfl)) ?_
    clear fr a; intro a fr
    refine fx_call fr (fr.want rfl rfl rfl) rfl (by decide) (x_call (vs := []) rfl rfl trivial Try.func11 nm11 rfl) (known_c _) ?_
    clear fr a
    rintro v w130 ⟨rfl, hN131⟩ a fr
    replace HH := HH.new hN131
    replace RR := RR.new hN131
    replace B18 := B18.new hN131
    replace OW := OW.new hN131
    replace hF := hF.trNew hN131
    refine fx_val (v := .bool true) fr rfl rfl (by decide) (x_pick_t rfl (fr.ev rfl) (fr.ev rfl)) ?_
    clear fr a; intro a fr
    refine fx_val (v := .bool true) fr rfl rfl (by decide) (x_assign rfl (fr.ev rfl)) ?_
    clear fr a; intro a fr
    refine wpList_nil ?_
    refine fx_next ?_
    refine wp_ret ?_
    refine fx_ret fr [.tmp 4] [.bool true] rfl ⟨rfl, trivial⟩ rfl ?_
    exact ⟨_, rfl, rfl, hF⟩
end Go.Proofs.Ytdiaemlgghfecaa
namespace Go.Proofs.Ytdiaemlgghfecaa
open Go.RowKit Go.ChangeShapes Go.WideShapes Go.ChangeAt Go.Deep
section
variable {H : Type} {enc : TypeId × Value → H} {P : Program} {w : World} {base : Nat} {spare : Nat → Bool} {held : Bool} {fuel : Nat} {cs : List Value} {x : DataW H × List MemPlace}
theorem piece {q n : Nat} {a b : List Value} (h1 : (cs.drop q).take n = a) (h2 : cs.drop (q + n) = b) : cs.drop q = a ++ b := by
  rw [← h1, ← h2, ← List.drop_drop, List.take_append_drop]
theorem has_addr {r : Reach} {a : Addr} {e n : Nat} (h : w.has P r base a e n) : ∃ g o, a = ⟨g, o, none⟩ ∧ g < w.heap.size := by
  obtain ⟨_, h1, row, cells, h2, _⟩ := h
  obtain ⟨g, o, s⟩ := a
  subst h1
  refine ⟨g, o, rfl, ?_⟩
  unfold World.shape? at h2
  rcases Nat.lt_or_ge g w.heap.size with h | h
  · exact h
  · have : w.heap[g]? = none := Array.getElem?_eq_none h
    simp [this] at h2
theorem add_none (g o i : Nat) : (⟨g, o, none⟩ : Addr).add i = ⟨g, o + i, none⟩ := by
  unfold Addr.add
  by_cases h : i = 0 <;> simp [h]
theorem open_recs {α : Type} [DecidableEq α] {E : Enc P α} {OK : α → Prop} {t : TypeId} {r : Reach} {b0 : Nat} {v : Value} {d : DataW H} {p : List MemPlace} (ht : P.underlying t = some (.slice E.T)) (hC : P.cellsOf E.T = E.n)
    (hel : ∀ fuel cs x, DataW.trod enc P w base (fun _ => true) held fuel E.T cs = some x → ∃ m, OK m ∧ cs = E.cells m) (hv : Value.okWide P w r b0 t v) (h : DataW.Trod enc P w base (fun _ => true) held t v d p) :
    ∃ A cap l, v = .slice A l.length cap ∧ View E w A cap l ∧ ∀ m ∈ l, OK m := by
  obtain ⟨a0, len, cap, rfl⟩ := okWide_slice ht hv
  obtain ⟨fuel, hf⟩ := h
  rcases open_slice ht hf with ⟨hcs, _⟩ | ⟨a, l, c, m, n, D, Pl, hcs, _, hl, hm, hz, _, hcell⟩
  · simp [Value.cells] at hcs
    obtain ⟨rfl, rfl, rfl⟩ := hcs
    exact ⟨none, 0, [], rfl, View.nil, by simp⟩
  · simp [Value.cells] at hcs
    obtain ⟨rfl, rfl, rfl⟩ := hcs
    rw [if_pos rfl] at hz
    subst hz
    have hh : w.has P r b0 a E.T m := by
      unfold Value.okWide at hv
      rw [ht] at hv
      simp only [Cell.okWide, ht, Cell.ok] at hv
      exact hv.2.2
    obtain ⟨g, o, rfl, hg⟩ := has_addr hh
    rw [hC] at hcell
    have hb : ∀ i : Fin len, ∃ q : α, OK q ∧ w.rangeAt g (o + i.1 * E.n) (E.cells q) := by
      intro i
      obtain ⟨cs', h1, h2⟩ := hcell i.1 (by omega)
      obtain ⟨q, hq, rfl⟩ := hel _ _ _ h2
      obtain ⟨_, hcl, hat⟩ := World.cells?_some h1
      refine ⟨q, hq, fun j v hj => ?_⟩
      have hjl := (List.getElem?_eq_some_iff.1 hj).1
      have := hat j (by omega)
      rw [add_none, add_none] at this
      rw [this, hj]
    obtain ⟨f, hf⟩ : ∃ f : Fin len → α, ∀ i, OK (f i) ∧ w.rangeAt g (o + i.1 * E.n) (E.cells (f i)) := ⟨fun i => (hb i).choose, fun i => (hb i).choose_spec⟩
    refine ⟨some ⟨g, o, none⟩, m, List.ofFn f, by simp, ⟨by simp; omega, hm, .inr ⟨g, o, rfl, hg, fun j v hj => ?_⟩⟩, ?_⟩
    · have hjl := (List.getElem?_eq_some_iff.1 hj).1
      rw [flat_len, List.length_ofFn] at hjl
      have hn := E.pos
      have hq : j / E.n < len := (Nat.div_lt_iff_lt_mul hn).2 hjl
      have hr : j % E.n < E.n := Nat.mod_lt _ hn
      have hj2 : j / E.n * E.n + j % E.n = j := by rw [Nat.mul_comm]; exact Nat.div_add_mod j E.n
      have e1 := flat_drop (E := E) (List.ofFn f) (j / E.n) (by simpa using hq)
      have e2 : (E.cells (f ⟨j / E.n, hq⟩))[j % E.n]? = some v := by
        rw [List.getElem_ofFn] at e1
        rw [← e1, List.getElem?_take, if_pos hr, List.getElem?_drop, hj2]
        exact hj
      have := (hf ⟨j / E.n, hq⟩).2 (j % E.n) v e2
      rw [← this]
      show _ = w.cell? ⟨g, o + j / E.n * E.n + j % E.n, none⟩
      rw [Nat.add_assoc, hj2]
    · intro q hq
      obtain ⟨i, rfl⟩ := List.mem_ofFn.1 hq
      exact (hf i).1
end
end Go.Proofs.Ytdiaemlgghfecaa
namespace Go.Proofs.Ytdiaemlgghfecaa
open Go.RowKit Go.ChangeShapes Go.WideShapes Go.ChangeAt
section
variable {H : Type} {enc : TypeId × Value → H} {w : World} {base : Nat} {spare : Nat → Bool} {held : Bool} {fuel : Nat} {cs : List Value} {x : DataW H × List MemPlace}
theorem cellsACT : Try.prog.cellsOf 49 = 4 := by kernel_rfl
theorem cellsKIND : Try.prog.cellsOf 33 = 1 := by kernel_rfl
theorem cellsU8 : Try.prog.cellsOf 5 = 1 := by kernel_rfl
theorem cellsI64 : Try.prog.cellsOf 3 = 1 := by kernel_rfl
theorem wf_u8 {a : Int} (h : (Lit.int .u8 a).wf = true) : 0 ≤ a ∧ a < 256 := by
  simp [Lit.wf, IntKind.min, IntKind.max, IntKind.signed, IntKind.bits] at h
  omega
theorem wf_i64 {a : Int} (h : (Lit.int .i64 a).wf = true) : -9223372036854775808 ≤ a ∧ a ≤ 9223372036854775807 := by
  simp [Lit.wf, IntKind.min, IntKind.max, IntKind.signed, IntKind.bits] at h
  omega
theorem trod_act (h : DataW.trod enc Try.prog w base spare held fuel 49 cs = some x) : ∃ m : Hact, (-9223372036854775808 ≤ m.cache ∧ m.cache ≤ 9223372036854775807 ∧ -9223372036854775808 ≤ m.line ∧ m.line ≤ 9223372036854775807) ∧ cs = m.cells := by
  obtain ⟨xs, n, _, _, hl, hlen, hg⟩ := DataW.trod_struct Try.underlying49 h
  rw [cellsACT] at hl
  match xs, hlen with
  | [y0, y1, y2, y3], _ =>
    have h0 : DataW.trod enc Try.prog w base spare held n 3 ((cs.drop 0).take (Try.prog.cellsOf 3)) = some y0 := hg 0 _ rfl
    rw [cellsI64] at h0
    have h1 : DataW.trod enc Try.prog w base spare held n 3 ((cs.drop 1).take (Try.prog.cellsOf 3)) = some y1 := hg 1 _ rfl
    rw [cellsI64] at h1
    have h2 : DataW.trod enc Try.prog w base spare held n 33 ((cs.drop 2).take (Try.prog.cellsOf 33)) = some y2 := hg 2 _ rfl
    rw [cellsKIND] at h2
    have h3 : DataW.trod enc Try.prog w base spare held n 5 ((cs.drop 3).take (Try.prog.cellsOf 5)) = some y3 := hg 3 _ rfl
    rw [cellsU8] at h3
    obtain ⟨a0, e0, _, w0⟩ := DataW.trod_int Try.underlying3 h0
    obtain ⟨a1, e1, _, w1⟩ := DataW.trod_int Try.underlying3 h1
    obtain ⟨a2, e2, _⟩ := DataW.trod_int Try.underlying33 h2
    obtain ⟨a3, e3, _, w3⟩ := DataW.trod_int Try.underlying5 h3
    refine ⟨⟨a0, a1, a2, a3, wf_u8 w3⟩, ⟨(wf_i64 w0).1, (wf_i64 w0).2, wf_i64 w1⟩, ?_⟩
    have p4 : cs.drop 4 = [] := List.drop_eq_nil_of_le (by omega)
    have p3 := piece e3 p4
    have p2 := piece e2 p3
    have p1 := piece e1 p2
    have p0 := piece e0 p1
    rw [List.drop_zero] at p0
    rw [p0]
    simp [Hact.cells]
theorem trod_byte (h : DataW.trod enc Try.prog w base spare held fuel 5 cs = some x) : ∃ m : UInt8, True ∧ cs = byE.cells m := by
  obtain ⟨a, e, _, wa⟩ := DataW.trod_int Try.underlying5 h
  have := wf_u8 wa
  refine ⟨UInt8.ofNat a.toNat, trivial, ?_⟩
  rw [e]
  show _ = [u8v _]
  unfold u8v
  congr 2
  simp
  omega
def ActsArg (w : World) (v : Value) : Prop := ∃ A cap l, v = .slice A l.length cap ∧ View hactE w A cap l ∧ ∀ m ∈ l, -9223372036854775808 ≤ m.cache ∧ m.cache ≤ 9223372036854775807 ∧ -9223372036854775808 ≤ m.line ∧ m.line ≤ 9223372036854775807
def BytArg (w : World) (v : Value) : Prop := ∃ A cap l, v = .slice A l.length cap ∧ View byE w A cap l
set_option maxRecDepth 100000 in
theorem open_acts {r : Reach} {b0 : Nat} {v : Value} {d : DataW H} {p : List MemPlace} (hv : Value.okWide Try.prog w r b0 47 v) (h : DataW.Trod enc Try.prog w base (fun _ => true) held 47 v d p) : ActsArg w v :=
  open_recs (E := hactE) Try.underlying47 cellsACT (fun _ _ _ => trod_act) hv h
set_option maxRecDepth 100000 in
theorem open_byts {r : Reach} {b0 : Nat} {v : Value} {d : DataW H} {p : List MemPlace} (hv : Value.okWide Try.prog w r b0 22 v) (h : DataW.Trod enc Try.prog w base (fun _ => true) held 22 v d p) : BytArg w v := by
  obtain ⟨A, cap, l, h1, h2, _⟩ := open_recs (E := byE) (OK := fun _ => True) Try.underlying22 cellsU8 (fun _ _ _ => trod_byte) hv h
  exact ⟨A, cap, l, h1, h2⟩
end
end Go.Proofs.Ytdiaemlgghfecaa
namespace Go.Proofs.Ytdiaemlgghfecaa
open Go.RowKit
set_option linter.unusedVariables false
theorem walk_HomeQueues (w : World) (v0 : Value) (hv0 : BytArg w v0) (v1 : Value) (hv1 : ActsArg w v1) : Calls Try.prog 7 #[v0, v1] w fun e w' => e = .returned (.bool true) ∧ Below w.heap.size w w' := by
  obtain ⟨A0, c0, l0, rfl, hv0⟩ := hv0
  obtain ⟨A1, c1, l1, rfl, hv1, hl1⟩ := hv1
  cases hs : sizeB l0 with
  | false =>
    refine (queues_no hv0 hv1 hs).mono ?_
    rintro e w' ⟨v, rfl, rfl, hn⟩
    exact ⟨rfl, hn.nb⟩
  | true =>
    refine (queues_yes hv0 hv1 hs).mono ?_
    rintro e w' ⟨v, rfl, rfl, hn⟩
    exact ⟨rfl, hn.nb⟩
end Go.Proofs.Ytdiaemlgghfecaa
