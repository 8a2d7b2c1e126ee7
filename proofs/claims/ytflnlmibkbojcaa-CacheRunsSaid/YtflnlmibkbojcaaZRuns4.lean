/-
  Part 4 of what the claim stands on: walks through the code, plain laws.
-/
import Derived.Test.YtflnlmibkbojcaaZRuns3
set_option maxRecDepth 100000
set_option maxHeartbeats 4000000
namespace Go.Proofs.Ytflnlmibkbojcaa
open Go.RowKit
section
variable {n : Nat} {ways : Int} {L : List Ln} {num k : Int} {x : Ln}
theorem mem_of_get (h : getN L num = some x) : x ∈ L := List.mem_of_find?_eq_some h
theorem drop_lt {l : List Ln} (h : ∃ y ∈ l, y.num = num) : (dropL l num).length < l.length := by
  unfold dropL
  induction l with
  | nil => obtain ⟨y, hy, _⟩ := h; cases hy
  | cons z r ih =>
    by_cases hz : z.num = num
    · rw [List.filter_cons_of_neg (by simp [isNum, hz])]
      have := List.length_filter_le (fun x => !isNum num x) r
      simp only [List.length_cons]
      omega
    · rw [List.filter_cons_of_pos (by simp [isNum, hz])]
      obtain ⟨y, hy, he⟩ := h
      rcases List.mem_cons.1 hy with rfl | hy
      · exact absurd he hz
      · have := ih ⟨y, hy, he⟩
        simp only [List.length_cons]
        omega
theorem get_drop : getN (dropL L k) num = if num = k then none else getN L num := by
  unfold getN dropL
  induction L with
  | nil => simp
  | cons z r ih =>
    by_cases hz : z.num = k
    · rw [List.filter_cons_of_neg (by simp [isNum, hz]), ih]
      by_cases hn : num = k
      · simp [hn]
      · have : isNum num z = false := by simp [isNum, hz]; exact fun e => hn e.symm
        simp [hn, List.find?, this]
    · rw [List.filter_cons_of_pos (by simp [isNum, hz])]
      by_cases hn : num = k
      · have : isNum num z = false := by simp [isNum, hn, hz]
        simp only [List.find?, this, ih]
        try simp [hn]
      · simp only [List.find?, ih, if_neg hn]
theorem get_repl (h : getN L x.num ≠ none) : getN (repl x L) num = if num = x.num then some x else getN L num := by
  unfold getN at *
  induction L with
  | nil => simp at h
  | cons z r ih =>
    by_cases hz : z.num = x.num
    · simp only [repl, if_pos hz]
      by_cases hn : num = x.num
      · simp [hn, List.find?, isNum]
      · have h1 : isNum num x = false := by simp [isNum]; exact fun e => hn e.symm
        have h2 : isNum num z = false := by simp [isNum, hz]; exact fun e => hn e.symm
        simp [hn, List.find?, h1, h2]
    · simp only [repl, if_neg hz]
      have h3 : isNum x.num z = false := by simp [isNum, hz]
      rw [List.find?, h3] at h
      by_cases hn : num = x.num
      · have : isNum num z = false := by simp [isNum, hn, hz]
        simp only [List.find?, this, ih h]
      · simp only [List.find?, ih h, if_neg hn]
theorem mem_ofs (h : x ∈ L) : x ∈ ofs n L (si n x.num) := List.mem_filter.2 ⟨h, by simp [inSet]⟩
theorem HasRoom.drop (hn : 0 < n) (hf : Fits n ways L) (h : HasRoom n ways L num) (k : Int) : HasRoom n ways (dropL L k) num := by
  intro h1
  rw [ofs_drop]
  have h2 := dropL_le (ofs n L (si n num)) k
  have h3 := hf _ (si_lt (num := num) hn)
  cases hg : getN L num with
  | none => have := h hg; omega
  | some y =>
    rw [get_drop, hg] at h1
    split at h1
    · rename_i e
      subst e
      have hy := get_num hg
      have := drop_lt (num := num) (l := ofs n L (si n num)) ⟨y, by have := mem_ofs (n := n) (mem_of_get hg); rwa [hy] at this, hy⟩
      omega
    · cases h1
theorem putL_there (h : getN L x.num ≠ none) (he : putE n ways L x = 0) : putL n ways L x = repl x L := by
  unfold putL
  rw [if_pos he, if_neg h]
theorem HasRoom.repl (h : HasRoom n ways L num) (hx : getN L x.num ≠ none) : HasRoom n ways (repl x L) num := by
  intro h1
  rw [get_repl hx] at h1
  split at h1
  · cases h1
  · by_cases e : si n num = si n x.num
    · rw [e, ofs_repl_same, repl_len, ← e]; exact h h1
    · rw [ofs_repl_other _ _ e]; exact h h1
theorem room_vic (h : vicL n ways L num k = none) : HasRoom n ways L num := by
  intro h1
  unfold vicL at h
  split at h
  · cases h
  · rename_i h2
    have : ¬ ways ≤ ((ofs n L (si n num)).length : Int) := fun h3 => h2 ⟨h1, h3⟩
    omega
theorem vic_mem (hw : 1 ≤ ways) (h : vicL n ways L num k = some x) : x ∈ ofs n L (si n num) ∧ getN L num = none ∧ ways ≤ ((ofs n L (si n num)).length : Int) := by
  unfold vicL at h
  split at h
  · rename_i h2
    cases h
    refine ⟨?_, h2⟩
    have hl : 0 < (ofs n L (si n num)).length := by omega
    have hp := pickAt_lt k _ hl
    simp [List.getD, hp]
  · cases h
theorem room_out (hn : 0 < n) (hw : 1 ≤ ways) (hf : Fits n ways L) (h : vicL n ways L num k = some x) : HasRoom n ways (dropL L x.num) num := by
  intro _
  obtain ⟨h1, h2, h3⟩ := vic_mem hw h
  rw [ofs_drop]
  have h4 := drop_lt (num := x.num) (l := ofs n L (si n num)) ⟨x, h1, rfl⟩
  have h5 := hf _ (si_lt (num := num) hn)
  omega
end
section
variable {d : CD} (hb : 0 < d.n ∧ d.n ≤ 64 ∧ 1 ≤ d.ways ∧ d.ways ≤ 8) (hf : Fits d.n d.ways d.L) (hr : RoomOk d)
include hf hr
theorem RoomOk.drop (hb : 0 < d.n ∧ d.n ≤ 64 ∧ 1 ≤ d.ways ∧ d.ways ≤ 8) (k : Int) (g : Option Ln) : RoomOk { d with L := dropL d.L k, giv := g } := fun l wr h => (hr l wr h).drop hb.1 hf k
include hb
omit hb hf in
theorem write_room (addr width v : Int) : RoomOk (writeF d addr width v).1 := by
  unfold writeF
  split
  · exact hr
  · split
    · exact hr
    · rename_i h
      have h : writesB ((getN d.L (addr / 16)).getD ln0).state = true := by simpa [stateOf] using h
      intro l wr hl
      have hx : getN d.L (wrLn ((getN d.L (addr / 16)).getD ln0) addr width v).num ≠ none := by
        obtain ⟨y, hy, hd⟩ := w_there h
        show getN d.L ((getN d.L (addr / 16)).getD ln0).num ≠ none
        rw [hd, get_num hy, hy]
        simp
      show HasRoom d.n d.ways (putL d.n d.ways d.L _) l
      rw [putL_there hx (put_there h _ rfl rfl)]
      exact (hr l wr hl).repl hx
theorem ask_room (line : Int) (hln : 0 ≤ line ∧ line < 4294967296) (wr : Bool) (pick : Int) : RoomOk (askF d line hln wr pick).1 := by
  unfold askF
  split
  · exact hr
  · split
    · exact hr
    · split
      · rename_i hv
        intro l w' h
        cases h
        exact room_vic hv
      · rename_i x hv
        split
        · intro l w' h
          cases h
          show HasRoom (outF d x).1.n (outF d x).1.ways (outF d x).1.L line
          rename_i ho
          unfold outF at ho ⊢
          split
          · exact room_out hb.1 hb.2.2.1 hf hv
          · split
            · rename_i h1 _ _ h2
              rw [if_neg h1] at ho
              simp [h2] at ho
            · exact room_out hb.1 hb.2.2.1 hf hv
        · exact hr
theorem back_room (m : Msg) : RoomOk (takeF.backF d m).1 := by
  unfold takeF.backF
  split
  · rename_i h
    have h : writesB ((getN d.L m.line).getD ln0).state = true := h
    obtain ⟨y, hy, hd⟩ := w_there h
    rw [hd]
    by_cases hk : m.kind = 4
    · simp only [hk, if_true]
      intro l w' hl
      have hx : getN d.L ({ y with state := 1 } : Ln).num ≠ none := by
        show getN d.L y.num ≠ none
        rw [get_num hy, hy]
        simp
      have hp : putE d.n d.ways d.L { y with state := 1 } = 0 := by
        unfold putE
        rw [if_neg (by simp [okS]), if_neg (fun hh => hx hh.1)]
      show HasRoom d.n d.ways (putL d.n d.ways d.L { y with state := 1 }) l
      rw [putL_there hx hp]
      exact (hr l w' hl).repl hx
    · simp only [if_neg hk]
      exact RoomOk.drop hf hr hb y.num d.giv
  · exact hr
theorem take_room (m : Msg) : RoomOk (takeF d m).1 := by
  unfold takeF
  split
  · exact hr
  split
  · split
    · intro l w' h
      cases h
    · exact hr
  split
  · split
    · split
      · exact hr
      · exact back_room hb hf hr m
    · exact back_room hb hf hr m
  split
  · split
    · exact hr
    · exact RoomOk.drop hf hr hb m.line d.giv
  split
  · exact fun l w' h => hr l w' h
  · exact hr
omit hb hf in
theorem data_room (m : Msg) (h : dataOk d m = true) : putE d.n d.ways d.L (dataLn m) = 0 := by
  unfold dataOk at h
  split at h
  · rename_i l wr ha
    simp only [Bool.and_eq_true, decide_eq_true_eq] at h
    have h1 := hr l wr ha
    rw [h.1] at h1
    have ho : ¬ okS (dataLn m) = false := by
      simp only [okS, dataLn, mkL]
      split <;> decide
    have h2 : (dataLn m).num = m.line := rfl
    unfold putE
    rw [if_neg ho, if_neg]
    rintro ⟨h3, h4⟩
    rw [h2] at h3 h4
    have := h1 h3
    omega
  · cases h
omit hf hr hb in
theorem new_room (id : Int) (n : Nat) (ways : Int) : RoomOk ⟨id, n, ways, [], none, none⟩ := fun l w' h => by cases h
end
end Go.Proofs.Ytflnlmibkbojcaa
namespace Go.Proofs.Ytflnlmibkbojcaa
open Go.RowKit
def StOk (L : List Ln) : Prop := ∀ x ∈ L, 1 ≤ x.state ∧ x.state ≤ 3
section
variable {n : Nat} {ways : Int} {L : List Ln} {x : Ln}
theorem StOk.nil : StOk [] := fun x h => by cases h
theorem StOk.drop (h : StOk L) (k : Int) : StOk (dropL L k) := fun x hx => h x (List.mem_filter.1 hx).1
theorem StOk.putL (h : StOk L) (x : Ln) : StOk (putL n ways L x) := by
  unfold Go.Proofs.Ytflnlmibkbojcaa.putL
  split
  · rename_i he
    have hx : 1 ≤ x.state ∧ x.state ≤ 3 := by
      unfold putE at he
      split at he
      · omega
      · rename_i h2
        simp [okS] at h2
        omega
    split
    · intro y hy
      rcases List.mem_append.1 hy with hy | hy
      · exact h y hy
      · rw [List.mem_singleton] at hy
        subst hy
        exact hx
    · intro y hy
      rcases mem_repl hy with hy | rfl
      · exact h y hy
      · exact hx
  · exact h
theorem st_of (h : StOk L) (num : Int) : stateOf L num = 0 ∧ getN L num = none ∨ (1 ≤ stateOf L num ∧ stateOf L num ≤ 3) ∧ ∃ y, getN L num = some y ∧ stateOf L num = y.state := by
  unfold stateOf
  cases hg : getN L num with
  | none => exact .inl ⟨rfl, rfl⟩
  | some y => exact .inr ⟨h y (mem_of_get hg), y, rfl, rfl⟩
end
structure DOk (d : CD) : Prop where
  id : 0 ≤ d.id ∧ d.id < 4
  bd : 0 < d.n ∧ d.n ≤ 64 ∧ 1 ≤ d.ways ∧ d.ways ≤ 8
  uniq : Uniq d.L
  fits : Fits d.n d.ways d.L
  room : RoomOk d
  st : StOk d.L
end Go.Proofs.Ytflnlmibkbojcaa
namespace Go.Proofs.Ytflnlmibkbojcaa
open Go.RowKit
section
variable {d : CD}
theorem DOk.new {id : Int} {n : Nat} {ways : Int} (hid : 0 ≤ id ∧ id < 4) (hb : 0 < n ∧ n ≤ 64 ∧ 1 ≤ ways ∧ ways ≤ 8) : DOk ⟨id, n, ways, [], none, none⟩ := ⟨hid, hb, List.Pairwise.nil, Fits.nil (by show 0 ≤ ways; omega), new_room id n ways, StOk.nil⟩
theorem DOk.drop (h : DOk d) (k : Int) (g : Option Ln) : DOk { d with L := dropL d.L k, giv := g } := ⟨h.id, h.bd, h.uniq.drop k, h.fits.drop k, RoomOk.drop h.fits h.room h.bd k g, h.st.drop k⟩
theorem DOk.out (h : DOk d) (x : Ln) : DOk (outF d x).1 := by
  unfold outF
  split
  · exact h.drop x.num d.giv
  · split
    · exact h
    · exact h.drop x.num (some x)
theorem DOk.evict (h : DOk d) (pick : Int) : DOk (evictF d pick).1 := by
  unfold evictF
  split
  · exact h
  · exact h.out _
theorem DOk.write (h : DOk d) (addr width v : Int) : DOk (writeF d addr width v).1 := by
  have hr := write_room h.room addr width v
  revert hr
  unfold writeF
  split
  · exact fun _ => h
  · split
    · exact fun _ => h
    · exact fun hr => ⟨h.id, h.bd, h.uniq.putL, h.fits.putL _, hr, h.st.putL _⟩
theorem DOk.ask (h : DOk d) (line : Int) (hl : 0 ≤ line ∧ line < 4294967296) (wr : Bool) (pick : Int) : DOk (askF d line hl wr pick).1 := by
  have hr := ask_room h.bd h.fits h.room line hl wr pick
  revert hr
  unfold askF
  split
  · exact fun _ => h
  · split
    · exact fun _ => h
    · split
      · exact fun hr => ⟨h.id, h.bd, h.uniq, h.fits, hr, h.st⟩
      · split
        · intro hr
          have ho := h.out ‹Ln›
          exact ⟨ho.id, ho.bd, ho.uniq, ho.fits, hr, ho.st⟩
        · exact fun _ => h
theorem DOk.back (h : DOk d) (m : Msg) : DOk (takeF.backF d m).1 := by
  have hr := back_room h.bd h.fits h.room m
  revert hr
  unfold takeF.backF
  split
  · by_cases k : m.kind = 4
    · simp only [k, if_true]
      exact fun hr => ⟨h.id, h.bd, h.uniq.putL, h.fits.putL _, hr, h.st.putL _⟩
    · simp only [if_neg k]
      exact fun _ => h.drop _ d.giv
  · exact fun _ => h
theorem DOk.take (h : DOk d) (m : Msg) : DOk (takeF d m).1 := by
  have hr := take_room h.bd h.fits h.room m
  revert hr
  unfold takeF
  split
  · exact fun _ => h
  split
  · split
    · exact fun hr => ⟨h.id, h.bd, h.uniq.putL, h.fits.putL _, hr, h.st.putL _⟩
    · exact fun _ => h
  split
  · split
    · split
      · exact fun _ => h
      · exact fun _ => h.back m
    · exact fun _ => h.back m
  split
  · split
    · exact fun _ => h
    · exact fun _ => h.drop m.line d.giv
  split
  · exact fun hr => ⟨h.id, h.bd, h.uniq, h.fits, hr, h.st⟩
  · exact fun _ => h
end
end Go.Proofs.Ytflnlmibkbojcaa
namespace Go.Proofs.Ytflnlmibkbojcaa
open Go.RowKit
def CacAt (w : World) (Fp : Nat → Prop) (b : Nat) (d : CD) : Prop := CacheAt w Fp b d ∧ DOk d
section
variable {w w' : World} {Fp T : Nat → Prop} {b D : Nat} {d : CD} {ask : Option (Int × Bool)} {giv : Option Ln} {p : Value}
theorem CacAt.only (h : CacAt w Fp b d) (k : Only T w w') (hs : ∀ g, Fp g → ¬ T g) : CacAt w' Fp b d := ⟨h.1.only k hs, h.2⟩
theorem CacAt.new (h : CacAt w Fp b d) (k : New w w') : CacAt w' Fp b d := ⟨h.1.new k, h.2⟩
theorem CacAt.lt (h : CacAt w Fp b d) {g : Nat} (hg : Fp g) : g < w.heap.size := h.1.lt hg
theorem CacAt.apart (h : CacAt w Fp b d) {c : Nat} (hc : w.heap.size ≤ c) : ¬ Fp c := h.1.apart hc
end
theorem own_tag {P : Program} {α : Type} [DecidableEq α] {E : Enc P α} {w : World} {A : Option Addr} {cap : Nat} {l : List α} (h : Own E w A cap l) {g : Nat} (hg : inA A g) : ∃ cs, Blk w g E.T cs := by
  obtain ⟨o, rfl⟩ := hg
  obtain ⟨_, _, ⟨h3, _⟩ | ⟨g', o', cs, h3, hB, _⟩⟩ := h
  · cases h3
  · simp only [Option.some.injEq, Addr.mk.injEq] at h3
    rw [h3.1]
    exact ⟨cs, hB⟩
theorem CacheAt.tag {w : World} {Fp : Nat → Prop} {b : Nat} {d : CD} (h : CacheAt w Fp b d) {g : Nat} (hg : Fp g) : ∃ t cs, t ≠ 35 ∧ Blk w g t cs := by
  obtain ⟨lb, FpL, pa, pg, FpA, FpG, hB, hL, hA, hG, hP⟩ := h
  rcases (hP.foot g).1 hg with rfl | hg | hg | hg
  · exact ⟨_, _, by decide, hB⟩
  · obtain ⟨S, FpR, rs, h1, h2, h3, h4⟩ := hL
    rcases (h4.foot g).1 hg with rfl | rfl | hg
    · exact ⟨_, _, by decide, h1⟩
    · exact ⟨_, _, by decide, h2⟩
    · obtain ⟨i, hi, hi2⟩ := (h3.foot g).1 hg
      obtain ⟨cs, hc⟩ := own_tag (h3.own hi) hi2
      exact ⟨_, cs, by decide, hc⟩
  · rcases ha : d.ask with _ | ⟨l, wr⟩
    · rw [ha] at hA
      exact absurd hg (hA.2 g)
    · rw [ha] at hA
      obtain ⟨ba, h1, h2, h3, h4⟩ := hA
      rw [(h3 g).1 hg]
      exact ⟨_, _, by decide, h2⟩
  · rcases ha : d.giv with _ | x
    · rw [ha] at hG
      exact absurd hg (hG.2 g)
    · rw [ha] at hG
      obtain ⟨bg, h1, h2, h3⟩ := hG
      rw [(h3 g).1 hg]
      exact ⟨_, _, by decide, h2⟩
theorem CacAt.msg_ap {w : World} {Fp : Nat → Prop} {b : Nat} {d : CD} (h : CacAt w Fp b d) {A : Option Addr} {cap : Nat} {l : List Msg} (hO : Own msgE w A cap l) : ∀ k, Fp k → inA A k → False := fun k h1 h2 => by
  obtain ⟨t, cs, ht, hB⟩ := h.1.tag h1
  obtain ⟨cs2, hB2⟩ := own_tag hO h2
  have := hB.symm.trans hB2
  simp only [Option.some.injEq, Obj.cells.injEq] at this
  exact ht this.2.1
def TakeU (w : World) (Fp : Nat → Prop) (b : Nat) (r : CD × List Msg × Int) (v : Value) (w' : World) : Prop :=
  ∃ A' cap', v = .tuple #[.slice A' r.2.1.length cap', .int .i64 r.2.2] ∧ Own msgE w' A' cap' r.2.1 ∧ (∀ g, inA A' g → w.heap.size ≤ g) ∧ ∃ Fp', CacAt w' Fp' b r.1 ∧ Only Fp w w' ∧ ∀ g, Fp' g → Fp g ∨ w.heap.size ≤ g
section
variable {w : World} {Fp : Nat → Prop} {b : Nat} {d : CD}
theorem u_ask (H : CacAt w Fp b d) (line : Int) (hln : 0 ≤ line ∧ line < 4294967296) (wr : Bool) (pick : Int) : Calls Try.prog 13 #[.pointer (some ⟨b, 0, none⟩), .int .u32 line, .bool wr, .int .i64 pick] w (Ret fun v w' => TakeU w Fp b (askF d line hln wr pick) v w') := by
  obtain ⟨id, n, ways, L, ask, giv⟩ := d
  refine (ask_c H.1 line hln pick wr).mono ?_
  rintro e w' ⟨v, rfl, A', cap', h1, h2, h3, Fp', h4, h5, h6⟩
  exact ⟨_, rfl, A', cap', h1, h2, h3, Fp', ⟨h4, H.2.ask line hln wr pick⟩, h5, h6⟩
theorem u_take (H : CacAt w Fp b d) (m : Msg) : Calls Try.prog 14 #[.pointer (some ⟨b, 0, none⟩), .agg (msgE.arr m)] w (Ret fun v w' => TakeU w Fp b (takeF d m) v w') := by
  obtain ⟨id, n, ways, L, ask, giv⟩ := d
  refine (take_c H.1 m H.2.id (fun h => data_room H.2.room m h)).mono ?_
  rintro e w' ⟨v, rfl, A', cap', h1, h2, h3, Fp', h4, h5, h6⟩
  exact ⟨_, rfl, A', cap', h1, h2, h3, Fp', ⟨h4, H.2.take m⟩, h5, h6⟩
def EvictU (w : World) (Fp : Nat → Prop) (b : Nat) (r : CD × List Msg) (v : Value) (w' : World) : Prop :=
  ∃ A' cap', v = .slice A' r.2.length cap' ∧ Own msgE w' A' cap' r.2 ∧ (∀ g, inA A' g → w.heap.size ≤ g) ∧ ∃ Fp', CacAt w' Fp' b r.1 ∧ Only Fp w w' ∧ ∀ g, Fp' g → Fp g ∨ w.heap.size ≤ g
theorem u_evict (H : CacAt w Fp b d) (pick : Int) : Calls Try.prog 25 #[.pointer (some ⟨b, 0, none⟩), .int .i64 pick] w (Ret fun v w' => EvictU w Fp b (evictF d pick) v w') := by
  obtain ⟨id, n, ways, L, ask, giv⟩ := d
  refine (evict_c H.1 pick).mono ?_
  rintro e w' ⟨v, rfl, A', cap', h1, h2, h3, Fp', h4, h5, h6⟩
  exact ⟨_, rfl, A', cap', h1, h2, h3, Fp', ⟨h4, H.2.evict pick⟩, h5, h6⟩
def WriteU (w : World) (Fp : Nat → Prop) (b : Nat) (r : CD × Int) (v : Value) (w' : World) : Prop :=
  v = .int .i64 r.2 ∧ ∃ Fp', CacAt w' Fp' b r.1 ∧ Only Fp w w' ∧ ∀ g, Fp' g → Fp g ∨ w.heap.size ≤ g
theorem u_write (H : CacAt w Fp b d) (addr : Int) (ha : 0 ≤ addr ∧ addr < 4294967296) (width value : Int) : Calls Try.prog 15 #[.pointer (some ⟨b, 0, none⟩), .int .u32 addr, .int .i64 width, .int .u32 value] w (Ret fun v w' => WriteU w Fp b (writeF d addr width value) v w') := by
  obtain ⟨id, n, ways, L, ask, giv⟩ := d
  refine (write_c addr ha width H.1 value).mono ?_
  rintro e w' ⟨v, rfl, h1, Fp', h4, h5, h6⟩
  exact ⟨_, rfl, h1, Fp', ⟨h4, H.2.write addr width value⟩, h5, h6⟩
theorem u_read (H : CacAt w Fp b d) (addr : Int) (ha : 0 ≤ addr ∧ addr < 4294967296) (width : Int) : Calls Try.prog 17 #[.pointer (some ⟨b, 0, none⟩), .int .u32 addr, .int .i64 width] w (Ret fun v w' => v = .tuple #[.int .u32 (readF d.L addr width).1, .int .i64 (readF d.L addr width).2] ∧ New w w') := by
  obtain ⟨lb, FpL, pa, pg, FpA, FpG, hB, hL, hA, hG, hP⟩ := H.1
  exact read_c addr ha width hB hL hP.lb
theorem u_state (H : CacAt w Fp b d) (line : Int) (hln : 0 ≤ line ∧ line < 4294967296) : Calls Try.prog 34 #[.pointer (some ⟨b, 0, none⟩), .int .u32 line] w (Ret fun v w' => v = .int .i64 (stateOf d.L line) ∧ New w w') := by
  obtain ⟨lb, FpL, pa, pg, FpA, FpG, hB, hL, hA, hG, hP⟩ := H.1
  exact state_c line hln hB hL hP.lb
theorem u_new (id : Int) (n : Nat) (ways : Int) (hid : 0 ≤ id ∧ id < 4) (hr : rightB ((n : Nat) : Int) ways = true) (w : World) : Calls Try.prog 12 #[.int .i64 id, .int .i64 ((n : Nat) : Int), .int .i64 ways] w (Ret fun v w' => ∃ b Fp, v = .tuple #[.pointer (some ⟨b, 0, none⟩), .int .i64 0] ∧ CacAt w' Fp b ⟨id, n, ways, [], none, none⟩ ∧ (∀ g, Fp g → w.heap.size ≤ g) ∧ New w w') := by
  refine (cnew_yes id n ways (by omega) (by omega) hr w).mono ?_
  rintro e w' ⟨v, rfl, b, Fp, h1, h2, h3, h4⟩
  exact ⟨_, rfl, b, Fp, h1, ⟨h2, DOk.new hid (right_bd hr)⟩, h3, h4⟩
variable {A : Option Addr} {cap : Nat}
end
end Go.Proofs.Ytflnlmibkbojcaa
namespace Go.Proofs.Ytflnlmibkbojcaa
open Go.RowKit
def intE : Enc Try.prog Int where
  T := 3
  n := 1
  cells := fun x => [.int .i64 x]
  len := fun _ => rfl
  one := fun x v hv => by
    simp at hv
    subst hv
    rfl
  pos := by decide
theorem elInt : ElemI intE 123 8 := ⟨Try.underlying123, by
  obtain ⟨i0, hi, hz0, hz1, hz2⟩ := info_parts (show (Try.prog.info? 3).map (fun i => (i.zero, i.size, i.bytes)) = some (some (.int .i64 0), 1, 8) by kernel_rfl)
  exact ⟨i0, _, hi, hz0, hz1, hz2, rfl⟩⟩
def b8 (b : B16) : List UInt8 := b.1.map fun x => UInt8.ofNat x.toNat
theorem b8_length (b : B16) : (b8 b).length = 16 := by simp [b8, b.2.1]
theorem b8_lineV (b : B16) : lineV (b8 b) = .agg (bsE.arr b) := by
  unfold lineV b8 Enc.arr
  congr 2
  show _ = b16c b
  unfold b16c
  rw [List.map_map]
  apply List.map_congr_left
  intro x hx
  have := b.2.2 x hx
  simp [u8v]
  omega
def lineB (bs : List UInt8) (n : Int) : B16 := ⟨(lineSpec bs n.toNat).map fun x => (x.toNat : Int), by simp [lineSpec_length], by
  intro a ha
  obtain ⟨x, _, rfl⟩ := List.mem_map.1 ha
  have := x.toNat_lt
  omega⟩
theorem lineB_lineV (bs : List UInt8) (n : Int) : lineV (lineSpec bs n.toNat) = .agg (bsE.arr (lineB bs n)) := by
  unfold lineV Enc.arr
  congr 2
  show _ = b16c _
  unfold b16c lineB
  rw [List.map_map]
  rfl
def setLn (bs : List UInt8) (n : Int) (b : B16) : List UInt8 := setSpec bs n.toNat (b8 b)
theorem setLn_length (bs : List UInt8) (n : Int) (b : B16) : (setLn bs n b).length = bs.length := setSpec_length _ _ _ (b8_length b)
end Go.Proofs.Ytflnlmibkbojcaa
namespace Go.Proofs.Ytflnlmibkbojcaa
open Go.RowKit
structure Sh where
  a : Bool
  b : Bool
  c : Bool
  d : Bool
  deriving DecidableEq
def Sh.get (s : Sh) (i : Int) : Bool := if i = 0 then s.a else if i = 1 then s.b else if i = 2 then s.c else if i = 3 then s.d else false
def Sh.set (s : Sh) (i : Int) (x : Bool) : Sh := if i = 0 then ⟨x, s.b, s.c, s.d⟩ else if i = 1 then ⟨s.a, x, s.c, s.d⟩ else if i = 2 then ⟨s.a, s.b, x, s.d⟩ else if i = 3 then ⟨s.a, s.b, s.c, x⟩ else s
def sh0 : Sh := ⟨false, false, false, false⟩
structure Ent where
  o : Int
  sh : Sh
  busy : Bool
  asks : Int
  kind : Int
  waits : Int
  told : Bool
  q : List Msg
  deriving DecidableEq
def ent0 : Ent := ⟨-1, sh0, false, 0, 0, 0, false, []⟩
structure HD where
  bs : List UInt8
  E : List Ent
structure EOk (n : Int) (d : Ent) : Prop where
  asks : 0 ≤ d.asks ∧ d.asks < 4
  told : d.told = true → d.waits = 0
  own : -1 ≤ d.o ∧ d.o < 4
  q : ∀ m ∈ d.q, 1 ≤ m.kind ∧ m.kind ≤ 3 ∧ 0 ≤ m.src ∧ m.src < 4 ∧ m.line = n
  waits : 0 ≤ d.waits ∧ d.waits ≤ 4
  kind : d.busy = true → d.kind = 1 ∨ d.kind = 2
def othK (sh : Sh) (r : Int) : Nat → List Int
  | 0 => []
  | k + 1 => if (sh.get k && decide ((k : Int) ≠ r)) = true then othK sh r k ++ [(k : Int)] else othK sh r k
def othersF (sh : Sh) (r : Int) : List Int := othK sh r 4
def leaveF (d : Ent) (r : Int) : Ent := { d with o := if d.o = r then -1 else d.o }
def ownF (d : Ent) (r : Int) : Ent := { d with o := r, sh := sh0 }
def busyF (d : Ent) (m : Msg) (waits : Int) (told : Bool) : Ent := { d with busy := true, asks := m.src, kind := m.kind, waits := waits, told := told }
def sendM (m : Msg) (kind dst : Int) (b : B16 := b16z) : Msg := mkM kind 4 dst m.line b m.hn
def beginF (bs : List UInt8) (d : Ent) (m : Msg) : Ent × List UInt8 × List Msg :=
  if m.kind = 3 then ((leaveF d m.src), (if d.o = m.src then setLn bs m.line m.bs else bs), [sendM m 7 m.src])
  else
    let e := leaveF d m.src
    if 0 ≤ e.o then (busyF e m 1 false, bs, [sendM m (3 + m.kind) e.o])
    else if m.kind = 2 then
      if othersF e.sh m.src = [] then (busyF (ownF e m.src) m 0 true, bs, [sendM m 10 m.src (lineB bs m.line)])
      else (busyF e m (othersF e.sh m.src).length false, bs, (othersF e.sh m.src).map (sendM m 6))
    else if othersF e.sh m.src = [] then (busyF (ownF e m.src) m 0 true, bs, [sendM m 9 m.src (lineB bs m.line)])
    else (busyF { e with sh := e.sh.set m.src true } m 0 true, bs, [sendM m 8 m.src (lineB bs m.line)])
def drainF : List Msg → List UInt8 → Ent → Ent × List UInt8 × List Msg
  | [], bs, d => ({ d with q := [] }, bs, [])
  | m :: r, bs, d => if d.busy then ({ d with q := m :: r }, bs, [])
    else
      let x := beginF bs { d with q := r } m
      let y := drainF r x.2.1 x.1
      (y.1, y.2.1, x.2.2 ++ y.2.2)
def strayF (d : Ent) (m : Msg) : Bool :=
  !d.busy || (decide (m.kind < 13) && decide (d.waits < 1)) || (decide (m.kind = 11) && decide (d.o ≠ m.src)) || (decide (m.kind = 12) && (decide (0 ≤ d.o) || !d.sh.get m.src || decide (m.src = d.asks))) || (decide (m.kind = 13) && (!d.told || decide (d.asks ≠ m.src)))
def otherF (bs : List UInt8) (d : Ent) (m : Msg) : Ent × List UInt8 × List Msg :=
  if m.kind = 13 then drainF d.q bs { d with busy := false, asks := 0, kind := 0, waits := 0, told := false }
  else if m.kind = 11 then
    let bs' := setLn bs m.line m.bs
    if d.kind = 1 then ({ d with o := -1, sh := (sh0.set m.src true).set d.asks true, waits := 0, told := true }, bs', [sendM m 8 d.asks (lineB bs' m.line)])
    else ({ ownF d d.asks with waits := 0, told := true }, bs', [sendM m 10 d.asks (lineB bs' m.line)])
  else
    if d.waits = 1 then ({ ownF d d.asks with waits := 0, told := true }, bs, [sendM m 10 d.asks (lineB bs m.line)])
    else ({ d with sh := d.sh.set m.src false, waits := d.waits - 1 }, bs, [])
def takeH (h : HD) (m : Msg) : HD × List Msg × Int :=
  if chk m ≠ 0 ∨ m.dst ≠ 4 then (h, [], 2)
  else if (h.E.length : Int) ≤ m.line then (h, [], 4)
  else
    let d := h.E.getD m.line.toNat ent0
    let put := fun (x : Ent × List UInt8 × List Msg) => (({ bs := x.2.1, E := h.E.set m.line.toNat x.1 } : HD), x.2.2, (0 : Int))
    if m.kind ≤ 3 then
      if d.busy then put ({ d with q := d.q ++ [m] }, h.bs, []) else put (beginF h.bs d m)
    else if strayF d m then (h, [], 220)
    else put (otherF h.bs d m)
end Go.Proofs.Ytflnlmibkbojcaa
namespace Go.Proofs.Ytflnlmibkbojcaa
open Go.RowKit
theorem fold_off (off : Nat) (l : List Value) : ∀ (k : Nat) (z : Array Value), off + k + l.length ≤ z.size → (l.zipIdx k).foldl (fun cs x => cs.setIfInBounds (off + x.2) x.1) z = (z.toList.take (off + k) ++ (l ++ z.toList.drop (off + k + l.length))).toArray := by
  induction l with
  | nil => intro k z h; simp
  | cons v l ih =>
    intro k z h
    simp only [List.length_cons] at h
    rw [List.zipIdx_cons, List.foldl_cons, ih (k + 1) _ (by simp; omega)]
    obtain ⟨z⟩ := z
    simp only [List.size_toArray] at h
    congr 1
    simp only [List.setIfInBounds_toArray]
    rw [show off + (k + 1) = off + k + 1 by omega, List.take_set, List.drop_set_of_lt (by omega), List.take_succ_eq_append_getElem (by omega), List.set_append_right _ _ (by rw [List.length_take]; omega)]
    simp [List.length_take, Nat.min_eq_left (show off + k ≤ z.length by omega), Nat.add_assoc, Nat.add_comm 1 l.length]
theorem fill_step {n q : Nat} {z cs r : Array Value} {v : Value} {rest : List (Nat × Value)} (hv : v.cells = cs) (hc : cs.size = n) (hz : q * n + n ≤ z.size)
    (h : Instr.fill (fun q => some (q * n, n)) (z.toList.take (q * n) ++ (cs.toList ++ z.toList.drop (q * n + n))).toArray rest = some r) : Instr.fill (fun q => some (q * n, n)) z ((q, v) :: rest) = some r := by
  unfold Instr.fill
  simp only [hv, hc, ne_eq, not_true_eq_false, decide_false, Bool.false_or]
  rw [if_neg (by simpa using hz)]
  rw [← Array.foldl_toList, Array.toList_zipIdx]
  have := fold_off (q * n) cs.toList 0 z (by simp [hc]; omega)
  rw [Nat.add_zero] at this
  rw [show (cs.toList.zipIdx.foldl (fun cs x => cs.setIfInBounds (q * n + x.2) x.1) z) = _ from this, Array.length_toList, hc]
  exact h
end Go.Proofs.Ytflnlmibkbojcaa
namespace Go.Proofs.Ytflnlmibkbojcaa
open Go.RowKit
def entA (d : Ent) (q : Value) : Array Value := #[.int .i64 d.o, .bool d.sh.a, .bool d.sh.b, .bool d.sh.c, .bool d.sh.d, .bool d.busy, .int .i64 d.asks, .int .i64 d.kind, .int .i64 d.waits, .bool d.told, q]
theorem ent_setSh (d : Ent) (q : Value) (j : Int) (x : Bool) (h0 : 0 ≤ j) (h : j < 4) : (entA d q).setIfInBounds (1 + j.toNat) (.bool x) = entA { d with sh := d.sh.set j x } q := by
  have : j = 0 ∨ j = 1 ∨ j = 2 ∨ j = 3 := by omega
  rcases this with rfl | rfl | rfl | rfl <;> rfl
theorem ent_sh (d : Ent) (q : Value) (j : Int) (h0 : 0 ≤ j) (h : j < 4) : (entA d q)[1 + j.toNat]? = some (.bool (d.sh.get j)) := by
  have : j = 0 ∨ j = 1 ∨ j = 2 ∨ j = 3 := by omega
  rcases this with rfl | rfl | rfl | rfl <;> rfl
theorem int_nat (k : IntKind) (j : Int) (h : 0 ≤ j) : Value.int k j = .int k ((j.toNat : Nat) : Int) := by rw [Int.toNat_of_nonneg h]
theorem quo_nat (a n : Nat) (h : a ≤ 9223372036854775807) : IntKind.i64.wrap (((a : Nat) : Int).tdiv ((n : Nat) : Int)) = ((a / n : Nat) : Int) := by
  show IntKind.i64.wrap ((a / n : Nat) : Int) = _
  have := Nat.div_le_self a n
  generalize a / n = q at this ⊢
  exact i64w rfl (by omega)
section
variable {w : World} {ev : Operand → Value} {o : Oper} {x y : Operand}
theorem x_indexSh {s : Sh} {j : Nat} (ho : o.op = .index 145 x y) (hx : ev x = .agg #[.bool s.a, .bool s.b, .bool s.c, .bool s.d]) (hy : ev y = .int .i64 ((j : Nat) : Int)) (hj : j < 4) : (execOp ev o).run Try.prog w = .ok (.value (.bool (s.get j))) w := by
  have hu := Try.underlying145
  cases h3 : Try.prog.info? 4 with
  | none => exact absurd h3 (by have := sz4; intro h; rw [h] at this; cases this)
  | some i =>
    have hs : i.size = 1 := by have := sz4; rw [h3] at this; simpa using this
    have : j = 0 ∨ j = 1 ∨ j = 2 ∨ j = 3 := by omega
    rcases this with rfl | rfl | rfl | rfl <;> simp [execOp, ho, hx, hy, Instr.index, asIntOf, run_underlying hu, sizeOf, typeInfo, h3, hs, part, Sh.get, Result.andThen]
end
section
variable {P : Program} {α : Type} [DecidableEq α] {E : Enc P α} {N : Nat × List Deferred} {T : List (Nat × Value)} {a : Act} {w : World} {Q : Exit → Act → World → Prop} {ops : Array Oper} {rest : List Oper} {o : Oper} {d : Nat} {t : TypeId} {bytes : Nat}
theorem fx_build1v (hE : ElemI E t bytes) (hs : E.n ≤ 1000) (fr : Fr N T a) (hw : Region.wanted o (yielded ops a.tmps) = true) (hd : o.dst = some d) (hN : d < N.1) {x : Operand} (ho : o.op = .buildSlice t 1 #[(0, x)]) {p : α} {v : Value} (hx : a.eval x = v) (hv : v.cells = E.arr p)
    (next : ∀ A w1, New w w1 → Own E w1 A 1 [p] → (∀ g, inA A g → w.heap.size ≤ g) → ∀ a, Fr N ((d, .slice A 1 1) :: T) a → wpList P ops Q rest a w1) : wpList P ops Q (o :: rest) a w := by
  obtain ⟨i, z, hi, hz, hsz, hby, hzc⟩ := hE.info
  have hpos := E.pos
  refine fx_val (v := .slice (some ⟨w.heap.size, 0, none⟩) 1 1) (w1 := w.alloc (.cells (E.arr p) E.T)) fr hw hd hN ?_ fun a fr => next _ _ ((Only.refl _ w).alloc _) ⟨by simp, by unfold maxLen; omega, .inr ⟨_, 0, _, rfl, Go.heap_alloc_new w _, by rw [E.size]; omega, ?_⟩⟩ inA_new a fr
  · have hfill : Instr.fill (fun q => some (q * i.size, i.size)) ((Array.range (1 * i.size)).map (z.cells[· % z.cells.size]!)) [(0, v)] = some (E.arr p) := by
      refine fill_step hv (by rw [E.size, hsz]) (by simp) ?_
      unfold Instr.fill
      congr 1
      apply Array.toList_inj.1
      simp [hsz]
    have := run_buildSlice (P := P) w t E.T 1 #[(0, v)] (E.arr p) i z hE.ty hi hz (by rw [hsz]; omega) (by rw [hsz]; omega) hfill
    simp [execOp, ho, hx, this]
  · rw [List.drop_zero, E.toList, List.take_of_length_le (by rw [E.len]; simp)]
    simp
end
theorem hline_c {w : World} {bi g cap : Nat} {bs : List UInt8} (line : Int) (h0 : 0 ≤ line) (hI : Img 0 w bi g cap bs) : Calls Try.prog 111 #[.pointer (some ⟨bi, 0, none⟩), .int .u32 line] w (Ret fun v w' => v = .tuple #[.agg (bsE.arr (lineB bs line)), .int .i64 (lineErr bs.length line.toNat)] ∧ New w w') := by
  have h := line_any hI line.toNat
  rw [Int.toNat_of_nonneg h0, lineB_lineV] at h
  refine h.mono ?_
  rintro e w' ⟨rfl, hn⟩
  exact ⟨_, rfl, rfl, hn⟩
theorem hset_c {w : World} {bi g cap : Nat} {bs : List UInt8} (line : Int) (b : B16) (h0 : 0 ≤ line) (hI : Img 0 w bi g cap bs) : Calls Try.prog 101 #[.pointer (some ⟨bi, 0, none⟩), .int .u32 line, .agg (bsE.arr b)] w (Ret fun v w' => v = .int .i64 (lineErr bs.length line.toNat) ∧ Img 0 w' bi g cap (setLn bs line b) ∧ Only (fun k => k = g) w w') := by
  have h := setline_any hI line.toNat (b8 b) (b8_length b)
  rw [Int.toNat_of_nonneg h0, b8_lineV] at h
  refine h.mono ?_
  rintro e w' ⟨rfl, hn, ho⟩
  exact ⟨_, rfl, rfl, hn, ho⟩
structure WSep (bw be bh bi ig : Nat) (Q A : Option Addr) : Prop where
  ne_bw_be : NE bw be
  ne_bw_bh : NE bw bh
  ne_bw_bi : NE bw bi
  ne_bw_ig : NE bw ig
  ne_be_bh : NE be bh
  ne_be_bi : NE be bi
  ne_be_ig : NE be ig
  ne_bh_bi : NE bh bi
  ne_bh_ig : NE bh ig
  ne_bi_ig : NE bi ig
  ap_Q_bw : Apart Q bw
  ap_Q_be : Apart Q be
  ap_Q_bh : Apart Q bh
  ap_Q_bi : Apart Q bi
  ap_Q_ig : Apart Q ig
  ap_A_bw : Apart A bw
  ap_A_be : Apart A be
  ap_A_bh : Apart A bh
  ap_A_bi : Apart A bi
  ap_A_ig : Apart A ig
  ap2_Q_A : Apart2 Q A
structure WorkR (w : World) (bw be bh bi ig cap r : Nat) (line : Int) (d : Ent) (Q : Option Addr) (qc : Nat) (A : Option Addr) (ac : Nat) (out : List Msg) (bs : List UInt8) : Prop where
  hW : Blk w bw 176 #[.slice A out.length ac, .pointer (some ⟨be, 0, none⟩), .pointer (some ⟨bh, 0, none⟩), .int .u32 line]
  hE : Blk w be 147 (entA d (.slice Q d.q.length qc))
  hH : Blk w bh 140 #[.pointer (some ⟨bi, 0, none⟩), .map (some r)]
  hI : Img 0 w bi ig cap bs
  hQ : View msgE w Q qc d.q
  hO : Own msgE w A ac out
  hS : WSep bw be bh bi ig Q A
def WRet (w w' : World) (bw be bh bi ig cap r : Nat) (line : Int) (Q : Option Addr) (qc : Nat) (A : Option Addr) (out : List Msg) (d' : Ent) (bs' : List UInt8) (new : List Msg) : Prop :=
  ∃ A' ac', WorkR w' bw be bh bi ig cap r line d' Q qc A' ac' (out ++ new) bs' ∧ (∀ k, inA A' k → inA A k ∨ w.heap.size ≤ k) ∧ Only (fun k => k = bw ∨ k = be ∨ k = ig ∨ inA A k) w w'
def HRet (w w' : World) (bw be bh bi ig cap r : Nat) (line : Int) (Q : Option Addr) (A : Option Addr) (out : List Msg) (x : Ent × List UInt8 × List Msg) : Prop :=
  ∃ Q' qc' A' ac', WorkR w' bw be bh bi ig cap r line x.1 Q' qc' A' ac' (out ++ x.2.2) x.2.1 ∧ (∀ k, inA A' k → (inA A k ∨ inA Q k) ∨ w.heap.size ≤ k) ∧ (∀ k, inA Q' k → (inA A k ∨ inA Q k) ∨ w.heap.size ≤ k) ∧ Only (fun k => k = bw ∨ k = be ∨ k = ig ∨ inA A k ∨ inA Q k) w w'
theorem cut_in {P : Program} {α : Type} [DecidableEq α] {E : Enc P α} {w : World} {l : List α} {A : Option Addr} {cap c k n g : Nat} (hv : View E w A cap l) (h : inA (cutA A c k n) g) : inA A g := by
  unfold cutA at h
  split at h
  · exact h
  · obtain ⟨o, ho⟩ := h
    obtain ⟨_, _, ⟨rfl, _⟩ | ⟨b, o', rfl, _, _⟩⟩ := hv
    · cases ho
    · simp only [Option.map_some, Option.some.injEq] at ho
      unfold Addr.add at ho
      split at ho
      · cases ho; exact ⟨_, rfl⟩
      · cases ho; exact ⟨_, rfl⟩
theorem wmv {n bw be ig : Nat} {A A' : Option Addr} (h : ∀ k, inA A' k → (k = bw ∨ k = be ∨ k = ig ∨ inA A k) ∨ n ≤ k) (h1 : Apart A' bw) (h2 : Apart A' be) (h3 : Apart A' ig) : ∀ k, inA A' k → inA A k ∨ n ≤ k := fun k hk => by
  rcases h k hk with (rfl | rfl | rfl | h) | h
  · exact absurd hk h1
  · exact absurd hk h2
  · exact absurd hk h3
  · exact .inl h
  · exact .inr h
theorem take_map_sn {f : Int → Msg} {L : List Int} {i : Nat} (h : i < L.length) (out : List Msg) : out ++ (L.take (i + 1)).map f = (out ++ (L.take i).map f) ++ [f (L.getD i 0)] := by
  rw [List.take_succ_eq_append_getElem h, List.map_append, List.append_assoc]
  simp [List.getD, h]
theorem othK_len (sh : Sh) (r : Int) : ∀ i, (othK sh r i).length ≤ i
  | 0 => Nat.le_refl _
  | i + 1 => by
    have := othK_len sh r i
    unfold othK
    split
    · simp; omega
    · omega
section
variable {bs : List UInt8} {d : Ent} {m : Msg}
theorem begin_put (h : m.kind = 3) : beginF bs d m = (leaveF d m.src, (if d.o = m.src then setLn bs m.line m.bs else bs), [sendM m 7 m.src]) := by unfold beginF; rw [if_pos h]
theorem begin_s1 (h : m.kind = 1) (h1 : 0 ≤ (leaveF d m.src).o) : beginF bs d m = (busyF (leaveF d m.src) m 1 false, bs, [sendM m 4 (leaveF d m.src).o]) := by
  unfold beginF; rw [if_neg (by omega)]; dsimp only; rw [if_pos h1, h]; rfl
theorem begin_s2 (h : m.kind = 1) (h1 : ¬ 0 ≤ (leaveF d m.src).o) (h2 : 0 < (othersF (leaveF d m.src).sh m.src).length) : beginF bs d m = (busyF { leaveF d m.src with sh := (leaveF d m.src).sh.set m.src true } m 0 true, bs, [sendM m 8 m.src (lineB bs m.line)]) := by
  unfold beginF; rw [if_neg (by omega)]; dsimp only; rw [if_neg h1, if_neg (by omega), if_neg (fun e => by rw [e] at h2; simp at h2)]
theorem begin_s3 (h : m.kind = 1) (h1 : ¬ 0 ≤ (leaveF d m.src).o) (h2 : ¬ 0 < (othersF (leaveF d m.src).sh m.src).length) : beginF bs d m = (busyF (ownF (leaveF d m.src) m.src) m 0 true, bs, [sendM m 9 m.src (lineB bs m.line)]) := by
  unfold beginF; rw [if_neg (by omega)]; dsimp only; rw [if_neg h1, if_neg (by omega), if_pos (List.eq_nil_of_length_eq_zero (by omega))]
theorem begin_m1 (h : m.kind = 2) (h1 : 0 ≤ (leaveF d m.src).o) : beginF bs d m = (busyF (leaveF d m.src) m 1 false, bs, [sendM m 5 (leaveF d m.src).o]) := by
  unfold beginF; rw [if_neg (by omega)]; dsimp only; rw [if_pos h1, h]; rfl
theorem begin_m2 (h : m.kind = 2) (h1 : ¬ 0 ≤ (leaveF d m.src).o) (h2 : ¬ (othersF (leaveF d m.src).sh m.src).length = 0) : beginF bs d m = (busyF (leaveF d m.src) m (othersF (leaveF d m.src).sh m.src).length false, bs, (othersF (leaveF d m.src).sh m.src).map (sendM m 6)) := by
  unfold beginF; rw [if_neg (by omega)]; dsimp only; rw [if_neg h1, if_pos h, if_neg (fun e => by rw [e] at h2; simp at h2)]
theorem begin_m3 (h : m.kind = 2) (h1 : ¬ 0 ≤ (leaveF d m.src).o) (h2 : (othersF (leaveF d m.src).sh m.src).length = 0) : beginF bs d m = (busyF (ownF (leaveF d m.src) m.src) m 0 true, bs, [sendM m 10 m.src (lineB bs m.line)]) := by
  unfold beginF; rw [if_neg (by omega)]; dsimp only; rw [if_neg h1, if_pos h, if_pos (List.eq_nil_of_length_eq_zero h2)]
theorem begin_q : (beginF bs d m).1.q = d.q := by
  unfold beginF; dsimp only
  split
  · rfl
  · split
    · rfl
    · split
      · split <;> rfl
      · split <;> rfl
theorem begin_len : (beginF bs d m).2.2.length ≤ 4 := by
  unfold beginF; dsimp only
  split
  · simp
  · split
    · simp
    · split
      · split
        · simp
        · rw [List.length_map]; exact othK_len _ _ 4
      · split <;> simp
theorem other_b1 (h : m.kind = 11) (hk : d.kind = 1) : otherF bs d m = ({ d with o := -1, sh := (sh0.set m.src true).set d.asks true, waits := 0, told := true }, setLn bs m.line m.bs, [sendM m 8 d.asks (lineB (setLn bs m.line m.bs) m.line)]) := by
  unfold otherF; rw [if_neg (by omega), if_pos h]; dsimp only; rw [if_pos hk]
theorem other_b2 (h : m.kind = 11) (hk : ¬ d.kind = 1) : otherF bs d m = ({ ownF d d.asks with waits := 0, told := true }, setLn bs m.line m.bs, [sendM m 10 d.asks (lineB (setLn bs m.line m.bs) m.line)]) := by
  unfold otherF; rw [if_neg (by omega), if_pos h]; dsimp only; rw [if_neg hk]
theorem other_a1 (h : m.kind = 12) (hk : d.waits = 1) : otherF bs d m = ({ ownF d d.asks with waits := 0, told := true }, bs, [sendM m 10 d.asks (lineB bs m.line)]) := by
  unfold otherF; rw [if_neg (by omega), if_neg (by omega), if_pos hk]
theorem other_a2 (h : m.kind = 12) (hk : ¬ d.waits = 1) : otherF bs d m = ({ d with sh := d.sh.set m.src false, waits := d.waits - 1 }, bs, []) := by
  unfold otherF; rw [if_neg (by omega), if_neg (by omega), if_neg hk]
theorem other_d (h : m.kind = 13) : otherF bs d m = drainF d.q bs { d with busy := false, asks := 0, kind := 0, waits := 0, told := false } := by
  unfold otherF; rw [if_pos h]
def addF (out : List Msg) (x : Ent × List UInt8 × List Msg) : Ent × List UInt8 × List Msg := (x.1, x.2.1, out ++ x.2.2)
theorem drain_end (h : d.busy = true ∨ d.q = []) (out : List Msg) : addF out (drainF d.q bs d) = (d, bs, out) := by
  obtain ⟨o, sh, busy, asks, kind, waits, told, q⟩ := d
  dsimp only at h ⊢
  cases q with
  | nil => simp [drainF, addF]
  | cons m r =>
    obtain rfl : busy = true := by simpa using h
    simp [drainF, addF]
theorem drain_step (hb : d.busy = false) (hq : 0 < d.q.length) (out : List Msg) :
    addF (out ++ (beginF bs { d with q := d.q.drop 1 } (d.q.getD 0 msg0)).2.2) (drainF (beginF bs { d with q := d.q.drop 1 } (d.q.getD 0 msg0)).1.q (beginF bs { d with q := d.q.drop 1 } (d.q.getD 0 msg0)).2.1 (beginF bs { d with q := d.q.drop 1 } (d.q.getD 0 msg0)).1) = addF out (drainF d.q bs d) := by
  obtain ⟨o, sh, busy, asks, kind, waits, told, q⟩ := d
  dsimp only at hb hq ⊢
  subst hb
  cases q with
  | nil => simp at hq
  | cons m r =>
    rw [begin_q]
    show _ = addF out (drainF (m :: r) bs _)
    rw [drainF]
    simp [addF, List.append_assoc]
theorem back_nob (hk : m.kind = 11) (hs : strayF d m = true) : ((d.busy && decide (0 < d.waits)) && decide (d.o = m.src)) = false := by
  unfold strayF at hs
  cases hb : d.busy
  · rfl
  · by_cases h1 : 0 < d.waits
    · by_cases h2 : d.o = m.src
      · exfalso
        simp [hk, h2, hb] at hs
        omega
      · simp [h2]
    · simp [h1]
theorem ack_nob (hk : m.kind = 12) (hs : strayF d m = true) : ((((d.busy && decide (0 < d.waits)) && decide (d.o < 0)) && d.sh.get m.src) && decide (m.src ≠ d.asks)) = false := by
  unfold strayF at hs
  cases hb : d.busy
  · rfl
  · cases hg : d.sh.get m.src
    · simp
    · by_cases h1 : 0 < d.waits
      · by_cases h2 : d.o < 0
        · by_cases h3 : m.src = d.asks
          · simp [h3]
          · exfalso
            simp [hk, hb, hg, h3] at hs
            omega
        · simp [h2]
      · simp [h1]
theorem done_nob (hk : m.kind = 13) (hs : strayF d m = true) : ((d.busy && d.told) && decide (d.asks = m.src)) = false := by
  unfold strayF at hs
  cases hb : d.busy
  · rfl
  · cases ht : d.told
    · rfl
    · by_cases h3 : d.asks = m.src
      · exfalso
        simp [hk, hb, ht, h3] at hs
      · simp [h3]
theorem leave_ne (h : ¬ d.o = m.src) : leaveF d m.src = d := by unfold leaveF; rw [if_neg h]
theorem leave_eq (h : d.o = m.src) : leaveF d m.src = { d with o := -1 } := by unfold leaveF; rw [if_pos h]
end
end Go.Proofs.Ytflnlmibkbojcaa
namespace Go.Proofs.Ytflnlmibkbojcaa
open Go.RowKit
theorem hmust_ok (e : Int) (w : World) : Calls Try.prog 100 #[.bool true, .int .i64 e] w (Ret fun v w' => v = .tuple #[] ∧ w' = w) := by
 refine Zen 9 Try.func100 ?_
 refine Zsr ?_
 refine Zm ?_
 refine Zv (.bool false) (fun _ fr => x_not rfl (fr.ev rfl) rfl) ?_
 refine Znn ?_
 refine Zcf ?_
 refine Zsk ?_
 refine Zee rfl [] trivial ?_
 exact ⟨_, rfl, rfl, rfl⟩
def hstopE (why : Int) : List PanicEntry := [{ v := .iface 170 (.agg #[.int .i64 why]), recovered := false }]
theorem hmust_no (e : Int) (w : World) : Calls Try.prog 100 #[.bool false, .int .i64 e] w (Pan fun c w' => c = hstopE e ∧ w' = w) := by
 refine Zen 9 Try.func100 ?_
 refine Zsr ?_
 refine Zm ?_
 refine Zv (.bool true) (fun _ fr => x_not rfl (fr.ev rfl) rfl) ?_
 refine Znn ?_
 refine Zct ?_
 refine Zrg ?_
 refine Zm ?_
 refine Zv (.agg (#[.int .i64 e])) (fun a fr => x_build (cells := #[.int .i64 e]) rfl (by simp only [List.map_toArray, List.map_cons, List.map_nil, show a.eval (.tmp 6) = .int .i64 e from fr.ev rfl]; kernel_rfl)) ?_
 refine Zv _ (fun _ fr => x_makeInterface rfl (fr.ev rfl) Try.underlying170 rfl) ?_
 intro a fr
 refine fx_panic rfl rfl (fr.ev rfl) ?_
 refine fx_pend fr ?_
 exact ⟨_, rfl, rfl, rfl⟩
theorem must_nob {b : Bool} (hb : b = false) (e : Int) (w : World) : Calls Try.prog 100 #[.bool b, .int .i64 e] w (Pan fun c w' => c = hstopE e ∧ w' = w) := by subst hb; exact hmust_no e w
theorem leave_c {w : World} {bw be bh : Nat} {A : Option Addr} {n ac : Nat} {line : Int} (hW : Blk w bw 176 #[.slice A n ac, .pointer (some ⟨be, 0, none⟩), .pointer (some ⟨bh, 0, none⟩), .int .u32 line]) {d : Ent} {qv : Value} (hE : Blk w be 147 (entA d qv)) (ne_bw_be : NE bw be) (r : Int) : Calls Try.prog 112 #[.pointer (some ⟨bw, 0, none⟩), .int .i64 r] w (Ret fun v w' => v = .tuple #[] ∧ Blk w' be 147 (entA (leaveF d r) qv) ∧ Only (fun k => k = be) w w') := by
 have hF := Only.refl (fun k => k = be) w
 refine Zen 19 Try.func112 ?_
 refine Zsr ?_
 refine Zm ?_
 refine Zn ?_
 refine Zf fo176_1 ?_
 refine Zd pl144 (hW.cell 1 rfl) ?_
 refine Zn ?_
 refine Zf fo147_0 ?_
 refine Zd (v := .int .i64 d.o) pl3 (hE.cell 0 rfl) ?_
 refine Zm ?_
 refine Zv _ (fun _ fr => x_eql rfl (fr.ev rfl) (fr.ev rfl) rfl) ?_
 refine Znn ?_
 refine Zcd (fun hc1 => ?_) (fun hc1 => ?_)
 ·have hc1 := of_decide_eq_true hc1
  refine Zrg ?_
  refine Zm ?_
  refine Zn ?_
  refine Zf fo176_1 ?_
  refine Zd pl144 (hW.cell 1 rfl) ?_
  refine Zn ?_
  refine Zf fo147_0 ?_
  refine Zs1 (cs' := entA ({ d with o := (-1) }) (qv)) sz3 hE (show 0 < 11 by decide) rfl fun w2 hO3 hBq => ?_
  replace hE := hBq
  clear hBq
  refine Znl ?_
  refine Zee rfl [] trivial ?_
  replace hF := hF.loc hO3 (.inl rfl)
  refine ⟨_, rfl, rfl, ?_, hF⟩
  rw [show leaveF d r = { d with o := -1 } by unfold leaveF; rw [if_pos hc1]]
  exact hE
 ·have hc1 := of_decide_eq_false hc1
  refine Zsk ?_
  refine Zee rfl [] trivial ?_
  refine ⟨_, rfl, rfl, ?_, hF⟩
  rw [show leaveF d r = d by unfold leaveF; rw [if_neg hc1]]
  exact hE
theorem own_c {w : World} {bw be bh : Nat} {A : Option Addr} {n ac : Nat} {line : Int} (hW : Blk w bw 176 #[.slice A n ac, .pointer (some ⟨be, 0, none⟩), .pointer (some ⟨bh, 0, none⟩), .int .u32 line]) {d : Ent} {qv : Value} (hE : Blk w be 147 (entA d qv)) (ne_bw_be : NE bw be) (r : Int) : Calls Try.prog 103 #[.pointer (some ⟨bw, 0, none⟩), .int .i64 r] w (Ret fun v w' => v = .tuple #[] ∧ Blk w' be 147 (entA (ownF d r) qv) ∧ Only (fun k => k = be) w w') := by
 have hF := Only.refl (fun k => k = be) w
 refine Zen 18 Try.func103 ?_
 refine ZhT (n := 13) 13 (fun w => Blk w bw 176 #[.slice A n ac, .pointer (some ⟨be, 0, none⟩), .pointer (some ⟨bh, 0, none⟩), .int .u32 line] ∧ True) ?_
 intro w1 hN2
 replace hW := hW.new hN2
 have hS9 := And.intro hW trivial
 refine Zhm 0 hS9 ?_
 refine Zhc 1 hS9 ?_
 refine Zhf 2 fo176_1 hS9 ?_
 refine Zhl 3 pl144 hS9 (fun _ ⟨hW, _⟩ => (hW.cell 1 rfl)) ?_
 refine Zhm 4 hS9 ?_
 refine Zhc 5 hS9 ?_
 refine Zhf 6 fo176_1 hS9 ?_
 refine Zhl 7 pl144 hS9 (fun _ ⟨hW, _⟩ => (hW.cell 1 rfl)) ?_
 refine Zhm 8 hS9 ?_
 refine Zht 9 rfl (.agg (#[.bool false, .bool false, .bool false, .bool false])) hS9 (fun _ _ _ _ => x_build (cells := #[.bool false, .bool false, .bool false, .bool false]) rfl (by kernel_rfl)) ?_
 refine Zhc 10 hS9 ?_
 refine Zhf 11 fo147_0 hS9 ?_
 refine Zh1 12 ?_
 replace hE := hE.new hN2
 refine Zs1 (cs' := entA ({ d with o := r }) (qv)) sz3 hE (show 0 < 11 by decide) rfl fun w3 hO4 hBq => ?_
 replace hE := hBq
 clear hBq
 replace hW := hW.only hO4 ne_bw_be
 refine Zhb ⟨hW, trivial⟩ ?_
 refine Zhn ?_
 refine Ztl ?_
 refine Zn ?_
 refine Zf fo147_1 ?_
 intro a fr
 refine fx_storeAt sz145 rfl rfl rfl (fr.ev rfl) (fr.ev rfl) (by simp [Value.oneCell']) hE rfl (show 1 + 4 ≤ 11 by decide) (cs' := entA ({ { d with o := r } with sh := sh0 }) (qv)) rfl fun w5 hO6 hBq => ?_
 revert a
 replace hE := hBq
 clear hBq
 refine Znl ?_
 refine Zee rfl [] trivial ?_
 replace hF := ((hF.trNew hN2).loc hO4 (.inl rfl)).loc hO6 (.inl rfl)
 exact ⟨_, rfl, rfl, hE, hF⟩
theorem busy_c {w : World} {bw be bh : Nat} {A : Option Addr} {n ac : Nat} {line : Int} (hW : Blk w bw 176 #[.slice A n ac, .pointer (some ⟨be, 0, none⟩), .pointer (some ⟨bh, 0, none⟩), .int .u32 line]) {d : Ent} {qv : Value} (hE : Blk w be 147 (entA d qv)) (ne_bw_be : NE bw be) (m : Msg) (waits : Int) (told : Bool) : Calls Try.prog 113 #[.pointer (some ⟨bw, 0, none⟩), .agg (msgE.arr m), .int .i64 waits, .bool told] w (Ret fun v w' => v = .tuple #[] ∧ Blk w' be 147 (entA (busyF d m waits told) qv) ∧ Only (fun k => k = be) w w') := by
 have hF := Only.refl (fun k => k = be) w
 refine Zen 44 Try.func113 ?_
 refine Zsr ?_
 refine Znb (cs := msgE.arr m) fun b1 w2 hN3 B4 hb5 => ?_
 have ne_be_b1 : NE be b1 := NE.mk (Nat.lt_of_lt_of_le hE.lt hb5)
 refine Znn ?_
 refine ZhT (n := 38) 38 (fun w => Blk w bw 176 #[.slice A n ac, .pointer (some ⟨be, 0, none⟩), .pointer (some ⟨bh, 0, none⟩), .int .u32 line] ∧ Blk w b1 35 (msgE.arr m) ∧ True) ?_
 intro w6 hN7
 replace hW := (hW.new hN3).new hN7
 replace B4 := B4.new hN7
 have hS9 := And.intro hW (And.intro B4 trivial)
 refine Zhm 0 hS9 ?_
 refine Zhc 1 hS9 ?_
 refine Zhf 2 fo176_1 hS9 ?_
 refine Zhl 3 pl144 hS9 (fun _ ⟨hW, _⟩ => (hW.cell 1 rfl)) ?_
 refine Zhm 4 hS9 ?_
 refine Zhc 5 hS9 ?_
 refine Zhf 6 fo176_1 hS9 ?_
 refine Zhl 7 pl144 hS9 (fun _ ⟨hW, _⟩ => (hW.cell 1 rfl)) ?_
 refine Zhm 8 hS9 ?_
 refine Zhc 9 hS9 ?_
 refine Zhf 10 fo176_1 hS9 ?_
 refine Zhl 11 pl144 hS9 (fun _ ⟨hW, _⟩ => (hW.cell 1 rfl)) ?_
 refine Zhm 12 hS9 ?_
 refine Zhc 13 hS9 ?_
 refine Zhf 14 fo176_1 hS9 ?_
 refine Zhl 15 pl144 hS9 (fun _ ⟨hW, _⟩ => (hW.cell 1 rfl)) ?_
 refine Zhm 16 hS9 ?_
 refine Zhc 17 hS9 ?_
 refine Zhf 18 fo176_1 hS9 ?_
 refine Zhl 19 pl144 hS9 (fun _ ⟨hW, _⟩ => (hW.cell 1 rfl)) ?_
 refine Zhf 20 fo35_1 hS9 ?_
 refine Zhl (v := .int .i64 m.src) 21 pl3 hS9 (fun _ ⟨_, B4, _⟩ => (B4.cell 1 rfl)) ?_
 refine Zhf 22 fo35_0 hS9 ?_
 refine Zhl (v := .int .i64 m.kind) 23 pl33 hS9 (fun _ ⟨_, B4, _⟩ => (B4.cell 0 rfl)) ?_
 refine Zhm 24 hS9 ?_
 refine Zhm 25 hS9 ?_
 refine Zhc 26 hS9 ?_
 refine Zhf 27 fo147_2 hS9 ?_
 refine Zh1 28 ?_
 replace hE := (hE.new hN3).new hN7
 refine Zs1 (cs' := entA ({ d with busy := true }) (qv)) sz4 hE (show 5 < 11 by decide) rfl fun w8 hO9 hBq => ?_
 replace hE := hBq
 clear hBq
 replace hW := hW.only hO9 ne_bw_be
 replace B4 := B4.only hO9 ne_be_b1.symm
 refine Zhb ⟨hW, B4, trivial⟩ ?_
 have hS9 := And.intro hW (And.intro B4 trivial)
 refine Zhc 29 hS9 ?_
 refine Zhf 30 fo147_3 hS9 ?_
 refine Zh1 31 ?_
 refine Zs1 (cs' := entA ({ { d with busy := true } with asks := m.src }) (qv)) sz3 hE (show 6 < 11 by decide) rfl fun w10 hO11 hBq => ?_
 replace hE := hBq
 clear hBq
 replace hW := hW.only hO11 ne_bw_be
 replace B4 := B4.only hO11 ne_be_b1.symm
 refine Zhb ⟨hW, B4, trivial⟩ ?_
 have hS9 := And.intro hW (And.intro B4 trivial)
 refine Zhc 32 hS9 ?_
 refine Zhf 33 fo147_4 hS9 ?_
 refine Zh1 34 ?_
 refine Zs1 (cs' := entA ({ { { d with busy := true } with asks := m.src } with kind := m.kind }) (qv)) sz33 hE (show 7 < 11 by decide) rfl fun w12 hO13 hBq => ?_
 replace hE := hBq
 clear hBq
 replace hW := hW.only hO13 ne_bw_be
 replace B4 := B4.only hO13 ne_be_b1.symm
 refine Zhb ⟨hW, B4, trivial⟩ ?_
 have hS9 := And.intro hW (And.intro B4 trivial)
 refine Zhc 35 hS9 ?_
 refine Zhf 36 fo147_5 hS9 ?_
 refine Zh1 37 ?_
 refine Zs1 (cs' := entA ({ { { { d with busy := true } with asks := m.src } with kind := m.kind } with waits := waits }) (qv)) sz3 hE (show 8 < 11 by decide) rfl fun w14 hO15 hBq => ?_
 replace hE := hBq
 clear hBq
 replace hW := hW.only hO15 ne_bw_be
 replace B4 := B4.only hO15 ne_be_b1.symm
 refine Zhb ⟨hW, B4, trivial⟩ ?_
 refine Zhn ?_
 refine Ztl ?_
 refine Zn ?_
 refine Zf fo147_6 ?_
 refine Zs1 (cs' := entA ({ { { { { d with busy := true } with asks := m.src } with kind := m.kind } with waits := waits } with told := told }) (qv)) sz4 hE (show 9 < 11 by decide) rfl fun w16 hO17 hBq => ?_
 replace hE := hBq
 clear hBq
 refine Znl ?_
 refine Zee rfl [] trivial ?_
 replace hF := ((((((hF.trNew hN3).trNew hN7).loc hO9 (.inl rfl)).loc hO11 (.inl rfl)).loc hO13 (.inl rfl)).loc hO15 (.inl rfl)).loc hO17 (.inl rfl)
 exact ⟨_, rfl, rfl, hE, hF⟩
theorem othK_t {sh : Sh} {r : Int} {i : Nat} (h : (sh.get ((i : Nat) : Int) && decide (((i : Nat) : Int) ≠ r)) = true) : othK sh r (i + 1) = othK sh r i ++ [((i : Nat) : Int)] := if_pos h
theorem othK_f {sh : Sh} {r : Int} {i : Nat} (h : (sh.get ((i : Nat) : Int) && decide (((i : Nat) : Int) ≠ r)) = false) : othK sh r (i + 1) = othK sh r i := if_neg (by rw [h]; decide)
theorem others_c {w : World} {bw be bh : Nat} {A : Option Addr} {n ac : Nat} {line : Int} (hW : Blk w bw 176 #[.slice A n ac, .pointer (some ⟨be, 0, none⟩), .pointer (some ⟨bh, 0, none⟩), .int .u32 line]) {d : Ent} {qv : Value} (hE : Blk w be 147 (entA d qv)) (ne_bw_be : NE bw be) (r : Int) : Calls Try.prog 114 #[.pointer (some ⟨bw, 0, none⟩), .int .i64 r] w (Ret fun v w' => ∃ A' c', v = .slice A' (othersF d.sh r).length c' ∧ Own intE w' A' c' (othersF d.sh r) ∧ (∀ g, inA A' g → w.heap.size ≤ g) ∧ New w w') := by
 have hF := Only.refl (fun _ => False) w
 refine Zen 31 Try.func114 ?_
 refine Zsr ?_
 refine Za ?_
 refine Znn ?_
 refine Zsr ?_
 refine Za ?_
 refine Znn ?_
 refine Zsq ?_
 refine Zsr ?_
 refine Zm ?_
 refine Zn ?_
 refine Zf fo176_1 ?_
 refine Zd pl144 (hW.cell 1 rfl) ?_
 refine Zn ?_
 refine Zf fo147_1 ?_
 refine Zv _ (fun _ fr => x_loadS ag145 rfl (fr.ev rfl) rfl (hE.part (q := 1) (n := 4) rfl)) ?_
 refine Zm ?_
 refine Znn ?_
 refine Zbl ?_
 intro a fr
 refine fx_loop (fun nM a wL => ∃ i : Nat, ∃ A1 : Option Addr, ∃ c1 : Nat, nM = 4 - i ∧ Fr (31, []) [(0, .pointer (some ⟨bw, 0, none⟩)), (1, .int .i64 r), (5, .slice A1 ((othK d.sh r i).length) c1), (14, .agg (#[.bool d.sh.a, .bool d.sh.b, .bool d.sh.c, .bool d.sh.d])), (15, .int .i64 ((i : Nat) : Int))] a ∧ Only (fun _ => False) w wL ∧ Own intE wL A1 c1 (othK d.sh r i) ∧ i ≤ 4 ∧ (∀ g, inA A1 g → (fun _ => False) g ∨ w.heap.size ≤ g)) (n0 := _) ⟨0, none, 0, rfl, fr.sub ⟨rfl, rfl, rfl, rfl, rfl, trivial⟩, hF, Own.nil, by omega, gA_none⟩ ?_
 clear fr a
 rintro n2 a w1 ⟨i, A1, c1, rfl, fr, hF, OL, hp3, gA_A1⟩
 revert a
 have hkl := othK_len d.sh r i
 refine Zsr ?_
 refine Zv _ (fun _ fr => x_lss rfl (fr.ev rfl) rfl rfl) ?_
 refine Znn ?_
 refine Zsq ?_
 refine Zcd (fun hc4 => ?_) (fun hc4 => ?_)
 ·have hc4 := of_decide_eq_true hc4
  refine Zsk ?_
  refine Znx ?_
  refine Zsq ?_
  refine Zbl ?_
  refine Zsr ?_
  refine Zm ?_
  refine Zv (.bool (d.sh.get ((i : Nat) : Int))) (fun _ fr => x_indexSh (s := d.sh) rfl (fr.ev rfl) (fr.ev rfl) (by omega)) ?_
  refine Za ?_
  refine Za ?_
  refine Znn ?_
  refine Zsr ?_
  refine Zm ?_
  refine Zm ?_
  refine Zy (d.sh.get ((i : Nat) : Int)) _ (fun _ fr _ => x_move rfl (fr.ev rfl)) ?_
  refine Zy (d.sh.get ((i : Nat) : Int)) (.int .i64 r) (fun _ fr _ => x_move rfl (fr.ev rfl)) ?_
  refine Zy (d.sh.get ((i : Nat) : Int)) _ (fun _ fr hg => x_neq rfl ((fr.ev rfl).trans (onlyIf_t hg)) ((fr.ev rfl).trans (onlyIf_t hg)) rfl) ?_
  refine Zv (.bool ((d.sh.get ((i : Nat) : Int)) && (decide (((i : Nat) : Int) ≠ r)))) (fun _ fr => x_pick_and rfl (fr.ev rfl) (fun hb => ((fr.ev rfl)).trans (onlyIf_t (by simp_all))) (fun _ => rfl) rfl) ?_
  refine Znn ?_
  refine Zcd (fun hc5 => ?_) (fun hc5 => ?_)
  ·have hc5s := hc5
   try simp at hc5s
   refine Zrg ?_
   refine Zm ?_
   refine Zm ?_
   intro a fr
   refine fx_build1v (E := intE) (p := ((i : Nat) : Int)) elInt (by decide) fr rfl rfl (by decide) rfl (fr.ev rfl) rfl ?_
   clear fr a
   intro A6 w7 hN8 O9 hA10
   intro a fr
   replace OL := OL.new hN8
   refine fx_append (E := intE) (l := othK d.sh r i) (l' := [((i : Nat) : Int)]) elInt fr rfl rfl (by decide) rfl (fr.ev rfl) (fr.ev rfl) (by first | rfl | (simp; done) | (simp; omega)) (by first | rfl | (simp; done) | (simp; omega)) OL O9.view (by simp; omega) (by first | (unfold maxLen; done) | (unfold maxLen; first | omega | (simp only [List.length_append, List.length_cons, List.length_nil]; omega) | (simp; done) | (simp; omega))) ?_
   clear fr a
   intro A11 cap12 w13 O14 hO15 mv16
   replace hF := hF.trNew hN8
   have gA_A11 := gA_moved hF mv16 gA_A1
   clear OL
   refine Za ?_
   refine Znl ?_
   refine Zb ?_
   refine Znx ?_
   refine Zrg ?_
   refine Zv _ (fun _ fr => x_add rfl (fr.ev rfl) rfl (i64w (r := ((i + 1 : Nat) : Int)) (by omega) (by omega))) ?_
   refine Zm ?_
   intro a fr
   refine wpList_nil ?_
   refine fx_next ?_
   have hek := othK_t hc5
   rw [← hek] at fr O14
   replace hF := hF.locA hO15 gA_A1
   exact ⟨_, by omega, (i + 1), A11, cap12, rfl, fr.sub ⟨rfl, rfl, rfl, rfl, rfl, trivial⟩, hF, O14, by omega, gA_A11⟩
  ·have hc5s := hc5
   try simp at hc5s
   refine Zsk ?_
   refine Zb ?_
   refine Znx ?_
   refine Zrg ?_
   refine Zv _ (fun _ fr => x_add rfl (fr.ev rfl) rfl (i64w (r := ((i + 1 : Nat) : Int)) (by omega) (by omega))) ?_
   refine Zm ?_
   intro a fr
   refine wpList_nil ?_
   refine fx_next ?_
   have hek := othK_f hc5
   rw [← hek] at fr OL
   exact ⟨_, by omega, (i + 1), A1, c1, rfl, fr.sub ⟨rfl, rfl, rfl, rfl, rfl, trivial⟩, hF, OL, by omega, gA_A1⟩
 ·have hc4 := of_decide_eq_false hc4
  refine Zex ?_
  refine Zxt ?_
  refine Zxt ?_
  refine Zxx ?_
  refine Znx ?_
  refine Zsr ?_
  refine Zm ?_
  refine Za ?_
  refine Znn ?_
  refine Zrt ?_
  refine Zre rfl [_] ⟨rfl, trivial⟩ ?_
  obtain rfl : i = 4 := by omega
  exact ⟨_, rfl, A1, c1, rfl, OL, fun g hg => (gA_A1 g hg).resolve_left (fun h => h), hF⟩
theorem send_n {w : World} {bw be bh bi ig cap r : Nat} {A : Option Addr} {ac : Nat} {line : Int} {out : List Msg} {bs : List UInt8} (hln : 0 ≤ line ∧ line < 4294967296) (hW : Blk w bw 176 #[.slice A out.length ac, .pointer (some ⟨be, 0, none⟩), .pointer (some ⟨bh, 0, none⟩), .int .u32 line]) (hH : Blk w bh 140 #[.pointer (some ⟨bi, 0, none⟩), .map (some r)]) (hI : Img 0 w bi ig cap bs) (hO : Own msgE w A ac out) (ne_bw_bh : NE bw bh) (ne_bw_bi : NE bw bi) (ne_bw_ig : NE bw ig) (ap_A_bw : Apart A bw) (ap_A_bh : Apart A bh) (ap_A_bi : Apart A bi) (ap_A_ig : Apart A ig) (hlen : out.length ≤ 1000000) (kind dst : Int) : Calls Try.prog 104 #[.pointer (some ⟨bw, 0, none⟩), .int .i64 kind, .int .i64 dst, .bool false] w (Ret fun v w' => v = .tuple #[] ∧ ∃ A' ac', Blk w' bw 176 #[.slice A' (out ++ [(mkM kind 4 dst line b16z hln)]).length ac', .pointer (some ⟨be, 0, none⟩), .pointer (some ⟨bh, 0, none⟩), .int .u32 line] ∧ Own msgE w' A' ac' (out ++ [(mkM kind 4 dst line b16z hln)]) ∧ (∀ k, inA A' k → inA A k ∨ w.heap.size ≤ k) ∧ Only (fun k => k = bw ∨ inA A k) w w') := by
 have gA_A : ∀ g, inA A g → (g = bw ∨ inA A g) ∨ w.heap.size ≤ g := fun g hg => .inl (.inr hg)
 have hF := Only.refl (fun k => k = bw ∨ inA A k) w
 refine Zen 45 Try.func104 ?_
 refine Zsr ?_
 refine Zm ?_
 refine Zm ?_
 refine Zm ?_
 refine Zn ?_
 refine Zf fo176_3 ?_
 refine Zd (v := .int .u32 line) pl32 (hW.cell 3 rfl) ?_
 refine Zv (.agg (msgE.arr (mkM kind 4 dst line b16z hln))) (fun a fr => x_build (cells := msgE.arr (mkM kind 4 dst line b16z hln)) rfl (by simp only [List.map_toArray, List.map_cons, List.map_nil, show a.eval (.tmp 9) = .int .i64 kind from fr.ev rfl, show a.eval (.tmp 10) = .int .i64 dst from fr.ev rfl, show a.eval (.tmp 14) = .int .u32 line from fr.ev rfl]; kernel_rfl)) ?_
 refine Zna (z := zv3) (cs := msgE.arr msg0) (by kernel_rfl) fun b1 w2 hN3 B4 hb5 => ?_
 have ne_bw_b1 : NE bw b1 := NE.mk (Nat.lt_of_lt_of_le hW.lt hb5)
 have ap_A_b1 : Apart A b1 := hO.apart hb5
 have g_b1 := Nat.le_trans hF.size hb5
 refine ZsS sz35 (msgE.all _) B4 (msgE.size _) (msgE.size _) fun w6 hO7 hBq => ?_
 replace B4 := hBq
 clear hBq
 refine Znn ?_
 refine Zsq ?_
 refine Zsr ?_
 refine Zm ?_
 refine Znn ?_
 refine Zcf ?_
 refine Zsk ?_
 refine Znx ?_
 refine ZhT (n := 9) 9 (fun w => Blk w bw 176 #[.slice A out.length ac, .pointer (some ⟨be, 0, none⟩), .pointer (some ⟨bh, 0, none⟩), .int .u32 line] ∧ Blk w b1 35 (msgE.arr (mkM kind 4 dst line b16z hln)) ∧ True) ?_
 intro w8 hN9
 replace hW := ((hW.new hN3).only hO7 ne_bw_b1).new hN9
 replace B4 := B4.new hN9
 have hS9 := And.intro hW (And.intro B4 trivial)
 refine Zhm 0 hS9 ?_
 refine Zhm 1 hS9 ?_
 refine Zhc 2 hS9 ?_
 refine Zhf 3 fo176_0 hS9 ?_
 refine Zhf 4 fo174_0 hS9 ?_
 refine Zhl (v := .slice A out.length ac) 5 pl29 hS9 (fun _ ⟨hW, _⟩ => (hW.cell 0 rfl)) ?_
 refine ZhE 6 msgE ag35 hS9 (fun _ ⟨_, B4, _⟩ => (B4.rangeE msgE)) ?_
 refine Zh1 7 ?_
 intro a fr
 refine fx_build1 (E := msgE) (p := (mkM kind 4 dst line b16z hln)) elMsg (by decide) fr rfl rfl (by decide) rfl (fr.ev rfl) ?_
 clear fr a
 intro A10 w11 hN12 O13 hA14
 replace hW := hW.new hN12
 replace B4 := B4.new hN12
 refine Zhb ⟨hW, B4, trivial⟩ ?_
 refine Zh1 8 ?_
 intro a fr
 replace hO := (((hO.new hN3).only hO7 (Apart.ne1 ap_A_b1)).new hN9).new hN12
 refine fx_append (E := msgE) (l := out) (l' := [(mkM kind 4 dst line b16z hln)]) elMsg fr rfl rfl (by decide) rfl (fr.ev rfl) (fr.ev rfl) (by first | rfl | (simp; done) | (simp; omega)) (by first | rfl | (simp; done) | (simp; omega)) hO O13.view (by first | omega | (simp; omega)) (by first | (unfold maxLen; done) | (unfold maxLen; first | omega | (simp only [List.length_append, List.length_cons, List.length_nil]; omega) | (simp; done) | (simp; omega))) ?_
 clear fr a
 intro A15 cap16 w17 O18 hO19 mv20
 have ap_A15_bw : Apart A15 bw := moved_apart mv20 ap_A_bw hW.lt
 replace hF := (((hF.trNew hN3).loc hO7 (.inr g_b1)).trNew hN9).trNew hN12
 have gA_A15 := gA_moved hF mv20 gA_A
 clear hO
 replace hW := hW.only hO19 ap_A_bw
 replace B4 := B4.only hO19 ap_A_b1
 refine Zhb ⟨hW, B4, trivial⟩ ?_
 refine Zhn ?_
 refine Ztl ?_
 refine Zn ?_
 refine Zf fo176_0 ?_
 refine Zf fo174_0 ?_
 refine Zs1 (cs' := #[.slice A15 ((out ++ ([(mkM kind 4 dst line b16z hln)])).length) cap16, .pointer (some ⟨be, 0, none⟩), .pointer (some ⟨bh, 0, none⟩), .int .u32 line]) sz29 hW (show 0 < 4 by decide) rfl fun w21 hO22 hBq => ?_
 replace hW := hBq
 clear hBq
 refine Znl ?_
 refine Zee rfl [] trivial ?_
 replace hF := (hF.locA hO19 gA_A).loc hO22 (.inl (.inl rfl))
 replace O18 := O18.only hO22 (Apart.ne1 ap_A15_bw)
 exact ⟨_, rfl, rfl, A15, cap16, hW, O18, fun k hk => (gA_A15 k hk).elim (fun h => h.elim (fun e => absurd hk (e ▸ ap_A15_bw)) .inl) .inr, hF⟩
theorem send_b {w : World} {bw be bh bi ig cap r : Nat} {A : Option Addr} {ac : Nat} {line : Int} {out : List Msg} {bs : List UInt8} (hln : 0 ≤ line ∧ line < 4294967296) (hW : Blk w bw 176 #[.slice A out.length ac, .pointer (some ⟨be, 0, none⟩), .pointer (some ⟨bh, 0, none⟩), .int .u32 line]) (hH : Blk w bh 140 #[.pointer (some ⟨bi, 0, none⟩), .map (some r)]) (hI : Img 0 w bi ig cap bs) (hO : Own msgE w A ac out) (ne_bw_bh : NE bw bh) (ne_bw_bi : NE bw bi) (ne_bw_ig : NE bw ig) (ap_A_bw : Apart A bw) (ap_A_bh : Apart A bh) (ap_A_bi : Apart A bi) (ap_A_ig : Apart A ig) (hlen : out.length ≤ 1000000) (kind dst : Int) : Calls Try.prog 104 #[.pointer (some ⟨bw, 0, none⟩), .int .i64 kind, .int .i64 dst, .bool true] w (Ret fun v w' => v = .tuple #[] ∧ ∃ A' ac', Blk w' bw 176 #[.slice A' (out ++ [(mkM kind 4 dst line (lineB bs line) hln)]).length ac', .pointer (some ⟨be, 0, none⟩), .pointer (some ⟨bh, 0, none⟩), .int .u32 line] ∧ Own msgE w' A' ac' (out ++ [(mkM kind 4 dst line (lineB bs line) hln)]) ∧ (∀ k, inA A' k → inA A k ∨ w.heap.size ≤ k) ∧ Only (fun k => k = bw ∨ inA A k) w w') := by
 have gA_A : ∀ g, inA A g → (g = bw ∨ inA A g) ∨ w.heap.size ≤ g := fun g hg => .inl (.inr hg)
 have hF := Only.refl (fun k => k = bw ∨ inA A k) w
 refine Zen 45 Try.func104 ?_
 refine Zsr ?_
 refine Zm ?_
 refine Zm ?_
 refine Zm ?_
 refine Zn ?_
 refine Zf fo176_3 ?_
 refine Zd (v := .int .u32 line) pl32 (hW.cell 3 rfl) ?_
 refine Zv (.agg (msgE.arr (mkM kind 4 dst line b16z hln))) (fun a fr => x_build (cells := msgE.arr (mkM kind 4 dst line b16z hln)) rfl (by simp only [List.map_toArray, List.map_cons, List.map_nil, show a.eval (.tmp 9) = .int .i64 kind from fr.ev rfl, show a.eval (.tmp 10) = .int .i64 dst from fr.ev rfl, show a.eval (.tmp 14) = .int .u32 line from fr.ev rfl]; kernel_rfl)) ?_
 refine Zna (z := zv3) (cs := msgE.arr msg0) (by kernel_rfl) fun b1 w2 hN3 B4 hb5 => ?_
 have ne_bw_b1 : NE bw b1 := NE.mk (Nat.lt_of_lt_of_le hW.lt hb5)
 have ne_bh_b1 : NE bh b1 := NE.mk (Nat.lt_of_lt_of_le hH.lt hb5)
 have ne_bi_b1 : NE bi b1 := NE.mk (Nat.lt_of_lt_of_le hI.lt.1 hb5)
 have ne_ig_b1 : NE ig b1 := NE.mk (Nat.lt_of_lt_of_le hI.lt.2 hb5)
 have ap_A_b1 : Apart A b1 := hO.apart hb5
 have g_b1 := Nat.le_trans hF.size hb5
 refine ZsS sz35 (msgE.all _) B4 (msgE.size _) (msgE.size _) fun w6 hO7 hBq => ?_
 replace B4 := hBq
 clear hBq
 refine Znn ?_
 refine Zsq ?_
 refine Zsr ?_
 refine Zm ?_
 refine Znn ?_
 refine Zct ?_
 refine Zhd (n := 17) (fun w => Blk w bw 176 #[.slice A out.length ac, .pointer (some ⟨be, 0, none⟩), .pointer (some ⟨bh, 0, none⟩), .int .u32 line] ∧ Blk w bh 140 #[.pointer (some ⟨bi, 0, none⟩), .map (some r)] ∧ True) ?_
 intro w8 hN9
 replace hW := ((hW.new hN3).only hO7 ne_bw_b1).new hN9
 replace hH := ((hH.new hN3).only hO7 ne_bh_b1).new hN9
 have hS9 := And.intro hW (And.intro hH trivial)
 refine Zhm 0 hS9 ?_
 refine Zhc 1 hS9 ?_
 refine Zhf 2 fo176_2 hS9 ?_
 refine Zhl 3 pl90 hS9 (fun _ ⟨hW, _⟩ => (hW.cell 2 rfl)) ?_
 refine Zhc 4 hS9 ?_
 refine Zhf 5 fo140_0 hS9 ?_
 refine Zhl 6 pl87 hS9 (fun _ ⟨_, hH, _⟩ => (hH.cell 0 rfl)) ?_
 refine Zhm 7 hS9 ?_
 refine Zhc 8 hS9 ?_
 refine Zhf 9 fo176_3 hS9 ?_
 refine Zhl (v := .int .u32 line) 10 pl32 hS9 (fun _ ⟨hW, _⟩ => (hW.cell 3 rfl)) ?_
 refine Zh1 11 ?_
 replace hI := ((hI.new hN3).only hO7 ne_bi_b1 ne_ig_b1).new hN9
 refine Zk (args := #[.pointer (some ⟨bi, 0, none⟩), .int .u32 line]) cf111 (hline_c line (by omega) hI) ?_
 rintro v w10 ⟨rfl, hN11⟩
 replace hW := hW.new hN11
 replace hH := hH.new hN11
 refine Zhb ⟨hW, hH, trivial⟩ ?_
 have hS9 := And.intro hW (And.intro hH trivial)
 refine Zhm 12 hS9 ?_
 refine Zhx 13 hS9 ?_
 refine Zhx 14 hS9 ?_
 refine Zhf 15 fo35_4 hS9 ?_
 refine Zh1 16 ?_
 intro a fr
 replace B4 := (B4.new hN9).new hN11
 refine fx_storePart (E := msgE) (E2 := bsE) (q := 4) (m := (mkM kind 4 dst line b16z hln)) (m' := { (mkM kind 4 dst line b16z hln) with bs := (lineB bs line) }) (z := (lineB bs line)) sz22 rfl rfl rfl (fr.ev rfl) (fr.ev rfl) B4 (by decide) (msg_setbs _ _) fun w12 hO13 hBq => ?_
 revert a
 replace B4 := hBq
 clear hBq
 replace hW := hW.only hO13 ne_bw_b1
 replace hH := hH.only hO13 ne_bh_b1
 refine Zhb ⟨hW, hH, trivial⟩ ?_
 refine Zhn ?_
 refine Znx ?_
 refine ZhT (n := 9) 9 (fun w => Blk w bw 176 #[.slice A out.length ac, .pointer (some ⟨be, 0, none⟩), .pointer (some ⟨bh, 0, none⟩), .int .u32 line] ∧ Blk w b1 35 (msgE.arr { (mkM kind 4 dst line b16z hln) with bs := (lineB bs line) }) ∧ True) ?_
 intro w14 hN15
 replace hW := hW.new hN15
 replace B4 := B4.new hN15
 have hS9 := And.intro hW (And.intro B4 trivial)
 refine Zhm 0 hS9 ?_
 refine Zhm 1 hS9 ?_
 refine Zhc 2 hS9 ?_
 refine Zhf 3 fo176_0 hS9 ?_
 refine Zhf 4 fo174_0 hS9 ?_
 refine Zhl (v := .slice A out.length ac) 5 pl29 hS9 (fun _ ⟨hW, _⟩ => (hW.cell 0 rfl)) ?_
 refine ZhE 6 msgE ag35 hS9 (fun _ ⟨_, B4, _⟩ => (B4.rangeE msgE)) ?_
 refine Zh1 7 ?_
 intro a fr
 refine fx_build1 (E := msgE) (p := { (mkM kind 4 dst line b16z hln) with bs := (lineB bs line) }) elMsg (by decide) fr rfl rfl (by decide) rfl (fr.ev rfl) ?_
 clear fr a
 intro A16 w17 hN18 O19 hA20
 replace hW := hW.new hN18
 replace B4 := B4.new hN18
 refine Zhb ⟨hW, B4, trivial⟩ ?_
 refine Zh1 8 ?_
 intro a fr
 replace hO := ((((((hO.new hN3).only hO7 (Apart.ne1 ap_A_b1)).new hN9).new hN11).only hO13 (Apart.ne1 ap_A_b1)).new hN15).new hN18
 refine fx_append (E := msgE) (l := out) (l' := [{ (mkM kind 4 dst line b16z hln) with bs := (lineB bs line) }]) elMsg fr rfl rfl (by decide) rfl (fr.ev rfl) (fr.ev rfl) (by first | rfl | (simp; done) | (simp; omega)) (by first | rfl | (simp; done) | (simp; omega)) hO O19.view (by first | omega | (simp; omega)) (by first | (unfold maxLen; done) | (unfold maxLen; first | omega | (simp only [List.length_append, List.length_cons, List.length_nil]; omega) | (simp; done) | (simp; omega))) ?_
 clear fr a
 intro A21 cap22 w23 O24 hO25 mv26
 have ap_A21_bw : Apart A21 bw := moved_apart mv26 ap_A_bw hW.lt
 replace hF := ((((((hF.trNew hN3).loc hO7 (.inr g_b1)).trNew hN9).trNew hN11).loc hO13 (.inr g_b1)).trNew hN15).trNew hN18
 have gA_A21 := gA_moved hF mv26 gA_A
 clear hO
 replace hW := hW.only hO25 ap_A_bw
 replace B4 := B4.only hO25 ap_A_b1
 refine Zhb ⟨hW, B4, trivial⟩ ?_
 refine Zhn ?_
 refine Ztl ?_
 refine Zn ?_
 refine Zf fo176_0 ?_
 refine Zf fo174_0 ?_
 refine Zs1 (cs' := #[.slice A21 ((out ++ ([{ (mkM kind 4 dst line b16z hln) with bs := (lineB bs line) }])).length) cap22, .pointer (some ⟨be, 0, none⟩), .pointer (some ⟨bh, 0, none⟩), .int .u32 line]) sz29 hW (show 0 < 4 by decide) rfl fun w27 hO28 hBq => ?_
 replace hW := hBq
 clear hBq
 refine Znl ?_
 refine Zee rfl [] trivial ?_
 replace hF := (hF.locA hO25 gA_A).loc hO28 (.inl (.inl rfl))
 replace O24 := O24.only hO28 (Apart.ne1 ap_A21_bw)
 exact ⟨_, rfl, rfl, A21, cap22, hW, O24, fun k hk => (gA_A21 k hk).elim (fun h => h.elim (fun e => absurd hk (e ▸ ap_A21_bw)) .inl) .inr, hF⟩
end Go.Proofs.Ytflnlmibkbojcaa
namespace Go.Proofs.Ytflnlmibkbojcaa
open Go.RowKit
theorem hwrite_c {w : World} {bw be bh bi ig cap r : Nat} {line : Int} {d : Ent} {Q : Option Addr} {qc : Nat} {A : Option Addr} {ac : Nat} {out : List Msg} {bs : List UInt8} (R : WorkR w bw be bh bi ig cap r line d Q qc A ac out bs) (hln : 0 ≤ line ∧ line < 4294967296) (hlen : out.length + 8 ≤ 1000000)  : Calls Try.prog 102 #[.pointer (some ⟨bw, 0, none⟩)] w (Ret fun v w' => v = .tuple #[] ∧ WRet w w' bw be bh bi ig cap r line Q qc A out ({ ownF d d.asks with told := true }) bs ([mkM 10 4 d.asks line (lineB bs line) hln])) := by
 obtain ⟨hW, hE, hH, hI, hQ, hO, hS⟩ := R
 have ne_bw_be := hS.ne_bw_be
 have ne_bw_bh := hS.ne_bw_bh
 have ne_bw_bi := hS.ne_bw_bi
 have ne_bw_ig := hS.ne_bw_ig
 have ne_be_bh := hS.ne_be_bh
 have ne_be_bi := hS.ne_be_bi
 have ne_be_ig := hS.ne_be_ig
 have ne_bh_bi := hS.ne_bh_bi
 have ne_bh_ig := hS.ne_bh_ig
 have ne_bi_ig := hS.ne_bi_ig
 have ap_Q_bw := hS.ap_Q_bw
 have ap_Q_be := hS.ap_Q_be
 have ap_Q_bh := hS.ap_Q_bh
 have ap_Q_bi := hS.ap_Q_bi
 have ap_Q_ig := hS.ap_Q_ig
 have ap_A_bw := hS.ap_A_bw
 have ap_A_be := hS.ap_A_be
 have ap_A_bh := hS.ap_A_bh
 have ap_A_bi := hS.ap_A_bi
 have ap_A_ig := hS.ap_A_ig
 have ap2_Q_A := hS.ap2_Q_A
 have gA_A : ∀ g, inA A g → (g = bw ∨ g = be ∨ g = ig ∨ inA A g) ∨ w.heap.size ≤ g := fun g hg => .inl (.inr (.inr (.inr hg)))
 have hF := Only.refl (fun k => k = bw ∨ k = be ∨ k = ig ∨ inA A k) w
 refine Zen 26 Try.func102 ?_
 refine Zsr ?_
 refine Zm ?_
 refine Zm ?_
 refine Zn ?_
 refine Zf fo176_1 ?_
 refine Zd pl144 (hW.cell 1 rfl) ?_
 refine Zn ?_
 refine Zf fo147_3 ?_
 refine Zd (v := .int .i64 d.asks) pl3 (hE.cell 6 rfl) ?_
 refine Zk cf103 (own_c hW hE ne_bw_be d.asks) ?_
 rintro v w2 ⟨rfl, hEn1, hN3⟩
 replace hE := hEn1
 clear hEn1
 refine Znn ?_
 refine Zsr ?_
 refine Zm ?_
 refine Zm ?_
 refine Zn ?_
 refine Zf fo176_1 ?_
 replace hW := hW.only hN3 ne_bw_be
 refine Zd pl144 (hW.cell 1 rfl) ?_
 refine Zn ?_
 refine Zf fo147_3 ?_
 refine Zd (v := .int .i64 d.asks) pl3 (hE.cell 6 rfl) ?_
 replace hH := hH.only hN3 ne_be_bh.symm
 replace hI := hI.only hN3 ne_be_bi.symm ne_be_ig.symm
 replace hO := hO.only hN3 (Apart.ne1 ap_A_be)
 refine Zk (args := #[.pointer (some ⟨bw, 0, none⟩), .int .i64 10, .int .i64 d.asks, .bool true]) cf104 (send_b hln hW hH hI hO ne_bw_bh ne_bw_bi ne_bw_ig ap_A_bw ap_A_bh ap_A_bi ap_A_ig (by first | omega | (simp only [List.length_append, List.length_cons, List.length_nil, List.length_map, List.length_take]; omega)) 10 d.asks) ?_
 rintro v w9 ⟨rfl, A4, ac5, hWn6, O7, mv8, hN10⟩
 have ap_A4_bw : Apart A4 bw := moved_apart mv8 ap_A_bw hW.lt
 have ap_A4_bh : Apart A4 bh := moved_apart mv8 ap_A_bh hH.lt
 have ap_A4_bi : Apart A4 bi := moved_apart mv8 ap_A_bi hI.lt.1
 have ap_A4_ig : Apart A4 ig := moved_apart mv8 ap_A_ig hI.lt.2
 replace hQ := hQ.only hN3 (Apart.ne1 ap_Q_be)
 have ap2_A4_Q : Apart2 A4 Q := moved_apart2 mv8 ap2_Q_A.symm fun _ hg => hQ.lt hg
 have ap_A4_be : Apart A4 be := moved_apart mv8 ap_A_be hE.lt
 replace hF := hF.loc hN3 (.inl (.inr (.inl rfl)))
 have gA_A4 := gA_moved hF mv8 gA_A
 clear hW hO
 have hW := hWn6
 clear hWn6
 refine Znn ?_
 refine Zrg ?_
 refine Zm ?_
 refine Zn ?_
 refine Zf fo176_1 ?_
 refine Zd pl144 (hW.cell 1 rfl) ?_
 refine Zn ?_
 refine Zf fo147_6 ?_
 replace hE := hE.only hN10 (fun h => h.elim ne_bw_be.symm ap_A_be)
 refine Zs1 (cs' := entA ({ ownF d d.asks with told := true }) (.slice Q d.q.length qc)) sz4 hE (show 9 < 11 by decide) rfl fun w11 hO12 hBq => ?_
 replace hE := hBq
 clear hBq
 refine Znl ?_
 refine Zee rfl [] trivial ?_
 replace hH := (hH.only hN10 (fun h => h.elim ne_bw_bh.symm ap_A_bh)).only hO12 ne_be_bh.symm
 replace hI := (hI.only hN10 (fun h => h.elim ne_bw_bi.symm ap_A_bi) (fun h => h.elim ne_bw_ig.symm ap_A_ig)).only hO12 ne_be_bi.symm ne_be_ig.symm
 replace hQ := (hQ.only hN10 (fun g hg => (fun h => h.elim ((Apart.ne1 ap_Q_bw) g hg) ((fun g h1 h2 => ap2_Q_A g h1 h2) g hg)))).only hO12 (Apart.ne1 ap_Q_be)
 replace hF := (hF.loc2 hN10 (.inl (.inl rfl)) gA_A).loc hO12 (.inl (.inr (.inl rfl)))
 replace hW := hW.only hO12 ne_bw_be
 replace O7 := O7.only hO12 (Apart.ne1 ap_A4_be)
 exact ⟨_, rfl, rfl, A4, ac5, ⟨hW, hE, hH, hI, hQ, O7, ⟨ne_bw_be, ne_bw_bh, ne_bw_bi, ne_bw_ig, ne_be_bh, ne_be_bi, ne_be_ig, ne_bh_bi, ne_bh_ig, ne_bi_ig, ap_Q_bw, ap_Q_be, ap_Q_bh, ap_Q_bi, ap_Q_ig, ap_A4_bw, ap_A4_be, ap_A4_bh, ap_A4_bi, ap_A4_ig, ap2_A4_Q.symm⟩⟩, wmv gA_A4 ap_A4_bw ap_A4_be ap_A4_ig, hF⟩
theorem gets_c {w : World} {bw be bh bi ig cap r : Nat} {d : Ent} {Q : Option Addr} {qc : Nat} {A : Option Addr} {ac : Nat} {out : List Msg} {bs : List UInt8} (m : Msg) (R : WorkR w bw be bh bi ig cap r m.line d Q qc A ac out bs) (hlen : out.length + 8 ≤ 1000000) (hsrc : 0 ≤ m.src ∧ m.src < 4) (hk : m.kind = 1) : Calls Try.prog 106 #[.pointer (some ⟨bw, 0, none⟩), .agg (msgE.arr m)] w (Ret fun v w' => v = .tuple #[] ∧ WRet w w' bw be bh bi ig cap r m.line Q qc A out (beginF bs d m).1 (beginF bs d m).2.1 (beginF bs d m).2.2) := by
 obtain ⟨hW, hE, hH, hI, hQ, hO, hS⟩ := R
 have ne_bw_be := hS.ne_bw_be
 have ne_bw_bh := hS.ne_bw_bh
 have ne_bw_bi := hS.ne_bw_bi
 have ne_bw_ig := hS.ne_bw_ig
 have ne_be_bh := hS.ne_be_bh
 have ne_be_bi := hS.ne_be_bi
 have ne_be_ig := hS.ne_be_ig
 have ne_bh_bi := hS.ne_bh_bi
 have ne_bh_ig := hS.ne_bh_ig
 have ne_bi_ig := hS.ne_bi_ig
 have ap_Q_bw := hS.ap_Q_bw
 have ap_Q_be := hS.ap_Q_be
 have ap_Q_bh := hS.ap_Q_bh
 have ap_Q_bi := hS.ap_Q_bi
 have ap_Q_ig := hS.ap_Q_ig
 have ap_A_bw := hS.ap_A_bw
 have ap_A_be := hS.ap_A_be
 have ap_A_bh := hS.ap_A_bh
 have ap_A_bi := hS.ap_A_bi
 have ap_A_ig := hS.ap_A_ig
 have ap2_Q_A := hS.ap2_Q_A
 have gA_A : ∀ g, inA A g → (g = bw ∨ g = be ∨ g = ig ∨ inA A g) ∨ w.heap.size ≤ g := fun g hg => .inl (.inr (.inr (.inr hg)))
 have hmn := m.hn
 have hF := Only.refl (fun k => k = bw ∨ k = be ∨ k = ig ∨ inA A k) w
 refine Zen 63 Try.func106 ?_
 refine Zsr ?_
 refine Znb (cs := msgE.arr m) fun b1 w2 hN3 B4 hb5 => ?_
 have ne_bw_b1 : NE bw b1 := NE.mk (Nat.lt_of_lt_of_le hW.lt hb5)
 have ne_be_b1 : NE be b1 := NE.mk (Nat.lt_of_lt_of_le hE.lt hb5)
 have ap_A_b1 : Apart A b1 := hO.apart hb5
 refine Znn ?_
 refine Zsr ?_
 refine Zm ?_
 refine Zf fo35_1 ?_
 refine Zd (v := .int .i64 m.src) pl3 (B4.cell 1 rfl) ?_
 replace hW := hW.new hN3
 replace hE := hE.new hN3
 refine Zk cf112 (leave_c hW hE ne_bw_be m.src) ?_
 rintro v w7 ⟨rfl, hEn6, hN8⟩
 replace hE := hEn6
 clear hEn6
 refine Znn ?_
 refine Zbl ?_
 refine Zsr ?_
 refine Zm ?_
 refine Zn ?_
 refine Zf fo176_1 ?_
 replace hW := hW.only hN8 ne_bw_be
 refine Zd pl144 (hW.cell 1 rfl) ?_
 refine Zn ?_
 refine Zf fo147_0 ?_
 refine Zd (v := .int .i64 ((leaveF d m.src).o)) pl3 (hE.cell 0 rfl) ?_
 refine Zv (.bool (decide (0 ≤ (leaveF d m.src).o))) (fun _ fr => x_geq rfl (fr.ev rfl) rfl rfl) ?_
 refine Za ?_
 refine Znn ?_
 refine Zcd (fun hc9 => ?_) (fun hc9 => ?_)
 ·have hc9 := of_decide_eq_true hc9
  refine Zsr ?_
  refine Zm ?_
  refine Zm ?_
  refine Zn ?_
  refine Zf fo176_1 ?_
  refine Zd pl144 (hW.cell 1 rfl) ?_
  refine Zn ?_
  refine Zf fo147_0 ?_
  refine Zd (v := .int .i64 ((leaveF d m.src).o)) pl3 (hE.cell 0 rfl) ?_
  replace hH := (hH.new hN3).only hN8 ne_be_bh.symm
  replace hI := (hI.new hN3).only hN8 ne_be_bi.symm ne_be_ig.symm
  replace hO := (hO.new hN3).only hN8 (Apart.ne1 ap_A_be)
  refine Zk (args := #[.pointer (some ⟨bw, 0, none⟩), .int .i64 4, .int .i64 ((leaveF d m.src).o), .bool false]) cf104 (send_n m.hn hW hH hI hO ne_bw_bh ne_bw_bi ne_bw_ig ap_A_bw ap_A_bh ap_A_bi ap_A_ig (by first | omega | (simp only [List.length_append, List.length_cons, List.length_nil, List.length_map, List.length_take]; omega)) 4 ((leaveF d m.src).o)) ?_
  rintro v w15 ⟨rfl, A10, ac11, hWn12, O13, mv14, hN16⟩
  have ap_A10_bw : Apart A10 bw := moved_apart mv14 ap_A_bw hW.lt
  have ap_A10_bh : Apart A10 bh := moved_apart mv14 ap_A_bh hH.lt
  have ap_A10_bi : Apart A10 bi := moved_apart mv14 ap_A_bi hI.lt.1
  have ap_A10_ig : Apart A10 ig := moved_apart mv14 ap_A_ig hI.lt.2
  replace hQ := (hQ.new hN3).only hN8 (Apart.ne1 ap_Q_be)
  have ap2_A10_Q : Apart2 A10 Q := moved_apart2 mv14 ap2_Q_A.symm fun _ hg => hQ.lt hg
  have ap_A10_be : Apart A10 be := moved_apart mv14 ap_A_be hE.lt
  replace hF := (hF.trNew hN3).loc hN8 (.inl (.inr (.inl rfl)))
  have gA_A10 := gA_moved hF mv14 gA_A
  clear hW hO
  have hW := hWn12
  clear hWn12
  refine Znn ?_
  refine Zrg ?_
  refine Zm ?_
  replace B4 := (B4.only hN8 ne_be_b1.symm).only hN16 (fun h => h.elim ne_bw_b1.symm ap_A_b1)
  refine ZE msgE ag35 (B4.rangeE msgE) ?_
  replace hE := hE.only hN16 (fun h => h.elim ne_bw_be.symm ap_A_be)
  refine Zk cf113 (busy_c hW hE ne_bw_be m 1 false) ?_
  rintro v w18 ⟨rfl, hEn17, hN19⟩
  replace hE := hEn17
  clear hEn17
  refine Znl ?_
  refine Zb ?_
  refine Zee rfl [] trivial ?_
  rw [begin_s1 hk hc9]
  replace hH := (hH.only hN16 (fun h => h.elim ne_bw_bh.symm ap_A_bh)).only hN19 ne_be_bh.symm
  replace hI := (hI.only hN16 (fun h => h.elim ne_bw_bi.symm ap_A_bi) (fun h => h.elim ne_bw_ig.symm ap_A_ig)).only hN19 ne_be_bi.symm ne_be_ig.symm
  replace hQ := (hQ.only hN16 (fun g hg => (fun h => h.elim ((Apart.ne1 ap_Q_bw) g hg) ((fun g h1 h2 => ap2_Q_A g h1 h2) g hg)))).only hN19 (Apart.ne1 ap_Q_be)
  replace hF := (hF.loc2 hN16 (.inl (.inl rfl)) gA_A).loc hN19 (.inl (.inr (.inl rfl)))
  replace hW := hW.only hN19 ne_bw_be
  replace O13 := O13.only hN19 (Apart.ne1 ap_A10_be)
  exact ⟨_, rfl, rfl, A10, ac11, ⟨hW, hE, hH, hI, hQ, O13, ⟨ne_bw_be, ne_bw_bh, ne_bw_bi, ne_bw_ig, ne_be_bh, ne_be_bi, ne_be_ig, ne_bh_bi, ne_bh_ig, ne_bi_ig, ap_Q_bw, ap_Q_be, ap_Q_bh, ap_Q_bi, ap_Q_ig, ap_A10_bw, ap_A10_be, ap_A10_bh, ap_A10_bi, ap_A10_ig, ap2_A10_Q.symm⟩⟩, wmv gA_A10 ap_A10_bw ap_A10_be ap_A10_ig, hF⟩
 ·have hc9 := of_decide_eq_false hc9
  refine Zsr ?_
  refine Zm ?_
  refine Zf fo35_1 ?_
  replace B4 := B4.only hN8 ne_be_b1.symm
  refine Zd (v := .int .i64 m.src) pl3 (B4.cell 1 rfl) ?_
  refine Zk cf114 (others_c hW hE ne_bw_be m.src) ?_
  rintro v w25 ⟨A20, c21, rfl, OL22, hA23, hN26⟩
  have hol24 : (othersF d.sh m.src).length ≤ 4 := othK_len _ _ 4
  refine Zv (.int .i64 (((othersF d.sh m.src).length : Nat) : Int)) (fun _ fr => x_len Try.underlying123 rfl (fr.ev rfl)) ?_
  refine Zv (.bool (decide (0 < (((othersF d.sh m.src).length : Nat) : Int)))) (fun _ fr => x_gtr rfl (fr.ev rfl) rfl rfl) ?_
  refine Za ?_
  refine Znn ?_
  refine Zcd (fun hc27 => ?_) (fun hc27 => ?_)
  ·have hc27 := of_decide_eq_true hc27
   refine Zsq ?_
   refine Zhd (n := 10) (fun w => Blk w bw 176 #[.slice A out.length ac, .pointer (some ⟨be, 0, none⟩), .pointer (some ⟨bh, 0, none⟩), .int .u32 m.line] ∧ Blk w b1 35 (msgE.arr m) ∧ True) ?_
   intro w28 hN29
   replace hW := (hW.new hN26).new hN29
   replace B4 := (B4.new hN26).new hN29
   have hS9 := And.intro hW (And.intro B4 trivial)
   refine Zhm 0 hS9 ?_
   refine Zhc 1 hS9 ?_
   refine Zhf 2 fo176_1 hS9 ?_
   refine Zhl 3 pl144 hS9 (fun _ ⟨hW, _⟩ => (hW.cell 1 rfl)) ?_
   refine Zhf 4 fo35_1 hS9 ?_
   refine Zhl (v := .int .i64 m.src) 5 pl3 hS9 (fun _ ⟨_, B4, _⟩ => (B4.cell 1 rfl)) ?_
   refine Zhc 6 hS9 ?_
   refine Zhf 7 fo147_1 hS9 ?_
   refine Zht 8 rfl (.pointer (some ⟨be, 1 + m.src.toNat, none⟩)) hS9 (fun _ fr _ _ => x_indexArr Try.underlying145 sz4 rfl (fr.ev rfl) ((fr.ev rfl).trans (int_nat _ m.src (by omega))) (by omega) (by omega)) ?_
   refine Zh1 9 ?_
   replace hE := (hE.new hN26).new hN29
   refine Zs1 (cs' := entA ({ leaveF d m.src with sh := d.sh.set m.src true }) (.slice Q d.q.length qc)) sz4 hE (show 1 + m.src.toNat < 11 by omega) (ent_setSh _ _ m.src _ (by omega) (by omega)) fun w30 hO31 hBq => ?_
   replace hE := hBq
   clear hBq
   replace hW := hW.only hO31 ne_bw_be
   replace B4 := B4.only hO31 ne_be_b1.symm
   refine Zhb ⟨hW, B4, trivial⟩ ?_
   refine Zhn ?_
   refine Znx ?_
   refine Zsr ?_
   refine Zm ?_
   refine Zf fo35_1 ?_
   refine Zd (v := .int .i64 m.src) pl3 (B4.cell 1 rfl) ?_
   replace hH := ((((hH.new hN3).only hN8 ne_be_bh.symm).new hN26).new hN29).only hO31 ne_be_bh.symm
   replace hI := ((((hI.new hN3).only hN8 ne_be_bi.symm ne_be_ig.symm).new hN26).new hN29).only hO31 ne_be_bi.symm ne_be_ig.symm
   replace hO := ((((hO.new hN3).only hN8 (Apart.ne1 ap_A_be)).new hN26).new hN29).only hO31 (Apart.ne1 ap_A_be)
   refine Zk (args := #[.pointer (some ⟨bw, 0, none⟩), .int .i64 8, .int .i64 m.src, .bool true]) cf104 (send_b m.hn hW hH hI hO ne_bw_bh ne_bw_bi ne_bw_ig ap_A_bw ap_A_bh ap_A_bi ap_A_ig (by first | omega | (simp only [List.length_append, List.length_cons, List.length_nil, List.length_map, List.length_take]; omega)) 8 m.src) ?_
   rintro v w37 ⟨rfl, A32, ac33, hWn34, O35, mv36, hN38⟩
   have ap_A32_bw : Apart A32 bw := moved_apart mv36 ap_A_bw hW.lt
   have ap_A32_bh : Apart A32 bh := moved_apart mv36 ap_A_bh hH.lt
   have ap_A32_bi : Apart A32 bi := moved_apart mv36 ap_A_bi hI.lt.1
   have ap_A32_ig : Apart A32 ig := moved_apart mv36 ap_A_ig hI.lt.2
   replace hQ := ((((hQ.new hN3).only hN8 (Apart.ne1 ap_Q_be)).new hN26).new hN29).only hO31 (Apart.ne1 ap_Q_be)
   have ap2_A32_Q : Apart2 A32 Q := moved_apart2 mv36 ap2_Q_A.symm fun _ hg => hQ.lt hg
   have ap_A32_be : Apart A32 be := moved_apart mv36 ap_A_be hE.lt
   replace hF := ((((hF.trNew hN3).loc hN8 (.inl (.inr (.inl rfl)))).trNew hN26).trNew hN29).loc hO31 (.inl (.inr (.inl rfl)))
   have gA_A32 := gA_moved hF mv36 gA_A
   clear hW hO
   have hW := hWn34
   clear hWn34
   refine Znn ?_
   refine Zrg ?_
   refine Zm ?_
   replace B4 := B4.only hN38 (fun h => h.elim ne_bw_b1.symm ap_A_b1)
   refine ZE msgE ag35 (B4.rangeE msgE) ?_
   replace hE := hE.only hN38 (fun h => h.elim ne_bw_be.symm ap_A_be)
   refine Zk cf113 (busy_c hW hE ne_bw_be m 0 true) ?_
   rintro v w40 ⟨rfl, hEn39, hN41⟩
   replace hE := hEn39
   clear hEn39
   refine Znl ?_
   refine Zb ?_
   refine Zee rfl [] trivial ?_
   rw [begin_s2 hk hc9 (show 0 < (othersF (leaveF d m.src).sh m.src).length from by first | exact hc27 | (show 0 < (othersF d.sh m.src).length; omega))]
   replace hH := (hH.only hN38 (fun h => h.elim ne_bw_bh.symm ap_A_bh)).only hN41 ne_be_bh.symm
   replace hI := (hI.only hN38 (fun h => h.elim ne_bw_bi.symm ap_A_bi) (fun h => h.elim ne_bw_ig.symm ap_A_ig)).only hN41 ne_be_bi.symm ne_be_ig.symm
   replace hQ := (hQ.only hN38 (fun g hg => (fun h => h.elim ((Apart.ne1 ap_Q_bw) g hg) ((fun g h1 h2 => ap2_Q_A g h1 h2) g hg)))).only hN41 (Apart.ne1 ap_Q_be)
   replace hF := (hF.loc2 hN38 (.inl (.inl rfl)) gA_A).loc hN41 (.inl (.inr (.inl rfl)))
   replace hW := hW.only hN41 ne_bw_be
   replace O35 := O35.only hN41 (Apart.ne1 ap_A32_be)
   exact ⟨_, rfl, rfl, A32, ac33, ⟨hW, hE, hH, hI, hQ, O35, ⟨ne_bw_be, ne_bw_bh, ne_bw_bi, ne_bw_ig, ne_be_bh, ne_be_bi, ne_be_ig, ne_bh_bi, ne_bh_ig, ne_bi_ig, ap_Q_bw, ap_Q_be, ap_Q_bh, ap_Q_bi, ap_Q_ig, ap_A32_bw, ap_A32_be, ap_A32_bh, ap_A32_bi, ap_A32_ig, ap2_A32_Q.symm⟩⟩, wmv gA_A32 ap_A32_bw ap_A32_be ap_A32_ig, hF⟩
  ·have hc27 := of_decide_eq_false hc27
   refine Zsr ?_
   refine Zm ?_
   refine Zf fo35_1 ?_
   replace B4 := B4.new hN26
   refine Zd (v := .int .i64 m.src) pl3 (B4.cell 1 rfl) ?_
   replace hW := hW.new hN26
   replace hE := hE.new hN26
   refine Zk cf103 (own_c hW hE ne_bw_be m.src) ?_
   rintro v w43 ⟨rfl, hEn42, hN44⟩
   replace hE := hEn42
   clear hEn42
   refine Znn ?_
   refine Zsr ?_
   refine Zm ?_
   refine Zf fo35_1 ?_
   replace B4 := B4.only hN44 ne_be_b1.symm
   refine Zd (v := .int .i64 m.src) pl3 (B4.cell 1 rfl) ?_
   replace hH := (((hH.new hN3).only hN8 ne_be_bh.symm).new hN26).only hN44 ne_be_bh.symm
   replace hI := (((hI.new hN3).only hN8 ne_be_bi.symm ne_be_ig.symm).new hN26).only hN44 ne_be_bi.symm ne_be_ig.symm
   replace hO := (((hO.new hN3).only hN8 (Apart.ne1 ap_A_be)).new hN26).only hN44 (Apart.ne1 ap_A_be)
   replace hW := hW.only hN44 ne_bw_be
   refine Zk (args := #[.pointer (some ⟨bw, 0, none⟩), .int .i64 9, .int .i64 m.src, .bool true]) cf104 (send_b m.hn hW hH hI hO ne_bw_bh ne_bw_bi ne_bw_ig ap_A_bw ap_A_bh ap_A_bi ap_A_ig (by first | omega | (simp only [List.length_append, List.length_cons, List.length_nil, List.length_map, List.length_take]; omega)) 9 m.src) ?_
   rintro v w50 ⟨rfl, A45, ac46, hWn47, O48, mv49, hN51⟩
   have ap_A45_bw : Apart A45 bw := moved_apart mv49 ap_A_bw hW.lt
   have ap_A45_bh : Apart A45 bh := moved_apart mv49 ap_A_bh hH.lt
   have ap_A45_bi : Apart A45 bi := moved_apart mv49 ap_A_bi hI.lt.1
   have ap_A45_ig : Apart A45 ig := moved_apart mv49 ap_A_ig hI.lt.2
   replace hQ := (((hQ.new hN3).only hN8 (Apart.ne1 ap_Q_be)).new hN26).only hN44 (Apart.ne1 ap_Q_be)
   have ap2_A45_Q : Apart2 A45 Q := moved_apart2 mv49 ap2_Q_A.symm fun _ hg => hQ.lt hg
   have ap_A45_be : Apart A45 be := moved_apart mv49 ap_A_be hE.lt
   replace hF := (((hF.trNew hN3).loc hN8 (.inl (.inr (.inl rfl)))).trNew hN26).loc hN44 (.inl (.inr (.inl rfl)))
   have gA_A45 := gA_moved hF mv49 gA_A
   clear hW hO
   have hW := hWn47
   clear hWn47
   refine Znn ?_
   refine Zrg ?_
   refine Zm ?_
   replace B4 := B4.only hN51 (fun h => h.elim ne_bw_b1.symm ap_A_b1)
   refine ZE msgE ag35 (B4.rangeE msgE) ?_
   replace hE := hE.only hN51 (fun h => h.elim ne_bw_be.symm ap_A_be)
   refine Zk cf113 (busy_c hW hE ne_bw_be m 0 true) ?_
   rintro v w53 ⟨rfl, hEn52, hN54⟩
   replace hE := hEn52
   clear hEn52
   refine Znl ?_
   refine Zb ?_
   refine Zee rfl [] trivial ?_
   rw [begin_s3 hk hc9 (show ¬ 0 < (othersF (leaveF d m.src).sh m.src).length from by first | exact hc27 | (show ¬ 0 < (othersF d.sh m.src).length; omega))]
   replace hH := (hH.only hN51 (fun h => h.elim ne_bw_bh.symm ap_A_bh)).only hN54 ne_be_bh.symm
   replace hI := (hI.only hN51 (fun h => h.elim ne_bw_bi.symm ap_A_bi) (fun h => h.elim ne_bw_ig.symm ap_A_ig)).only hN54 ne_be_bi.symm ne_be_ig.symm
   replace hQ := (hQ.only hN51 (fun g hg => (fun h => h.elim ((Apart.ne1 ap_Q_bw) g hg) ((fun g h1 h2 => ap2_Q_A g h1 h2) g hg)))).only hN54 (Apart.ne1 ap_Q_be)
   replace hF := (hF.loc2 hN51 (.inl (.inl rfl)) gA_A).loc hN54 (.inl (.inr (.inl rfl)))
   replace hW := hW.only hN54 ne_bw_be
   replace O48 := O48.only hN54 (Apart.ne1 ap_A45_be)
   exact ⟨_, rfl, rfl, A45, ac46, ⟨hW, hE, hH, hI, hQ, O48, ⟨ne_bw_be, ne_bw_bh, ne_bw_bi, ne_bw_ig, ne_be_bh, ne_be_bi, ne_be_ig, ne_bh_bi, ne_bh_ig, ne_bi_ig, ap_Q_bw, ap_Q_be, ap_Q_bh, ap_Q_bi, ap_Q_ig, ap_A45_bw, ap_A45_be, ap_A45_bh, ap_A45_bi, ap_A45_ig, ap2_A45_Q.symm⟩⟩, wmv gA_A45 ap_A45_bw ap_A45_be ap_A45_ig, hF⟩
theorem getm_c {w : World} {bw be bh bi ig cap r : Nat} {d : Ent} {Q : Option Addr} {qc : Nat} {A : Option Addr} {ac : Nat} {out : List Msg} {bs : List UInt8} (m : Msg) (R : WorkR w bw be bh bi ig cap r m.line d Q qc A ac out bs) (hlen : out.length + 8 ≤ 1000000) (hsrc : 0 ≤ m.src ∧ m.src < 4) (hk : m.kind = 2) : Calls Try.prog 107 #[.pointer (some ⟨bw, 0, none⟩), .agg (msgE.arr m)] w (Ret fun v w' => v = .tuple #[] ∧ WRet w w' bw be bh bi ig cap r m.line Q qc A out (beginF bs d m).1 (beginF bs d m).2.1 (beginF bs d m).2.2) := by
 obtain ⟨hW, hE, hH, hI, hQ, hO, hS⟩ := R
 have ne_bw_be := hS.ne_bw_be
 have ne_bw_bh := hS.ne_bw_bh
 have ne_bw_bi := hS.ne_bw_bi
 have ne_bw_ig := hS.ne_bw_ig
 have ne_be_bh := hS.ne_be_bh
 have ne_be_bi := hS.ne_be_bi
 have ne_be_ig := hS.ne_be_ig
 have ne_bh_bi := hS.ne_bh_bi
 have ne_bh_ig := hS.ne_bh_ig
 have ne_bi_ig := hS.ne_bi_ig
 have ap_Q_bw := hS.ap_Q_bw
 have ap_Q_be := hS.ap_Q_be
 have ap_Q_bh := hS.ap_Q_bh
 have ap_Q_bi := hS.ap_Q_bi
 have ap_Q_ig := hS.ap_Q_ig
 have ap_A_bw := hS.ap_A_bw
 have ap_A_be := hS.ap_A_be
 have ap_A_bh := hS.ap_A_bh
 have ap_A_bi := hS.ap_A_bi
 have ap_A_ig := hS.ap_A_ig
 have ap2_Q_A := hS.ap2_Q_A
 have gA_A : ∀ g, inA A g → (g = bw ∨ g = be ∨ g = ig ∨ inA A g) ∨ w.heap.size ≤ g := fun g hg => .inl (.inr (.inr (.inr hg)))
 have hmn := m.hn
 have hF := Only.refl (fun k => k = bw ∨ k = be ∨ k = ig ∨ inA A k) w
 refine Zen 55 Try.func107 ?_
 refine Zsr ?_
 refine Znb (cs := msgE.arr m) fun b1 w2 hN3 B4 hb5 => ?_
 have ne_bw_b1 : NE bw b1 := NE.mk (Nat.lt_of_lt_of_le hW.lt hb5)
 have ne_be_b1 : NE be b1 := NE.mk (Nat.lt_of_lt_of_le hE.lt hb5)
 have ap_A_b1 : Apart A b1 := hO.apart hb5
 refine Znn ?_
 refine Zsr ?_
 refine Zm ?_
 refine Zf fo35_1 ?_
 refine Zd (v := .int .i64 m.src) pl3 (B4.cell 1 rfl) ?_
 replace hW := hW.new hN3
 replace hE := hE.new hN3
 refine Zk cf112 (leave_c hW hE ne_bw_be m.src) ?_
 rintro v w7 ⟨rfl, hEn6, hN8⟩
 replace hE := hEn6
 clear hEn6
 refine Znn ?_
 refine Zsq ?_
 refine Zsr ?_
 refine Zm ?_
 refine Zn ?_
 refine Zf fo176_1 ?_
 replace hW := hW.only hN8 ne_bw_be
 refine Zd pl144 (hW.cell 1 rfl) ?_
 refine Zn ?_
 refine Zf fo147_0 ?_
 refine Zd (v := .int .i64 ((leaveF d m.src).o)) pl3 (hE.cell 0 rfl) ?_
 refine Zv (.bool (decide (0 ≤ (leaveF d m.src).o))) (fun _ fr => x_geq rfl (fr.ev rfl) rfl rfl) ?_
 refine Znn ?_
 refine Zcd (fun hc9 => ?_) (fun hc9 => ?_)
 ·have hc9 := of_decide_eq_true hc9
  refine Zsr ?_
  refine Zm ?_
  refine Zm ?_
  refine Zn ?_
  refine Zf fo176_1 ?_
  refine Zd pl144 (hW.cell 1 rfl) ?_
  refine Zn ?_
  refine Zf fo147_0 ?_
  refine Zd (v := .int .i64 ((leaveF d m.src).o)) pl3 (hE.cell 0 rfl) ?_
  replace hH := (hH.new hN3).only hN8 ne_be_bh.symm
  replace hI := (hI.new hN3).only hN8 ne_be_bi.symm ne_be_ig.symm
  replace hO := (hO.new hN3).only hN8 (Apart.ne1 ap_A_be)
  refine Zk (args := #[.pointer (some ⟨bw, 0, none⟩), .int .i64 5, .int .i64 ((leaveF d m.src).o), .bool false]) cf104 (send_n m.hn hW hH hI hO ne_bw_bh ne_bw_bi ne_bw_ig ap_A_bw ap_A_bh ap_A_bi ap_A_ig (by first | omega | (simp only [List.length_append, List.length_cons, List.length_nil, List.length_map, List.length_take]; omega)) 5 ((leaveF d m.src).o)) ?_
  rintro v w15 ⟨rfl, A10, ac11, hWn12, O13, mv14, hN16⟩
  have ap_A10_bw : Apart A10 bw := moved_apart mv14 ap_A_bw hW.lt
  have ap_A10_bh : Apart A10 bh := moved_apart mv14 ap_A_bh hH.lt
  have ap_A10_bi : Apart A10 bi := moved_apart mv14 ap_A_bi hI.lt.1
  have ap_A10_ig : Apart A10 ig := moved_apart mv14 ap_A_ig hI.lt.2
  replace hQ := (hQ.new hN3).only hN8 (Apart.ne1 ap_Q_be)
  have ap2_A10_Q : Apart2 A10 Q := moved_apart2 mv14 ap2_Q_A.symm fun _ hg => hQ.lt hg
  have ap_A10_be : Apart A10 be := moved_apart mv14 ap_A_be hE.lt
  replace hF := (hF.trNew hN3).loc hN8 (.inl (.inr (.inl rfl)))
  have gA_A10 := gA_moved hF mv14 gA_A
  clear hW hO
  have hW := hWn12
  clear hWn12
  refine Znn ?_
  refine Zsr ?_
  refine Zm ?_
  replace B4 := (B4.only hN8 ne_be_b1.symm).only hN16 (fun h => h.elim ne_bw_b1.symm ap_A_b1)
  refine ZE msgE ag35 (B4.rangeE msgE) ?_
  replace hE := hE.only hN16 (fun h => h.elim ne_bw_be.symm ap_A_be)
  refine Zk cf113 (busy_c hW hE ne_bw_be m 1 false) ?_
  rintro v w18 ⟨rfl, hEn17, hN19⟩
  replace hE := hEn17
  clear hEn17
  refine Znn ?_
  refine Zrt ?_
  refine Zr1 ?_
  refine Zre rfl [] trivial ?_
  rw [begin_m1 hk hc9]
  replace hH := (hH.only hN16 (fun h => h.elim ne_bw_bh.symm ap_A_bh)).only hN19 ne_be_bh.symm
  replace hI := (hI.only hN16 (fun h => h.elim ne_bw_bi.symm ap_A_bi) (fun h => h.elim ne_bw_ig.symm ap_A_ig)).only hN19 ne_be_bi.symm ne_be_ig.symm
  replace hQ := (hQ.only hN16 (fun g hg => (fun h => h.elim ((Apart.ne1 ap_Q_bw) g hg) ((fun g h1 h2 => ap2_Q_A g h1 h2) g hg)))).only hN19 (Apart.ne1 ap_Q_be)
  replace hF := (hF.loc2 hN16 (.inl (.inl rfl)) gA_A).loc hN19 (.inl (.inr (.inl rfl)))
  replace hW := hW.only hN19 ne_bw_be
  replace O13 := O13.only hN19 (Apart.ne1 ap_A10_be)
  exact ⟨_, rfl, rfl, A10, ac11, ⟨hW, hE, hH, hI, hQ, O13, ⟨ne_bw_be, ne_bw_bh, ne_bw_bi, ne_bw_ig, ne_be_bh, ne_be_bi, ne_be_ig, ne_bh_bi, ne_bh_ig, ne_bi_ig, ap_Q_bw, ap_Q_be, ap_Q_bh, ap_Q_bi, ap_Q_ig, ap_A10_bw, ap_A10_be, ap_A10_bh, ap_A10_bi, ap_A10_ig, ap2_A10_Q.symm⟩⟩, wmv gA_A10 ap_A10_bw ap_A10_be ap_A10_ig, hF⟩
 ·have hc9 := of_decide_eq_false hc9
  refine Zsk ?_
  refine Znx ?_
  refine Zsr ?_
  refine Zm ?_
  refine Zf fo35_1 ?_
  replace B4 := B4.only hN8 ne_be_b1.symm
  refine Zd (v := .int .i64 m.src) pl3 (B4.cell 1 rfl) ?_
  refine Zk cf114 (others_c hW hE ne_bw_be m.src) ?_
  rintro v w25 ⟨A20, c21, rfl, OL22, hA23, hN26⟩
  have ap_A20_bw : Apart A20 bw := new_apart hA23 hW.lt
  replace hO := (hO.new hN3).only hN8 (Apart.ne1 ap_A_be)
  have ap2_A_A20 : Apart2 A A20 := (new_apart2 hA23 fun _ hg => hO.lt hg).symm
  have hol24 : (othersF d.sh m.src).length ≤ 4 := othK_len _ _ 4
  refine Za ?_
  refine Znn ?_
  refine Zsq ?_
  refine Zsr ?_
  refine Zm ?_
  refine Zv (.int .i64 (((othersF d.sh m.src).length : Nat) : Int)) (fun _ fr => x_len Try.underlying123 rfl (fr.ev rfl)) ?_
  refine Zm ?_
  refine Znn ?_
  refine Zbl ?_
  intro a fr
  replace hH := ((hH.new hN3).only hN8 ne_be_bh.symm).new hN26
  replace hI := ((hI.new hN3).only hN8 ne_be_bi.symm ne_be_ig.symm).new hN26
  replace hQ := ((hQ.new hN3).only hN8 (Apart.ne1 ap_Q_be)).new hN26
  replace hF := ((hF.trNew hN3).loc hN8 (.inl (.inr (.inl rfl)))).trNew hN26
  replace hW := hW.new hN26
  replace hO := hO.new hN26
  replace B4 := B4.new hN26
  replace hE := hE.new hN26
  refine fx_loop (fun nM a wL => ∃ i : Nat, ∃ A1 : Option Addr, ∃ c1 : Nat, nM = (othersF d.sh m.src).length - i ∧ Fr (55, []) [(0, .pointer (some ⟨bw, 0, none⟩)), (3, .pointer (some ⟨b1, 0, none⟩)), (4, .slice A20 ((othersF d.sh m.src).length) c21), (35, .slice A20 ((othersF d.sh m.src).length) c21), (36, .int .i64 (((othersF d.sh m.src).length : Nat) : Int)), (37, .int .i64 ((i : Nat) : Int))] a ∧ Only (fun k => k = bw ∨ k = be ∨ k = ig ∨ inA A k) w wL ∧ Blk wL bw 176 #[.slice A1 ((out ++ ((othersF d.sh m.src).take i).map (sendM m 6)).length) c1, .pointer (some ⟨be, 0, none⟩), .pointer (some ⟨bh, 0, none⟩), .int .u32 m.line] ∧ Blk wL be 147 (entA (leaveF d m.src) (.slice Q d.q.length qc)) ∧ Blk wL bh 140 #[.pointer (some ⟨bi, 0, none⟩), .map (some r)] ∧ Img 0 wL bi ig cap bs ∧ View msgE wL Q qc d.q ∧ Own msgE wL A1 c1 (out ++ ((othersF d.sh m.src).take i).map (sendM m 6)) ∧ Blk wL b1 35 (msgE.arr m) ∧ Own intE wL A20 c21 (othersF d.sh m.src) ∧ i ≤ (othersF d.sh m.src).length ∧ (Apart A1 bw) ∧ (Apart A1 be) ∧ (Apart A1 bh) ∧ (Apart A1 bi) ∧ (Apart A1 ig) ∧ (Apart2 Q A1) ∧ (Apart A1 b1) ∧ (Apart2 A1 A20) ∧ (∀ g, inA A1 g → (fun k => k = bw ∨ k = be ∨ k = ig ∨ inA A k) g ∨ w.heap.size ≤ g)) (n0 := _) ⟨0, A, ac, rfl, fr.sub ⟨rfl, rfl, rfl, rfl, rfl, rfl, trivial⟩, hF, (by rw [List.take_zero, List.map_nil, List.append_nil]; exact hW), hE, hH, hI, hQ, (by rw [List.take_zero, List.map_nil, List.append_nil]; exact hO), B4, OL22, by omega, ap_A_bw, ap_A_be, ap_A_bh, ap_A_bi, ap_A_ig, ap2_Q_A, ap_A_b1, ap2_A_A20, gA_A⟩ ?_
  clear fr a
  rintro n28 a w27 ⟨i, A1, c1, rfl, fr, hF, hW, hE, hH, hI, hQ, O1, B4, OL22, hp29, ap_A1_bw, ap_A1_be, ap_A1_bh, ap_A1_bi, ap_A1_ig, ap2_Q_A1, ap_A1_b1, ap2_A1_A20, gA_A1⟩
  revert a
  have hLT : (((othersF d.sh m.src).take i).map (sendM m 6)).length ≤ 4 := by rw [List.length_map, List.length_take]; omega
  refine Zsr ?_
  refine Zv (.bool (decide (((i : Nat) : Int) < (((othersF d.sh m.src).length : Nat) : Int)))) (fun _ fr => x_lss rfl (fr.ev rfl) (fr.ev rfl) rfl) ?_
  refine Znn ?_
  refine Zsq ?_
  refine Zcd (fun hc30 => ?_) (fun hc30 => ?_)
  ·have hc30 := of_decide_eq_true hc30
   refine Zsk ?_
   refine Znx ?_
   refine Zsq ?_
   refine Zbl ?_
   refine Zsr ?_
   obtain ⟨g31, o32, hA33⟩ := (OL22.view).some_ (by first | omega | decide)
   refine Zv (.pointer (some ⟨g31, o32 + i * 1, none⟩)) (fun _ fr => x_indexV Try.underlying123 sz3 rfl (fr.ev rfl) hA33 (fr.ev rfl) (by first | omega | decide) rfl) ?_
   refine Zd (v := .int .i64 ((othersF d.sh m.src).getD i 0)) pl3 (range_cell ((OL22.view).elem hA33 i 0 (by first | omega | decide)) 0 rfl rfl) ?_
   refine Za ?_
   refine Znn ?_
   refine Zrg ?_
   refine Zm ?_
   refine Zm ?_
   refine Zk (args := #[.pointer (some ⟨bw, 0, none⟩), .int .i64 6, .int .i64 ((othersF d.sh m.src).getD i 0), .bool false]) cf104 (send_n m.hn hW hH hI O1 ne_bw_bh ne_bw_bi ne_bw_ig ap_A1_bw ap_A1_bh ap_A1_bi ap_A1_ig (by first | omega | (simp only [List.length_append, List.length_cons, List.length_nil, List.length_map, List.length_take]; omega)) 6 ((othersF d.sh m.src).getD i 0)) ?_
   rintro v w39 ⟨rfl, A34, ac35, hWn36, O37, mv38, hN40⟩
   have ap_A34_bw : Apart A34 bw := moved_apart mv38 ap_A1_bw hW.lt
   have ap_A34_be : Apart A34 be := moved_apart mv38 ap_A1_be hE.lt
   have ap_A34_bh : Apart A34 bh := moved_apart mv38 ap_A1_bh hH.lt
   have ap_A34_bi : Apart A34 bi := moved_apart mv38 ap_A1_bi hI.lt.1
   have ap_A34_ig : Apart A34 ig := moved_apart mv38 ap_A1_ig hI.lt.2
   have ap2_A34_Q : Apart2 A34 Q := moved_apart2 mv38 ap2_Q_A1.symm fun _ hg => hQ.lt hg
   have ap_A34_b1 : Apart A34 b1 := moved_apart mv38 ap_A1_b1 B4.lt
   have ap2_A34_A20 : Apart2 A34 A20 := moved_apart2 mv38 ap2_A1_A20 fun _ hg => OL22.lt hg
   have gA_A34 := gA_moved hF mv38 gA_A1
   clear hW O1
   have hW := hWn36
   clear hWn36
   refine Znl ?_
   refine Zb ?_
   refine Znx ?_
   refine Zrg ?_
   refine Zv _ (fun _ fr => x_add rfl (fr.ev rfl) rfl (i64w (r := ((i + 1 : Nat) : Int)) (by omega) (by omega))) ?_
   refine Zm ?_
   intro a fr
   refine wpList_nil ?_
   refine fx_next ?_
   replace hE := hE.only hN40 (fun h => h.elim ne_bw_be.symm ap_A1_be)
   replace hH := hH.only hN40 (fun h => h.elim ne_bw_bh.symm ap_A1_bh)
   replace hI := hI.only hN40 (fun h => h.elim ne_bw_bi.symm ap_A1_bi) (fun h => h.elim ne_bw_ig.symm ap_A1_ig)
   replace hQ := hQ.only hN40 (fun g hg => (fun h => h.elim ((Apart.ne1 ap_Q_bw) g hg) ((fun g h1 h2 => ap2_Q_A1 g h1 h2) g hg)))
   replace B4 := B4.only hN40 (fun h => h.elim ne_bw_b1.symm ap_A1_b1)
   replace OL22 := OL22.only hN40 (fun g hg => (fun h => h.elim ((Apart.ne1 ap_A20_bw) g hg) ((fun g h1 h2 => ap2_A1_A20.symm g h1 h2) g hg)))
   replace hF := hF.loc2 hN40 (.inl (.inl rfl)) gA_A1
   exact ⟨_, by omega, (i + 1), A34, ac35, rfl, fr.sub ⟨rfl, rfl, rfl, rfl, rfl, rfl, trivial⟩, hF, (by rw [take_map_sn (by omega)]; exact hW), hE, hH, hI, hQ, (by rw [take_map_sn (by omega)]; exact O37), B4, OL22, by omega, ap_A34_bw, ap_A34_be, ap_A34_bh, ap_A34_bi, ap_A34_ig, ap2_A34_Q.symm, ap_A34_b1, ap2_A34_A20, gA_A34⟩
  ·have hc30 := of_decide_eq_false hc30
   refine Zex ?_
   refine Zxt ?_
   refine Zxt ?_
   refine Zxx ?_
   refine Znx ?_
   refine Zsq ?_
   rw [List.take_of_length_le (by omega)] at hW O1
   have hLM : ((othersF d.sh m.src).map (sendM m 6)).length ≤ 4 := by rw [List.length_map]; omega
   refine Zrg ?_
   refine Zm ?_
   refine ZE msgE ag35 (B4.rangeE msgE) ?_
   refine Zm ?_
   refine Zv (.int .i64 (((othersF d.sh m.src).length : Nat) : Int)) (fun _ fr => x_len Try.underlying123 rfl (fr.ev rfl)) ?_
   refine Zk cf113 (busy_c hW hE ne_bw_be m (((othersF d.sh m.src).length : Nat) : Int) false) ?_
   rintro v w42 ⟨rfl, hEn41, hN43⟩
   replace hE := hEn41
   clear hEn41
   refine Znn ?_
   refine Zsr ?_
   refine Zm ?_
   refine Zv (.int .i64 (((othersF d.sh m.src).length : Nat) : Int)) (fun _ fr => x_len Try.underlying123 rfl (fr.ev rfl)) ?_
   refine Zv (.bool (decide ((((othersF d.sh m.src).length : Nat) : Int) = 0))) (fun _ fr => x_eql rfl (fr.ev rfl) rfl rfl) ?_
   refine Znn ?_
   refine Zcd (fun hc44 => ?_) (fun hc44 => ?_)
   ·have hc44 := of_decide_eq_true hc44
    refine Zrg ?_
    refine Zm ?_
    replace hH := hH.only hN43 ne_be_bh.symm
    replace hI := hI.only hN43 ne_be_bi.symm ne_be_ig.symm
    replace hQ := hQ.only hN43 (Apart.ne1 ap_Q_be)
    replace hW := hW.only hN43 ne_bw_be
    replace O1 := O1.only hN43 (Apart.ne1 ap_A1_be)
    refine Zk (args := #[.pointer (some ⟨bw, 0, none⟩)]) cf102 (hwrite_c ⟨hW, hE, hH, hI, hQ, O1, ⟨ne_bw_be, ne_bw_bh, ne_bw_bi, ne_bw_ig, ne_be_bh, ne_be_bi, ne_be_ig, ne_bh_bi, ne_bh_ig, ne_bi_ig, ap_Q_bw, ap_Q_be, ap_Q_bh, ap_Q_bi, ap_Q_ig, ap_A1_bw, ap_A1_be, ap_A1_bh, ap_A1_bi, ap_A1_ig, ap2_Q_A1⟩⟩ m.hn (by first | omega | (simp only [List.length_append, List.length_cons, List.length_nil, List.length_map, List.length_take]; omega))) ?_
    rintro v w50 ⟨rfl, A45, ac46, R47, mv48, hN51⟩
    replace hF := hF.loc hN43 (.inl (.inr (.inl rfl)))
    have gA_A45 := gA_moved hF mv48 gA_A1
    clear hW hE hH hI hQ O1
    obtain ⟨hW, hE, hH, hI, hQ, O49, hS⟩ := R47
    have ap_A45_bw := hS.ap_A_bw
    have ap_A45_be := hS.ap_A_be
    have ap_A45_bh := hS.ap_A_bh
    have ap_A45_bi := hS.ap_A_bi
    have ap_A45_ig := hS.ap_A_ig
    have ap2_Q_A45 := hS.ap2_Q_A
    refine Znl ?_
    refine Zee rfl [] trivial ?_
    rw [begin_m3 hk hc9 (show (othersF (leaveF d m.src).sh m.src).length = 0 from by first | exact hc44 | (show (othersF d.sh m.src).length = 0; omega))]
    have hL0 : othersF d.sh m.src = [] := List.eq_nil_of_length_eq_zero (by omega)
    simp only [hL0, List.map_nil, List.append_nil, List.length_nil, Int.natCast_zero] at hW hE O49
    replace hF := hF.locS hN51 (fun i => (fun h => h.elim (fun e => by rw [e]; exact (.inl (.inl rfl))) (fun h => h.elim (fun e => by rw [e]; exact (.inl (.inr (.inl rfl)))) (fun h => h.elim (fun e => by rw [e]; exact (.inl (.inr (.inr (.inl rfl))))) (fun h => gA_A1 i h)))))
    exact ⟨_, rfl, rfl, A45, ac46, ⟨hW, hE, hH, hI, hQ, O49, ⟨ne_bw_be, ne_bw_bh, ne_bw_bi, ne_bw_ig, ne_be_bh, ne_be_bi, ne_be_ig, ne_bh_bi, ne_bh_ig, ne_bi_ig, ap_Q_bw, ap_Q_be, ap_Q_bh, ap_Q_bi, ap_Q_ig, ap_A45_bw, ap_A45_be, ap_A45_bh, ap_A45_bi, ap_A45_ig, ap2_Q_A45⟩⟩, wmv gA_A45 ap_A45_bw ap_A45_be ap_A45_ig, hF⟩
   ·have hc44 := of_decide_eq_false hc44
    refine Zsk ?_
    refine Zee rfl [] trivial ?_
    rw [begin_m2 hk hc9 (show ¬ (othersF (leaveF d m.src).sh m.src).length = 0 from by first | exact hc44 | (show ¬ (othersF d.sh m.src).length = 0; omega))]
    replace hH := hH.only hN43 ne_be_bh.symm
    replace hI := hI.only hN43 ne_be_bi.symm ne_be_ig.symm
    replace hQ := hQ.only hN43 (Apart.ne1 ap_Q_be)
    replace hW := hW.only hN43 ne_bw_be
    replace O1 := O1.only hN43 (Apart.ne1 ap_A1_be)
    replace hF := hF.loc hN43 (.inl (.inr (.inl rfl)))
    exact ⟨_, rfl, rfl, A1, c1, ⟨hW, hE, hH, hI, hQ, O1, ⟨ne_bw_be, ne_bw_bh, ne_bw_bi, ne_bw_ig, ne_be_bh, ne_be_bi, ne_be_ig, ne_bh_bi, ne_bh_ig, ne_bi_ig, ap_Q_bw, ap_Q_be, ap_Q_bh, ap_Q_bi, ap_Q_ig, ap_A1_bw, ap_A1_be, ap_A1_bh, ap_A1_bi, ap_A1_ig, ap2_Q_A1⟩⟩, wmv gA_A1 ap_A1_bw ap_A1_be ap_A1_ig, hF⟩
theorem hput_c {w : World} {bw be bh bi ig cap r : Nat} {d : Ent} {Q : Option Addr} {qc : Nat} {A : Option Addr} {ac : Nat} {out : List Msg} {bs : List UInt8} (m : Msg) (R : WorkR w bw be bh bi ig cap r m.line d Q qc A ac out bs) (hlen : out.length + 8 ≤ 1000000) (hsrc : 0 ≤ m.src ∧ m.src < 4) (hk : m.kind = 3) : Calls Try.prog 108 #[.pointer (some ⟨bw, 0, none⟩), .agg (msgE.arr m)] w (Ret fun v w' => v = .tuple #[] ∧ WRet w w' bw be bh bi ig cap r m.line Q qc A out (beginF bs d m).1 (beginF bs d m).2.1 (beginF bs d m).2.2) := by
 obtain ⟨hW, hE, hH, hI, hQ, hO, hS⟩ := R
 have ne_bw_be := hS.ne_bw_be
 have ne_bw_bh := hS.ne_bw_bh
 have ne_bw_bi := hS.ne_bw_bi
 have ne_bw_ig := hS.ne_bw_ig
 have ne_be_bh := hS.ne_be_bh
 have ne_be_bi := hS.ne_be_bi
 have ne_be_ig := hS.ne_be_ig
 have ne_bh_bi := hS.ne_bh_bi
 have ne_bh_ig := hS.ne_bh_ig
 have ne_bi_ig := hS.ne_bi_ig
 have ap_Q_bw := hS.ap_Q_bw
 have ap_Q_be := hS.ap_Q_be
 have ap_Q_bh := hS.ap_Q_bh
 have ap_Q_bi := hS.ap_Q_bi
 have ap_Q_ig := hS.ap_Q_ig
 have ap_A_bw := hS.ap_A_bw
 have ap_A_be := hS.ap_A_be
 have ap_A_bh := hS.ap_A_bh
 have ap_A_bi := hS.ap_A_bi
 have ap_A_ig := hS.ap_A_ig
 have ap2_Q_A := hS.ap2_Q_A
 have gA_A : ∀ g, inA A g → (g = bw ∨ g = be ∨ g = ig ∨ inA A g) ∨ w.heap.size ≤ g := fun g hg => .inl (.inr (.inr (.inr hg)))
 have hmn := m.hn
 have hF := Only.refl (fun k => k = bw ∨ k = be ∨ k = ig ∨ inA A k) w
 refine Zen 38 Try.func108 ?_
 refine Zsr ?_
 refine Znb (cs := msgE.arr m) fun b1 w2 hN3 B4 hb5 => ?_
 have ne_be_b1 : NE be b1 := NE.mk (Nat.lt_of_lt_of_le hE.lt hb5)
 have ne_ig_b1 : NE ig b1 := NE.mk (Nat.lt_of_lt_of_le hI.lt.2 hb5)
 refine Znn ?_
 refine Zsq ?_
 refine Zsq ?_
 refine Zhd (n := 10) (fun w => Blk w bw 176 #[.slice A out.length ac, .pointer (some ⟨be, 0, none⟩), .pointer (some ⟨bh, 0, none⟩), .int .u32 m.line] ∧ Blk w be 147 (entA d (.slice Q d.q.length qc)) ∧ Blk w b1 35 (msgE.arr m) ∧ True) ?_
 intro w6 hN7
 replace hW := (hW.new hN3).new hN7
 replace hE := (hE.new hN3).new hN7
 replace B4 := B4.new hN7
 have hS9 := And.intro hW (And.intro hE (And.intro B4 trivial))
 refine Zhm 0 hS9 ?_
 refine Zhc 1 hS9 ?_
 refine Zhf 2 fo176_1 hS9 ?_
 refine Zhl 3 pl144 hS9 (fun _ ⟨hW, _⟩ => (hW.cell 1 rfl)) ?_
 refine Zhc 4 hS9 ?_
 refine Zhf 5 fo147_0 hS9 ?_
 refine Zhl (v := .int .i64 d.o) 6 pl3 hS9 (fun _ ⟨_, hE, _⟩ => (hE.cell 0 rfl)) ?_
 refine Zhf 7 fo35_1 hS9 ?_
 refine Zhl (v := .int .i64 m.src) 8 pl3 hS9 (fun _ ⟨_, _, B4, _⟩ => (B4.cell 1 rfl)) ?_
 refine Zht 9 rfl _ hS9 (fun _ fr _ _ => x_eql rfl (fr.ev rfl) (fr.ev rfl) rfl) ?_
 refine Zhn ?_
 refine Znx ?_
 refine Zcd (fun hc8 => ?_) (fun hc8 => ?_)
 ·have hc8 := of_decide_eq_true hc8
  refine Zsq ?_
  refine Zhd (n := 14) (fun w => Blk w bw 176 #[.slice A out.length ac, .pointer (some ⟨be, 0, none⟩), .pointer (some ⟨bh, 0, none⟩), .int .u32 m.line] ∧ Blk w bh 140 #[.pointer (some ⟨bi, 0, none⟩), .map (some r)] ∧ Blk w b1 35 (msgE.arr m) ∧ True) ?_
  intro w9 hN10
  replace hH := ((hH.new hN3).new hN7).new hN10
  replace hW := hW.new hN10
  replace B4 := B4.new hN10
  have hS9 := And.intro hW (And.intro hH (And.intro B4 trivial))
  refine Zhm 0 hS9 ?_
  refine Zhc 1 hS9 ?_
  refine Zhf 2 fo176_2 hS9 ?_
  refine Zhl 3 pl90 hS9 (fun _ ⟨hW, _⟩ => (hW.cell 2 rfl)) ?_
  refine Zhc 4 hS9 ?_
  refine Zhf 5 fo140_0 hS9 ?_
  refine Zhl 6 pl87 hS9 (fun _ ⟨_, hH, _⟩ => (hH.cell 0 rfl)) ?_
  refine Zhm 7 hS9 ?_
  refine Zhc 8 hS9 ?_
  refine Zhf 9 fo176_3 hS9 ?_
  refine Zhl (v := .int .u32 m.line) 10 pl32 hS9 (fun _ ⟨hW, _⟩ => (hW.cell 3 rfl)) ?_
  refine Zhf 11 fo35_4 hS9 ?_
  refine ZhE (p := m.bs) 12 bsE ag22 hS9 (fun _ ⟨_, _, B4, _⟩ => (B4.part (msg_bs _))) ?_
  refine Zh1 13 ?_
  replace hI := ((hI.new hN3).new hN7).new hN10
  refine Zk (args := #[.pointer (some ⟨bi, 0, none⟩), .int .u32 m.line, .agg (bsE.arr m.bs)]) cf101 (hset_c m.line m.bs (by omega) hI) ?_
  rintro v w12 ⟨rfl, hIn11, hN13⟩
  replace hI := hIn11
  clear hIn11
  replace hW := hW.only hN13 ne_bw_ig
  replace hH := hH.only hN13 ne_bh_ig
  replace B4 := B4.only hN13 ne_ig_b1.symm
  refine Zhb ⟨hW, hH, B4, trivial⟩ ?_
  refine Zhn ?_
  refine Znx ?_
  refine Zrg ?_
  refine Zm ?_
  refine Zn ?_
  refine Zf fo176_1 ?_
  refine Zd pl144 (hW.cell 1 rfl) ?_
  refine Zn ?_
  refine Zf fo147_0 ?_
  replace hE := (hE.new hN10).only hN13 ne_be_ig
  refine Zs1 (cs' := entA ({ d with o := (-1) }) (.slice Q d.q.length qc)) sz3 hE (show 0 < 11 by decide) rfl fun w14 hO15 hBq => ?_
  replace hE := hBq
  clear hBq
  refine Znn ?_
  refine Zrg ?_
  refine Zm ?_
  refine Zf fo35_1 ?_
  replace B4 := B4.only hO15 ne_be_b1.symm
  refine Zd (v := .int .i64 m.src) pl3 (B4.cell 1 rfl) ?_
  replace hO := ((((hO.new hN3).new hN7).new hN10).only hN13 (Apart.ne1 ap_A_ig)).only hO15 (Apart.ne1 ap_A_be)
  replace hW := hW.only hO15 ne_bw_be
  replace hH := hH.only hO15 ne_be_bh.symm
  replace hI := hI.only hO15 ne_be_bi.symm ne_be_ig.symm
  refine Zk (args := #[.pointer (some ⟨bw, 0, none⟩), .int .i64 7, .int .i64 m.src, .bool false]) cf104 (send_n m.hn hW hH hI hO ne_bw_bh ne_bw_bi ne_bw_ig ap_A_bw ap_A_bh ap_A_bi ap_A_ig (by first | omega | (simp only [List.length_append, List.length_cons, List.length_nil, List.length_map, List.length_take]; omega)) 7 m.src) ?_
  rintro v w21 ⟨rfl, A16, ac17, hWn18, O19, mv20, hN22⟩
  have ap_A16_bw : Apart A16 bw := moved_apart mv20 ap_A_bw hW.lt
  have ap_A16_bh : Apart A16 bh := moved_apart mv20 ap_A_bh hH.lt
  replace hQ := ((((hQ.new hN3).new hN7).new hN10).only hN13 (Apart.ne1 ap_Q_ig)).only hO15 (Apart.ne1 ap_Q_be)
  have ap2_A16_Q : Apart2 A16 Q := moved_apart2 mv20 ap2_Q_A.symm fun _ hg => hQ.lt hg
  have ap_A16_bi : Apart A16 bi := moved_apart mv20 ap_A_bi hI.lt.1
  have ap_A16_ig : Apart A16 ig := moved_apart mv20 ap_A_ig hI.lt.2
  have ap_A16_be : Apart A16 be := moved_apart mv20 ap_A_be hE.lt
  replace hF := ((((hF.trNew hN3).trNew hN7).trNew hN10).loc hN13 (.inl (.inr (.inr (.inl rfl))))).loc hO15 (.inl (.inr (.inl rfl)))
  have gA_A16 := gA_moved hF mv20 gA_A
  clear hW hO
  have hW := hWn18
  clear hWn18
  refine Znl ?_
  refine Zee rfl [] trivial ?_
  rw [begin_put hk]
  rw [if_pos hc8, leave_eq hc8]
  replace hH := hH.only hN22 (fun h => h.elim ne_bw_bh.symm ap_A_bh)
  replace hQ := hQ.only hN22 (fun g hg => (fun h => h.elim ((Apart.ne1 ap_Q_bw) g hg) ((fun g h1 h2 => ap2_Q_A g h1 h2) g hg)))
  replace hI := hI.only hN22 (fun h => h.elim ne_bw_bi.symm ap_A_bi) (fun h => h.elim ne_bw_ig.symm ap_A_ig)
  replace hE := hE.only hN22 (fun h => h.elim ne_bw_be.symm ap_A_be)
  replace hF := hF.loc2 hN22 (.inl (.inl rfl)) gA_A
  exact ⟨_, rfl, rfl, A16, ac17, ⟨hW, hE, hH, hI, hQ, O19, ⟨ne_bw_be, ne_bw_bh, ne_bw_bi, ne_bw_ig, ne_be_bh, ne_be_bi, ne_be_ig, ne_bh_bi, ne_bh_ig, ne_bi_ig, ap_Q_bw, ap_Q_be, ap_Q_bh, ap_Q_bi, ap_Q_ig, ap_A16_bw, ap_A16_be, ap_A16_bh, ap_A16_bi, ap_A16_ig, ap2_A16_Q.symm⟩⟩, wmv gA_A16 ap_A16_bw ap_A16_be ap_A16_ig, hF⟩
 ·have hc8 := of_decide_eq_false hc8
  refine Zsk ?_
  refine Znx ?_
  refine Zrg ?_
  refine Zm ?_
  refine Zf fo35_1 ?_
  refine Zd (v := .int .i64 m.src) pl3 (B4.cell 1 rfl) ?_
  replace hH := (hH.new hN3).new hN7
  replace hI := (hI.new hN3).new hN7
  replace hO := (hO.new hN3).new hN7
  refine Zk (args := #[.pointer (some ⟨bw, 0, none⟩), .int .i64 7, .int .i64 m.src, .bool false]) cf104 (send_n m.hn hW hH hI hO ne_bw_bh ne_bw_bi ne_bw_ig ap_A_bw ap_A_bh ap_A_bi ap_A_ig (by first | omega | (simp only [List.length_append, List.length_cons, List.length_nil, List.length_map, List.length_take]; omega)) 7 m.src) ?_
  rintro v w28 ⟨rfl, A23, ac24, hWn25, O26, mv27, hN29⟩
  have ap_A23_bw : Apart A23 bw := moved_apart mv27 ap_A_bw hW.lt
  have ap_A23_be : Apart A23 be := moved_apart mv27 ap_A_be hE.lt
  have ap_A23_bh : Apart A23 bh := moved_apart mv27 ap_A_bh hH.lt
  have ap_A23_bi : Apart A23 bi := moved_apart mv27 ap_A_bi hI.lt.1
  have ap_A23_ig : Apart A23 ig := moved_apart mv27 ap_A_ig hI.lt.2
  replace hQ := (hQ.new hN3).new hN7
  have ap2_A23_Q : Apart2 A23 Q := moved_apart2 mv27 ap2_Q_A.symm fun _ hg => hQ.lt hg
  replace hF := (hF.trNew hN3).trNew hN7
  have gA_A23 := gA_moved hF mv27 gA_A
  clear hW hO
  have hW := hWn25
  clear hWn25
  refine Znl ?_
  refine Zee rfl [] trivial ?_
  rw [begin_put hk]
  rw [if_neg hc8, leave_ne hc8]
  replace hE := hE.only hN29 (fun h => h.elim ne_bw_be.symm ap_A_be)
  replace hH := hH.only hN29 (fun h => h.elim ne_bw_bh.symm ap_A_bh)
  replace hI := hI.only hN29 (fun h => h.elim ne_bw_bi.symm ap_A_bi) (fun h => h.elim ne_bw_ig.symm ap_A_ig)
  replace hQ := hQ.only hN29 (fun g hg => (fun h => h.elim ((Apart.ne1 ap_Q_bw) g hg) ((fun g h1 h2 => ap2_Q_A g h1 h2) g hg)))
  replace hF := hF.loc2 hN29 (.inl (.inl rfl)) gA_A
  exact ⟨_, rfl, rfl, A23, ac24, ⟨hW, hE, hH, hI, hQ, O26, ⟨ne_bw_be, ne_bw_bh, ne_bw_bi, ne_bw_ig, ne_be_bh, ne_be_bi, ne_be_ig, ne_bh_bi, ne_bh_ig, ne_bi_ig, ap_Q_bw, ap_Q_be, ap_Q_bh, ap_Q_bi, ap_Q_ig, ap_A23_bw, ap_A23_be, ap_A23_bh, ap_A23_bi, ap_A23_ig, ap2_A23_Q.symm⟩⟩, wmv gA_A23 ap_A23_bw ap_A23_be ap_A23_ig, hF⟩
end Go.Proofs.Ytflnlmibkbojcaa
namespace Go.Proofs.Ytflnlmibkbojcaa
open Go.RowKit
theorem begin_1 {w : World} {bw be bh bi ig cap r : Nat} {d : Ent} {Q : Option Addr} {qc : Nat} {A : Option Addr} {ac : Nat} {out : List Msg} {bs : List UInt8} (m : Msg) (R : WorkR w bw be bh bi ig cap r m.line d Q qc A ac out bs) (hlen : out.length + 8 ≤ 1000000) (hsrc : 0 ≤ m.src ∧ m.src < 4) (hk : m.kind = 1) : Calls Try.prog 99 #[.pointer (some ⟨bw, 0, none⟩), .agg (msgE.arr m)] w (Ret fun v w' => v = .tuple #[] ∧ WRet w w' bw be bh bi ig cap r m.line Q qc A out (beginF bs d m).1 (beginF bs d m).2.1 (beginF bs d m).2.2) := by
 obtain ⟨hW, hE, hH, hI, hQ, hO, hS⟩ := R
 have ne_bw_be := hS.ne_bw_be
 have ne_bw_bh := hS.ne_bw_bh
 have ne_bw_bi := hS.ne_bw_bi
 have ne_bw_ig := hS.ne_bw_ig
 have ne_be_bh := hS.ne_be_bh
 have ne_be_bi := hS.ne_be_bi
 have ne_be_ig := hS.ne_be_ig
 have ne_bh_bi := hS.ne_bh_bi
 have ne_bh_ig := hS.ne_bh_ig
 have ne_bi_ig := hS.ne_bi_ig
 have ap_Q_bw := hS.ap_Q_bw
 have ap_Q_be := hS.ap_Q_be
 have ap_Q_bh := hS.ap_Q_bh
 have ap_Q_bi := hS.ap_Q_bi
 have ap_Q_ig := hS.ap_Q_ig
 have ap_A_bw := hS.ap_A_bw
 have ap_A_be := hS.ap_A_be
 have ap_A_bh := hS.ap_A_bh
 have ap_A_bi := hS.ap_A_bi
 have ap_A_ig := hS.ap_A_ig
 have ap2_Q_A := hS.ap2_Q_A
 have gA_A : ∀ g, inA A g → (g = bw ∨ g = be ∨ g = ig ∨ inA A g) ∨ w.heap.size ≤ g := fun g hg => .inl (.inr (.inr (.inr hg)))
 have hmn := m.hn
 have hF := Only.refl (fun k => k = bw ∨ k = be ∨ k = ig ∨ inA A k) w
 refine Zen 17 Try.func99 ?_
 refine Zsr ?_
 refine Znb (cs := msgE.arr m) fun b1 w2 hN3 B4 hb5 => ?_
 refine Znn ?_
 refine Zrg ?_
 intro a fr
 refine fx_makeMap fr rfl rfl rfl (by first | decide | simp) ?_
 clear fr a
 intro r6 w7 hN8 M9 hb10
 replace hW := hW.new hN3
 have ne_bw_r6 : NE bw r6 := NE.mk (Nat.lt_of_lt_of_le hW.lt hb10)
 replace hE := hE.new hN3
 have ne_be_r6 : NE be r6 := NE.mk (Nat.lt_of_lt_of_le hE.lt hb10)
 replace hH := hH.new hN3
 have ne_bh_r6 : NE bh r6 := NE.mk (Nat.lt_of_lt_of_le hH.lt hb10)
 replace hI := hI.new hN3
 have ne_bi_r6 : NE bi r6 := NE.mk (Nat.lt_of_lt_of_le hI.lt.1 hb10)
 have ne_ig_r6 : NE ig r6 := NE.mk (Nat.lt_of_lt_of_le hI.lt.2 hb10)
 replace hQ := hQ.new hN3
 have ap_Q_r6 : Apart Q r6 := hQ.apart hb10
 replace hO := hO.new hN3
 have ap_A_r6 : Apart A r6 := hO.apart hb10
 have ne_b1_r6 : NE b1 r6 := NE.mk (Nat.lt_of_lt_of_le B4.lt hb10)
 replace hF := hF.trNew hN3
 have g_r6 := Nat.le_trans hF.size hb10
 refine Zm ?_
 refine Zv _ (fun _ fr => x_makeBound rfl (fr.ev rfl)) ?_
 intro a fr
 refine fx_insert (es' := #[⟨.int .i64 1, .func (.func 106) #[.pointer (some ⟨bw, 0, none⟩)] #[], 0⟩]) Try.underlying178 Try.underlying33 rfl rfl rfl (fr.ev rfl) rfl (fr.ev rfl) M9 rfl rfl fun w11 hO12 hBq => ?_
 revert a
 replace M9 := hBq
 clear hBq
 refine Zm ?_
 refine Zv _ (fun _ fr => x_makeBound rfl (fr.ev rfl)) ?_
 intro a fr
 refine fx_insert (es' := #[⟨.int .i64 1, .func (.func 106) #[.pointer (some ⟨bw, 0, none⟩)] #[], 0⟩, ⟨.int .i64 2, .func (.func 107) #[.pointer (some ⟨bw, 0, none⟩)] #[], 1⟩]) Try.underlying178 Try.underlying33 rfl rfl rfl (fr.ev rfl) rfl (fr.ev rfl) M9 rfl rfl fun w13 hO14 hBq => ?_
 revert a
 replace M9 := hBq
 clear hBq
 refine Zm ?_
 refine Zv _ (fun _ fr => x_makeBound rfl (fr.ev rfl)) ?_
 intro a fr
 refine fx_insert (es' := #[⟨.int .i64 1, .func (.func 106) #[.pointer (some ⟨bw, 0, none⟩)] #[], 0⟩, ⟨.int .i64 2, .func (.func 107) #[.pointer (some ⟨bw, 0, none⟩)] #[], 1⟩, ⟨.int .i64 3, .func (.func 108) #[.pointer (some ⟨bw, 0, none⟩)] #[], 2⟩]) Try.underlying178 Try.underlying33 rfl rfl rfl (fr.ev rfl) rfl (fr.ev rfl) M9 rfl rfl fun w15 hO16 hBq => ?_
 revert a
 replace M9 := hBq
 clear hBq
 refine Zm ?_
 refine Zf fo35_0 ?_
 replace B4 := (((B4.new hN8).only hO12 ne_b1_r6).only hO14 ne_b1_r6).only hO16 ne_b1_r6
 refine Zd (v := .int .i64 m.kind) pl33 (B4.cell 0 rfl) ?_
 refine Zv (.func (.func 106) #[.pointer (some ⟨bw, 0, none⟩)] #[]) (fun _ fr => x_lookup (k := .i64) (ok := false) (v := .func (.func 106) #[.pointer (some ⟨bw, 0, none⟩)] #[]) (b := true) Try.underlying178 Try.underlying33 rfl (fr.ev rfl) (fr.ev rfl) M9 (z := .nilFunc) (by kernel_rfl) (by rw [hk]; rfl)) ?_
 refine ZE msgE ag35 (B4.rangeE msgE) ?_
 replace hW := (((hW.new hN8).only hO12 ne_bw_r6).only hO14 ne_bw_r6).only hO16 ne_bw_r6
 replace hE := (((hE.new hN8).only hO12 ne_be_r6).only hO14 ne_be_r6).only hO16 ne_be_r6
 replace hH := (((hH.new hN8).only hO12 ne_bh_r6).only hO14 ne_bh_r6).only hO16 ne_bh_r6
 replace hI := (((hI.new hN8).only hO12 ne_bi_r6 ne_ig_r6).only hO14 ne_bi_r6 ne_ig_r6).only hO16 ne_bi_r6 ne_ig_r6
 replace hQ := (((hQ.new hN8).only hO12 (Apart.ne1 ap_Q_r6)).only hO14 (Apart.ne1 ap_Q_r6)).only hO16 (Apart.ne1 ap_Q_r6)
 replace hO := (((hO.new hN8).only hO12 (Apart.ne1 ap_A_r6)).only hO14 (Apart.ne1 ap_A_r6)).only hO16 (Apart.ne1 ap_A_r6)
 refine Zkx (fun _ fr => x_callb (all := #[.pointer (some ⟨bw, 0, none⟩), .agg (msgE.arr m)]) (vs := [.agg (msgE.arr m)]) rfl (fr.ev rfl) ⟨(fr.ev rfl), trivial⟩ rfl Try.func106 nm106 rfl) (gets_c m ⟨hW, hE, hH, hI, hQ, hO, ⟨ne_bw_be, ne_bw_bh, ne_bw_bi, ne_bw_ig, ne_be_bh, ne_be_bi, ne_be_ig, ne_bh_bi, ne_bh_ig, ne_bi_ig, ap_Q_bw, ap_Q_be, ap_Q_bh, ap_Q_bi, ap_Q_ig, ap_A_bw, ap_A_be, ap_A_bh, ap_A_bi, ap_A_ig, ap2_Q_A⟩⟩ (by first | omega | (simp only [List.length_append, List.length_cons, List.length_nil, List.length_map, List.length_take]; omega)) hsrc hk) ?_
 rintro v w22 ⟨rfl, A17, ac18, R19, mv20, hN23⟩
 replace hF := (((hF.trNew hN8).loc hO12 (.inr g_r6)).loc hO14 (.inr g_r6)).loc hO16 (.inr g_r6)
 have gA_A17 := gA_moved hF mv20 gA_A
 clear hW hE hH hI hQ hO
 obtain ⟨hW, hE, hH, hI, hQ, O21, hS⟩ := R19
 have ap_A17_bw := hS.ap_A_bw
 have ap_A17_be := hS.ap_A_be
 have ap_A17_bh := hS.ap_A_bh
 have ap_A17_bi := hS.ap_A_bi
 have ap_A17_ig := hS.ap_A_ig
 have ap2_Q_A17 := hS.ap2_Q_A
 refine Znl ?_
 refine Zee rfl [] trivial ?_
 replace hF := hF.locS hN23 (fun i => (fun h => h.elim (fun e => by rw [e]; exact (.inl (.inl rfl))) (fun h => h.elim (fun e => by rw [e]; exact (.inl (.inr (.inl rfl)))) (fun h => h.elim (fun e => by rw [e]; exact (.inl (.inr (.inr (.inl rfl))))) (fun h => gA_A i h)))))
 exact ⟨_, rfl, rfl, A17, ac18, ⟨hW, hE, hH, hI, hQ, O21, ⟨ne_bw_be, ne_bw_bh, ne_bw_bi, ne_bw_ig, ne_be_bh, ne_be_bi, ne_be_ig, ne_bh_bi, ne_bh_ig, ne_bi_ig, ap_Q_bw, ap_Q_be, ap_Q_bh, ap_Q_bi, ap_Q_ig, ap_A17_bw, ap_A17_be, ap_A17_bh, ap_A17_bi, ap_A17_ig, ap2_Q_A17⟩⟩, wmv gA_A17 ap_A17_bw ap_A17_be ap_A17_ig, hF⟩
theorem begin_2 {w : World} {bw be bh bi ig cap r : Nat} {d : Ent} {Q : Option Addr} {qc : Nat} {A : Option Addr} {ac : Nat} {out : List Msg} {bs : List UInt8} (m : Msg) (R : WorkR w bw be bh bi ig cap r m.line d Q qc A ac out bs) (hlen : out.length + 8 ≤ 1000000) (hsrc : 0 ≤ m.src ∧ m.src < 4) (hk : m.kind = 2) : Calls Try.prog 99 #[.pointer (some ⟨bw, 0, none⟩), .agg (msgE.arr m)] w (Ret fun v w' => v = .tuple #[] ∧ WRet w w' bw be bh bi ig cap r m.line Q qc A out (beginF bs d m).1 (beginF bs d m).2.1 (beginF bs d m).2.2) := by
 obtain ⟨hW, hE, hH, hI, hQ, hO, hS⟩ := R
 have ne_bw_be := hS.ne_bw_be
 have ne_bw_bh := hS.ne_bw_bh
 have ne_bw_bi := hS.ne_bw_bi
 have ne_bw_ig := hS.ne_bw_ig
 have ne_be_bh := hS.ne_be_bh
 have ne_be_bi := hS.ne_be_bi
 have ne_be_ig := hS.ne_be_ig
 have ne_bh_bi := hS.ne_bh_bi
 have ne_bh_ig := hS.ne_bh_ig
 have ne_bi_ig := hS.ne_bi_ig
 have ap_Q_bw := hS.ap_Q_bw
 have ap_Q_be := hS.ap_Q_be
 have ap_Q_bh := hS.ap_Q_bh
 have ap_Q_bi := hS.ap_Q_bi
 have ap_Q_ig := hS.ap_Q_ig
 have ap_A_bw := hS.ap_A_bw
 have ap_A_be := hS.ap_A_be
 have ap_A_bh := hS.ap_A_bh
 have ap_A_bi := hS.ap_A_bi
 have ap_A_ig := hS.ap_A_ig
 have ap2_Q_A := hS.ap2_Q_A
 have gA_A : ∀ g, inA A g → (g = bw ∨ g = be ∨ g = ig ∨ inA A g) ∨ w.heap.size ≤ g := fun g hg => .inl (.inr (.inr (.inr hg)))
 have hmn := m.hn
 have hF := Only.refl (fun k => k = bw ∨ k = be ∨ k = ig ∨ inA A k) w
 refine Zen 17 Try.func99 ?_
 refine Zsr ?_
 refine Znb (cs := msgE.arr m) fun b1 w2 hN3 B4 hb5 => ?_
 refine Znn ?_
 refine Zrg ?_
 intro a fr
 refine fx_makeMap fr rfl rfl rfl (by first | decide | simp) ?_
 clear fr a
 intro r6 w7 hN8 M9 hb10
 replace hW := hW.new hN3
 have ne_bw_r6 : NE bw r6 := NE.mk (Nat.lt_of_lt_of_le hW.lt hb10)
 replace hE := hE.new hN3
 have ne_be_r6 : NE be r6 := NE.mk (Nat.lt_of_lt_of_le hE.lt hb10)
 replace hH := hH.new hN3
 have ne_bh_r6 : NE bh r6 := NE.mk (Nat.lt_of_lt_of_le hH.lt hb10)
 replace hI := hI.new hN3
 have ne_bi_r6 : NE bi r6 := NE.mk (Nat.lt_of_lt_of_le hI.lt.1 hb10)
 have ne_ig_r6 : NE ig r6 := NE.mk (Nat.lt_of_lt_of_le hI.lt.2 hb10)
 replace hQ := hQ.new hN3
 have ap_Q_r6 : Apart Q r6 := hQ.apart hb10
 replace hO := hO.new hN3
 have ap_A_r6 : Apart A r6 := hO.apart hb10
 have ne_b1_r6 : NE b1 r6 := NE.mk (Nat.lt_of_lt_of_le B4.lt hb10)
 replace hF := hF.trNew hN3
 have g_r6 := Nat.le_trans hF.size hb10
 refine Zm ?_
 refine Zv _ (fun _ fr => x_makeBound rfl (fr.ev rfl)) ?_
 intro a fr
 refine fx_insert (es' := #[⟨.int .i64 1, .func (.func 106) #[.pointer (some ⟨bw, 0, none⟩)] #[], 0⟩]) Try.underlying178 Try.underlying33 rfl rfl rfl (fr.ev rfl) rfl (fr.ev rfl) M9 rfl rfl fun w11 hO12 hBq => ?_
 revert a
 replace M9 := hBq
 clear hBq
 refine Zm ?_
 refine Zv _ (fun _ fr => x_makeBound rfl (fr.ev rfl)) ?_
 intro a fr
 refine fx_insert (es' := #[⟨.int .i64 1, .func (.func 106) #[.pointer (some ⟨bw, 0, none⟩)] #[], 0⟩, ⟨.int .i64 2, .func (.func 107) #[.pointer (some ⟨bw, 0, none⟩)] #[], 1⟩]) Try.underlying178 Try.underlying33 rfl rfl rfl (fr.ev rfl) rfl (fr.ev rfl) M9 rfl rfl fun w13 hO14 hBq => ?_
 revert a
 replace M9 := hBq
 clear hBq
 refine Zm ?_
 refine Zv _ (fun _ fr => x_makeBound rfl (fr.ev rfl)) ?_
 intro a fr
 refine fx_insert (es' := #[⟨.int .i64 1, .func (.func 106) #[.pointer (some ⟨bw, 0, none⟩)] #[], 0⟩, ⟨.int .i64 2, .func (.func 107) #[.pointer (some ⟨bw, 0, none⟩)] #[], 1⟩, ⟨.int .i64 3, .func (.func 108) #[.pointer (some ⟨bw, 0, none⟩)] #[], 2⟩]) Try.underlying178 Try.underlying33 rfl rfl rfl (fr.ev rfl) rfl (fr.ev rfl) M9 rfl rfl fun w15 hO16 hBq => ?_
 revert a
 replace M9 := hBq
 clear hBq
 refine Zm ?_
 refine Zf fo35_0 ?_
 replace B4 := (((B4.new hN8).only hO12 ne_b1_r6).only hO14 ne_b1_r6).only hO16 ne_b1_r6
 refine Zd (v := .int .i64 m.kind) pl33 (B4.cell 0 rfl) ?_
 refine Zv (.func (.func 107) #[.pointer (some ⟨bw, 0, none⟩)] #[]) (fun _ fr => x_lookup (k := .i64) (ok := false) (v := .func (.func 107) #[.pointer (some ⟨bw, 0, none⟩)] #[]) (b := true) Try.underlying178 Try.underlying33 rfl (fr.ev rfl) (fr.ev rfl) M9 (z := .nilFunc) (by kernel_rfl) (by rw [hk]; rfl)) ?_
 refine ZE msgE ag35 (B4.rangeE msgE) ?_
 replace hW := (((hW.new hN8).only hO12 ne_bw_r6).only hO14 ne_bw_r6).only hO16 ne_bw_r6
 replace hE := (((hE.new hN8).only hO12 ne_be_r6).only hO14 ne_be_r6).only hO16 ne_be_r6
 replace hH := (((hH.new hN8).only hO12 ne_bh_r6).only hO14 ne_bh_r6).only hO16 ne_bh_r6
 replace hI := (((hI.new hN8).only hO12 ne_bi_r6 ne_ig_r6).only hO14 ne_bi_r6 ne_ig_r6).only hO16 ne_bi_r6 ne_ig_r6
 replace hQ := (((hQ.new hN8).only hO12 (Apart.ne1 ap_Q_r6)).only hO14 (Apart.ne1 ap_Q_r6)).only hO16 (Apart.ne1 ap_Q_r6)
 replace hO := (((hO.new hN8).only hO12 (Apart.ne1 ap_A_r6)).only hO14 (Apart.ne1 ap_A_r6)).only hO16 (Apart.ne1 ap_A_r6)
 refine Zkx (fun _ fr => x_callb (all := #[.pointer (some ⟨bw, 0, none⟩), .agg (msgE.arr m)]) (vs := [.agg (msgE.arr m)]) rfl (fr.ev rfl) ⟨(fr.ev rfl), trivial⟩ rfl Try.func107 nm107 rfl) (getm_c m ⟨hW, hE, hH, hI, hQ, hO, ⟨ne_bw_be, ne_bw_bh, ne_bw_bi, ne_bw_ig, ne_be_bh, ne_be_bi, ne_be_ig, ne_bh_bi, ne_bh_ig, ne_bi_ig, ap_Q_bw, ap_Q_be, ap_Q_bh, ap_Q_bi, ap_Q_ig, ap_A_bw, ap_A_be, ap_A_bh, ap_A_bi, ap_A_ig, ap2_Q_A⟩⟩ (by first | omega | (simp only [List.length_append, List.length_cons, List.length_nil, List.length_map, List.length_take]; omega)) hsrc hk) ?_
 rintro v w22 ⟨rfl, A17, ac18, R19, mv20, hN23⟩
 replace hF := (((hF.trNew hN8).loc hO12 (.inr g_r6)).loc hO14 (.inr g_r6)).loc hO16 (.inr g_r6)
 have gA_A17 := gA_moved hF mv20 gA_A
 clear hW hE hH hI hQ hO
 obtain ⟨hW, hE, hH, hI, hQ, O21, hS⟩ := R19
 have ap_A17_bw := hS.ap_A_bw
 have ap_A17_be := hS.ap_A_be
 have ap_A17_bh := hS.ap_A_bh
 have ap_A17_bi := hS.ap_A_bi
 have ap_A17_ig := hS.ap_A_ig
 have ap2_Q_A17 := hS.ap2_Q_A
 refine Znl ?_
 refine Zee rfl [] trivial ?_
 replace hF := hF.locS hN23 (fun i => (fun h => h.elim (fun e => by rw [e]; exact (.inl (.inl rfl))) (fun h => h.elim (fun e => by rw [e]; exact (.inl (.inr (.inl rfl)))) (fun h => h.elim (fun e => by rw [e]; exact (.inl (.inr (.inr (.inl rfl))))) (fun h => gA_A i h)))))
 exact ⟨_, rfl, rfl, A17, ac18, ⟨hW, hE, hH, hI, hQ, O21, ⟨ne_bw_be, ne_bw_bh, ne_bw_bi, ne_bw_ig, ne_be_bh, ne_be_bi, ne_be_ig, ne_bh_bi, ne_bh_ig, ne_bi_ig, ap_Q_bw, ap_Q_be, ap_Q_bh, ap_Q_bi, ap_Q_ig, ap_A17_bw, ap_A17_be, ap_A17_bh, ap_A17_bi, ap_A17_ig, ap2_Q_A17⟩⟩, wmv gA_A17 ap_A17_bw ap_A17_be ap_A17_ig, hF⟩
theorem begin_3 {w : World} {bw be bh bi ig cap r : Nat} {d : Ent} {Q : Option Addr} {qc : Nat} {A : Option Addr} {ac : Nat} {out : List Msg} {bs : List UInt8} (m : Msg) (R : WorkR w bw be bh bi ig cap r m.line d Q qc A ac out bs) (hlen : out.length + 8 ≤ 1000000) (hsrc : 0 ≤ m.src ∧ m.src < 4) (hk : m.kind = 3) : Calls Try.prog 99 #[.pointer (some ⟨bw, 0, none⟩), .agg (msgE.arr m)] w (Ret fun v w' => v = .tuple #[] ∧ WRet w w' bw be bh bi ig cap r m.line Q qc A out (beginF bs d m).1 (beginF bs d m).2.1 (beginF bs d m).2.2) := by
 obtain ⟨hW, hE, hH, hI, hQ, hO, hS⟩ := R
 have ne_bw_be := hS.ne_bw_be
 have ne_bw_bh := hS.ne_bw_bh
 have ne_bw_bi := hS.ne_bw_bi
 have ne_bw_ig := hS.ne_bw_ig
 have ne_be_bh := hS.ne_be_bh
 have ne_be_bi := hS.ne_be_bi
 have ne_be_ig := hS.ne_be_ig
 have ne_bh_bi := hS.ne_bh_bi
 have ne_bh_ig := hS.ne_bh_ig
 have ne_bi_ig := hS.ne_bi_ig
 have ap_Q_bw := hS.ap_Q_bw
 have ap_Q_be := hS.ap_Q_be
 have ap_Q_bh := hS.ap_Q_bh
 have ap_Q_bi := hS.ap_Q_bi
 have ap_Q_ig := hS.ap_Q_ig
 have ap_A_bw := hS.ap_A_bw
 have ap_A_be := hS.ap_A_be
 have ap_A_bh := hS.ap_A_bh
 have ap_A_bi := hS.ap_A_bi
 have ap_A_ig := hS.ap_A_ig
 have ap2_Q_A := hS.ap2_Q_A
 have gA_A : ∀ g, inA A g → (g = bw ∨ g = be ∨ g = ig ∨ inA A g) ∨ w.heap.size ≤ g := fun g hg => .inl (.inr (.inr (.inr hg)))
 have hmn := m.hn
 have hF := Only.refl (fun k => k = bw ∨ k = be ∨ k = ig ∨ inA A k) w
 refine Zen 17 Try.func99 ?_
 refine Zsr ?_
 refine Znb (cs := msgE.arr m) fun b1 w2 hN3 B4 hb5 => ?_
 refine Znn ?_
 refine Zrg ?_
 intro a fr
 refine fx_makeMap fr rfl rfl rfl (by first | decide | simp) ?_
 clear fr a
 intro r6 w7 hN8 M9 hb10
 replace hW := hW.new hN3
 have ne_bw_r6 : NE bw r6 := NE.mk (Nat.lt_of_lt_of_le hW.lt hb10)
 replace hE := hE.new hN3
 have ne_be_r6 : NE be r6 := NE.mk (Nat.lt_of_lt_of_le hE.lt hb10)
 replace hH := hH.new hN3
 have ne_bh_r6 : NE bh r6 := NE.mk (Nat.lt_of_lt_of_le hH.lt hb10)
 replace hI := hI.new hN3
 have ne_bi_r6 : NE bi r6 := NE.mk (Nat.lt_of_lt_of_le hI.lt.1 hb10)
 have ne_ig_r6 : NE ig r6 := NE.mk (Nat.lt_of_lt_of_le hI.lt.2 hb10)
 replace hQ := hQ.new hN3
 have ap_Q_r6 : Apart Q r6 := hQ.apart hb10
 replace hO := hO.new hN3
 have ap_A_r6 : Apart A r6 := hO.apart hb10
 have ne_b1_r6 : NE b1 r6 := NE.mk (Nat.lt_of_lt_of_le B4.lt hb10)
 replace hF := hF.trNew hN3
 have g_r6 := Nat.le_trans hF.size hb10
 refine Zm ?_
 refine Zv _ (fun _ fr => x_makeBound rfl (fr.ev rfl)) ?_
 intro a fr
 refine fx_insert (es' := #[⟨.int .i64 1, .func (.func 106) #[.pointer (some ⟨bw, 0, none⟩)] #[], 0⟩]) Try.underlying178 Try.underlying33 rfl rfl rfl (fr.ev rfl) rfl (fr.ev rfl) M9 rfl rfl fun w11 hO12 hBq => ?_
 revert a
 replace M9 := hBq
 clear hBq
 refine Zm ?_
 refine Zv _ (fun _ fr => x_makeBound rfl (fr.ev rfl)) ?_
 intro a fr
 refine fx_insert (es' := #[⟨.int .i64 1, .func (.func 106) #[.pointer (some ⟨bw, 0, none⟩)] #[], 0⟩, ⟨.int .i64 2, .func (.func 107) #[.pointer (some ⟨bw, 0, none⟩)] #[], 1⟩]) Try.underlying178 Try.underlying33 rfl rfl rfl (fr.ev rfl) rfl (fr.ev rfl) M9 rfl rfl fun w13 hO14 hBq => ?_
 revert a
 replace M9 := hBq
 clear hBq
 refine Zm ?_
 refine Zv _ (fun _ fr => x_makeBound rfl (fr.ev rfl)) ?_
 intro a fr
 refine fx_insert (es' := #[⟨.int .i64 1, .func (.func 106) #[.pointer (some ⟨bw, 0, none⟩)] #[], 0⟩, ⟨.int .i64 2, .func (.func 107) #[.pointer (some ⟨bw, 0, none⟩)] #[], 1⟩, ⟨.int .i64 3, .func (.func 108) #[.pointer (some ⟨bw, 0, none⟩)] #[], 2⟩]) Try.underlying178 Try.underlying33 rfl rfl rfl (fr.ev rfl) rfl (fr.ev rfl) M9 rfl rfl fun w15 hO16 hBq => ?_
 revert a
 replace M9 := hBq
 clear hBq
 refine Zm ?_
 refine Zf fo35_0 ?_
 replace B4 := (((B4.new hN8).only hO12 ne_b1_r6).only hO14 ne_b1_r6).only hO16 ne_b1_r6
 refine Zd (v := .int .i64 m.kind) pl33 (B4.cell 0 rfl) ?_
 refine Zv (.func (.func 108) #[.pointer (some ⟨bw, 0, none⟩)] #[]) (fun _ fr => x_lookup (k := .i64) (ok := false) (v := .func (.func 108) #[.pointer (some ⟨bw, 0, none⟩)] #[]) (b := true) Try.underlying178 Try.underlying33 rfl (fr.ev rfl) (fr.ev rfl) M9 (z := .nilFunc) (by kernel_rfl) (by rw [hk]; rfl)) ?_
 refine ZE msgE ag35 (B4.rangeE msgE) ?_
 replace hW := (((hW.new hN8).only hO12 ne_bw_r6).only hO14 ne_bw_r6).only hO16 ne_bw_r6
 replace hE := (((hE.new hN8).only hO12 ne_be_r6).only hO14 ne_be_r6).only hO16 ne_be_r6
 replace hH := (((hH.new hN8).only hO12 ne_bh_r6).only hO14 ne_bh_r6).only hO16 ne_bh_r6
 replace hI := (((hI.new hN8).only hO12 ne_bi_r6 ne_ig_r6).only hO14 ne_bi_r6 ne_ig_r6).only hO16 ne_bi_r6 ne_ig_r6
 replace hQ := (((hQ.new hN8).only hO12 (Apart.ne1 ap_Q_r6)).only hO14 (Apart.ne1 ap_Q_r6)).only hO16 (Apart.ne1 ap_Q_r6)
 replace hO := (((hO.new hN8).only hO12 (Apart.ne1 ap_A_r6)).only hO14 (Apart.ne1 ap_A_r6)).only hO16 (Apart.ne1 ap_A_r6)
 refine Zkx (fun _ fr => x_callb (all := #[.pointer (some ⟨bw, 0, none⟩), .agg (msgE.arr m)]) (vs := [.agg (msgE.arr m)]) rfl (fr.ev rfl) ⟨(fr.ev rfl), trivial⟩ rfl Try.func108 nm108 rfl) (hput_c m ⟨hW, hE, hH, hI, hQ, hO, ⟨ne_bw_be, ne_bw_bh, ne_bw_bi, ne_bw_ig, ne_be_bh, ne_be_bi, ne_be_ig, ne_bh_bi, ne_bh_ig, ne_bi_ig, ap_Q_bw, ap_Q_be, ap_Q_bh, ap_Q_bi, ap_Q_ig, ap_A_bw, ap_A_be, ap_A_bh, ap_A_bi, ap_A_ig, ap2_Q_A⟩⟩ (by first | omega | (simp only [List.length_append, List.length_cons, List.length_nil, List.length_map, List.length_take]; omega)) hsrc hk) ?_
 rintro v w22 ⟨rfl, A17, ac18, R19, mv20, hN23⟩
 replace hF := (((hF.trNew hN8).loc hO12 (.inr g_r6)).loc hO14 (.inr g_r6)).loc hO16 (.inr g_r6)
 have gA_A17 := gA_moved hF mv20 gA_A
 clear hW hE hH hI hQ hO
 obtain ⟨hW, hE, hH, hI, hQ, O21, hS⟩ := R19
 have ap_A17_bw := hS.ap_A_bw
 have ap_A17_be := hS.ap_A_be
 have ap_A17_bh := hS.ap_A_bh
 have ap_A17_bi := hS.ap_A_bi
 have ap_A17_ig := hS.ap_A_ig
 have ap2_Q_A17 := hS.ap2_Q_A
 refine Znl ?_
 refine Zee rfl [] trivial ?_
 replace hF := hF.locS hN23 (fun i => (fun h => h.elim (fun e => by rw [e]; exact (.inl (.inl rfl))) (fun h => h.elim (fun e => by rw [e]; exact (.inl (.inr (.inl rfl)))) (fun h => h.elim (fun e => by rw [e]; exact (.inl (.inr (.inr (.inl rfl))))) (fun h => gA_A i h)))))
 exact ⟨_, rfl, rfl, A17, ac18, ⟨hW, hE, hH, hI, hQ, O21, ⟨ne_bw_be, ne_bw_bh, ne_bw_bi, ne_bw_ig, ne_be_bh, ne_be_bi, ne_be_ig, ne_bh_bi, ne_bh_ig, ne_bi_ig, ap_Q_bw, ap_Q_be, ap_Q_bh, ap_Q_bi, ap_Q_ig, ap_A17_bw, ap_A17_be, ap_A17_bh, ap_A17_bi, ap_A17_ig, ap2_Q_A17⟩⟩, wmv gA_A17 ap_A17_bw ap_A17_be ap_A17_ig, hF⟩
theorem begin_c {w : World} {bw be bh bi ig cap r : Nat} {d : Ent} {Q : Option Addr} {qc : Nat} {A : Option Addr} {ac : Nat} {out : List Msg} {bs : List UInt8} (m : Msg) (R : WorkR w bw be bh bi ig cap r m.line d Q qc A ac out bs) (hlen : out.length + 8 ≤ 1000000) (hsrc : 0 ≤ m.src ∧ m.src < 4)  (hk : 1 ≤ m.kind ∧ m.kind ≤ 3) : Calls Try.prog 99 #[.pointer (some ⟨bw, 0, none⟩), .agg (msgE.arr m)] w (Ret fun v w' => v = .tuple #[] ∧ WRet w w' bw be bh bi ig cap r m.line Q qc A out (beginF bs d m).1 (beginF bs d m).2.1 (beginF bs d m).2.2) := by
  have h : m.kind = 1 ∨ m.kind = 2 ∨ m.kind = 3 := by omega
  rcases h with h | h | h
  · exact begin_1 m R hlen hsrc h
  · exact begin_2 m R hlen hsrc h
  · exact begin_3 m R hlen hsrc h
theorem begin_l {w : World} {bw be bh bi ig cap r : Nat} {line : Int} {d : Ent} {Q : Option Addr} {qc : Nat} {A : Option Addr} {ac : Nat} {out : List Msg} {bs : List UInt8} (m : Msg) (R : WorkR w bw be bh bi ig cap r line d Q qc A ac out bs) (hlen : out.length + 8 ≤ 1000000) (hsrc : 0 ≤ m.src ∧ m.src < 4)  (hk : 1 ≤ m.kind ∧ m.kind ≤ 3) (hml : m.line = line) : Calls Try.prog 99 #[.pointer (some ⟨bw, 0, none⟩), .agg (msgE.arr m)] w (Ret fun v w' => v = .tuple #[] ∧ WRet w w' bw be bh bi ig cap r line Q qc A out (beginF bs d m).1 (beginF bs d m).2.1 (beginF bs d m).2.2) := by
  subst hml
  exact begin_c m R hlen hsrc hk
end Go.Proofs.Ytflnlmibkbojcaa
namespace Go.Proofs.Ytflnlmibkbojcaa
open Go.RowKit
theorem hmv {n bw be ig : Nat} {A A' Q : Option Addr} (h : ∀ k, inA A' k → (k = bw ∨ k = be ∨ k = ig ∨ inA A k ∨ inA Q k) ∨ n ≤ k) (h1 : Apart A' bw) (h2 : Apart A' be) (h3 : Apart A' ig) : ∀ k, inA A' k → (inA A k ∨ inA Q k) ∨ n ≤ k := fun k hk => by
  rcases h k hk with (rfl | rfl | rfl | h) | h
  · exact absurd hk h1
  · exact absurd hk h2
  · exact absurd hk h3
  · exact .inl h
  · exact .inr h
theorem req_n {w : World} {bw be bh bi ig cap r : Nat} {o : Int} {sh : Sh} {asks : Int} {kind : Int} {waits : Int} {told : Bool} {q : List Msg} {Q : Option Addr} {qc : Nat} {A : Option Addr} {ac : Nat} {out : List Msg} {bs : List UInt8} (m : Msg) (R : WorkR w bw be bh bi ig cap r m.line (Ent.mk o sh false asks kind waits told q) Q qc A ac out bs) (hlen : out.length + 8 ≤ 1000000) (hsrc : 0 ≤ m.src ∧ m.src < 4) (hk : 1 ≤ m.kind ∧ m.kind ≤ 3) : Calls Try.prog 88 #[.pointer (some ⟨bw, 0, none⟩), .agg (msgE.arr m)] w (Ret fun v w' => v = .tuple #[] ∧ HRet w w' bw be bh bi ig cap r m.line Q A out (beginF bs (Ent.mk o sh false asks kind waits told q) m)) := by
 obtain ⟨hW, hE, hH, hI, hQ, hO, hS⟩ := R
 have ne_bw_be := hS.ne_bw_be
 have ne_bw_bh := hS.ne_bw_bh
 have ne_bw_bi := hS.ne_bw_bi
 have ne_bw_ig := hS.ne_bw_ig
 have ne_be_bh := hS.ne_be_bh
 have ne_be_bi := hS.ne_be_bi
 have ne_be_ig := hS.ne_be_ig
 have ne_bh_bi := hS.ne_bh_bi
 have ne_bh_ig := hS.ne_bh_ig
 have ne_bi_ig := hS.ne_bi_ig
 have ap_Q_bw := hS.ap_Q_bw
 have ap_Q_be := hS.ap_Q_be
 have ap_Q_bh := hS.ap_Q_bh
 have ap_Q_bi := hS.ap_Q_bi
 have ap_Q_ig := hS.ap_Q_ig
 have ap_A_bw := hS.ap_A_bw
 have ap_A_be := hS.ap_A_be
 have ap_A_bh := hS.ap_A_bh
 have ap_A_bi := hS.ap_A_bi
 have ap_A_ig := hS.ap_A_ig
 have ap2_Q_A := hS.ap2_Q_A
 have gA_A : ∀ g, inA A g → (g = bw ∨ g = be ∨ g = ig ∨ inA A g ∨ inA Q g) ∨ w.heap.size ≤ g := fun g hg => .inl (.inr (.inr (.inr (.inl hg))))
 have hmn := m.hn
 have gA_Q : ∀ g, inA Q g → (g = bw ∨ g = be ∨ g = ig ∨ inA A g ∨ inA Q g) ∨ w.heap.size ≤ g := fun g hg => .inl (.inr (.inr (.inr (.inr hg))))
 have hF := Only.refl (fun k => k = bw ∨ k = be ∨ k = ig ∨ inA A k ∨ inA Q k) w
 refine Zen 30 Try.func88 ?_
 refine Zsr ?_
 refine Znb (cs := msgE.arr m) fun b1 w2 hN3 B4 hb5 => ?_
 refine Znn ?_
 refine Zsq ?_
 refine Zsr ?_
 refine Zm ?_
 refine Zn ?_
 refine Zf fo176_1 ?_
 replace hW := hW.new hN3
 refine Zd pl144 (hW.cell 1 rfl) ?_
 refine Zn ?_
 refine Zf fo147_2 ?_
 replace hE := hE.new hN3
 refine Zd (v := .bool false) pl4 (hE.cell 5 rfl) ?_
 refine Znn ?_
 refine Zcf ?_
 refine Zsk ?_
 refine Znx ?_
 refine Zrg ?_
 refine Zm ?_
 refine ZE msgE ag35 (B4.rangeE msgE) ?_
 replace hH := hH.new hN3
 replace hI := hI.new hN3
 replace hQ := hQ.new hN3
 replace hO := hO.new hN3
 refine Zk (args := #[.pointer (some ⟨bw, 0, none⟩), .agg (msgE.arr m)]) cf99 (begin_c m ⟨hW, hE, hH, hI, hQ, hO, ⟨ne_bw_be, ne_bw_bh, ne_bw_bi, ne_bw_ig, ne_be_bh, ne_be_bi, ne_be_ig, ne_bh_bi, ne_bh_ig, ne_bi_ig, ap_Q_bw, ap_Q_be, ap_Q_bh, ap_Q_bi, ap_Q_ig, ap_A_bw, ap_A_be, ap_A_bh, ap_A_bi, ap_A_ig, ap2_Q_A⟩⟩ (by first | omega | (simp only [List.length_append, List.length_cons, List.length_nil, List.length_map, List.length_take]; omega)) hsrc hk) ?_
 rintro v w11 ⟨rfl, A6, ac7, R8, mv9, hN12⟩
 replace hF := hF.trNew hN3
 have gA_A6 := gA_moved hF mv9 gA_A
 clear hW hE hH hI hQ hO
 obtain ⟨hW, hE, hH, hI, hQ, O10, hS⟩ := R8
 have ap_A6_bw := hS.ap_A_bw
 have ap_A6_be := hS.ap_A_be
 have ap_A6_bh := hS.ap_A_bh
 have ap_A6_bi := hS.ap_A_bi
 have ap_A6_ig := hS.ap_A_ig
 have ap2_Q_A6 := hS.ap2_Q_A
 refine Znl ?_
 refine Zee rfl [] trivial ?_
 replace hF := hF.locS hN12 (fun i => (fun h => h.elim (fun e => by rw [e]; exact (.inl (.inl rfl))) (fun h => h.elim (fun e => by rw [e]; exact (.inl (.inr (.inl rfl)))) (fun h => h.elim (fun e => by rw [e]; exact (.inl (.inr (.inr (.inl rfl))))) (fun h => gA_A i h)))))
 exact ⟨_, rfl, rfl, Q, qc, A6, ac7, ⟨hW, hE, hH, hI, hQ, O10, ⟨ne_bw_be, ne_bw_bh, ne_bw_bi, ne_bw_ig, ne_be_bh, ne_be_bi, ne_be_ig, ne_bh_bi, ne_bh_ig, ne_bi_ig, ap_Q_bw, ap_Q_be, ap_Q_bh, ap_Q_bi, ap_Q_ig, ap_A6_bw, ap_A6_be, ap_A6_bh, ap_A6_bi, ap_A6_ig, ap2_Q_A6⟩⟩, hmv gA_A6 ap_A6_bw ap_A6_be ap_A6_ig, hmv gA_Q ap_Q_bw ap_Q_be ap_Q_ig, hF⟩
theorem req_b {w : World} {bw be bh bi ig cap r : Nat} {o : Int} {sh : Sh} {asks : Int} {kind : Int} {waits : Int} {told : Bool} {q : List Msg} {Q : Option Addr} {qc : Nat} {A : Option Addr} {ac : Nat} {out : List Msg} {bs : List UInt8} (m : Msg) (R : WorkR w bw be bh bi ig cap r m.line (Ent.mk o sh true asks kind waits told q) Q qc A ac out bs) (hlen : out.length + 8 ≤ 1000000) (hsrc : 0 ≤ m.src ∧ m.src < 4) (OQ : Own msgE w Q qc q) (hql : q.length ≤ 1000000) : Calls Try.prog 88 #[.pointer (some ⟨bw, 0, none⟩), .agg (msgE.arr m)] w (Ret fun v w' => v = .tuple #[] ∧ HRet w w' bw be bh bi ig cap r m.line Q A out ({ (Ent.mk o sh true asks kind waits told q) with q := q ++ [m] }, bs, ([] : List Msg))) := by
 obtain ⟨hW, hE, hH, hI, hQ, hO, hS⟩ := R
 have ne_bw_be := hS.ne_bw_be
 have ne_bw_bh := hS.ne_bw_bh
 have ne_bw_bi := hS.ne_bw_bi
 have ne_bw_ig := hS.ne_bw_ig
 have ne_be_bh := hS.ne_be_bh
 have ne_be_bi := hS.ne_be_bi
 have ne_be_ig := hS.ne_be_ig
 have ne_bh_bi := hS.ne_bh_bi
 have ne_bh_ig := hS.ne_bh_ig
 have ne_bi_ig := hS.ne_bi_ig
 have ap_Q_bw := hS.ap_Q_bw
 have ap_Q_be := hS.ap_Q_be
 have ap_Q_bh := hS.ap_Q_bh
 have ap_Q_bi := hS.ap_Q_bi
 have ap_Q_ig := hS.ap_Q_ig
 have ap_A_bw := hS.ap_A_bw
 have ap_A_be := hS.ap_A_be
 have ap_A_bh := hS.ap_A_bh
 have ap_A_bi := hS.ap_A_bi
 have ap_A_ig := hS.ap_A_ig
 have ap2_Q_A := hS.ap2_Q_A
 have hmn := m.hn
 have gA_Q : ∀ g, inA Q g → (g = bw ∨ g = be ∨ g = ig ∨ inA A g ∨ inA Q g) ∨ w.heap.size ≤ g := fun g hg => .inl (.inr (.inr (.inr (.inr hg))))
 clear hQ
 have hF := Only.refl (fun k => k = bw ∨ k = be ∨ k = ig ∨ inA A k ∨ inA Q k) w
 refine Zen 30 Try.func88 ?_
 refine Zsr ?_
 refine Znb (cs := msgE.arr m) fun b1 w2 hN3 B4 hb5 => ?_
 have ap_Q_b1 : Apart Q b1 := OQ.apart hb5
 refine Znn ?_
 refine Zsq ?_
 refine Zsr ?_
 refine Zm ?_
 refine Zn ?_
 refine Zf fo176_1 ?_
 replace hW := hW.new hN3
 refine Zd pl144 (hW.cell 1 rfl) ?_
 refine Zn ?_
 refine Zf fo147_2 ?_
 replace hE := hE.new hN3
 refine Zd (v := .bool true) pl4 (hE.cell 5 rfl) ?_
 refine Znn ?_
 refine Zct ?_
 refine Zsq ?_
 refine ZhT (n := 14) 14 (fun w => Blk w bw 176 #[.slice A out.length ac, .pointer (some ⟨be, 0, none⟩), .pointer (some ⟨bh, 0, none⟩), .int .u32 m.line] ∧ Blk w be 147 (entA (Ent.mk o sh true asks kind waits told q) (.slice Q q.length qc)) ∧ Blk w b1 35 (msgE.arr m) ∧ True) ?_
 intro w6 hN7
 replace hW := hW.new hN7
 replace hE := hE.new hN7
 replace B4 := B4.new hN7
 have hS9 := And.intro hW (And.intro hE (And.intro B4 trivial))
 refine Zhm 0 hS9 ?_
 refine Zhc 1 hS9 ?_
 refine Zhf 2 fo176_1 hS9 ?_
 refine Zhl 3 pl144 hS9 (fun _ ⟨hW, _⟩ => (hW.cell 1 rfl)) ?_
 refine Zhm 4 hS9 ?_
 refine Zhc 5 hS9 ?_
 refine Zhf 6 fo176_1 hS9 ?_
 refine Zhl 7 pl144 hS9 (fun _ ⟨hW, _⟩ => (hW.cell 1 rfl)) ?_
 refine Zhc 8 hS9 ?_
 refine Zhf 9 fo147_7 hS9 ?_
 refine Zhl (v := .slice Q q.length qc) 10 pl29 hS9 (fun _ ⟨_, hE, _⟩ => (hE.cell 10 rfl)) ?_
 refine ZhE 11 msgE ag35 hS9 (fun _ ⟨_, _, B4, _⟩ => (B4.rangeE msgE)) ?_
 refine Zh1 12 ?_
 intro a fr
 refine fx_build1 (E := msgE) (p := m) elMsg (by decide) fr rfl rfl (by decide) rfl (fr.ev rfl) ?_
 clear fr a
 intro A8 w9 hN10 O11 hA12
 replace hW := hW.new hN10
 replace hE := hE.new hN10
 replace B4 := B4.new hN10
 refine Zhb ⟨hW, hE, B4, trivial⟩ ?_
 refine Zh1 13 ?_
 intro a fr
 replace OQ := ((OQ.new hN3).new hN7).new hN10
 refine fx_append (E := msgE) (l := q) (l' := [m]) elMsg fr rfl rfl (by decide) rfl (fr.ev rfl) (fr.ev rfl) (by first | rfl | (simp; done) | (simp; omega)) (by first | rfl | (simp; done) | (simp; omega)) OQ O11.view (by first | omega | (simp only [List.length_append, List.length_cons, List.length_nil]; omega)) (by first | (unfold maxLen; done) | (unfold maxLen; first | omega | (simp only [List.length_append, List.length_cons, List.length_nil]; omega) | (simp; done) | (simp; omega))) ?_
 clear fr a
 intro A13 cap14 w15 O16 hO17 mv18
 have ap_A13_bw : Apart A13 bw := moved_apart mv18 ap_Q_bw hW.lt
 have ap_A13_be : Apart A13 be := moved_apart mv18 ap_Q_be hE.lt
 replace hH := ((hH.new hN3).new hN7).new hN10
 have ap_A13_bh : Apart A13 bh := moved_apart mv18 ap_Q_bh hH.lt
 replace hI := ((hI.new hN3).new hN7).new hN10
 have ap_A13_bi : Apart A13 bi := moved_apart mv18 ap_Q_bi hI.lt.1
 have ap_A13_ig : Apart A13 ig := moved_apart mv18 ap_Q_ig hI.lt.2
 replace hO := ((hO.new hN3).new hN7).new hN10
 have ap2_A13_A : Apart2 A13 A := moved_apart2 mv18 ap2_Q_A fun _ hg => hO.lt hg
 replace hF := ((hF.trNew hN3).trNew hN7).trNew hN10
 have gA_A13 := gA_moved hF mv18 gA_Q
 clear OQ
 replace hW := hW.only hO17 ap_Q_bw
 replace hE := hE.only hO17 ap_Q_be
 replace B4 := B4.only hO17 ap_Q_b1
 refine Zhb ⟨hW, hE, B4, trivial⟩ ?_
 refine Zhn ?_
 refine Ztl ?_
 refine Zn ?_
 refine Zf fo147_7 ?_
 refine Zs1 (cs' := entA ({ (Ent.mk o sh true asks kind waits told q) with q := q ++ ([m]) }) (.slice A13 ((q ++ ([m])).length) cap14)) sz29 hE (show 10 < 11 by decide) rfl fun w19 hO20 hBq => ?_
 replace hE := hBq
 clear hBq
 refine Znn ?_
 refine Zrt ?_
 refine Zr1 ?_
 refine Zre rfl [] trivial ?_
 refine ⟨_, rfl, rfl, ?_⟩
 unfold HRet
 rw [List.append_nil]
 replace hH := (hH.only hO17 ap_Q_bh).only hO20 ne_be_bh.symm
 replace hI := (hI.only hO17 ap_Q_bi ap_Q_ig).only hO20 ne_be_bi.symm ne_be_ig.symm
 replace hO := (hO.only hO17 (fun g h1 h2 => ap2_Q_A.symm g h1 h2)).only hO20 (Apart.ne1 ap_A_be)
 replace hF := (hF.locA hO17 gA_Q).loc hO20 (.inl (.inr (.inl rfl)))
 replace hW := hW.only hO20 ne_bw_be
 replace O16 := O16.only hO20 (Apart.ne1 ap_A13_be)
 exact ⟨A13, cap14, A, ac, ⟨hW, hE, hH, hI, O16.view, hO, ⟨ne_bw_be, ne_bw_bh, ne_bw_bi, ne_bw_ig, ne_be_bh, ne_be_bi, ne_be_ig, ne_bh_bi, ne_bh_ig, ne_bi_ig, ap_A13_bw, ap_A13_be, ap_A13_bh, ap_A13_bi, ap_A13_ig, ap_A_bw, ap_A_be, ap_A_bh, ap_A_bi, ap_A_ig, ap2_A13_A⟩⟩, fun _ hk => .inl (.inl hk), hmv gA_A13 ap_A13_bw ap_A13_be ap_A13_ig, hF⟩
theorem back_ok {w : World} {bw be bh bi ig cap r : Nat} {o : Int} {sh : Sh} {asks : Int} {kind : Int} {waits : Int} {told : Bool} {q : List Msg} {Q : Option Addr} {qc : Nat} {A : Option Addr} {ac : Nat} {out : List Msg} {bs : List UInt8} (m : Msg) (R : WorkR w bw be bh bi ig cap r m.line (Ent.mk o sh true asks kind waits told q) Q qc A ac out bs) (hlen : out.length + 8 ≤ 1000000) (hsrc : 0 ≤ m.src ∧ m.src < 4) (hask : 0 ≤ asks ∧ asks < 4) (hk : m.kind = 11) (hw : 0 < waits) (ho : o = m.src) (hkk : kind = 1 ∨ kind = 2) : Calls Try.prog 89 #[.pointer (some ⟨bw, 0, none⟩), .agg (msgE.arr m)] w (Ret fun v w' => v = .tuple #[] ∧ HRet w w' bw be bh bi ig cap r m.line Q A out (otherF bs (Ent.mk o sh true asks kind waits told q) m)) := by
 obtain ⟨hW, hE, hH, hI, hQ, hO, hS⟩ := R
 have ne_bw_be := hS.ne_bw_be
 have ne_bw_bh := hS.ne_bw_bh
 have ne_bw_bi := hS.ne_bw_bi
 have ne_bw_ig := hS.ne_bw_ig
 have ne_be_bh := hS.ne_be_bh
 have ne_be_bi := hS.ne_be_bi
 have ne_be_ig := hS.ne_be_ig
 have ne_bh_bi := hS.ne_bh_bi
 have ne_bh_ig := hS.ne_bh_ig
 have ne_bi_ig := hS.ne_bi_ig
 have ap_Q_bw := hS.ap_Q_bw
 have ap_Q_be := hS.ap_Q_be
 have ap_Q_bh := hS.ap_Q_bh
 have ap_Q_bi := hS.ap_Q_bi
 have ap_Q_ig := hS.ap_Q_ig
 have ap_A_bw := hS.ap_A_bw
 have ap_A_be := hS.ap_A_be
 have ap_A_bh := hS.ap_A_bh
 have ap_A_bi := hS.ap_A_bi
 have ap_A_ig := hS.ap_A_ig
 have ap2_Q_A := hS.ap2_Q_A
 have gA_A : ∀ g, inA A g → (g = bw ∨ g = be ∨ g = ig ∨ inA A g ∨ inA Q g) ∨ w.heap.size ≤ g := fun g hg => .inl (.inr (.inr (.inr (.inl hg))))
 have hmn := m.hn
 have gA_Q : ∀ g, inA Q g → (g = bw ∨ g = be ∨ g = ig ∨ inA A g ∨ inA Q g) ∨ w.heap.size ≤ g := fun g hg => .inl (.inr (.inr (.inr (.inr hg))))
 have hF := Only.refl (fun k => k = bw ∨ k = be ∨ k = ig ∨ inA A k ∨ inA Q k) w
 refine Zen 104 Try.func89 ?_
 refine Zsr ?_
 refine Znb (cs := msgE.arr m) fun b1 w2 hN3 B4 hb5 => ?_
 have ne_be_b1 : NE be b1 := NE.mk (Nat.lt_of_lt_of_le hE.lt hb5)
 have ne_ig_b1 : NE ig b1 := NE.mk (Nat.lt_of_lt_of_le hI.lt.2 hb5)
 refine Znn ?_
 refine Zsq ?_
 refine Zhd (n := 30) (fun w => Blk w bw 176 #[.slice A out.length ac, .pointer (some ⟨be, 0, none⟩), .pointer (some ⟨bh, 0, none⟩), .int .u32 m.line] ∧ Blk w be 147 (entA (Ent.mk o sh true asks kind waits told q) (.slice Q q.length qc)) ∧ Blk w b1 35 (msgE.arr m) ∧ True) ?_
 intro w6 hN7
 replace hW := (hW.new hN3).new hN7
 replace hE := (hE.new hN3).new hN7
 replace B4 := B4.new hN7
 have hS9 := And.intro hW (And.intro hE (And.intro B4 trivial))
 refine Zhm 0 hS9 ?_
 refine Zhc 1 hS9 ?_
 refine Zhf 2 fo176_1 hS9 ?_
 refine Zhl 3 pl144 hS9 (fun _ ⟨hW, _⟩ => (hW.cell 1 rfl)) ?_
 refine Zhc 4 hS9 ?_
 refine Zhf 5 fo147_2 hS9 ?_
 refine Zhl (v := .bool true) 6 pl4 hS9 (fun _ ⟨_, hE, _⟩ => (hE.cell 5 rfl)) ?_
 refine Zhm 7 hS9 ?_
 refine Zhm 8 hS9 ?_
 refine Zhc 9 hS9 ?_
 refine Zhf 10 fo176_1 hS9 ?_
 refine Zhl 11 pl144 hS9 (fun _ ⟨hW, _⟩ => (hW.cell 1 rfl)) ?_
 refine Zhc 12 hS9 ?_
 refine Zhf 13 fo147_5 hS9 ?_
 refine Zhl (v := .int .i64 waits) 14 pl3 hS9 (fun _ ⟨_, hE, _⟩ => (hE.cell 8 rfl)) ?_
 refine Zht 15 rfl (.bool true) hS9 (fun _ fr _ _ => x_gtr rfl (fr.ev rfl) rfl (decide_eq_true hw)) ?_
 refine Zht 16 rfl (.bool true) hS9 (fun _ fr _ _ => x_pick_t rfl (fr.ev rfl) (fr.ev rfl)) ?_
 refine Zhm 17 hS9 ?_
 refine Zhm 18 hS9 ?_
 refine Zhc 19 hS9 ?_
 refine Zhf 20 fo176_1 hS9 ?_
 refine Zhl 21 pl144 hS9 (fun _ ⟨hW, _⟩ => (hW.cell 1 rfl)) ?_
 refine Zhc 22 hS9 ?_
 refine Zhf 23 fo147_0 hS9 ?_
 refine Zhl (v := .int .i64 o) 24 pl3 hS9 (fun _ ⟨_, hE, _⟩ => (hE.cell 0 rfl)) ?_
 refine Zhf 25 fo35_1 hS9 ?_
 refine Zhl (v := .int .i64 m.src) 26 pl3 hS9 (fun _ ⟨_, _, B4, _⟩ => (B4.cell 1 rfl)) ?_
 refine Zht 27 rfl (.bool true) hS9 (fun _ fr _ _ => x_eql rfl (fr.ev rfl) (fr.ev rfl) (decide_eq_true ho)) ?_
 refine Zht 28 rfl (.bool true) hS9 (fun _ fr _ _ => x_pick_t rfl (fr.ev rfl) (fr.ev rfl)) ?_
 refine Zh1 29 ?_
 refine Zk cf100 (hmust_ok 220 _) ?_
 rintro v w9 ⟨rfl, hw9⟩
 obtain rfl := hw9.symm
 refine Zhb ⟨hW, hE, B4, trivial⟩ ?_
 refine Zhn ?_
 refine Znx ?_
 refine Zsq ?_
 refine Zhd (n := 14) (fun w => Blk w bw 176 #[.slice A out.length ac, .pointer (some ⟨be, 0, none⟩), .pointer (some ⟨bh, 0, none⟩), .int .u32 m.line] ∧ Blk w bh 140 #[.pointer (some ⟨bi, 0, none⟩), .map (some r)] ∧ Blk w b1 35 (msgE.arr m) ∧ True) ?_
 intro w10 hN11
 replace hH := ((hH.new hN3).new hN7).new hN11
 replace hW := hW.new hN11
 replace B4 := B4.new hN11
 have hS9 := And.intro hW (And.intro hH (And.intro B4 trivial))
 refine Zhm 0 hS9 ?_
 refine Zhc 1 hS9 ?_
 refine Zhf 2 fo176_2 hS9 ?_
 refine Zhl 3 pl90 hS9 (fun _ ⟨hW, _⟩ => (hW.cell 2 rfl)) ?_
 refine Zhc 4 hS9 ?_
 refine Zhf 5 fo140_0 hS9 ?_
 refine Zhl 6 pl87 hS9 (fun _ ⟨_, hH, _⟩ => (hH.cell 0 rfl)) ?_
 refine Zhm 7 hS9 ?_
 refine Zhc 8 hS9 ?_
 refine Zhf 9 fo176_3 hS9 ?_
 refine Zhl (v := .int .u32 m.line) 10 pl32 hS9 (fun _ ⟨hW, _⟩ => (hW.cell 3 rfl)) ?_
 refine Zhf 11 fo35_4 hS9 ?_
 refine ZhE (p := m.bs) 12 bsE ag22 hS9 (fun _ ⟨_, _, B4, _⟩ => (B4.part (msg_bs _))) ?_
 refine Zh1 13 ?_
 replace hI := ((hI.new hN3).new hN7).new hN11
 refine Zk (args := #[.pointer (some ⟨bi, 0, none⟩), .int .u32 m.line, .agg (bsE.arr m.bs)]) cf101 (hset_c m.line m.bs (by omega) hI) ?_
 rintro v w13 ⟨rfl, hIn12, hN14⟩
 replace hI := hIn12
 clear hIn12
 replace hW := hW.only hN14 ne_bw_ig
 replace hH := hH.only hN14 ne_bh_ig
 replace B4 := B4.only hN14 ne_ig_b1.symm
 refine Zhb ⟨hW, hH, B4, trivial⟩ ?_
 refine Zhn ?_
 refine Znx ?_
 refine Zsr ?_
 refine Zm ?_
 refine Zn ?_
 refine Zf fo176_1 ?_
 refine Zd pl144 (hW.cell 1 rfl) ?_
 refine Zn ?_
 refine Zf fo147_5 ?_
 replace hE := (hE.new hN11).only hN14 ne_be_ig
 refine Zs1 (cs' := entA ({ (Ent.mk o sh true asks kind waits told q) with waits := 0 }) (.slice Q q.length qc)) sz3 hE (show 8 < 11 by decide) rfl fun w15 hO16 hBq => ?_
 replace hE := hBq
 clear hBq
 refine Znn ?_
 refine Zsq ?_
 refine Zsr ?_
 refine Zm ?_
 refine Zn ?_
 refine Zf fo176_1 ?_
 replace hW := hW.only hO16 ne_bw_be
 refine Zd pl144 (hW.cell 1 rfl) ?_
 refine Zn ?_
 refine Zf fo147_4 ?_
 refine Zd (v := .int .i64 kind) pl33 (hE.cell 7 rfl) ?_
 refine Zv _ (fun _ fr => x_eql rfl (fr.ev rfl) rfl rfl) ?_
 refine Znn ?_
 refine Zcd (fun hc17 => ?_) (fun hc17 => ?_)
 ·have hc17 := of_decide_eq_true hc17
  refine Zsr ?_
  refine Zm ?_
  replace hQ := ((((hQ.new hN3).new hN7).new hN11).only hN14 (Apart.ne1 ap_Q_ig)).only hO16 (Apart.ne1 ap_Q_be)
  replace hO := ((((hO.new hN3).new hN7).new hN11).only hN14 (Apart.ne1 ap_A_ig)).only hO16 (Apart.ne1 ap_A_be)
  replace hH := hH.only hO16 ne_be_bh.symm
  replace hI := hI.only hO16 ne_be_bi.symm ne_be_ig.symm
  refine Zk (args := #[.pointer (some ⟨bw, 0, none⟩)]) cf102 (hwrite_c ⟨hW, hE, hH, hI, hQ, hO, ⟨ne_bw_be, ne_bw_bh, ne_bw_bi, ne_bw_ig, ne_be_bh, ne_be_bi, ne_be_ig, ne_bh_bi, ne_bh_ig, ne_bi_ig, ap_Q_bw, ap_Q_be, ap_Q_bh, ap_Q_bi, ap_Q_ig, ap_A_bw, ap_A_be, ap_A_bh, ap_A_bi, ap_A_ig, ap2_Q_A⟩⟩ m.hn (by first | omega | (simp only [List.length_append, List.length_cons, List.length_nil, List.length_map, List.length_take]; omega))) ?_
  rintro v w23 ⟨rfl, A18, ac19, R20, mv21, hN24⟩
  replace hF := ((((hF.trNew hN3).trNew hN7).trNew hN11).loc hN14 (.inl (.inr (.inr (.inl rfl))))).loc hO16 (.inl (.inr (.inl rfl)))
  have gA_A18 := gA_moved hF mv21 gA_A
  clear hW hE hH hI hQ hO
  obtain ⟨hW, hE, hH, hI, hQ, O22, hS⟩ := R20
  have ap_A18_bw := hS.ap_A_bw
  have ap_A18_be := hS.ap_A_be
  have ap_A18_bh := hS.ap_A_bh
  have ap_A18_bi := hS.ap_A_bi
  have ap_A18_ig := hS.ap_A_ig
  have ap2_Q_A18 := hS.ap2_Q_A
  refine Znn ?_
  refine Zrt ?_
  refine Zr1 ?_
  refine Zre rfl [] trivial ?_
  rw [other_b2 hk (show ¬ kind = 1 by omega)]
  replace hF := hF.locS hN24 (fun i => (fun h => h.elim (fun e => by rw [e]; exact (.inl (.inl rfl))) (fun h => h.elim (fun e => by rw [e]; exact (.inl (.inr (.inl rfl)))) (fun h => h.elim (fun e => by rw [e]; exact (.inl (.inr (.inr (.inl rfl))))) (fun h => gA_A i h)))))
  exact ⟨_, rfl, rfl, Q, qc, A18, ac19, ⟨hW, hE, hH, hI, hQ, O22, ⟨ne_bw_be, ne_bw_bh, ne_bw_bi, ne_bw_ig, ne_be_bh, ne_be_bi, ne_be_ig, ne_bh_bi, ne_bh_ig, ne_bi_ig, ap_Q_bw, ap_Q_be, ap_Q_bh, ap_Q_bi, ap_Q_ig, ap_A18_bw, ap_A18_be, ap_A18_bh, ap_A18_bi, ap_A18_ig, ap2_Q_A18⟩⟩, hmv gA_A18 ap_A18_bw ap_A18_be ap_A18_ig, hmv gA_Q ap_Q_bw ap_Q_be ap_Q_ig, hF⟩
 ·have hc17 := of_decide_eq_false hc17
  refine Zsk ?_
  refine Znx ?_
  refine Zsr ?_
  refine Zm ?_
  refine Zk cf103 (own_c hW hE ne_bw_be (-1)) ?_
  rintro v w26 ⟨rfl, hEn25, hN27⟩
  replace hE := hEn25
  clear hEn25
  refine Znn ?_
  refine Zsq ?_
  refine Zhd (n := 25) (fun w => Blk w bw 176 #[.slice A out.length ac, .pointer (some ⟨be, 0, none⟩), .pointer (some ⟨bh, 0, none⟩), .int .u32 m.line] ∧ Blk w b1 35 (msgE.arr m) ∧ True) ?_
  intro w28 hN29
  replace B4 := ((B4.only hO16 ne_be_b1.symm).only hN27 ne_be_b1.symm).new hN29
  replace hW := (hW.only hN27 ne_bw_be).new hN29
  have hS9 := And.intro hW (And.intro B4 trivial)
  refine Zhm 0 hS9 ?_
  refine Zhc 1 hS9 ?_
  refine Zhf 2 fo176_1 hS9 ?_
  refine Zhl 3 pl144 hS9 (fun _ ⟨hW, _⟩ => (hW.cell 1 rfl)) ?_
  refine Zhf 4 fo35_1 hS9 ?_
  refine Zhl (v := .int .i64 m.src) 5 pl3 hS9 (fun _ ⟨_, B4, _⟩ => (B4.cell 1 rfl)) ?_
  refine Zhm 6 hS9 ?_
  refine Zhc 7 hS9 ?_
  refine Zhf 8 fo176_1 hS9 ?_
  refine Zhl 9 pl144 hS9 (fun _ ⟨hW, _⟩ => (hW.cell 1 rfl)) ?_
  refine Zhm 10 hS9 ?_
  refine Zhc 11 hS9 ?_
  refine Zhf 12 fo176_1 hS9 ?_
  refine Zhl 13 pl144 hS9 (fun _ ⟨hW, _⟩ => (hW.cell 1 rfl)) ?_
  refine Zhc 14 hS9 ?_
  refine Zhf 15 fo147_3 hS9 ?_
  refine Zhc 17 hS9 ?_
  refine Zhf 18 fo147_1 hS9 ?_
  refine Zhc 21 hS9 ?_
  refine Zhf 22 fo147_1 hS9 ?_
  refine Zh1 16 ?_
  replace hE := hE.new hN29
  refine Zd (v := .int .i64 asks) pl3 (hE.cell 6 rfl) ?_
  refine Zhb ⟨hW, B4, trivial⟩ ?_
  have hS9 := And.intro hW (And.intro B4 trivial)
  refine Zht 19 rfl (.pointer (some ⟨be, 1 + m.src.toNat, none⟩)) hS9 (fun _ fr _ _ => x_indexArr Try.underlying145 sz4 rfl (fr.ev rfl) ((fr.ev rfl).trans (int_nat _ m.src (by omega))) (by omega) (by omega)) ?_
  refine Zh1 20 ?_
  refine Zs1 (cs' := entA ({ ownF ({ (Ent.mk o sh true asks kind waits told q) with waits := 0 }) (-1) with sh := sh0.set m.src true }) (.slice Q q.length qc)) sz4 hE (show 1 + m.src.toNat < 11 by omega) (ent_setSh _ _ m.src _ (by omega) (by omega)) fun w30 hO31 hBq => ?_
  replace hE := hBq
  clear hBq
  replace hW := hW.only hO31 ne_bw_be
  replace B4 := B4.only hO31 ne_be_b1.symm
  refine Zhb ⟨hW, B4, trivial⟩ ?_
  have hS9 := And.intro hW (And.intro B4 trivial)
  refine Zht 23 rfl (.pointer (some ⟨be, 1 + asks.toNat, none⟩)) hS9 (fun _ fr _ _ => x_indexArr Try.underlying145 sz4 rfl (fr.ev rfl) ((fr.ev rfl).trans (int_nat _ asks (by omega))) (by omega) (by omega)) ?_
  refine Zh1 24 ?_
  refine Zs1 (cs' := entA ({ { ownF ({ (Ent.mk o sh true asks kind waits told q) with waits := 0 }) (-1) with sh := sh0.set m.src true } with sh := (sh0.set m.src true).set asks true }) (.slice Q q.length qc)) sz4 hE (show 1 + asks.toNat < 11 by omega) (ent_setSh _ _ asks _ (by omega) (by omega)) fun w32 hO33 hBq => ?_
  replace hE := hBq
  clear hBq
  replace hW := hW.only hO33 ne_bw_be
  replace B4 := B4.only hO33 ne_be_b1.symm
  refine Zhb ⟨hW, B4, trivial⟩ ?_
  refine Zhn ?_
  refine Znx ?_
  refine Zsr ?_
  refine Zm ?_
  refine Zm ?_
  refine Zn ?_
  refine Zf fo176_1 ?_
  refine Zd pl144 (hW.cell 1 rfl) ?_
  refine Zn ?_
  refine Zf fo147_3 ?_
  refine Zd (v := .int .i64 asks) pl3 (hE.cell 6 rfl) ?_
  replace hO := ((((((((hO.new hN3).new hN7).new hN11).only hN14 (Apart.ne1 ap_A_ig)).only hO16 (Apart.ne1 ap_A_be)).only hN27 (Apart.ne1 ap_A_be)).new hN29).only hO31 (Apart.ne1 ap_A_be)).only hO33 (Apart.ne1 ap_A_be)
  replace hH := ((((hH.only hO16 ne_be_bh.symm).only hN27 ne_be_bh.symm).new hN29).only hO31 ne_be_bh.symm).only hO33 ne_be_bh.symm
  replace hI := ((((hI.only hO16 ne_be_bi.symm ne_be_ig.symm).only hN27 ne_be_bi.symm ne_be_ig.symm).new hN29).only hO31 ne_be_bi.symm ne_be_ig.symm).only hO33 ne_be_bi.symm ne_be_ig.symm
  refine Zk (args := #[.pointer (some ⟨bw, 0, none⟩), .int .i64 8, .int .i64 asks, .bool true]) cf104 (send_b m.hn hW hH hI hO ne_bw_bh ne_bw_bi ne_bw_ig ap_A_bw ap_A_bh ap_A_bi ap_A_ig (by first | omega | (simp only [List.length_append, List.length_cons, List.length_nil, List.length_map, List.length_take]; omega)) 8 asks) ?_
  rintro v w39 ⟨rfl, A34, ac35, hWn36, O37, mv38, hN40⟩
  have ap_A34_bw : Apart A34 bw := moved_apart mv38 ap_A_bw hW.lt
  have ap_A34_bh : Apart A34 bh := moved_apart mv38 ap_A_bh hH.lt
  replace hQ := ((((((((hQ.new hN3).new hN7).new hN11).only hN14 (Apart.ne1 ap_Q_ig)).only hO16 (Apart.ne1 ap_Q_be)).only hN27 (Apart.ne1 ap_Q_be)).new hN29).only hO31 (Apart.ne1 ap_Q_be)).only hO33 (Apart.ne1 ap_Q_be)
  have ap2_A34_Q : Apart2 A34 Q := moved_apart2 mv38 ap2_Q_A.symm fun _ hg => hQ.lt hg
  have ap_A34_bi : Apart A34 bi := moved_apart mv38 ap_A_bi hI.lt.1
  have ap_A34_ig : Apart A34 ig := moved_apart mv38 ap_A_ig hI.lt.2
  have ap_A34_be : Apart A34 be := moved_apart mv38 ap_A_be hE.lt
  replace hF := ((((((((hF.trNew hN3).trNew hN7).trNew hN11).loc hN14 (.inl (.inr (.inr (.inl rfl))))).loc hO16 (.inl (.inr (.inl rfl)))).loc hN27 (.inl (.inr (.inl rfl)))).trNew hN29).loc hO31 (.inl (.inr (.inl rfl)))).loc hO33 (.inl (.inr (.inl rfl)))
  have gA_A34 := gA_moved hF mv38 gA_A
  clear hW hO
  have hW := hWn36
  clear hWn36
  refine Znn ?_
  refine Zrg ?_
  refine Zm ?_
  refine Zn ?_
  refine Zf fo176_1 ?_
  refine Zd pl144 (hW.cell 1 rfl) ?_
  refine Zn ?_
  refine Zf fo147_6 ?_
  replace hE := hE.only hN40 (fun h => h.elim ne_bw_be.symm ap_A_be)
  refine Zs1 (cs' := entA ({ { { ownF ({ (Ent.mk o sh true asks kind waits told q) with waits := 0 }) (-1) with sh := sh0.set m.src true } with sh := (sh0.set m.src true).set asks true } with told := true }) (.slice Q q.length qc)) sz4 hE (show 9 < 11 by decide) rfl fun w41 hO42 hBq => ?_
  replace hE := hBq
  clear hBq
  refine Znl ?_
  refine Zee rfl [] trivial ?_
  rw [other_b1 hk (show kind = 1 by omega)]
  replace hH := (hH.only hN40 (fun h => h.elim ne_bw_bh.symm ap_A_bh)).only hO42 ne_be_bh.symm
  replace hQ := (hQ.only hN40 (fun g hg => (fun h => h.elim ((Apart.ne1 ap_Q_bw) g hg) ((fun g h1 h2 => ap2_Q_A g h1 h2) g hg)))).only hO42 (Apart.ne1 ap_Q_be)
  replace hI := (hI.only hN40 (fun h => h.elim ne_bw_bi.symm ap_A_bi) (fun h => h.elim ne_bw_ig.symm ap_A_ig)).only hO42 ne_be_bi.symm ne_be_ig.symm
  replace hF := (hF.loc2 hN40 (.inl (.inl rfl)) gA_A).loc hO42 (.inl (.inr (.inl rfl)))
  replace hW := hW.only hO42 ne_bw_be
  replace O37 := O37.only hO42 (Apart.ne1 ap_A34_be)
  exact ⟨_, rfl, rfl, Q, qc, A34, ac35, ⟨hW, hE, hH, hI, hQ, O37, ⟨ne_bw_be, ne_bw_bh, ne_bw_bi, ne_bw_ig, ne_be_bh, ne_be_bi, ne_be_ig, ne_bh_bi, ne_bh_ig, ne_bi_ig, ap_Q_bw, ap_Q_be, ap_Q_bh, ap_Q_bi, ap_Q_ig, ap_A34_bw, ap_A34_be, ap_A34_bh, ap_A34_bi, ap_A34_ig, ap2_A34_Q.symm⟩⟩, hmv gA_A34 ap_A34_bw ap_A34_be ap_A34_ig, hmv gA_Q ap_Q_bw ap_Q_be ap_Q_ig, hF⟩
theorem ack_ok {w : World} {bw be bh bi ig cap r : Nat} {o : Int} {sh : Sh} {asks : Int} {kind : Int} {waits : Int} {told : Bool} {q : List Msg} {Q : Option Addr} {qc : Nat} {A : Option Addr} {ac : Nat} {out : List Msg} {bs : List UInt8} (m : Msg) (R : WorkR w bw be bh bi ig cap r m.line (Ent.mk o sh true asks kind waits told q) Q qc A ac out bs) (hlen : out.length + 8 ≤ 1000000) (hsrc : 0 ≤ m.src ∧ m.src < 4) (hask : 0 ≤ asks ∧ asks < 4) (hk : m.kind = 12) (hw : 0 < waits ∧ waits ≤ 4) (ho : o < 0) (hg : sh.get m.src = true) (hne : m.src ≠ asks) : Calls Try.prog 90 #[.pointer (some ⟨bw, 0, none⟩), .agg (msgE.arr m)] w (Ret fun v w' => v = .tuple #[] ∧ HRet w w' bw be bh bi ig cap r m.line Q A out (otherF bs (Ent.mk o sh true asks kind waits told q) m)) := by
 obtain ⟨hW, hE, hH, hI, hQ, hO, hS⟩ := R
 have ne_bw_be := hS.ne_bw_be
 have ne_bw_bh := hS.ne_bw_bh
 have ne_bw_bi := hS.ne_bw_bi
 have ne_bw_ig := hS.ne_bw_ig
 have ne_be_bh := hS.ne_be_bh
 have ne_be_bi := hS.ne_be_bi
 have ne_be_ig := hS.ne_be_ig
 have ne_bh_bi := hS.ne_bh_bi
 have ne_bh_ig := hS.ne_bh_ig
 have ne_bi_ig := hS.ne_bi_ig
 have ap_Q_bw := hS.ap_Q_bw
 have ap_Q_be := hS.ap_Q_be
 have ap_Q_bh := hS.ap_Q_bh
 have ap_Q_bi := hS.ap_Q_bi
 have ap_Q_ig := hS.ap_Q_ig
 have ap_A_bw := hS.ap_A_bw
 have ap_A_be := hS.ap_A_be
 have ap_A_bh := hS.ap_A_bh
 have ap_A_bi := hS.ap_A_bi
 have ap_A_ig := hS.ap_A_ig
 have ap2_Q_A := hS.ap2_Q_A
 have gA_A : ∀ g, inA A g → (g = bw ∨ g = be ∨ g = ig ∨ inA A g ∨ inA Q g) ∨ w.heap.size ≤ g := fun g hg => .inl (.inr (.inr (.inr (.inl hg))))
 have hmn := m.hn
 have gA_Q : ∀ g, inA Q g → (g = bw ∨ g = be ∨ g = ig ∨ inA A g ∨ inA Q g) ∨ w.heap.size ≤ g := fun g hg => .inl (.inr (.inr (.inr (.inr hg))))
 have hF := Only.refl (fun k => k = bw ∨ k = be ∨ k = ig ∨ inA A k ∨ inA Q k) w
 refine Zen 85 Try.func90 ?_
 refine Zsr ?_
 refine Znb (cs := msgE.arr m) fun b1 w2 hN3 B4 hb5 => ?_
 have ne_be_b1 : NE be b1 := NE.mk (Nat.lt_of_lt_of_le hE.lt hb5)
 refine Znn ?_
 refine Zsq ?_
 refine Zhd (n := 52) (fun w => Blk w bw 176 #[.slice A out.length ac, .pointer (some ⟨be, 0, none⟩), .pointer (some ⟨bh, 0, none⟩), .int .u32 m.line] ∧ Blk w be 147 (entA (Ent.mk o sh true asks kind waits told q) (.slice Q q.length qc)) ∧ Blk w b1 35 (msgE.arr m) ∧ True) ?_
 intro w6 hN7
 replace hW := (hW.new hN3).new hN7
 replace hE := (hE.new hN3).new hN7
 replace B4 := B4.new hN7
 have hS9 := And.intro hW (And.intro hE (And.intro B4 trivial))
 refine Zhm 0 hS9 ?_
 refine Zhc 1 hS9 ?_
 refine Zhf 2 fo176_1 hS9 ?_
 refine Zhl 3 pl144 hS9 (fun _ ⟨hW, _⟩ => (hW.cell 1 rfl)) ?_
 refine Zhc 4 hS9 ?_
 refine Zhf 5 fo147_2 hS9 ?_
 refine Zhl (v := .bool true) 6 pl4 hS9 (fun _ ⟨_, hE, _⟩ => (hE.cell 5 rfl)) ?_
 refine Zhm 7 hS9 ?_
 refine Zhm 8 hS9 ?_
 refine Zhc 9 hS9 ?_
 refine Zhf 10 fo176_1 hS9 ?_
 refine Zhl 11 pl144 hS9 (fun _ ⟨hW, _⟩ => (hW.cell 1 rfl)) ?_
 refine Zhc 12 hS9 ?_
 refine Zhf 13 fo147_5 hS9 ?_
 refine Zhl (v := .int .i64 waits) 14 pl3 hS9 (fun _ ⟨_, hE, _⟩ => (hE.cell 8 rfl)) ?_
 refine Zht 15 rfl (.bool true) hS9 (fun _ fr _ _ => x_gtr rfl (fr.ev rfl) rfl (decide_eq_true hw.1)) ?_
 refine Zht 16 rfl (.bool true) hS9 (fun _ fr _ _ => x_pick_t rfl (fr.ev rfl) (fr.ev rfl)) ?_
 refine Zhm 17 hS9 ?_
 refine Zhm 18 hS9 ?_
 refine Zhc 19 hS9 ?_
 refine Zhf 20 fo176_1 hS9 ?_
 refine Zhl 21 pl144 hS9 (fun _ ⟨hW, _⟩ => (hW.cell 1 rfl)) ?_
 refine Zhc 22 hS9 ?_
 refine Zhf 23 fo147_0 hS9 ?_
 refine Zhl (v := .int .i64 o) 24 pl3 hS9 (fun _ ⟨_, hE, _⟩ => (hE.cell 0 rfl)) ?_
 refine Zht 25 rfl (.bool true) hS9 (fun _ fr _ _ => x_lss rfl (fr.ev rfl) rfl (decide_eq_true ho)) ?_
 refine Zht 26 rfl (.bool true) hS9 (fun _ fr _ _ => x_pick_t rfl (fr.ev rfl) (fr.ev rfl)) ?_
 refine Zhm 27 hS9 ?_
 refine Zhm 28 hS9 ?_
 refine Zhc 29 hS9 ?_
 refine Zhf 30 fo176_1 hS9 ?_
 refine Zhl 31 pl144 hS9 (fun _ ⟨hW, _⟩ => (hW.cell 1 rfl)) ?_
 refine Zhf 32 fo35_1 hS9 ?_
 refine Zhl (v := .int .i64 m.src) 33 pl3 hS9 (fun _ ⟨_, _, B4, _⟩ => (B4.cell 1 rfl)) ?_
 refine Zhc 34 hS9 ?_
 refine Zhf 35 fo147_1 hS9 ?_
 refine Zht 36 rfl (.pointer (some ⟨be, 1 + m.src.toNat, none⟩)) hS9 (fun _ fr _ _ => x_indexArr Try.underlying145 sz4 rfl (fr.ev rfl) ((fr.ev rfl).trans (int_nat _ m.src (by omega))) (by omega) (by omega)) ?_
 refine Zhl (v := .bool true) 37 pl4 hS9 (fun _ ⟨_, hE, _⟩ => ((hE.cell _ (ent_sh _ _ m.src (by omega) (by omega))).trans (by rw [hg]))) ?_
 refine Zht 38 rfl (.bool true) hS9 (fun _ fr _ _ => x_pick_t rfl (fr.ev rfl) (fr.ev rfl)) ?_
 refine Zhm 39 hS9 ?_
 refine Zhf 40 fo35_1 hS9 ?_
 refine Zhl (v := .int .i64 m.src) 41 pl3 hS9 (fun _ ⟨_, _, B4, _⟩ => (B4.cell 1 rfl)) ?_
 refine Zhm 42 hS9 ?_
 refine Zhc 43 hS9 ?_
 refine Zhf 44 fo176_1 hS9 ?_
 refine Zhl 45 pl144 hS9 (fun _ ⟨hW, _⟩ => (hW.cell 1 rfl)) ?_
 refine Zhc 46 hS9 ?_
 refine Zhf 47 fo147_3 hS9 ?_
 refine Zhl (v := .int .i64 asks) 48 pl3 hS9 (fun _ ⟨_, hE, _⟩ => (hE.cell 6 rfl)) ?_
 refine Zht 49 rfl (.bool true) hS9 (fun _ fr _ _ => x_neq rfl (fr.ev rfl) (fr.ev rfl) (decide_eq_true hne)) ?_
 refine Zht 50 rfl (.bool true) hS9 (fun _ fr _ _ => x_pick_t rfl (fr.ev rfl) (fr.ev rfl)) ?_
 refine Zh1 51 ?_
 refine Zk cf100 (hmust_ok 220 _) ?_
 rintro v w9 ⟨rfl, hw9⟩
 obtain rfl := hw9.symm
 refine Zhb ⟨hW, hE, B4, trivial⟩ ?_
 refine Zhn ?_
 refine Znx ?_
 refine Zsq ?_
 refine Zhd (n := 10) (fun w => Blk w bw 176 #[.slice A out.length ac, .pointer (some ⟨be, 0, none⟩), .pointer (some ⟨bh, 0, none⟩), .int .u32 m.line] ∧ Blk w b1 35 (msgE.arr m) ∧ True) ?_
 intro w10 hN11
 replace hW := hW.new hN11
 replace B4 := B4.new hN11
 have hS9 := And.intro hW (And.intro B4 trivial)
 refine Zhm 0 hS9 ?_
 refine Zhc 1 hS9 ?_
 refine Zhf 2 fo176_1 hS9 ?_
 refine Zhl 3 pl144 hS9 (fun _ ⟨hW, _⟩ => (hW.cell 1 rfl)) ?_
 refine Zhf 4 fo35_1 hS9 ?_
 refine Zhl (v := .int .i64 m.src) 5 pl3 hS9 (fun _ ⟨_, B4, _⟩ => (B4.cell 1 rfl)) ?_
 refine Zhc 6 hS9 ?_
 refine Zhf 7 fo147_1 hS9 ?_
 refine Zht 8 rfl (.pointer (some ⟨be, 1 + m.src.toNat, none⟩)) hS9 (fun _ fr _ _ => x_indexArr Try.underlying145 sz4 rfl (fr.ev rfl) ((fr.ev rfl).trans (int_nat _ m.src (by omega))) (by omega) (by omega)) ?_
 refine Zh1 9 ?_
 replace hE := hE.new hN11
 refine Zs1 (cs' := entA ({ (Ent.mk o sh true asks kind waits told q) with sh := sh.set m.src false }) (.slice Q q.length qc)) sz4 hE (show 1 + m.src.toNat < 11 by omega) (ent_setSh _ _ m.src _ (by omega) (by omega)) fun w12 hO13 hBq => ?_
 replace hE := hBq
 clear hBq
 replace hW := hW.only hO13 ne_bw_be
 replace B4 := B4.only hO13 ne_be_b1.symm
 refine Zhb ⟨hW, B4, trivial⟩ ?_
 refine Zhn ?_
 refine Znx ?_
 refine Zsr ?_
 refine Zm ?_
 refine Zn ?_
 refine Zf fo176_1 ?_
 refine Zd pl144 (hW.cell 1 rfl) ?_
 refine Zn ?_
 refine Zf fo147_5 ?_
 refine Zd (v := .int .i64 waits) pl3 (hE.cell 8 rfl) ?_
 refine Zv _ (fun _ fr => x_sub rfl (fr.ev rfl) rfl (i64w (r := waits - 1) (by omega) (by omega))) ?_
 refine Zn ?_
 refine Zf fo147_5 ?_
 refine Zs1 (cs' := entA ({ { (Ent.mk o sh true asks kind waits told q) with sh := sh.set m.src false } with waits := waits - 1 }) (.slice Q q.length qc)) sz3 hE (show 8 < 11 by decide) rfl fun w14 hO15 hBq => ?_
 replace hE := hBq
 clear hBq
 refine Znn ?_
 refine Zsr ?_
 refine Zm ?_
 refine Zn ?_
 refine Zf fo176_1 ?_
 replace hW := hW.only hO15 ne_bw_be
 refine Zd pl144 (hW.cell 1 rfl) ?_
 refine Zn ?_
 refine Zf fo147_5 ?_
 refine Zd (v := .int .i64 (waits - 1)) pl3 (hE.cell 8 rfl) ?_
 refine Zv _ (fun _ fr => x_eql rfl (fr.ev rfl) rfl rfl) ?_
 refine Znn ?_
 refine Zcd (fun hc16 => ?_) (fun hc16 => ?_)
 ·have hc16 := of_decide_eq_true hc16
  refine Zrg ?_
  refine Zm ?_
  replace hH := ((((hH.new hN3).new hN7).new hN11).only hO13 ne_be_bh.symm).only hO15 ne_be_bh.symm
  replace hI := ((((hI.new hN3).new hN7).new hN11).only hO13 ne_be_bi.symm ne_be_ig.symm).only hO15 ne_be_bi.symm ne_be_ig.symm
  replace hQ := ((((hQ.new hN3).new hN7).new hN11).only hO13 (Apart.ne1 ap_Q_be)).only hO15 (Apart.ne1 ap_Q_be)
  replace hO := ((((hO.new hN3).new hN7).new hN11).only hO13 (Apart.ne1 ap_A_be)).only hO15 (Apart.ne1 ap_A_be)
  refine Zk (args := #[.pointer (some ⟨bw, 0, none⟩)]) cf102 (hwrite_c ⟨hW, hE, hH, hI, hQ, hO, ⟨ne_bw_be, ne_bw_bh, ne_bw_bi, ne_bw_ig, ne_be_bh, ne_be_bi, ne_be_ig, ne_bh_bi, ne_bh_ig, ne_bi_ig, ap_Q_bw, ap_Q_be, ap_Q_bh, ap_Q_bi, ap_Q_ig, ap_A_bw, ap_A_be, ap_A_bh, ap_A_bi, ap_A_ig, ap2_Q_A⟩⟩ m.hn (by first | omega | (simp only [List.length_append, List.length_cons, List.length_nil, List.length_map, List.length_take]; omega))) ?_
  rintro v w22 ⟨rfl, A17, ac18, R19, mv20, hN23⟩
  replace hF := ((((hF.trNew hN3).trNew hN7).trNew hN11).loc hO13 (.inl (.inr (.inl rfl)))).loc hO15 (.inl (.inr (.inl rfl)))
  have gA_A17 := gA_moved hF mv20 gA_A
  clear hW hE hH hI hQ hO
  obtain ⟨hW, hE, hH, hI, hQ, O21, hS⟩ := R19
  have ap_A17_bw := hS.ap_A_bw
  have ap_A17_be := hS.ap_A_be
  have ap_A17_bh := hS.ap_A_bh
  have ap_A17_bi := hS.ap_A_bi
  have ap_A17_ig := hS.ap_A_ig
  have ap2_Q_A17 := hS.ap2_Q_A
  refine Znl ?_
  refine Zee rfl [] trivial ?_
  rw [other_a1 hk (show waits = 1 by omega)]
  rw [show waits - 1 = 0 from hc16] at hE
  replace hF := hF.locS hN23 (fun i => (fun h => h.elim (fun e => by rw [e]; exact (.inl (.inl rfl))) (fun h => h.elim (fun e => by rw [e]; exact (.inl (.inr (.inl rfl)))) (fun h => h.elim (fun e => by rw [e]; exact (.inl (.inr (.inr (.inl rfl))))) (fun h => gA_A i h)))))
  exact ⟨_, rfl, rfl, Q, qc, A17, ac18, ⟨hW, hE, hH, hI, hQ, O21, ⟨ne_bw_be, ne_bw_bh, ne_bw_bi, ne_bw_ig, ne_be_bh, ne_be_bi, ne_be_ig, ne_bh_bi, ne_bh_ig, ne_bi_ig, ap_Q_bw, ap_Q_be, ap_Q_bh, ap_Q_bi, ap_Q_ig, ap_A17_bw, ap_A17_be, ap_A17_bh, ap_A17_bi, ap_A17_ig, ap2_Q_A17⟩⟩, hmv gA_A17 ap_A17_bw ap_A17_be ap_A17_ig, hmv gA_Q ap_Q_bw ap_Q_be ap_Q_ig, hF⟩
 ·have hc16 := of_decide_eq_false hc16
  refine Zsk ?_
  refine Zee rfl [] trivial ?_
  rw [other_a2 hk (show ¬ waits = 1 by omega)]
  refine ⟨_, rfl, rfl, ?_⟩
  unfold HRet
  rw [List.append_nil]
  replace hH := ((((hH.new hN3).new hN7).new hN11).only hO13 ne_be_bh.symm).only hO15 ne_be_bh.symm
  replace hI := ((((hI.new hN3).new hN7).new hN11).only hO13 ne_be_bi.symm ne_be_ig.symm).only hO15 ne_be_bi.symm ne_be_ig.symm
  replace hQ := ((((hQ.new hN3).new hN7).new hN11).only hO13 (Apart.ne1 ap_Q_be)).only hO15 (Apart.ne1 ap_Q_be)
  replace hO := ((((hO.new hN3).new hN7).new hN11).only hO13 (Apart.ne1 ap_A_be)).only hO15 (Apart.ne1 ap_A_be)
  replace hF := ((((hF.trNew hN3).trNew hN7).trNew hN11).loc hO13 (.inl (.inr (.inl rfl)))).loc hO15 (.inl (.inr (.inl rfl)))
  exact ⟨Q, qc, A, ac, ⟨hW, hE, hH, hI, hQ, hO, ⟨ne_bw_be, ne_bw_bh, ne_bw_bi, ne_bw_ig, ne_be_bh, ne_be_bi, ne_be_ig, ne_bh_bi, ne_bh_ig, ne_bi_ig, ap_Q_bw, ap_Q_be, ap_Q_bh, ap_Q_bi, ap_Q_ig, ap_A_bw, ap_A_be, ap_A_bh, ap_A_bi, ap_A_ig, ap2_Q_A⟩⟩, hmv gA_A ap_A_bw ap_A_be ap_A_ig, hmv gA_Q ap_Q_bw ap_Q_be ap_Q_ig, hF⟩
theorem back_no {w : World} {bw be bh bi ig cap r : Nat} {d : Ent} {Q : Option Addr} {qc : Nat} {A : Option Addr} {ac : Nat} {out : List Msg} {bs : List UInt8} (m : Msg) (R : WorkR w bw be bh bi ig cap r m.line d Q qc A ac out bs) (hlen : out.length + 8 ≤ 1000000) (hsrc : 0 ≤ m.src ∧ m.src < 4) (hk : m.kind = 11) (hs : strayF d m = true) : Calls Try.prog 89 #[.pointer (some ⟨bw, 0, none⟩), .agg (msgE.arr m)] w (Pan fun c w' => c = hstopE 220 ∧ New w w') := by
 obtain ⟨hW, hE, hH, hI, hQ, hO, hS⟩ := R
 have hmn := m.hn
 have hF := Only.refl (fun _ => False) w
 refine Zen 104 Try.func89 ?_
 refine Zsr ?_
 refine Znb (cs := msgE.arr m) fun b1 w2 hN3 B4 hb5 => ?_
 refine Znn ?_
 refine Zsq ?_
 refine Zhd (n := 30) (fun w => Blk w bw 176 #[.slice A out.length ac, .pointer (some ⟨be, 0, none⟩), .pointer (some ⟨bh, 0, none⟩), .int .u32 m.line] ∧ Blk w be 147 (entA d (.slice Q d.q.length qc)) ∧ Blk w b1 35 (msgE.arr m) ∧ True) ?_
 intro w6 hN7
 replace hW := (hW.new hN3).new hN7
 replace hE := (hE.new hN3).new hN7
 replace B4 := B4.new hN7
 have hS9 := And.intro hW (And.intro hE (And.intro B4 trivial))
 refine Zhm 0 hS9 ?_
 refine Zhc 1 hS9 ?_
 refine Zhf 2 fo176_1 hS9 ?_
 refine Zhl 3 pl144 hS9 (fun _ ⟨hW, _⟩ => (hW.cell 1 rfl)) ?_
 refine Zhc 4 hS9 ?_
 refine Zhf 5 fo147_2 hS9 ?_
 refine Zhl (v := .bool d.busy) 6 pl4 hS9 (fun _ ⟨_, hE, _⟩ => (hE.cell 5 rfl)) ?_
 refine Zhm 7 hS9 ?_
 refine Zhy 8 rfl d.busy (.pointer (some ⟨bw, 0, none⟩)) hS9 (fun _ fr _ _ _ => x_move rfl (fr.ev rfl)) ?_
 refine Zhy 9 rfl d.busy (.pointer (some ⟨bw, 0, none⟩)) hS9 (fun _ fr hg _ _ => x_nilCheck rfl ((fr.ev rfl).trans (onlyIf_t hg))) ?_
 refine Zhy 10 rfl d.busy (.pointer (some ⟨bw, 1, none⟩)) hS9 (fun _ fr hg _ _ => x_fieldAddr fo176_1 rfl ((fr.ev rfl).trans (onlyIf_t hg)) rfl) ?_
 refine Zhy 11 rfl d.busy (.pointer (some ⟨be, 0, none⟩)) hS9 (fun _ fr hg _ ⟨hW, _⟩ => x_load1 pl144 rfl ((fr.ev rfl).trans (onlyIf_t hg)) (hW.cell 1 rfl)) ?_
 refine Zhy 12 rfl d.busy (.pointer (some ⟨be, 0, none⟩)) hS9 (fun _ fr hg _ _ => x_nilCheck rfl ((fr.ev rfl).trans (onlyIf_t hg))) ?_
 refine Zhy 13 rfl d.busy (.pointer (some ⟨be, 8, none⟩)) hS9 (fun _ fr hg _ _ => x_fieldAddr fo147_5 rfl ((fr.ev rfl).trans (onlyIf_t hg)) rfl) ?_
 refine Zhy 14 rfl d.busy (.int .i64 d.waits) hS9 (fun _ fr hg _ ⟨_, hE, _⟩ => x_load1 pl3 rfl ((fr.ev rfl).trans (onlyIf_t hg)) (hE.cell 8 rfl)) ?_
 refine Zhy 15 rfl d.busy (.bool (decide (0 < d.waits))) hS9 (fun _ fr hg _ _ => x_gtr rfl ((fr.ev rfl).trans (onlyIf_t hg)) rfl rfl) ?_
 refine Zht 16 rfl (.bool (d.busy && (decide (0 < d.waits)))) hS9 (fun _ fr _ _ => x_pick_and rfl (fr.ev rfl) (fun hb => ((fr.ev rfl)).trans (onlyIf_t (by simp_all))) (fun _ => rfl) rfl) ?_
 refine Zhm 17 hS9 ?_
 refine Zhy 18 rfl (d.busy && (decide (0 < d.waits))) (.pointer (some ⟨bw, 0, none⟩)) hS9 (fun _ fr _ _ _ => x_move rfl (fr.ev rfl)) ?_
 refine Zhy 19 rfl (d.busy && (decide (0 < d.waits))) (.pointer (some ⟨bw, 0, none⟩)) hS9 (fun _ fr hg _ _ => x_nilCheck rfl ((fr.ev rfl).trans (onlyIf_t hg))) ?_
 refine Zhy 20 rfl (d.busy && (decide (0 < d.waits))) (.pointer (some ⟨bw, 1, none⟩)) hS9 (fun _ fr hg _ _ => x_fieldAddr fo176_1 rfl ((fr.ev rfl).trans (onlyIf_t hg)) rfl) ?_
 refine Zhy 21 rfl (d.busy && (decide (0 < d.waits))) (.pointer (some ⟨be, 0, none⟩)) hS9 (fun _ fr hg _ ⟨hW, _⟩ => x_load1 pl144 rfl ((fr.ev rfl).trans (onlyIf_t hg)) (hW.cell 1 rfl)) ?_
 refine Zhy 22 rfl (d.busy && (decide (0 < d.waits))) (.pointer (some ⟨be, 0, none⟩)) hS9 (fun _ fr hg _ _ => x_nilCheck rfl ((fr.ev rfl).trans (onlyIf_t hg))) ?_
 refine Zhy 23 rfl (d.busy && (decide (0 < d.waits))) (.pointer (some ⟨be, 0, none⟩)) hS9 (fun _ fr hg _ _ => x_fieldAddr fo147_0 rfl ((fr.ev rfl).trans (onlyIf_t hg)) rfl) ?_
 refine Zhy 24 rfl (d.busy && (decide (0 < d.waits))) (.int .i64 d.o) hS9 (fun _ fr hg _ ⟨_, hE, _⟩ => x_load1 pl3 rfl ((fr.ev rfl).trans (onlyIf_t hg)) (hE.cell 0 rfl)) ?_
 refine Zhy 25 rfl (d.busy && (decide (0 < d.waits))) (.pointer (some ⟨b1, 1, none⟩)) hS9 (fun _ fr _ _ _ => x_fieldAddr fo35_1 rfl (fr.ev rfl) rfl) ?_
 refine Zhy 26 rfl (d.busy && (decide (0 < d.waits))) (.int .i64 m.src) hS9 (fun _ fr hg _ ⟨_, _, B4, _⟩ => x_load1 pl3 rfl ((fr.ev rfl).trans (onlyIf_t hg)) (B4.cell 1 rfl)) ?_
 refine Zhy 27 rfl (d.busy && (decide (0 < d.waits))) (.bool (decide (d.o = m.src))) hS9 (fun _ fr hg _ _ => x_eql rfl ((fr.ev rfl).trans (onlyIf_t hg)) ((fr.ev rfl).trans (onlyIf_t hg)) rfl) ?_
 refine Zht 28 rfl (.bool ((d.busy && (decide (0 < d.waits))) && (decide (d.o = m.src)))) hS9 (fun _ fr _ _ => x_pick_and rfl (fr.ev rfl) (fun hb => ((fr.ev rfl)).trans (onlyIf_t (by simp_all))) (fun _ => rfl) rfl) ?_
 refine Zh1 29 ?_
 intro a fr
 refine fx_callp rfl (x_call (vs := [.bool ((d.busy && (decide (0 < d.waits))) && (decide (d.o = m.src))), .int .i64 220]) rfl rfl ⟨(fr.ev rfl), rfl, trivial⟩ Try.func100 nm100 rfl) (must_nob (back_nob hk hs) 220 _) ?_
 rintro _ _ ⟨rfl, rfl⟩
 refine Zhp ?_
 refine fx_pt ?_
 refine fx_pend fr ?_
 replace hF := (hF.trNew hN3).trNew hN7
 exact ⟨_, rfl, rfl, hF⟩
theorem ack_no {w : World} {bw be bh bi ig cap r : Nat} {d : Ent} {Q : Option Addr} {qc : Nat} {A : Option Addr} {ac : Nat} {out : List Msg} {bs : List UInt8} (m : Msg) (R : WorkR w bw be bh bi ig cap r m.line d Q qc A ac out bs) (hlen : out.length + 8 ≤ 1000000) (hsrc : 0 ≤ m.src ∧ m.src < 4) (hk : m.kind = 12) (hs : strayF d m = true) : Calls Try.prog 90 #[.pointer (some ⟨bw, 0, none⟩), .agg (msgE.arr m)] w (Pan fun c w' => c = hstopE 220 ∧ New w w') := by
 obtain ⟨hW, hE, hH, hI, hQ, hO, hS⟩ := R
 have hmn := m.hn
 have hF := Only.refl (fun _ => False) w
 refine Zen 85 Try.func90 ?_
 refine Zsr ?_
 refine Znb (cs := msgE.arr m) fun b1 w2 hN3 B4 hb5 => ?_
 refine Znn ?_
 refine Zsq ?_
 refine Zhd (n := 52) (fun w => Blk w bw 176 #[.slice A out.length ac, .pointer (some ⟨be, 0, none⟩), .pointer (some ⟨bh, 0, none⟩), .int .u32 m.line] ∧ Blk w be 147 (entA d (.slice Q d.q.length qc)) ∧ Blk w b1 35 (msgE.arr m) ∧ True) ?_
 intro w6 hN7
 replace hW := (hW.new hN3).new hN7
 replace hE := (hE.new hN3).new hN7
 replace B4 := B4.new hN7
 have hS9 := And.intro hW (And.intro hE (And.intro B4 trivial))
 refine Zhm 0 hS9 ?_
 refine Zhc 1 hS9 ?_
 refine Zhf 2 fo176_1 hS9 ?_
 refine Zhl 3 pl144 hS9 (fun _ ⟨hW, _⟩ => (hW.cell 1 rfl)) ?_
 refine Zhc 4 hS9 ?_
 refine Zhf 5 fo147_2 hS9 ?_
 refine Zhl (v := .bool d.busy) 6 pl4 hS9 (fun _ ⟨_, hE, _⟩ => (hE.cell 5 rfl)) ?_
 refine Zhm 7 hS9 ?_
 refine Zhy 8 rfl d.busy (.pointer (some ⟨bw, 0, none⟩)) hS9 (fun _ fr _ _ _ => x_move rfl (fr.ev rfl)) ?_
 refine Zhy 9 rfl d.busy (.pointer (some ⟨bw, 0, none⟩)) hS9 (fun _ fr hg _ _ => x_nilCheck rfl ((fr.ev rfl).trans (onlyIf_t hg))) ?_
 refine Zhy 10 rfl d.busy (.pointer (some ⟨bw, 1, none⟩)) hS9 (fun _ fr hg _ _ => x_fieldAddr fo176_1 rfl ((fr.ev rfl).trans (onlyIf_t hg)) rfl) ?_
 refine Zhy 11 rfl d.busy (.pointer (some ⟨be, 0, none⟩)) hS9 (fun _ fr hg _ ⟨hW, _⟩ => x_load1 pl144 rfl ((fr.ev rfl).trans (onlyIf_t hg)) (hW.cell 1 rfl)) ?_
 refine Zhy 12 rfl d.busy (.pointer (some ⟨be, 0, none⟩)) hS9 (fun _ fr hg _ _ => x_nilCheck rfl ((fr.ev rfl).trans (onlyIf_t hg))) ?_
 refine Zhy 13 rfl d.busy (.pointer (some ⟨be, 8, none⟩)) hS9 (fun _ fr hg _ _ => x_fieldAddr fo147_5 rfl ((fr.ev rfl).trans (onlyIf_t hg)) rfl) ?_
 refine Zhy 14 rfl d.busy (.int .i64 d.waits) hS9 (fun _ fr hg _ ⟨_, hE, _⟩ => x_load1 pl3 rfl ((fr.ev rfl).trans (onlyIf_t hg)) (hE.cell 8 rfl)) ?_
 refine Zhy 15 rfl d.busy (.bool (decide (0 < d.waits))) hS9 (fun _ fr hg _ _ => x_gtr rfl ((fr.ev rfl).trans (onlyIf_t hg)) rfl rfl) ?_
 refine Zht 16 rfl (.bool (d.busy && (decide (0 < d.waits)))) hS9 (fun _ fr _ _ => x_pick_and rfl (fr.ev rfl) (fun hb => ((fr.ev rfl)).trans (onlyIf_t (by simp_all))) (fun _ => rfl) rfl) ?_
 refine Zhm 17 hS9 ?_
 refine Zhy 18 rfl (d.busy && (decide (0 < d.waits))) (.pointer (some ⟨bw, 0, none⟩)) hS9 (fun _ fr _ _ _ => x_move rfl (fr.ev rfl)) ?_
 refine Zhy 19 rfl (d.busy && (decide (0 < d.waits))) (.pointer (some ⟨bw, 0, none⟩)) hS9 (fun _ fr hg _ _ => x_nilCheck rfl ((fr.ev rfl).trans (onlyIf_t hg))) ?_
 refine Zhy 20 rfl (d.busy && (decide (0 < d.waits))) (.pointer (some ⟨bw, 1, none⟩)) hS9 (fun _ fr hg _ _ => x_fieldAddr fo176_1 rfl ((fr.ev rfl).trans (onlyIf_t hg)) rfl) ?_
 refine Zhy 21 rfl (d.busy && (decide (0 < d.waits))) (.pointer (some ⟨be, 0, none⟩)) hS9 (fun _ fr hg _ ⟨hW, _⟩ => x_load1 pl144 rfl ((fr.ev rfl).trans (onlyIf_t hg)) (hW.cell 1 rfl)) ?_
 refine Zhy 22 rfl (d.busy && (decide (0 < d.waits))) (.pointer (some ⟨be, 0, none⟩)) hS9 (fun _ fr hg _ _ => x_nilCheck rfl ((fr.ev rfl).trans (onlyIf_t hg))) ?_
 refine Zhy 23 rfl (d.busy && (decide (0 < d.waits))) (.pointer (some ⟨be, 0, none⟩)) hS9 (fun _ fr hg _ _ => x_fieldAddr fo147_0 rfl ((fr.ev rfl).trans (onlyIf_t hg)) rfl) ?_
 refine Zhy 24 rfl (d.busy && (decide (0 < d.waits))) (.int .i64 d.o) hS9 (fun _ fr hg _ ⟨_, hE, _⟩ => x_load1 pl3 rfl ((fr.ev rfl).trans (onlyIf_t hg)) (hE.cell 0 rfl)) ?_
 refine Zhy 25 rfl (d.busy && (decide (0 < d.waits))) (.bool (decide (d.o < 0))) hS9 (fun _ fr hg _ _ => x_lss rfl ((fr.ev rfl).trans (onlyIf_t hg)) rfl rfl) ?_
 refine Zht 26 rfl (.bool ((d.busy && (decide (0 < d.waits))) && (decide (d.o < 0)))) hS9 (fun _ fr _ _ => x_pick_and rfl (fr.ev rfl) (fun hb => ((fr.ev rfl)).trans (onlyIf_t (by simp_all))) (fun _ => rfl) rfl) ?_
 refine Zhm 27 hS9 ?_
 refine Zhy 28 rfl ((d.busy && (decide (0 < d.waits))) && (decide (d.o < 0))) (.pointer (some ⟨bw, 0, none⟩)) hS9 (fun _ fr _ _ _ => x_move rfl (fr.ev rfl)) ?_
 refine Zhy 29 rfl ((d.busy && (decide (0 < d.waits))) && (decide (d.o < 0))) (.pointer (some ⟨bw, 0, none⟩)) hS9 (fun _ fr hg _ _ => x_nilCheck rfl ((fr.ev rfl).trans (onlyIf_t hg))) ?_
 refine Zhy 30 rfl ((d.busy && (decide (0 < d.waits))) && (decide (d.o < 0))) (.pointer (some ⟨bw, 1, none⟩)) hS9 (fun _ fr hg _ _ => x_fieldAddr fo176_1 rfl ((fr.ev rfl).trans (onlyIf_t hg)) rfl) ?_
 refine Zhy 31 rfl ((d.busy && (decide (0 < d.waits))) && (decide (d.o < 0))) (.pointer (some ⟨be, 0, none⟩)) hS9 (fun _ fr hg _ ⟨hW, _⟩ => x_load1 pl144 rfl ((fr.ev rfl).trans (onlyIf_t hg)) (hW.cell 1 rfl)) ?_
 refine Zhy 32 rfl ((d.busy && (decide (0 < d.waits))) && (decide (d.o < 0))) (.pointer (some ⟨b1, 1, none⟩)) hS9 (fun _ fr _ _ _ => x_fieldAddr fo35_1 rfl (fr.ev rfl) rfl) ?_
 refine Zhy 33 rfl ((d.busy && (decide (0 < d.waits))) && (decide (d.o < 0))) (.int .i64 m.src) hS9 (fun _ fr hg _ ⟨_, _, B4, _⟩ => x_load1 pl3 rfl ((fr.ev rfl).trans (onlyIf_t hg)) (B4.cell 1 rfl)) ?_
 refine Zhy 34 rfl ((d.busy && (decide (0 < d.waits))) && (decide (d.o < 0))) (.pointer (some ⟨be, 0, none⟩)) hS9 (fun _ fr hg _ _ => x_nilCheck rfl ((fr.ev rfl).trans (onlyIf_t hg))) ?_
 refine Zhy 35 rfl ((d.busy && (decide (0 < d.waits))) && (decide (d.o < 0))) (.pointer (some ⟨be, 1, none⟩)) hS9 (fun _ fr hg _ _ => x_fieldAddr fo147_1 rfl ((fr.ev rfl).trans (onlyIf_t hg)) rfl) ?_
 refine Zhy 36 rfl ((d.busy && (decide (0 < d.waits))) && (decide (d.o < 0))) (.pointer (some ⟨be, 1 + m.src.toNat, none⟩)) hS9 (fun _ fr hg _ _ => x_indexArr Try.underlying145 sz4 rfl ((fr.ev rfl).trans (onlyIf_t hg)) (((fr.ev rfl).trans (onlyIf_t hg)).trans (int_nat _ m.src (by omega))) (by omega) (by omega)) ?_
 refine Zhy 37 rfl ((d.busy && (decide (0 < d.waits))) && (decide (d.o < 0))) (.bool (d.sh.get m.src)) hS9 (fun _ fr hg _ ⟨_, hE, _⟩ => x_load1 pl4 rfl ((fr.ev rfl).trans (onlyIf_t hg)) (hE.cell _ (ent_sh _ _ m.src (by omega) (by omega)))) ?_
 refine Zht 38 rfl (.bool (((d.busy && (decide (0 < d.waits))) && (decide (d.o < 0))) && (d.sh.get m.src))) hS9 (fun _ fr _ _ => x_pick_and rfl (fr.ev rfl) (fun hb => ((fr.ev rfl)).trans (onlyIf_t (by simp_all))) (fun _ => rfl) rfl) ?_
 refine Zhm 39 hS9 ?_
 refine Zhy 40 rfl (((d.busy && (decide (0 < d.waits))) && (decide (d.o < 0))) && (d.sh.get m.src)) (.pointer (some ⟨b1, 1, none⟩)) hS9 (fun _ fr _ _ _ => x_fieldAddr fo35_1 rfl (fr.ev rfl) rfl) ?_
 refine Zhy 41 rfl (((d.busy && (decide (0 < d.waits))) && (decide (d.o < 0))) && (d.sh.get m.src)) (.int .i64 m.src) hS9 (fun _ fr hg _ ⟨_, _, B4, _⟩ => x_load1 pl3 rfl ((fr.ev rfl).trans (onlyIf_t hg)) (B4.cell 1 rfl)) ?_
 refine Zhy 42 rfl (((d.busy && (decide (0 < d.waits))) && (decide (d.o < 0))) && (d.sh.get m.src)) (.pointer (some ⟨bw, 0, none⟩)) hS9 (fun _ fr _ _ _ => x_move rfl (fr.ev rfl)) ?_
 refine Zhy 43 rfl (((d.busy && (decide (0 < d.waits))) && (decide (d.o < 0))) && (d.sh.get m.src)) (.pointer (some ⟨bw, 0, none⟩)) hS9 (fun _ fr hg _ _ => x_nilCheck rfl ((fr.ev rfl).trans (onlyIf_t hg))) ?_
 refine Zhy 44 rfl (((d.busy && (decide (0 < d.waits))) && (decide (d.o < 0))) && (d.sh.get m.src)) (.pointer (some ⟨bw, 1, none⟩)) hS9 (fun _ fr hg _ _ => x_fieldAddr fo176_1 rfl ((fr.ev rfl).trans (onlyIf_t hg)) rfl) ?_
 refine Zhy 45 rfl (((d.busy && (decide (0 < d.waits))) && (decide (d.o < 0))) && (d.sh.get m.src)) (.pointer (some ⟨be, 0, none⟩)) hS9 (fun _ fr hg _ ⟨hW, _⟩ => x_load1 pl144 rfl ((fr.ev rfl).trans (onlyIf_t hg)) (hW.cell 1 rfl)) ?_
 refine Zhy 46 rfl (((d.busy && (decide (0 < d.waits))) && (decide (d.o < 0))) && (d.sh.get m.src)) (.pointer (some ⟨be, 0, none⟩)) hS9 (fun _ fr hg _ _ => x_nilCheck rfl ((fr.ev rfl).trans (onlyIf_t hg))) ?_
 refine Zhy 47 rfl (((d.busy && (decide (0 < d.waits))) && (decide (d.o < 0))) && (d.sh.get m.src)) (.pointer (some ⟨be, 6, none⟩)) hS9 (fun _ fr hg _ _ => x_fieldAddr fo147_3 rfl ((fr.ev rfl).trans (onlyIf_t hg)) rfl) ?_
 refine Zhy 48 rfl (((d.busy && (decide (0 < d.waits))) && (decide (d.o < 0))) && (d.sh.get m.src)) (.int .i64 d.asks) hS9 (fun _ fr hg _ ⟨_, hE, _⟩ => x_load1 pl3 rfl ((fr.ev rfl).trans (onlyIf_t hg)) (hE.cell 6 rfl)) ?_
 refine Zhy 49 rfl (((d.busy && (decide (0 < d.waits))) && (decide (d.o < 0))) && (d.sh.get m.src)) (.bool (decide (m.src ≠ d.asks))) hS9 (fun _ fr hg _ _ => x_neq rfl ((fr.ev rfl).trans (onlyIf_t hg)) ((fr.ev rfl).trans (onlyIf_t hg)) rfl) ?_
 refine Zht 50 rfl (.bool ((((d.busy && (decide (0 < d.waits))) && (decide (d.o < 0))) && (d.sh.get m.src)) && (decide (m.src ≠ d.asks)))) hS9 (fun _ fr _ _ => x_pick_and rfl (fr.ev rfl) (fun hb => ((fr.ev rfl)).trans (onlyIf_t (by simp_all))) (fun _ => rfl) rfl) ?_
 refine Zh1 51 ?_
 intro a fr
 refine fx_callp rfl (x_call (vs := [.bool ((((d.busy && (decide (0 < d.waits))) && (decide (d.o < 0))) && (d.sh.get m.src)) && (decide (m.src ≠ d.asks))), .int .i64 220]) rfl rfl ⟨(fr.ev rfl), rfl, trivial⟩ Try.func100 nm100 rfl) (must_nob (ack_nob hk hs) 220 _) ?_
 rintro _ _ ⟨rfl, rfl⟩
 refine Zhp ?_
 refine fx_pt ?_
 refine fx_pend fr ?_
 replace hF := (hF.trNew hN3).trNew hN7
 exact ⟨_, rfl, rfl, hF⟩
theorem done_no {w : World} {bw be bh bi ig cap r : Nat} {d : Ent} {Q : Option Addr} {qc : Nat} {A : Option Addr} {ac : Nat} {out : List Msg} {bs : List UInt8} (m : Msg) (R : WorkR w bw be bh bi ig cap r m.line d Q qc A ac out bs) (hlen : out.length + 8 ≤ 1000000) (hsrc : 0 ≤ m.src ∧ m.src < 4) (hk : m.kind = 13) (hs : strayF d m = true) : Calls Try.prog 91 #[.pointer (some ⟨bw, 0, none⟩), .agg (msgE.arr m)] w (Pan fun c w' => c = hstopE 220 ∧ New w w') := by
 obtain ⟨hW, hE, hH, hI, hQ, hO, hS⟩ := R
 have hmn := m.hn
 have hF := Only.refl (fun _ => False) w
 refine Zen 103 Try.func91 ?_
 refine Zsr ?_
 refine Znb (cs := msgE.arr m) fun b1 w2 hN3 B4 hb5 => ?_
 refine Znn ?_
 refine Zsq ?_
 refine Zhd (n := 29) (fun w => Blk w bw 176 #[.slice A out.length ac, .pointer (some ⟨be, 0, none⟩), .pointer (some ⟨bh, 0, none⟩), .int .u32 m.line] ∧ Blk w be 147 (entA d (.slice Q d.q.length qc)) ∧ Blk w b1 35 (msgE.arr m) ∧ True) ?_
 intro w6 hN7
 replace hW := (hW.new hN3).new hN7
 replace hE := (hE.new hN3).new hN7
 replace B4 := B4.new hN7
 have hS9 := And.intro hW (And.intro hE (And.intro B4 trivial))
 refine Zhm 0 hS9 ?_
 refine Zhc 1 hS9 ?_
 refine Zhf 2 fo176_1 hS9 ?_
 refine Zhl 3 pl144 hS9 (fun _ ⟨hW, _⟩ => (hW.cell 1 rfl)) ?_
 refine Zhc 4 hS9 ?_
 refine Zhf 5 fo147_2 hS9 ?_
 refine Zhl (v := .bool d.busy) 6 pl4 hS9 (fun _ ⟨_, hE, _⟩ => (hE.cell 5 rfl)) ?_
 refine Zhm 7 hS9 ?_
 refine Zhy 8 rfl d.busy (.pointer (some ⟨bw, 0, none⟩)) hS9 (fun _ fr _ _ _ => x_move rfl (fr.ev rfl)) ?_
 refine Zhy 9 rfl d.busy (.pointer (some ⟨bw, 0, none⟩)) hS9 (fun _ fr hg _ _ => x_nilCheck rfl ((fr.ev rfl).trans (onlyIf_t hg))) ?_
 refine Zhy 10 rfl d.busy (.pointer (some ⟨bw, 1, none⟩)) hS9 (fun _ fr hg _ _ => x_fieldAddr fo176_1 rfl ((fr.ev rfl).trans (onlyIf_t hg)) rfl) ?_
 refine Zhy 11 rfl d.busy (.pointer (some ⟨be, 0, none⟩)) hS9 (fun _ fr hg _ ⟨hW, _⟩ => x_load1 pl144 rfl ((fr.ev rfl).trans (onlyIf_t hg)) (hW.cell 1 rfl)) ?_
 refine Zhy 12 rfl d.busy (.pointer (some ⟨be, 0, none⟩)) hS9 (fun _ fr hg _ _ => x_nilCheck rfl ((fr.ev rfl).trans (onlyIf_t hg))) ?_
 refine Zhy 13 rfl d.busy (.pointer (some ⟨be, 9, none⟩)) hS9 (fun _ fr hg _ _ => x_fieldAddr fo147_6 rfl ((fr.ev rfl).trans (onlyIf_t hg)) rfl) ?_
 refine Zhy 14 rfl d.busy (.bool d.told) hS9 (fun _ fr hg _ ⟨_, hE, _⟩ => x_load1 pl4 rfl ((fr.ev rfl).trans (onlyIf_t hg)) (hE.cell 9 rfl)) ?_
 refine Zht 15 rfl (.bool (d.busy && d.told)) hS9 (fun _ fr _ _ => x_pick_and rfl (fr.ev rfl) (fun hb => ((fr.ev rfl)).trans (onlyIf_t (by simp_all))) (fun _ => rfl) rfl) ?_
 refine Zhm 16 hS9 ?_
 refine Zhy 17 rfl (d.busy && d.told) (.pointer (some ⟨bw, 0, none⟩)) hS9 (fun _ fr _ _ _ => x_move rfl (fr.ev rfl)) ?_
 refine Zhy 18 rfl (d.busy && d.told) (.pointer (some ⟨bw, 0, none⟩)) hS9 (fun _ fr hg _ _ => x_nilCheck rfl ((fr.ev rfl).trans (onlyIf_t hg))) ?_
 refine Zhy 19 rfl (d.busy && d.told) (.pointer (some ⟨bw, 1, none⟩)) hS9 (fun _ fr hg _ _ => x_fieldAddr fo176_1 rfl ((fr.ev rfl).trans (onlyIf_t hg)) rfl) ?_
 refine Zhy 20 rfl (d.busy && d.told) (.pointer (some ⟨be, 0, none⟩)) hS9 (fun _ fr hg _ ⟨hW, _⟩ => x_load1 pl144 rfl ((fr.ev rfl).trans (onlyIf_t hg)) (hW.cell 1 rfl)) ?_
 refine Zhy 21 rfl (d.busy && d.told) (.pointer (some ⟨be, 0, none⟩)) hS9 (fun _ fr hg _ _ => x_nilCheck rfl ((fr.ev rfl).trans (onlyIf_t hg))) ?_
 refine Zhy 22 rfl (d.busy && d.told) (.pointer (some ⟨be, 6, none⟩)) hS9 (fun _ fr hg _ _ => x_fieldAddr fo147_3 rfl ((fr.ev rfl).trans (onlyIf_t hg)) rfl) ?_
 refine Zhy 23 rfl (d.busy && d.told) (.int .i64 d.asks) hS9 (fun _ fr hg _ ⟨_, hE, _⟩ => x_load1 pl3 rfl ((fr.ev rfl).trans (onlyIf_t hg)) (hE.cell 6 rfl)) ?_
 refine Zhy 24 rfl (d.busy && d.told) (.pointer (some ⟨b1, 1, none⟩)) hS9 (fun _ fr _ _ _ => x_fieldAddr fo35_1 rfl (fr.ev rfl) rfl) ?_
 refine Zhy 25 rfl (d.busy && d.told) (.int .i64 m.src) hS9 (fun _ fr hg _ ⟨_, _, B4, _⟩ => x_load1 pl3 rfl ((fr.ev rfl).trans (onlyIf_t hg)) (B4.cell 1 rfl)) ?_
 refine Zhy 26 rfl (d.busy && d.told) (.bool (decide (d.asks = m.src))) hS9 (fun _ fr hg _ _ => x_eql rfl ((fr.ev rfl).trans (onlyIf_t hg)) ((fr.ev rfl).trans (onlyIf_t hg)) rfl) ?_
 refine Zht 27 rfl (.bool ((d.busy && d.told) && (decide (d.asks = m.src)))) hS9 (fun _ fr _ _ => x_pick_and rfl (fr.ev rfl) (fun hb => ((fr.ev rfl)).trans (onlyIf_t (by simp_all))) (fun _ => rfl) rfl) ?_
 refine Zh1 28 ?_
 intro a fr
 refine fx_callp rfl (x_call (vs := [.bool ((d.busy && d.told) && (decide (d.asks = m.src))), .int .i64 220]) rfl rfl ⟨(fr.ev rfl), rfl, trivial⟩ Try.func100 nm100 rfl) (must_nob (done_nob hk hs) 220 _) ?_
 rintro _ _ ⟨rfl, rfl⟩
 refine Zhp ?_
 refine fx_pt ?_
 refine fx_pend fr ?_
 replace hF := (hF.trNew hN3).trNew hN7
 exact ⟨_, rfl, rfl, hF⟩
end Go.Proofs.Ytflnlmibkbojcaa
namespace Go.Proofs.Ytflnlmibkbojcaa
open Go.RowKit
def QOk (n : Int) (x : Msg) : Prop := 1 ≤ x.kind ∧ x.kind ≤ 3 ∧ (0 ≤ x.src ∧ x.src < 4) ∧ x.line = n
theorem drain_stop {b : Bool} {l : List Msg} (h : (!b && decide (0 < ((l.length : Nat) : Int))) = false) : b = true ∨ l = [] := by
  cases b
  · right
    cases l with
    | nil => rfl
    | cons x r => simp at h
  · exact .inl rfl
theorem drain_go {b : Bool} {l : List Msg} (h : (!b && decide (0 < ((l.length : Nat) : Int))) = true) : b = false ∧ 0 < l.length := by
  cases b
  · simp at h
    exact ⟨rfl, by omega⟩
  · simp at h
theorem getD_in {l : List Msg} {i : Nat} (h : i < l.length) : l.getD i msg0 ∈ l := by
  simp [List.getD, h]
theorem begin_ql {bs : List UInt8} {d : Ent} {m x : Msg} (h : x ∈ (beginF bs { d with q := d.q.drop 1 } m).1.q) : x ∈ d.q := by
  rw [begin_q] at h
  exact List.mem_of_mem_drop h
theorem begin_qn {bs : List UInt8} {d : Ent} {m : Msg} : (beginF bs { d with q := d.q.drop 1 } m).1.q.length = d.q.length - 1 := by
  rw [begin_q]
  simp
theorem done_ok {w : World} {bw be bh bi ig cap r : Nat} {o : Int} {sh : Sh} {asks : Int} {kind : Int} {q : List Msg} {Q : Option Addr} {qc : Nat} {A : Option Addr} {ac : Nat} {out : List Msg} {bs : List UInt8} (m : Msg) (R : WorkR w bw be bh bi ig cap r m.line (Ent.mk o sh true asks kind 0 true q) Q qc A ac out bs) (hlen : out.length + 8 ≤ 1000000) (hsrc : 0 ≤ m.src ∧ m.src < 4) (hk : m.kind = 13) (ha : asks = m.src) (hq : ∀ x ∈ q, QOk m.line x) (hlen5 : out.length + 8 + 5 * q.length ≤ 1000000) : Calls Try.prog 91 #[.pointer (some ⟨bw, 0, none⟩), .agg (msgE.arr m)] w (Ret fun v w' => v = .tuple #[] ∧ HRet w w' bw be bh bi ig cap r m.line Q A out (otherF bs (Ent.mk o sh true asks kind 0 true q) m)) := by
 obtain ⟨hW, hE, hH, hI, hQ, hO, hS⟩ := R
 have ne_bw_be := hS.ne_bw_be
 have ne_bw_bh := hS.ne_bw_bh
 have ne_bw_bi := hS.ne_bw_bi
 have ne_bw_ig := hS.ne_bw_ig
 have ne_be_bh := hS.ne_be_bh
 have ne_be_bi := hS.ne_be_bi
 have ne_be_ig := hS.ne_be_ig
 have ne_bh_bi := hS.ne_bh_bi
 have ne_bh_ig := hS.ne_bh_ig
 have ne_bi_ig := hS.ne_bi_ig
 have ap_Q_bw := hS.ap_Q_bw
 have ap_Q_be := hS.ap_Q_be
 have ap_Q_bh := hS.ap_Q_bh
 have ap_Q_bi := hS.ap_Q_bi
 have ap_Q_ig := hS.ap_Q_ig
 have ap_A_bw := hS.ap_A_bw
 have ap_A_be := hS.ap_A_be
 have ap_A_bh := hS.ap_A_bh
 have ap_A_bi := hS.ap_A_bi
 have ap_A_ig := hS.ap_A_ig
 have ap2_Q_A := hS.ap2_Q_A
 have gA_A : ∀ g, inA A g → (g = bw ∨ g = be ∨ g = ig ∨ inA A g ∨ inA Q g) ∨ w.heap.size ≤ g := fun g hg => .inl (.inr (.inr (.inr (.inl hg))))
 have hmn := m.hn
 have gA_Q : ∀ g, inA Q g → (g = bw ∨ g = be ∨ g = ig ∨ inA A g ∨ inA Q g) ∨ w.heap.size ≤ g := fun g hg => .inl (.inr (.inr (.inr (.inr hg))))
 have hF := Only.refl (fun k => k = bw ∨ k = be ∨ k = ig ∨ inA A k ∨ inA Q k) w
 refine Zen 103 Try.func91 ?_
 refine Zsr ?_
 refine Znb (cs := msgE.arr m) fun b1 w2 hN3 B4 hb5 => ?_
 refine Znn ?_
 refine Zsq ?_
 refine Zhd (n := 29) (fun w => Blk w bw 176 #[.slice A out.length ac, .pointer (some ⟨be, 0, none⟩), .pointer (some ⟨bh, 0, none⟩), .int .u32 m.line] ∧ Blk w be 147 (entA (Ent.mk o sh true asks kind 0 true q) (.slice Q q.length qc)) ∧ Blk w b1 35 (msgE.arr m) ∧ True) ?_
 intro w6 hN7
 replace hW := (hW.new hN3).new hN7
 replace hE := (hE.new hN3).new hN7
 replace B4 := B4.new hN7
 have hS9 := And.intro hW (And.intro hE (And.intro B4 trivial))
 refine Zhm 0 hS9 ?_
 refine Zhc 1 hS9 ?_
 refine Zhf 2 fo176_1 hS9 ?_
 refine Zhl 3 pl144 hS9 (fun _ ⟨hW, _⟩ => (hW.cell 1 rfl)) ?_
 refine Zhc 4 hS9 ?_
 refine Zhf 5 fo147_2 hS9 ?_
 refine Zhl (v := .bool true) 6 pl4 hS9 (fun _ ⟨_, hE, _⟩ => (hE.cell 5 rfl)) ?_
 refine Zhm 7 hS9 ?_
 refine Zhm 8 hS9 ?_
 refine Zhc 9 hS9 ?_
 refine Zhf 10 fo176_1 hS9 ?_
 refine Zhl 11 pl144 hS9 (fun _ ⟨hW, _⟩ => (hW.cell 1 rfl)) ?_
 refine Zhc 12 hS9 ?_
 refine Zhf 13 fo147_6 hS9 ?_
 refine Zhl (v := .bool true) 14 pl4 hS9 (fun _ ⟨_, hE, _⟩ => (hE.cell 9 rfl)) ?_
 refine Zht 15 rfl (.bool true) hS9 (fun _ fr _ _ => x_pick_t rfl (fr.ev rfl) (fr.ev rfl)) ?_
 refine Zhm 16 hS9 ?_
 refine Zhm 17 hS9 ?_
 refine Zhc 18 hS9 ?_
 refine Zhf 19 fo176_1 hS9 ?_
 refine Zhl 20 pl144 hS9 (fun _ ⟨hW, _⟩ => (hW.cell 1 rfl)) ?_
 refine Zhc 21 hS9 ?_
 refine Zhf 22 fo147_3 hS9 ?_
 refine Zhl (v := .int .i64 asks) 23 pl3 hS9 (fun _ ⟨_, hE, _⟩ => (hE.cell 6 rfl)) ?_
 refine Zhf 24 fo35_1 hS9 ?_
 refine Zhl (v := .int .i64 m.src) 25 pl3 hS9 (fun _ ⟨_, _, B4, _⟩ => (B4.cell 1 rfl)) ?_
 refine Zht 26 rfl (.bool true) hS9 (fun _ fr _ _ => x_eql rfl (fr.ev rfl) (fr.ev rfl) (decide_eq_true ha)) ?_
 refine Zht 27 rfl (.bool true) hS9 (fun _ fr _ _ => x_pick_t rfl (fr.ev rfl) (fr.ev rfl)) ?_
 refine Zh1 28 ?_
 refine Zk cf100 (hmust_ok 220 _) ?_
 rintro v w9 ⟨rfl, hw9⟩
 obtain rfl := hw9.symm
 refine Zhb ⟨hW, hE, B4, trivial⟩ ?_
 refine Zhn ?_
 refine Znx ?_
 refine Zsq ?_
 refine ZhT (n := 25) 25 (fun w => Blk w bw 176 #[.slice A out.length ac, .pointer (some ⟨be, 0, none⟩), .pointer (some ⟨bh, 0, none⟩), .int .u32 m.line] ∧ True) ?_
 intro w10 hN11
 replace hW := hW.new hN11
 have hS9 := And.intro hW trivial
 refine Zhm 0 hS9 ?_
 refine Zhc 1 hS9 ?_
 refine Zhf 2 fo176_1 hS9 ?_
 refine Zhl 3 pl144 hS9 (fun _ ⟨hW, _⟩ => (hW.cell 1 rfl)) ?_
 refine Zhm 4 hS9 ?_
 refine Zhc 5 hS9 ?_
 refine Zhf 6 fo176_1 hS9 ?_
 refine Zhl 7 pl144 hS9 (fun _ ⟨hW, _⟩ => (hW.cell 1 rfl)) ?_
 refine Zhm 8 hS9 ?_
 refine Zhc 9 hS9 ?_
 refine Zhf 10 fo176_1 hS9 ?_
 refine Zhl 11 pl144 hS9 (fun _ ⟨hW, _⟩ => (hW.cell 1 rfl)) ?_
 refine Zhm 12 hS9 ?_
 refine Zhc 13 hS9 ?_
 refine Zhf 14 fo176_1 hS9 ?_
 refine Zhl 15 pl144 hS9 (fun _ ⟨hW, _⟩ => (hW.cell 1 rfl)) ?_
 refine Zhc 16 hS9 ?_
 refine Zhf 17 fo147_2 hS9 ?_
 refine Zh1 18 ?_
 replace hE := hE.new hN11
 refine Zs1 (cs' := entA ({ (Ent.mk o sh true asks kind 0 true q) with busy := false }) (.slice Q q.length qc)) sz4 hE (show 5 < 11 by decide) rfl fun w12 hO13 hBq => ?_
 replace hE := hBq
 clear hBq
 replace hW := hW.only hO13 ne_bw_be
 refine Zhb ⟨hW, trivial⟩ ?_
 have hS9 := And.intro hW trivial
 refine Zhc 19 hS9 ?_
 refine Zhf 20 fo147_3 hS9 ?_
 refine Zh1 21 ?_
 refine Zs1 (cs' := entA ({ { (Ent.mk o sh true asks kind 0 true q) with busy := false } with asks := 0 }) (.slice Q q.length qc)) sz3 hE (show 6 < 11 by decide) rfl fun w14 hO15 hBq => ?_
 replace hE := hBq
 clear hBq
 replace hW := hW.only hO15 ne_bw_be
 refine Zhb ⟨hW, trivial⟩ ?_
 have hS9 := And.intro hW trivial
 refine Zhc 22 hS9 ?_
 refine Zhf 23 fo147_4 hS9 ?_
 refine Zh1 24 ?_
 refine Zs1 (cs' := entA ({ { { (Ent.mk o sh true asks kind 0 true q) with busy := false } with asks := 0 } with kind := 0 }) (.slice Q q.length qc)) sz33 hE (show 7 < 11 by decide) rfl fun w16 hO17 hBq => ?_
 replace hE := hBq
 clear hBq
 replace hW := hW.only hO17 ne_bw_be
 refine Zhb ⟨hW, trivial⟩ ?_
 refine Zhn ?_
 refine Ztl ?_
 refine Zn ?_
 refine Zf fo147_6 ?_
 refine Zs1 (cs' := entA ({ { { { (Ent.mk o sh true asks kind 0 true q) with busy := false } with asks := 0 } with kind := 0 } with told := false }) (.slice Q q.length qc)) sz4 hE (show 9 < 11 by decide) rfl fun w18 hO19 hBq => ?_
 replace hE := hBq
 clear hBq
 refine Znn ?_
 refine Zbl ?_
 intro a fr
 replace hH := ((((((hH.new hN3).new hN7).new hN11).only hO13 ne_be_bh.symm).only hO15 ne_be_bh.symm).only hO17 ne_be_bh.symm).only hO19 ne_be_bh.symm
 replace hI := ((((((hI.new hN3).new hN7).new hN11).only hO13 ne_be_bi.symm ne_be_ig.symm).only hO15 ne_be_bi.symm ne_be_ig.symm).only hO17 ne_be_bi.symm ne_be_ig.symm).only hO19 ne_be_bi.symm ne_be_ig.symm
 replace hQ := ((((((hQ.new hN3).new hN7).new hN11).only hO13 (Apart.ne1 ap_Q_be)).only hO15 (Apart.ne1 ap_Q_be)).only hO17 (Apart.ne1 ap_Q_be)).only hO19 (Apart.ne1 ap_Q_be)
 replace hO := ((((((hO.new hN3).new hN7).new hN11).only hO13 (Apart.ne1 ap_A_be)).only hO15 (Apart.ne1 ap_A_be)).only hO17 (Apart.ne1 ap_A_be)).only hO19 (Apart.ne1 ap_A_be)
 replace hF := ((((((hF.trNew hN3).trNew hN7).trNew hN11).loc hO13 (.inl (.inr (.inl rfl)))).loc hO15 (.inl (.inr (.inl rfl)))).loc hO17 (.inl (.inr (.inl rfl)))).loc hO19 (.inl (.inr (.inl rfl)))
 replace hW := hW.only hO19 ne_bw_be
 refine fx_loop (fun nM a wL => ∃ d1 : Ent, ∃ bs1 : List UInt8, ∃ Q1 : Option Addr, ∃ qc1 : Nat, ∃ A1 : Option Addr, ∃ c1 : Nat, ∃ out1 : List Msg, nM = d1.q.length ∧ Fr (103, []) [(0, .pointer (some ⟨bw, 0, none⟩))] a ∧ Only (fun k => k = bw ∨ k = be ∨ k = ig ∨ inA A k ∨ inA Q k) w wL ∧ Blk wL bw 176 #[.slice A1 out1.length c1, .pointer (some ⟨be, 0, none⟩), .pointer (some ⟨bh, 0, none⟩), .int .u32 m.line] ∧ Blk wL be 147 (entA d1 (.slice Q1 d1.q.length qc1)) ∧ Blk wL bh 140 #[.pointer (some ⟨bi, 0, none⟩), .map (some r)] ∧ Img 0 wL bi ig cap bs1 ∧ View msgE wL Q1 qc1 d1.q ∧ Own msgE wL A1 c1 out1 ∧ addF out1 (drainF d1.q bs1 d1) = addF out (drainF q bs { { { { (Ent.mk o sh true asks kind 0 true q) with busy := false } with asks := 0 } with kind := 0 } with told := false }) ∧ (∀ x ∈ d1.q, QOk m.line x) ∧ out1.length + 8 + 5 * d1.q.length ≤ 1000000 ∧ (Apart Q1 bw) ∧ (Apart A1 bw) ∧ (Apart Q1 be) ∧ (Apart A1 be) ∧ (Apart Q1 bh) ∧ (Apart A1 bh) ∧ (Apart Q1 bi) ∧ (Apart Q1 ig) ∧ (Apart A1 bi) ∧ (Apart A1 ig) ∧ (Apart2 Q1 A1) ∧ (∀ g, inA Q1 g → (fun k => k = bw ∨ k = be ∨ k = ig ∨ inA A k ∨ inA Q k) g ∨ w.heap.size ≤ g) ∧ (∀ g, inA A1 g → (fun k => k = bw ∨ k = be ∨ k = ig ∨ inA A k ∨ inA Q k) g ∨ w.heap.size ≤ g)) (n0 := _) ⟨{ { { { (Ent.mk o sh true asks kind 0 true q) with busy := false } with asks := 0 } with kind := 0 } with told := false }, bs, Q, qc, A, ac, out, rfl, fr.sub ⟨rfl, trivial⟩, hF, hW, hE, hH, hI, hQ, hO, rfl, hq, hlen5, ap_Q_bw, ap_A_bw, ap_Q_be, ap_A_be, ap_Q_bh, ap_A_bh, ap_Q_bi, ap_Q_ig, ap_A_bi, ap_A_ig, ap2_Q_A, gA_Q, gA_A⟩ ?_
 clear fr a
 rintro n21 a w20 ⟨d1, bs1, Q1, qc1, A1, c1, out1, rfl, fr, hF, hW, hE, hH, hI, hQ, O1, hp0, hp1, hp2, ap_Q1_bw, ap_A1_bw, ap_Q1_be, ap_A1_be, ap_Q1_bh, ap_A1_bh, ap_Q1_bi, ap_Q1_ig, ap_A1_bi, ap_A1_ig, ap2_Q1_A1, gA_Q1, gA_A1⟩
 revert a
 refine Zsq ?_
 refine Zsr ?_
 refine Zm ?_
 refine Zn ?_
 refine Zf fo176_1 ?_
 refine Zd pl144 (hW.cell 1 rfl) ?_
 refine Zn ?_
 refine Zf fo147_2 ?_
 refine Zd (v := .bool d1.busy) pl4 (hE.cell 5 rfl) ?_
 refine Zv _ (fun _ fr => x_not rfl (fr.ev rfl) rfl) ?_
 refine Zm ?_
 refine Zy (!d1.busy) _ (fun _ fr _ => x_move rfl (fr.ev rfl)) ?_
 refine Zy (!d1.busy) _ (fun _ fr hg => x_nilCheck rfl ((fr.ev rfl).trans (onlyIf_t hg))) ?_
 refine Zy (!d1.busy) _ (fun _ fr hg => x_fieldAddr fo176_1 rfl ((fr.ev rfl).trans (onlyIf_t hg)) rfl) ?_
 refine Zy (!d1.busy) _ (fun _ fr hg => x_load1 pl144 rfl ((fr.ev rfl).trans (onlyIf_t hg)) (hW.cell 1 rfl)) ?_
 refine Zy (!d1.busy) _ (fun _ fr hg => x_nilCheck rfl ((fr.ev rfl).trans (onlyIf_t hg))) ?_
 refine Zy (!d1.busy) _ (fun _ fr hg => x_fieldAddr fo147_7 rfl ((fr.ev rfl).trans (onlyIf_t hg)) rfl) ?_
 refine Zy (!d1.busy) _ (fun _ fr hg => x_load1 pl29 rfl ((fr.ev rfl).trans (onlyIf_t hg)) (hE.cell 10 rfl)) ?_
 refine Zy (!d1.busy) _ (fun _ fr hg => x_len Try.underlying29 rfl ((fr.ev rfl).trans (onlyIf_t hg))) ?_
 refine Zy (!d1.busy) _ (fun _ fr hg => x_gtr rfl ((fr.ev rfl).trans (onlyIf_t hg)) rfl rfl) ?_
 refine Zv (.bool ((!d1.busy) && (decide (0 < ((d1.q.length : Nat) : Int))))) (fun _ fr => x_pick_and rfl (fr.ev rfl) (fun hb => ((fr.ev rfl)).trans (onlyIf_t (by simp_all))) (fun _ => rfl) rfl) ?_
 refine Znn ?_
 refine Zcd (fun hc22 => ?_) (fun hc22 => ?_)
 ·have hc22s := hc22
  try simp at hc22s
  refine Zsk ?_
  refine Znx ?_
  refine Zbl ?_
  refine Zsq ?_
  have hgo := drain_go hc22
  have hgo2 := hgo.2
  have hq1 := hp1 _ (getD_in hgo2)
  refine Zrg ?_
  refine Zm ?_
  refine Zn ?_
  refine Zf fo176_1 ?_
  refine Zd pl144 (hW.cell 1 rfl) ?_
  refine Zn ?_
  refine Zf fo147_7 ?_
  refine Zd (v := .slice Q1 d1.q.length qc1) pl29 (hE.cell 10 rfl) ?_
  obtain ⟨g23, o24, hA25⟩ := (hQ).some_ (by first | omega | decide)
  refine Zv (.pointer (some ⟨g23, o24 + 0 * 20, none⟩)) (fun _ fr => x_indexV Try.underlying29 sz35 rfl (fr.ev rfl) hA25 rfl (by first | omega | decide) rfl) ?_
  refine ZE msgE ag35 ((hQ).elem hA25 0 msg0 (by omega)) ?_
  refine Zna (z := zv3) (cs := msgE.arr msg0) (by kernel_rfl) fun b26 w27 hN28 B29 hb30 => ?_
  have ne_bw_b26 : NE bw b26 := NE.mk (Nat.lt_of_lt_of_le hW.lt hb30)
  have ne_be_b26 : NE be b26 := NE.mk (Nat.lt_of_lt_of_le hE.lt hb30)
  have ne_bh_b26 : NE bh b26 := NE.mk (Nat.lt_of_lt_of_le hH.lt hb30)
  have ne_bi_b26 : NE bi b26 := NE.mk (Nat.lt_of_lt_of_le hI.lt.1 hb30)
  have ne_ig_b26 : NE ig b26 := NE.mk (Nat.lt_of_lt_of_le hI.lt.2 hb30)
  have ap_Q1_b26 : Apart Q1 b26 := hQ.apart hb30
  have ap_A1_b26 : Apart A1 b26 := O1.apart hb30
  have g_b26 := Nat.le_trans hF.size hb30
  refine ZsS sz35 (msgE.all _) B29 (msgE.size _) (msgE.size _) fun w31 hO32 hBq => ?_
  replace B29 := hBq
  clear hBq
  refine Znn ?_
  refine Zsq ?_
  refine ZhT (n := 12) 12 (fun w => Blk w bw 176 #[.slice A1 out1.length c1, .pointer (some ⟨be, 0, none⟩), .pointer (some ⟨bh, 0, none⟩), .int .u32 m.line] ∧ Blk w be 147 (entA d1 (.slice Q1 d1.q.length qc1)) ∧ True) ?_
  intro w33 hN34
  replace hW := ((hW.new hN28).only hO32 ne_bw_b26).new hN34
  replace hE := ((hE.new hN28).only hO32 ne_be_b26).new hN34
  have hS9 := And.intro hW (And.intro hE trivial)
  refine Zhm 0 hS9 ?_
  refine Zhc 1 hS9 ?_
  refine Zhf 2 fo176_1 hS9 ?_
  refine Zhl 3 pl144 hS9 (fun _ ⟨hW, _⟩ => (hW.cell 1 rfl)) ?_
  refine Zhm 4 hS9 ?_
  refine Zhc 5 hS9 ?_
  refine Zhf 6 fo176_1 hS9 ?_
  refine Zhl 7 pl144 hS9 (fun _ ⟨hW, _⟩ => (hW.cell 1 rfl)) ?_
  refine Zhc 8 hS9 ?_
  refine Zhf 9 fo147_7 hS9 ?_
  refine Zhl (v := .slice Q1 d1.q.length qc1) 10 pl29 hS9 (fun _ ⟨_, hE, _⟩ => (hE.cell 10 rfl)) ?_
  refine Zht 11 rfl (.slice (cutA Q1 qc1 1 20) (d1.q.length - 1) (qc1 - 1)) hS9 (fun _ fr _ _ => x_slice_from Try.underlying29 sz35 rfl (fr.ev rfl) rfl (by omega)) ?_
  refine Zhn ?_
  refine Ztl ?_
  refine Zn ?_
  refine Zf fo147_7 ?_
  refine Zs1 (cs' := entA ({ d1 with q := d1.q.drop 1 }) (.slice (cutA Q1 qc1 1 20) (d1.q.length - 1) (qc1 - 1))) sz29 hE (show 10 < 11 by decide) rfl fun w35 hO36 hBq => ?_
  replace hE := hBq
  clear hBq
  refine Znn ?_
  replace hQ := (((hQ.new hN28).only hO32 (Apart.ne1 ap_Q1_b26)).new hN34).only hO36 (Apart.ne1 ap_Q1_be)
  have hQ2v := hQ.drop 1 (by omega)
  have hcut : ∀ g, inA (cutA Q1 qc1 1 20) g → inA Q1 g := fun g hg => cut_in hQ hg
  have hE2 : Blk w35 be 147 (entA { d1 with q := d1.q.drop 1 } (.slice (cutA Q1 qc1 1 20) (d1.q.drop 1).length (qc1 - 1))) := by rw [List.length_drop]; exact hE
  clear hE
  change View msgE w35 (cutA Q1 qc1 1 20) (qc1 - 1) _ at hQ2v
  have ap_Q2_bw : Apart (cutA Q1 qc1 1 20) bw := fun h => ap_Q1_bw (hcut _ h)
  have ap_Q2_be : Apart (cutA Q1 qc1 1 20) be := fun h => ap_Q1_be (hcut _ h)
  have ap_Q2_bh : Apart (cutA Q1 qc1 1 20) bh := fun h => ap_Q1_bh (hcut _ h)
  have ap_Q2_bi : Apart (cutA Q1 qc1 1 20) bi := fun h => ap_Q1_bi (hcut _ h)
  have ap_Q2_ig : Apart (cutA Q1 qc1 1 20) ig := fun h => ap_Q1_ig (hcut _ h)
  have ap_Q2_b26 : Apart (cutA Q1 qc1 1 20) b26 := fun h => ap_Q1_b26 (hcut _ h)
  have ap2_Q2_A1 : Apart2 (cutA Q1 qc1 1 20) A1 := fun k h1 h2 => ap2_Q1_A1 k (hcut k h1) h2
  have gA_Q2 : ∀ g, inA (cutA Q1 qc1 1 20) g → _ := fun g hg => gA_Q1 g (hcut g hg)
  clear hQ hcut
  intro a fr
  generalize cutA Q1 qc1 1 20 = Q2 at fr hE2 hQ2v ap_Q2_bw ap_Q2_be ap_Q2_bh ap_Q2_bi ap_Q2_ig ap_Q2_b26 ap2_Q2_A1 gA_Q2
  revert a
  have hE := hE2
  have hQ := hQ2v
  clear hE2 hQ2v
  intro a fr0
  have fr := fr0.sub (T' := [(0, .pointer (some ⟨bw, 0, none⟩)), (4, .pointer (some ⟨b26, 0, none⟩))]) ⟨rfl, rfl, trivial⟩
  clear fr0
  revert a
  refine Zrg ?_
  refine Zm ?_
  replace B29 := (B29.new hN34).only hO36 ne_be_b26.symm
  refine ZE msgE ag35 (B29.rangeE msgE) ?_
  replace hH := (((hH.new hN28).only hO32 ne_bh_b26).new hN34).only hO36 ne_be_bh.symm
  replace hI := (((hI.new hN28).only hO32 ne_bi_b26 ne_ig_b26).new hN34).only hO36 ne_be_bi.symm ne_be_ig.symm
  replace O1 := (((O1.new hN28).only hO32 (Apart.ne1 ap_A1_b26)).new hN34).only hO36 (Apart.ne1 ap_A1_be)
  replace hW := hW.only hO36 ne_bw_be
  refine Zk (args := #[.pointer (some ⟨bw, 0, none⟩), .agg (msgE.arr (d1.q.getD 0 msg0))]) cf99 (begin_l (d1.q.getD 0 msg0) ⟨hW, hE, hH, hI, hQ, O1, ⟨ne_bw_be, ne_bw_bh, ne_bw_bi, ne_bw_ig, ne_be_bh, ne_be_bi, ne_be_ig, ne_bh_bi, ne_bh_ig, ne_bi_ig, ap_Q2_bw, ap_Q2_be, ap_Q2_bh, ap_Q2_bi, ap_Q2_ig, ap_A1_bw, ap_A1_be, ap_A1_bh, ap_A1_bi, ap_A1_ig, ap2_Q2_A1⟩⟩ (by first | omega | (simp only [List.length_append, List.length_cons, List.length_nil, List.length_map, List.length_take]; omega)) hq1.2.2.1 ⟨hq1.1, hq1.2.1⟩ hq1.2.2.2) ?_
  rintro v w42 ⟨rfl, A37, ac38, R39, mv40, hN43⟩
  replace hF := (((hF.trNew hN28).loc hO32 (.inr g_b26)).trNew hN34).loc hO36 (.inl (.inr (.inl rfl)))
  have gA_A37 := gA_moved hF mv40 gA_A1
  clear hW hE hH hI hQ O1
  obtain ⟨hW, hE, hH, hI, hQ, O41, hS⟩ := R39
  have ap_A37_bw := hS.ap_A_bw
  have ap_A37_be := hS.ap_A_be
  have ap_A37_bh := hS.ap_A_bh
  have ap_A37_bi := hS.ap_A_bi
  have ap_A37_ig := hS.ap_A_ig
  have ap2_Q2_A37 := hS.ap2_Q_A
  have ap_Q2_bw := hS.ap_Q_bw
  have ap_Q2_be := hS.ap_Q_be
  have ap_Q2_bh := hS.ap_Q_bh
  have ap_Q2_bi := hS.ap_Q_bi
  have ap_Q2_ig := hS.ap_Q_ig
  refine Znl ?_
  refine Zb ?_
  intro a fr
  refine fx_next ?_
  have hbl := begin_len (bs := bs1) (d := { d1 with q := d1.q.drop 1 }) (m := d1.q.getD 0 msg0)
  have hbq := begin_qn (bs := bs1) (d := d1) (m := d1.q.getD 0 msg0)
  replace hF := hF.locS hN43 (fun i => (fun h => h.elim (fun e => by rw [e]; exact (.inl (.inl rfl))) (fun h => h.elim (fun e => by rw [e]; exact (.inl (.inr (.inl rfl)))) (fun h => h.elim (fun e => by rw [e]; exact (.inl (.inr (.inr (.inl rfl))))) (fun h => gA_A1 i h)))))
  exact ⟨_, (by rw [hbq]; omega), (beginF bs1 { d1 with q := d1.q.drop 1 } (d1.q.getD 0 msg0)).1, (beginF bs1 { d1 with q := d1.q.drop 1 } (d1.q.getD 0 msg0)).2.1, Q2, (qc1 - 1), A37, ac38, (out1 ++ (beginF bs1 { d1 with q := d1.q.drop 1 } (d1.q.getD 0 msg0)).2.2), rfl, fr.sub ⟨rfl, trivial⟩, hF, hW, hE, hH, hI, hQ, O41, (drain_step hgo.1 hgo.2 _).trans hp0, fun x hx => hp1 x (begin_ql hx), (by rw [List.length_append, hbq]; omega), ap_Q2_bw, ap_A37_bw, ap_Q2_be, ap_A37_be, ap_Q2_bh, ap_A37_bh, ap_Q2_bi, ap_Q2_ig, ap_A37_bi, ap_A37_ig, ap2_Q2_A37, gA_Q2, gA_A37⟩
 ·have hc22s := hc22
  try simp at hc22s
  refine Zex ?_
  refine Zxt ?_
  refine Zxt ?_
  refine Zxx ?_
  refine Zee rfl [] trivial ?_
  have e0 := hp0
  rw [drain_end (drain_stop hc22)] at e0
  simp only [addF, Prod.mk.injEq] at e0
  obtain ⟨rfl, rfl, rfl⟩ := e0
  rw [other_d hk]
  exact ⟨_, rfl, rfl, Q1, qc1, A1, c1, ⟨hW, hE, hH, hI, hQ, O1, ⟨ne_bw_be, ne_bw_bh, ne_bw_bi, ne_bw_ig, ne_be_bh, ne_be_bi, ne_be_ig, ne_bh_bi, ne_bh_ig, ne_bi_ig, ap_Q1_bw, ap_Q1_be, ap_Q1_bh, ap_Q1_bi, ap_Q1_ig, ap_A1_bw, ap_A1_be, ap_A1_bh, ap_A1_bi, ap_A1_ig, ap2_Q1_A1⟩⟩, hmv gA_A1 ap_A1_bw ap_A1_be ap_A1_ig, hmv gA_Q1 ap_Q1_bw ap_Q1_be ap_Q1_ig, hF⟩
end Go.Proofs.Ytflnlmibkbojcaa
namespace Go.Proofs.Ytflnlmibkbojcaa
open Go.RowKit
theorem ent_all (d : Ent) (A : Option Addr) (n c : Nat) : (entA d (.slice A n c)).all (·.oneCell') = true := by
  simp [entA, Value.oneCell']
theorem x_deferv {P : Program} {w : World} {ev : Operand → Value} {o : Oper} {t f : Nat} {args : List Operand} {ts : Array TypeId} {vs : List Value} {cs : Array Value} (ho : o.op = .defer { callee := .value (.tmp t), args := args.toArray, argTypes := ts }) (hf0 : ev (.tmp t) = .func (.func f) #[] cs) (hv : Evs ev args vs) :
    (execOp ev o).run P w = .ok (.defer { target := .fn (.func f) cs, args := vs.toArray }) w := by
  simp [execOp, ho, resolve, hf0, Deferred.ofValue, hv.map]
theorem hsize_c {w : World} {bi ig cap : Nat} {bs : List UInt8} (hI : Img 0 w bi ig cap bs) : Calls Try.prog 97 #[.pointer (some ⟨bi, 0, none⟩)] w (Ret fun v w' => v = .int .i64 ((bs.length : Nat) : Int) ∧ w' = w) :=
  (size_some bi _ _ cap w hI.cell).mono fun _ _ ⟨h1, h2⟩ => ⟨_, h1, rfl, h2.symm⟩
theorem hicopy_c {w : World} {bi ig cap : Nat} {bs : List UInt8} (hI : Img 0 w bi ig cap bs) : Calls Try.prog 70 #[.pointer (some ⟨bi, 0, none⟩)] w (Ret fun v w' => ∃ b g c, v = .pointer (some ⟨b, 0, none⟩) ∧ Img 0 w' b g c bs ∧ w.heap.size ≤ b ∧ w.heap.size ≤ g ∧ NE b g ∧ New w w') :=
  (copy_some hI).mono fun _ _ ⟨b, g, c, h1, h2, h3⟩ => ⟨_, h1, b, g, c, rfl, h2.mono (Nat.zero_le _), h2.hb, h2.hg, h2.ne, h3⟩
structure Slot where
  k : Nat
  b : Nat
  A : Option Addr
  cap : Nat
  born : Nat
  deriving DecidableEq
def Slot.me (s : Slot) : MapEntry := ⟨.int .u32 ((s.k : Nat) : Int), .pointer (some ⟨s.b, 0, none⟩), s.born⟩
def esOf (L : List Slot) : Array MapEntry := (L.map Slot.me).toArray
def entOf (E : List Ent) (k : Nat) : Ent := E.getD k ent0
structure SlotAt (w : World) (d : Ent) (s : Slot) : Prop where
  blk : Blk w s.b 147 (entA d (.slice s.A d.q.length s.cap))
  q : View msgE w s.A s.cap d.q
structure EntsAt (w : World) (F : Nat → Prop) (r : Nat) (E : List Ent) (L : List Slot) (c : Nat) : Prop where
  map : MapBlk w r (esOf L) c
  lt_ : ∀ s ∈ L, s.k < E.length ∧ s.born < c
  at_ : ∀ s ∈ L, SlotAt w (entOf E s.k) s
  keys : (L.map Slot.k).Nodup
  borns : (L.map Slot.born).Nodup
  no : ∀ k, k ∉ L.map Slot.k → entOf E k = ent0
  foot : ∀ g, F g ↔ g = r ∨ ∃ s ∈ L, g = s.b ∨ inA s.A g
  ap : ∀ s ∈ L, ¬ s.b = r ∧ ¬ inA s.A r
section
variable {w w' : World} {F S : Nat → Prop} {r c : Nat} {E : List Ent} {L : List Slot}
theorem SlotAt.only {d : Ent} {s : Slot} (h : SlotAt w d s) (k : Only S w w') (h1 : ¬ S s.b) (h2 : ∀ g, inA s.A g → ¬ S g) : SlotAt w' d s := ⟨h.blk.only k h1, h.q.only k h2⟩
theorem EntsAt.only (h : EntsAt w F r E L c) (k : Only S w w') (hs : ∀ g, F g → ¬ S g) : EntsAt w' F r E L c :=
  ⟨h.map.only k (hs _ ((h.foot _).2 (.inl rfl))), h.lt_, fun s hS => (h.at_ s hS).only k (hs _ ((h.foot _).2 (.inr ⟨s, hS, .inl rfl⟩))) fun g hg => hs _ ((h.foot _).2 (.inr ⟨s, hS, .inr hg⟩)), h.keys, h.borns, h.no, h.foot, h.ap⟩
theorem EntsAt.new (h : EntsAt w F r E L c) (k : New w w') : EntsAt w' F r E L c := h.only k fun _ _ => id
theorem EntsAt.lt (h : EntsAt w F r E L c) {g : Nat} (hg : F g) : g < w.heap.size := by
  rcases (h.foot g).1 hg with rfl | ⟨s, hs, rfl | hg⟩
  · exact h.map.lt
  · exact (h.at_ s hs).blk.lt
  · exact (h.at_ s hs).q.lt hg
theorem EntsAt.apart (h : EntsAt w F r E L c) {b : Nat} (hb : w.heap.size ≤ b) : ¬ F b := fun hi => by have := h.lt hi; omega
theorem find_no {k : Nat} : ∀ (L : List Slot) (j : Nat), k ∉ L.map Slot.k → Instr.findNow (.int .u32) (.int .u32 ((k : Nat) : Int)) (L.map Slot.me) j = some none
  | [], _, _ => rfl
  | s :: L, j, h => by
    have h1 : ¬ k = s.k := fun e => h (by simp [e])
    have h2 : k ∉ L.map Slot.k := fun e => h (by simp at e ⊢; exact .inr e)
    have hne : ((k : Int) == (s.k : Int)) = false := by simp; omega
    simp only [List.map_cons, Instr.findNow, Slot.me, Instr.sameNow, if_true, hne]
    exact find_no L (j + 1) h2
theorem find_yes {s : Slot} : ∀ (L : List Slot) (j : Nat), s ∈ L → (L.map Slot.k).Nodup → ∃ i, L[i]? = some s ∧ Instr.findNow (.int .u32) (.int .u32 ((s.k : Nat) : Int)) (L.map Slot.me) j = some (some (j + i, .pointer (some ⟨s.b, 0, none⟩)))
  | [], _, h, _ => absurd h (by simp)
  | t :: L, j, h, hn => by
    rw [List.map_cons, List.nodup_cons] at hn
    by_cases hk : s.k = t.k
    · have hst : s = t := by
        rcases List.mem_cons.1 h with h | h
        · exact h
        · exact absurd (List.mem_map.2 ⟨s, h, hk⟩) hn.1
      subst hst
      exact ⟨0, rfl, by simp [Instr.findNow, Slot.me, Instr.sameNow]⟩
    · have hL : s ∈ L := by
        rcases List.mem_cons.1 h with h | h
        · exact absurd (by rw [h]) hk
        · exact h
      obtain ⟨i, h1, h2⟩ := find_yes L (j + 1) hL hn.2
      have hne : ((s.k : Int) == (t.k : Int)) = false := by simp; omega
      refine ⟨i + 1, by simpa using h1, ?_⟩
      simp only [List.map_cons, Instr.findNow, Slot.me, Instr.sameNow, if_true, hne]
      rw [show j + (i + 1) = j + 1 + i by omega]
      exact h2
theorem EntsAt.find_some (h : EntsAt w F r E L c) {s : Slot} (hs : s ∈ L) : (Instr.findNow (.int .u32) (.int .u32 ((s.k : Nat) : Int)) (esOf L).toList 0).map (fun q => (match q with | some (_, u) => u | none => .pointer none, q.isSome)) = some (.pointer (some ⟨s.b, 0, none⟩), true) := by
  obtain ⟨i, _, h2⟩ := find_yes L 0 hs h.keys
  rw [show (esOf L).toList = L.map Slot.me from rfl, h2]
  rfl
theorem EntsAt.find_none {k : Nat} (hs : k ∉ L.map Slot.k) : (Instr.findNow (.int .u32) (.int .u32 ((k : Nat) : Int)) (esOf L).toList 0).map (fun q => (match q with | some (_, u) => u | none => .pointer none, q.isSome)) = some (.pointer none, false) := by
  rw [show (esOf L).toList = L.map Slot.me from rfl, find_no L 0 hs]
  rfl
end
section
variable {P : Program} {N : Nat × List Deferred} {T : List (Nat × Value)} {a : Act} {w : World} {Q : Exit → Act → World → Prop} {ops : Array Oper} {rest : List Oper} {o : Oper} {d : Nat}
theorem run_keyStays (k : IntKind) (n : Int) (w : World) : (Instr.keyThatStays (.int k n) (.int k n)).run P w = .ok (.int k n) w := by
  have hs : Instr.sameBits 10000 (.int k n) (.int k n) = true := by
    unfold Instr.sameBits
    simp
  unfold Instr.keyThatStays
  rw [if_pos hs]
  rfl
theorem run_update_new {t K E : TypeId} {k : IntKind} {n : Int} {v : Value} {r c : Nat} {es : Array MapEntry} (ht : P.underlying t = some (.map K E)) (hK : P.underlying K = some (.int k)) (hM : MapBlk w r es c) (hf : Instr.findNow (.int k) (.int k n) es.toList 0 = some none) :
    (Instr.mapUpdate t (.map (some r)) (.int k n) v).run P w = .ok () { w with heap := w.heap.setIfInBounds r (.map (es.push ⟨.int k n, v, c⟩) (c + 1)) } := by
  simp [Instr.mapUpdate, run_underlying ht, MapKept.run_getObj_map hM, run_checkInt' hK, run_findNow' hK hf, MapKept.run_setObj_map _ hM, Result.andThen]
theorem run_update_old {t K E : TypeId} {k : IntKind} {n : Int} {v v0 : Value} {r c i : Nat} {es : Array MapEntry} {e : MapEntry} (ht : P.underlying t = some (.map K E)) (hK : P.underlying K = some (.int k)) (hM : MapBlk w r es c) (hf : Instr.findNow (.int k) (.int k n) es.toList 0 = some (some (i, v0))) (he : es[i]? = some e) (hk : e.key = .int k n) :
    (Instr.mapUpdate t (.map (some r)) (.int k n) v).run P w = .ok () { w with heap := w.heap.setIfInBounds r (.map (es.modify i fun e => { e with key := .int k n, val := v }) c) } := by
  simp [Instr.mapUpdate, run_underlying ht, MapKept.run_getObj_map hM, run_checkInt' hK, run_findNow' hK hf, he, hk, run_keyStays, MapKept.run_setObj_map _ hM, Result.andThen]
theorem set_only {r : Nat} {o' : Obj} (h : r < w.heap.size) : Only (fun j => j = r) w { w with heap := w.heap.setIfInBounds r o' } := ⟨rfl, rfl, rfl, by simp, fun j hj hs => by simp [show r ≠ j from fun h => hs h.symm]⟩
theorem set_map {r c : Nat} {es : Array MapEntry} (h : r < w.heap.size) : MapBlk { w with heap := w.heap.setIfInBounds r (.map es c) } r es c := by
  unfold MapBlk
  simp [h]
end
section
variable {w : World} {F : Nat → Prop} {r c : Nat} {E : List Ent} {L : List Slot} {T : List (Nat × Value)} {N : Nat × List Deferred} {a : Act} {Q : Exit → Act → World → Prop} {ops : Array Oper} {rest : List Oper} {o : Oper}
theorem entOf_set {n k : Nat} {d : Ent} (hn : n < E.length) : entOf (E.set n d) k = if k = n then d else entOf E k := by
  unfold entOf
  simp only [List.getD, List.getElem?_set]
  by_cases h : n = k
  · subst h; simp [hn]
  · rw [if_neg h, if_neg (fun e => h e.symm)]
theorem ents_put {n be qc : Nat} {A : Option Addr} {d : Ent} (hM : EntsAt w F r E L c) (hn : n < E.length) (hB : Blk w be 147 (entA d (.slice A d.q.length qc))) (hQ : View msgE w A qc d.q) (h1 : ¬ be = r) (h2 : ¬ inA A r) :
    ∃ w1 L' c' F', (Instr.mapUpdate 138 (.map (some r)) (.int .u32 ((n : Nat) : Int)) (.pointer (some ⟨be, 0, none⟩))).run Try.prog w = .ok () w1 ∧ Only (fun j => j = r) w w1 ∧ EntsAt w1 F' r (E.set n d) L' c' ∧ (∀ g, F' g → F g ∨ g = be ∨ inA A g) := by
  have hlt := hM.map.lt
  by_cases hk : n ∈ L.map Slot.k
  · obtain ⟨s, hs, hsk⟩ := List.mem_map.1 hk
    subst hsk
    obtain ⟨i, hi, hf⟩ := find_yes L 0 hs hM.keys
    rw [Nat.zero_add] at hf
    obtain ⟨hil, hie⟩ := List.getElem?_eq_some_iff.1 hi
    let s' : Slot := ⟨s.k, be, A, qc, s.born⟩
    have he : (esOf L)[i]? = some s.me := by simp [esOf, hi]
    have hes : (esOf L).modify i (fun e => { e with key := .int .u32 ((s.k : Nat) : Int), val := .pointer (some ⟨be, 0, none⟩) }) = esOf (L.set i s') := by
      unfold esOf
      rw [List.modify_toArray, List.map_set]
      congr 1
      apply List.ext_getElem
      · simp
      · intro j h3 h4
        rw [List.getElem_modify, List.getElem_set]
        by_cases hj : i = j
        · subst hj
          rw [if_pos rfl, if_pos rfl, List.getElem_map, hie]
          rfl
        · rw [if_neg hj, if_neg hj]
    have hrun := run_update_old (P := Try.prog) (w := w) (v := .pointer (some ⟨be, 0, none⟩)) Try.underlying138 Try.underlying32 hM.map hf he rfl
    rw [hes] at hrun
    have hO := set_only (w := w) (r := r) (o' := .map (esOf (L.set i s')) c) hlt
    have mem : ∀ t ∈ L.set i s', t = s' ∨ (t ∈ L ∧ t.k ≠ s.k) := by
      intro t ht
      obtain ⟨j, hj, hjt⟩ := List.getElem_of_mem ht
      rw [List.getElem_set] at hjt
      split at hjt
      · exact .inl hjt.symm
      · rename_i hne
        rw [List.length_set] at hj
        refine .inr ⟨hjt ▸ List.getElem_mem _, fun e => hne ?_⟩
        have hnd := hM.keys
        have hp := List.pairwise_iff_getElem.1 hnd
        rcases Nat.lt_trichotomy i j with h | h | h
        · exact (hp i j (by simpa using hil) (by simpa using hj) h (by simp [hie, hjt, e])).elim
        · exact h
        · exact (hp j i (by simpa using hj) (by simpa using hil) h (by simp [hie, hjt, e])).elim
    have hkeys : (L.set i s').map Slot.k = L.map Slot.k := by
      rw [List.map_set]
      apply List.ext_getElem
      · simp
      · intro j h3 h4
        rw [List.getElem_set]
        split
        · rename_i hj; subst hj; simp [s', hie]
        · rfl
    have hborns : (L.set i s').map Slot.born = L.map Slot.born := by
      rw [List.map_set]
      apply List.ext_getElem
      · simp
      · intro j h3 h4
        rw [List.getElem_set]
        split
        · rename_i hj; subst hj; simp [s', hie]
        · rfl
    refine ⟨_, L.set i s', c, fun g => g = r ∨ ∃ s ∈ L.set i s', g = s.b ∨ inA s.A g, hrun, hO, ⟨set_map hlt, ?_, ?_, by rw [hkeys]; exact hM.keys, by rw [hborns]; exact hM.borns, ?_, fun g => Iff.rfl, ?_⟩, ?_⟩
    · intro t ht
      rw [List.length_set]
      rcases mem t ht with rfl | ⟨h, _⟩
      · exact hM.lt_ s hs
      · exact hM.lt_ t h
    · intro t ht
      rcases mem t ht with rfl | ⟨h, hne⟩
      · have : entOf (E.set s.k d) s'.k = d := by rw [entOf_set hn]; exact if_pos rfl
        rw [this]
        exact ⟨hB.only hO h1, hQ.only hO fun g hg (e : g = r) => h2 (e ▸ hg)⟩
      · rw [entOf_set hn, if_neg hne]
        exact (hM.at_ t h).only hO (hM.ap t h).1 fun g hg (e : g = r) => (hM.ap t h).2 (e ▸ hg)
    · intro k hk
      rw [hkeys] at hk
      rw [entOf_set hn, if_neg (fun e : k = s.k => hk (e ▸ List.mem_map.2 ⟨s, hs, rfl⟩))]
      exact hM.no k hk
    · intro t ht
      rcases mem t ht with rfl | ⟨h, _⟩
      · exact ⟨h1, h2⟩
      · exact hM.ap t h
    · rintro g (rfl | ⟨t, ht, hg⟩)
      · exact .inl ((hM.foot _).2 (.inl rfl))
      · rcases mem t ht with rfl | ⟨h, _⟩
        · exact .inr hg
        · exact .inl ((hM.foot _).2 (.inr ⟨t, h, hg⟩))
  · have hf := find_no (k := n) L 0 hk
    have hrun := run_update_new (P := Try.prog) (w := w) (v := .pointer (some ⟨be, 0, none⟩)) Try.underlying138 Try.underlying32 hM.map hf
    let s' : Slot := ⟨n, be, A, qc, c⟩
    have hes : (esOf L).push ⟨.int .u32 ((n : Nat) : Int), .pointer (some ⟨be, 0, none⟩), c⟩ = esOf (L ++ [s']) := by simp [esOf, s', Slot.me]
    rw [hes] at hrun
    have hO := set_only (w := w) (r := r) (o' := .map (esOf (L ++ [s'])) (c + 1)) hlt
    have mem : ∀ t ∈ L ++ [s'], t ∈ L ∨ t = s' := by simp
    refine ⟨_, L ++ [s'], c + 1, fun g => g = r ∨ ∃ s ∈ L ++ [s'], g = s.b ∨ inA s.A g, hrun, hO, ⟨set_map hlt, ?_, ?_, ?_, ?_, ?_, fun g => Iff.rfl, ?_⟩, ?_⟩
    · intro t ht
      rw [List.length_set]
      rcases mem t ht with h | rfl
      · have := hM.lt_ t h; omega
      · exact ⟨hn, Nat.lt_succ_self _⟩
    · intro t ht
      rcases mem t ht with h | rfl
      · rw [entOf_set hn, if_neg (fun e : t.k = n => hk (e ▸ List.mem_map.2 ⟨t, h, rfl⟩))]
        exact (hM.at_ t h).only hO (hM.ap t h).1 fun g hg (e : g = r) => (hM.ap t h).2 (e ▸ hg)
      · have : entOf (E.set n d) s'.k = d := by rw [entOf_set hn]; exact if_pos rfl
        rw [this]
        exact ⟨hB.only hO h1, hQ.only hO fun g hg (e : g = r) => h2 (e ▸ hg)⟩
    · rw [List.map_append, List.nodup_append]
      refine ⟨hM.keys, by simp, ?_⟩
      intro x hx y hy e
      simp [s'] at hy
      subst hy
      exact hk (e ▸ hx)
    · rw [List.map_append, List.nodup_append]
      refine ⟨hM.borns, by simp, ?_⟩
      intro x hx y hy e
      simp [s'] at hy
      subst hy
      obtain ⟨t, ht, hb⟩ := List.mem_map.1 hx
      have := (hM.lt_ t ht).2
      omega
    · intro k hk2
      rw [List.map_append, List.mem_append, not_or] at hk2
      rw [entOf_set hn, if_neg (fun e => hk2.2 (by simp [s', e]))]
      exact hM.no k hk2.1
    · intro t ht
      rcases mem t ht with h | rfl
      · exact hM.ap t h
      · exact ⟨h1, h2⟩
    · rintro g (rfl | ⟨t, ht, hg⟩)
      · exact .inl ((hM.foot _).2 (.inl rfl))
      · rcases mem t ht with h | rfl
        · exact .inl ((hM.foot _).2 (.inr ⟨t, h, hg⟩))
        · exact .inr hg
theorem fx_entPut {n be qc : Nat} {A : Option Addr} {d : Ent} {x y z : Operand} (hw : Region.wanted o (yielded ops a.tmps) = true) (ho : o.op = .mapUpdate 138 x y z) (hd : o.dst = none) (hx : a.eval x = .map (some r)) (hy : a.eval y = .int .u32 ((n : Nat) : Int)) (hz : a.eval z = .pointer (some ⟨be, 0, none⟩))
    (hM : EntsAt w F r E L c) (hn : n < E.length) (hB : Blk w be 147 (entA d (.slice A d.q.length qc))) (hQ : View msgE w A qc d.q) (h1 : ¬ be = r) (h2 : ¬ inA A r)
    (next : ∀ w1 L' c' F', Only (fun j => j = r) w w1 → EntsAt w1 F' r (E.set n d) L' c' → (∀ g, F' g → F g ∨ g = be ∨ inA A g) → wpList Try.prog ops Q rest a w1) : wpList Try.prog ops Q (o :: rest) a w := by
  obtain ⟨w1, L', c', F', hr, hO, hE, hF⟩ := ents_put hM hn hB hQ h1 h2
  refine fx_eff (w1 := w1) hw hd ?_ (next w1 L' c' F' hO hE hF)
  simp [execOp, ho, hx, hy, hz, hr, Result.andThen]
end
structure HSep (Fp : Nat → Prop) (b bi ig : Nat) (F : Nat → Prop) : Prop where
  ne_b_bi : NE b bi
  ne_b_ig : NE b ig
  fb : ¬ F b
  fbi : ¬ F bi
  fig : ¬ F ig
  foot : ∀ g, Fp g ↔ g = b ∨ g = bi ∨ g = ig ∨ F g
def HomeAt (w : World) (Fp : Nat → Prop) (b : Nat) (h : HD) : Prop :=
  ∃ bi ig cap r F L c, Blk w b 140 #[.pointer (some ⟨bi, 0, none⟩), .map (some r)] ∧ Img 0 w bi ig cap h.bs ∧ EntsAt w F r h.E L c ∧ HSep Fp b bi ig F ∧ h.E.length = h.bs.length / 16
section
variable {w w' : World} {Fp T : Nat → Prop} {b : Nat} {h : HD}
theorem HomeAt.only (H : HomeAt w Fp b h) (k : Only T w w') (hs : ∀ g, Fp g → ¬ T g) : HomeAt w' Fp b h := by
  obtain ⟨bi, ig, cap, r, F, L, c, hB, hI, hM, hS, hn⟩ := H
  exact ⟨bi, ig, cap, r, F, L, c, hB.only k (hs _ ((hS.foot _).2 (.inl rfl))), hI.only k (hs _ ((hS.foot _).2 (.inr (.inl rfl)))) (hs _ ((hS.foot _).2 (.inr (.inr (.inl rfl))))), hM.only k fun g hg => hs _ ((hS.foot _).2 (.inr (.inr (.inr hg)))), hS, hn⟩
theorem HomeAt.new (H : HomeAt w Fp b h) (k : New w w') : HomeAt w' Fp b h := H.only k fun _ _ => id
theorem HomeAt.lt (H : HomeAt w Fp b h) {g : Nat} (hg : Fp g) : g < w.heap.size := by
  obtain ⟨bi, ig, cap, r, F, L, c, hB, hI, hM, hS, hn⟩ := H
  rcases (hS.foot g).1 hg with rfl | rfl | rfl | hg
  · exact hB.lt
  · exact hI.lt.1
  · exact hI.lt.2
  · exact hM.lt hg
theorem HomeAt.apart (H : HomeAt w Fp b h) {c : Nat} (hc : w.heap.size ≤ c) : ¬ Fp c := fun hi => by have := H.lt hi; omega
theorem HomeAt.len (H : HomeAt w Fp b h) : h.E.length = h.bs.length / 16 ∧ 16 ≤ h.bs.length ∧ h.bs.length ≤ 4096 := by
  obtain ⟨bi, ig, cap, r, F, L, c, hB, hI, hM, hS, hn⟩ := H
  exact ⟨hn, hI.pos⟩
end
def TakeH (w : World) (Fp : Nat → Prop) (b : Nat) (x : HD × List Msg × Int) (v : Value) (w' : World) : Prop :=
  ∃ A ac Fp', v = .tuple #[.slice A x.2.1.length ac, .int .i64 x.2.2] ∧ Own msgE w' A ac x.2.1 ∧ (∀ g, inA A g → w.heap.size ≤ g) ∧ HomeAt w' Fp' b x.1 ∧ (∀ g, Fp' g → inA A g → False) ∧ (∀ g, Fp' g → Fp g ∨ w.heap.size ≤ g) ∧ Only Fp w w'
theorem takeH_no {w w' : World} {Fp : Nat → Prop} {b : Nat} {x : HD × List Msg × Int} {h : HD} {v : Value} (e : Int) (hx : x = (h, [], e)) (hv : v = .tuple #[.slice none 0 0, .int .i64 e]) (H : HomeAt w' Fp b h) (hn : New w w') : TakeH w Fp b x v w' := by
  subst hx hv
  exact ⟨none, 0, Fp, rfl, Own.nil, fun g hg => absurd hg (apart_none g), H, fun g _ hg => apart_none g hg, fun g hg => .inl hg, hn.mono fun _ _ h => h.elim⟩
end Go.Proofs.Ytflnlmibkbojcaa
namespace Go.Proofs.Ytflnlmibkbojcaa
open Go.RowKit
theorem hnone_c {w : World} {b bi r : Nat} (hB : Blk w b 140 #[.pointer (some ⟨bi, 0, none⟩), .map (some r)])  : Calls Try.prog 72 #[.pointer (some ⟨b, 0, none⟩)] w (Ret fun v w' => v = .bool false ∧ w' = w) := by
 refine Zen 12 Try.func72 ?_
 refine Zsr ?_
 refine Za ?_
 refine Znn ?_
 refine Zsr ?_
 refine Zm ?_
 refine Zv (.bool false) (fun _ fr => x_peql Try.underlying90 rfl (fr.ev rfl) rfl rfl) ?_
 refine Zm ?_
 refine Zm ?_
 refine Zn ?_
 refine Zf fo140_0 ?_
 refine Zd pl87 (hB.cell 0 rfl) ?_
 refine Zv (.bool false) (fun _ fr => x_peql Try.underlying87 rfl (fr.ev rfl) rfl rfl) ?_
 refine Zpf ?_
 refine Za ?_
 refine Znn ?_
 refine Zrt ?_
 refine Zre rfl [_] ⟨rfl, trivial⟩ ?_
 exact ⟨_, rfl, rfl, rfl⟩
theorem lines_r {w : World} {b bi r : Nat} (hB : Blk w b 140 #[.pointer (some ⟨bi, 0, none⟩), .map (some r)]) {ig cap : Nat} {bs : List UInt8} (hI : Img 0 w bi ig cap bs)  : Calls Try.prog 85 #[.pointer (some ⟨b, 0, none⟩)] w (Ret fun v w' => v = .int .i64 ((bs.length / 16 : Nat) : Int) ∧ w' = w) := by
 have hp := hI.pos
 refine Zen 11 Try.func85 ?_
 refine Zsr ?_
 refine Za ?_
 refine Znn ?_
 refine Zsq ?_
 refine Zsr ?_
 refine Zm ?_
 refine Zk cf72 (hnone_c hB) ?_
 rintro v w9 ⟨rfl, hw9⟩
 obtain rfl := hw9.symm
 refine Znn ?_
 refine Zcf ?_
 refine Zsk ?_
 refine Znx ?_
 refine Zsr ?_
 refine Zm ?_
 refine Zn ?_
 refine Zf fo140_0 ?_
 refine Zd pl87 (hB.cell 0 rfl) ?_
 refine Zk cf97 (hsize_c hI) ?_
 rintro v w9 ⟨rfl, hw9⟩
 obtain rfl := hw9.symm
 refine Zv (.int .i64 ((bs.length / 16 : Nat) : Int)) (fun _ fr => x_quo rfl (fr.ev rfl) rfl (by decide) (quo_nat _ _ (by omega))) ?_
 refine Za ?_
 refine Znn ?_
 refine Zrt ?_
 refine Zre rfl [_] ⟨rfl, trivial⟩ ?_
 exact ⟨_, rfl, rfl, rfl⟩
theorem clonem_nil (w : World) : Calls Try.prog 105 #[.slice none 0 0] w (Ret fun v w' => v = .slice none 0 0 ∧ w' = w) := by
 refine Zen 8 Try.func105 ?_
 refine Zsr ?_
 refine Za ?_
 refine Znn ?_
 refine Zsq ?_
 refine Zsr ?_
 refine Zm ?_
 refine Zv (.bool true) (fun _ fr => x_seql Try.underlying29 rfl (fr.ev rfl) rfl rfl) ?_
 refine Znn ?_
 refine Zct ?_
 refine Zsr ?_
 refine Za ?_
 refine Znn ?_
 refine Zrt ?_
 refine Zr1 ?_
 refine Zre rfl [_] ⟨rfl, trivial⟩ ?_
 exact ⟨_, rfl, rfl, rfl⟩
theorem clonem_some {w : World} {A : Option Addr} {cap : Nat} {l : List Msg} (hV : View msgE w A cap l) {ad : Addr} (hA : A = some ad) (hl : l.length ≤ 1000000) : Calls Try.prog 105 #[.slice A l.length cap] w (Ret fun v w' => ∃ A' cap', v = .slice A' (l).length cap' ∧ Own msgE w' A' cap' (l) ∧ (∀ g, inA A' g → w.heap.size ≤ g) ∧ New w w') := by
 have hVl := hV.len
 unfold maxLen at hVl
 have hF := Only.refl (fun _ => False) w
 refine Zen 8 Try.func105 ?_
 refine Zsr ?_
 refine Za ?_
 refine Znn ?_
 refine Zsq ?_
 refine Zsr ?_
 refine Zm ?_
 refine Zv (.bool false) (fun _ fr => x_seql Try.underlying29 rfl (fr.ev rfl) rfl (by rw [hA]; rfl)) ?_
 refine Znn ?_
 refine Zcf ?_
 refine Zsk ?_
 refine Znx ?_
 refine Zsr ?_
 intro a fr
 refine fx_build0 (E := msgE) elMsg fr rfl rfl (by decide) rfl ?_
 clear fr a
 intro A1 w2 hN3 O4 hA5
 have gA_A1 := gA_new hF hA5
 refine Zm ?_
 intro a fr
 replace hV := hV.new hN3
 refine fx_append (E := msgE) (l := []) (l' := l) elMsg fr rfl rfl (by decide) rfl (fr.ev rfl) (fr.ev rfl) (by first | rfl | (simp; done) | (simp; omega)) (by first | rfl | (simp; done) | (simp; omega)) O4 hV (by first | omega | (simp; omega)) (by first | (unfold maxLen; done) | (unfold maxLen; first | omega | (simp only [List.length_append, List.length_cons, List.length_nil]; omega) | (simp; done) | (simp; omega))) ?_
 clear fr a
 intro A6 cap7 w8 O9 hO10 mv11
 replace hF := hF.trNew hN3
 have gA_A6 := gA_moved hF mv11 gA_A1
 clear O4
 refine Za ?_
 refine Znn ?_
 refine Zrt ?_
 refine Zre rfl [_] ⟨rfl, trivial⟩ ?_
 replace hF := hF.locA hO10 gA_A1
 exact ⟨_, rfl, _, _, rfl, O9, fun g hg => (gA_A6 g hg).resolve_left (fun h => h), hF⟩
theorem clonem_c {w : World} {A : Option Addr} {cap : Nat} {l : List Msg} (hV : View msgE w A cap l) (hl : l.length ≤ 1000000) : Calls Try.prog 105 #[.slice A l.length cap] w (Ret fun v w' => ∃ A' cap', v = .slice A' (l).length cap' ∧ Own msgE w' A' cap' (l) ∧ (∀ g, inA A' g → w.heap.size ≤ g) ∧ New w w') := by
  cases hA : A with
  | none =>
    subst hA
    obtain ⟨rfl, rfl⟩ := hV.none_
    refine (clonem_nil w).mono ?_
    rintro e w' ⟨v, rfl, rfl, rfl⟩
    exact ⟨_, rfl, none, 0, rfl, Own.nil, fun g hg => absurd hg (apart_none g), Only.refl _ _⟩
  | some ad =>
    subst hA
    exact clonem_some hV rfl hl
def zv4 : Value := .agg (#[.int .i64 0, .bool false, .bool false, .bool false, .bool false, .bool false, .int .i64 0, .int .i64 0, .int .i64 0, .bool false, .slice none 0 0])
theorem copied_c {w : World} {Q : Option Addr} {qc : Nat} {d : Ent} (hQ : View msgE w Q qc d.q) (hl : d.q.length ≤ 1000000) : Calls Try.prog 98 #[.agg (entA d (.slice Q d.q.length qc))] w (Ret fun v w' => ∃ Q' qc', v = .agg (entA d (.slice Q' d.q.length qc')) ∧ Own msgE w' Q' qc' d.q ∧ (∀ g, inA Q' g → w.heap.size ≤ g) ∧ New w w') := by
 have hF := Only.refl (fun _ => False) w
 refine Zen 8 Try.func98 ?_
 refine Zsr ?_
 refine Znb (cs := entA d (.slice Q d.q.length qc)) fun b1 w2 hN3 B4 hb5 => ?_
 have g_b1 := Nat.le_trans hF.size hb5
 refine Zna (z := zv4) (cs := #[.int .i64 0, .bool false, .bool false, .bool false, .bool false, .bool false, .int .i64 0, .int .i64 0, .int .i64 0, .bool false, .slice none 0 0]) (by kernel_rfl) fun b6 w7 hN8 B9 hb10 => ?_
 have ne_b1_b6 : NE b1 b6 := NE.mk (Nat.lt_of_lt_of_le B4.lt hb10)
 replace hF := hF.trNew hN3
 have g_b6 := Nat.le_trans hF.size hb10
 refine Znn ?_
 refine Zsr ?_
 refine Zf fo147_7 ?_
 replace B4 := B4.new hN8
 refine Zd (v := .slice Q d.q.length qc) pl29 (B4.cell 10 rfl) ?_
 replace hQ := (hQ.new hN3).new hN8
 refine Zk (args := #[.slice Q d.q.length qc]) cf105 (clonem_c hQ (by omega)) ?_
 rintro v w15 ⟨A11, cap12, rfl, O13, hA14, hN16⟩
 have ap_A11_b1 : Apart A11 b1 := new_apart hA14 B4.lt
 have ap_A11_b6 : Apart A11 b6 := new_apart hA14 B9.lt
 replace hF := hF.trNew hN8
 have gN_A11 := fun g (hg : inA A11 g) => Nat.le_trans hF.size (hA14 g hg)
 refine Zf fo147_7 ?_
 replace B4 := B4.new hN16
 refine Zs1 (cs' := entA ({ d with q := d.q }) (.slice A11 d.q.length cap12)) sz29 B4 (show 10 < 11 by decide) rfl fun w17 hO18 hBq => ?_
 replace B4 := hBq
 clear hBq
 refine Znn ?_
 refine Zsr ?_
 refine Zv _ (fun _ fr => x_loadS ag147 rfl (fr.ev rfl) rfl B4.range) ?_
 replace B9 := (B9.new hN16).only hO18 ne_b1_b6.symm
 refine ZsS sz147 (ent_all _ _ _ _) B9 rfl rfl fun w19 hO20 hBq => ?_
 replace B9 := hBq
 clear hBq
 refine Znn ?_
 refine Zrt ?_
 refine Zre rfl [_] ⟨⟨_, rfl, x_loadV ag147 rfl B9.range⟩, trivial⟩ ?_
 replace hF := ((hF.trNew hN16).loc hO18 (.inr g_b1)).loc hO20 (.inr g_b6)
 replace O13 := (O13.only hO18 (Apart.ne1 ap_A11_b1)).only hO20 (Apart.ne1 ap_A11_b6)
 exact ⟨_, rfl, A11, cap12, rfl, O13, gN_A11, hF⟩
theorem of_1 {w : World} {b bi r : Nat} (hB : Blk w b 140 #[.pointer (some ⟨bi, 0, none⟩), .map (some r)]) {L : List Slot} {c : Nat} {line : Int} (hMB : MapBlk w r (esOf L) c) {sb : Nat} (hf : (Instr.findNow (.int .u32) (.int .u32 line) (esOf L).toList 0).map (fun q => (match q with | some (_, u) => u | none => .pointer none, q.isSome)) = some (.pointer (some ⟨sb, 0, none⟩), true)) {d : Ent} {Q : Option Addr} {qc : Nat} (hE : Blk w sb 147 (entA d (.slice Q d.q.length qc))) (hQ : View msgE w Q qc d.q) (hl : d.q.length ≤ 1000000) : Calls Try.prog 87 #[.pointer (some ⟨b, 0, none⟩), .int .u32 line] w (Ret fun v w' => ∃ Q' qc', v = .agg (entA d (.slice Q' d.q.length qc')) ∧ Own msgE w' Q' qc' d.q ∧ (∀ g, inA Q' g → w.heap.size ≤ g) ∧ New w w') := by
 have hF := Only.refl (fun _ => False) w
 refine Zen 19 Try.func87 ?_
 refine Zsr ?_
 refine Zna (z := zv4) (cs := #[.int .i64 0, .bool false, .bool false, .bool false, .bool false, .bool false, .int .i64 0, .int .i64 0, .int .i64 0, .bool false, .slice none 0 0]) (by kernel_rfl) fun b1 w2 hN3 B4 hb5 => ?_
 have g_b1 := Nat.le_trans hF.size hb5
 refine Znn ?_
 refine Zsq ?_
 refine Zsr ?_
 refine Zm ?_
 refine Zn ?_
 refine Zf fo140_1 ?_
 replace hB := hB.new hN3
 refine Zd (v := .map (some r)) pl138 (hB.cell 1 rfl) ?_
 refine Zm ?_
 replace hMB := hMB.new hN3
 refine Zv (.pointer (some ⟨sb, 0, none⟩)) (fun _ fr => x_lookup (k := .u32) (ok := false) (v := .pointer (some ⟨sb, 0, none⟩)) (b := true) Try.underlying138 Try.underlying32 rfl (fr.ev rfl) (fr.ev rfl) hMB (z := .pointer none) (by kernel_rfl) hf) ?_
 refine Za ?_
 refine Znn ?_
 refine Zsr ?_
 refine Zm ?_
 refine Zv (.bool true) (fun _ fr => x_pneq Try.underlying144 rfl (fr.ev rfl) rfl rfl) ?_
 refine Znn ?_
 refine Zct ?_
 refine Zsr ?_
 refine Zm ?_
 refine Zn ?_
 replace hE := hE.new hN3
 refine Zv _ (fun _ fr => x_loadS ag147 rfl (fr.ev rfl) rfl hE.range) ?_
 replace hQ := hQ.new hN3
 refine Zk (args := #[.agg (entA d (.slice Q d.q.length qc))]) cf98 (copied_c (d := d) hQ (by omega)) ?_
 rintro v w10 ⟨Q6, qc7, rfl, OQ8, hA9, hN11⟩
 have ap_Q6_b1 : Apart Q6 b1 := new_apart hA9 B4.lt
 replace hF := hF.trNew hN3
 have gN_Q6 := fun g (hg : inA Q6 g) => Nat.le_trans hF.size (hA9 g hg)
 replace B4 := B4.new hN11
 refine ZsS sz147 (ent_all _ _ _ _) B4 rfl rfl fun w12 hO13 hBq => ?_
 replace B4 := hBq
 clear hBq
 refine Znn ?_
 refine Zrt ?_
 refine Zr1 ?_
 refine Zre rfl [_] ⟨⟨_, rfl, x_loadV ag147 rfl B4.range⟩, trivial⟩ ?_
 replace hF := (hF.trNew hN11).loc hO13 (.inr g_b1)
 replace OQ8 := OQ8.only hO13 (Apart.ne1 ap_Q6_b1)
 exact ⟨_, rfl, Q6, qc7, rfl, OQ8, gN_Q6, hF⟩
theorem of_0 {w : World} {b bi r : Nat} (hB : Blk w b 140 #[.pointer (some ⟨bi, 0, none⟩), .map (some r)]) {L : List Slot} {c : Nat} {line : Int} (hMB : MapBlk w r (esOf L) c) (hf : (Instr.findNow (.int .u32) (.int .u32 line) (esOf L).toList 0).map (fun q => (match q with | some (_, u) => u | none => .pointer none, q.isSome)) = some (.pointer none, false))  : Calls Try.prog 87 #[.pointer (some ⟨b, 0, none⟩), .int .u32 line] w (Ret fun v w' => v = .agg (entA ent0 (.slice none 0 0)) ∧ New w w') := by
 have hF := Only.refl (fun _ => False) w
 refine Zen 19 Try.func87 ?_
 refine Zsr ?_
 refine Zna (z := zv4) (cs := #[.int .i64 0, .bool false, .bool false, .bool false, .bool false, .bool false, .int .i64 0, .int .i64 0, .int .i64 0, .bool false, .slice none 0 0]) (by kernel_rfl) fun b1 w2 hN3 B4 hb5 => ?_
 have g_b1 := Nat.le_trans hF.size hb5
 refine Znn ?_
 refine Zsq ?_
 refine Zsr ?_
 refine Zm ?_
 refine Zn ?_
 refine Zf fo140_1 ?_
 replace hB := hB.new hN3
 refine Zd (v := .map (some r)) pl138 (hB.cell 1 rfl) ?_
 refine Zm ?_
 replace hMB := hMB.new hN3
 refine Zv (.pointer none) (fun _ fr => x_lookup (k := .u32) (ok := false) (v := .pointer none) (b := false) Try.underlying138 Try.underlying32 rfl (fr.ev rfl) (fr.ev rfl) hMB (z := .pointer none) (by kernel_rfl) hf) ?_
 refine Za ?_
 refine Znn ?_
 refine Zsr ?_
 refine Zm ?_
 refine Zv (.bool false) (fun _ fr => x_pneq Try.underlying144 rfl (fr.ev rfl) rfl rfl) ?_
 refine Znn ?_
 refine Zcf ?_
 refine Zsk ?_
 refine Znx ?_
 refine Zsr ?_
 refine Zv (.agg (#[.int .i64 (-1), .bool false, .bool false, .bool false, .bool false, .bool false, .int .i64 0, .int .i64 0, .int .i64 0, .bool false, .slice none 0 0])) (fun _ _ => x_build (cells := #[.int .i64 (-1), .bool false, .bool false, .bool false, .bool false, .bool false, .int .i64 0, .int .i64 0, .int .i64 0, .bool false, .slice none 0 0]) rfl (by kernel_rfl)) ?_
 refine ZsS sz147 (by simp [Value.oneCell']) B4 rfl rfl (ho := rfl) (hy := rfl) fun w6 hO7 hBq => ?_
 replace B4 := hBq
 clear hBq
 refine Znn ?_
 refine Zrt ?_
 refine Zre rfl [_] ⟨⟨_, rfl, x_loadV ag147 rfl B4.range⟩, trivial⟩ ?_
 replace hF := (hF.trNew hN3).loc hO7 (.inr g_b1)
 exact ⟨_, rfl, rfl, hF⟩
theorem hof_c {w : World} {b bi r : Nat} (hB : Blk w b 140 #[.pointer (some ⟨bi, 0, none⟩), .map (some r)]) {F : Nat → Prop} {E : List Ent} {L : List Slot} {c : Nat} (hM : EntsAt w F r E L c) (line : Int) (h0 : 0 ≤ line) (hl : (entOf E line.toNat).q.length ≤ 1000000) : Calls Try.prog 87 #[.pointer (some ⟨b, 0, none⟩), .int .u32 line] w (Ret fun v w' => ∃ Q' qc', v = .agg (entA (entOf E line.toNat) (.slice Q' (entOf E line.toNat).q.length qc')) ∧ Own msgE w' Q' qc' (entOf E line.toNat).q ∧ (∀ g, inA Q' g → w.heap.size ≤ g) ∧ New w w') := by
  have hn : line = ((line.toNat : Nat) : Int) := (Int.toNat_of_nonneg h0).symm
  by_cases hk : line.toNat ∈ L.map Slot.k
  · obtain ⟨s, hs, hsk⟩ := List.mem_map.1 hk
    have ha := hM.at_ s hs
    have hf := hM.find_some hs
    rw [hsk] at ha
    rw [hsk, ← hn] at hf
    exact of_1 hB hM.map hf ha.blk ha.q hl
  · have hf := EntsAt.find_none (L := L) hk
    rw [← hn] at hf
    refine (of_0 hB hM.map hf).mono ?_
    rintro e w' ⟨v, rfl, rfl, hn⟩
    rw [hM.no _ hk]
    exact ⟨_, rfl, none, 0, rfl, Own.nil, fun g hg => absurd hg (apart_none g), hn⟩
end Go.Proofs.Ytflnlmibkbojcaa
namespace Go.Proofs.Ytflnlmibkbojcaa
open Go.RowKit
theorem hcaught_idle (cl ce : Nat) (w : World) : CallsD Try.prog 86 #[.pointer (some ⟨cl, 0, none⟩), .pointer (some ⟨ce, 0, none⟩)] (.returning) w (fun e u' w' => e = .returned (.tuple #[]) ∧ u' = .returning ∧ w' = w) := by
 refine fx_enterS (args := #[.pointer (some ⟨cl, 0, none⟩), .pointer (some ⟨ce, 0, none⟩)]) Try.func86 rfl (N := (13, [])) (T := [(0, .pointer (some ⟨cl, 0, none⟩)), (1, .pointer (some ⟨ce, 0, none⟩))]) rfl (show 2 ≤ 13 by decide) ⟨rfl, rfl, trivial⟩ rfl rfl (by decide) (fun _ _ => rfl) (u1 := .returning) (rv := .nilIface) (.inl ⟨rfl, rfl, rfl⟩) fun c₀ cs a fr => ?_
 refine wp_block ?_
 refine wp_seq ?_
 refine wp_region_lit ?_
 refine fx_val (v := .bool true) fr rfl rfl (by first | decide | simp) (x_ieqn Try.underlying20 rfl (fr.ev rfl) rfl) ?_
 clear fr a; intro a fr
 refine wpList_nil ?_
 refine fx_next ?_
 refine fx_cond_t fr rfl ?_
 refine wp_region_lit ?_
 refine fx_val (v := .nilIface) fr rfl rfl (by first | decide | simp) (x_assign rfl (fr.ev rfl)) ?_
 clear fr a; intro a fr
 refine wpList_nil ?_
 refine fx_blk ?_
 refine fx_retS fr [] [] rfl trivial rfl ?_
 exact ⟨rfl, rfl, rfl⟩
theorem hcaught_stop {w : World} {cl ce : Nat} {y : Value} {x0 : Int} (hC : Blk w cl 29 #[y]) (hK : Blk w ce 26 #[.int .i64 x0]) (ne_cl_ce : NE cl ce) (why : Int) : CallsD Try.prog 86 #[.pointer (some ⟨cl, 0, none⟩), .pointer (some ⟨ce, 0, none⟩)] (.panicking [{ v := .iface 170 (.agg #[.int .i64 why]), recovered := false }]) w (fun e u' w' => e = .returned (.tuple #[]) ∧ u' = .panicking [{ v := .iface 170 (.agg #[.int .i64 why]), recovered := true }] ∧ Blk w' cl 29 #[.slice none 0 0] ∧ Blk w' ce 26 #[.int .i64 why] ∧ Only (fun k => k = cl ∨ k = ce) w w') := by
 have hF := Only.refl (fun k => k = cl ∨ k = ce) w
 refine fx_enterS (args := #[.pointer (some ⟨cl, 0, none⟩), .pointer (some ⟨ce, 0, none⟩)]) Try.func86 rfl (N := (13, [])) (T := [(0, .pointer (some ⟨cl, 0, none⟩)), (1, .pointer (some ⟨ce, 0, none⟩))]) rfl (show 2 ≤ 13 by decide) ⟨rfl, rfl, trivial⟩ rfl rfl (by decide) (fun _ _ => rfl) (u1 := .panicking [{ v := .iface 170 (.agg #[.int .i64 why]), recovered := true }]) (rv := .iface 170 (.agg #[.int .i64 why])) (.inr ⟨rfl, rfl⟩) fun c₀ cs a fr => ?_
 refine wp_block ?_
 refine wp_seq ?_
 refine wp_region_lit ?_
 refine fx_val (v := .bool false) fr rfl rfl (by first | decide | simp) (x_ieql Try.underlying20 rfl (fr.ev rfl) rfl) ?_
 clear fr a; intro a fr
 refine wpList_nil ?_
 refine fx_next ?_
 refine fx_cond_f fr rfl ?_
 refine wp_seq ?_
 refine wp_region_lit ?_
 refine fx_val (v := .tuple #[.agg (#[.int .i64 why]), .bool true]) fr rfl rfl (by first | decide | simp) (x_typeAssert rfl (fr.ev rfl) Try.underlying170 rfl) ?_
 clear fr a; intro a fr
 refine fx_val (v := .bool true) fr rfl rfl (by first | decide | simp) (x_extract rfl (fr.ev rfl) rfl) ?_
 clear fr a; intro a fr
 refine fx_val (v := .agg (#[.int .i64 why])) fr rfl rfl (by first | decide | simp) (x_extract rfl (fr.ev rfl) rfl) ?_
 clear fr a; intro a fr
 refine wpList_nil ?_
 refine fx_next ?_
 refine fx_cond_t fr rfl ?_
 refine wp_seq ?_
 refine wp_region_lit ?_
 refine fx_new fr rfl rfl (by first | decide | simp) (x_alloc (z := .agg (#[.int .i64 0])) (cs := #[.int .i64 0]) rfl (by kernel_rfl) rfl) ?_
 clear fr a
 intro b1 w2 hN3 B4 hb5 a fr
 have ne_cl_b1 : NE cl b1 := NE.mk (Nat.lt_of_lt_of_le hC.lt hb5)
 have ne_ce_b1 : NE ce b1 := NE.mk (Nat.lt_of_lt_of_le hK.lt hb5)
 have g_b1 := Nat.le_trans hF.size hb5
 replace hC := hC.new hN3
 replace hK := hK.new hN3
 replace hF := hF.trNew hN3
 refine fx_storeS sz170 rfl rfl rfl (fr.ev rfl) (fr.ev rfl) (by simp [Value.oneCell']) B4 rfl rfl fun w6 hO7 hBq => ?_
 replace hC := hC.only hO7 (by first | exact ne_cl_b1 | exact ne_b1_cl.symm | (show ¬ cl = b1; omega))
 replace hK := hK.only hO7 (by first | exact ne_ce_b1 | exact ne_b1_ce.symm | (show ¬ ce = b1; omega))
 replace hF := hF.loc hO7 (.inr g_b1)
 replace B4 := hBq
 clear hBq
 refine wpList_nil ?_
 refine fx_next ?_
 refine fx_heldT (n := 3) (k := 3) (fun w => Blk w ce 26 #[.int .i64 x0] ∧ Blk w b1 170 (#[.int .i64 why]) ∧ True) (by kernel_rfl) (by kernel_rfl) rfl ?_
 intro w8 hN9
 replace hC := hC.new hN9
 replace hK := hK.new hN9
 replace B4 := B4.new hN9
 replace hF := hF.trNew hN9
 refine fx_take (i := 0) (v := .pointer (some ⟨b1, 0, none⟩)) fr rfl (by kernel_rfl) rfl rfl (by first | decide | simp) (fun _ _ _ h => h) (fun _ ⟨hK, B4, _⟩ => x_fieldAddr fo170_0 rfl (fr.ev rfl) rfl) ⟨hK, B4, trivial⟩ ?_
 clear fr a; intro a fr
 refine fx_take (i := 1) (v := .int .i64 why) fr rfl (by kernel_rfl) rfl rfl (by first | decide | simp) (fun _ _ _ h => h) (fun _ ⟨hK, B4, _⟩ => x_load1 pl26 rfl (fr.ev rfl) (B4.cell 0 rfl)) ⟨hK, B4, trivial⟩ ?_
 clear fr a; intro a fr
 refine fx_one (i := 2) (by kernel_rfl) (fx_op rfl ?_)
 refine fx_store1 sz29 rfl rfl rfl (fr.ev rfl) rfl rfl hC (show 0 < 1 by decide) (cs' := #[.slice none 0 0]) rfl fun w10 hO11 hBq => ?_
 replace hK := hK.only hO11 (by first | exact ne_ce_cl | exact ne_cl_ce.symm | (show ¬ ce = cl; omega))
 replace B4 := B4.only hO11 (by first | exact ne_b1_cl | exact ne_cl_b1.symm | (show ¬ b1 = cl; omega))
 replace hF := hF.loc hO11 (.inl (.inl rfl))
 replace hC := hBq
 clear hBq
 refine wpList_nil ?_
 refine ⟨⟨hK, B4, trivial⟩, ?_⟩
 refine fx_hdone (by kernel_rfl) ?_
 refine fx_tail ?_
 refine fx_store1 sz26 rfl rfl rfl (fr.ev rfl) (fr.ev rfl) rfl hK (show 0 < 1 by decide) (cs' := #[.int .i64 why]) rfl fun w12 hO13 hBq => ?_
 replace B4 := B4.only hO13 (by first | exact ne_b1_ce | exact ne_ce_b1.symm | (show ¬ b1 = ce; omega))
 replace hC := hC.only hO13 (by first | exact ne_cl_ce | exact ne_ce_cl.symm | (show ¬ cl = ce; omega))
 replace hF := hF.loc hO13 (.inl (.inr rfl))
 replace hK := hBq
 clear hBq
 refine wpList_nil ?_
 refine fx_blk ?_
 refine fx_retS fr [] [] rfl trivial rfl ?_
 exact ⟨rfl, rfl, hC, hK, hF⟩
end Go.Proofs.Ytflnlmibkbojcaa
