/-
  Part 4 of what the claim stands on: walks through the code, plain laws.
-/
import Derived.Test.YtpfijldkkfiooaaGreatDoorZTA3
set_option linter.unusedVariables false
set_option linter.unusedSimpArgs false
namespace Go.Proofs.YtpfijldkkfiooaaGreatDoor
open Go
set_option maxRecDepth 4000
def askM (i line : Int) (wr : Bool) (h : U32 line) : Msg := mkM (if wr then 2 else 1) i 4 line b16z h
def putM (i : Int) (x : Ln) : Msg := mkM 3 i 4 x.num x.bs x.hn
def CD.setG (d : CD) (L : List Ln) (g : Option Ln) : CD := ⟨d.id, d.n, d.ways, L, d.ask, g⟩
def CD.setA (d : CD) (a : Option (Int × Bool)) : CD := ⟨d.id, d.n, d.ways, d.L, a, d.giv⟩
def outF (d : CD) (x : Ln) : CD × List Msg × Bool :=
  if x.state = 1 then (d.setL (dropL d.L x.num), [], true)
  else match d.giv with
    | some _ => (d, [], false)
    | none => (d.setG (dropL d.L x.num) (some x), [putM d.id x], true)
theorem CD.Ok.setG {d : CD} (h : d.Ok) (num : Int) (g : Option Ln) : (d.setG (dropL d.L num) g).Ok := { h with un := h.un.drop num, fit := h.fit.drop num }
theorem CD.Ok.setA {d : CD} (h : d.Ok) (l : Int) (wr : Bool) (hl : U32 l) : (d.setA (some (l, wr))).Ok := { h with ask := fun l' wr' e => by cases e; exact hl }
theorem out_ok {d : CD} (h : d.Ok) (x : Ln) : (outF d x).1.Ok := by
  unfold outF
  split
  · exact h.drop _
  · split
    · exact h
    · exact h.setG _ _
theorem none_of {p : Option Addr} {α : Type} {g : Option α} (h : p.isSome = g.isSome) (hg : g = none) : p = none := by
  subst hg
  cases p with
  | none => rfl
  | some a => cases h
theorem c201 (b : Nat) (d : CD) (x : Ln) : Sp Tryz.prog 201 [.pointer (some ⟨b, 0, none⟩), .agg (lnE.arr x)] [.hp (cacC b d)] fun K => ∀ A cap, K (.returned (.tuple #[.slice A (outF d x).2.1.length cap, .bool (outF d x).2.2])) [.hp (own msgE A cap (outF d x).2.1), .hp (cacC b (outF d x).1)] := by
  have hn := x.hn
  by_cases h1 : x.state = 1
  · have e1 : outF d x = (d.setL (dropL d.L x.num), [], true) := if_pos h1
    rw [e1]
    refine Zen Tryz.func201 rfl rfl rfl fun e X Φ hS => Zoc 0 cac_op rfl <| fun ok lb pa pg hha hg => ?_
    refine Zsr <| Ze (ebxE rfl) fun b3 => Zw <| Zv (ya rfl) <| Zv (ya rfl) <| Znl <| Znx <| Zsq <| Zsr <| Zv (yf 1 rfl) <| Zv (yd 0 rfl rfl rfl) ?_
    refine Zv (yeq rfl rfl) <| Znl <| Znx <| Zct' rfl (decide_eq_true h1) <| Zsq ?_
    refine Zhd [2] rfl rfl <| Zht 0 rfl (ym rfl) <| Zht 1 rfl (yn rfl) <| Zht 2 rfl (yf 1 rfl) <| Zht 3 rfl (yd 1 rfl rfl rfl) <| Zht 4 rfl (yf 0 rfl) <| Zht 5 rfl (yd 0 rfl rfl rfl) ?_
    refine Zh1 6 (by kernel_rfl) <| Zok (c233 lb d.n d.ways x.num d.L (by have := ok.w0; omega) hn ok.un (Nat.le_trans ok.len (by decide))) [0] rfl rfl rfl <| Zqh 1 rfl <| Zhn (by kernel_rfl) <| Znx <| Zsr <| Zv (ya rfl) <| Zv (ya rfl) <| Znl <| Znx <| Zrt ?_
    refine Zr1 ?_
    have ok' := ok.drop x.num
    refine Zfx [2,0,1,1] (cac_fold (b := b) (d := d.setL (dropL d.L x.num)) ok') rfl ?_
    refine Zix (fun _ hs => sep_nil (E := msgE) hs) <| Zre (.t rfl (.t rfl .n)) (hS _ _) [0,0] 1 rfl rfl rfl rfl
  · cases hgv : d.giv with
    | some y =>
      have e1 : outF d x = (d, [], false) := by unfold outF; rw [if_neg h1, hgv]
      rw [e1]
      refine Zen Tryz.func201 rfl rfl rfl fun e X Φ hS => Zoc 0 cac_op rfl <| fun ok lb pa pg hha hg => ?_
      have hg' : pg.isSome = true := by rw [hg, hgv]; rfl
      refine Zsr <| Ze (ebxE rfl) fun b3 => Zw <| Zv (ya rfl) <| Zv (ya rfl) <| Znl <| Znx <| Zsq <| Zsr <| Zv (yf 1 rfl) <| Zv (yd 0 rfl rfl rfl) ?_
      refine Zv (yeq rfl rfl) <| Znl <| Znx <| Zcf' rfl (decide_eq_false h1) <| Zsk <| Znx <| Zsq <| Zsr <| Zv (ym rfl) <| Zv (yn rfl) ?_
      refine Zv (yf 3 rfl) <| Zv (yd 1 rfl rfl rfl) <| Zv (ypne rfl rfl rfl) <| Znl <| Znx <| Zct' rfl hg' <| Zsr <| Zv (ya rfl) <| Zv (ya rfl) <| Znl ?_
      refine Znx <| Zrt <| Zr1 ?_
      refine Zfx [1,1,1,1] (cac_fold (b := b) (d := d) ok) rfl ?_
      refine Zix (fun _ hs => sep_nil (E := msgE) hs) <| Zre (.t rfl (.t rfl .n)) (hS _ _) [0,0] 1 rfl rfl rfl rfl
      | none =>
      have e1 : outF d x = (d.setG (dropL d.L x.num) (some x), [putM d.id x], true) := by unfold outF; rw [if_neg h1, hgv]
      rw [e1]
      refine Zen Tryz.func201 rfl rfl rfl fun e X Φ hS => Zoc 0 cac_op rfl <| fun ok lb pa pg hha hg => ?_
      have hg' : pg = none := none_of hg hgv
      subst hg'
      refine Zsr <| Ze (ebxE rfl) fun b3 => Zw <| Zv (ya rfl) <| Zv (ya rfl) <| Znl <| Znx <| Zsq <| Zsr <| Zv (yf 1 rfl) <| Zv (yd 0 rfl rfl rfl) ?_
      refine Zv (yeq rfl rfl) <| Znl <| Znx <| Zcf' rfl (decide_eq_false h1) <| Zsk <| Znx <| Zsq <| Zsr <| Zv (ym rfl) <| Zv (yn rfl) ?_
      refine Zv (yf 3 rfl) <| Zv (yd 1 rfl rfl rfl) <| Zv (ypne rfl rfl rfl) <| Znl <| Znx <| Zcf rfl <| Zsk <| Znx <| Zsq ?_
      refine Zhd [2] rfl rfl <| Zht 0 rfl (ym rfl) <| Zht 1 rfl (yn rfl) <| Zht 2 rfl (yf 1 rfl) <| Zht 3 rfl (yd 1 rfl rfl rfl) <| Zht 4 rfl (yf 0 rfl) <| Zht 5 rfl (yd 0 rfl rfl rfl) ?_
      refine Zh1 6 (by kernel_rfl) <| Zok (c233 lb d.n d.ways x.num d.L (by have := ok.w0; omega) hn ok.un (Nat.le_trans ok.len (by decide))) [0] rfl rfl rfl <| Zqh 1 rfl <| Zhn (by kernel_rfl) <| Znx <| Zsr <| Zv (ym rfl) <| Zv (yn rfl) <| Zv (yf 3 rfl) <| Ze (es 2 rfl rfl rfl rfl rfl) <| Zw0 <| Znl ?_
      refine Znx <| Zsr <| Zv (ym rfl) <| Zv (yf 0 rfl) <| Zv (yd 1 rfl rfl rfl) ?_
      refine Zk (c232 b d.id 3 x.num hn (.pointer (some ⟨lb, 0, none⟩)) (.pointer pa) (.pointer (some ⟨b3, 0, none⟩))) [2] rfl rfl <| Zq <| Ze (eal z117) fun b6 => Zw <| Ze (esw 0 (m := 20) rfl rfl rfl rfl rfl (Enc.len ..) (Enc.allL ..)) <| Zw0 <| Znl <| Znx <| Zsr <| Zv (yf 2 rfl) <| Zv (yda 3 (m := 16) rfl rfl (ln_bs' _) (Enc.len ..)) <| Zv (yf 4 rfl) ?_
      refine Ze (esc 0 (m := 16) rfl rfl rfl (pt_mbs _ _) rfl (Enc.len ..) (by rw [Enc.len]; decide) (Enc.allL ..)) <| Zw0 <| Znl <| Znx <| Zsr <| Zv (ydw 0 (m := 20) rfl rfl (Enc.len ..)) <| Ze (eb1 elMsg (by decide) rfl) fun A40 => Zw <| Zv (ya rfl) <| Zv (ya rfl) <| Znl <| Znx ?_
      refine Zrt ?_
      have ok' := ok.setG x.num (some x)
      refine Zfx [4] (giv_f1 (b := b3) (x := x)) rfl ?_
      refine Zfx [3,3,3,0] (cac_fold (b := b) (d := d.setG (dropL d.L x.num) (some x)) ok') rfl <| Zre (.t rfl (.t rfl .n)) (hS _ _) [1,0] 2 rfl rfl rfl rfl
theorem c23 (b : Nat) (d : CD) : Sp Tryz.prog 23 [.pointer (some ⟨b, 0, none⟩)] [.hp (cacC b d)] fun K => ∀ A cap, K (.returned (.slice A (allL d.n d.L).length cap)) [.hp (own lnE A cap (allL d.n d.L)), .hp (cacC b d)] := by
  refine Zen Tryz.func23 rfl rfl rfl fun e X Φ hS => Zoc 0 cac_op rfl <| fun ok lb pa pg hha hg => ?_
  have hl := ok.len
  have hl2 := allL_len ok.n0 d.L
  refine Zsr <| Zv (ya rfl) <| Znl <| Znx <| Zsq <| Zsr <| Zv (ym rfl) <| Zk (c59 ..) [0] rfl rfl <| Zq <| Znl ?_
  refine Znx <| Zcf rfl <| Zsk <| Znx <| Zsr <| Zv (ym rfl) <| Zv (yn rfl) <| Zv (yf 1 rfl) <| Zv (yd 0 rfl rfl rfl) ?_
  refine Zk (c61 lb d.n d.ways d.L (by have := ok.w0; omega) (by omega)) [1] rfl rfl <| fun b1 => fun b' => Zq ?_
  refine Zfl [1,0] (p := Sep [.hp (linesC b' d.n d.ways d.L), .blk b1 151 [.pointer (some ⟨b', 0, none⟩)]]) (fun _ h => h) rfl ?_
  refine Zk (c60 (q107 b' b1 d.n d.ways d.L (by omega)).one (by omega) (by kernel_rfl)) [0] rfl rfl <| fun A => fun cap => Zq <| Zv (ya rfl) <| Znl <| Znx <| Zrt ?_
  refine Zfx [2,1,1,1] (cac_fold (b := b) (d := d) ok) rfl <| Zre (.t rfl .n) (hS _ _) [1,0] 0 rfl rfl rfl rfl
theorem cac_ok {b : Nat} {d : CD} : Op_ (cacC b d) fun K => d.Ok → K [.hp (cacC b d)] := .mk fun G k h hh => ⟨_, k hh.1, sep_hp1 hh⟩
def evictF (d : CD) (pick : Int) : CD × List Msg := if d.L = [] then (d, []) else ((outF d ((allL d.n d.L).getD (pickAt pick d.L.length) ln0)).1, (outF d ((allL d.n d.L).getD (pickAt pick d.L.length) ln0)).2.1)
theorem c144 (b : Nat) (d : CD) (pick : Int) (hp : -9223372036854775808 ≤ pick ∧ pick ≤ 9223372036854775807) : Sp Tryz.prog 144 [.pointer (some ⟨b, 0, none⟩), .int .i64 pick] [.hp (cacC b d)] fun K => ∀ A cap, K (.returned (.slice A (evictF d pick).2.length cap)) [.hp (own msgE A cap (evictF d pick).2), .hp (cacC b (evictF d pick).1)] := by
  refine Zen Tryz.func144 rfl rfl rfl fun e X Φ hS => Zoc 0 cac_ok rfl <| fun ok => ?_
  have hl := ok.len
  have hl2 := allL_len ok.n0 d.L
  refine Zsr <| Zv (ya rfl) <| Znl <| Znx <| Zsr <| Zv (ym rfl) <| Zk (c23 ..) [0] rfl rfl <| fun A => fun cap => Zq ?_
  refine Zv (ya rfl) <| Znl <| Znx <| Zsq <| Zsr <| Zv (ym rfl) <| Zv (sl_of ⟨_, Tryz.underlying79⟩ rfl) <| Zv (yeq rfl rfl) <| Znl <| Znx ?_
  refine Zif rfl (fun h12 => ?_) (fun h12 => ?_)
  refine Zsr <| Zv (ya rfl) <| Znl <| Znx <| Zrt <| Zr1 ?_
  rotate_left
  refine Zsk <| Znx <| Zsr <| Zv (ym rfl) <| Zv (ym rfl) <| Zv (ym rfl) <| Zv (ym rfl) <| Zv (sl_of ⟨_, Tryz.underlying79⟩ rfl) <| Zv (yrem rfl rfl (by assumption) rfl) <| Zv (ym rfl) ?_
  refine Zv (sl_of ⟨_, Tryz.underlying79⟩ rfl) <| Zv (yadd rfl rfl rfl) <| Zv (ym rfl) <| Zv (sl_of ⟨_, Tryz.underlying79⟩ rfl) <| Zv (yrem rfl rfl (by assumption) rfl) ?_
  rotate_left
  · have h0 : d.L = [] := List.length_eq_zero_iff.1 (by omega)
    have e1 : evictF d pick = (d, []) := if_pos h0
    rw [e1] at hS
    refine Zix (fun _ hs => sep_nil (E := msgE) hs) <| Zre (.t rfl .n) (hS _ _) [0,1] 1 rfl rfl rfl rfl
  · have h0 : ¬ d.L = [] := fun h => h12 (by rw [hl2, h]; rfl)
    have e1 : evictF d pick = ((outF d ((allL d.n d.L).getD (pickAt pick d.L.length) ln0)).1, (outF d ((allL d.n d.L).getD (pickAt pick d.L.length) ln0)).2.1) := if_neg h0
    rw [e1] at hS
    obtain ⟨p1, p2, p3, p4⟩ := pick_lt pick (n := (allL d.n d.L).length) (by omega)
    have e2 : IntKind.i64.wrap (pick.tmod (allL d.n d.L).length + (allL d.n d.L).length) = pick.tmod (allL d.n d.L).length + (allL d.n d.L).length := i64w rfl (by omega)
    have e3 : (allL d.n d.L).getD (pickAt pick d.L.length) ln0 = (allL d.n d.L)[pickAt pick (allL d.n d.L).length] := by
      rw [← hl2]
      simp [List.getD, p2]
    rw [e3] at hS
    rw [e2, p1]
    refine Zv (yea 0 own.rd rfl rfl rfl (by first | assumption | omega) rfl Tryz.underlying79 rfl) <| Zv (yel 0 own.rd rfl (gE (by first | assumption | omega)) rfl rfl rfl) <| Zk (c201 ..) [1] rfl rfl <| fun A_1 => fun cap_1 => Zq <| Zv (ym rfl) <| Zv (yx rfl rfl) <| Zv (yx rfl rfl) <| Zv (ya rfl) ?_
    refine Zv (ya rfl) <| Znl <| Znx <| Zsr <| Zv (ym rfl) <| Zv (ya rfl) <| Znl <| Znx <| Zrt <| Zre (.t rfl .n) (hS _ _) [0,0] 1 rfl rfl rfl rfl
def mine (g : Option Ln) (line : Int) : Bool := match g with | some x => decide (x.num = line) | none => false
def askF (d : CD) (line : Int) (h : U32 line) (wr : Bool) (pick : Int) : CD × List Msg × Int :=
  if d.ask.isSome = true ∨ mine d.giv line = true then (d, [], 230)
  else if stateOf d.L line ≠ 0 ∧ (wr = false ∨ writesB (stateOf d.L line) = true) then (d, [], 231)
  else match vicL d.n d.ways d.L line pick with
    | none => (d.setA (some (line, wr)), [askM d.id line wr h], 0)
    | some x => if (outF d x).2.2 = true then ((outF d x).1.setA (some (line, wr)), (outF d x).2.1 ++ [askM d.id line wr h], 0) else (d, [], 230)
theorem out_no {d : CD} {x : Ln} (h : (outF d x).2.2 = false) : outF d x = (d, [], false) := by
  unfold outF at *
  split
  · rename_i h1; rw [if_pos h1] at h; cases h
  · rename_i h1
    rw [if_neg h1] at h
    cases hg : d.giv with
    | none => rw [hg] at h; cases h
    | some y => rfl
theorem out_len (d : CD) (x : Ln) : (outF d x).2.1.length ≤ 1 := by
  unfold outF
  split
  · simp
  · split <;> simp
theorem out_id (d : CD) (x : Ln) : (outF d x).1.id = d.id := by
  unfold outF
  split
  · rfl
  · split <;> rfl
theorem c224 (b : Nat) (d : CD) (line pick : Int) (wr : Bool) (h : U32 line) (hp : -9223372036854775808 ≤ pick ∧ pick ≤ 9223372036854775807) : Sp Tryz.prog 224 [.pointer (some ⟨b, 0, none⟩), .int .u32 line, .bool wr, .int .i64 pick] [.hp (cacC b d)] fun K => ∀ A cap, K (.returned (.tuple #[.slice A (askF d line h wr pick).2.1.length cap, .int .i64 (askF d line h wr pick).2.2])) [.hp (own msgE A cap (askF d line h wr pick).2.1), .hp (cacC b (askF d line h wr pick).1)] := by
  refine Zen Tryz.func224 rfl rfl rfl fun e X Φ hS => Zoc 0 cac_op rfl <| fun ok lb pa pg hha hg => ?_
  refine Zsr <| Zv (ya rfl) <| Zv (ya rfl) <| Znl <| Znx <| Zsq <| Zsr <| Zv (ym rfl) <| Zk (c59 ..) [0] rfl rfl <| Zq ?_
  refine Znl <| Znx <| Zcf rfl <| Zsk <| Znx <| Zsr <| Zv (ym rfl) <| Zv (ym rfl) ?_
  refine Zfl [0,0,0,0] (cac_fold (b := b) (d := d) ok) rfl ?_
  refine Zk (c97 b d line h) [0] rfl rfl <| Zq <| Zv (ya rfl) <| Znl <| Znx ?_
  refine Zjq (ι := PLift (¬ (d.ask.isSome = true ∨ mine d.giv line = true) ∧ ¬ (stateOf d.L line ≠ 0 ∧ (wr = false ∨ writesB (stateOf d.L line) = true)))) (fun _ => [(0, .pointer (some ⟨b, 0, none⟩)), (1, .int .u32 line), (2, .bool wr), (3, .int .i64 pick), (8, .slice none 0 0)]) (fun _ => [.hp (cacC b d)]) X ?_ fun i => ?_
  refine Zbl <| Zsr <| Zv (ym rfl) <| Zv (yn rfl) <| Zv (yf 2 rfl) ?_
  rotate_left
  refine Zsq <| Zsr <| Zv (ym rfl) <| Zv (yn rfl) <| Zv (yf 1 rfl) ?_
  rotate_left
  · rcases Option.eq_none_or_eq_some d.ask with hak | ⟨lw, hak⟩
    rotate_left
    · have e1 : askF d line h wr pick = (d, [], 230) := if_pos (.inl (by rw [hak]; rfl))
      rw [e1] at hS
      refine Zol 0 cac_op rfl <| fun _ lb pa pg hha hg => ?_
      have h1 : pa.isSome = true := by rw [hha, hak]; rfl
      refine Zv (yd 0 rfl rfl rfl) <| Zv (ypne rfl rfl rfl) <| Zv (ym rfl) <| Zu' rfl rfl h1 rfl <| Zu' rfl rfl h1 rfl <| Zu' rfl rfl h1 rfl <| Zu' rfl rfl h1 rfl <| Zu' rfl rfl h1 rfl <| Zu' rfl rfl h1 rfl <| Zuu rfl rfl ?_
      refine Zuu rfl rfl <| Zuu rfl rfl <| Zuu rfl rfl <| Zuu rfl rfl <| Zuu rfl rfl <| Zuu rfl rfl <| Zuu rfl rfl <| Zuu rfl rfl <| Zu' rfl rfl h1 rfl <| Zv (ypt' rfl h1 rfl) ?_
      refine Zv (ya rfl) <| Znl <| Znx <| Zct rfl <| Zsr <| Zv (ya rfl) <| Zv (ya rfl) <| Znl <| Znx <| Zrt ?_
      refine Zr2 <| Zr1 ?_
      refine Zfx [0,0,0,0] (cac_fold (b := b) (d := d) ok) rfl ?_
      refine Zix (fun _ hs => sep_nil (E := msgE) hs) <| Zre (.t rfl (.t rfl .n)) (hS _ _) [0,0] 0 rfl rfl rfl rfl
    · have ha0 : ¬ d.ask.isSome = true := by rw [hak]; simp
      rcases Option.eq_none_or_eq_some d.giv with hgv | ⟨x, hgv⟩
      rotate_left
      · refine Zol 0 cac_op rfl <| fun _ lb pa pg hha hg => ?_
        have h1 : pa.isSome = false := by rw [hha, hak]; rfl
        rw [hgv]
        refine Zol 3 giv_op1 rfl <| fun bg eg => ?_
        subst eg
        refine Zv (yd 1 rfl rfl rfl) <| Zv (ypne rfl rfl rfl) <| Zv (ym rfl) <| Zg' rfl rfl h1 <| Zv (ym rfl) <| Zg' rfl rfl h1 <| Zv (yn rfl) <| Zg' rfl rfl h1 <| Zv (yf 3 rfl) <| Zg' rfl rfl h1 ?_
        refine Zv (yd 1 rfl rfl rfl) <| Zg' rfl rfl h1 <| Zv (ypne rfl rfl rfl) <| Zg' rfl rfl h1 <| Zv (ym rfl) <| Zg rfl rfl <| Zv (ym rfl) <| Zg rfl rfl <| Zv (yn rfl) <| Zg rfl rfl ?_
        refine Zv (yf 3 rfl) <| Zg rfl rfl <| Zv (yd 1 rfl rfl rfl) <| Zg rfl rfl <| Zv (yn rfl) <| Zg rfl rfl <| Zv (yf 0 rfl) <| Zg rfl rfl <| Zv (yd 0 rfl rfl rfl) <| Zg rfl rfl ?_
        refine Zv (ym rfl) <| Zg rfl rfl <| Zv (yeq rfl rfl) <| Zg' rfl rfl h1 <| Zv (ypt rfl rfl) <| Zv (ypf' rfl h1 rfl) <| Zv (ya rfl) <| Znl <| Znx <| Zif rfl (fun h21 => ?_) (fun h21 => ?_)
        refine Zsr <| Zv (ya rfl) <| Zv (ya rfl) <| Znl <| Znx <| Zrt <| Zr2 <| Zr1 ?_
        rotate_left
        refine Zsr <| Zv (ym rfl) <| Zv (yne rfl rfl) <| Zv (ym rfl) <| Zgs rfl rfl (fun h48 => ?_) (fun h48 => ?_)
        refine Zg' rfl rfl (decide_eq_true h48) <| Zv (ym rfl) <| Zg' rfl rfl (decide_eq_true h48) <| Zv (ynot rfl) <| Zg' rfl rfl (decide_eq_true h48) <| Zv (ym rfl) <| Zgb rfl rfl (fun h51 => ?_) (fun h51 => ?_)
        refine Zu' rfl rfl h51 rfl <| Zu' rfl rfl h51 rfl <| Zg' rfl rfl (decide_eq_true h48) <| Zv (ypt' rfl h51 rfl) <| Zv (ypt' rfl (decide_eq_true h48) rfl) <| Zv (ya rfl) <| Znl <| Znx <| Zct rfl <| Zsr ?_
        refine Zv (ya rfl) <| Zv (ya rfl) <| Znl <| Znx <| Zrt <| Zr2 <| Zr1 ?_
        rotate_left
        refine Zg' rfl rfl h51 <| Zv (ym rfl) <| Zg' rfl rfl h51 <| Zk (c222 ..) [] rfl rfl <| Zq <| Zg' rfl rfl (decide_eq_true h48) <| Zv (ypf' rfl h51 rfl) <| Zv (ypt' rfl (decide_eq_true h48) rfl) <| Zv (ya rfl) <| Znl ?_
        refine Znx <| Zib rfl (fun h45 => ?_) (fun h45 => ?_)
        refine Zsr <| Zv (ya rfl) <| Zv (ya rfl) <| Znl <| Znx <| Zrt <| Zr2 <| Zr1 ?_
        rotate_left
        refine Zsk <| Zxn ?_
        rotate_left
        refine Zu' rfl rfl (decide_eq_false h48) rfl <| Zu' rfl rfl (decide_eq_false h48) rfl <| Zu' rfl rfl (decide_eq_false h48) rfl <| Zuu rfl rfl <| Zuu rfl rfl <| Zu' rfl rfl (decide_eq_false h48) rfl <| Zv (ypf' rfl (decide_eq_false h48) rfl) <| Zv (ya rfl) <| Znl <| Znx ?_
        refine Zcf rfl <| Zsk <| Zxn ?_
        rotate_left
        all_goals refine Zfx [0] (giv_f1 (b := bg) (x := x)) rfl ?_
        all_goals rw [← hgv]
        all_goals refine Zfx [1,1,1,0] (cac_fold (b := b) (d := d) ok) rfl ?_
        · have e1 : askF d line h wr pick = (d, [], 230) := if_pos (.inr (by rw [hgv]; simp [mine, h21]))
          rw [e1] at hS
          refine Zix (fun _ hs => sep_nil (E := msgE) hs) <| Zre (.t rfl (.t rfl .n)) (hS _ _) [0,0] 0 rfl rfl rfl rfl
        all_goals have hm : ¬ (d.ask.isSome = true ∨ mine d.giv line = true) := fun hh => hh.elim ha0 (by rw [hgv]; simp [mine, h21])
        · have e1 : askF d line h wr pick = (d, [], 231) := (if_neg hm).trans (if_pos ⟨h48, .inl (by simpa using h51)⟩)
          rw [e1] at hS
          refine Zix (fun _ hs => sep_nil (E := msgE) hs) <| Zre (.t rfl (.t rfl .n)) (hS _ _) [0,0] 0 rfl rfl rfl rfl
        · have e1 : askF d line h wr pick = (d, [], 231) := (if_neg hm).trans (if_pos ⟨h48, .inr h45⟩)
          rw [e1] at hS
          refine Zix (fun _ hs => sep_nil (E := msgE) hs) <| Zre (.t rfl (.t rfl .n)) (hS _ _) [0,0] 0 rfl rfl rfl rfl
        · refine Zjr ⟨⟨hm, fun hh => hh.2.elim (fun hw => by rw [hw] at h51; cases h51) (fun hw => by rw [hw] at h45; cases h45)⟩⟩ ⟨rfl, rfl, rfl, rfl, rfl, trivial⟩ [0] 0 rfl rfl
        · refine Zjr ⟨⟨hm, fun hh => h48 hh.1⟩⟩ ⟨rfl, rfl, rfl, rfl, rfl, trivial⟩ [0] 0 rfl rfl
      · refine Zol 0 cac_op rfl <| fun _ lb pa pg hha hg => ?_
        have h1 : pa.isSome = false := by rw [hha, hak]; rfl
        have h2 : pg.isSome = false := by rw [hg, hgv]; rfl
        have hm : ¬ (d.ask.isSome = true ∨ mine d.giv line = true) := fun hh => hh.elim ha0 (by rw [hgv]; simp [mine])
        refine Zv (yd 0 rfl rfl rfl) <| Zv (ypne rfl rfl rfl) <| Zv (ym rfl) <| Zg' rfl rfl h1 <| Zv (ym rfl) <| Zg' rfl rfl h1 <| Zv (yn rfl) <| Zg' rfl rfl h1 <| Zv (yf 3 rfl) <| Zg' rfl rfl h1 ?_
        refine Zv (yd 0 rfl rfl rfl) <| Zg' rfl rfl h1 <| Zv (ypne rfl rfl rfl) <| Zg' rfl rfl h1 <| Zv (ym rfl) <| Zu' rfl rfl h2 rfl <| Zu' rfl rfl h2 rfl <| Zu' rfl rfl h2 rfl <| Zu' rfl rfl h2 rfl <| Zu' rfl rfl h2 rfl ?_
        refine Zu' rfl rfl h2 rfl <| Zu' rfl rfl h2 rfl <| Zu' rfl rfl h2 rfl <| Zu' rfl rfl h2 rfl <| Zg' rfl rfl h1 <| Zv (ypf' rfl h2 rfl) <| Zv (ypf' rfl h1 rfl) <| Zv (ya rfl) <| Znl <| Znx ?_
        refine Zcf rfl <| Zsr <| Zv (ym rfl) <| Zv (yne rfl rfl) <| Zv (ym rfl) <| Zgs rfl rfl (fun h48 => ?_) (fun h48 => ?_)
        refine Zg' rfl rfl (decide_eq_true h48) <| Zv (ym rfl) <| Zg' rfl rfl (decide_eq_true h48) <| Zv (ynot rfl) <| Zg' rfl rfl (decide_eq_true h48) <| Zv (ym rfl) <| Zgb rfl rfl (fun h51 => ?_) (fun h51 => ?_)
        refine Zu' rfl rfl h51 rfl <| Zu' rfl rfl h51 rfl <| Zg' rfl rfl (decide_eq_true h48) <| Zv (ypt' rfl h51 rfl) <| Zv (ypt' rfl (decide_eq_true h48) rfl) <| Zv (ya rfl) <| Znl <| Znx <| Zct rfl <| Zsr ?_
        refine Zv (ya rfl) <| Zv (ya rfl) <| Znl <| Znx <| Zrt <| Zr2 <| Zr1 ?_
        rotate_left
        refine Zg' rfl rfl h51 <| Zv (ym rfl) <| Zg' rfl rfl h51 <| Zk (c222 ..) [] rfl rfl <| Zq <| Zg' rfl rfl (decide_eq_true h48) <| Zv (ypf' rfl h51 rfl) <| Zv (ypt' rfl (decide_eq_true h48) rfl) <| Zv (ya rfl) <| Znl ?_
        refine Znx <| Zib rfl (fun h45 => ?_) (fun h45 => ?_)
        refine Zsr <| Zv (ya rfl) <| Zv (ya rfl) <| Znl <| Znx <| Zrt <| Zr2 <| Zr1 ?_
        rotate_left
        refine Zsk <| Zxn ?_
        rotate_left
        refine Zu' rfl rfl (decide_eq_false h48) rfl <| Zu' rfl rfl (decide_eq_false h48) rfl <| Zu' rfl rfl (decide_eq_false h48) rfl <| Zuu rfl rfl <| Zuu rfl rfl <| Zu' rfl rfl (decide_eq_false h48) rfl <| Zv (ypf' rfl (decide_eq_false h48) rfl) <| Zv (ya rfl) <| Znl <| Znx ?_
        refine Zcf rfl <| Zsk <| Zxn ?_
        rotate_left
        all_goals refine Zfx [0,0,0,0] (cac_fold (b := b) (d := d) ok) rfl ?_
        · have e1 : askF d line h wr pick = (d, [], 231) := (if_neg hm).trans (if_pos ⟨h48, .inl (by simpa using h51)⟩)
          rw [e1] at hS
          refine Zix (fun _ hs => sep_nil (E := msgE) hs) <| Zre (.t rfl (.t rfl .n)) (hS _ _) [0,0] 0 rfl rfl rfl rfl
        · have e1 : askF d line h wr pick = (d, [], 231) := (if_neg hm).trans (if_pos ⟨h48, .inr h45⟩)
          rw [e1] at hS
          refine Zix (fun _ hs => sep_nil (E := msgE) hs) <| Zre (.t rfl (.t rfl .n)) (hS _ _) [0,0] 0 rfl rfl rfl rfl
        · refine Zjr ⟨⟨hm, fun hh => hh.2.elim (fun hw => by rw [hw] at h51; cases h51) (fun hw => by rw [hw] at h45; cases h45)⟩⟩ ⟨rfl, rfl, rfl, rfl, rfl, trivial⟩ [0] 0 rfl rfl
        · refine Zjr ⟨⟨hm, fun hh => h48 hh.1⟩⟩ ⟨rfl, rfl, rfl, rfl, rfl, trivial⟩ [0] 0 rfl rfl
  · obtain ⟨⟨hm, h2⟩⟩ := i
    refine Zol 0 cac_op rfl <| fun _ lb pa pg hha hg => ?_
    refine Zv (yd 0 rfl rfl rfl) <| Zv (ym rfl) <| Zv (ym rfl) ?_
    refine Zk (c254 lb d.n d.ways line pick d.L ok.w0 h hp (Nat.le_trans ok.len (by decide))) [1] rfl rfl <| ⟨?_, ?_⟩
    refine fun x => fun a => Zq <| Zv (ym rfl) <| Zv (yx rfl rfl) <| Zv (yx rfl rfl) <| Ze (eal z145) fun b11 => Zw <| Ze (esw 0 (m := 18) rfl rfl rfl rfl rfl (Enc.len ..) (Enc.allL ..)) <| Zw0 <| Zv (ya rfl) <| Znl ?_
    refine Znx <| Zsr <| Zv (ym rfl) <| Znl <| Znx <| Zct rfl <| Zsr <| Zv (ym rfl) <| Zv (ydw 0 (m := 18) rfl rfl (Enc.len ..)) ?_
    rotate_left
    refine fun a => Zq <| Zv (ym rfl) <| Zv (yx rfl rfl) <| Zv (yx rfl rfl) <| Ze (eal z145) fun b11 => Zw <| Ze (esw 0 (m := 18) rfl rfl rfl rfl rfl (Enc.len ..) (Enc.allL ..)) <| Zw0 <| Zv (ya rfl) <| Znl <| Znx ?_
    refine Zsr <| Zv (ym rfl) <| Znl <| Znx <| Zcf rfl <| Zsk <| Znx <| Zsr <| Zv (ym rfl) <| Zv (ym rfl) ?_
    refine Zv (ym rfl) <| Zv (yb l196 rfl) <| Ze (ebx rfl) fun b80 => Zw <| Zv (yn rfl) <| Zv (yf 2 rfl) <| Ze (es 3 rfl rfl rfl rfl rfl) <| Zw0 <| Znl <| Znx <| Zsr <| Zv (ya rfl) ?_
    refine Znl <| Znx <| Zsq <| Zsr <| Zv (ym rfl) <| Znl <| Znx <| Zib rfl (fun h83 => ?_) (fun h83 => ?_)
    refine Zrg <| Zv (ya rfl) <| Znl <| Znx <| Zsr <| Zv (ym rfl) <| Zv (ym rfl) <| Zv (ym rfl) <| Zv (ym rfl) ?_
    rotate_left
    refine Zsk <| Znx <| Zsr <| Zv (ym rfl) <| Zv (ym rfl) <| Zv (ym rfl) <| Zv (ym rfl) ?_
    rotate_left
    · refine Zfl [2,1,1,1] (cac_fold (b := b) (d := d) ok) rfl <| Zk (c201 ..) [0] rfl rfl <| fun A => fun cap => Zq <| Zv (ym rfl) <| Zv (yx rfl rfl) <| Zv (yx rfl rfl) <| Zv (ya rfl) <| Zv (ya rfl) ?_
      refine Znl <| Znx <| Zsq <| Zsr <| Zv (ym rfl) <| Zv (ynot rfl) <| Znl <| Znx <| Zib rfl (fun h74 => ?_) (fun h74 => ?_)
      refine Zsr <| Zv (ya rfl) <| Zv (ya rfl) <| Znl <| Znx <| Zrt <| Zr1 <| Zr1 ?_
      rotate_left
      refine Zsk <| Znx <| Zrg <| Zv (ym rfl) <| Zv (ya rfl) <| Znl <| Znx <| Zsr <| Zv (ym rfl) <| Zv (ym rfl) ?_
      refine Zv (ym rfl) <| Zv (yb l196 rfl) <| Ze (ebx rfl) fun b80 => Zw <| Zv (yn rfl) <| Zv (yf 2 rfl) ?_
      rotate_left
      · rw [show askF d line h wr pick = (d, [], 230) by unfold askF; rw [if_neg hm, if_neg h2, a]; simp only []; rw [if_neg (by rw [show (outF d x).2.2 = false by simpa using h74]; decide)]] at hS
        rw [out_no (show (outF d x).2.2 = false by simpa using h74)]
        refine Zix (fun _ hs => sep_nil (E := msgE) hs) <| Zre (.t rfl (.t rfl .n)) (hS _ _) [0,1] 2 rfl rfl rfl rfl
      · have ho : (outF d x).2.2 = true := by simpa using h74
        rw [show askF d line h wr pick = ((outF d x).1.setA (some (line, wr)), (outF d x).2.1 ++ [askM d.id line wr h], 0) by unfold askF; rw [if_neg hm, if_neg h2, a]; simp only []; rw [if_pos ho]] at hS
        have ok1 := out_ok ok x
        have hol := out_len d x
        refine Zol 2 cac_op rfl <| fun _ lb1 pa1 pg1 hha1 hg1 => ?_
        refine Ze (es 0 rfl rfl rfl rfl rfl) <| Zw0 <| Znl <| Znx <| Zsr <| Zv (ya rfl) <| Znl <| Znx <| Zsq <| Zsr <| Zv (ym rfl) ?_
        refine Znl <| Znx <| Zib rfl (fun h83 => ?_) (fun h83 => ?_)
        refine Zrg <| Zv (ya rfl) <| Znl <| Znx <| Zsr <| Zv (ym rfl) <| Zv (ym rfl) <| Zv (ym rfl) <| Zv (ym rfl) ?_
        rotate_left
        refine Zsk <| Znx <| Zsr <| Zv (ym rfl) <| Zv (ym rfl) <| Zv (ym rfl) <| Zv (ym rfl) ?_
        rotate_left
        · subst h83
          refine Zk (c232 b (outF d x).1.id 2 line h (.pointer (some ⟨lb1, 0, none⟩)) (.pointer (some ⟨b80, 0, none⟩)) (.pointer pg1)) [0] rfl rfl <| Zq <| Ze (eb1 elMsg (by decide) rfl) fun A89 => Zw ?_
          have hm1 : (outF d x).2.1.length + [mkM 2 (outF d x).1.id 4 line b16z h].length ≤ maxLen := ml_le (by simp; omega)
          refine Ze (eap' 6 0 elMsg rfl rfl rfl own.rd rfl rfl rfl (fun _ _ => rfl) (by simp; omega) hm1) <| fun A' cap' => Zw <| Zv (ya rfl) <| Zv (ya rfl) <| Znl <| Znx <| Zrt ?_
          refine Zfx [5] (ask_f1 (b := b80) (l := line) (wr := true)) rfl ?_
          refine Zfx [2,2,0,2] (cac_fold (b := b) (d := (outF d x).1.setA (some (line, true))) (ok1.setA line true h)) rfl ?_
          rw [out_id]
          refine Zre (.t rfl (.t rfl .n)) (hS _ _) [3,0] 3 rfl rfl rfl rfl
        · subst h83
          refine Zk (c232 b (outF d x).1.id 1 line h (.pointer (some ⟨lb1, 0, none⟩)) (.pointer (some ⟨b80, 0, none⟩)) (.pointer pg1)) [0] rfl rfl <| Zq <| Ze (eb1 elMsg (by decide) rfl) fun A89 => Zw ?_
          have hm1 : (outF d x).2.1.length + [mkM 1 (outF d x).1.id 4 line b16z h].length ≤ maxLen := ml_le (by simp; omega)
          refine Ze (eap' 6 0 elMsg rfl rfl rfl own.rd rfl rfl rfl (fun _ _ => rfl) (by simp; omega) hm1) <| fun A' cap' => Zw <| Zv (ya rfl) <| Zv (ya rfl) <| Znl <| Znx <| Zrt ?_
          refine Zfx [5] (ask_f1 (b := b80) (l := line) (wr := false)) rfl ?_
          refine Zfx [2,2,0,2] (cac_fold (b := b) (d := (outF d x).1.setA (some (line, false))) (ok1.setA line false h)) rfl ?_
          rw [out_id]
          refine Zre (.t rfl (.t rfl .n)) (hS _ _) [3,0] 3 rfl rfl rfl rfl
    all_goals rw [show askF d line h wr pick = (d.setA (some (line, wr)), [askM d.id line wr h], 0) by unfold askF; rw [if_neg hm, if_neg h2, a]] at hS
    · subst h83
      refine Zk (c232 b d.id 2 line h (.pointer (some ⟨lb, 0, none⟩)) (.pointer (some ⟨b80, 0, none⟩)) (.pointer pg)) [3] rfl rfl <| Zq <| Ze (eb1 elMsg (by decide) rfl) fun A89 => Zw ?_
      refine Zim (fun _ hs => sep_nil (E := msgE) hs) ?_
      have hm1 : ([] : List Msg).length + [askM d.id line true h].length ≤ maxLen := ml_le (by simp)
      refine Ze (eap' 0 1 elMsg rfl rfl rfl own.rd rfl rfl rfl (fun _ _ => rfl) (by simp) hm1) <| fun A' cap' => Zw <| Zv (ya rfl) <| Zv (ya rfl) <| Znl <| Znx <| Zrt ?_
      refine Zfx [3] (ask_f1 (b := b80) (l := line) (wr := true)) rfl ?_
      refine Zfx [3,4,0,4] (cac_fold (b := b) (d := d.setA (some (line, true))) (ok.setA line true h)) rfl <| Zre (.t rfl (.t rfl .n)) (hS _ _) [1,0] 3 rfl rfl rfl rfl
    · subst h83
      refine Zk (c232 b d.id 1 line h (.pointer (some ⟨lb, 0, none⟩)) (.pointer (some ⟨b80, 0, none⟩)) (.pointer pg)) [3] rfl rfl <| Zq <| Ze (eb1 elMsg (by decide) rfl) fun A89 => Zw ?_
      refine Zim (fun _ hs => sep_nil (E := msgE) hs) ?_
      have hm1 : ([] : List Msg).length + [askM d.id line false h].length ≤ maxLen := ml_le (by simp)
      refine Ze (eap' 0 1 elMsg rfl rfl rfl own.rd rfl rfl rfl (fun _ _ => rfl) (by simp) hm1) <| fun A' cap' => Zw <| Zv (ya rfl) <| Zv (ya rfl) <| Znl <| Znx <| Zrt ?_
      refine Zfx [3] (ask_f1 (b := b80) (l := line) (wr := false)) rfl ?_
      refine Zfx [3,4,0,4] (cac_fold (b := b) (d := d.setA (some (line, false))) (ok.setA line false h)) rfl <| Zre (.t rfl (.t rfl .n)) (hS _ _) [1,0] 3 rfl rfl rfl rfl
end Go.Proofs.YtpfijldkkfiooaaGreatDoor
namespace Go.Proofs.YtpfijldkkfiooaaGreatDoor
open Go
set_option maxRecDepth 4000
abbrev stopP (why : Int) : List PanicEntry := panV (.iface 348 (.agg #[.int .i64 why]))
def dataOk (d : CD) (m : Msg) : Bool := match d.ask with | some (l, wr) => decide (l = m.line) && (wr == decide (m.kind = 10)) | none => false
def dataLn (m : Msg) : Ln := ⟨m.line, if m.kind = 8 then 1 else 2, m.bs, m.hn⟩
def dataG (d : CD) (m : Msg) : Bool := dataOk d m && decide (putE d.n d.ways d.L (dataLn m) = 0)
def CD.setLA (d : CD) (L : List Ln) : CD := ⟨d.id, d.n, d.ways, L, none, d.giv⟩
theorem CD.Ok.putA {d : CD} (h : d.Ok) (l : Ln) : (d.setLA (putL d.n d.ways d.L l)).Ok := { h with un := h.un.putL, fit := h.fit.putL l, ask := fun _ _ e => by cases e }
theorem putL_no {n : Nat} {ways : Int} {L : List Ln} {l : Ln} (h : ¬ putE n ways L l = 0) : putL n ways L l = L := if_neg h
theorem c197 (b : Nat) (d : CD) (m : Msg) : Sp Tryz.prog 197 [.pointer (some ⟨b, 0, none⟩), .agg (msgE.arr m)] [.hp (cacC b d)] fun K =>
    (dataG d m = true → ∀ A, K (.returned (.slice A 1 1)) [.hp (own msgE A 1 [mkM 13 d.id 4 m.line b16z m.hn]), .hp (cacC b (d.setLA (putL d.n d.ways d.L (dataLn m))))]) ∧ (dataG d m = false → K (.panicked (stopP 220)) [.hp (cacC b d)]) := by
  have hn := m.hn
  rcases Option.eq_none_or_eq_some d.ask with hak | ⟨⟨l, wr⟩, hak⟩
  · have h0 : dataG d m = false := by simp [dataG, dataOk, hak]
    refine Zen Tryz.func197 rfl rfl rfl fun e X Φ hS => Zoc 0 cac_op rfl <| fun ok lb pa pg hha hg => ?_
    have h1 : pa.isSome = false := by rw [hha, hak]; rfl
    refine Zsr <| Ze (ebxE rfl) fun b3 => Zw <| Zv (ya rfl) <| Znl <| Znx <| Zsq <| Zhd [] rfl rfl <| Zht 0 rfl (ym rfl) <| Zht 1 rfl (yn rfl) <| Zht 2 rfl (yf 2 rfl) ?_
    refine Zht 3 rfl (yd 1 rfl rfl rfl) <| Zht 4 rfl (ypne rfl rfl rfl) <| Zht 5 rfl (ym rfl) <| Zhu 6 rfl rfl (lkn rfl h1) rfl <| Zhu 7 rfl rfl (lkn rfl h1) rfl <| Zhu 8 rfl rfl (lkn rfl h1) rfl <| Zhu 9 rfl rfl (lkn rfl h1) rfl <| Zhu 10 rfl rfl (lkn rfl h1) rfl <| Zhu 11 rfl rfl (lkn rfl h1) rfl <| Zhu 12 rfl rfl (lkn rfl h1) rfl ?_
    refine Zhu 13 rfl rfl (lkn rfl h1) rfl <| Zhu 14 rfl rfl (lkn rfl h1) rfl <| Zhu 15 rfl rfl (lkn rfl h1) rfl <| Zht 16 rfl (ypf' rfl h1 rfl) <| Zht 17 rfl (ym rfl) <| Zhu 18 rfl rfl rfl rfl <| Zhu 19 rfl rfl rfl rfl <| Zhu 20 rfl rfl rfl rfl <| Zhu 21 rfl rfl rfl rfl <| Zhu 22 rfl rfl rfl rfl ?_
    refine Zhu 23 rfl rfl rfl rfl <| Zhu 24 rfl rfl rfl rfl <| Zhu 25 rfl rfl rfl rfl <| Zhu 26 rfl rfl rfl rfl <| Zhu 27 rfl rfl rfl rfl <| Zhu 28 rfl rfl rfl rfl <| Zht 29 rfl (ypf rfl rfl) <| Zh1 30 (by kernel_rfl) <| Zok (c231f (h := rfl) ..) [] rfl rfl rfl <| Zqhp <| Zp1 ?_
    refine Zfx [1,1,1,1] (cac_fold (b := b) (d := d) ok) rfl ?_
    refine Zpe (hS.2 h0) [0] 1 rfl rfl
  · refine Zen Tryz.func197 rfl rfl rfl fun e X Φ hS => Zoc 0 cac_op rfl <| fun ok lb pa pg hha hg => ?_
    rw [hak]
    refine Zoc 2 ask_op1 rfl <| fun ba ea => ?_
    subst ea
    refine Zsr <| Ze (ebxE rfl) fun b3 => Zw <| Zv (ya rfl) <| Znl <| Znx <| Zsq <| Zhd [] rfl rfl <| Zht 0 rfl (ym rfl) <| Zht 1 rfl (yn rfl) <| Zht 2 rfl (yf 2 rfl) ?_
    refine Zht 3 rfl (yd 2 rfl rfl rfl) <| Zht 4 rfl (ypne rfl rfl rfl) <| Zht 5 rfl (ym rfl) <| Zhg 6 rfl rfl rfl (ym rfl) <| Zhg 7 rfl rfl rfl (yn rfl) <| Zhg 8 rfl rfl rfl (yf 2 rfl) <| Zhg 9 rfl rfl rfl (yd 2 rfl rfl rfl) <| Zhg 10 rfl rfl rfl (yn rfl) <| Zhg 11 rfl rfl rfl (yf 0 rfl) <| Zhg 12 rfl rfl rfl (yd 1 rfl rfl rfl) ?_
    refine Zhg 13 rfl rfl rfl (yf 3 rfl) <| Zhg 14 rfl rfl rfl (yd 0 rfl rfl rfl) <| Zhg 15 rfl rfl rfl (yeq rfl rfl) <| Zht 16 rfl (ypt rfl rfl) <| Zht 17 rfl (ym rfl) <| Zhgs 18 rfl rfl rfl (fun h23 => ?_) (fun h23 => ?_)
    refine Zhg 18 rfl rfl (lkn rfl (decide_eq_true h23)) (ym rfl) <| Zhg 19 rfl rfl (lkn rfl (decide_eq_true h23)) (yn rfl) <| Zhg 20 rfl rfl (lkn rfl (decide_eq_true h23)) (yf 2 rfl) <| Zhg 21 rfl rfl (lkn rfl (decide_eq_true h23)) (yd 2 rfl rfl rfl) <| Zhg 22 rfl rfl (lkn rfl (decide_eq_true h23)) (yn rfl) <| Zhg 23 rfl rfl (lkn rfl (decide_eq_true h23)) (yf 1 rfl) <| Zhg 24 rfl rfl (lkn rfl (decide_eq_true h23)) (yd 1 rfl rfl rfl) <| Zhg 25 rfl rfl (lkn rfl (decide_eq_true h23)) (yf 0 rfl) <| Zhg 26 rfl rfl (lkn rfl (decide_eq_true h23)) (yd 0 rfl rfl rfl) <| Zhg 27 rfl rfl (lkn rfl (decide_eq_true h23)) (yeq rfl rfl) ?_
    refine Zhg 28 rfl rfl (lkn rfl (decide_eq_true h23)) (ybeq rfl rfl rfl) <| Zht 29 rfl (ypt' rfl (decide_eq_true h23) rfl) <| Zh1 30 (by kernel_rfl) <| Zok (c231 ..) [] rfl rfl rfl <| ⟨?_, ?_⟩
    refine fun a => Zqh 0 rfl <| Zhn (by kernel_rfl) <| Znx <| Zsr <| Zv (ya rfl) <| Znl <| Znx <| Zsq <| Zsr ?_
    refine Zv (yf 0 rfl) <| Zv (yd 0 rfl rfl rfl) <| Zv (yeq rfl rfl) <| Znl <| Znx <| Zif rfl (fun h39 => ?_) (fun h39 => ?_)
    refine Zrg <| Zv (ya rfl) <| Znl <| Znx <| Zsq ?_
    rotate_left
    refine Zsk <| Znx <| Zsq ?_
    rotate_left
    refine fun a => Zqhp <| Zp1 ?_
    rotate_left
    refine Zhu 18 rfl rfl (lkn rfl (decide_eq_false h23)) rfl <| Zhu 19 rfl rfl (lkn rfl (decide_eq_false h23)) rfl <| Zhu 20 rfl rfl (lkn rfl (decide_eq_false h23)) rfl <| Zhu 21 rfl rfl (lkn rfl (decide_eq_false h23)) rfl <| Zhu 22 rfl rfl (lkn rfl (decide_eq_false h23)) rfl <| Zhu 23 rfl rfl (lkn rfl (decide_eq_false h23)) rfl <| Zhu 24 rfl rfl (lkn rfl (decide_eq_false h23)) rfl <| Zhu 25 rfl rfl (lkn rfl (decide_eq_false h23)) rfl <| Zhu 26 rfl rfl (lkn rfl (decide_eq_false h23)) rfl <| Zhu 27 rfl rfl (lkn rfl (decide_eq_false h23)) rfl ?_
    refine Zhu 28 rfl rfl (lkn rfl (decide_eq_false h23)) rfl <| Zht 29 rfl (ypf' rfl (decide_eq_false h23) rfl) <| Zh1 30 (by kernel_rfl) <| Zok (c231f (h := rfl) ..) [] rfl rfl rfl <| Zqhp <| Zp1 ?_
    rotate_left
    · have hd : dataLn m = ⟨m.line, 1, m.bs, m.hn⟩ := by unfold dataLn; rw [if_pos h39]
      refine Zhd [3] rfl rfl <| Zht 0 rfl (ym rfl) <| Zht 1 rfl (yn rfl) <| Zht 2 rfl (yf 1 rfl) <| Zht 3 rfl (yd 2 rfl rfl rfl) <| Zht 4 rfl (yf 3 rfl) <| Zht 5 rfl (yd 0 rfl rfl rfl) <| Zht 6 rfl (ym rfl) <| Zht 7 rfl (yf 4 rfl) <| Zht 8 rfl (yda 0 (m := 16) rfl rfl (msg_bs' _) (Enc.len ..)) ?_
      refine Zht 9 rfl (ybln3 (by assumption) rfl) ?_
      refine Zh1 10 (by kernel_rfl) <| Zok (c223 lb d.n d.ways d.L ⟨m.line, 1, m.bs, m.hn⟩ (by have := ok.w0; omega) (Nat.le_trans ok.len (by decide))) [0] rfl rfl rfl <| Zqh 1 rfl <| Zht 11 rfl (yeq rfl rfl) <| Zh1 12 (by kernel_rfl) <| Zok (c231 ..) [] rfl rfl rfl <| ⟨?_, ?_⟩
      refine fun a_1 => Zqh 1 rfl <| Zhn (by kernel_rfl) <| Znx <| Zsr <| Zv (ym rfl) <| Zv (yn rfl) <| Zv (yf 2 rfl) <| Ze (es 3 rfl rfl rfl rfl rfl) <| Zw0 <| Znl ?_
      refine Znx <| Zsr <| Zv (ym rfl) <| Zv (yf 3 rfl) <| Zv (yd 1 rfl rfl rfl) ?_
      rotate_left
      refine fun a_1 => Zqhp <| Zp1 ?_
      rotate_left
      · have h0 : dataG d m = true := by simp only [dataG, dataOk, hak, hd, h23, a, decide_true, Bool.true_and]; simpa using a_1
        rw [h0] at hS
        have ok' := ok.putA (dataLn m)
        rw [hd] at ok' hS
        refine Zk (c232 b d.id 13 m.line hn (.pointer (some ⟨lb, 0, none⟩)) (.pointer none) (.pointer pg)) [3] rfl rfl <| Zq <| Ze (eb1 elMsg (by decide) rfl) fun A60 => Zw <| Zv (ya rfl) <| Znl <| Znx <| Zrt ?_
        refine Zfx [] ask_f0 rfl ?_
        refine Zfx [2,2,0,3] (cac_fold (b := b) (d := d.setLA (putL d.n d.ways d.L ⟨m.line, 1, m.bs, m.hn⟩)) ok') rfl ?_
        refine Zre (.t rfl .n) (hS.1 rfl _) [1,0] 2 rfl rfl rfl rfl
      · have h0 : dataG d m = false := by simp only [dataG, dataOk, hak, hd, h23, a, decide_true, Bool.true_and]; simpa using a_1
        rw [putL_no (by simpa using a_1)]
        refine Zfx [2] (ask_f1 (b := ba) (l := l) (wr := wr)) rfl ?_
        rw [← hak]
        refine Zfx [3,1,0,1] (cac_fold (b := b) (d := d) ok) rfl ?_
        refine Zpe (hS.2 h0) [0] 1 rfl rfl
    · have hd : dataLn m = ⟨m.line, 2, m.bs, m.hn⟩ := by unfold dataLn; rw [if_neg h39]
      refine Zhd [3] rfl rfl <| Zht 0 rfl (ym rfl) <| Zht 1 rfl (yn rfl) <| Zht 2 rfl (yf 1 rfl) <| Zht 3 rfl (yd 2 rfl rfl rfl) <| Zht 4 rfl (yf 3 rfl) <| Zht 5 rfl (yd 0 rfl rfl rfl) <| Zht 6 rfl (ym rfl) <| Zht 7 rfl (yf 4 rfl) <| Zht 8 rfl (yda 0 (m := 16) rfl rfl (msg_bs' _) (Enc.len ..)) ?_
      refine Zht 9 rfl (ybln3 (by assumption) rfl) ?_
      refine Zh1 10 (by kernel_rfl) <| Zok (c223 lb d.n d.ways d.L ⟨m.line, 2, m.bs, m.hn⟩ (by have := ok.w0; omega) (Nat.le_trans ok.len (by decide))) [0] rfl rfl rfl <| Zqh 1 rfl <| Zht 11 rfl (yeq rfl rfl) <| Zh1 12 (by kernel_rfl) <| Zok (c231 ..) [] rfl rfl rfl <| ⟨?_, ?_⟩
      refine fun a_1 => Zqh 1 rfl <| Zhn (by kernel_rfl) <| Znx <| Zsr <| Zv (ym rfl) <| Zv (yn rfl) <| Zv (yf 2 rfl) <| Ze (es 3 rfl rfl rfl rfl rfl) <| Zw0 <| Znl ?_
      refine Znx <| Zsr <| Zv (ym rfl) <| Zv (yf 3 rfl) <| Zv (yd 1 rfl rfl rfl) ?_
      rotate_left
      refine fun a_1 => Zqhp <| Zp1 ?_
      rotate_left
      · have h0 : dataG d m = true := by simp only [dataG, dataOk, hak, hd, h23, a, decide_true, Bool.true_and]; simpa using a_1
        rw [h0] at hS
        have ok' := ok.putA (dataLn m)
        rw [hd] at ok' hS
        refine Zk (c232 b d.id 13 m.line hn (.pointer (some ⟨lb, 0, none⟩)) (.pointer none) (.pointer pg)) [3] rfl rfl <| Zq <| Ze (eb1 elMsg (by decide) rfl) fun A60 => Zw <| Zv (ya rfl) <| Znl <| Znx <| Zrt ?_
        refine Zfx [] ask_f0 rfl ?_
        refine Zfx [2,2,0,3] (cac_fold (b := b) (d := d.setLA (putL d.n d.ways d.L ⟨m.line, 2, m.bs, m.hn⟩)) ok') rfl ?_
        refine Zre (.t rfl .n) (hS.1 rfl _) [1,0] 2 rfl rfl rfl rfl
      · have h0 : dataG d m = false := by simp only [dataG, dataOk, hak, hd, h23, a, decide_true, Bool.true_and]; simpa using a_1
        rw [putL_no (by simpa using a_1)]
        refine Zfx [2] (ask_f1 (b := ba) (l := l) (wr := wr)) rfl ?_
        rw [← hak]
        refine Zfx [3,1,0,1] (cac_fold (b := b) (d := d) ok) rfl ?_
        refine Zpe (hS.2 h0) [0] 1 rfl rfl
    · have h0 : dataG d m = false := by simp [dataG, dataOk, hak, a]
      refine Zfx [1] (ask_f1 (b := ba) (l := l) (wr := wr)) rfl ?_
      rw [← hak]
      refine Zfx [2,2,0,1] (cac_fold (b := b) (d := d) ok) rfl ?_
      refine Zpe (hS.2 h0) [0] 1 rfl rfl
    · have h0 : dataG d m = false := by simp [dataG, dataOk, hak, h23]
      refine Zfx [1] (ask_f1 (b := ba) (l := l) (wr := wr)) rfl ?_
      rw [← hak]
      refine Zfx [2,2,0,1] (cac_fold (b := b) (d := d) ok) rfl ?_
      refine Zpe (hS.2 h0) [0] 1 rfl rfl
def backG (d : CD) (m : Msg) : Option (CD × B16) :=
  if mine d.giv m.line = true then some (d, (d.giv.getD ln0).bs)
  else if writesB (stateOf d.L m.line) = true then some (d.setL (if m.kind = 4 then putL d.n d.ways d.L ((fndL d.L m.line).st 1) else dropL d.L (fndL d.L m.line).num), (fndL d.L m.line).bs)
  else none
theorem c198 (b : Nat) (d : CD) (m : Msg) : Sp Tryz.prog 198 [.pointer (some ⟨b, 0, none⟩), .agg (msgE.arr m)] [.hp (cacC b d)] fun K =>
    (∀ d' bs, backG d m = some (d', bs) → ∀ A, K (.returned (.slice A 1 1)) [.hp (own msgE A 1 [mkM 11 d.id 4 m.line bs m.hn]), .hp (cacC b d')]) ∧ (backG d m = none → K (.panicked (stopP 220)) [.hp (cacC b d)]) := by
  have hn := m.hn
  refine Zen Tryz.func198 rfl rfl rfl fun e X Φ hS => Zoc 0 cac_op rfl <| fun ok lb pa pg hha hg => ?_
  refine Zsr <| Ze (ebxE rfl) fun b3 => Zw <| Zv (ya rfl) <| Znl <| Znx <| Zsr <| Zv (ym rfl) <| Zv (yf 3 rfl) <| Zv (yd 0 rfl rfl rfl) ?_
  refine Zk (c232 b d.id 11 m.line hn (.pointer (some ⟨lb, 0, none⟩)) (.pointer pa) (.pointer pg)) [1] rfl rfl <| Zq <| Ze (eal z117) fun b5 => Zw <| Ze (esw 0 (m := 20) rfl rfl rfl rfl rfl (Enc.len ..) (Enc.allL ..)) <| Zw0 <| Znl <| Znx ?_
  refine Zfc [1,2,2,2] (cac_fold (b := b) (d := d) ok) rfl ?_
  refine Zjq (ι := PLift (¬ mine d.giv m.line = true)) (fun _ => [(0, .pointer (some ⟨b, 0, none⟩)), (3, .pointer (some ⟨b3, 0, none⟩)), (5, .pointer (some ⟨b5, 0, none⟩))]) (fun _ => [.hp (cacC b d), .blk b5 117 (msgE.cells (mkM 11 d.id 4 m.line b16z hn)), .blk b3 117 (msgE.cells m)]) X ?_ fun i => ?_
  rotate_left
  rotate_left
  · refine Zoc 0 cac_op rfl <| fun _ lb pa pg hha hg => ?_
    rcases Option.eq_none_or_eq_some d.giv with hgv | ⟨x, hgv⟩
    · have h2 : pg.isSome = false := by rw [hg, hgv]; rfl
      have hm : mine d.giv m.line = false := by simp [mine, hgv]
      refine Zsq <| Zhd [] rfl rfl <| Zht 0 rfl (ym rfl) <| Zht 1 rfl (yn rfl) <| Zht 2 rfl (yf 3 rfl) <| Zht 3 rfl (yd 0 rfl rfl rfl) <| Zht 4 rfl (ypne rfl rfl rfl) <| Zht 5 rfl (ym rfl) <| Zhu 6 rfl rfl (lkn rfl h2) rfl <| Zhu 7 rfl rfl (lkn rfl h2) rfl ?_
      refine Zhu 8 rfl rfl (lkn rfl h2) rfl <| Zhu 9 rfl rfl (lkn rfl h2) rfl <| Zhu 10 rfl rfl (lkn rfl h2) rfl <| Zhu 11 rfl rfl (lkn rfl h2) rfl <| Zhu 12 rfl rfl (lkn rfl h2) rfl <| Zhu 13 rfl rfl (lkn rfl h2) rfl <| Zhu 14 rfl rfl (lkn rfl h2) rfl <| Zhu 15 rfl rfl (lkn rfl h2) rfl <| Zht 16 rfl (ypf' rfl h2 rfl) <| Zhn (by kernel_rfl) ?_
      refine Znx <| Zcf rfl <| Zsk ?_
      refine Zfx [0,0,0,0] (cac_fold (b := b) (d := d) ok) rfl ?_
      refine Zjr ⟨by rw [hm]; decide⟩ ⟨rfl, rfl, rfl, trivial⟩ [0, 0, 0] 0 rfl rfl
    · rw [hgv]
      refine Zoc 3 giv_op1 rfl <| fun bg eg => ?_
      subst eg
      have hm : mine d.giv m.line = decide (x.num = m.line) := by simp [mine, hgv]
      refine Zsq <| Zhd [] rfl rfl <| Zht 0 rfl (ym rfl) <| Zht 1 rfl (yn rfl) <| Zht 2 rfl (yf 3 rfl) <| Zht 3 rfl (yd 1 rfl rfl rfl) <| Zht 4 rfl (ypne rfl rfl rfl) <| Zht 5 rfl (ym rfl) <| Zhg 6 rfl rfl rfl (ym rfl) <| Zhg 7 rfl rfl rfl (yn rfl) ?_
      refine Zhg 8 rfl rfl rfl (yf 3 rfl) <| Zhg 9 rfl rfl rfl (yd 1 rfl rfl rfl) <| Zhg 10 rfl rfl rfl (yn rfl) <| Zhg 11 rfl rfl rfl (yf 0 rfl) <| Zhg 12 rfl rfl rfl (yd 0 rfl rfl rfl) <| Zhg 13 rfl rfl rfl (yf 3 rfl) <| Zhg 14 rfl rfl rfl (yd 5 rfl rfl rfl) <| Zhg 15 rfl rfl rfl (yeq rfl rfl) <| Zht 16 rfl (ypt rfl rfl) <| Zhn (by kernel_rfl) ?_
      refine Znx <| Zif rfl (fun h28 => ?_) (fun h28 => ?_)
      refine Zsr <| Zv (ym rfl) <| Zv (yn rfl) <| Zv (yf 3 rfl) <| Zv (yd 1 rfl rfl rfl) <| Zv (yn rfl) <| Zv (yf 2 rfl) <| Zv (yda 0 (m := 16) rfl rfl (ln_bs' _) (Enc.len ..)) <| Zv (yf 4 rfl) <| Ze (esc 4 (m := 16) rfl rfl rfl (pt_mbs _ _) rfl (Enc.len ..) (by rw [Enc.len]; decide) (Enc.allL ..)) <| Zw0 ?_
      refine Znl <| Znx <| Zsr <| Zv (ydw 4 (m := 20) rfl rfl (Enc.len ..)) <| Ze (eb1 elMsg (by decide) rfl) fun A38 => Zw <| Zv (ya rfl) <| Znl <| Znx <| Zrt <| Zr1 ?_
      rotate_left
      refine Zsk ?_
      rotate_left
      · refine Zfx [1] (giv_f1 (b := bg) (x := x)) rfl ?_
        rw [← hgv]
        refine Zfx [2,2,2,0] (cac_fold (b := b) (d := d) ok) rfl ?_
        refine Zre (.t rfl .n) (hS.1 d x.bs (by unfold backG; rw [if_pos (by rw [hm]; simpa using h28), hgv]; rfl) _) [1,0] 2 rfl rfl rfl rfl
      · refine Zfx [0] (giv_f1 (b := bg) (x := x)) rfl ?_
        rw [← hgv]
        refine Zfx [1,1,1,0] (cac_fold (b := b) (d := d) ok) rfl ?_
        refine Zjr ⟨by rw [hm]; simpa using h28⟩ ⟨rfl, rfl, rfl, trivial⟩ [0, 0, 0] 0 rfl rfl
  · obtain ⟨hm⟩ := i
    refine Zoc 0 cac_op rfl <| fun _ lb pa pg hha hg => ?_
    have hc := c146' lb d.n d.ways m.line d.L (by have := ok.w0; omega) hn (Nat.le_trans ok.len (by decide))
    refine Zjq (ι := Nat) (fun b6 => [(6, .pointer (some ⟨b6, 0, none⟩)), (0, .pointer (some ⟨b, 0, none⟩)), (3, .pointer (some ⟨b3, 0, none⟩)), (5, .pointer (some ⟨b5, 0, none⟩))]) (fun b6 => [.blk b6 145 (lnE.cells (fndL d.L m.line)), .hp (linesC lb d.n d.ways d.L), .blk b 155 [.int .i64 d.id, .pointer (some ⟨lb, 0, none⟩), .pointer pa, .pointer pg], .hp (askC pa d.ask), .hp (givC pg d.giv), .blk b5 117 (msgE.cells (mkM 11 d.id 4 m.line b16z hn)), .blk b3 117 (msgE.cells m)]) X ?_ fun b6 => ?_
    rotate_left
    rotate_left
    · refine Zhd [1] rfl rfl <| Zht 0 rfl (ym rfl) <| Zht 1 rfl (yn rfl) <| Zht 2 rfl (yf 1 rfl) <| Zht 3 rfl (yd 0 rfl rfl rfl) <| Zht 4 rfl (yf 3 rfl) <| Zht 5 rfl (yd 4 rfl rfl rfl) ?_
      refine Zh2 6 10 (by kernel_rfl) (Zok hc [0] rfl rfl rfl <| Zqh 1 rfl ?_) (Zoe rfl (eal z145) fun b6 => Zwh 2 rfl ?_)
      refine Zht 7 rfl (ym rfl) <| Zht 8 rfl (yx rfl rfl) <| Zht 9 rfl (yx rfl rfl) <| Zh1 10 (by kernel_rfl) <| Zoe rfl (eal z145) fun b6 => Zwh 2 rfl <| Zh1 11 (by kernel_rfl) <| Zoe rfl (esw 0 (m := 18) rfl rfl rfl rfl rfl (Enc.len ..) (Enc.allL ..)) <| Zwh0 2 rfl <| Zht 12 rfl (ya rfl) <| Zhn (by kernel_rfl) ?_
      rotate_left
      rotate_left
      · refine Zjr b6 ⟨rfl, rfl, rfl, rfl, trivial⟩ [0,0,0,0,0,0,0] 0 rfl rfl
      · refine Zh1 6 (by kernel_rfl) <| Zok hc [1] rfl rfl rfl <| Zqh 2 rfl <| Zht 7 rfl (ym rfl) <| Zht 8 rfl (yx rfl rfl) <| Zht 9 rfl (yx rfl rfl) <| Zh1 11 (by kernel_rfl) <| Zoe rfl (esw 1 (m := 18) rfl rfl rfl rfl rfl (Enc.len ..) (Enc.allL ..)) <| Zwh0 2 rfl <| Zht 12 rfl (ya rfl) <| Zhn (by kernel_rfl) ?_
        refine Zjr b6 ⟨rfl, rfl, rfl, rfl, trivial⟩ [1,0,0,0,0,0,0] 0 rfl rfl
    refine Zsr <| Zv (yf 1 rfl) <| Zv (yd 0 rfl rfl rfl) <| Zk (c222 ..) [] rfl rfl <| Zq <| Zk (c231 ..) [] rfl rfl <| ⟨?_, ?_⟩
    refine fun a => Zq <| Znl <| Znx <| Zsr <| Zv (yf 2 rfl) <| Zv (yda 0 (m := 16) rfl rfl (ln_bs' _) (Enc.len ..)) <| Zv (yf 4 rfl) <| Ze (esc 5 (m := 16) rfl rfl rfl (pt_mbs _ _) rfl (Enc.len ..) (by rw [Enc.len]; decide) (Enc.allL ..)) <| Zw0 <| Znl ?_
    refine Znx <| Zsq <| Zsr <| Zv (yf 0 rfl) <| Zv (yd 6 rfl rfl rfl) <| Zv (yeq rfl rfl) <| Znl <| Znx <| Zif rfl (fun h58 => ?_) (fun h58 => ?_)
    refine Zsr <| Zv (yf 1 rfl) <| Ze (es 0 rfl rfl rfl (pt_st _ _) rfl) <| Zw0 <| Znl <| Znx ?_
    rotate_left
    rotate_left
    refine fun a => Zqp <| Zp1 ?_
    rotate_left
    · have hb : backG d m = some (d.setL (putL d.n d.ways d.L ((fndL d.L m.line).st 1)), (fndL d.L m.line).bs) := by unfold backG; rw [if_neg hm, if_pos (show writesB (stateOf d.L m.line) = true from a), if_pos h58]
      refine Zhd [1] rfl rfl <| Zht 0 rfl (ym rfl) <| Zht 1 rfl (yn rfl) <| Zht 2 rfl (yf 1 rfl) <| Zht 3 rfl (yd 1 rfl rfl rfl) <| Zht 4 rfl (ydw 0 (m := 18) rfl rfl (Enc.len ..)) ?_
      refine Zh1 5 (by kernel_rfl) <| Zok (c223 lb d.n d.ways d.L ((fndL d.L m.line).st 1) (by have := ok.w0; omega) (Nat.le_trans ok.len (by decide))) [0] rfl rfl rfl <| Zqh 1 rfl <| Zhn (by kernel_rfl) <| Znx <| Zsr <| Zv (ydw 5 (m := 20) rfl rfl (Enc.len ..)) <| Ze (eb1 elMsg (by decide) rfl) fun A74 => Zw <| Zv (ya rfl) <| Znl <| Znx ?_
      refine Zrt ?_
      refine Zfx [3,1,2,2] (cac_fold (b := b) (d := d.setL (putL d.n d.ways d.L ((fndL d.L m.line).st 1))) (ok.put ((fndL d.L m.line).st 1))) rfl ?_
      refine Zre (.t rfl .n) (hS.1 _ _ hb _) [1,0] 3 rfl rfl rfl rfl
    · have hb : backG d m = some (d.setL (dropL d.L (fndL d.L m.line).num), (fndL d.L m.line).bs) := by unfold backG; rw [if_neg hm, if_pos (show writesB (stateOf d.L m.line) = true from a), if_neg h58]
      refine Zhd [1] rfl rfl <| Zht 0 rfl (ym rfl) <| Zht 1 rfl (yn rfl) <| Zht 2 rfl (yf 1 rfl) <| Zht 3 rfl (yd 1 rfl rfl rfl) <| Zht 4 rfl (yf 0 rfl) <| Zht 5 rfl (yd 0 rfl rfl rfl) ?_
      refine Zh1 6 (by kernel_rfl) <| Zok (c233 lb d.n d.ways (fndL d.L m.line).num d.L (by have := ok.w0; omega) (fndL d.L m.line).hn ok.un (Nat.le_trans ok.len (by decide))) [0] rfl rfl rfl <| Zqh 1 rfl <| Zhn (by kernel_rfl) <| Znx <| Zsr <| Zv (ydw 5 (m := 20) rfl rfl (Enc.len ..)) <| Ze (eb1 elMsg (by decide) rfl) fun A74 => Zw <| Zv (ya rfl) <| Znl <| Znx ?_
      refine Zrt ?_
      refine Zfx [3,1,2,2] (cac_fold (b := b) (d := d.setL (dropL d.L (fndL d.L m.line).num)) (ok.drop (fndL d.L m.line).num)) rfl ?_
      refine Zre (.t rfl .n) (hS.1 _ _ hb _) [1,0] 3 rfl rfl rfl rfl
    · have hb : backG d m = none := by unfold backG; rw [if_neg hm, if_neg (show ¬ writesB (stateOf d.L m.line) = true by simp only [stateOf]; rw [a]; decide)]
      refine Zfx [2,1,1,1] (cac_fold (b := b) (d := d) ok) rfl ?_
      refine Zpe (hS.2 hb) [0] 3 rfl rfl
theorem c199 (b : Nat) (d : CD) (m : Msg) : Sp Tryz.prog 199 [.pointer (some ⟨b, 0, none⟩), .agg (msgE.arr m)] [.hp (cacC b d)] fun K =>
    (writesB (stateOf d.L m.line) = false → ∀ A, K (.returned (.slice A 1 1)) [.hp (own msgE A 1 [mkM 12 d.id 4 m.line b16z m.hn]), .hp (cacC b (d.setL (dropL d.L m.line)))]) ∧ (writesB (stateOf d.L m.line) = true → K (.panicked (stopP 220)) [.hp (cacC b d)]) := by
  have hn := m.hn
  refine Zen Tryz.func199 rfl rfl rfl fun e X Φ hS => Zsr <| Ze (ebxE rfl) fun b3 => Zw <| Zv (ya rfl) <| Znl <| Znx <| Zsr <| Zv (ym rfl) <| Zv (yf 3 rfl) <| Zv (yd 0 rfl rfl rfl) ?_
  refine Zk (c97 b d m.line hn) [1] rfl rfl <| Zq <| Zk (c222 ..) [] rfl rfl <| Zq <| Zv (ynot rfl) <| Zk (c231 ..) [] rfl rfl <| ⟨?_, ?_⟩
  refine fun a => Zq <| Znl <| Znx <| Zsq ?_
  rotate_left
  refine fun a => Zqp <| Zp1 ?_
  rotate_left
  · have h0 : writesB (stateOf d.L m.line) = false := by simpa using a
    refine Zoc 0 cac_op rfl <| fun ok lb pa pg hha hg => ?_
    refine Zhd [1] rfl rfl <| Zht 0 rfl (ym rfl) <| Zht 1 rfl (yn rfl) <| Zht 2 rfl (yf 1 rfl) <| Zht 3 rfl (yd 0 rfl rfl rfl) <| Zht 4 rfl (yf 3 rfl) <| Zht 5 rfl (yd 3 rfl rfl rfl) ?_
    refine Zh1 6 (by kernel_rfl) <| Zok (c233 lb d.n d.ways m.line d.L (by have := ok.w0; omega) hn ok.un (Nat.le_trans ok.len (by decide))) [0] rfl rfl rfl <| Zqh 1 rfl <| Zhn (by kernel_rfl) <| Znx <| Zsr <| Zv (ym rfl) <| Zv (yf 3 rfl) <| Zv (yd 4 rfl rfl rfl) ?_
    refine Zk (c232 b d.id 12 m.line hn (.pointer (some ⟨lb, 0, none⟩)) (.pointer pa) (.pointer pg)) [1] rfl rfl <| Zq <| Ze (eb1 elMsg (by decide) rfl) fun A23 => Zw <| Zv (ya rfl) <| Znl <| Znx <| Zrt ?_
    refine Zfx [1,1,1,1] (cac_fold (b := b) (d := d.setL (dropL d.L m.line)) (ok.drop m.line)) rfl ?_
    refine Zre (.t rfl .n) (hS.1 h0 _) [1,0] 1 rfl rfl rfl rfl
  · have h0 : writesB (stateOf d.L m.line) = true := by simpa using a
    refine Zpe (hS.2 h0) [0] 1 rfl rfl
def CD.noG (d : CD) : CD := ⟨d.id, d.n, d.ways, d.L, d.ask, none⟩
theorem CD.Ok.noG {d : CD} (h : d.Ok) : d.noG.Ok := { h with }
theorem c200 (b : Nat) (d : CD) (m : Msg) : Sp Tryz.prog 200 [.pointer (some ⟨b, 0, none⟩), .agg (msgE.arr m)] [.hp (cacC b d)] fun K =>
    (mine d.giv m.line = true → K (.returned (.slice none 0 0)) [.hp (cacC b d.noG)]) ∧ (mine d.giv m.line = false → K (.panicked (stopP 220)) [.hp (cacC b d)]) := by
  have hn := m.hn
  rcases Option.eq_none_or_eq_some d.giv with hgv | ⟨x, hgv⟩
  · refine Zen Tryz.func200 rfl rfl rfl fun e X Φ hS => Zoc 0 cac_op rfl <| fun ok lb pa pg hha hg => ?_
    have h2 : pg.isSome = false := by rw [hg, hgv]; rfl
    refine Zsr <| Ze (ebxE rfl) fun b3 => Zw <| Zv (ya rfl) <| Znl <| Znx <| Zsq <| Zhd [] rfl rfl <| Zht 0 rfl (ym rfl) <| Zht 1 rfl (yn rfl) <| Zht 2 rfl (yf 3 rfl) ?_
    refine Zht 3 rfl (yd 1 rfl rfl rfl) <| Zht 4 rfl (ypne rfl rfl rfl) <| Zht 5 rfl (ym rfl) <| Zhu 6 rfl rfl (lkn rfl h2) rfl <| Zhu 7 rfl rfl (lkn rfl h2) rfl <| Zhu 8 rfl rfl (lkn rfl h2) rfl <| Zhu 9 rfl rfl (lkn rfl h2) rfl <| Zhu 10 rfl rfl (lkn rfl h2) rfl <| Zhu 11 rfl rfl (lkn rfl h2) rfl <| Zhu 12 rfl rfl (lkn rfl h2) rfl ?_
    refine Zhu 13 rfl rfl (lkn rfl h2) rfl <| Zhu 14 rfl rfl (lkn rfl h2) rfl <| Zhu 15 rfl rfl (lkn rfl h2) rfl <| Zht 16 rfl (ypf' rfl h2 rfl) <| Zh1 17 (by kernel_rfl) <| Zok (c231f (h := rfl) ..) [] rfl rfl rfl <| Zqhp <| Zp1 ?_
    refine Zfx [1,1,1,1] (cac_fold (b := b) (d := d) ok) rfl ?_
    refine Zpe (hS.2 (by simp [mine, hgv])) [0] 1 rfl rfl
  · refine Zen Tryz.func200 rfl rfl rfl fun e X Φ hS => Zoc 0 cac_op rfl <| fun ok lb pa pg hha hg => ?_
    rw [hgv]
    refine Zoc 3 giv_op1 rfl <| fun bg eg => ?_
    subst eg
    refine Zsr <| Ze (ebxE rfl) fun b3 => Zw <| Zv (ya rfl) <| Znl <| Znx <| Zsq <| Zhd [] rfl rfl <| Zht 0 rfl (ym rfl) <| Zht 1 rfl (yn rfl) <| Zht 2 rfl (yf 3 rfl) ?_
    refine Zht 3 rfl (yd 2 rfl rfl rfl) <| Zht 4 rfl (ypne rfl rfl rfl) <| Zht 5 rfl (ym rfl) <| Zhg 6 rfl rfl rfl (ym rfl) <| Zhg 7 rfl rfl rfl (yn rfl) <| Zhg 8 rfl rfl rfl (yf 3 rfl) <| Zhg 9 rfl rfl rfl (yd 2 rfl rfl rfl) <| Zhg 10 rfl rfl rfl (yn rfl) <| Zhg 11 rfl rfl rfl (yf 0 rfl) <| Zhg 12 rfl rfl rfl (yd 1 rfl rfl rfl) ?_
    refine Zhg 13 rfl rfl rfl (yf 3 rfl) <| Zhg 14 rfl rfl rfl (yd 0 rfl rfl rfl) <| Zhg 15 rfl rfl rfl (yeq rfl rfl) <| Zht 16 rfl (ypt rfl rfl) <| Zh1 17 (by kernel_rfl) <| Zok (c231 ..) [] rfl rfl rfl <| ⟨?_, ?_⟩
    refine fun a => Zqh 0 rfl <| Zhn (by kernel_rfl) <| Znx <| Zsr <| Zv (ym rfl) <| Zv (yn rfl) <| Zv (yf 3 rfl) <| Ze (es 2 rfl rfl rfl rfl rfl) <| Zw0 <| Znl ?_
    refine Znx <| Zsr <| Zv (ya rfl) <| Znl <| Znx <| Zrt ?_
    rotate_left
    refine fun a => Zqhp <| Zp1 ?_
    rotate_left
    · refine Zfx [] giv_f0 rfl ?_
      refine Zfx [3,3,3,0] (cac_fold (b := b) (d := d.noG) ok.noG) rfl ?_
      refine Zre (.t rfl .n) (hS.1 (by rw [hgv]; exact a)) [0] 2 rfl rfl rfl rfl
    · refine Zfx [1] (giv_f1 (b := bg) (x := x)) rfl ?_
      rw [← hgv]
      refine Zfx [2,2,2,0] (cac_fold (b := b) (d := d) ok) rfl ?_
      refine Zpe (hS.2 (by rw [hgv]; exact a)) [0] 1 rfl rfl
end Go.Proofs.YtpfijldkkfiooaaGreatDoor
namespace Go.Proofs.YtpfijldkkfiooaaGreatDoor
open Go
set_option maxRecDepth 4000
theorem r196 (p : Value) : Ct Tryz.prog 196 [p] .returning .returning [] [] := by
  refine ZenS Tryz.func196 rfl rfl rfl rfl rfl rfl (fun _ _ => rfl) (.inl ⟨rfl, rfl, rfl⟩) fun e X c₀ cs => ?_
  refine Zbl <| Zsr <| Zv (yii Tryz.underlying20 rfl) <| Znl <| Znx <| Zct rfl <| Zrg <| Zv (ya rfl) <| Znl <| Zxn ?_
  refine ZeS [] 0 (fun w' hp => ⟨rfl, rfl, hp⟩) rfl rfl
theorem p196 (b q t : Nat) (c : Int) (cs cs' : List Value) (hc : put cs q (.int .i64 c) = some cs') : Ct Tryz.prog 196 [.pointer (some ⟨b, q, none⟩)] (pa (.iface 348 (.agg #[.int .i64 c])) false) (pa (.iface 348 (.agg #[.int .i64 c])) true) [.blk b t cs] [.blk b t cs'] := by
  refine ZenS Tryz.func196 rfl rfl rfl rfl rfl rfl (fun _ _ => rfl) (.inr ⟨rfl, rfl⟩) fun e X c₀ cs => ?_
  refine Zbl <| Zsr <| Zv (yin Tryz.underlying20 rfl) <| Znl <| Znx <| Zcf rfl <| Zsr <| Zv (yta Tryz.underlying348 rfl rfl) <| Zv (yx rfl rfl) <| Zv (yx rfl rfl) ?_
  refine Znl <| Znx <| Zct rfl <| Zsr <| Ze (eal z348) fun b3 => Zw <| Ze (esw 0 (m := 1) rfl rfl rfl rfl rfl rfl rfl) <| Zw0 <| Znl <| Znx <| Zrg <| Zv (ym rfl) ?_
  refine Zv (yf 0 rfl) <| Zv (yd 0 rfl rfl rfl) <| Zv (yn rfl) ?_
  refine Ze (es 1 rfl rfl rfl hc rfl) <| Zw0 <| Znl <| Zxn ?_
  refine ZeS [1] 1 (fun w' hp => ⟨rfl, rfl, hp⟩) rfl rfl
def takeF (d : CD) (m : Msg) : CD × List Msg × Int :=
  if chk m ≠ 0 ∨ m.dst ≠ d.id then (d, [], 2)
  else if m.kind = 8 ∨ m.kind = 9 ∨ m.kind = 10 then (if dataG d m = true then (d.setLA (putL d.n d.ways d.L (dataLn m)), [mkM 13 d.id 4 m.line b16z m.hn], 0) else (d, [], 220))
  else if m.kind = 4 ∨ m.kind = 5 then (match backG d m with | some (d', bs) => (d', [mkM 11 d.id 4 m.line bs m.hn], 0) | none => (d, [], 220))
  else if m.kind = 6 then (if writesB (stateOf d.L m.line) = true then (d, [], 220) else (d.setL (dropL d.L m.line), [mkM 12 d.id 4 m.line b16z m.hn], 0))
  else if mine d.giv m.line = true then (d.noG, [], 0) else (d, [], 220)
theorem c143 (b : Nat) (d : CD) (m : Msg) : Sp Tryz.prog 143 [.pointer (some ⟨b, 0, none⟩), .agg (msgE.arr m)] [.hp (cacC b d)] fun K => ∀ A cap, K (.returned (.tuple #[.slice A (takeF d m).2.1.length cap, .int .i64 (takeF d m).2.2])) [.hp (own msgE A cap (takeF d m).2.1), .hp (cacC b (takeF d m).1)] := by
  refine ZenD Tryz.func143 rfl rfl rfl fun e X Φ hS => Zoc 0 cac_op rfl <| fun ok lb pa pg hha hg => ?_
  refine Zsr <| Ze (ebxE rfl) fun b3 => Zw <| Zv (ya rfl) <| Ze (eal z34) fun b5 => Zw <| Znl <| Znx <| Zsq <| Zbl <| Zsr <| Zv (ym rfl) ?_
  refine Zk (c59 ..) [2] rfl rfl <| Zq <| Zv (ya rfl) <| Znl <| Znx <| Zcf rfl <| Zsq <| Zhd [] rfl rfl <| Zht 0 rfl (ydw 2 (m := 20) rfl rfl (Enc.len ..)) <| Zh1 1 (by kernel_rfl) <| Zok (c190 ..) [] rfl rfl rfl ?_
  refine Zqh 0 rfl <| Zht 2 rfl (yne rfl rfl) <| Zht 3 rfl (ym rfl) <| Zhgs 4 rfl rfl rfl (fun h13 => ?_) (fun h13 => ?_)
  refine Zhu 4 rfl rfl (lkn rfl (decide_eq_true h13)) rfl <| Zhu 5 rfl rfl (lkn rfl (decide_eq_true h13)) rfl <| Zhu 6 rfl rfl (lkn rfl (decide_eq_true h13)) rfl <| Zhu 7 rfl rfl (lkn rfl (decide_eq_true h13)) rfl <| Zhu 8 rfl rfl (lkn rfl (decide_eq_true h13)) rfl <| Zhu 9 rfl rfl (lkn rfl (decide_eq_true h13)) rfl <| Zhu 10 rfl rfl (lkn rfl (decide_eq_true h13)) rfl <| Zht 11 rfl (ypt' rfl (decide_eq_true h13) rfl) <| Zht 12 rfl (ya rfl) <| Zhn (by kernel_rfl) ?_
  refine Znx <| Zct rfl <| Zsr <| Zv (ya rfl) <| Ze (es 1 rfl rfl rfl rfl rfl) <| Zw0 <| Znl <| Znx <| Zrt <| Zr2 <| Zr1 ?_
  rotate_left
  refine Zhg 4 rfl rfl (lkn rfl (decide_eq_false h13)) (yf 2 rfl) <| Zhg 5 rfl rfl (lkn rfl (decide_eq_false h13)) (yd 2 rfl rfl rfl) <| Zhg 6 rfl rfl (lkn rfl (decide_eq_false h13)) (ym rfl) <| Zhg 7 rfl rfl (lkn rfl (decide_eq_false h13)) (yn rfl) <| Zhg 8 rfl rfl (lkn rfl (decide_eq_false h13)) (yf 0 rfl) <| Zhg 9 rfl rfl (lkn rfl (decide_eq_false h13)) (yd 0 rfl rfl rfl) <| Zhg 10 rfl rfl (lkn rfl (decide_eq_false h13)) (yne rfl rfl) <| Zht 11 rfl (ypf' rfl (decide_eq_false h13) rfl) <| Zht 12 rfl (ya rfl) <| Zhn (by kernel_rfl) ?_
  refine Znx <| Zif rfl (fun h9 => ?_) (fun h9 => ?_)
  refine Zsr <| Zv (ya rfl) <| Ze (es 1 rfl rfl rfl rfl rfl) <| Zw0 <| Znl <| Znx <| Zrt <| Zr2 <| Zr1 ?_
  rotate_left
  refine Zsk <| Zxn <| Znx <| Zsr <| Zdf rfl <| Znl <| Znx <| Zsr <| Ze (emk .i64) fun r22 => Zw <| Zv (ym rfl) ?_
  refine Zv (yfn rfl rfl) <| Ze (ein 0 rfl rfl rfl rfl rfl rfl Tryz.underlying319 Tryz.underlying114) <| Zw0 <| Zv (ym rfl) <| Zv (yfn rfl rfl) <| Ze (ein 0 rfl rfl rfl rfl rfl rfl Tryz.underlying319 Tryz.underlying114) <| Zw0 <| Zv (ym rfl) <| Zv (yfn rfl rfl) <| Ze (ein 0 rfl rfl rfl rfl rfl rfl Tryz.underlying319 Tryz.underlying114) <| Zw0 <| Zv (ym rfl) <| Zv (yfn rfl rfl) ?_
  refine Ze (ein 0 rfl rfl rfl rfl rfl rfl Tryz.underlying319 Tryz.underlying114) <| Zw0 <| Zv (ym rfl) <| Zv (yfn rfl rfl) <| Ze (ein 0 rfl rfl rfl rfl rfl rfl Tryz.underlying319 Tryz.underlying114) <| Zw0 <| Zv (ym rfl) <| Zv (yfn rfl rfl) <| Ze (ein 0 rfl rfl rfl rfl rfl rfl Tryz.underlying319 Tryz.underlying114) <| Zw0 <| Zv (ym rfl) <| Zv (yfn rfl rfl) <| Ze (ein 0 rfl rfl rfl rfl rfl rfl Tryz.underlying319 Tryz.underlying114) <| Zw0 ?_
  refine Zv (ym rfl) <| Zv (yf 0 rfl) <| Zv (yd 3 rfl rfl rfl) ?_
  rotate_left
  · rw [show takeF d m = (d, [], 2) from if_pos (.inl h13)] at hS
    refine Zfx [0,2,2,2] (cac_fold (b := b) (d := d) ok) rfl ?_
    refine Zix (fun _ hs => sep_nil (E := msgE) hs) <| ZreD (.t rfl (.c 2 rfl rfl rfl .n)) (hS _ _) [0,0] 2 rfl rfl rfl rfl
  · rw [show takeF d m = (d, [], 2) from if_pos (.inr h9)] at hS
    refine Zfx [0,2,2,2] (cac_fold (b := b) (d := d) ok) rfl ?_
    refine Zix (fun _ hs => sep_nil (E := msgE) hs) <| ZreD (.t rfl (.c 2 rfl rfl rfl .n)) (hS _ _) [0,0] 2 rfl rfl rfl rfl
  · refine Zfl [1,3,3,3] (cac_fold (b := b) (d := d) ok) rfl ?_
    have h1 : ¬ (chk m ≠ 0 ∨ m.dst ≠ d.id) := fun h => h.elim h13 h9
    have hk : m.kind = 8 ∨ m.kind = 9 ∨ m.kind = 10 ∨ m.kind = 4 ∨ m.kind = 5 ∨ m.kind = 6 ∨ m.kind = 7 := by
      have i0 := ok.i0
      have i1 := ok.i1
      have hd : m.dst = d.id := by simpa using h9
      have hc : goodMsg m = true := by
        cases hg : goodMsg m with
        | true => rfl
        | false => exact absurd (show chk m ≠ 0 by simp [chk, hg]) h13
      simp [goodMsg, homeK, cacheK] at hc
      omega
    have e8 : (m.kind = 8 ∨ m.kind = 9 ∨ m.kind = 10) → takeF d m = (if dataG d m = true then (d.setLA (putL d.n d.ways d.L (dataLn m)), [mkM 13 d.id 4 m.line b16z m.hn], 0) else (d, [], 220)) := fun h => (if_neg h1).trans (if_pos h)
    have e4 : (m.kind = 4 ∨ m.kind = 5) → takeF d m = (match backG d m with | some (d', bs) => (d', [mkM 11 d.id 4 m.line bs m.hn], 0) | none => (d, [], 220)) := fun h => (if_neg h1).trans ((if_neg (by omega)).trans (if_pos h))
    have e6 : m.kind = 6 → takeF d m = (if writesB (stateOf d.L m.line) = true then (d, [], 220) else (d.setL (dropL d.L m.line), [mkM 12 d.id 4 m.line b16z m.hn], 0)) := fun h => (if_neg h1).trans ((if_neg (by omega)).trans ((if_neg (by omega)).trans (if_pos h)))
    have e7 : m.kind = 7 → takeF d m = (if mine d.giv m.line = true then (d.noG, [], 0) else (d, [], 220)) := fun h => (if_neg h1).trans ((if_neg (by omega)).trans ((if_neg (by omega)).trans (if_neg (by omega))))
    rcases hk with hk | hk | hk | hk | hk | hk | hk
    · rw [e8 (by omega)] at hS
      rw [hk]
      refine Zv (ylk 1 rfl rfl rfl Tryz.underlying319 Tryz.underlying114 zv318) <| Zv (ydw 3 (m := 20) rfl rfl (Enc.len ..)) <| Zkv (c197 ..) [0] rfl rfl rfl rfl <| ⟨?_, ?_⟩
      refine fun a => fun A => Zq <| Zv (ya rfl) <| Ze (es 3 rfl rfl rfl rfl rfl) <| Zw0 <| Znl <| Znx <| Zrt ?_
      rotate_left
      refine fun a => Zqp <| Zp1 ?_
      rotate_left
      · rw [if_pos a] at hS
        refine ZrD (r196 _) [] rfl (.t rfl (.c 3 rfl rfl rfl .n)) (hS _ _) [0,0] 3 rfl rfl rfl
      · rw [if_neg (by rw [a]; decide)] at hS
        refine Zix (fun _ hs => sep_nil (E := msgE) hs) ?_
        refine ZpD (p196 _ _ _ _ _ _ rfl) [3] rfl (.t rfl (.c 0 rfl rfl rfl .n)) (hS none 0) [1,1] 3 rfl rfl rfl
    · rw [e8 (by omega)] at hS
      rw [hk]
      refine Zv (ylk 1 rfl rfl rfl Tryz.underlying319 Tryz.underlying114 zv318) <| Zv (ydw 3 (m := 20) rfl rfl (Enc.len ..)) <| Zkv (c197 ..) [0] rfl rfl rfl rfl <| ⟨?_, ?_⟩
      refine fun a => fun A => Zq <| Zv (ya rfl) <| Ze (es 3 rfl rfl rfl rfl rfl) <| Zw0 <| Znl <| Znx <| Zrt ?_
      rotate_left
      refine fun a => Zqp <| Zp1 ?_
      rotate_left
      · rw [if_pos a] at hS
        refine ZrD (r196 _) [] rfl (.t rfl (.c 3 rfl rfl rfl .n)) (hS _ _) [0,0] 3 rfl rfl rfl
      · rw [if_neg (by rw [a]; decide)] at hS
        refine Zix (fun _ hs => sep_nil (E := msgE) hs) ?_
        refine ZpD (p196 _ _ _ _ _ _ rfl) [3] rfl (.t rfl (.c 0 rfl rfl rfl .n)) (hS none 0) [1,1] 3 rfl rfl rfl
    · rw [e8 (by omega)] at hS
      rw [hk]
      refine Zv (ylk 1 rfl rfl rfl Tryz.underlying319 Tryz.underlying114 zv318) <| Zv (ydw 3 (m := 20) rfl rfl (Enc.len ..)) <| Zkv (c197 ..) [0] rfl rfl rfl rfl <| ⟨?_, ?_⟩
      refine fun a => fun A => Zq <| Zv (ya rfl) <| Ze (es 3 rfl rfl rfl rfl rfl) <| Zw0 <| Znl <| Znx <| Zrt ?_
      rotate_left
      refine fun a => Zqp <| Zp1 ?_
      rotate_left
      · rw [if_pos a] at hS
        refine ZrD (r196 _) [] rfl (.t rfl (.c 3 rfl rfl rfl .n)) (hS _ _) [0,0] 3 rfl rfl rfl
      · rw [if_neg (by rw [a]; decide)] at hS
        refine Zix (fun _ hs => sep_nil (E := msgE) hs) ?_
        refine ZpD (p196 _ _ _ _ _ _ rfl) [3] rfl (.t rfl (.c 0 rfl rfl rfl .n)) (hS none 0) [1,1] 3 rfl rfl rfl
    · rw [e4 (by omega)] at hS
      rw [hk]
      refine Zv (ylk 1 rfl rfl rfl Tryz.underlying319 Tryz.underlying114 zv318) <| Zv (ydw 3 (m := 20) rfl rfl (Enc.len ..)) <| Zkv (c198 ..) [0] rfl rfl rfl rfl <| ⟨?_, ?_⟩
      refine fun d' => fun bs => fun a => fun A => Zq <| Zv (ya rfl) <| Ze (es 3 rfl rfl rfl rfl rfl) <| Zw0 <| Znl <| Znx <| Zrt ?_
      rotate_left
      refine fun a => Zqp <| Zp1 ?_
      rotate_left
      · rw [a] at hS; simp only [] at hS
        refine ZrD (r196 _) [] rfl (.t rfl (.c 3 rfl rfl rfl .n)) (hS _ _) [0,0] 3 rfl rfl rfl
      · rw [a] at hS; simp only [] at hS
        refine Zix (fun _ hs => sep_nil (E := msgE) hs) ?_
        refine ZpD (p196 _ _ _ _ _ _ rfl) [3] rfl (.t rfl (.c 0 rfl rfl rfl .n)) (hS none 0) [1,1] 3 rfl rfl rfl
    · rw [e4 (by omega)] at hS
      rw [hk]
      refine Zv (ylk 1 rfl rfl rfl Tryz.underlying319 Tryz.underlying114 zv318) <| Zv (ydw 3 (m := 20) rfl rfl (Enc.len ..)) <| Zkv (c198 ..) [0] rfl rfl rfl rfl <| ⟨?_, ?_⟩
      refine fun d' => fun bs => fun a => fun A => Zq <| Zv (ya rfl) <| Ze (es 3 rfl rfl rfl rfl rfl) <| Zw0 <| Znl <| Znx <| Zrt ?_
      rotate_left
      refine fun a => Zqp <| Zp1 ?_
      rotate_left
      · rw [a] at hS; simp only [] at hS
        refine ZrD (r196 _) [] rfl (.t rfl (.c 3 rfl rfl rfl .n)) (hS _ _) [0,0] 3 rfl rfl rfl
      · rw [a] at hS; simp only [] at hS
        refine Zix (fun _ hs => sep_nil (E := msgE) hs) ?_
        refine ZpD (p196 _ _ _ _ _ _ rfl) [3] rfl (.t rfl (.c 0 rfl rfl rfl .n)) (hS none 0) [1,1] 3 rfl rfl rfl
    · rw [e6 (by omega)] at hS
      rw [hk]
      refine Zv (ylk 1 rfl rfl rfl Tryz.underlying319 Tryz.underlying114 zv318) <| Zv (ydw 3 (m := 20) rfl rfl (Enc.len ..)) <| Zkv (c199 ..) [0] rfl rfl rfl rfl <| ⟨?_, ?_⟩
      refine fun a => fun A => Zq <| Zv (ya rfl) <| Ze (es 3 rfl rfl rfl rfl rfl) <| Zw0 <| Znl <| Znx <| Zrt ?_
      rotate_left
      refine fun a => Zqp <| Zp1 ?_
      rotate_left
      · rw [if_neg (by rw [a]; decide)] at hS
        refine ZrD (r196 _) [] rfl (.t rfl (.c 3 rfl rfl rfl .n)) (hS _ _) [0,0] 3 rfl rfl rfl
      · rw [if_pos a] at hS
        refine Zix (fun _ hs => sep_nil (E := msgE) hs) ?_
        refine ZpD (p196 _ _ _ _ _ _ rfl) [3] rfl (.t rfl (.c 0 rfl rfl rfl .n)) (hS none 0) [1,1] 3 rfl rfl rfl
    · rw [e7 (by omega)] at hS
      rw [hk]
      refine Zv (ylk 1 rfl rfl rfl Tryz.underlying319 Tryz.underlying114 zv318) <| Zv (ydw 3 (m := 20) rfl rfl (Enc.len ..)) <| Zkv (c200 ..) [0] rfl rfl rfl rfl <| ⟨?_, ?_⟩
      refine fun a => Zq <| Zv (ya rfl) <| Ze (es 2 rfl rfl rfl rfl rfl) <| Zw0 <| Znl <| Znx <| Zrt ?_
      rotate_left
      refine fun a => Zqp <| Zp1 ?_
      rotate_left
      · rw [if_pos a] at hS
        refine Zix (fun _ hs => sep_nil (E := msgE) hs) ?_
        refine ZrD (r196 _) [] rfl (.t rfl (.c 3 rfl rfl rfl .n)) (hS none 0) [0,0] 3 rfl rfl rfl
      · rw [if_neg (by rw [a]; decide)] at hS
        refine Zix (fun _ hs => sep_nil (E := msgE) hs) ?_
        refine ZpD (p196 _ _ _ _ _ _ rfl) [3] rfl (.t rfl (.c 0 rfl rfl rfl .n)) (hS none 0) [1,1] 3 rfl rfl rfl
end Go.Proofs.YtpfijldkkfiooaaGreatDoor
namespace Go.Proofs.YtpfijldkkfiooaaGreatDoor
open Go
set_option maxRecDepth 4000
def newD (i : Int) (n : Nat) (ways : Int) : CD := ⟨i, n, ways, [], none, none⟩
theorem new_ok {i : Int} {n : Nat} {ways : Int} (h : rightB n ways = true) (h0 : 0 ≤ i) (h1 : i < 4) : (newD i n ways).Ok := by
  obtain ⟨r1, r2, r3, r4, r5⟩ := right_yes h
  exact ⟨h0, h1, by show 0 < n; omega, by show n ≤ 64; omega, by show 1 ≤ ways; omega, by show ways ≤ 8; omega, List.Pairwise.nil, Fits.nil (by show 0 ≤ ways; omega), fun _ _ e => by cases e⟩
theorem c75 (i : Int) (n : Nat) (ways : Int) (h0 : 0 ≤ i) (h1 : i < 4) : Sp Tryz.prog 75 [.int .i64 i, .int .i64 (n : Int), .int .i64 ways] [] fun K => (rightB n ways = true → ∀ b, K (.returned (.tuple #[.pointer (some ⟨b, 0, none⟩), .int .i64 0])) [.hp (cacC b (newD i n ways))]) ∧ (rightB n ways = false → K (.returned (.tuple #[.pointer none, .int .i64 2])) []) := by
  refine Zen Tryz.func75 rfl rfl rfl fun e X Φ hS => Zsr <| Zv (ya rfl) <| Zv (ya rfl) <| Znl <| Znx <| Zsr <| Zv (ym rfl) <| Zv (ym rfl) <| Zk (c122 ..) [] rfl rfl ?_
  refine ⟨?_, ?_⟩
  refine fun a => fun b => Zq <| Zv (ym rfl) <| Zv (yx rfl rfl) <| Zv (yx rfl rfl) <| Zv (ya rfl) <| Zv (ya rfl) <| Znl <| Znx ?_
  refine Zsq <| Zsr <| Zv (ym rfl) <| Zv (yne rfl rfl) <| Zv (ym rfl) <| Zg rfl rfl <| Zv (ym rfl) <| Zg rfl rfl <| Zv (ylt rfl rfl) <| Zv (ypf rfl rfl) ?_
  refine Zv (ym rfl) <| Zg' rfl rfl (decide_eq_false (by omega)) <| Zv (ym rfl) <| Zg' rfl rfl (decide_eq_false (by omega)) <| Zv (yge rfl rfl) <| Zv (ypf' rfl (decide_eq_false (by omega)) rfl) <| Znl <| Znx <| Zcf' rfl (decide_eq_false (by omega)) <| Zsk ?_
  refine Znx <| Zsr <| Zv (ym rfl) <| Zv (ym rfl) <| Zv (yb l155 rfl) <| Ze (ebx rfl) fun b29 => Zw <| Zv (ya rfl) <| Zv (ya rfl) <| Znl <| Znx ?_
  refine Zrt ?_
  rotate_left
  refine fun a => Zq <| Zv (ym rfl) <| Zv (yx rfl rfl) <| Zv (yx rfl rfl) <| Zv (ya rfl) <| Zv (ya rfl) <| Znl <| Znx <| Zsq ?_
  refine Zsr <| Zv (ym rfl) <| Zv (yne rfl rfl) <| Zv (ym rfl) <| Zu rfl rfl rfl <| Zu rfl rfl rfl <| Zv (ypt rfl rfl) <| Zv (ym rfl) <| Zu rfl rfl rfl <| Zu rfl rfl rfl ?_
  refine Zv (ypt rfl rfl) <| Znl <| Znx <| Zct rfl <| Zsr <| Zv (ya rfl) <| Zv (ya rfl) <| Znl <| Znx <| Zrt ?_
  refine Zr1 ?_
  rotate_left
  · refine Zfx [] (ask_f0) rfl ?_
    refine Zfx [] (giv_f0) rfl ?_
    refine Zfx [2,2,1,0] (cac_fold (b := b29) (d := newD i n ways) (new_ok a h0 h1)) rfl ?_
    refine Zre (.t rfl (.t rfl .n)) (hS.1 a b29) [0] 0 rfl rfl rfl rfl
  · refine Zre (.t rfl (.t rfl .n)) (hS.2 a) [] 0 rfl rfl rfl rfl
theorem ask_n {a : Option (Int × Bool)} (e : a = none) : ∀ h, Sep [] h → askC none a h := fun _ _ => by subst e; rfl
theorem giv_n {a : Option Ln} (e : a = none) : ∀ h, Sep [] h → givC none a h := fun _ _ => by subst e; rfl
theorem ask_s {a : Option (Int × Bool)} {b : Nat} {l : Int} {wr : Bool} (e : a = some (l, wr)) : ∀ h, Sep [.blk b 196 [.int .u32 l, .bool wr]] h → askC (some ⟨b, 0, none⟩) a h := fun _ hs => by subst e; exact ⟨b, rfl, hs⟩
theorem giv_s {a : Option Ln} {b : Nat} {x : Ln} (e : a = some x) : ∀ h, Sep [.blk b 145 (lnE.cells x)] h → givC (some ⟨b, 0, none⟩) a h := fun _ hs => by subst e; exact ⟨b, rfl, hs⟩
theorem c42 (b : Nat) (d : CD) : Sp Tryz.prog 42 [.pointer (some ⟨b, 0, none⟩)] [.hp (cacC b d)] fun K => ∀ b', K (.returned (.pointer (some ⟨b', 0, none⟩))) [.hp (cacC b' d), .hp (cacC b d)] := by
  refine Zen Tryz.func42 rfl rfl rfl fun e X Φ hS => Zoc 0 cac_op rfl <| fun ok lb pa pg hha hg => ?_
  refine Zsr <| Zv (ya rfl) <| Znl <| Znx <| Zsq <| Zsr <| Zv (ym rfl) <| Zk (c59 ..) [0] rfl rfl <| Zq <| Znl ?_
  refine Znx <| Zcf rfl <| Zsk <| Znx <| Zsq ?_
  refine Zhd [1] rfl rfl <| Zht 0 rfl (ym rfl) <| Zht 1 rfl (yn rfl) <| Zht 2 rfl (yf 0 rfl) <| Zht 3 rfl (yd 0 rfl rfl rfl) <| Zht 4 rfl (ym rfl) <| Zht 5 rfl (yn rfl) <| Zht 6 rfl (yf 1 rfl) <| Zht 7 rfl (yd 0 rfl rfl rfl) ?_
  refine Zh1 8 (by kernel_rfl) <| Zok (c84 lb d.n d.ways d.L (by have := ok.w0; omega) (Nat.le_trans ok.len (by decide))) [0] rfl rfl rfl <| fun b' => Zqh 2 rfl <| Zht 9 rfl (yb l155 rfl) <| Zh1 10 (by kernel_rfl) <| Zoe rfl (ebx rfl) fun b18 => Zwh 3 rfl <| Zht 11 rfl (ya rfl) <| Zhn (by kernel_rfl) <| Znx ?_
  rcases Option.eq_none_or_eq_some d.ask with hak | ⟨⟨l, wr⟩, hak⟩
  · have h1 := none_of hha hak
    subst h1
    rcases Option.eq_none_or_eq_some d.giv with hgv | ⟨x, hgv⟩
    · have h2 := none_of hg hgv
      subst h2
      refine Zsq <| Zsr <| Zv (ym rfl) <| Zv (yn rfl) <| Zv (yf 2 rfl) <| Zv (yd 3 rfl rfl rfl) <| Zv (ypne rfl rfl rfl) <| Znl <| Znx <| Zcf rfl ?_
      refine Zsk <| Znx <| Zsq <| Zsr <| Zv (ym rfl) <| Zv (yn rfl) <| Zv (yf 3 rfl) <| Zv (yd 3 rfl rfl rfl) <| Zv (ypne rfl rfl rfl) <| Znl ?_
      refine Znx <| Zcf rfl <| Zsk <| Znx <| Zsr <| Zv (ym rfl) <| Zv (ya rfl) <| Znl <| Znx <| Zrt ?_
      refine Zfx [3,2,2,2] (cac_fold (b := b) (d := d) ok) rfl ?_
      refine Zfx [] (ask_n hak) rfl ?_
      refine Zfx [] (giv_n hgv) rfl ?_
      refine Zfx [3,3,1,0] (cac_fold (b := b18) (d := d) ok) rfl <| Zre (.t rfl .n) (hS _) [0,0] 0 rfl rfl rfl rfl
    · rw [hgv]
      refine Zoc 5 giv_op1 rfl <| fun bg eg => ?_
      subst eg
      refine Zsq <| Zsr <| Zv (ym rfl) <| Zv (yn rfl) <| Zv (yf 2 rfl) <| Zv (yd 4 rfl rfl rfl) <| Zv (ypne rfl rfl rfl) <| Znl <| Znx <| Zcf rfl ?_
      refine Zsk <| Znx <| Zsq <| Zsr <| Zv (ym rfl) <| Zv (yn rfl) <| Zv (yf 3 rfl) <| Zv (yd 4 rfl rfl rfl) <| Zv (ypne rfl rfl rfl) <| Znl ?_
      refine Znx <| Zct rfl <| Zsr <| Zv (ym rfl) <| Zv (yn rfl) <| Zv (yf 3 rfl) <| Zv (yd 4 rfl rfl rfl) <| Zv (yn rfl) <| Zv (ydw 0 (m := 18) rfl rfl (Enc.len ..)) <| Ze (eal z145) fun b5 => Zw ?_
      refine Ze (esw 0 (m := 18) rfl rfl rfl rfl rfl (Enc.len ..) (Enc.allL ..)) <| Zw0 <| Znl <| Znx <| Zrg <| Zv (ym rfl) <| Zv (yn rfl) <| Zv (yf 3 rfl) <| Ze (es 2 rfl rfl rfl rfl rfl) <| Zw0 <| Znl <| Znx ?_
      refine Zsr <| Zv (ym rfl) <| Zv (ya rfl) <| Znl <| Znx <| Zrt ?_
      refine Zfx [1] (giv_s (b := bg) hgv) rfl ?_
      refine Zfx [5,4,4,0] (cac_fold (b := b) (d := d) ok) rfl ?_
      refine Zfx [] (ask_n hak) rfl ?_
      refine Zfx [2] (giv_s (b := b5) hgv) rfl ?_
      refine Zfx [3,3,1,0] (cac_fold (b := b18) (d := d) ok) rfl <| Zre (.t rfl .n) (hS _) [0,0] 0 rfl rfl rfl rfl
  · rw [hak]
    refine Zoc 4 ask_op1 rfl <| fun ba ea => ?_
    subst ea
    rcases Option.eq_none_or_eq_some d.giv with hgv | ⟨x, hgv⟩
    · have h2 := none_of hg hgv
      subst h2
      refine Zsq <| Zsr <| Zv (ym rfl) <| Zv (yn rfl) <| Zv (yf 2 rfl) <| Zv (yd 4 rfl rfl rfl) <| Zv (ypne rfl rfl rfl) <| Znl <| Znx <| Zct rfl ?_
      refine Zsr <| Zv (ym rfl) <| Zv (yn rfl) <| Zv (yf 2 rfl) <| Zv (yd 4 rfl rfl rfl) <| Zv (yn rfl) <| Zv (ydw 0 (m := 2) rfl rfl rfl) <| Ze (eal z196) fun b4 => Zw <| Ze (esw 0 (m := 2) rfl rfl rfl rfl rfl rfl rfl) <| Zw0 <| Znl ?_
      refine Znx <| Zrg <| Zv (ym rfl) <| Zv (yn rfl) <| Zv (yf 2 rfl) <| Ze (es 2 rfl rfl rfl rfl rfl) <| Zw0 <| Znl <| Znx <| Zsq <| Zsr ?_
      refine Zv (ym rfl) <| Zv (yn rfl) <| Zv (yf 3 rfl) <| Zv (yd 5 rfl rfl rfl) <| Zv (ypne rfl rfl rfl) <| Znl <| Znx <| Zcf rfl <| Zsk <| Znx ?_
      refine Zsr <| Zv (ym rfl) <| Zv (ya rfl) <| Znl <| Znx <| Zrt ?_
      refine Zfx [1] (ask_s (b := ba) hak) rfl ?_
      refine Zfx [5,4,0,3] (cac_fold (b := b) (d := d) ok) rfl ?_
      refine Zfx [1] (ask_s (b := b4) hak) rfl ?_
      refine Zfx [] (giv_n hgv) rfl ?_
      refine Zfx [3,3,1,0] (cac_fold (b := b18) (d := d) ok) rfl <| Zre (.t rfl .n) (hS _) [0,0] 0 rfl rfl rfl rfl
    · rw [hgv]
      refine Zoc 5 giv_op1 rfl <| fun bg eg => ?_
      subst eg
      refine Zsq <| Zsr <| Zv (ym rfl) <| Zv (yn rfl) <| Zv (yf 2 rfl) <| Zv (yd 5 rfl rfl rfl) <| Zv (ypne rfl rfl rfl) <| Znl <| Znx <| Zct rfl ?_
      refine Zsr <| Zv (ym rfl) <| Zv (yn rfl) <| Zv (yf 2 rfl) <| Zv (yd 5 rfl rfl rfl) <| Zv (yn rfl) <| Zv (ydw 1 (m := 2) rfl rfl rfl) <| Ze (eal z196) fun b4 => Zw <| Ze (esw 0 (m := 2) rfl rfl rfl rfl rfl rfl rfl) <| Zw0 <| Znl ?_
      refine Znx <| Zrg <| Zv (ym rfl) <| Zv (yn rfl) <| Zv (yf 2 rfl) <| Ze (es 3 rfl rfl rfl rfl rfl) <| Zw0 <| Znl <| Znx <| Zsq <| Zsr ?_
      refine Zv (ym rfl) <| Zv (yn rfl) <| Zv (yf 3 rfl) <| Zv (yd 6 rfl rfl rfl) <| Zv (ypne rfl rfl rfl) <| Znl <| Znx <| Zct rfl <| Zsr <| Zv (ym rfl) ?_
      refine Zv (yn rfl) <| Zv (yf 3 rfl) <| Zv (yd 6 rfl rfl rfl) <| Zv (yn rfl) <| Zv (ydw 1 (m := 18) rfl rfl (Enc.len ..)) <| Ze (eal z145) fun b5 => Zw <| Ze (esw 0 (m := 18) rfl rfl rfl rfl rfl (Enc.len ..) (Enc.allL ..)) <| Zw0 <| Znl <| Znx <| Zrg ?_
      refine Zv (ym rfl) <| Zv (yn rfl) <| Zv (yf 3 rfl) <| Ze (es 4 rfl rfl rfl rfl rfl) <| Zw0 <| Znl <| Znx <| Zsr <| Zv (ym rfl) <| Zv (ya rfl) <| Znl ?_
      refine Znx <| Zrt ?_
      refine Zfx [3] (ask_s (b := ba) hak) rfl ?_
      refine Zfx [3] (giv_s (b := bg) hgv) rfl ?_
      refine Zfx [7,6,1,0] (cac_fold (b := b) (d := d) ok) rfl ?_
      refine Zfx [2] (ask_s (b := b4) hak) rfl ?_
      refine Zfx [2] (giv_s (b := b5) hgv) rfl ?_
      refine Zfx [3,3,1,0] (cac_fold (b := b18) (d := d) ok) rfl <| Zre (.t rfl .n) (hS _) [0,0] 0 rfl rfl rfl rfl
end Go.Proofs.YtpfijldkkfiooaaGreatDoor
namespace Go.Proofs.YtpfijldkkfiooaaGreatDoor
open Go
set_option maxRecDepth 4000
def fetF (code : List Int) (pc : Int) : Int × Bool := if pc.tmod 4 ≠ 0 then (0, false) else match code[(pc.tdiv 4).toNat]? with | some w => (w, true) | none => (0, false)
theorem c127 (c : Ck) (A : Option Addr) (cap : Nat) (code : List Int) (pc : Int) (hR : Rd u32E c A cap code) (hp : 0 ≤ pc ∧ pc < 4294967296) (hl : code.length ≤ 1048576) : Sp Tryz.prog 127 [.slice A code.length cap, .int .u32 pc] [c] fun K => K (.returned (.tuple #[.int .u32 (fetF code pc).1, .bool (fetF code pc).2])) [c] := by
  have he : IntKind.u32.wrap (pc.tdiv 4) = (((pc.tdiv 4).toNat : Nat) : Int) := by
    have h1 : 0 ≤ pc.tdiv 4 := Int.tdiv_nonneg hp.1 (by decide)
    have h2 : pc.tdiv 4 ≤ pc := by
      rw [Int.tdiv_eq_ediv_of_nonneg hp.1]
      omega
    exact u32w (by omega) (by omega)
  have hq : (pc.tdiv 4).toNat < 4294967296 := by
    have h2 : pc.tdiv 4 ≤ pc := by
      rw [Int.tdiv_eq_ediv_of_nonneg hp.1]
      omega
    omega
  refine Zen Tryz.func127 rfl rfl rfl fun e X Φ hS => Zsr <| Zv (ya rfl) <| Zv (ya rfl) <| Znl <| Znx <| Zsq <| Zsr <| Zv (ym rfl) <| Zv (yrem rfl rfl (by decide) rfl) ?_
  refine Zv (yne rfl rfl) <| Zv (ym rfl) <| Zgs rfl rfl (fun h9 => ?_) (fun h9 => ?_)
  refine Zu' rfl rfl (decide_eq_true h9) rfl <| Zu' rfl rfl (decide_eq_true h9) rfl <| Zu' rfl rfl (decide_eq_true h9) rfl <| Zu' rfl rfl (decide_eq_true h9) rfl <| Zu' rfl rfl (decide_eq_true h9) rfl <| Zu' rfl rfl (decide_eq_true h9) rfl <| Zv (ypt' rfl (decide_eq_true h9) rfl) <| Znl <| Znx <| Zct rfl ?_
  refine Zsr <| Zv (ya rfl) <| Zv (ya rfl) <| Znl <| Znx <| Zrt <| Zr1 <| Zre (.t rfl (.t rfl .n)) hS [0] 0 ?_ rfl rfl rfl
  rotate_left
  refine Zg' rfl rfl (decide_eq_false h9) <| Zv (ym rfl) <| Zg' rfl rfl (decide_eq_false h9) <| Zv (yquo rfl rfl (by decide) rfl) <| Zg' rfl rfl (decide_eq_false h9) <| Zv (ycv Tryz.underlying40 Tryz.underlying2 rfl (i64w rfl (by omega))) <| Zg' rfl rfl (decide_eq_false h9) <| Zv (ym rfl) <| Zg' rfl rfl (decide_eq_false h9) <| Zv (sl_of ⟨_, Tryz.underlying62⟩ rfl) ?_
  refine Zg' rfl rfl (decide_eq_false h9) <| Zv (yge rfl rfl) <| Zv (ypf' rfl (decide_eq_false h9) rfl) <| Znl <| Znx <| Zif rfl (fun h16 => ?_) (fun h16 => ?_)
  refine Zsr <| Zv (ya rfl) <| Zv (ya rfl) <| Znl <| Znx <| Zrt <| Zr1 <| Zre (.t rfl (.t rfl .n)) hS [0] 0 ?_ rfl rfl rfl
  rotate_left
  refine Zsk <| Znx <| Zsr <| Zv (ym rfl) <| Zv (ym rfl) <| Zv (yquo rfl rfl (by decide) rfl) ?_
  rotate_left
  · rw [show fetF code pc = (0, false) from if_pos h9]
    rfl
  · try rw [he] at h16
    have hn : code[(pc.tdiv 4).toNat]? = none := List.getElem?_eq_none (by omega)
    rw [show fetF code pc = (0, false) by unfold fetF; rw [if_neg h9, hn]]
    rfl
  · try rw [he] at h16
    have hlt : (pc.tdiv 4).toNat < code.length := by omega
    rw [he]
    rw [show fetF code pc = (code[(pc.tdiv 4).toNat], true) by unfold fetF; rw [if_neg h9, gE hlt]] at hS
    refine Zv (yea 0 hR rfl rfl rfl (by first | assumption | omega) rfl Tryz.underlying62 rfl) <| Zv (yec (m := 0) 0 hR rfl (gE (by first | assumption | omega)) rfl rfl rfl) <| Zv (ya rfl) <| Zv (ya rfl) <| Znl <| Znx <| Zrt <| Zre (.t rfl (.t rfl .n)) hS [0] 0 rfl rfl rfl rfl
end Go.Proofs.YtpfijldkkfiooaaGreatDoor
namespace Go.Proofs.YtpfijldkkfiooaaGreatDoor
open Go
set_option maxRecDepth 4000
structure Cor where
  h : Hrt
  code : List Int
  size : Int
  B : List Sto
  first : Int
  res : Option Int
structure Cor.Ok (k : Nat) (c : Cor) : Prop where
  h : c.h.Ok
  cu : ∀ a ∈ c.code, U32 a
  cl : c.code.length ≤ 1024
  s0 : 0 ≤ c.size
  s1 : c.size ≤ 4096
  f0 : 0 ≤ c.first
  f1 : c.first ≤ k
  res : ∀ a, c.res = some a → U32 a
theorem Cor.Ok.mono {k k' : Nat} {c : Cor} (h : c.Ok k) (hk : k ≤ k') : c.Ok k' := { h with f1 := by have := h.f1; omega }
def coreCs (h : Hrt) (tl : List Value) : List Value := hrtE.cells h ++ tl
theorem nt_core {h : Hrt} {tl : List Value} {q : Nat} {v : Value} (j : Nat) (hq : q = 35 + j) (hv : nth tl j = some v) : nth (coreCs h tl) q = some v := by
  subst hq
  rw [nth_eq] at *
  unfold coreCs
  rw [List.getElem?_append_right (by rw [show (hrtE.cells h).length = 35 from h.len]; omega), show (hrtE.cells h).length = 35 from h.len, Nat.add_sub_cancel_left]
  exact hv
theorem nt_cca (h : Hrt) (tl : List Value) : nth (coreCs h tl) 34 = some (.int .i64 h.cause) := by
  have := nt_cause h
  rw [nth_eq] at *
  unfold coreCs
  rw [List.getElem?_append_left (by rw [show (hrtE.cells h).length = 35 from h.len]; decide)]
  exact this
theorem put_app : ∀ (a : List Value) {tl tl' : List Value} {j : Nat} {v : Value}, put tl j v = some tl' → put (a ++ tl) (a.length + j) v = some (a ++ tl')
  | [], tl, tl', j, v, h => by simpa using h
  | x :: a, tl, tl', j, v, h => by
    have := put_app a h
    rw [show (x :: a).length + j = (a.length + j) + 1 by simp only [List.length_cons]; omega]
    simp [put, this]
theorem pt_core {h : Hrt} {tl tl' : List Value} {q : Nat} {v : Value} (j : Nat) (hq : q = 35 + j) (hv : put tl j v = some tl') : put (coreCs h tl) q v = some (coreCs h tl') := by
  subst hq
  have := put_app (hrtE.cells h) hv
  rwa [show (hrtE.cells h).length = 35 from h.len] at this
theorem put_appL : ∀ (a a' : List Value) {tl : List Value} {j : Nat} {v : Value}, put a j v = some a' → put (a ++ tl) j v = some (a' ++ tl)
  | [], _, _, _, _, h => by cases h
  | x :: a, a', tl, 0, v, h => by cases h; rfl
  | x :: a, a', tl, j + 1, v, h => by
    cases hp : put a j v with
    | none => simp [put, hp] at h
    | some b =>
      simp [put, hp] at h
      subst h
      simp [put, put_appL a b hp]
theorem pt_cca (h : Hrt) (tl : List Value) (v : Int) : put (coreCs h tl) 34 (.int .i64 v) = some (coreCs (h.setCause v) tl) := put_appL _ _ (pt_cause h v)
theorem core_hart (h : Hrt) (tl : List Value) : ((coreCs h tl).drop 0).take 35 = hrtE.cells h := by
  unfold coreCs
  rw [List.drop_zero, List.take_left' (show (hrtE.cells h).length = 35 from h.len)]
theorem core_set (h h' : Hrt) (tl : List Value) : spl (coreCs h tl) 0 (hrtE.cells h') = coreCs h' tl := by
  unfold coreCs
  show hrtE.cells h' ++ (hrtE.cells h ++ tl).drop (hrtE.cells h').length = _
  rw [show (hrtE.cells h').length = (hrtE.cells h).length from h'.len.trans h.len.symm, List.drop_left]
def resC (p : Option Addr) : Option Int → HP
  | none => fun _ => p = none
  | some a => fun h => ∃ b, p = some ⟨b, 0, none⟩ ∧ Sep [.blk b 40 [.int .u32 a]] h
theorem resC.is {p : Option Addr} {a : Option Int} {h : Hl} (hh : resC p a h) : p.isSome = a.isSome := by
  cases a with
  | none => rw [show p = none from hh]; rfl
  | some x => obtain ⟨b, e, _⟩ := hh; rw [e]; rfl
theorem res_op1 {p : Option Addr} {a : Int} : Op_ (resC p (some a)) fun K => ∀ b, p = some ⟨b, 0, none⟩ → K [.blk b 40 [.int .u32 a]] := .mk fun G k h hh => by
  obtain ⟨b, e, hs⟩ := hh
  exact ⟨_, k b e, hs⟩
theorem res_n {a : Option Int} (e : a = none) : ∀ h, Sep [] h → resC none a h := fun _ _ => by subst e; rfl
theorem res_s {a : Option Int} {b : Nat} {x : Int} (e : a = some x) : ∀ h, Sep [.blk b 40 [.int .u32 x]] h → resC (some ⟨b, 0, none⟩) a h := fun _ hs => by subst e; exact ⟨b, rfl, hs⟩
abbrev corTl (c : Cor) (A : Option Addr) (cap bb : Nat) (pr : Option Addr) : List Value := [.slice A c.code.length cap, .int .i64 c.size, .pointer (some ⟨bb, 0, none⟩), .int .i64 c.first, .pointer pr]
def corC (k b : Nat) (c : Cor) : HP := fun g => c.Ok k ∧ ∃ A cap bb pr, Sep [.blk b 139 (coreCs c.h (corTl c A cap bb pr)), .hp (own u32E A cap c.code), .hp (bufC bb c.B), .hp (resC pr c.res)] g
theorem cor_op {k b : Nat} {c : Cor} : Op_ (corC k b c) fun K => c.Ok k → ∀ A cap bb pr, pr.isSome = c.res.isSome → K [.blk b 139 (coreCs c.h (corTl c A cap bb pr)), .hp (own u32E A cap c.code), .hp (bufC bb c.B), .hp (resC pr c.res)] := .mk fun G k h hh => by
  obtain ⟨ok, A, cap, bb, pr, hs⟩ := hh
  obtain ⟨_, _, ha⟩ := hs.nth (i := 3) rfl
  exact ⟨_, k ok A cap bb pr ha.is, hs⟩
theorem cor_fold {k b cap bb : Nat} {c : Cor} {A pr : Option Addr} (ok : c.Ok k) : ∀ h, Sep [.blk b 139 (coreCs c.h (corTl c A cap bb pr)), .hp (own u32E A cap c.code), .hp (bufC bb c.B), .hp (resC pr c.res)] h → corC k b c h := fun _ hs => ⟨ok, A, cap, bb, pr, hs⟩
theorem cor_mono {k k' b : Nat} {c : Cor} (hk : k ≤ k') : ∀ g, Sep [.hp (corC k b c)] g → corC k' b c g := fun g hs => by
  obtain ⟨h1, h2, hle, _, _, ⟨ok, A, cap, bb, pr, hp⟩, _⟩ := hs
  exact ⟨ok.mono hk, A, cap, bb, pr, hp.up hle⟩
def Cor.setH (c : Cor) (h : Hrt) : Cor := ⟨h, c.code, c.size, c.B, c.first, c.res⟩
def Cor.setB (c : Cor) (B : List Sto) : Cor := ⟨c.h, c.code, c.size, B, c.first, c.res⟩
def Cor.setF (c : Cor) (f : Int) : Cor := ⟨c.h, c.code, c.size, c.B, f, c.res⟩
def Cor.setR (c : Cor) (r : Option Int) : Cor := ⟨c.h, c.code, c.size, c.B, c.first, r⟩
theorem res_no {p : Option Addr} {a : Option Int} (h : p.isSome = a.isSome) (hp : p.isNone = true) : a = none := by
  cases p with
  | none => cases a with | none => rfl | some x => cases h
  | some x => cases hp
theorem c53 (k b : Nat) (c : Cor) : Sp Tryz.prog 53 [.pointer (some ⟨b, 0, none⟩)] [.hp (corC k b c)] fun K => K (.returned (.bool false)) [.hp (corC k b c)] := by
  refine Zen Tryz.func53 rfl rfl rfl fun e X Φ hS => Zoc 0 cor_op rfl <| fun ok A cap bb pr hpr => ?_
  refine Zsr <| Zv (ya rfl) <| Znl <| Znx <| Zsr <| Zv (ym rfl) <| Zv (ypeq rfl rfl rfl) <| Zv (ym rfl) <| Zg rfl rfl <| Zv (ym rfl) ?_
  refine Zg rfl rfl <| Zv (yn rfl) <| Zg rfl rfl <| Zv (yf 37 rfl) <| Zg rfl rfl <| Zv (yd 0 rfl rfl (nt_core 2 rfl rfl)) <| Zg rfl rfl <| Zv (ypeq rfl rfl rfl) <| Zv (ypf rfl rfl) <| Zv (ya rfl) ?_
  refine Znl <| Znx <| Zrt ?_
  refine Zfx [0,0,0,0] (cor_fold (c := c) ok) rfl <| Zre (.t rfl .n) hS [0] 0 rfl rfl rfl rfl
theorem c49 (k b : Nat) (c : Cor) : Sp Tryz.prog 49 [.pointer (some ⟨b, 0, none⟩)] [.hp (corC k b c)] fun K => K (.returned (.agg (hrtE.arr c.h))) [.hp (corC k b c)] := by
  refine Zen Tryz.func49 rfl rfl rfl fun e X Φ hS => Zsr <| Ze (eal z59) fun b2 => Zw <| Znl <| Znx <| Zsq <| Zsr <| Zv (ym rfl) <| Zk (c53 ..) [1] rfl rfl <| Zq ?_
  refine Znl <| Znx <| Zcf rfl <| Zsk <| Znx <| Zsr <| Zv (ym rfl) <| Zv (yn rfl) <| Zv (yf 0 rfl) <| Zv (yf 0 rfl) ?_
  refine Zol 0 cor_op rfl <| fun ok A cap bb pr hpr => Zv (yda 0 (m := 35) rfl rfl (core_hart _ _) (Enc.len ..)) <| Ze (esw 4 (m := 35) rfl rfl rfl rfl rfl (Enc.len ..) (Enc.allL ..)) <| Zw0 <| Znl <| Znx <| Zrt ?_
  refine Zfx [0,0,0,0] (cor_fold (c := c) ok) rfl <| Zre (.wh 1 (m := 35) rfl rfl (Enc.len ..) .n) hS [0] 1 rfl rfl rfl rfl
theorem c145 (k b : Nat) (c : Cor) : Sp Tryz.prog 145 [.pointer (some ⟨b, 0, none⟩)] [.hp (corC k b c)] fun K => K (.returned (.bool c.res.isSome)) [.hp (corC k b (c.setR none))] := by
  refine Zen Tryz.func145 rfl rfl rfl fun e X Φ hS => Zsr <| Zv (ya rfl) <| Znl <| Znx <| Zsq <| Zsr <| Zv (ym rfl) <| Zk (c53 ..) [0] rfl rfl <| Zq ?_
  refine Zv (ym rfl) <| Zg rfl rfl <| Zv (ym rfl) <| Zg rfl rfl <| Zv (yn rfl) <| Zg rfl rfl <| Zv (yf 39 rfl) <| Zg rfl rfl ?_
  refine Zol 0 cor_op rfl <| fun ok A cap bb pr hpr => Zv (yd 0 rfl rfl (nt_core 4 rfl rfl)) <| Zg rfl rfl <| Zv (ypeq rfl rfl rfl) <| Zv (ypf rfl rfl) <| Znl <| Znx <| Zib rfl (fun h11 => ?_) (fun h11 => ?_)
  refine Zsr <| Zv (ya rfl) <| Znl <| Znx <| Zrt <| Zr1 ?_
  rotate_left
  refine Zsk <| Znx <| Zsr <| Zv (ym rfl) <| Zv (yn rfl) <| Zv (yf 39 rfl) <| Ze (es 0 rfl rfl rfl (pt_core 4 rfl rfl) rfl) <| Zw0 <| Znl <| Znx <| Zsr ?_
  refine Zv (ya rfl) <| Znl <| Znx <| Zrt ?_
  rotate_left
  · have hr := res_no hpr h11
    have hc : c.setR none = c := by unfold Cor.setR; rw [← hr]
    rw [hc, show c.res.isSome = false by rw [hr]; rfl] at hS
    refine Zfx [0,0,0,0] (cor_fold (c := c) ok) rfl <| Zre (.t rfl .n) hS [0] 0 rfl rfl rfl rfl
  · rw [← hpr, show pr.isSome = true by cases pr with | none => cases h11 | some x => rfl] at hS
    have ok' : (c.setR none).Ok k := { ok with res := fun x h => (by cases h) }
    refine Zfx [] (res_n (a := none) rfl) rfl ?_
    refine Zfx [1,1,1,0] (cor_fold (c := c.setR none) ok') rfl <| Zre (.t rfl .n) hS [0] 1 rfl rfl rfl rfl
def lostB (c : Cor) (d : CD) : Bool := match c.res with | none => false | some a => decide (stateOf d.L (a / 16) = 0)
theorem u32_q {a : Int} (h : U32 a) : IntKind.u32.wrap (a.tdiv 16) = a / 16 ∧ U32 (a / 16) := by
  unfold U32 at *
  rw [Int.tdiv_eq_ediv_of_nonneg h.1, u32w (r := a / 16) rfl (by omega)]
  exact ⟨rfl, by omega⟩
theorem c52 (k b bk : Nat) (c : Cor) (d : CD) : Sp Tryz.prog 52 [.pointer (some ⟨b, 0, none⟩), .pointer (some ⟨bk, 0, none⟩)] [.hp (corC k b c), .hp (cacC bk d)] fun K => K (.returned (.bool (lostB c d))) [.hp (corC k b (if lostB c d then c.setR none else c)), .hp (cacC bk d)] := by
  refine Zen Tryz.func52 rfl rfl rfl fun e X Φ hS => Zsr <| Zv (ya rfl) <| Znl <| Znx <| Zsq <| Zsr <| Zv (ym rfl) <| Zk (c53 ..) [0] rfl rfl <| Zq ?_
  refine Zv (ym rfl) <| Zg rfl rfl <| Zv (ym rfl) <| Zg rfl rfl <| Zv (yn rfl) <| Zg rfl rfl <| Zv (yf 39 rfl) <| Zg rfl rfl ?_
  refine Zol 0 cor_op rfl <| fun ok A cap bb pr hpr => Zv (yd 0 rfl rfl (nt_core 4 rfl rfl)) <| Zg rfl rfl <| Zv (ypeq rfl rfl rfl) <| Zv (ypf rfl rfl) <| Zv (ym rfl) <| Zgb rfl rfl (fun h14 => ?_) (fun h14 => ?_)
  refine Zu' rfl rfl h14 rfl <| Zu' rfl rfl h14 rfl <| Zu' rfl rfl h14 rfl <| Zu' rfl rfl h14 rfl <| Zu' rfl rfl h14 rfl <| Zu' rfl rfl h14 rfl <| Zu' rfl rfl h14 rfl <| Zu' rfl rfl h14 rfl <| Zu' rfl rfl h14 rfl <| Zu' rfl rfl h14 rfl ?_
  refine Zv (ypt' rfl h14 rfl) <| Znl <| Znx <| Zct rfl <| Zsr <| Zv (ya rfl) <| Znl <| Znx <| Zrt <| Zr1 ?_
  rotate_left
  refine Zg' rfl rfl h14 <| Zv (ym rfl) <| Zg' rfl rfl h14 <| Zv (ym rfl) <| Zg' rfl rfl h14 <| Zv (yn rfl) <| Zg' rfl rfl h14 <| Zv (yf 39 rfl) <| Zg' rfl rfl h14 <| Zv (yd 0 rfl rfl (nt_core 4 rfl rfl)) ?_
  refine Zg' rfl rfl h14 ?_
  rotate_left
  · have hr := res_no hpr h14
    have hl : lostB c d = false := by unfold lostB; rw [hr]
    rw [hl, if_neg (by decide)] at hS
    refine Zfx [0,0,0,0] (cor_fold (c := c) ok) rfl <| Zre (.t rfl .n) hS [0,0] 0 rfl rfl rfl rfl
  · obtain ⟨a, hr⟩ : ∃ a, c.res = some a := by
      cases hx : c.res with
      | some a => exact ⟨a, rfl⟩
      | none => rw [hx] at hpr; cases pr with | none => cases h14 | some x => cases hpr
    have hl : lostB c d = decide (stateOf d.L (a / 16) = 0) := by unfold lostB; rw [hr]
    obtain ⟨q1, q2⟩ := u32_q (ok.res a hr)
    rw [hr]
    refine Zol 3 res_op1 rfl <| fun ba ea => ?_
    subst ea
    refine Zv (yn rfl) <| Zg rfl rfl <| Zv (yd 0 rfl rfl rfl) <| Zg rfl rfl <| Zv (yquo rfl rfl (by decide) rfl) <| Zg rfl rfl ?_
    rw [q1]
    refine Zk (c97 bk d (a / 16) q2) [4] rfl rfl <| Zq <| Zg rfl rfl <| Zv (yne rfl rfl) <| Zv (ypf rfl rfl) <| Znl <| Znx <| Zif rfl (fun h25 => ?_) (fun h25 => ?_)
    refine Zsr <| Zv (ya rfl) <| Znl <| Znx <| Zrt <| Zr1 ?_
    rotate_left
    refine Zsk <| Znx <| Zsr <| Zv (ym rfl) <| Zv (yn rfl) <| Zv (yf 39 rfl) <| Ze (es 2 rfl rfl rfl (pt_core 4 rfl rfl) rfl) <| Zw0 <| Znl <| Znx <| Zsr ?_
    refine Zv (ya rfl) <| Znl <| Znx <| Zrt ?_
    rotate_left
    · rw [hl, decide_eq_false h25, if_neg (by decide)] at hS
      refine Zfx [1] (res_s (b := ba) hr) rfl ?_
      refine Zfx [2,2,2,0] (cor_fold (c := c) ok) rfl <| Zre (.t rfl .n) hS [0,0] 0 rfl rfl rfl rfl
    · rw [hl, decide_eq_true (Decidable.not_not.1 h25), if_pos rfl] at hS
      have ok' : (c.setR none).Ok k := { ok with res := fun x h => (by cases h) }
      refine Zfx [] (res_n (a := none) rfl) rfl ?_
      refine Zfx [3,3,3,0] (cor_fold (c := c.setR none) ok') rfl <| Zre (.t rfl .n) hS [0,0] 1 rfl rfl rfl rfl
theorem c83 (c : Ck) (A : Option Addr) (cap : Nat) (l : List Int) (hR : Rd u32E c A cap l) (hA : A = none → l = [] ∧ cap = 0) (hl : l.length ≤ 1048576) : Sp Tryz.prog 83 [.slice A l.length cap] [c] fun K => ∀ A' cap', K (.returned (.slice A' l.length cap')) [.hp (own u32E A' cap' l), c] := by
  cases A with
  | none =>
    obtain ⟨rfl, rfl⟩ := hA rfl
    refine Zen Tryz.func83 rfl rfl rfl fun e X Φ hS => Zsr <| Zv (ya rfl) <| Znl <| Znx <| Zsq <| Zsr <| Zv (ym rfl) <| Zv (ysleq ⟨_, Tryz.underlying62⟩ rfl rfl) <| Znl ?_
    refine Znx <| Zct rfl <| Zsr <| Zv (ya rfl) <| Znl <| Znx <| Zrt <| Zr1 ?_
    refine Zix (fun _ hs => sep_nil (E := u32E) hs) <| Zre (.t rfl .n) (hS _ _) [0,0] 0 rfl rfl rfl rfl
  | some a =>
    refine Zen Tryz.func83 rfl rfl rfl fun e X Φ hS => Zsr <| Zv (ya rfl) <| Znl <| Znx <| Zsq <| Zsr <| Zv (ym rfl) <| Zv (ysleq ⟨_, Tryz.underlying62⟩ rfl rfl) <| Znl ?_
    refine Znx <| Zcf rfl <| Zsk <| Znx <| Zsr ?_
    refine Ze (eb0' elU32) <| fun B => Zw <| Zv (ym rfl) ?_
    have hm : ([] : List Int).length + l.length ≤ maxLen := ml_le (by simp; omega)
    refine Ze (eap' 0 1 elU32 rfl rfl rfl hR rfl rfl rfl (fun _ _ => rfl) (by simp; omega) hm) <| fun A' cap' => Zw <| Zv (ya rfl) <| Znl <| Znx <| Zrt <| Zre (.t rfl .n) (hS _ _) [0,0] 0 rfl rfl rfl rfl
theorem hrt0_ok {i : Int} (h0 : 0 ≤ i) (h1 : i < 4) : (hrt0 i).Ok := by
  have hr : ∀ k, (hrt0 i).reg k = 0 := fun k => by
    show (List.replicate 32 (0 : Int)).getD k 0 = 0
    rw [List.getD_eq_getElem?_getD, List.getElem?_replicate]
    split <;> rfl
  exact ⟨h0, h1, ⟨Int.le_refl 0, by show (0 : Int) < 4294967296; decide⟩, hr 0, fun k => by rw [hr]; exact ⟨Int.le_refl 0, by decide⟩, Int.le_refl 0, by show (0 : Int) ≤ 4; decide⟩
theorem c73 (i : Int) (c : Ck) (A : Option Addr) (cap : Nat) (l : List Int) (size : Int) (h0 : 0 ≤ i) (h1 : i < 4) (hR : Rd u32E c A cap l) (hA : A = none → l = [] ∧ cap = 0) (hu : ∀ a ∈ l, U32 a) : Sp Tryz.prog 73 [.int .i64 i, .slice A l.length cap, .int .i64 size] [c] fun K =>
    ((l.length ≤ 1024 ∧ 0 ≤ size ∧ size ≤ 4096) → ∀ b, K (.returned (.tuple #[.pointer (some ⟨b, 0, none⟩), .int .i64 0])) [.hp (corC 0 b ⟨hrt0 i, l, size, [], 0, none⟩), c]) ∧ (¬ (l.length ≤ 1024 ∧ 0 ≤ size ∧ size ≤ 4096) → K (.returned (.tuple #[.pointer none, .int .i64 2])) [c]) := by
  refine Zen Tryz.func73 rfl rfl rfl fun e X Φ hS => Zsr <| Zv (ya rfl) <| Zv (ya rfl) <| Znl <| Znx <| Zsq <| Zsr <| Zv (ym rfl) <| Zv (ylt rfl rfl) ?_
  refine Zv (ym rfl) <| Zg' rfl rfl (decide_eq_false (by omega)) <| Zv (ym rfl) <| Zg' rfl rfl (decide_eq_false (by omega)) <| Zv (yge rfl rfl) <| Zv (ypf' rfl (decide_eq_false (by omega)) rfl) <| Zv (ym rfl) <| Zg' rfl rfl (decide_eq_false (by omega)) <| Zv (ym rfl) <| Zg' rfl rfl (decide_eq_false (by omega)) ?_
  refine Zv (sl_of ⟨_, Tryz.underlying62⟩ rfl) <| Zg' rfl rfl (decide_eq_false (by omega)) <| Zv (ygt rfl rfl) <| Zv (ypf' rfl (decide_eq_false (by omega)) rfl) <| Zv (ym rfl) <| Zgs rfl rfl (fun h19 => ?_) (fun h19 => ?_)
  refine Zu' rfl rfl (decide_eq_true h19) rfl <| Zu' rfl rfl (decide_eq_true h19) rfl <| Zv (ypt' rfl (decide_eq_true h19) rfl) <| Zv (ym rfl) <| Zu rfl rfl rfl <| Zu rfl rfl rfl <| Zv (ypt rfl rfl) <| Znl <| Znx <| Zct rfl ?_
  refine Zsr <| Zv (ya rfl) <| Zv (ya rfl) <| Znl <| Znx <| Zrt <| Zr1 ?_
  rotate_left
  refine Zg' rfl rfl (decide_eq_false h19) <| Zv (ym rfl) <| Zg' rfl rfl (decide_eq_false h19) <| Zv (ylt rfl rfl) <| Zv (ypf' rfl (decide_eq_false h19) rfl) <| Zv (ym rfl) <| Zgs rfl rfl (fun h23 => ?_) (fun h23 => ?_)
  refine Zu' rfl rfl (decide_eq_true h23) rfl <| Zu' rfl rfl (decide_eq_true h23) rfl <| Zv (ypt' rfl (decide_eq_true h23) rfl) <| Znl <| Znx <| Zct rfl <| Zsr <| Zv (ya rfl) <| Zv (ya rfl) <| Znl ?_
  refine Znx <| Zrt <| Zr1 ?_
  rotate_left
  refine Zg' rfl rfl (decide_eq_false h23) <| Zv (ym rfl) <| Zg' rfl rfl (decide_eq_false h23) <| Zv (ygt rfl rfl) <| Zv (ypf' rfl (decide_eq_false h23) rfl) <| Znl <| Znx <| Zif rfl (fun h26 => ?_) (fun h26 => ?_)
  refine Zsr <| Zv (ya rfl) <| Zv (ya rfl) <| Znl <| Znx <| Zrt <| Zr1 ?_
  rotate_left
  refine Zsk <| Znx <| Zsr <| Zv (ym rfl) <| Zv (yb l59 rfl) <| Zv (ym rfl) ?_
  rotate_left
  · refine Zre (.t rfl (.t rfl .n)) (hS.2 (by omega)) [0] 0 rfl rfl rfl rfl
  · refine Zre (.t rfl (.t rfl .n)) (hS.2 (by omega)) [0] 0 rfl rfl rfl rfl
  · refine Zre (.t rfl (.t rfl .n)) (hS.2 (by omega)) [0] 0 rfl rfl rfl rfl
  · have okc : (⟨hrt0 i, l, size, [], 0, none⟩ : Cor).Ok 0 := ⟨hrt0_ok h0 h1, hu, by show l.length ≤ 1024; omega, by show 0 ≤ size; omega, by show size ≤ 4096; omega, Int.le_refl 0, Int.le_refl 0, fun a h => (by cases h)⟩
    refine Zk (c83 c A cap l hR hA (by omega)) [0] rfl rfl <| fun A' => fun cap' => Zq <| Zv (ym rfl) <| Zv (yb l135 rfl) <| Zk (c121 ..) [] rfl rfl <| fun b => Zq <| Zv (yb l139 rfl) ?_
    refine Ze (ebx rfl) fun b35 => Zw <| Zv (ya rfl) <| Zv (ya rfl) <| Znl <| Znx <| Zrt ?_
    refine Zfx [] (res_n (a := none) rfl) rfl ?_
    refine Zfx [1,2,1,0] (cor_fold (b := b35) (c := ⟨hrt0 i, l, size, [], 0, none⟩) okc) rfl ?_
    refine Zre (.t rfl (.t rfl .n)) (hS.1 (by omega) b35) [0,0] 0 rfl rfl rfl rfl
theorem spl_app : ∀ (a : List Value) {tl : List Value} {j : Nat} {vs : List Value}, spl (a ++ tl) (a.length + j) vs = a ++ spl tl j vs
  | [], tl, j, vs => by simp
  | x :: a, tl, j, vs => by
    rw [show (x :: a).length + j = (a.length + j) + 1 by simp only [List.length_cons]; omega]
    show x :: spl (a ++ tl) (a.length + j) vs = _
    rw [spl_app a]
    rfl
theorem core_spl {h : Hrt} {tl : List Value} (j : Nat) {vs : List Value} : spl (coreCs h tl) (35 + j) vs = coreCs h (spl tl j vs) := by
  have := spl_app (hrtE.cells h) (tl := tl) (j := j) (vs := vs)
  rwa [show (hrtE.cells h).length = 35 from h.len] at this
theorem core_len {h : Hrt} {tl : List Value} {n : Nat} (hn : 35 + tl.length = n) : (coreCs h tl).length = n := by
  unfold coreCs
  rw [List.length_append, show (hrtE.cells h).length = 35 from h.len, hn]
theorem core_st {h : Hrt} {a b c d e : Value} : ((coreCs h [a, b, c, d, e]).drop 0).take 37 = coreCs h [a, b] := by
  rw [List.drop_zero, show coreCs h [a, b, c, d, e] = coreCs h [a, b] ++ [c, d, e] by simp [coreCs], List.take_left' (show (coreCs h [a, b]).length = 37 from core_len rfl)]
section
variable {N : Nat × List Deferred} {T : Tb} {e : World} {L : List Ck} {ty : TypeId} {pos : String} {af : Array Edge} {g : Option (Nat × Bool)} {dd : Option Nat}
theorem ybcor {parts : List (Nat × Operand)} {h : Hrt} {A : Option Addr} {n cap : Nat} {sz f : Int} {q : Option Addr} (hp : evP T parts = some [(0, .agg (coreCs h [.slice A n cap, .int .i64 sz]).toArray), (1, .pointer q), (2, .int .i64 f)]) : Yl Tryz.prog N T e L ⟨dd, .build 139 parts.toArray, ty, pos, af, g⟩ (.agg (coreCs h [.slice A n cap, .int .i64 sz, .pointer q, .int .i64 f, .pointer none]).toArray) := fun a w fr hh => by
  have hl : (coreCs h [.slice A n cap, .int .i64 sz]).length = 37 := core_len rfl
  have := yb (P := Tryz.prog) (N := N) (T := T) (e := e) (L := L) (dd := dd) (ty := ty) (pos := pos) (af := af) (g := g) l139 hp ⟨⟨_, _, rfl, hl, rfl⟩, ⟨_, _, rfl, rfl, rfl⟩, ⟨_, _, rfl, rfl, rfl⟩, trivial⟩ a w fr hh
  rw [this]
  congr 3
  show List.toArray _ = List.toArray _
  congr 1
  show spl (spl (coreCs h [.slice A n cap, .int .i64 sz] ++ List.drop (coreCs h [.slice A n cap, .int .i64 sz]).length _) (35 + 2) [.pointer q]) (35 + 3) [.int .i64 f] = _
  rw [hl]
  show spl (spl (coreCs h [.slice A n cap, .int .i64 sz] ++ [.pointer none, .int .i64 0, .pointer none]) (35 + 2) [.pointer q]) (35 + 3) [.int .i64 f] = _
  rw [show coreCs h [.slice A n cap, .int .i64 sz] ++ [.pointer none, .int .i64 0, .pointer none] = coreCs h [.slice A n cap, .int .i64 sz, .pointer none, .int .i64 0, .pointer none] by simp [coreCs], core_spl, core_spl]
  rfl
end
theorem c41 (k b : Nat) (c : Cor) : Sp Tryz.prog 41 [.pointer (some ⟨b, 0, none⟩)] [.hp (corC k b c)] fun K => ∀ b', K (.returned (.pointer (some ⟨b', 0, none⟩))) [.hp (corC k b' c), .hp (corC k b c)] := by
  refine Zen Tryz.func41 rfl rfl rfl fun e X Φ hS => Zsr <| Zv (ya rfl) <| Znl <| Znx <| Zsq <| Zsr <| Zv (ym rfl) <| Zk (c53 ..) [0] rfl rfl <| Zq ?_
  refine Znl <| Znx <| Zcf rfl <| Zsk <| Znx <| Zsq ?_
  refine Zoc 0 cor_op rfl <| fun ok A cap bb pr hpr => ?_
  refine Zhd [2] rfl rfl <| Zht 0 rfl (ym rfl) <| Zht 1 rfl (yn rfl) <| Zht 2 rfl (yf 0 rfl) <| Zht 4 rfl (ym rfl) <| Zht 5 rfl (yn rfl) <| Zht 6 rfl (yf 37 rfl) <| Zht 7 rfl (yd 0 rfl rfl (nt_core 2 rfl rfl)) <| Zht 9 rfl (ym rfl) <| Zht 10 rfl (yn rfl) ?_
  refine Zht 11 rfl (yf 38 rfl) <| Zht 12 rfl (yd 0 rfl rfl (nt_core 3 rfl rfl)) ?_
  refine Zht 3 rfl (yda 0 rfl rfl core_st (core_len rfl)) <| Zh1 8 (by kernel_rfl) <| Zok (c82 ..) [0] rfl rfl rfl <| fun b' => Zqh 2 rfl <| Zht 13 rfl (ybcor rfl) <| Zh1 14 (by kernel_rfl) <| Zoe rfl (ebx rfl) fun b21 => Zwh 3 rfl <| Zht 15 rfl (ya rfl) <| Zhn (by kernel_rfl) <| Znx <| Zsr ?_
  refine Zv (ym rfl) <| Zv (ym rfl) <| Zv (yn rfl) <| Zv (yf 0 rfl) <| Zv (yf 35 rfl) <| Zv (yd 3 rfl rfl (nt_core 0 rfl rfl)) ?_
  refine Zol 4 own_len rfl <| fun hA hcp hcm => ?_
  refine Zk (c83 _ A cap c.code own.rd hA (by have := ok.cl; omega)) [0] rfl rfl <| fun A' => fun cap' => Zq <| Zv (yn rfl) <| Zv (yf 0 rfl) <| Zv (yf 35 rfl) <| Ze (es 2 rfl rfl rfl (pt_core 0 rfl rfl) rfl) <| Zw0 <| Znl <| Znx ?_
  refine Zsq <| Zsr <| Zv (ym rfl) <| Zv (yn rfl) <| Zv (yf 39 rfl) <| Zv (yd 5 rfl rfl (nt_core 4 rfl rfl)) <| Zv (ypne rfl rfl rfl) <| Znl <| Znx <| Zib rfl (fun h36 => ?_) (fun h36 => ?_)
  refine Zsr <| Zv (ym rfl) <| Zv (yn rfl) <| Zv (yf 39 rfl) <| Zv (yd 5 rfl rfl (nt_core 4 rfl rfl)) ?_
  rotate_left
  refine Zsk <| Znx <| Zsr <| Zv (ym rfl) <| Zv (ya rfl) <| Znl <| Znx <| Zrt ?_
  rotate_left
  · obtain ⟨a, hr⟩ : ∃ a, c.res = some a := by
      cases hx : c.res with
      | some a => exact ⟨a, rfl⟩
      | none => rw [hx, h36] at hpr; cases hpr
    rw [hr]
    refine Zol 6 res_op1 rfl <| fun ba ea => ?_
    subst ea
    refine Zv (yn rfl) <| Zv (yd 0 rfl rfl rfl) <| Ze (eal z40) fun b4 => Zw <| Ze (es 0 rfl rfl rfl rfl rfl) <| Zw0 <| Znl <| Znx <| Zrg <| Zv (ym rfl) <| Zv (yn rfl) <| Zv (yf 39 rfl) ?_
    refine Ze (es 4 rfl rfl rfl (pt_core 4 rfl rfl) rfl) <| Zw0 <| Znl <| Znx <| Zsr <| Zv (ym rfl) <| Zv (ya rfl) <| Znl <| Znx <| Zrt ?_
    refine Zfx [1] (res_s (b := ba) hr) rfl ?_
    refine Zfx [7,3,5,0] (cor_fold (b := b) (c := c) ok) rfl ?_
    refine Zfx [1] (res_s (b := b4) hr) rfl ?_
    refine Zfx [3,2,2,0] (cor_fold (b := b21) (c := c) ok) rfl <| Zre (.t rfl .n) (hS _) [0,0] 0 rfl rfl rfl rfl
  · have hpn : pr = none := by cases pr with | none => rfl | some x => cases h36
    subst hpn
    have hr : c.res = none := res_no hpr rfl
    refine Zfx [5,1,3,3] (cor_fold (b := b) (c := c) ok) rfl ?_
    refine Zfx [] (res_n hr) rfl ?_
    refine Zfx [3,2,2,0] (cor_fold (b := b21) (c := c) ok) rfl <| Zre (.t rfl .n) (hS _) [0,0] 0 rfl rfl rfl rfl
end Go.Proofs.YtpfijldkkfiooaaGreatDoor
namespace Go.Proofs.YtpfijldkkfiooaaGreatDoor
open Go
set_option maxRecDepth 4000
theorem c83z (c : Ck) (A : Option Addr) : Sp Tryz.prog 83 [.slice A 0 0] [c] fun K => ∀ A' cap', K (.returned (.slice A' 0 cap')) [.hp (own u32E A' cap' []), c] := by
  cases A with
  | none =>
    refine Zen Tryz.func83 rfl rfl rfl fun e X Φ hS => Zsr <| Zv (ya rfl) <| Znl <| Znx <| Zsq <| Zsr <| Zv (ym rfl) <| Zv (ysleq ⟨_, Tryz.underlying62⟩ rfl rfl) <| Znl ?_
    refine Znx <| Zct rfl <| Zsr <| Zv (ya rfl) <| Znl <| Znx <| Zrt <| Zr1 ?_
    refine Zix (fun _ hs => sep_nil (E := u32E) hs) <| Zre (.t rfl .n) (hS _ _) [0,0] 0 rfl rfl rfl rfl
  | some a =>
    refine Zen Tryz.func83 rfl rfl rfl fun e X Φ hS => Zsr <| Zv (ya rfl) <| Znl <| Znx <| Zsq <| Zsr <| Zv (ym rfl) <| Zv (ysleq ⟨_, Tryz.underlying62⟩ rfl rfl) <| Znl ?_
    refine Znx <| Zcf rfl <| Zsk <| Znx <| Zsr ?_
    refine Ze (eb0' elU32) <| fun B => Zw <| Zv (ym rfl) ?_
    refine Ze (eap0 0 elU32 rfl rfl rfl rfl (fun _ _ => rfl) (by decide) (by decide)) <| fun A' cap' => Zw <| Zv (ya rfl) <| Znl <| Znx <| Zrt <| Zre (.t rfl .n) (hS _ _) [0,0] 0 rfl rfl rfl rfl
theorem c73z (i : Int) (c : Ck) (A : Option Addr) (size : Int) (h0 : 0 ≤ i) (h1 : i < 4) : Sp Tryz.prog 73 [.int .i64 i, .slice A 0 0, .int .i64 size] [c] fun K =>
    ((([] : List Int).length ≤ 1024 ∧ 0 ≤ size ∧ size ≤ 4096) → ∀ b, K (.returned (.tuple #[.pointer (some ⟨b, 0, none⟩), .int .i64 0])) [.hp (corC 0 b ⟨hrt0 i, [], size, [], 0, none⟩), c]) ∧ (¬ (([] : List Int).length ≤ 1024 ∧ 0 ≤ size ∧ size ≤ 4096) → K (.returned (.tuple #[.pointer none, .int .i64 2])) [c]) := by
  refine Zen Tryz.func73 rfl rfl rfl fun e X Φ hS => Zsr <| Zv (ya rfl) <| Zv (ya rfl) <| Znl <| Znx <| Zsq <| Zsr <| Zv (ym rfl) <| Zv (ylt rfl rfl) ?_
  refine Zv (ym rfl) <| Zg' rfl rfl (decide_eq_false (by omega)) <| Zv (ym rfl) <| Zg' rfl rfl (decide_eq_false (by omega)) <| Zv (yge rfl rfl) <| Zv (ypf' rfl (decide_eq_false (by omega)) rfl) <| Zv (ym rfl) <| Zg' rfl rfl (decide_eq_false (by omega)) <| Zv (ym rfl) <| Zg' rfl rfl (decide_eq_false (by omega)) ?_
  refine Zv (sl_of ⟨_, Tryz.underlying62⟩ rfl) <| Zg' rfl rfl (decide_eq_false (by omega)) <| Zv (ygt rfl rfl) <| Zv (ypf' rfl (decide_eq_false (by omega)) rfl) <| Zv (ym rfl) <| Zg rfl rfl <| Zv (ym rfl) <| Zg rfl rfl <| Zv (ylt rfl rfl) <| Zv (ypf rfl rfl) ?_
  refine Zv (ym rfl) <| Zgs rfl rfl (fun h23 => ?_) (fun h23 => ?_)
  refine Zu' rfl rfl (decide_eq_true h23) rfl <| Zu' rfl rfl (decide_eq_true h23) rfl <| Zv (ypt' rfl (decide_eq_true h23) rfl) <| Znl <| Znx <| Zct rfl <| Zsr <| Zv (ya rfl) <| Zv (ya rfl) <| Znl ?_
  refine Znx <| Zrt <| Zr1 ?_
  rotate_left
  refine Zg' rfl rfl (decide_eq_false h23) <| Zv (ym rfl) <| Zg' rfl rfl (decide_eq_false h23) <| Zv (ygt rfl rfl) <| Zv (ypf' rfl (decide_eq_false h23) rfl) <| Znl <| Znx <| Zif rfl (fun h26 => ?_) (fun h26 => ?_)
  refine Zsr <| Zv (ya rfl) <| Zv (ya rfl) <| Znl <| Znx <| Zrt <| Zr1 ?_
  rotate_left
  refine Zsk <| Znx <| Zsr <| Zv (ym rfl) <| Zv (yb l59 rfl) <| Zv (ym rfl) ?_
  rotate_left
  · refine Zre (.t rfl (.t rfl .n)) (hS.2 (by omega)) [0] 0 rfl rfl rfl rfl
  · refine Zre (.t rfl (.t rfl .n)) (hS.2 (by omega)) [0] 0 rfl rfl rfl rfl
  · have okc : (⟨hrt0 i, [], size, [], 0, none⟩ : Cor).Ok 0 := ⟨hrt0_ok h0 h1, (fun a h => by cases h), Nat.zero_le _, by show 0 ≤ size; omega, by show size ≤ 4096; omega, Int.le_refl 0, Int.le_refl 0, fun a h => (by cases h)⟩
    refine Zk (c83z c A) [0] rfl rfl <| fun A' => fun cap' => Zq <| Zv (ym rfl) <| Zv (yb l135 rfl) <| Zk (c121 ..) [] rfl rfl <| fun b => Zq <| Zv (yb l139 rfl) ?_
    refine Ze (ebx rfl) fun b35 => Zw <| Zv (ya rfl) <| Zv (ya rfl) <| Znl <| Znx <| Zrt ?_
    refine Zfx [] (res_n (a := none) rfl) rfl ?_
    refine Zfx [1,2,1,0] (cor_fold (b := b35) (c := ⟨hrt0 i, [], size, [], 0, none⟩) okc) rfl ?_
    refine Zre (.t rfl (.t rfl .n)) (hS.1 ⟨Nat.zero_le _, by omega, by omega⟩ b35) [0,0] 0 rfl rfl rfl rfl
theorem c73u (i : Int) (c : Ck) (A : Option Addr) (cap : Nat) (l : List Int) (size : Int) (h0 : 0 ≤ i) (h1 : i < 4) (hR : cap ≠ 0 → Rd u32E c A cap l) (hz : cap = 0 → l = []) (hA : A = none → l = [] ∧ cap = 0) (hu : ∀ a ∈ l, U32 a) : Sp Tryz.prog 73 [.int .i64 i, .slice A l.length cap, .int .i64 size] [c] fun K =>
    ((l.length ≤ 1024 ∧ 0 ≤ size ∧ size ≤ 4096) → ∀ b, K (.returned (.tuple #[.pointer (some ⟨b, 0, none⟩), .int .i64 0])) [.hp (corC 0 b ⟨hrt0 i, l, size, [], 0, none⟩), c]) ∧ (¬ (l.length ≤ 1024 ∧ 0 ≤ size ∧ size ≤ 4096) → K (.returned (.tuple #[.pointer none, .int .i64 2])) [c]) := by
  by_cases h : cap = 0
  · subst h
    obtain rfl := hz rfl
    exact c73z i c A size h0 h1
  · exact c73 i c A cap l size h0 h1 (hR h) hA hu
end Go.Proofs.YtpfijldkkfiooaaGreatDoor
namespace Go.Proofs.YtpfijldkkfiooaaGreatDoor
open Go
theorem tru_u (b : Bool) : U32 (truF b) := by cases b <;> exact ⟨by decide, by decide⟩
theorem quo_u (rd : Int → Int) (a b : Int) : U32 (quoF rd a b) := by
  unfold quoF
  split
  · exact ⟨by decide, by decide⟩
  · exact w32_u _
theorem rem_u (rd : Int → Int) {a : Int} (b : Int) (h : U32 a) : U32 (remF rd a b) := by
  unfold remF
  split
  · exact h
  · exact w32_u _
theorem and_u (a b : Int) : U32 (andF a b) := w32_u _
theorem or_u (a b : Int) : U32 (orF a b) := w32_u _
theorem xor_u (a b : Int) : U32 (xorF a b) := w32_u _
theorem add_u (a b : Int) : U32 (addF a b) := w32_u _
theorem sub_u (a b : Int) : U32 (subF a b) := w32_u _
theorem mul_u (a b : Int) : U32 (mulF a b) := w32_u _
theorem mulh_u (a b : Int) : U32 (mulhF a b) := w32_u _
theorem mulhu_u (a b : Int) : U32 (mulhuF a b) := w32_u _
theorem mulhsu_u (a b : Int) : U32 (mulhsuF a b) := w32_u _
theorem shl_u (a b : Int) : U32 (shlF a b) := w32_u _
theorem sar_u (a b : Int) : U32 (sarF a b) := w32_u _
theorem sl_u (a b : Int) : U32 (sl31 a b) := shl_u _ _
theorem sa_u (a b : Int) : U32 (sa31 a b) := sar_u _ _
theorem lt_u (a b : Int) : U32 (ltF a b) := tru_u _
theorem ltu_u (a b : Int) : U32 (ltuF a b) := tru_u _
theorem shr_u {a : Int} (h : U32 a) (b : Int) : U32 (shrF a b) := by
  unfold shrF
  have hp : (0 : Int) < 2 ^ min (m31 b).toNat 32 := Int.pow_pos (by decide)
  obtain ⟨h0, h1⟩ := h
  have e : a.fdiv (2 ^ min (m31 b).toNat 32) = a / (2 ^ min (m31 b).toNat 32) := Int.fdiv_eq_ediv_of_nonneg _ (by omega)
  rw [e]
  exact ⟨Int.ediv_nonneg h0 (by omega), Int.lt_of_le_of_lt (Int.ediv_le_self _ h0) h1⟩
theorem sr_u {a : Int} (h : U32 a) (b : Int) : U32 (sr31 a b) := shr_u h _
theorem ext_u (n b : Int) : U32 (extF n b) := by
  unfold extF
  split <;> exact sar_u _ _
theorem two_u {op : Int} {p : Nat × (Int → Int → Int)} (h : fd op twoT = some p) {a b : Int} (ha : U32 a) : U32 (p.2 a b) := by
  have := fd_mem h
  simp only [twoT, List.mem_cons, Prod.mk.injEq, List.not_mem_nil, or_false] at this
  rcases this with ⟨_, rfl⟩ | ⟨_, rfl⟩ | ⟨_, rfl⟩ | ⟨_, rfl⟩ | ⟨_, rfl⟩ | ⟨_, rfl⟩ | ⟨_, rfl⟩ | ⟨_, rfl⟩ | ⟨_, rfl⟩ | ⟨_, rfl⟩ | ⟨_, rfl⟩ | ⟨_, rfl⟩ | ⟨_, rfl⟩ | ⟨_, rfl⟩ | ⟨_, rfl⟩ | ⟨_, rfl⟩ | ⟨_, rfl⟩ | ⟨_, rfl⟩ | ⟨_, rfl⟩ | ⟨_, rfl⟩ | ⟨_, rfl⟩ | ⟨_, rfl⟩ | ⟨_, rfl⟩ | ⟨_, rfl⟩ | ⟨_, rfl⟩ | ⟨_, rfl⟩ | ⟨_, rfl⟩
  all_goals dsimp only
  all_goals first
    | with_reducible exact quo_u _ _ _
    | with_reducible exact rem_u _ _ ha
    | with_reducible exact shr_u ha _
    | with_reducible exact sr_u ha _
    | with_reducible exact lt_u _ _
    | with_reducible exact ltu_u _ _
    | with_reducible exact and_u _ _
    | with_reducible exact or_u _ _
    | with_reducible exact xor_u _ _
    | with_reducible exact add_u _ _
    | with_reducible exact sub_u _ _
    | with_reducible exact mul_u _ _
    | with_reducible exact mulh_u _ _
    | with_reducible exact mulhu_u _ _
    | with_reducible exact mulhsu_u _ _
    | with_reducible exact sl_u _ _
    | with_reducible exact sa_u _ _
theorem val_u {h : Hrt} {i : Ins} {a : Ans} {v : Int} (ok : h.Ok) (hi : U32 i.imm) (ha : U32 a.value) (e : valF h i a = some v) : U32 v := by
  unfold valF at e
  split at e
  · rename_i p hp
    cases e
    exact two_u hp (ok.reg _)
  · unfold valG at e
    repeat' split at e
    all_goals first
      | (cases e; done)
      | (cases e; first | with_reducible exact hi | with_reducible exact w32_u _ | with_reducible exact tru_u _ | with_reducible exact low_u ha _ | with_reducible exact ext_u _ _ | exact ha)
theorem ans_u {a : Acc} {x : Ans} : U32 (ansF a x).value := by
  unfold ansF
  split
  · exact w32_u _
  · split
    · exact u0
    · exact u0
theorem nxt_u (h : Hrt) (i : Ins) : U32 (nxtF h i).1 := by
  unfold nxtF
  repeat' split
  all_goals exact w32_u _
theorem setReg_reg (h : Hrt) (k : Nat) (v : Int) (hk : k < 32) (j : Nat) : (h.setReg k v).reg j = if j = k then v else h.reg j := by
  unfold Hrt.reg Hrt.setReg
  by_cases e : j = k
  · subst e
    rw [if_pos rfl, List.getD_eq_getElem?_getD, List.getElem?_set_self (by rw [h.hr]; exact hk)]
    rfl
  · rw [if_neg e, List.getD_eq_getElem?_getD, List.getElem?_set_ne (fun x => e x.symm), ← List.getD_eq_getElem?_getD]
theorem Hrt.Ok.setPc {h : Hrt} (ok : h.Ok) {v : Int} (hv : U32 v) : (h.setPc v).Ok := ⟨ok.id0, ok.id1, hv, ok.r0, ok.reg, ok.c0, ok.c1⟩
theorem Hrt.Ok.setCause {h : Hrt} (ok : h.Ok) {v : Int} (h0 : 0 ≤ v) (h4 : v ≤ 4) : (h.setCause v).Ok := ⟨ok.id0, ok.id1, ok.pc, ok.r0, ok.reg, h0, h4⟩
theorem Hrt.Ok.setReg {h : Hrt} (ok : h.Ok) {k : Nat} {v : Int} (hk : k < 32) (h0 : k ≠ 0) (hv : U32 v) : (h.setReg k v).Ok := ⟨ok.id0, ok.id1, ok.pc, by rw [setReg_reg h k v hk, if_neg (fun x => h0 x.symm)]; exact ok.r0, fun j => by
  rw [setReg_reg h k v hk]
  split
  · exact hv
  · exact ok.reg j, ok.c0, ok.c1⟩
theorem rdy_err {h : Hrt} {w size c : Int} (e : rdyF h w size = .error c) : 0 ≤ c ∧ c ≤ 4 := by
  unfold rdyF at e
  repeat' split at e
  all_goals first
    | (cases e; done)
    | (cases e; exact ⟨by decide, by decide⟩)
theorem don_ok {h : Hrt} {w size : Int} {a : Ans} (ok : h.Ok) (ha : U32 a.value) : (donF h w size a).1.Ok := by
  unfold donF
  split
  · exact hrt0_ok (by decide) (by decide)
  · split
    · rename_i c e
      obtain ⟨h0, h4⟩ := rdy_err e
      exact ok.setCause h0 h4
    · rename_i i ac p e
      obtain ⟨rfl, rfl, rfl⟩ := rdy_ins e
      have io := dec_ok w
      have hp := nxt_u h (decF w).1
      cases hv : valF h (decF w).1 a with
      | none => exact ok.setPc hp
      | some v =>
        dsimp only
        split
        · rename_i hd
          exact (ok.setReg io.d (fun x => by simp [x] at hd) (val_u ok io.im ha hv)).setPc hp
        · exact ok.setPc hp
theorem cmt_ok {h : Hrt} (w size : Int) (a : Ans) (ok : h.Ok) : (cmtF h w size a).1.Ok := by
  unfold cmtF
  split
  · exact hrt0_ok (by decide) (by decide)
  · exact don_ok ok ans_u
end Go.Proofs.YtpfijldkkfiooaaGreatDoor
namespace Go.Proofs.YtpfijldkkfiooaaGreatDoor
open Go
set_option maxRecDepth 4000
abbrev stopC (A : Option Addr) (n cap : Nat) := panV (.iface 333 (.agg #[.slice A n cap]))
theorem c186 (fine : Bool) : Sp Tryz.prog 186 [.bool fine] [] fun K => (fine = true → K (.returned (.tuple #[])) []) ∧ (fine = false → K (.panicked (stopC none 0 0)) []) := by
  cases fine with
  | true =>
    refine Zen Tryz.func186 rfl rfl rfl fun e X Φ hS => Zsr <| Zv (ym rfl) <| Zv (ynot rfl) <| Znl <| Znx <| Zcf rfl <| Zsk <| Zee ?_
    refine Zre .n (hS.1 rfl) [] 0 rfl rfl rfl rfl
  | false =>
    refine Zen Tryz.func186 rfl rfl rfl fun e X Φ hS => Zsr <| Zv (ym rfl) <| Zv (ynot rfl) <| Znl <| Znx <| Zct rfl <| Zrg <| Zv (yb l333 rfl) <| Zv (ymi Tryz.underlying333 rfl rfl) ?_
    refine Zpn rfl ?_
    refine Zpe (hS.2 rfl) [] 0 rfl rfl
def actCs (bc bk : Nat) (pick w : Int) (a : Acc) : List Value := [.pointer (some ⟨bc, 0, none⟩), .pointer (some ⟨bk, 0, none⟩), .int .i64 pick, .int .u32 w, .int .i64 a.kind, .int .u32 a.addr, .int .i64 a.width, .int .u32 a.value, .int .i64 a.op, .bool a.aq, .bool a.rl]
theorem c296 (b bc bk : Nat) (pick w : Int) (a : Acc) (ha : U32 a.addr) : Sp Tryz.prog 296 [.pointer (some ⟨b, 0, none⟩)] [.blk b 294 (actCs bc bk pick w a)] fun K => K (.returned (.int .u32 (a.addr / 16))) [.blk b 294 (actCs bc bk pick w a)] := by
  have q := (u32_q ha).1
  refine Zen Tryz.func296 rfl rfl rfl fun e X Φ hS => Zsr <| Zv (ya rfl) <| Znl <| Znx <| Zsr <| Zv (ym rfl) <| Zv (yn rfl) <| Zv (yf 4 rfl) <| Zv (yf 1 rfl) ?_
  refine Zv (yd 0 rfl rfl rfl) <| Zv (yquo rfl rfl (by decide) rfl) <| Zv (ya rfl) <| Znl <| Znx <| Zrt <| Zre (.t rfl .n) hS [0] 0 ?_ rfl rfl rfl
  rw [q]
  rfl
theorem c188 (b bc bk : Nat) (pick w line : Int) (wr : Bool) (a : Acc) (d : CD) (hl : U32 line) (hp : -9223372036854775808 ≤ pick ∧ pick ≤ 9223372036854775807) : Sp Tryz.prog 188 [.pointer (some ⟨b, 0, none⟩), .int .u32 line, .bool wr] [.blk b 294 (actCs bc bk pick w a), .hp (cacC bk d)] fun K => ∀ A cap, K (.panicked (stopC A (askF d line hl wr pick).2.1.length cap)) [.hp (own msgE A cap (askF d line hl wr pick).2.1), .blk b 294 (actCs bc bk pick w a), .hp (cacC bk (askF d line hl wr pick).1)] := by
  refine Zen Tryz.func188 rfl rfl rfl fun e X Φ hS => ?_
  refine Zsq ?_
  refine Zhd [1] rfl rfl <| Zht 0 rfl (ym rfl) <| Zht 1 rfl (yn rfl) <| Zht 2 rfl (yf 1 rfl) <| Zht 3 rfl (yd 0 rfl rfl rfl) <| Zht 4 rfl (ym rfl) <| Zht 5 rfl (ym rfl) <| Zht 6 rfl (ym rfl) <| Zht 7 rfl (yn rfl) <| Zht 8 rfl (yf 2 rfl) ?_
  refine Zht 9 rfl (yd 0 rfl rfl rfl) ?_
  refine Zh1 10 (by kernel_rfl) <| Zok (c224 bk d line pick wr hl hp) [0] rfl rfl rfl <| fun A => fun cap => Zqh 2 rfl <| Zht 11 rfl (ym rfl) <| Zht 12 rfl (yx rfl rfl) <| Zht 13 rfl (yx rfl rfl) <| Zht 14 rfl (ya rfl) <| Zht 15 rfl (ya rfl) <| Zhn (by kernel_rfl) ?_
  refine Znx <| Zrg <| Zv (ym rfl) <| Zv (yb l333 rfl) <| Zv (ymi Tryz.underlying333 rfl rfl) <| Zpn rfl ?_
  refine Zpe (hS _ _) [0,1,0] 0 rfl rfl
theorem c250 (b bc bk k : Nat) (pick w : Int) (a : Acc) (c : Cor) : Sp Tryz.prog 250 [.pointer (some ⟨b, 0, none⟩)] [.blk b 294 (actCs bc bk pick w a), .hp (corC k bc c)] fun K => (c.B = [] → K (.returned (.tuple #[])) [.blk b 294 (actCs bc bk pick w a), .hp (corC k bc c)]) ∧ (c.B ≠ [] → K (.panicked (stopC none 0 0)) [.blk b 294 (actCs bc bk pick w a), .hp (corC k bc c)]) := by
  refine Zen Tryz.func250 rfl rfl rfl fun e X Φ hS => Zoc 1 cor_op rfl <| fun ok A cap bb pr hpr => ?_
  refine Zrg <| Zv (ym rfl) <| Zv (yn rfl) <| Zv (yf 0 rfl) <| Zv (yd 4 rfl rfl rfl) <| Zv (yn rfl) <| Zv (yf 37 rfl) <| Zv (yd 0 rfl rfl (nt_core 2 rfl rfl)) <| Zk (c148 ..) [2] rfl rfl <| Zq ?_
  refine Zv (yeq rfl rfl) <| Zk (c186 ..) [] rfl rfl <| ⟨?_, ?_⟩
  refine fun a_1 => Zq <| Znl <| Zee ?_
  rotate_left
  refine fun a_1 => Zqp ?_
  rotate_left
  · refine Zfx [1,1,0,0] (cor_fold (c := c) ok) rfl ?_
    refine Zre .n (hS.1 (List.length_eq_zero_iff.1 (by have := of_decide_eq_true a_1; omega))) [1,0] 0 rfl rfl rfl rfl
  · refine Zfx [1,1,0,0] (cor_fold (c := c) ok) rfl ?_
    refine Zpe (hS.2 (fun h => of_decide_eq_false a_1 (by rw [h]; rfl))) [1,0] 0 rfl rfl
end Go.Proofs.YtpfijldkkfiooaaGreatDoor
namespace Go.Proofs.YtpfijldkkfiooaaGreatDoor
open Go
set_option maxRecDepth 4000
section
variable {P : Program} {r : Option Nat} {N : Nat × List Deferred} {T : Tb} {e : World} {Q : Exit → Act → World → Prop} {os : List Oper} {fuel : Nat} {listed : Array Bool} {S M : List Ck}
theorem Zh3 (i j m : Nat) (hr : Region.ready .any os.toArray listed = [i, j, m]) (h : ZO P r os Q fuel listed N T e S M i) (h' : ZO P r os Q fuel listed N T e S M j) (h2 : ZO P r os Q fuel listed N T e S M m) : ZH P r os Q (fuel + 1) listed N T e S M := fun w hp ok a fr =>
  fx_each hr (by simp) fun k hk => by
    rw [List.mem_cons, List.mem_cons, List.mem_singleton] at hk
    rcases hk with rfl | rfl | rfl
    · exact h w hp ok a fr
    · exact h' w hp ok a fr
    · exact h2 w hp ok a fr
end
def commitF (c : Cor) (w : Int) (x : Ans) (own : Int) : Cor × Did := (c.setH (cmtF c.h w c.size x).1, ⟨1, (cmtF c.h w c.size x).1.id, (cmtF c.h w c.size x).2.1, sto0, own⟩)
theorem Cor.Ok.commit {k : Nat} {c : Cor} (ok : c.Ok k) (w : Int) (x : Ans) (own : Int) : (commitF c w x own).1.Ok k := { ok with h := cmt_ok w c.size x ok.h }
theorem c245 (b bc bk k : Nat) (pick w own : Int) (a : Acc) (x : Ans) (c : Cor) : Sp Tryz.prog 245 [.pointer (some ⟨b, 0, none⟩), .agg (ansE.arr x), .int .i64 own] [.blk b 294 (actCs bc bk pick w a), .hp (corC k bc c), spC] fun K => K (.returned (.agg (didE.arr (commitF c w x own).2))) [.blk b 294 (actCs bc bk pick w a), .hp (corC k bc (commitF c w x own).1), spC] := by
  refine Zen Tryz.func245 rfl rfl rfl fun e X Φ hS => Zoc 1 cor_op rfl <| fun ok A cap bb pr hpr => ?_
  have okh := ok.h
  refine Zsr <| Ze (ebxE rfl) fun b4 => Zw <| Ze (eal z53) fun b6 => Zw <| Znl <| Znx ?_
  refine Zjq (ι := Nat × Nat) (fun p => [(0, .pointer (some ⟨b, 0, none⟩)), (2, .int .i64 own), (6, .pointer (some ⟨b6, 0, none⟩)), (7, .pointer (some ⟨p.1, 0, none⟩)), (8, .pointer (some ⟨p.2, 0, none⟩))]) (fun p => [.blk p.1 59 (hrtE.cells (cmtF c.h w c.size x).1), .blk p.2 49 (comE.cells (cmtF c.h w c.size x).2.1), .blk b6 53 (didE.cells did0), .blk bc 139 (coreCs c.h (corTl c A cap bb pr)), .hp (Go.Proofs.YtpfijldkkfiooaaGreatDoor.own u32E A cap c.code), .hp (bufC bb c.B), .hp (resC pr c.res), .blk b 294 (actCs bc bk pick w a), spC]) X ?_ fun p => ?_
  rotate_left
  refine Zsq ?_
  rotate_left
  · refine Zhd [7] rfl rfl <| Zht 0 rfl (ym rfl) <| Zht 1 rfl (yn rfl) <| Zht 2 rfl (yf 0 rfl) <| Zht 3 rfl (yd 6 rfl rfl rfl) <| Zht 4 rfl (yn rfl) <| Zht 5 rfl (yf 0 rfl) <| Zht 6 rfl (yf 0 rfl) <| Zht 7 rfl (yda 2 (m := 35) rfl rfl (core_hart _ _) (Enc.len ..)) <| Zht 8 rfl (ym rfl) ?_
    refine Zht 9 rfl (yn rfl) <| Zht 10 rfl (yf 3 rfl) <| Zht 11 rfl (yd 6 rfl rfl rfl) <| Zht 12 rfl (ym rfl) <| Zht 13 rfl (yn rfl) <| Zht 14 rfl (yf 0 rfl) <| Zht 15 rfl (yd 6 rfl rfl rfl) <| Zht 16 rfl (yn rfl) <| Zht 17 rfl (yf 0 rfl) <| Zht 18 rfl (yf 36 rfl) ?_
    refine Zht 19 rfl (yd 2 rfl rfl (nt_core 1 rfl rfl)) <| Zht 20 rfl (ydw 1 (m := 2) rfl rfl (Enc.len ..)) ?_
    refine Zh3 21 26 27 (by kernel_rfl) (Zok (c130 c.h w c.size x okh) [0] rfl rfl rfl <| Zqh 1 rfl ?_) (Zoe rfl (eal z59) fun b7 => Zwh 2 rfl ?_) (Zoe rfl (eal z49) fun b8 => Zwh 2 rfl ?_)
    · refine Zht 22 rfl (ym rfl) <| Zht 23 rfl (yx rfl rfl) <| Zht 24 rfl (yx rfl rfl) <| Zht 25 rfl (yx rfl rfl) <| Zh2 26 27 (by kernel_rfl) (Zoe rfl (eal z59) fun b7 => Zwh 2 rfl ?_) (Zoe rfl (eal z49) fun b8 => Zwh 2 rfl ?_)
      refine Zh1 27 (by kernel_rfl) <| Zoe rfl (eal z49) fun b8 => Zwh 3 rfl <| Zh1 28 (by kernel_rfl) <| Zoe rfl (esw 1 (m := 35) rfl rfl rfl rfl rfl (Enc.len ..) (Enc.allL ..)) <| Zwh0 3 rfl <| Zh1 29 (by kernel_rfl) <| Zoe rfl (esw 0 (m := 14) rfl rfl rfl rfl rfl (Enc.len ..) (Enc.allL ..)) <| Zwh0 3 rfl <| Zht 30 rfl (ya rfl) <| Zhn (by kernel_rfl) ?_
      rotate_left
      refine Zh1 26 (by kernel_rfl) <| Zoe rfl (eal z59) fun b7 => Zwh 3 rfl <| Zh1 28 (by kernel_rfl) <| Zoe rfl (esw 0 (m := 35) rfl rfl rfl rfl rfl (Enc.len ..) (Enc.allL ..)) <| Zwh0 3 rfl <| Zh1 29 (by kernel_rfl) <| Zoe rfl (esw 1 (m := 14) rfl rfl rfl rfl rfl (Enc.len ..) (Enc.allL ..)) <| Zwh0 3 rfl <| Zht 30 rfl (ya rfl) <| Zhn (by kernel_rfl) ?_
      rotate_left
      · refine Zjr (b7, b8) ⟨rfl, rfl, rfl, rfl, rfl, trivial⟩ [1,0,1,2,2,2,2,2,0] 1 rfl rfl
      · refine Zjr (b7, b8) ⟨rfl, rfl, rfl, rfl, rfl, trivial⟩ [0,0,1,2,2,2,2,2,0] 1 rfl rfl
    · refine Zh2 21 27 (by kernel_rfl) (Zok (c130 ..) [1] rfl rfl rfl ?_) (Zoe rfl (eal z49) fun b8 => Zwh 3 rfl ?_)
      refine Zqh 2 rfl <| Zht 22 rfl (ym rfl) <| Zht 23 rfl (yx rfl rfl) <| Zht 24 rfl (yx rfl rfl) <| Zht 25 rfl (yx rfl rfl) <| Zh1 27 (by kernel_rfl) <| Zoe rfl (eal z49) fun b8 => Zwh 3 rfl <| Zh1 28 (by kernel_rfl) <| Zoe rfl (esw 2 (m := 35) rfl rfl rfl rfl rfl (Enc.len ..) (Enc.allL ..)) <| Zwh0 3 rfl <| Zh1 29 (by kernel_rfl) <| Zoe rfl (esw 0 (m := 14) rfl rfl rfl rfl rfl (Enc.len ..) (Enc.allL ..)) <| Zwh0 3 rfl <| Zht 30 rfl (ya rfl) <| Zhn (by kernel_rfl) ?_
      rotate_left
      refine Zh1 21 (by kernel_rfl) <| Zok (c130 ..) [2] rfl rfl rfl <| Zqh 3 rfl <| Zht 22 rfl (ym rfl) <| Zht 23 rfl (yx rfl rfl) <| Zht 24 rfl (yx rfl rfl) <| Zht 25 rfl (yx rfl rfl) <| Zh1 28 (by kernel_rfl) <| Zoe rfl (esw 2 (m := 35) rfl rfl rfl rfl rfl (Enc.len ..) (Enc.allL ..)) <| Zwh0 3 rfl <| Zh1 29 (by kernel_rfl) <| Zoe rfl (esw 1 (m := 14) rfl rfl rfl rfl rfl (Enc.len ..) (Enc.allL ..)) <| Zwh0 3 rfl <| Zht 30 rfl (ya rfl) <| Zhn (by kernel_rfl) ?_
      rotate_left
      · refine Zjr (b7, b8) ⟨rfl, rfl, rfl, rfl, rfl, trivial⟩ [2,0,1,2,2,2,2,2,0] 1 rfl rfl
      · refine Zjr (b7, b8) ⟨rfl, rfl, rfl, rfl, rfl, trivial⟩ [2,1,1,2,2,2,2,2,0] 1 rfl rfl
    · refine Zh2 21 26 (by kernel_rfl) (Zok (c130 ..) [1] rfl rfl rfl ?_) (Zoe rfl (eal z59) fun b7 => Zwh 3 rfl ?_)
      refine Zqh 2 rfl <| Zht 22 rfl (ym rfl) <| Zht 23 rfl (yx rfl rfl) <| Zht 24 rfl (yx rfl rfl) <| Zht 25 rfl (yx rfl rfl) <| Zh1 26 (by kernel_rfl) <| Zoe rfl (eal z59) fun b7 => Zwh 3 rfl <| Zh1 28 (by kernel_rfl) <| Zoe rfl (esw 0 (m := 35) rfl rfl rfl rfl rfl (Enc.len ..) (Enc.allL ..)) <| Zwh0 3 rfl <| Zh1 29 (by kernel_rfl) <| Zoe rfl (esw 2 (m := 14) rfl rfl rfl rfl rfl (Enc.len ..) (Enc.allL ..)) <| Zwh0 3 rfl <| Zht 30 rfl (ya rfl) <| Zhn (by kernel_rfl) ?_
      rotate_left
      refine Zh1 21 (by kernel_rfl) <| Zok (c130 ..) [2] rfl rfl rfl <| Zqh 3 rfl <| Zht 22 rfl (ym rfl) <| Zht 23 rfl (yx rfl rfl) <| Zht 24 rfl (yx rfl rfl) <| Zht 25 rfl (yx rfl rfl) <| Zh1 28 (by kernel_rfl) <| Zoe rfl (esw 1 (m := 35) rfl rfl rfl rfl rfl (Enc.len ..) (Enc.allL ..)) <| Zwh0 3 rfl <| Zh1 29 (by kernel_rfl) <| Zoe rfl (esw 2 (m := 14) rfl rfl rfl rfl rfl (Enc.len ..) (Enc.allL ..)) <| Zwh0 3 rfl <| Zht 30 rfl (ya rfl) <| Zhn (by kernel_rfl) ?_
      rotate_left
      · refine Zjr (b7, b8) ⟨rfl, rfl, rfl, rfl, rfl, trivial⟩ [0,1,1,2,2,2,2,2,0] 1 rfl rfl
      · refine Zjr (b7, b8) ⟨rfl, rfl, rfl, rfl, rfl, trivial⟩ [1,1,1,2,2,2,2,2,0] 1 rfl rfl
  · refine Zhd [3] rfl rfl <| Zht 0 rfl (ym rfl) <| Zht 1 rfl (yn rfl) <| Zht 2 rfl (yf 0 rfl) <| Zht 3 rfl (yd 6 rfl rfl rfl) <| Zht 4 rfl (ydw 0 (m := 35) rfl rfl (Enc.len ..)) <| Zht 5 rfl (yn rfl) <| Zht 6 rfl (yf 0 rfl) <| Zht 7 rfl (yf 0 rfl) ?_
    refine Zh1 8 (by kernel_rfl) <| Zoe rfl (esc 0 (m := 35) rfl rfl rfl (core_set _ _ _) rfl (Enc.len ..) (by rw [core_len rfl]; exact Nat.le_of_ble_eq_true rfl) (Enc.allL ..)) <| Zwh0 1 rfl <| Zhn (by kernel_rfl) <| Znx <| Zsr <| Zv (yf 0 rfl) <| Zv (yd 1 rfl rfl rfl) <| Zv (ydw 2 (m := 14) rfl rfl (Enc.len ..)) <| Zv (ym rfl) <| Zv (yb l53 rfl) <| Ze (esw 3 (m := 20) rfl rfl rfl rfl (Enc.len ..) rfl rfl) <| Zw0 ?_
    refine Znl <| Znx <| Zrt ?_
    refine Zfx [0,3,3,3] (cor_fold (c := (commitF c w x own).1) (ok.commit w x own)) rfl <| Zre (.wh 3 (m := 20) rfl rfl rfl .n) hS [4,0,3] 3 rfl rfl rfl rfl
end Go.Proofs.YtpfijldkkfiooaaGreatDoor
namespace Go.Proofs.YtpfijldkkfiooaaGreatDoor
open Go
set_option maxRecDepth 4000
theorem c248 (b bc bk : Nat) (pick w : Int) (a : Acc) (d : CD) (ha : U32 a.addr) (hp : -9223372036854775808 ≤ pick ∧ pick ≤ 9223372036854775807) : Sp Tryz.prog 248 [.pointer (some ⟨b, 0, none⟩)] [.blk b 294 (actCs bc bk pick w a), .hp (cacC bk d)] fun K =>
    ((readF d.L a.addr a.width).2 = 0 → K (.returned (.int .u32 (readF d.L a.addr a.width).1)) [.blk b 294 (actCs bc bk pick w a), .hp (cacC bk d)]) ∧
    ((readF d.L a.addr a.width).2 ≠ 0 → ∀ A cap, K (.panicked (stopC A (askF d (a.addr / 16) (u32_q ha).2 false pick).2.1.length cap)) [.hp (own msgE A cap (askF d (a.addr / 16) (u32_q ha).2 false pick).2.1), .blk b 294 (actCs bc bk pick w a), .hp (cacC bk (askF d (a.addr / 16) (u32_q ha).2 false pick).1)]) := by
  have q := (u32_q ha).1
  refine Zen Tryz.func248 rfl rfl rfl fun e X Φ hS => Zsr <| Zv (ya rfl) <| Znl <| Znx <| Zsq ?_
  refine Zhd [1] rfl rfl <| Zht 0 rfl (ym rfl) <| Zht 1 rfl (yn rfl) <| Zht 2 rfl (yf 1 rfl) <| Zht 3 rfl (yd 0 rfl rfl rfl) <| Zht 4 rfl (ym rfl) <| Zht 5 rfl (yn rfl) <| Zht 6 rfl (yf 4 rfl) <| Zht 7 rfl (yf 1 rfl) <| Zht 8 rfl (yd 0 rfl rfl rfl) ?_
  refine Zht 9 rfl (ym rfl) <| Zht 10 rfl (yn rfl) <| Zht 11 rfl (yf 4 rfl) <| Zht 12 rfl (yf 2 rfl) <| Zht 13 rfl (yd 0 rfl rfl rfl) ?_
  refine Zh1 14 (by kernel_rfl) <| Zok (c252 bk d a.addr a.width ha) [0] rfl rfl rfl <| Zqh 1 rfl <| Zht 15 rfl (ym rfl) <| Zht 16 rfl (yx rfl rfl) <| Zht 17 rfl (yx rfl rfl) <| Zht 18 rfl (ya rfl) <| Zht 19 rfl (ya rfl) <| Zhn (by kernel_rfl) <| Znx <| Zsq ?_
  refine Zsr <| Zv (ym rfl) <| Zv (yne rfl rfl) <| Znl <| Znx <| Zif rfl (fun h24 => ?_) (fun h24 => ?_)
  refine Zrg <| Zv (ym rfl) <| Zv (ym rfl) ?_
  rotate_left
  refine Zsk <| Znx <| Zsr <| Zv (ym rfl) <| Zv (ya rfl) <| Znl <| Znx <| Zrt ?_
  rotate_left
  · refine Zk (c296 b bc bk pick w a ha) [1] rfl rfl <| Zq ?_
    refine Zk (c188 b bc bk pick w (a.addr / 16) false a d (u32_q ha).2 hp) [0,0] rfl rfl <| fun A => fun cap => Zqp <| Zp1 ?_
    refine Zpe (hS.2 h24 _ _) [0,0,0] 0 rfl rfl
  · refine Zre (.t rfl .n) (hS.1 (Decidable.not_not.1 h24)) [1,0] 0 rfl rfl rfl rfl
theorem c251 (b bc bk : Nat) (pick w : Int) (a : Acc) (d : CD) (ha : U32 a.addr) (hp : -9223372036854775808 ≤ pick ∧ pick ≤ 9223372036854775807) : Sp Tryz.prog 251 [.pointer (some ⟨b, 0, none⟩)] [.blk b 294 (actCs bc bk pick w a), .hp (cacC bk d)] fun K =>
    (writesB (stateOf d.L (a.addr / 16)) = true → K (.returned (.tuple #[])) [.blk b 294 (actCs bc bk pick w a), .hp (cacC bk d)]) ∧
    (writesB (stateOf d.L (a.addr / 16)) = false → ∀ A cap, K (.panicked (stopC A (askF d (a.addr / 16) (u32_q ha).2 true pick).2.1.length cap)) [.hp (own msgE A cap (askF d (a.addr / 16) (u32_q ha).2 true pick).2.1), .blk b 294 (actCs bc bk pick w a), .hp (cacC bk (askF d (a.addr / 16) (u32_q ha).2 true pick).1)]) := by
  refine Zen Tryz.func251 rfl rfl rfl fun e X Φ hS => Zsq ?_
  refine Zhd [0,0] rfl rfl <| Zht 0 rfl (ym rfl) <| Zht 1 rfl (yn rfl) <| Zht 2 rfl (yf 1 rfl) <| Zht 4 rfl (ym rfl) ?_
  refine Zh2 3 5 (by kernel_rfl) (Zov rfl (yd 0 rfl rfl rfl) ?_) (Zok (c296 b bc bk pick w a ha) [0] rfl rfl rfl <| Zqh 2 rfl ?_)
  · refine Zh1 5 (by kernel_rfl) <| Zok (c296 b bc bk pick w a ha) [0] rfl rfl rfl <| Zqh 2 rfl ?_
    refine Zh1 6 (by kernel_rfl) <| Zok (c97 bk d (a.addr / 16) (u32_q ha).2) [1] rfl rfl rfl <| Zqh 2 rfl <| Zht 7 rfl (ya rfl) <| Zhn (by kernel_rfl) <| Znx <| Zsr <| Zv (ym rfl) <| Zv (yne rfl rfl) <| Zv (ym rfl) <| Zgs rfl rfl (fun h12 => ?_) (fun h12 => ?_)
    refine Zg' rfl rfl (decide_eq_true h12) <| Zv (ym rfl) <| Zg' rfl rfl (decide_eq_true h12) <| Zv (yne rfl rfl) <| Zv (ypt' rfl (decide_eq_true h12) rfl) <| Znl <| Znx <| Zif rfl (fun h15 => ?_) (fun h15 => ?_)
    refine Zrg <| Zv (ym rfl) <| Zv (ym rfl) ?_
    rotate_left
    refine Zsk <| Zee ?_
    rotate_left
    refine Zu' rfl rfl (decide_eq_false h12) rfl <| Zu' rfl rfl (decide_eq_false h12) rfl <| Zv (ypf' rfl (decide_eq_false h12) rfl) <| Znl <| Znx <| Zcf rfl <| Zsk <| Zee ?_
    rotate_left
    · refine Zk (c296 b bc bk pick w a ha) [1] rfl rfl <| Zq ?_
      refine Zk (c188 b bc bk pick w (a.addr / 16) true a d (u32_q ha).2 hp) [0,0] rfl rfl <| fun A => fun cap => Zqp ?_
      refine Zpe (hS.2 (by simp [writesB, h12, h15]) _ _) [0,0,0] 0 rfl rfl
    · refine Zre .n (hS.1 (by simp [writesB, Decidable.not_not.1 h15])) [1,0] 0 rfl rfl rfl rfl
    · refine Zre .n (hS.1 (by simp [writesB, Decidable.not_not.1 h12])) [1,0] 0 rfl rfl rfl rfl
  · refine Zh1 3 (by kernel_rfl) <| Zov rfl (yd 0 rfl rfl rfl) ?_
    refine Zh1 6 (by kernel_rfl) <| Zok (c97 bk d (a.addr / 16) (u32_q ha).2) [1] rfl rfl rfl <| Zqh 2 rfl <| Zht 7 rfl (ya rfl) <| Zhn (by kernel_rfl) <| Znx <| Zsr <| Zv (ym rfl) <| Zv (yne rfl rfl) <| Zv (ym rfl) <| Zgs rfl rfl (fun h12 => ?_) (fun h12 => ?_)
    refine Zg' rfl rfl (decide_eq_true h12) <| Zv (ym rfl) <| Zg' rfl rfl (decide_eq_true h12) <| Zv (yne rfl rfl) <| Zv (ypt' rfl (decide_eq_true h12) rfl) <| Znl <| Znx <| Zif rfl (fun h15 => ?_) (fun h15 => ?_)
    refine Zrg <| Zv (ym rfl) <| Zv (ym rfl) ?_
    rotate_left
    refine Zsk <| Zee ?_
    rotate_left
    refine Zu' rfl rfl (decide_eq_false h12) rfl <| Zu' rfl rfl (decide_eq_false h12) rfl <| Zv (ypf' rfl (decide_eq_false h12) rfl) <| Znl <| Znx <| Zcf rfl <| Zsk <| Zee ?_
    rotate_left
    · refine Zk (c296 b bc bk pick w a ha) [1] rfl rfl <| Zq ?_
      refine Zk (c188 b bc bk pick w (a.addr / 16) true a d (u32_q ha).2 hp) [0,0] rfl rfl <| fun A => fun cap => Zqp ?_
      refine Zpe (hS.2 (by simp [writesB, h12, h15]) _ _) [0,0,0] 0 rfl rfl
    · refine Zre .n (hS.1 (by simp [writesB, Decidable.not_not.1 h15])) [1,0] 0 rfl rfl rfl rfl
    · refine Zre .n (hS.1 (by simp [writesB, Decidable.not_not.1 h12])) [1,0] 0 rfl rfl rfl rfl
end Go.Proofs.YtpfijldkkfiooaaGreatDoor
namespace Go.Proofs.YtpfijldkkfiooaaGreatDoor
open Go
set_option maxRecDepth 4000
def bwd (l : List Sto) : List (Nat × Sto) := (List.range l.length).map fun j => (l.length - 1 - j, l.getD (l.length - 1 - j) sto0)
theorem bwd_len (l : List Sto) : (bwd l).length = l.length := by simp [bwd]
theorem bwd_at {l : List Sto} {j : Nat} (h : j < l.length) : (bwd l)[j]? = some (l.length - 1 - j, l.getD (l.length - 1 - j) sto0) := by
  unfold bwd
  rw [List.getElem?_map, List.getElem?_range h]
  rfl
abbrev idE (p : Nat × Sto) : List Value := [.int .i64 (p.1 : Int), .agg (stoE.arr p.2)]
theorem q347 (b1 : Nat) (A : Option Addr) (cap : Nat) (l : List Sto) (hl : l.length ≤ 4) : Sq Tryz.prog 347 [.pointer (some ⟨b1, 0, none⟩)] [.blk b1 73 [.slice A l.length cap], .hp (own stoE A cap l)] (fun _ => [.blk b1 73 [.slice A l.length cap], .hp (own stoE A cap l)]) idE (bwd l) := by
  refine ⟨fun y J Jx hYd => ?_⟩
  refine Zen Tryz.func347 rfl rfl rfl fun e X Φ hS => Zsr <| Zv (yd 1 rfl rfl rfl) <| Zv (sl_of ⟨_, Tryz.underlying73⟩ rfl) <| Zv (ysub rfl rfl (i64w rfl (by omega))) <| Zv (ya rfl) <| Znl <| Znx <| Zbl ?_
  refine Zlq (ι := { i : Nat // i ≤ l.length }) (fun i => [(3, .int .i64 ((l.length : Int) - 1 - (i.1 : Int))), (0, .func (.yield y) #[] #[]), (1, .pointer (some ⟨b1, 0, none⟩))]) (fun i => [.hp (J ((bwd l).take i.1)), .blk b1 73 [.slice A l.length cap], .hp (own stoE A cap l)]) (fun i => l.length - i.1) ⟨0, by omega⟩ ?_ [0, 0, 0] rfl fun i => ?_
  rotate_left
  refine Zsq <| Zsr <| Zv (ym rfl) <| Zv (yge rfl rfl) <| Znl <| Znx <| Zif rfl (fun h8 => ?_) (fun h8 => ?_)
  refine Zsk <| Znx <| Zsq <| Zbl <| Zsr <| Zv (ym rfl) <| Zv (ym rfl) <| Zv (yd 1 rfl rfl rfl) <| Zv (ym rfl) ?_
  rotate_left
  refine Zex <| Zxt <| Zxt <| Zxx <| Zee ?_
  rotate_left
  · refine ⟨?_, rfl, rfl, trivial⟩
    show some _ = some _
    simp
  · have hlt : i.1 < l.length := by omega
    have e1 : (l.length : Int) - 1 - (i.1 : Int) = ((l.length - 1 - i.1 : Nat) : Int) := by omega
    have hx : (bwd l).take i.1 ++ [(l.length - 1 - i.1, l.getD (l.length - 1 - i.1) sto0)] <+: bwd l := by rw [take_snc (bwd_at hlt)]; exact List.take_prefix _ _
    have hg : l[l.length - 1 - i.1]? = some (l.getD (l.length - 1 - i.1) sto0) := by rw [List.getD_eq_getElem?_getD, List.getElem?_eq_getElem (by omega)]; rfl
    rw [e1]
    refine Zv (yea 2 own.rd rfl rfl rfl (by first | assumption | omega) rfl Tryz.underlying73 rfl) <| Zv (yel 2 own.rd rfl (by assumption) rfl rfl rfl) ?_
    refine Zyd (hYd _ _ hx) 0 rfl rfl rfl ?_ ?_
    refine Zv (ynot rfl) <| Znl <| Znx <| Zcf rfl <| Zsk <| Zxn <| Znx <| Zrg <| Zv (ym rfl) <| Zv (ysub rfl rfl (i64w rfl (by omega))) ?_
    refine Zv (ya rfl) <| Znl ?_
    rotate_left
    refine Zv (ynot rfl) <| Znl <| Znx <| Zct rfl <| Zrt <| Zr2 <| Zr1 <| Zr1 <| Zr2 ?_
    rotate_left
    · rw [take_snc (bwd_at hlt), show ((l.length - 1 - i.1 : Nat) : Int) - 1 = (l.length : Int) - 1 - ((i.1 + 1 : Nat) : Int) by omega]
      refine Zlr ⟨i.1 + 1, by omega⟩ (by show l.length - (i.1 + 1) < l.length - i.1; omega) ⟨rfl, rfl, rfl, trivial⟩ [0, 0, 0] 0 rfl rfl
    · refine Zre .n (hS.2 _ hx) [0,0,0] 0 rfl rfl rfl rfl
  · have hi := i.2
    rw [List.take_of_length_le (show (bwd l).length ≤ i.1 by rw [bwd_len]; omega)]
    refine Zre .n hS.1 [0,0,0] 0 rfl rfl rfl rfl
theorem c295 (A : Option Addr) (cap n : Nat) : Sp Tryz.prog 295 [.slice A n cap] [] fun K => ∀ b1, K (.returned (.func (.func 347) #[] #[.pointer (some ⟨b1, 0, none⟩)])) [.blk b1 73 [.slice A n cap]] := by
  refine Zen Tryz.func295 rfl rfl rfl fun e X Φ hS => Zsr <| Ze (ebx rfl) fun b1 => Zw <| Zv (ya rfl) <| Znl <| Znx <| Zsr <| Zv (yfn rfl rfl) <| Zv (ya rfl) <| Znl ?_
  refine Znx <| Zrt <| Zre (.t rfl .n) (hS _) [0] 0 rfl rfl rfl rfl
end Go.Proofs.YtpfijldkkfiooaaGreatDoor
namespace Go.Proofs.YtpfijldkkfiooaaGreatDoor
open Go
set_option maxRecDepth 4000
def hitB (a w : Int) (s : Sto) : Bool := decide (s.addr < w32 (a + w32 w)) && decide (a < w32 (s.addr + w32 s.width))
def tellV (f a w : Int) (xs : List (Nat × Sto)) : Int := match xs.find? (fun p => hitB a w p.2) with | some p => f + p.1 | none => -1
def tellF (c : Cor) (a : Acc) : Int := tellV c.first a.addr a.width (bwd c.B)
theorem tell_none {f a w : Int} {xs : List (Nat × Sto)} (h : ∀ p ∈ xs, hitB a w p.2 = false) : tellV f a w xs = -1 := by
  unfold tellV
  rw [List.find?_eq_none.2 fun p hp => by simp [h p hp]]
theorem tell_some {a w : Int} {xs : List (Nat × Sto)} {p : Nat × Sto} (h : ∀ p ∈ xs, hitB a w p.2 = false) (hp : hitB a w p.2 = true) : (xs ++ [p]).find? (fun p => hitB a w p.2) = some p := by
  rw [List.find?_append, List.find?_eq_none.2 fun p hp => by simp [h p hp]]
  simp [hp]
theorem bwd_mem {l : List Sto} {pre : List (Nat × Sto)} {x : Nat × Sto} (h : pre ++ [x] <+: bwd l) : x.1 ≤ l.length := by
  have hm : x ∈ bwd l := h.subset (by simp)
  obtain ⟨j, hj, rfl⟩ := List.mem_map.1 hm
  show l.length - 1 - j ≤ l.length
  omega
theorem tell_pre {f a w : Int} {xs pre : List (Nat × Sto)} {p : Nat × Sto} (h : pre <+: xs) (hp : pre.find? (fun p => hitB a w p.2) = some p) : tellV f a w pre = tellV f a w xs := by
  unfold tellV
  rw [hp, h.find?_eq_some hp]
theorem miss_step {a w : Int} {pre : List (Nat × Sto)} {x : Nat × Sto} (h : ∀ p ∈ pre, hitB a w p.2 = false) (hx : hitB a w x.2 = false) : ∀ p ∈ pre ++ [x], hitB a w p.2 = false := fun p hp => by
  rcases List.mem_append.1 hp with hp | hp
  · exact h p hp
  · rw [List.mem_singleton] at hp; subst hp; exact hx
theorem c247 (b bc bk k : Nat) (pick w : Int) (a : Acc) (c : Cor) (hk : k ≤ 1000000) : Sp Tryz.prog 247 [.pointer (some ⟨b, 0, none⟩)] [.blk b 294 (actCs bc bk pick w a), .hp (corC k bc c)] fun K => K (.returned (.int .i64 (tellF c a))) [.blk b 294 (actCs bc bk pick w a), .hp (corC k bc c)] := by
  refine ZenM Tryz.func247 rfl rfl rfl fun e X Φ hS => Zoc 1 cor_op rfl <| fun ok A cap bb pr hpr => Zoc 2 buf_le rfl <| fun h4 hal => Zsr <| Ze (ebx rfl) fun b1 => Zw <| Zv (ya rfl) <| Znl <| Znx <| Zscp <| Zsr <| Zv (yd 0 rfl rfl rfl) <| Zv (yn rfl) ?_
  refine Zv (yf 0 rfl) <| Zv (yd 5 rfl rfl rfl) <| Zv (yn rfl) <| Zv (yf 37 rfl) <| Zv (yd 2 rfl rfl (nt_core 2 rfl rfl)) <| Zk (c54 ..) [1] rfl rfl <| fun A_1 => fun cap_1 => Zq <| Zv (ya rfl) ?_
  refine Znl <| Znx <| Zsr <| Ze (eal z3) fun b4 => Zw <| Ze (es 0 rfl rfl rfl rfl rfl) <| Zw0 <| Znl <| Znx <| Zsq <| Zlb <| Znx ?_
  refine Zsq <| Zsr <| Zv (ym rfl) <| Zk (c295 ..) [] rfl rfl <| fun b1_1 => Zq <| Znl <| Znx <| Zbl ?_
  refine Zrf (q347 b1_1 A_1 cap_1 c.B h4) (fun pre => [.blk b4 3 [.int .i64 (tellV c.first a.addr a.width pre)], .blk b1 292 [.pointer (some ⟨b, 0, none⟩)], .blk bc 139 (coreCs c.h (corTl c A cap bb pr)), .blk b 294 (actCs bc bk pick w a)]) (fun pre => ∀ p ∈ pre, hitB a.addr a.width p.2 = false) (fun _ => []) (fun _ => False) (fun _ pre => [.blk b4 3 [.int .i64 (tellV c.first a.addr a.width pre)], .blk b1 292 [.pointer (some ⟨b, 0, none⟩)], .blk bc 139 (coreCs c.h (corTl c A cap bb pr)), .blk b 294 (actCs bc bk pick w a)]) (fun id pre => id = 0 ∧ ∃ p, pre.find? (fun p => hitB a.addr a.width p.2) = some p) [0,1,0,1,1,3] rfl rfl ?_ (fun e' y pre x F hx hn => ?_) (fun D hn => ?_) (fun D pre hx hp => ?_) (fun D id pre hx hp => ?_) (fun _ => rfl) (by decide)
  refine fun p => fun a_1 => ?_
  rotate_left
  refine Zsr <| Zv (ya rfl) <| Znl <| Znx <| Zrg <| Ze (eal z51) fun b6 => Zw <| Ze (esw 0 (m := 3) rfl rfl rfl rfl rfl (Enc.len ..) (Enc.allL ..)) <| Zw0 <| Znl <| Zak 5 rfl fun F' => Zbl ?_
  refine Zsq <| Zhd [] rfl rfl <| Zht 0 rfl (yf 0 rfl) <| Zht 1 rfl (yd 0 rfl rfl rfl) <| Zht 2 rfl (yd 2 rfl rfl rfl) <| Zht 3 rfl (yn rfl) <| Zht 4 rfl (yf 4 rfl) <| Zht 5 rfl (yf 1 rfl) <| Zht 6 rfl (yd 4 rfl rfl rfl) <| Zht 7 rfl (yd 2 rfl rfl rfl) ?_
  refine Zht 8 rfl (yn rfl) <| Zht 9 rfl (yf 4 rfl) <| Zht 10 rfl (yf 2 rfl) <| Zht 11 rfl (yd 4 rfl rfl rfl) <| Zht 12 rfl (ycv Tryz.underlying3 Tryz.underlying40 rfl rfl) <| Zht 13 rfl (yadd rfl rfl rfl) <| Zht 14 rfl (ylt rfl rfl) <| Zht 15 rfl (ym rfl) <| Zhgs 16 rfl rfl rfl (fun h34 => ?_) (fun h34 => ?_)
  refine Zhg 16 rfl rfl (lkn rfl (decide_eq_true h34)) (yd 2 rfl rfl rfl) <| Zhg 17 rfl rfl (lkn rfl (decide_eq_true h34)) (yn rfl) <| Zhg 18 rfl rfl (lkn rfl (decide_eq_true h34)) (yf 4 rfl) <| Zhg 19 rfl rfl (lkn rfl (decide_eq_true h34)) (yf 1 rfl) <| Zhg 20 rfl rfl (lkn rfl (decide_eq_true h34)) (yd 4 rfl rfl rfl) <| Zhg 21 rfl rfl (lkn rfl (decide_eq_true h34)) (yf 0 rfl) <| Zhg 22 rfl rfl (lkn rfl (decide_eq_true h34)) (yd 0 rfl rfl rfl) <| Zhg 23 rfl rfl (lkn rfl (decide_eq_true h34)) (yf 1 rfl) <| Zhg 24 rfl rfl (lkn rfl (decide_eq_true h34)) (yd 0 rfl rfl rfl) <| Zhg 25 rfl rfl (lkn rfl (decide_eq_true h34)) (ycv Tryz.underlying3 Tryz.underlying40 rfl rfl) ?_
  refine Zhg 26 rfl rfl (lkn rfl (decide_eq_true h34)) (yadd rfl rfl rfl) <| Zhg 27 rfl rfl (lkn rfl (decide_eq_true h34)) (ylt rfl rfl) <| Zht 28 rfl (ypt' rfl (decide_eq_true h34) rfl) <| Zhn (by kernel_rfl) <| Znx <| Zif rfl (fun h47 => ?_) (fun h47 => ?_)
  refine Zsr <| Zv (yd 2 rfl rfl rfl) <| Zv (yn rfl) <| Zv (yf 0 rfl) <| Zv (yd 4 rfl rfl rfl) <| Zv (yn rfl) <| Zv (yf 38 rfl) <| Zv (yd 3 rfl rfl (nt_core 3 rfl rfl)) <| Zv (ym rfl) <| Zv (yadd rfl rfl rfl) ?_
  refine Ze (es 1 rfl rfl rfl rfl rfl) <| Zw0 <| Znl <| Znx <| Zex <| Zxb rfl ?_
  rotate_left
  refine Zsk <| Zxn ?_
  rotate_left
  refine Zhu 16 rfl rfl (lkn rfl (decide_eq_false h34)) rfl <| Zhu 17 rfl rfl (lkn rfl (decide_eq_false h34)) rfl <| Zhu 18 rfl rfl (lkn rfl (decide_eq_false h34)) rfl <| Zhu 19 rfl rfl (lkn rfl (decide_eq_false h34)) rfl <| Zhu 20 rfl rfl (lkn rfl (decide_eq_false h34)) rfl <| Zhu 21 rfl rfl (lkn rfl (decide_eq_false h34)) rfl <| Zhu 22 rfl rfl (lkn rfl (decide_eq_false h34)) rfl <| Zhu 23 rfl rfl (lkn rfl (decide_eq_false h34)) rfl <| Zhu 24 rfl rfl (lkn rfl (decide_eq_false h34)) rfl <| Zhu 25 rfl rfl (lkn rfl (decide_eq_false h34)) rfl ?_
  refine Zhu 26 rfl rfl (lkn rfl (decide_eq_false h34)) rfl <| Zhu 27 rfl rfl (lkn rfl (decide_eq_false h34)) rfl <| Zht 28 rfl (ypf' rfl (decide_eq_false h34) rfl) <| Zhn (by kernel_rfl) <| Znx <| Zcf rfl <| Zsk <| Zxn ?_
  rotate_left
  refine Zxn <| Znx <| Zsr <| Zv (yd 1 rfl rfl rfl) <| Zv (ya rfl) <| Znl <| Znx <| Zrt <| Zgr <| Zmk 0 rfl ?_
  rotate_left
  refine Zrt <| Zr2 <| Zr1 <| Zgr <| Zmk 0 rfl ?_
  rotate_left
  refine Zex ?_
  rotate_left
  · exact absurd (by assumption : _ ∈ ([] : List (Nat × Sto))) List.not_mem_nil
  · have hh : hitB a.addr a.width x.2 = true := by unfold hitB w32; rw [decide_eq_true h34, decide_eq_true h47]; rfl
    have hf := tell_some hn hh
    have e2 : IntKind.i64.wrap (c.first + x.1) = tellV c.first a.addr a.width (pre ++ [x]) := by
      have h1 := bwd_mem hx
      have h2 := ok.f0
      have h3 := ok.f1
      unfold tellV
      rw [hf]
      show _ = c.first + (x.1 : Int)
      exact i64w rfl (by omega)
    rw [e2]
    refine Zrx ⟨rfl, _, hf⟩ [1,1,1,1] 1 rfl rfl
  · have hh : hitB a.addr a.width x.2 = false := by unfold hitB w32; rw [decide_eq_false h47, Bool.and_false]
    have hm := miss_step hn hh
    rw [tell_none hn, ← tell_none (f := c.first) hm]
    refine Zrn hm [1,1,1,1] 1 rfl rfl
  · have hh : hitB a.addr a.width x.2 = false := by unfold hitB w32; rw [decide_eq_false h34, Bool.false_and]
    have hm := miss_step hn hh
    rw [tell_none hn, ← tell_none (f := c.first) hm]
    refine Zrn hm [1,1,1,1] 1 rfl rfl
  · refine Zfx [2,6,5,5] (cor_fold (c := c) ok) rfl <| Zre (.t rfl .n) hS [3,0] 4 rfl rfl rfl rfl
  · exact hp.elim
  · obtain ⟨rfl, p, hp⟩ := hp
    rw [tell_pre hx hp]
    refine Zxx <| Znx <| Zsr <| Zv (yd 1 rfl rfl rfl) <| Zv (ya rfl) <| Znl <| Znx <| Zrt <| Zgr <| Zmk 0 rfl ?_
    refine Zfx [2,6,5,5] (cor_fold (c := c) ok) rfl <| Zre (.t rfl .n) hS [3,0] 4 rfl rfl rfl rfl
end Go.Proofs.YtpfijldkkfiooaaGreatDoor
namespace Go.Proofs.YtpfijldkkfiooaaGreatDoor
open Go
set_option maxRecDepth 4000
abbrev ARes := Cor × CD × Except (List Msg) Did
abbrev actL (b bc bk k : Nat) (pick w : Int) (a : Acc) (c : Cor) (d : CD) : List Ck := [.blk b 294 (actCs bc bk pick w a), .hp (corC k bc c), .hp (cacC bk d), spC]
def AcS (b bc bk k : Nat) (pick w : Int) (a : Acc) (r : ARes) (K : Out) : Prop := match r.2.2 with
  | .ok did => K (.returned (.agg (didE.arr did))) (actL b bc bk k pick w a r.1 r.2.1)
  | .error ms => ∀ A cap, K (.panicked (stopC A ms.length cap)) (.hp (own msgE A cap ms) :: actL b bc bk k pick w a r.1 r.2.1)
def doneR (c : Cor) (d : CD) (w : Int) (x : Ans) (o : Int) : ARes := ((commitF c w x o).1, d, .ok (commitF c w x o).2)
def failR (c : Cor) (d : CD) (ms : List Msg) : ARes := (c, d, .error ms)
theorem c214 (b bc bk k : Nat) (pick w : Int) (a : Acc) (c : Cor) : Sp Tryz.prog 214 [.pointer (some ⟨b, 0, none⟩)] [.blk b 294 (actCs bc bk pick w a), .hp (corC k bc c), spC] fun K => K (.returned (.agg (didE.arr (commitF c w ans0 (-1)).2))) [.blk b 294 (actCs bc bk pick w a), .hp (corC k bc (commitF c w ans0 (-1)).1), spC] := by
  refine Zen Tryz.func214 rfl rfl rfl fun e X Φ hS => ?_
  refine Zsr <| Ze (eal z53) fun b2 => Zw <| Znl <| Znx <| Zsr <| Zv (ym rfl) <| Zv (yb l46 rfl) ?_
  refine Zk (c245 b bc bk k pick w (-1) a ans0 c) [1,1,1] rfl rfl <| Zq <| Ze (esw 3 (m := 20) rfl rfl rfl rfl rfl (Enc.len ..) (Enc.allL ..)) <| Zw0 <| Znl <| Znx <| Zrt <| Zre (.wh 3 (m := 20) rfl rfl (Enc.len ..) .n) hS [0,0,0] 1 rfl rfl rfl rfl
def stoA (a : Acc) : Sto := ⟨a.addr, a.width, a.value⟩
def storeR (c : Cor) (d : CD) (w : Int) (a : Acc) : ARes := if pushE c.B (stoA a) = 0 then doneR (c.setB (pushL c.B (stoA a))) d w ans0 (-1) else failR (c.setB (pushL c.B (stoA a))) d []
theorem c216 (b bc bk k : Nat) (pick w : Int) (a : Acc) (c : Cor) (d : CD) (ao : a.Ok) : Sp Tryz.prog 216 [.pointer (some ⟨b, 0, none⟩)] (actL b bc bk k pick w a c d) (AcS b bc bk k pick w a (storeR c d w a)) := by
  have so : (stoA a).Ok := ⟨ao.ad, ao.va⟩
  refine Zen Tryz.func216 rfl rfl rfl fun e X Φ hS => Zoc 1 cor_op rfl <| fun ok A cap bb pr hpr => ?_
  refine Zsr <| Ze (eal z53) fun b2 => Zw <| Znl <| Znx <| Zsq ?_
  refine Zhd [3] rfl rfl <| Zht 0 rfl (ym rfl) <| Zht 1 rfl (yn rfl) <| Zht 2 rfl (yf 0 rfl) <| Zht 3 rfl (yd 4 rfl rfl rfl) <| Zht 4 rfl (yn rfl) <| Zht 5 rfl (yf 37 rfl) <| Zht 6 rfl (yd 1 rfl rfl (nt_core 2 rfl rfl)) <| Zht 7 rfl (ym rfl) <| Zht 8 rfl (yn rfl) ?_
  refine Zht 9 rfl (yf 4 rfl) <| Zht 10 rfl (yf 1 rfl) <| Zht 11 rfl (yd 4 rfl rfl rfl) <| Zht 12 rfl (ym rfl) <| Zht 13 rfl (yn rfl) <| Zht 14 rfl (yf 4 rfl) <| Zht 15 rfl (yf 2 rfl) <| Zht 16 rfl (yd 4 rfl rfl rfl) <| Zht 17 rfl (ym rfl) <| Zht 18 rfl (yn rfl) ?_
  refine Zht 19 rfl (yf 4 rfl) <| Zht 20 rfl (yf 3 rfl) <| Zht 21 rfl (yd 4 rfl rfl rfl) <| Zht 22 rfl (yb l51 rfl) ?_
  have ok' : (c.setB (pushL c.B (stoA a))).Ok k := ⟨ok.h, ok.cu, ok.cl, ok.s0, ok.s1, ok.f0, ok.f1, ok.res⟩
  refine Zh1 23 (by kernel_rfl) <| Zok (c249 bb c.B (stoA a) so) [0] rfl rfl rfl <| Zqh 1 rfl <| Zht 24 rfl (yeq rfl rfl) <| Zh1 25 (by kernel_rfl) <| Zok (c186 ..) [] rfl rfl rfl <| ⟨?_, ?_⟩
  refine fun a_1 => Zqh 1 rfl <| Zhn (by kernel_rfl) <| Znx <| Zsr <| Zv (ym rfl) ?_
  rotate_left
  refine fun a_1 => Zqhp <| Zp1 ?_
  rotate_left
  · rw [show storeR c d w a = doneR (c.setB (pushL c.B (stoA a))) d w ans0 (-1) from if_pos (of_decide_eq_true a_1)] at hS
    dsimp only [AcS, doneR] at hS
    refine Zfl [2,2,0,1] (cor_fold (c := c.setB (pushL c.B (stoA a))) ok') rfl <| Zk (c214 ..) [2,0,2] rfl rfl <| Zq <| Ze (esw 3 (m := 20) rfl rfl rfl rfl rfl (Enc.len ..) (Enc.allL ..)) <| Zw0 <| Znl <| Znx <| Zrt <| Zre (.wh 3 (m := 20) rfl rfl (Enc.len ..) .n) hS [0,0,2,0] 1 rfl rfl rfl rfl
  · rw [show storeR c d w a = failR (c.setB (pushL c.B (stoA a))) d [] from if_neg (of_decide_eq_false a_1)] at hS
    dsimp only [AcS, failR] at hS
    refine Zfx [2,2,0,1] (cor_fold (c := c.setB (pushL c.B (stoA a))) ok') rfl ?_
    refine Zix (fun _ hs => sep_nil (E := msgE) hs) ?_
    refine Zpe (hS none 0) [0,2,0,1,1] 1 rfl rfl
def fenceR (c : Cor) (d : CD) (w : Int) : ARes := if c.B = [] then doneR c d w ans0 (-1) else failR c d []
theorem c217 (b bc bk k : Nat) (pick w : Int) (a : Acc) (c : Cor) (d : CD) : Sp Tryz.prog 217 [.pointer (some ⟨b, 0, none⟩)] (actL b bc bk k pick w a c d) (AcS b bc bk k pick w a (fenceR c d w)) := by
  refine Zen Tryz.func217 rfl rfl rfl fun e X Φ hS => ?_
  refine Zsr <| Ze (eal z53) fun b2 => Zw <| Znl <| Znx <| Zsr <| Zv (ym rfl) <| Zk (c250 ..) [1,1] rfl rfl <| ⟨?_, ?_⟩
  refine fun a_1 => Zq <| Znl <| Znx <| Zsr <| Zv (ym rfl) <| Zk (c214 ..) [0,0,2] rfl rfl <| Zq <| Ze (esw 3 (m := 20) rfl rfl rfl rfl rfl (Enc.len ..) (Enc.allL ..)) <| Zw0 <| Znl ?_
  refine Znx <| Zrt ?_
  rotate_left
  refine fun a_1 => Zqp <| Zp1 ?_
  rotate_left
  · rw [show fenceR c d w = doneR c d w ans0 (-1) from if_pos a_1] at hS
    dsimp only [AcS, doneR] at hS
    refine Zre (.wh 3 (m := 20) rfl rfl (Enc.len ..) .n) hS [0,0,2,0] 1 rfl rfl rfl rfl
  · rw [show fenceR c d w = failR c d [] from if_neg a_1] at hS
    dsimp only [AcS, failR] at hS
    refine Zix (fun _ hs => sep_nil (E := msgE) hs) ?_
    refine Zpe (hS none 0) [0,0,0,1,1] 1 rfl rfl
instance (n : Int) : Decidable (U32 n) := inferInstanceAs (Decidable (0 ≤ n ∧ n < 4294967296))
def askA (d : CD) (a : Acc) (wr : Bool) (pick : Int) : CD × List Msg × Int := if h : U32 a.addr then askF d (a.addr / 16) (u32_q h).2 wr pick else (d, [], 0)
def askR (c : Cor) (d : CD) (a : Acc) (wr : Bool) (pick : Int) : ARes := failR c (askA d a wr pick).1 (askA d a wr pick).2.1
def cachR (c : Cor) (d : CD) (w pick : Int) (a : Acc) : ARes := if (readF d.L a.addr a.width).2 = 0 then doneR c d w ⟨(readF d.L a.addr a.width).1, false⟩ (-1) else askR c d a false pick
end Go.Proofs.YtpfijldkkfiooaaGreatDoor
namespace Go.Proofs.YtpfijldkkfiooaaGreatDoor
open Go
set_option maxRecDepth 4000
theorem ask_eq {d : CD} {a : Acc} {wr : Bool} {pick : Int} (h : U32 a.addr) : askA d a wr pick = askF d (a.addr / 16) (u32_q h).2 wr pick := dif_pos h
def loadR (c : Cor) (d : CD) (w pick : Int) (a : Acc) : ARes :=
  if (fwd c.B a.addr a.width).2 = 2 then failR c d []
  else if (fwd c.B a.addr a.width).2 = 1 then doneR c d w ⟨(fwd c.B a.addr a.width).1, false⟩ (tellF c a)
  else cachR c d w pick a
theorem c215 (b bc bk k : Nat) (pick w : Int) (a : Acc) (c : Cor) (d : CD) (ao : a.Ok) (hp : -9223372036854775808 ≤ pick ∧ pick ≤ 9223372036854775807) (hk : k ≤ 1000000) : Sp Tryz.prog 215 [.pointer (some ⟨b, 0, none⟩)] (actL b bc bk k pick w a c d) (AcS b bc bk k pick w a (loadR c d w pick a)) := by
  refine Zen Tryz.func215 rfl rfl rfl fun e X Φ hS => Zoc 1 cor_op rfl <| fun ok A cap bb pr hpr => ?_
  refine Zsr <| Ze (eal z53) fun b2 => Zw <| Znl <| Znx <| Zsq ?_
  refine Zhd [3] rfl rfl <| Zht 0 rfl (ym rfl) <| Zht 1 rfl (yn rfl) <| Zht 2 rfl (yf 0 rfl) <| Zht 3 rfl (yd 4 rfl rfl rfl) <| Zht 4 rfl (yn rfl) <| Zht 5 rfl (yf 37 rfl) <| Zht 6 rfl (yd 1 rfl rfl (nt_core 2 rfl rfl)) <| Zht 7 rfl (ym rfl) <| Zht 8 rfl (yn rfl) ?_
  refine Zht 9 rfl (yf 4 rfl) <| Zht 10 rfl (yf 1 rfl) <| Zht 11 rfl (yd 4 rfl rfl rfl) <| Zht 12 rfl (ym rfl) <| Zht 13 rfl (yn rfl) <| Zht 14 rfl (yf 4 rfl) <| Zht 15 rfl (yf 2 rfl) <| Zht 16 rfl (yd 4 rfl rfl rfl) ?_
  refine Zh1 17 (by kernel_rfl) <| Zok (c246 bb c.B a.addr a.width ao.ad) [0] rfl rfl rfl <| Zqh 1 rfl <| Zht 18 rfl (ym rfl) <| Zht 19 rfl (yx rfl rfl) <| Zht 20 rfl (yx rfl rfl) <| Zht 21 rfl (ya rfl) <| Zht 22 rfl (ya rfl) <| Zhn (by kernel_rfl) <| Znx <| Zsr ?_
  refine Zv (ym rfl) <| Zv (yne rfl rfl) <| Zk (c186 ..) [] rfl rfl <| ⟨?_, ?_⟩
  refine fun a_1 => Zq <| Znl <| Znx ?_
  rotate_left
  refine fun a_1 => Zqp <| Zp1 ?_
  rotate_left
  · refine Zfc [2,2,0,1] (cor_fold (c := c) ok) rfl <| Zsq <| Zsr <| Zv (ym rfl) <| Zv (yeq rfl rfl) <| Znl <| Znx <| Zif rfl (fun h30 => ?_) (fun h30 => ?_)
    refine Zsr <| Zv (ym rfl) <| Zv (ym rfl) <| Zv (yb l46 rfl) <| Zv (ym rfl) ?_
    rotate_left
    refine Zsk <| Znx <| Zsr <| Zv (ym rfl) <| Zv (ym rfl) ?_
    rotate_left
    · have h2 : ¬ (fwd c.B a.addr a.width).2 = 2 := of_decide_eq_true a_1
      rw [show loadR c d w pick a = doneR c d w ⟨(fwd c.B a.addr a.width).1, false⟩ (tellF c a) from (if_neg h2).trans (if_pos h30)] at hS
      dsimp only [AcS, doneR] at hS
      refine Zk (c247 b bc bk k pick w a c hk) [2,0] rfl rfl <| Zq ?_
      refine Zk (c245 b bc bk k pick w (tellF c a) a ⟨(fwd c.B a.addr a.width).1, false⟩ c) [0,0,2] rfl rfl <| Zq <| Ze (esw 3 (m := 20) rfl rfl rfl rfl rfl (Enc.len ..) (Enc.allL ..)) <| Zw0 <| Znl <| Znx <| Zrt <| Zr1 <| Zre (.wh 3 (m := 20) rfl rfl (Enc.len ..) .n) hS [0,0,2,0] 1 rfl rfl rfl rfl
    · have h2 : ¬ (fwd c.B a.addr a.width).2 = 2 := of_decide_eq_true a_1
      rw [show loadR c d w pick a = cachR c d w pick a from (if_neg h2).trans (if_neg h30)] at hS
      refine Zk (c248 b bc bk pick w a d ao.ad hp) [2,2] rfl rfl <| ⟨?_, ?_⟩
      refine fun a_2 => Zq <| Zv (yb l46 rfl) ?_
      rotate_left
      refine fun a_2 => fun A_1 => fun cap_1 => Zqp <| Zp1 ?_
      rotate_left
      · rw [show cachR c d w pick a = doneR c d w ⟨(readF d.L a.addr a.width).1, false⟩ (-1) from if_pos a_2] at hS
        dsimp only [AcS, doneR] at hS
        refine Zk (c245 b bc bk k pick w (-1) a ⟨(readF d.L a.addr a.width).1, false⟩ c) [0,1,2] rfl rfl <| Zq <| Ze (esw 4 (m := 20) rfl rfl rfl rfl rfl (Enc.len ..) (Enc.allL ..)) <| Zw0 <| Znl <| Znx <| Zrt <| Zre (.wh 4 (m := 20) rfl rfl (Enc.len ..) .n) hS [0,0,1,0] 1 rfl rfl rfl rfl
      · rw [show cachR c d w pick a = askR c d a false pick from if_neg a_2] at hS
        dsimp only [AcS, askR, failR] at hS
        rw [ask_eq ao.ad] at hS
        refine Zpe (hS _ _) [0,0,1,0,1] 1 rfl rfl
  · have h2 : (fwd c.B a.addr a.width).2 = 2 := Decidable.not_not.1 (of_decide_eq_false a_1)
    rw [show loadR c d w pick a = failR c d [] from if_pos h2] at hS
    dsimp only [AcS, failR] at hS
    refine Zfx [2,2,0,1] (cor_fold (c := c) ok) rfl ?_
    refine Zix (fun _ hs => sep_nil (E := msgE) hs) ?_
    refine Zpe (hS none 0) [0,2,0,1,1] 1 rfl rfl
def lrR (c : Cor) (d : CD) (w pick : Int) (a : Acc) : ARes :=
  if c.B = [] then (if (readF d.L a.addr a.width).2 = 0 then doneR (c.setR (some a.addr)) d w ⟨(readF d.L a.addr a.width).1, false⟩ (-1) else askR c d a false pick) else failR c d []
theorem c218 (b bc bk k : Nat) (pick w : Int) (a : Acc) (c : Cor) (d : CD) (ao : a.Ok) (hp : -9223372036854775808 ≤ pick ∧ pick ≤ 9223372036854775807) : Sp Tryz.prog 218 [.pointer (some ⟨b, 0, none⟩)] (actL b bc bk k pick w a c d) (AcS b bc bk k pick w a (lrR c d w pick a)) := by
  refine Zen Tryz.func218 rfl rfl rfl fun e X Φ hS => ?_
  refine Zsr <| Ze (eal z53) fun b2 => Zw <| Znl <| Znx <| Zsr <| Zv (ym rfl) <| Zk (c250 ..) [1,1] rfl rfl <| ⟨?_, ?_⟩
  refine fun a_1 => Zq <| Znl <| Znx <| Zsr <| Zv (ym rfl) ?_
  rotate_left
  refine fun a_1 => Zqp <| Zp1 ?_
  rotate_left
  · refine Zk (c248 b bc bk pick w a d ao.ad hp) [0,2] rfl rfl <| ⟨?_, ?_⟩
    refine fun a_2 => Zq <| Zv (ya rfl) <| Znl <| Znx <| Zsr <| Zv (ym rfl) <| Zv (yn rfl) <| Zv (yf 4 rfl) <| Zv (yf 1 rfl) ?_
    refine Zv (yd 0 rfl rfl rfl) <| Ze (eal z40) fun b4 => Zw <| Ze (es 0 rfl rfl rfl rfl rfl) <| Zw0 <| Znl <| Znx <| Zsr <| Zv (ym rfl) <| Zv (yn rfl) <| Zv (yf 0 rfl) <| Zv (yd 1 rfl rfl rfl) ?_
    refine Zv (yn rfl) <| Zv (yf 39 rfl) ?_
    rotate_left
    refine fun a_2 => fun A => fun cap => Zqp <| Zp1 ?_
    rotate_left
    · rw [show lrR c d w pick a = doneR (c.setR (some a.addr)) d w ⟨(readF d.L a.addr a.width).1, false⟩ (-1) from (if_pos a_1).trans (if_pos a_2)] at hS
      dsimp only [AcS, doneR] at hS
      refine Zol 3 cor_op rfl <| fun ok A cap bb pr hpr => Ze (es 0 rfl rfl rfl (pt_core 4 rfl rfl) rfl) <| Zw0 <| Znl <| Znx <| Zsr <| Zv (ym rfl) <| Zv (ym rfl) <| Zv (yb l46 rfl) ?_
      have ok' : (c.setR (some a.addr)).Ok k := ⟨ok.h, ok.cu, ok.cl, ok.s0, ok.s1, ok.f0, ok.f1, fun x h => by cases h; exact ao.ad⟩
      refine Zfl [4] (res_s (a := some a.addr) (b := b4) (x := a.addr) rfl) rfl ?_
      refine Zfl [1,1,1,0] (cor_fold (c := c.setR (some a.addr)) ok') rfl ?_
      refine Zk (c245 b bc bk k pick w (-1) a ⟨(readF d.L a.addr a.width).1, false⟩ (c.setR (some a.addr))) [2,0,3] rfl rfl <| Zq <| Ze (esw 5 (m := 20) rfl rfl rfl rfl rfl (Enc.len ..) (Enc.allL ..)) <| Zw0 <| Znl <| Znx <| Zrt <| Zre (.wh 5 (m := 20) rfl rfl (Enc.len ..) .n) hS [0,0,2,0] 2 rfl rfl rfl rfl
    · rw [show lrR c d w pick a = askR c d a false pick from (if_pos a_1).trans (if_neg a_2)] at hS
      dsimp only [AcS, askR, failR] at hS
      rw [ask_eq ao.ad] at hS
      refine Zpe (hS _ _) [0,0,1,0,1] 1 rfl rfl
  · rw [show lrR c d w pick a = failR c d [] from if_neg a_1] at hS
    dsimp only [AcS, failR] at hS
    refine Zix (fun _ hs => sep_nil (E := msgE) hs) ?_
    refine Zpe (hS none 0) [0,0,0,1,1] 1 rfl rfl
end Go.Proofs.YtpfijldkkfiooaaGreatDoor
namespace Go.Proofs.YtpfijldkkfiooaaGreatDoor
open Go
set_option maxRecDepth 4000
theorem ask_eq' {d : CD} {a : Acc} {wr : Bool} {pick : Int} (h : U32 a.addr) : askA d a wr pick = askF d (a.addr / 16) (u32_q h).2 wr pick := dif_pos h
def keptB (c : Cor) (a : Acc) : Bool := match c.res with | some x => decide (x = a.addr) | none => false
def scR (c : Cor) (d : CD) (w pick : Int) (a : Acc) : ARes :=
  if c.B ≠ [] then failR c d []
  else if keptB c a = true then (if writesB (stateOf d.L (a.addr / 16)) = true then doneR (c.setR none) (writeF d a.addr a.width a.value).1 w ⟨0, true⟩ (-1) else askR c d a true pick)
  else doneR (c.setR none) d w ⟨0, false⟩ (-1)
def amoR (c : Cor) (d : CD) (w pick : Int) (a : Acc) : ARes :=
  if c.B ≠ [] then failR c d []
  else if writesB (stateOf d.L (a.addr / 16)) = true then doneR c (writeF d a.addr a.width (amoF a.op (readF d.L a.addr a.width).1 a.value).1).1 w ⟨(readF d.L a.addr a.width).1, false⟩ (-1)
  else askR c d a true pick
theorem c220 (b bc bk k : Nat) (pick w : Int) (a : Acc) (c : Cor) (d : CD) (ao : a.Ok) (hp : -9223372036854775808 ≤ pick ∧ pick ≤ 9223372036854775807) : Sp Tryz.prog 220 [.pointer (some ⟨b, 0, none⟩)] (actL b bc bk k pick w a c d) (AcS b bc bk k pick w a (amoR c d w pick a)) := by
  refine Zen Tryz.func220 rfl rfl rfl fun e X Φ hS => ?_
  refine Zsr <| Ze (eal z53) fun b2 => Zw <| Znl <| Znx <| Zsr <| Zv (ym rfl) <| Zk (c250 ..) [1,1] rfl rfl <| ⟨?_, ?_⟩
  refine fun a_1 => Zq <| Znl <| Znx <| Zsr <| Zv (ym rfl) ?_
  rotate_left
  refine fun a_1 => Zqp <| Zp1 ?_
  rotate_left
  · refine Zk (c251 b bc bk pick w a d ao.ad hp) [0,2] rfl rfl <| ⟨?_, ?_⟩
    refine fun a_2 => Zq <| Znl <| Znx <| Zsq ?_
    rotate_left
    refine fun a_2 => fun A => fun cap => Zqp <| Zp1 ?_
    rotate_left
    · rw [show amoR c d w pick a = doneR c (writeF d a.addr a.width (amoF a.op (readF d.L a.addr a.width).1 a.value).1).1 w ⟨(readF d.L a.addr a.width).1, false⟩ (-1) from (if_neg (fun h => h a_1)).trans (if_pos a_2)] at hS
      dsimp only [AcS, doneR] at hS
      refine Zhd [1] rfl rfl <| Zht 0 rfl (ym rfl) <| Zht 1 rfl (yn rfl) <| Zht 2 rfl (yf 1 rfl) <| Zht 3 rfl (yd 0 rfl rfl rfl) <| Zht 4 rfl (ym rfl) <| Zht 5 rfl (yn rfl) <| Zht 6 rfl (yf 4 rfl) <| Zht 7 rfl (yf 1 rfl) <| Zht 8 rfl (yd 0 rfl rfl rfl) ?_
      refine Zht 9 rfl (ym rfl) <| Zht 10 rfl (yn rfl) <| Zht 11 rfl (yf 4 rfl) <| Zht 12 rfl (yf 2 rfl) <| Zht 13 rfl (yd 0 rfl rfl rfl) ?_
      refine Zh1 14 (by kernel_rfl) <| Zok (c252 bk d a.addr a.width ao.ad) [0] rfl rfl rfl <| Zqh 1 rfl <| Zht 15 rfl (ym rfl) <| Zht 16 rfl (yx rfl rfl) <| Zht 17 rfl (yx rfl rfl) <| Zht 18 rfl (ya rfl) <| Zht 19 rfl (ya rfl) <| Zhn (by kernel_rfl) <| Znx <| Zsq ?_
      refine Zhd [] rfl rfl <| Zht 0 rfl (ym rfl) <| Zht 1 rfl (yn rfl) <| Zht 2 rfl (yf 4 rfl) <| Zht 3 rfl (yf 4 rfl) <| Zht 4 rfl (yd 1 rfl rfl rfl) <| Zht 5 rfl (ym rfl) <| Zht 6 rfl (ym rfl) <| Zht 7 rfl (yn rfl) <| Zht 8 rfl (yf 4 rfl) ?_
      refine Zht 9 rfl (yf 3 rfl) <| Zht 10 rfl (yd 1 rfl rfl rfl) <| Zh1 11 (by kernel_rfl) <| Zok (c253 ..) [] rfl rfl rfl <| fun x => fun e_1 => fun a_3 => Zqh 0 rfl <| Zht 12 rfl (ym rfl) <| Zht 13 rfl (yx rfl rfl) <| Zht 14 rfl (yx rfl rfl) ?_
      refine Zht 15 rfl (ya rfl) <| Zht 16 rfl (ya rfl) <| Zhn (by kernel_rfl) <| Znx <| Zsq ?_
      rw [a_3] at hS
      refine Zhd [0] rfl rfl <| Zht 0 rfl (ym rfl) <| Zht 1 rfl (yn rfl) <| Zht 2 rfl (yf 1 rfl) <| Zht 3 rfl (yd 0 rfl rfl rfl) <| Zht 4 rfl (ym rfl) <| Zht 5 rfl (yn rfl) <| Zht 6 rfl (yf 4 rfl) <| Zht 7 rfl (yf 1 rfl) <| Zht 8 rfl (yd 0 rfl rfl rfl) ?_
      refine Zht 9 rfl (ym rfl) <| Zht 10 rfl (yn rfl) <| Zht 11 rfl (yf 4 rfl) <| Zht 12 rfl (yf 2 rfl) <| Zht 13 rfl (yd 0 rfl rfl rfl) <| Zht 14 rfl (ym rfl) ?_
      refine Zh1 15 (by kernel_rfl) <| Zok (c187 bk d a.addr a.width x ao.ad) [0] rfl rfl rfl <| Zqh 1 rfl <| Zhn (by kernel_rfl) <| Znx <| Zsr <| Zv (ym rfl) <| Zv (ym rfl) <| Zv (yb l46 rfl) ?_
      refine Zk (c245 b bc bk k pick w (-1) a ⟨(readF d.L a.addr a.width).1, false⟩ c) [1,1,2] rfl rfl <| Zq <| Ze (esw 4 (m := 20) rfl rfl rfl rfl rfl (Enc.len ..) (Enc.allL ..)) <| Zw0 <| Znl <| Znx <| Zrt <| Zre (.wh 4 (m := 20) rfl rfl (Enc.len ..) .n) hS [0,0,1,0] 1 rfl rfl rfl rfl
    · rw [show amoR c d w pick a = askR c d a true pick from (if_neg (fun h => h a_1)).trans (if_neg (by rw [a_2]; decide))] at hS
      dsimp only [AcS, askR, failR] at hS
      rw [ask_eq' ao.ad] at hS
      refine Zpe (hS _ _) [0,0,1,0,1] 1 rfl rfl
  · rw [show amoR c d w pick a = failR c d [] from if_pos a_1] at hS
    dsimp only [AcS, failR] at hS
    refine Zix (fun _ hs => sep_nil (E := msgE) hs) ?_
    refine Zpe (hS none 0) [0,0,0,1,1] 1 rfl rfl
theorem c219 (b bc bk k : Nat) (pick w : Int) (a : Acc) (c : Cor) (d : CD) (ao : a.Ok) (hp : -9223372036854775808 ≤ pick ∧ pick ≤ 9223372036854775807) : Sp Tryz.prog 219 [.pointer (some ⟨b, 0, none⟩)] (actL b bc bk k pick w a c d) (AcS b bc bk k pick w a (scR c d w pick a)) := by
  refine Zen Tryz.func219 rfl rfl rfl fun e X Φ hS => ?_
  refine Zsr <| Ze (eal z53) fun b2 => Zw <| Znl <| Znx <| Zsr <| Zv (ym rfl) <| Zk (c250 ..) [1,1] rfl rfl <| ⟨?_, ?_⟩
  refine fun a_1 => Zq <| Znl <| Znx <| Zsq ?_
  rotate_left
  refine fun a_1 => Zqp <| Zp1 ?_
  rotate_left
  · refine Zoc 1 cor_op rfl <| fun ok A cap bb pr hpr => ?_
    have ok' : (c.setR none).Ok k := ⟨ok.h, ok.cu, ok.cl, ok.s0, ok.s1, ok.f0, ok.f1, fun x h => (by cases h)⟩
    rcases Option.eq_none_or_eq_some c.res with hr | ⟨y, hr⟩
    · have hpn := none_of hpr hr
      subst hpn
      have hk : keptB c a = false := by unfold keptB; rw [hr]
      rw [show scR c d w pick a = doneR (c.setR none) d w ⟨0, false⟩ (-1) from (if_neg (fun h => h a_1)).trans (if_neg (by rw [hk]; decide))] at hS
      dsimp only [AcS, doneR] at hS
      refine Zhd [] rfl rfl <| Zht 0 rfl (ym rfl) <| Zht 1 rfl (yn rfl) <| Zht 2 rfl (yf 0 rfl) <| Zht 3 rfl (yd 4 rfl rfl rfl) <| Zht 4 rfl (yn rfl) <| Zht 5 rfl (yf 39 rfl) <| Zht 6 rfl (yd 0 rfl rfl (nt_core 4 rfl rfl)) <| Zht 7 rfl (ypne rfl rfl rfl) <| Zht 8 rfl (ym rfl) ?_
      refine Zhu 9 rfl rfl rfl rfl <| Zhu 10 rfl rfl rfl rfl <| Zhu 11 rfl rfl rfl rfl <| Zhu 12 rfl rfl rfl rfl <| Zhu 13 rfl rfl rfl rfl <| Zhu 14 rfl rfl rfl rfl <| Zhu 15 rfl rfl rfl rfl <| Zhu 16 rfl rfl rfl rfl <| Zhu 17 rfl rfl rfl rfl <| Zhu 18 rfl rfl rfl rfl ?_
      refine Zhu 19 rfl rfl rfl rfl <| Zhu 20 rfl rfl rfl rfl <| Zhu 21 rfl rfl rfl rfl <| Zhu 22 rfl rfl rfl rfl <| Zhu 23 rfl rfl rfl rfl <| Zht 24 rfl (ypf rfl rfl) <| Zht 25 rfl (ya rfl) <| Zhn (by kernel_rfl) <| Znx <| Zsq ?_
      refine Zsr <| Zv (ym rfl) <| Znl <| Znx <| Zcf rfl <| Zsk <| Znx <| Zsr <| Zv (ym rfl) <| Zv (yn rfl) ?_
      refine Zv (yf 0 rfl) <| Zv (yd 4 rfl rfl rfl) <| Zv (yn rfl) <| Zv (yf 39 rfl) <| Ze (es 0 rfl rfl rfl (pt_core 4 rfl rfl) rfl) <| Zw0 <| Znl <| Znx <| Zsr <| Zv (ym rfl) <| Zv (ym rfl) ?_
      refine Zv (yb l46 rfl) ?_
      refine Zfl [] (res_n (a := none) rfl) rfl ?_
      refine Zfl [1,1,1,0] (cor_fold (c := c.setR none) ok') rfl ?_
      refine Zk (c245 b bc bk k pick w (-1) a ⟨0, false⟩ (c.setR none)) [2,0,3] rfl rfl <| Zq <| Ze (esw 4 (m := 20) rfl rfl rfl rfl rfl (Enc.len ..) (Enc.allL ..)) <| Zw0 <| Znl <| Znx <| Zrt <| Zre (.wh 4 (m := 20) rfl rfl (Enc.len ..) .n) hS [0,0,3,0] 2 rfl rfl rfl rfl
    · have hk : keptB c a = decide (y = a.addr) := by unfold keptB; rw [hr]
      rw [hr]
      refine Zoc 3 res_op1 rfl <| fun ba ea => ?_
      subst ea
      refine Zhd [] rfl rfl <| Zht 0 rfl (ym rfl) <| Zht 1 rfl (yn rfl) <| Zht 2 rfl (yf 0 rfl) <| Zht 3 rfl (yd 4 rfl rfl rfl) <| Zht 4 rfl (yn rfl) <| Zht 5 rfl (yf 39 rfl) <| Zht 6 rfl (yd 1 rfl rfl (nt_core 4 rfl rfl)) <| Zht 7 rfl (ypne rfl rfl rfl) <| Zht 8 rfl (ym rfl) ?_
      refine Zhg 9 rfl rfl rfl (ym rfl) <| Zhg 10 rfl rfl rfl (yn rfl) <| Zhg 11 rfl rfl rfl (yf 0 rfl) <| Zhg 12 rfl rfl rfl (yd 4 rfl rfl rfl) <| Zhg 13 rfl rfl rfl (yn rfl) <| Zhg 14 rfl rfl rfl (yf 39 rfl) <| Zhg 15 rfl rfl rfl (yd 1 rfl rfl (nt_core 4 rfl rfl)) <| Zhg 16 rfl rfl rfl (yn rfl) <| Zhg 17 rfl rfl rfl (yd 0 rfl rfl rfl) <| Zhg 18 rfl rfl rfl (ym rfl) ?_
      refine Zhg 19 rfl rfl rfl (yn rfl) <| Zhg 20 rfl rfl rfl (yf 4 rfl) <| Zhg 21 rfl rfl rfl (yf 1 rfl) <| Zhg 22 rfl rfl rfl (yd 4 rfl rfl rfl) <| Zhg 23 rfl rfl rfl (yeq rfl rfl) <| Zht 24 rfl (ypt rfl rfl) <| Zht 25 rfl (ya rfl) <| Zhn (by kernel_rfl) <| Znx <| Zsq ?_
      refine Zsr <| Zv (ym rfl) <| Znl <| Znx <| Zif rfl (fun h31 => ?_) (fun h31 => ?_)
      refine Zsr <| Zv (ym rfl) ?_
      rotate_left
      refine Zsk <| Znx <| Zsr <| Zv (ym rfl) <| Zv (yn rfl) <| Zv (yf 0 rfl) <| Zv (yd 4 rfl rfl rfl) <| Zv (yn rfl) <| Zv (yf 39 rfl) <| Ze (es 1 rfl rfl rfl (pt_core 4 rfl rfl) rfl) <| Zw0 ?_
      refine Znl <| Znx <| Zsr <| Zv (ym rfl) <| Zv (ym rfl) <| Zv (yb l46 rfl) ?_
      rotate_left
      · have hk1 : keptB c a = true := hk.trans (decide_eq_true h31)
        refine Zk (c251 b bc bk pick w a d ao.ad hp) [4,5] rfl rfl <| ⟨?_, ?_⟩
        refine fun a_2 => Zq <| Znl <| Znx ?_
        rotate_left
        refine fun a_2 => fun A_1 => fun cap_1 => Zqp <| Zp1 <| Zp1 ?_
        rotate_left
        · rw [show scR c d w pick a = doneR (c.setR none) (writeF d a.addr a.width a.value).1 w ⟨0, true⟩ (-1) from (if_neg (fun h => h a_1)).trans ((if_pos hk1).trans (if_pos a_2))] at hS
          dsimp only [AcS, doneR] at hS
          refine Zhd [1] rfl rfl <| Zht 0 rfl (ym rfl) <| Zht 1 rfl (yn rfl) <| Zht 2 rfl (yf 1 rfl) <| Zht 3 rfl (yd 0 rfl rfl rfl) <| Zht 4 rfl (ym rfl) <| Zht 5 rfl (yn rfl) <| Zht 6 rfl (yf 4 rfl) <| Zht 7 rfl (yf 1 rfl) <| Zht 8 rfl (yd 0 rfl rfl rfl) ?_
          refine Zht 9 rfl (ym rfl) <| Zht 10 rfl (yn rfl) <| Zht 11 rfl (yf 4 rfl) <| Zht 12 rfl (yf 2 rfl) <| Zht 13 rfl (yd 0 rfl rfl rfl) <| Zht 14 rfl (ym rfl) <| Zht 15 rfl (yn rfl) <| Zht 16 rfl (yf 4 rfl) <| Zht 17 rfl (yf 3 rfl) <| Zht 18 rfl (yd 0 rfl rfl rfl) ?_
          refine Zh1 19 (by kernel_rfl) <| Zok (c187 bk d a.addr a.width a.value ao.ad) [0] rfl rfl rfl <| Zqh 1 rfl <| Zhn (by kernel_rfl) <| Znx <| Zsr <| Zv (ym rfl) <| Zv (yn rfl) <| Zv (yf 0 rfl) <| Zv (yd 1 rfl rfl rfl) <| Zv (yn rfl) ?_
          refine Zv (yf 39 rfl) <| Ze (es 3 rfl rfl rfl (pt_core 4 rfl rfl) rfl) <| Zw0 <| Znl <| Znx <| Zsr <| Zv (ym rfl) <| Zv (ym rfl) <| Zv (yb l46 rfl) ?_
          refine Zfl [] (res_n (a := none) rfl) rfl ?_
          refine Zfl [4,4,4,0] (cor_fold (c := c.setR none) ok') rfl ?_
          rw [decide_eq_true h31]
          refine Zk (c245 b bc bk k pick w (-1) a ⟨0, true⟩ (c.setR none)) [2,0,3] rfl rfl <| Zq <| Ze (esw 5 (m := 20) rfl rfl rfl rfl rfl (Enc.len ..) (Enc.allL ..)) <| Zw0 <| Znl <| Znx <| Zrt <| Zre (.wh 5 (m := 20) rfl rfl (Enc.len ..) .n) hS [0,0,1,0] 2 rfl rfl rfl rfl
        · rw [show scR c d w pick a = askR c d a true pick from (if_neg (fun h => h a_1)).trans ((if_pos hk1).trans (if_neg (by rw [a_2]; decide)))] at hS
          dsimp only [AcS, askR, failR] at hS
          rw [ask_eq' ao.ad] at hS
          refine Zfx [3] (res_s (b := ba) hr) rfl ?_
          refine Zfx [4,4,4,0] (cor_fold (c := c) ok) rfl ?_
          refine Zpe (hS _ _) [1,1,0,0,1] 1 rfl rfl
      · have hk0 : ¬ keptB c a = true := by rw [hk, decide_eq_false h31]; decide
        rw [show scR c d w pick a = doneR (c.setR none) d w ⟨0, false⟩ (-1) from (if_neg (fun h => h a_1)).trans (if_neg hk0)] at hS
        dsimp only [AcS, doneR] at hS
        refine Zfl [] (res_n (a := none) rfl) rfl ?_
        refine Zfl [2,2,2,0] (cor_fold (c := c.setR none) ok') rfl ?_
        rw [decide_eq_false h31]
        refine Zk (c245 b bc bk k pick w (-1) a ⟨0, false⟩ (c.setR none)) [2,0,3] rfl rfl <| Zq <| Ze (esw 4 (m := 20) rfl rfl rfl rfl rfl (Enc.len ..) (Enc.allL ..)) <| Zw0 <| Znl <| Znx <| Zrt <| Zre (.wh 4 (m := 20) rfl rfl (Enc.len ..) .n) hS [0,0,3,0] 2 rfl rfl rfl rfl
  · rw [show scR c d w pick a = failR c d [] from if_pos a_1] at hS
    dsimp only [AcS, failR] at hS
    refine Zix (fun _ hs => sep_nil (E := msgE) hs) ?_
    refine Zpe (hS none 0) [0,0,0,1,1] 1 rfl rfl
end Go.Proofs.YtpfijldkkfiooaaGreatDoor
namespace Go.Proofs.YtpfijldkkfiooaaGreatDoor
open Go
set_option maxRecDepth 4000
theorem r213 (p q r : Value) : Ct Tryz.prog 213 [p, q, r] .returning .returning [] [] := by
  refine ZenS Tryz.func213 rfl rfl rfl rfl rfl rfl (fun _ _ => rfl) (.inl ⟨rfl, rfl, rfl⟩) fun e X c₀ cs => ?_
  refine Zbl <| Zsr <| Zv (yii Tryz.underlying20 rfl) <| Znl <| Znx <| Zct rfl <| Zrg <| Zv (ya rfl) <| Znl <| Zxn ?_
  refine ZeS [] 0 (fun w' hp => ⟨rfl, rfl, hp⟩) rfl rfl
def didN (id : Int) : Did := ⟨0, id, com0, sto0, 0⟩
theorem p213 (bi bd bm : Nat) (id : Int) (x : Did) (v : Value) (A : Option Addr) (n cap : Nat) : Ct Tryz.prog 213 [.pointer (some ⟨bi, 0, none⟩), .pointer (some ⟨bd, 0, none⟩), .pointer (some ⟨bm, 0, none⟩)] (pa (.iface 333 (.agg #[.slice A n cap])) false) (pa (.iface 333 (.agg #[.slice A n cap])) true) [.blk bi 3 [.int .i64 id], .blk bd 53 (didE.cells x), .blk bm 112 [v]] [.blk bi 3 [.int .i64 id], .blk bd 53 (didE.cells (didN id)), .blk bm 112 [.slice A n cap]] := by
  refine ZenS Tryz.func213 rfl rfl rfl rfl rfl rfl (fun _ _ => rfl) (.inr ⟨rfl, rfl⟩) fun e X c₀ cs => ?_
  refine Zbl <| Zsr <| Zv (yin Tryz.underlying20 rfl) <| Znl <| Znx <| Zcf rfl <| Zsr <| Zv (yta Tryz.underlying333 rfl rfl) <| Zv (yx rfl rfl) <| Zv (yx rfl rfl) ?_
  refine Znl <| Znx <| Zct rfl <| Zsr <| Ze (eal z333) fun b4 => Zw <| Ze (esw 0 (m := 1) rfl rfl rfl rfl rfl rfl rfl) <| Zw0 <| Znl <| Znx ?_
  refine Zhd [2,2] rfl rfl <| Zht 0 rfl (yd 1 rfl rfl rfl) <| Zht 1 rfl (yb l53 rfl) <| Zht 2 rfl (yf 0 rfl) <| Zht 3 rfl (yd 0 rfl rfl rfl) <| Zh1 4 (by kernel_rfl) <| Zoe rfl (esw 0 (m := 20) rfl rfl rfl rfl (Enc.len ..) rfl rfl) <| Zwh0 2 rfl <| Zh1 5 (by kernel_rfl) <| Zoe rfl (es 1 rfl rfl rfl rfl rfl) <| Zwh0 2 rfl <| Zhn (by kernel_rfl) <| Zxn ?_
  refine ZeS [3, 0, 0] 1 (fun w' hp => ⟨rfl, rfl, hp⟩) rfl rfl
def ClS (r : Except (List Msg) Did) (p' : HP) (K : Out) : Prop := match r with
  | .ok did => K (.returned (.agg (didE.arr did))) [.hp p']
  | .error ms => ∀ A cap, K (.panicked (stopC A ms.length cap)) [.hp (own msgE A cap ms), .hp p']
def didOf (id : Int) : Except (List Msg) Did → Did | .ok d => d | .error _ => didN id
def msOf : Except (List Msg) Did → List Msg | .ok _ => [] | .error ms => ms
theorem c180 (f : Nat) (cs : List Value) (p p' : HP) (r : Except (List Msg) Did) (id : Int) (hc : Sp Tryz.prog f cs [.hp p] (ClS r p')) (hok : callOk Tryz.prog f = true) : Sp Tryz.prog 180 [.int .i64 id, .func (.func f) #[] cs.toArray] [.hp p] fun K => ∀ A cap, K (.returned (.tuple #[.agg (didE.arr (didOf id r)), .slice A (msOf r).length cap])) [.hp (own msgE A cap (msOf r)), .hp p'] := by
  refine ZenD Tryz.func180 rfl rfl rfl fun e X Φ hS => ?_
  refine Zsr <| Ze (ebx rfl) fun b2 => Zw <| Ze (eal z53) fun b4 => Zw <| Ze (eal z112) fun b5 => Zw <| Znl <| Znx <| Zsr <| Zv (yfn rfl rfl) <| Zdv rfl rfl <| Znl ?_
  refine Znx <| Zsr <| Zv (ym rfl) ?_
  cases r with
  | ok did =>
    refine Zkv hc [3] rfl rfl rfl rfl <| Zq <| Ze (esw 2 (m := 20) rfl rfl rfl rfl rfl (Enc.len ..) (Enc.allL ..)) <| Zw0 <| Ze (es 1 rfl rfl rfl rfl rfl) <| Zw0 <| Znl <| Znx <| Zrt ?_
    refine Zix (fun _ hs => sep_nil (E := msgE) hs) ?_
    refine ZrD (r213 _ _ _) [] rfl (.wh 3 (m := 20) rfl rfl (Enc.len ..) (.c 2 rfl rfl rfl .n)) (hS none 0) [0,0] 3 rfl rfl rfl
  | error ms =>
    refine Zkv hc [3] rfl rfl rfl rfl <| fun A cap => Zqp <| Zp1 ?_
    refine ZpD (p213 b2 b4 b5 id did0 _ _ _ _) [4,3,2] rfl (.wh 1 (m := 20) rfl rfl (Enc.len ..) (.c 2 rfl rfl rfl .n)) (hS A cap) [3,3] 3 rfl rfl rfl
end Go.Proofs.YtpfijldkkfiooaaGreatDoor
namespace Go.Proofs.YtpfijldkkfiooaaGreatDoor
open Go
set_option maxRecDepth 4000
def kindL : List (Int × Value) := [(5, .func (.func 220) #[] #[]), (4, .func (.func 219) #[] #[]), (3, .func (.func 218) #[] #[]), (6, .func (.func 217) #[] #[]), (2, .func (.func 216) #[] #[]), (1, .func (.func 215) #[] #[]), (0, .func (.func 214) #[] #[])]
theorem c182 : Sp Tryz.prog 182 [] [] fun K => ∀ r, K (.returned (.map (some r))) [mapC .i64 r kindL] := by
  refine Zen Tryz.func182 rfl rfl rfl fun e X Φ hS => Zsr <| Zv (ya rfl) <| Znl <| Znx <| Zsr <| Ze (emk .i64) fun r1 => Zw <| Ze (ein 0 rfl rfl rfl rfl rfl rfl Tryz.underlying298 Tryz.underlying41) <| Zw0 <| Ze (ein 0 rfl rfl rfl rfl rfl rfl Tryz.underlying298 Tryz.underlying41) <| Zw0 <| Ze (ein 0 rfl rfl rfl rfl rfl rfl Tryz.underlying298 Tryz.underlying41) <| Zw0 ?_
  refine Ze (ein 0 rfl rfl rfl rfl rfl rfl Tryz.underlying298 Tryz.underlying41) <| Zw0 <| Ze (ein 0 rfl rfl rfl rfl rfl rfl Tryz.underlying298 Tryz.underlying41) <| Zw0 <| Ze (ein 0 rfl rfl rfl rfl rfl rfl Tryz.underlying298 Tryz.underlying41) <| Zw0 <| Ze (ein 0 rfl rfl rfl rfl rfl rfl Tryz.underlying298 Tryz.underlying41) <| Zw0 <| Zv (ym rfl) <| Zv (ya rfl) <| Znl <| Znx <| Zrt <| Zre (.t rfl .n) (hS _) [0] 0 rfl rfl rfl rfl
def actR (c : Cor) (d : CD) (w pick : Int) (a : Acc) : ARes :=
  if a.kind = 1 then loadR c d w pick a else if a.kind = 2 then storeR c d w a else if a.kind = 3 then lrR c d w pick a
  else if a.kind = 4 then scR c d w pick a else if a.kind = 5 then amoR c d w pick a else if a.kind = 6 then fenceR c d w else doneR c d w ans0 (-1)
def goP (b1 b2 ba bc bk k : Nat) (pick w : Int) (a : Acc) (c : Cor) (d : CD) : HP := Sep (.blk b1 44 (accE.cells a) :: .blk b2 292 [.pointer (some ⟨ba, 0, none⟩)] :: actL ba bc bk k pick w a c d)
theorem go_op {b1 b2 ba bc bk k : Nat} {pick w : Int} {a : Acc} {c : Cor} {d : CD} : Op_ (goP b1 b2 ba bc bk k pick w a c d) fun K => K (.blk b1 44 (accE.cells a) :: .blk b2 292 [.pointer (some ⟨ba, 0, none⟩)] :: actL ba bc bk k pick w a c d) := .mk fun G k h hh => ⟨_, k, hh⟩
theorem go_fold {b1 b2 ba bc bk k : Nat} {pick w : Int} {a : Acc} {c : Cor} {d : CD} : ∀ h, Sep [.blk b1 44 (accE.cells a), .blk b2 292 [.pointer (some ⟨ba, 0, none⟩)], .blk ba 294 (actCs bc bk pick w a), .hp (corC k bc c), .hp (cacC bk d), spC] h → goP b1 b2 ba bc bk k pick w a c d h := fun _ hs => hs
section
variable {b bc bk k f : Nat} {pick w : Int} {a : Acc} {c : Cor} {d : CD} {args : List Value} {L : List Ck}
theorem AcS_ok {did : Did} (h : Sp Tryz.prog f args L (AcS b bc bk k pick w a (c, d, .ok did))) : Sp Tryz.prog f args L fun K => K (.returned (.agg (didE.arr did))) (actL b bc bk k pick w a c d) := h
theorem AcS_er {ms : List Msg} (h : Sp Tryz.prog f args L (AcS b bc bk k pick w a (c, d, .error ms))) : Sp Tryz.prog f args L fun K => ∀ A cap, K (.panicked (stopC A ms.length cap)) (.hp (own msgE A cap ms) :: actL b bc bk k pick w a c d) := h
end
theorem c181 (ga gb ba bc bk k : Nat) (pick w : Int) (a : Acc) (c : Cor) (d : CD) (ao : a.Ok) (hp : -9223372036854775808 ≤ pick ∧ pick ≤ 9223372036854775807) (hk : k ≤ 1000000) : Sp Tryz.prog 181 [.pointer (some ⟨ga, 0, none⟩), .pointer (some ⟨gb, 0, none⟩)] [.hp (goP ga gb ba bc bk k pick w a c d)] (ClS (actR c d w pick a).2.2 (goP ga gb ba bc bk k pick w a (actR c d w pick a).1 (actR c d w pick a).2.1)) := by
  have hkd : a.kind = 0 ∨ a.kind = 1 ∨ a.kind = 2 ∨ a.kind = 3 ∨ a.kind = 4 ∨ a.kind = 5 ∨ a.kind = 6 := by
    have := ao.k0
    have := ao.k1
    omega
  obtain ⟨ak, aa, aw, av, aop, aq, ar⟩ := a
  rcases hkd with h | h | h | h | h | h | h
  · have h : ak = 0 := h
    subst h
    have hc := c214 ba bc bk k pick w ⟨0, aa, aw, av, aop, aq, ar⟩ c
    rw [show actR c d w pick ⟨0, aa, aw, av, aop, aq, ar⟩ = doneR c d w ans0 (-1) from rfl]
    refine Zen Tryz.func181 rfl rfl rfl fun e X Φ hS => Zoc 0 go_op rfl <| ?_
    dsimp only [ClS, doneR] at hS
    refine Zsr <| Ze (eal z53) fun b2 => Zw <| Znl <| Znx <| Zsq ?_
    refine Zhd [0,2,2,3] rfl rfl <| Zht 1 rfl (yf 0 rfl) <| Zht 2 rfl (yd 0 rfl rfl rfl) <| Zht 4 rfl (yd 1 rfl rfl rfl) <| Zh1 0 (by kernel_rfl) <| Zok (c182 ..) [] rfl rfl rfl <| fun r => Zqh 5 rfl <| Zh1 3 (by kernel_rfl) <| Zov rfl (ylk 0 rfl rfl rfl Tryz.underlying298 Tryz.underlying41 zv297) <| Zh1 5 (by kernel_rfl) <| Zokv (c214 ..) [2,2,2] rfl rfl rfl rfl rfl <| Zqh 5 rfl ?_
    refine Zh1 6 (by kernel_rfl) <| Zoe rfl (esw 4 (m := 20) rfl rfl rfl rfl rfl (Enc.len ..) (Enc.allL ..)) <| Zwh0 5 rfl <| Zhn (by kernel_rfl) <| Znx <| Zrt ?_
    refine Zfx [5,5,0,0,3,0] (go_fold) rfl <| Zre (.wh 2 (m := 20) rfl rfl (Enc.len ..) .n) hS [0] 2 rfl rfl rfl rfl
  · have h : ak = 1 := h
    subst h
    have hc := c215 ba bc bk k pick w ⟨1, aa, aw, av, aop, aq, ar⟩ c d ao hp hk
    rw [show actR c d w pick ⟨1, aa, aw, av, aop, aq, ar⟩ = loadR c d w pick ⟨1, aa, aw, av, aop, aq, ar⟩ from rfl]
    generalize loadR c d w pick ⟨1, aa, aw, av, aop, aq, ar⟩ = R at hc ⊢
    obtain ⟨c', d', r⟩ := R
    cases r with
    | ok did =>
      have hc := AcS_ok hc
      refine Zen Tryz.func181 rfl rfl rfl fun e X Φ hS => Zoc 0 go_op rfl <| ?_
      refine Zsr <| Ze (eal z53) fun b2 => Zw <| Znl <| Znx <| Zsq ?_
      refine Zhd [0,2,2,2,2] rfl rfl <| Zht 1 rfl (yf 0 rfl) <| Zht 2 rfl (yd 0 rfl rfl rfl) <| Zht 4 rfl (yd 1 rfl rfl rfl) <| Zh1 0 (by kernel_rfl) <| Zok (c182 ..) [] rfl rfl rfl <| fun r => Zqh 6 rfl <| Zh1 3 (by kernel_rfl) <| Zov rfl (ylk 0 rfl rfl rfl Tryz.underlying298 Tryz.underlying41 zv297) ?_
      refine Zh1 5 (by kernel_rfl) <| Zokv hc [2,2,2,2] rfl rfl rfl rfl rfl <| Zqh 6 rfl <| Zh1 6 (by kernel_rfl) <| Zoe rfl (esw 5 (m := 20) rfl rfl rfl rfl rfl (Enc.len ..) (Enc.allL ..)) <| Zwh0 6 rfl <| Zhn (by kernel_rfl) <| Znx <| Zrt ?_
      refine Zfx [6,6,0,0,0,0] (go_fold) rfl <| Zre (.wh 2 (m := 20) rfl rfl (Enc.len ..) .n) hS [0] 2 rfl rfl rfl rfl
    | error ms =>
      have hc := AcS_er hc
      refine Zen Tryz.func181 rfl rfl rfl fun e X Φ hS => Zoc 0 go_op rfl <| ?_
      refine Zsr <| Ze (eal z53) fun b2 => Zw <| Znl <| Znx <| Zsq ?_
      refine Zhd [0,2,2,2,2] rfl rfl <| Zht 1 rfl (yf 0 rfl) <| Zht 2 rfl (yd 0 rfl rfl rfl) <| Zht 4 rfl (yd 1 rfl rfl rfl) <| Zh1 0 (by kernel_rfl) <| Zok (c182 ..) [] rfl rfl rfl <| fun r => Zqh 6 rfl <| Zh1 3 (by kernel_rfl) <| Zov rfl (ylk 0 rfl rfl rfl Tryz.underlying298 Tryz.underlying41 zv297) ?_
      refine Zh1 5 (by kernel_rfl) <| Zokv hc [2,2,2,2] rfl rfl rfl rfl rfl <| fun A => fun cap => Zqhp <| Zp1 ?_
      refine Zfx [7,7,1,1,1,1] (go_fold) rfl ?_
      refine Zpe (hS _ _) [1,0] 2 rfl rfl
  · have h : ak = 2 := h
    subst h
    have hc := c216 ba bc bk k pick w ⟨2, aa, aw, av, aop, aq, ar⟩ c d ao
    rw [show actR c d w pick ⟨2, aa, aw, av, aop, aq, ar⟩ = storeR c d w ⟨2, aa, aw, av, aop, aq, ar⟩ from rfl]
    generalize storeR c d w ⟨2, aa, aw, av, aop, aq, ar⟩ = R at hc ⊢
    obtain ⟨c', d', r⟩ := R
    cases r with
    | ok did =>
      have hc := AcS_ok hc
      refine Zen Tryz.func181 rfl rfl rfl fun e X Φ hS => Zoc 0 go_op rfl <| ?_
      refine Zsr <| Ze (eal z53) fun b2 => Zw <| Znl <| Znx <| Zsq ?_
      refine Zhd [0,2,2,2,2] rfl rfl <| Zht 1 rfl (yf 0 rfl) <| Zht 2 rfl (yd 0 rfl rfl rfl) <| Zht 4 rfl (yd 1 rfl rfl rfl) <| Zh1 0 (by kernel_rfl) <| Zok (c182 ..) [] rfl rfl rfl <| fun r => Zqh 6 rfl <| Zh1 3 (by kernel_rfl) <| Zov rfl (ylk 0 rfl rfl rfl Tryz.underlying298 Tryz.underlying41 zv297) ?_
      refine Zh1 5 (by kernel_rfl) <| Zokv hc [2,2,2,2] rfl rfl rfl rfl rfl <| Zqh 6 rfl <| Zh1 6 (by kernel_rfl) <| Zoe rfl (esw 5 (m := 20) rfl rfl rfl rfl rfl (Enc.len ..) (Enc.allL ..)) <| Zwh0 6 rfl <| Zhn (by kernel_rfl) <| Znx <| Zrt ?_
      refine Zfx [6,6,0,0,0,0] (go_fold) rfl <| Zre (.wh 2 (m := 20) rfl rfl (Enc.len ..) .n) hS [0] 2 rfl rfl rfl rfl
    | error ms =>
      have hc := AcS_er hc
      refine Zen Tryz.func181 rfl rfl rfl fun e X Φ hS => Zoc 0 go_op rfl <| ?_
      refine Zsr <| Ze (eal z53) fun b2 => Zw <| Znl <| Znx <| Zsq ?_
      refine Zhd [0,2,2,2,2] rfl rfl <| Zht 1 rfl (yf 0 rfl) <| Zht 2 rfl (yd 0 rfl rfl rfl) <| Zht 4 rfl (yd 1 rfl rfl rfl) <| Zh1 0 (by kernel_rfl) <| Zok (c182 ..) [] rfl rfl rfl <| fun r => Zqh 6 rfl <| Zh1 3 (by kernel_rfl) <| Zov rfl (ylk 0 rfl rfl rfl Tryz.underlying298 Tryz.underlying41 zv297) ?_
      refine Zh1 5 (by kernel_rfl) <| Zokv hc [2,2,2,2] rfl rfl rfl rfl rfl <| fun A => fun cap => Zqhp <| Zp1 ?_
      refine Zfx [7,7,1,1,1,1] (go_fold) rfl ?_
      refine Zpe (hS _ _) [1,0] 2 rfl rfl
  · have h : ak = 3 := h
    subst h
    have hc := c218 ba bc bk k pick w ⟨3, aa, aw, av, aop, aq, ar⟩ c d ao hp
    rw [show actR c d w pick ⟨3, aa, aw, av, aop, aq, ar⟩ = lrR c d w pick ⟨3, aa, aw, av, aop, aq, ar⟩ from rfl]
    generalize lrR c d w pick ⟨3, aa, aw, av, aop, aq, ar⟩ = R at hc ⊢
    obtain ⟨c', d', r⟩ := R
    cases r with
    | ok did =>
      have hc := AcS_ok hc
      refine Zen Tryz.func181 rfl rfl rfl fun e X Φ hS => Zoc 0 go_op rfl <| ?_
      refine Zsr <| Ze (eal z53) fun b2 => Zw <| Znl <| Znx <| Zsq ?_
      refine Zhd [0,2,2,2,2] rfl rfl <| Zht 1 rfl (yf 0 rfl) <| Zht 2 rfl (yd 0 rfl rfl rfl) <| Zht 4 rfl (yd 1 rfl rfl rfl) <| Zh1 0 (by kernel_rfl) <| Zok (c182 ..) [] rfl rfl rfl <| fun r => Zqh 6 rfl <| Zh1 3 (by kernel_rfl) <| Zov rfl (ylk 0 rfl rfl rfl Tryz.underlying298 Tryz.underlying41 zv297) ?_
      refine Zh1 5 (by kernel_rfl) <| Zokv hc [2,2,2,2] rfl rfl rfl rfl rfl <| Zqh 6 rfl <| Zh1 6 (by kernel_rfl) <| Zoe rfl (esw 5 (m := 20) rfl rfl rfl rfl rfl (Enc.len ..) (Enc.allL ..)) <| Zwh0 6 rfl <| Zhn (by kernel_rfl) <| Znx <| Zrt ?_
      refine Zfx [6,6,0,0,0,0] (go_fold) rfl <| Zre (.wh 2 (m := 20) rfl rfl (Enc.len ..) .n) hS [0] 2 rfl rfl rfl rfl
    | error ms =>
      have hc := AcS_er hc
      refine Zen Tryz.func181 rfl rfl rfl fun e X Φ hS => Zoc 0 go_op rfl <| ?_
      refine Zsr <| Ze (eal z53) fun b2 => Zw <| Znl <| Znx <| Zsq ?_
      refine Zhd [0,2,2,2,2] rfl rfl <| Zht 1 rfl (yf 0 rfl) <| Zht 2 rfl (yd 0 rfl rfl rfl) <| Zht 4 rfl (yd 1 rfl rfl rfl) <| Zh1 0 (by kernel_rfl) <| Zok (c182 ..) [] rfl rfl rfl <| fun r => Zqh 6 rfl <| Zh1 3 (by kernel_rfl) <| Zov rfl (ylk 0 rfl rfl rfl Tryz.underlying298 Tryz.underlying41 zv297) ?_
      refine Zh1 5 (by kernel_rfl) <| Zokv hc [2,2,2,2] rfl rfl rfl rfl rfl <| fun A => fun cap => Zqhp <| Zp1 ?_
      refine Zfx [7,7,1,1,1,1] (go_fold) rfl ?_
      refine Zpe (hS _ _) [1,0] 2 rfl rfl
  · have h : ak = 4 := h
    subst h
    have hc := c219 ba bc bk k pick w ⟨4, aa, aw, av, aop, aq, ar⟩ c d ao hp
    rw [show actR c d w pick ⟨4, aa, aw, av, aop, aq, ar⟩ = scR c d w pick ⟨4, aa, aw, av, aop, aq, ar⟩ from rfl]
    generalize scR c d w pick ⟨4, aa, aw, av, aop, aq, ar⟩ = R at hc ⊢
    obtain ⟨c', d', r⟩ := R
    cases r with
    | ok did =>
      have hc := AcS_ok hc
      refine Zen Tryz.func181 rfl rfl rfl fun e X Φ hS => Zoc 0 go_op rfl <| ?_
      refine Zsr <| Ze (eal z53) fun b2 => Zw <| Znl <| Znx <| Zsq ?_
      refine Zhd [0,2,2,2,2] rfl rfl <| Zht 1 rfl (yf 0 rfl) <| Zht 2 rfl (yd 0 rfl rfl rfl) <| Zht 4 rfl (yd 1 rfl rfl rfl) <| Zh1 0 (by kernel_rfl) <| Zok (c182 ..) [] rfl rfl rfl <| fun r => Zqh 6 rfl <| Zh1 3 (by kernel_rfl) <| Zov rfl (ylk 0 rfl rfl rfl Tryz.underlying298 Tryz.underlying41 zv297) ?_
      refine Zh1 5 (by kernel_rfl) <| Zokv hc [2,2,2,2] rfl rfl rfl rfl rfl <| Zqh 6 rfl <| Zh1 6 (by kernel_rfl) <| Zoe rfl (esw 5 (m := 20) rfl rfl rfl rfl rfl (Enc.len ..) (Enc.allL ..)) <| Zwh0 6 rfl <| Zhn (by kernel_rfl) <| Znx <| Zrt ?_
      refine Zfx [6,6,0,0,0,0] (go_fold) rfl <| Zre (.wh 2 (m := 20) rfl rfl (Enc.len ..) .n) hS [0] 2 rfl rfl rfl rfl
    | error ms =>
      have hc := AcS_er hc
      refine Zen Tryz.func181 rfl rfl rfl fun e X Φ hS => Zoc 0 go_op rfl <| ?_
      refine Zsr <| Ze (eal z53) fun b2 => Zw <| Znl <| Znx <| Zsq ?_
      refine Zhd [0,2,2,2,2] rfl rfl <| Zht 1 rfl (yf 0 rfl) <| Zht 2 rfl (yd 0 rfl rfl rfl) <| Zht 4 rfl (yd 1 rfl rfl rfl) <| Zh1 0 (by kernel_rfl) <| Zok (c182 ..) [] rfl rfl rfl <| fun r => Zqh 6 rfl <| Zh1 3 (by kernel_rfl) <| Zov rfl (ylk 0 rfl rfl rfl Tryz.underlying298 Tryz.underlying41 zv297) ?_
      refine Zh1 5 (by kernel_rfl) <| Zokv hc [2,2,2,2] rfl rfl rfl rfl rfl <| fun A => fun cap => Zqhp <| Zp1 ?_
      refine Zfx [7,7,1,1,1,1] (go_fold) rfl ?_
      refine Zpe (hS _ _) [1,0] 2 rfl rfl
  · have h : ak = 5 := h
    subst h
    have hc := c220 ba bc bk k pick w ⟨5, aa, aw, av, aop, aq, ar⟩ c d ao hp
    rw [show actR c d w pick ⟨5, aa, aw, av, aop, aq, ar⟩ = amoR c d w pick ⟨5, aa, aw, av, aop, aq, ar⟩ from rfl]
    generalize amoR c d w pick ⟨5, aa, aw, av, aop, aq, ar⟩ = R at hc ⊢
    obtain ⟨c', d', r⟩ := R
    cases r with
    | ok did =>
      have hc := AcS_ok hc
      refine Zen Tryz.func181 rfl rfl rfl fun e X Φ hS => Zoc 0 go_op rfl <| ?_
      refine Zsr <| Ze (eal z53) fun b2 => Zw <| Znl <| Znx <| Zsq ?_
      refine Zhd [0,2,2,2,2] rfl rfl <| Zht 1 rfl (yf 0 rfl) <| Zht 2 rfl (yd 0 rfl rfl rfl) <| Zht 4 rfl (yd 1 rfl rfl rfl) <| Zh1 0 (by kernel_rfl) <| Zok (c182 ..) [] rfl rfl rfl <| fun r => Zqh 6 rfl <| Zh1 3 (by kernel_rfl) <| Zov rfl (ylk 0 rfl rfl rfl Tryz.underlying298 Tryz.underlying41 zv297) ?_
      refine Zh1 5 (by kernel_rfl) <| Zokv hc [2,2,2,2] rfl rfl rfl rfl rfl <| Zqh 6 rfl <| Zh1 6 (by kernel_rfl) <| Zoe rfl (esw 5 (m := 20) rfl rfl rfl rfl rfl (Enc.len ..) (Enc.allL ..)) <| Zwh0 6 rfl <| Zhn (by kernel_rfl) <| Znx <| Zrt ?_
      refine Zfx [6,6,0,0,0,0] (go_fold) rfl <| Zre (.wh 2 (m := 20) rfl rfl (Enc.len ..) .n) hS [0] 2 rfl rfl rfl rfl
    | error ms =>
      have hc := AcS_er hc
      refine Zen Tryz.func181 rfl rfl rfl fun e X Φ hS => Zoc 0 go_op rfl <| ?_
      refine Zsr <| Ze (eal z53) fun b2 => Zw <| Znl <| Znx <| Zsq ?_
      refine Zhd [0,2,2,2,2] rfl rfl <| Zht 1 rfl (yf 0 rfl) <| Zht 2 rfl (yd 0 rfl rfl rfl) <| Zht 4 rfl (yd 1 rfl rfl rfl) <| Zh1 0 (by kernel_rfl) <| Zok (c182 ..) [] rfl rfl rfl <| fun r => Zqh 6 rfl <| Zh1 3 (by kernel_rfl) <| Zov rfl (ylk 0 rfl rfl rfl Tryz.underlying298 Tryz.underlying41 zv297) ?_
      refine Zh1 5 (by kernel_rfl) <| Zokv hc [2,2,2,2] rfl rfl rfl rfl rfl <| fun A => fun cap => Zqhp <| Zp1 ?_
      refine Zfx [7,7,1,1,1,1] (go_fold) rfl ?_
      refine Zpe (hS _ _) [1,0] 2 rfl rfl
  · have h : ak = 6 := h
    subst h
    have hc := c217 ba bc bk k pick w ⟨6, aa, aw, av, aop, aq, ar⟩ c d
    rw [show actR c d w pick ⟨6, aa, aw, av, aop, aq, ar⟩ = fenceR c d w from rfl]
    generalize fenceR c d w = R at hc ⊢
    obtain ⟨c', d', r⟩ := R
    cases r with
    | ok did =>
      have hc := AcS_ok hc
      refine Zen Tryz.func181 rfl rfl rfl fun e X Φ hS => Zoc 0 go_op rfl <| ?_
      refine Zsr <| Ze (eal z53) fun b2 => Zw <| Znl <| Znx <| Zsq ?_
      refine Zhd [0,2,2,2,2] rfl rfl <| Zht 1 rfl (yf 0 rfl) <| Zht 2 rfl (yd 0 rfl rfl rfl) <| Zht 4 rfl (yd 1 rfl rfl rfl) <| Zh1 0 (by kernel_rfl) <| Zok (c182 ..) [] rfl rfl rfl <| fun r => Zqh 6 rfl <| Zh1 3 (by kernel_rfl) <| Zov rfl (ylk 0 rfl rfl rfl Tryz.underlying298 Tryz.underlying41 zv297) ?_
      refine Zh1 5 (by kernel_rfl) <| Zokv hc [2,2,2,2] rfl rfl rfl rfl rfl <| Zqh 6 rfl <| Zh1 6 (by kernel_rfl) <| Zoe rfl (esw 5 (m := 20) rfl rfl rfl rfl rfl (Enc.len ..) (Enc.allL ..)) <| Zwh0 6 rfl <| Zhn (by kernel_rfl) <| Znx <| Zrt ?_
      refine Zfx [6,6,0,0,0,0] (go_fold) rfl <| Zre (.wh 2 (m := 20) rfl rfl (Enc.len ..) .n) hS [0] 2 rfl rfl rfl rfl
    | error ms =>
      have hc := AcS_er hc
      refine Zen Tryz.func181 rfl rfl rfl fun e X Φ hS => Zoc 0 go_op rfl <| ?_
      refine Zsr <| Ze (eal z53) fun b2 => Zw <| Znl <| Znx <| Zsq ?_
      refine Zhd [0,2,2,2,2] rfl rfl <| Zht 1 rfl (yf 0 rfl) <| Zht 2 rfl (yd 0 rfl rfl rfl) <| Zht 4 rfl (yd 1 rfl rfl rfl) <| Zh1 0 (by kernel_rfl) <| Zok (c182 ..) [] rfl rfl rfl <| fun r => Zqh 6 rfl <| Zh1 3 (by kernel_rfl) <| Zov rfl (ylk 0 rfl rfl rfl Tryz.underlying298 Tryz.underlying41 zv297) ?_
      refine Zh1 5 (by kernel_rfl) <| Zokv hc [2,2,2,2] rfl rfl rfl rfl rfl <| fun A => fun cap => Zqhp <| Zp1 ?_
      refine Zfx [7,7,1,1,1,1] (go_fold) rfl ?_
      refine Zpe (hS _ _) [1,0] 2 rfl rfl
end Go.Proofs.YtpfijldkkfiooaaGreatDoor
namespace Go.Proofs.YtpfijldkkfiooaaGreatDoor
open Go
set_option maxRecDepth 4000
def drP (b0 b1 b2 ba bc bk k : Nat) (pick : Int) (c : Cor) (d : CD) : HP := Sep [.blk b0 74 [.pointer (some ⟨bc, 0, none⟩)], .blk b1 80 [.pointer (some ⟨bk, 0, none⟩)], .blk b2 292 [.pointer (some ⟨ba, 0, none⟩)], .blk ba 294 (actCs bc bk pick 0 acc0), .hp (corC k bc c), .hp (cacC bk d)]
theorem dr_op {b0 b1 b2 ba bc bk k : Nat} {pick : Int} {c : Cor} {d : CD} : Op_ (drP b0 b1 b2 ba bc bk k pick c d) fun K => K [.blk b0 74 [.pointer (some ⟨bc, 0, none⟩)], .blk b1 80 [.pointer (some ⟨bk, 0, none⟩)], .blk b2 292 [.pointer (some ⟨ba, 0, none⟩)], .blk ba 294 (actCs bc bk pick 0 acc0), .hp (corC k bc c), .hp (cacC bk d)] := .mk fun G k h hh => ⟨_, k, hh⟩
theorem dr_fold {b0 b1 b2 ba bc bk k : Nat} {pick : Int} {c : Cor} {d : CD} : ∀ h, Sep [.blk b0 74 [.pointer (some ⟨bc, 0, none⟩)], .blk b1 80 [.pointer (some ⟨bk, 0, none⟩)], .blk b2 292 [.pointer (some ⟨ba, 0, none⟩)], .blk ba 294 (actCs bc bk pick 0 acc0), .hp (corC k bc c), .hp (cacC bk d)] h → drP b0 b1 b2 ba bc bk k pick c d h := fun _ hs => hs
def drainR (c : Cor) (d : CD) (pick : Int) : ARes :=
  if hdB c.B = false then failR c d []
  else if (writeF d (hdS c.B).addr (hdS c.B).width (hdS c.B).value).2 ≠ 0 then
    failR c (askA (writeF d (hdS c.B).addr (hdS c.B).width (hdS c.B).value).1 ⟨0, (hdS c.B).addr, 0, 0, 0, false, false⟩ true pick).1 (askA (writeF d (hdS c.B).addr (hdS c.B).width (hdS c.B).value).1 ⟨0, (hdS c.B).addr, 0, 0, 0, false, false⟩ true pick).2.1
  else ((c.setB c.B.tail).setF (c.first + 1), (writeF d (hdS c.B).addr (hdS c.B).width (hdS c.B).value).1, .ok ⟨2, c.h.id, com0, hdS c.B, c.first⟩)
theorem hd_u {l : List Sto} (h : ∀ s ∈ l, s.In) : U32 (hdS l).addr := by
  cases l with
  | nil => exact ⟨by decide, by decide⟩
  | cons s r => exact (h s (.head _)).ad
theorem c184 (b0 b1 b2 ba bc bk k : Nat) (pick : Int) (c : Cor) (d : CD) (hp : -9223372036854775808 ≤ pick ∧ pick ≤ 9223372036854775807) (hk : k ≤ 1000000) : Sp Tryz.prog 184 [.pointer (some ⟨b0, 0, none⟩), .pointer (some ⟨b1, 0, none⟩), .pointer (some ⟨b2, 0, none⟩)] [.hp (drP b0 b1 b2 ba bc bk k pick c d)] (ClS (drainR c d pick).2.2 (drP b0 b1 b2 ba bc bk (k + 1) pick (drainR c d pick).1 (drainR c d pick).2.1)) := by
  refine Zen Tryz.func184 rfl rfl rfl fun e X Φ hS => Zoc 0 dr_op rfl <| Zoc 4 cor_op rfl <| fun ok A cap bb pr hpr => Zoc 2 buf_le rfl <| fun h4 hal => ?_
  have hu := hd_u hal
  have hf0 := ok.f0
  have hf1 := ok.f1
  refine Zsr <| Ze (eal z53) fun b3 => Zw <| Znl <| Znx <| Zsr <| Zv (yd 5 rfl rfl rfl) <| Zv (yn rfl) <| Zv (yf 37 rfl) <| Zv (yd 2 rfl rfl (nt_core 2 rfl rfl)) <| Zk (c185 ..) [1] rfl rfl ?_
  refine Zq <| Zv (ym rfl) <| Zv (yx rfl rfl) <| Zv (yx rfl rfl) <| Ze (eal z51) fun b4 => Zw <| Ze (esw 0 (m := 3) rfl rfl rfl rfl rfl (Enc.len ..) (Enc.allL ..)) <| Zw0 <| Zv (ya rfl) <| Znl <| Znx <| Zsr ?_
  refine Zv (ym rfl) <| Zk (c186 ..) [] rfl rfl <| ⟨?_, ?_⟩
  refine fun a => Zq <| Znl <| Znx <| Zsq <| Zsr <| Zv (yd 7 rfl rfl rfl) <| Zv (yf 0 rfl) <| Zv (yd 0 rfl rfl rfl) <| Zv (yf 1 rfl) ?_
  refine Zv (yd 0 rfl rfl rfl) <| Zv (yf 2 rfl) <| Zv (yd 0 rfl rfl rfl) ?_
  rotate_left
  refine fun a => Zqp <| Zp1 ?_
  rotate_left
  · refine Zk (c187 bk d (hdS c.B).addr (hdS c.B).width (hdS c.B).value hu) [10] rfl rfl <| Zq <| Zv (yne rfl rfl) <| Znl <| Znx <| Zif rfl (fun h24 => ?_) (fun h24 => ?_)
    refine Zrg <| Zv (yd 9 rfl rfl rfl) <| Zv (yf 0 rfl) <| Zv (yd 1 rfl rfl rfl) <| Zv (yquo rfl rfl (by decide) rfl) ?_
    rotate_left
    refine Zsk <| Znx <| Zsr <| Zv (yd 7 rfl rfl rfl) <| Zv (yn rfl) <| Zv (yf 37 rfl) <| Zv (yd 4 rfl rfl (nt_core 2 rfl rfl)) <| Zk (c189 ..) [2] rfl rfl <| Zq <| Znl ?_
    refine Znx <| Zsr <| Zv (yd 7 rfl rfl rfl) <| Zv (yn rfl) <| Zv (yf 38 rfl) <| Zv (yd 4 rfl rfl (nt_core 3 rfl rfl)) <| Zv (yadd rfl rfl (i64w rfl (by omega))) <| Zv (yn rfl) <| Zv (yf 38 rfl) <| Ze (es 4 rfl rfl rfl (pt_core 3 rfl rfl) rfl) <| Zw0 ?_
    refine Znl <| Znx <| Zsq <| Zhe 13 rfl <| Zht 0 rfl (yd 7 rfl rfl rfl) <| Zht 1 rfl (yn rfl) <| Zht 2 rfl (yf 0 rfl) <| Zht 3 rfl (yf 0 rfl) <| Zht 4 rfl (yf 0 rfl) <| Zht 5 rfl (yd 4 rfl rfl rfl) ?_
    refine Zht 6 rfl (ydw 2 (m := 3) rfl rfl (Enc.len ..)) <| Zht 7 rfl (yd 7 rfl rfl rfl) <| Zht 8 rfl (yn rfl) <| Zht 9 rfl (yf 38 rfl) <| Zht 10 rfl (yd 4 rfl rfl (nt_core 3 rfl rfl)) <| Zht 11 rfl (ysub rfl rfl (i64w rfl (by omega))) <| Zht 12 rfl (yb l53 rfl) <| Zhn (by kernel_rfl) <| Ztl rfl <| Zte (esw 3 (m := 20) rfl rfl rfl rfl rfl rfl rfl) <| Ztw ?_
    refine Ztn <| Znx <| Zrt ?_
    rotate_left
    · rw [(u32_q hu).1]
      refine Zk (c188 ba bc bk pick 0 ((hdS c.B).addr / 16) true acc0 (writeF d (hdS c.B).addr (hdS c.B).width (hdS c.B).value).1 (u32_q hu).2 hp) [10,0] rfl rfl <| fun A_1 => fun cap_1 => Zqp <| Zp1 ?_
      have hq : askA (writeF d (hdS c.B).addr (hdS c.B).width (hdS c.B).value).1 ⟨0, (hdS c.B).addr, 0, 0, 0, false, false⟩ true pick = askF (writeF d (hdS c.B).addr (hdS c.B).width (hdS c.B).value).1 ((hdS c.B).addr / 16) (u32_q hu).2 true pick := dif_pos hu
      rw [show drainR c d pick = failR c (askA (writeF d (hdS c.B).addr (hdS c.B).width (hdS c.B).value).1 ⟨0, (hdS c.B).addr, 0, 0, 0, false, false⟩ true pick).1 (askA (writeF d (hdS c.B).addr (hdS c.B).width (hdS c.B).value).1 ⟨0, (hdS c.B).addr, 0, 0, 0, false, false⟩ true pick).2.1 from (if_neg (by rw [a]; decide)).trans (if_pos h24), hq] at hS
      dsimp only [ClS, failR] at hS
      refine Zfx [6,6,4,5] (cor_fold (k := k + 1) (c := c) (ok.mono (Nat.le_succ k))) rfl ?_
      refine Zfx [6,6,6,2,0,1] (dr_fold (c := c)) rfl ?_
      refine Zpe (hS _ _) [1,0] 2 rfl rfl
    · have ok' : ((c.setB c.B.tail).setF (c.first + 1)).Ok (k + 1) := ⟨ok.h, ok.cu, ok.cl, ok.s0, ok.s1, by show 0 ≤ c.first + 1; omega, by show c.first + 1 ≤ ((k + 1 : Nat) : Int); omega, ok.res⟩
      rw [show c.first + 1 - 1 = c.first by omega]
      rw [show drainR c d pick = ((c.setB c.B.tail).setF (c.first + 1), (writeF d (hdS c.B).addr (hdS c.B).width (hdS c.B).value).1, .ok ⟨2, c.h.id, com0, hdS c.B, c.first⟩) from (if_neg (by rw [a]; decide)).trans (if_neg h24)] at hS
      dsimp only [ClS] at hS
      refine Zfx [4,4,0,3] (cor_fold (k := k + 1) (c := (c.setB c.B.tail).setF (c.first + 1)) ok') rfl ?_
      refine Zfx [4,4,4,4,0,0] (dr_fold (c := (c.setB c.B.tail).setF (c.first + 1))) rfl <| Zre (.wh 2 (m := 20) rfl rfl rfl .n) hS [0] 2 rfl rfl rfl rfl
  · rw [show drainR c d pick = failR c d [] from if_pos a] at hS
    dsimp only [ClS, failR] at hS
    refine Zfx [3,3,1,2] (cor_fold (k := k + 1) (c := c) (ok.mono (Nat.le_succ k))) rfl ?_
    refine Zfx [3,3,3,3,0,2] (dr_fold (c := c)) rfl ?_
    refine Zix (fun _ hs => sep_nil (E := msgE) hs) ?_
    refine Zpe (hS none 0) [0,0] 2 rfl rfl
end Go.Proofs.YtpfijldkkfiooaaGreatDoor
namespace Go.Proofs.YtpfijldkkfiooaaGreatDoor
open Go
set_option maxRecDepth 4000
theorem c140 (bc bk k : Nat) (pick : Int) (c : Cor) (d : CD) (hp : -9223372036854775808 ≤ pick ∧ pick ≤ 9223372036854775807) (hk : k ≤ 1000000) : Sp Tryz.prog 140 [.pointer (some ⟨bc, 0, none⟩), .pointer (some ⟨bk, 0, none⟩), .int .i64 pick] [.hp (corC k bc c), .hp (cacC bk d)] fun K => ∀ A cap, K (.returned (.tuple #[.agg (didE.arr (didOf c.h.id (drainR c d pick).2.2)), .slice A (msOf (drainR c d pick).2.2).length cap, .int .i64 0])) [.hp (own msgE A cap (msOf (drainR c d pick).2.2)), .hp (corC (k + 1) bc (drainR c d pick).1), .hp (cacC bk (drainR c d pick).2.1)] := by
  refine Zen Tryz.func140 rfl rfl rfl fun e X Φ hS => ?_
  refine Zsr <| Ze (ebx rfl) fun b3 => Zw <| Ze (ebx rfl) fun b4 => Zw <| Ze (eal z53) fun b6 => Zw <| Zv (ya rfl) <| Zv (ya rfl) <| Znl <| Znx <| Zsq <| Zsr ?_
  refine Zv (yd 2 rfl rfl rfl) <| Zk (c53 ..) [3] rfl rfl <| Zq <| Zv (ym rfl) <| Zg rfl rfl <| Zv (yd 2 rfl rfl rfl) <| Zg rfl rfl <| Zk (c42 ..) [4] rfl rfl <| fun b' => Zq ?_
  refine Zg rfl rfl <| Zv (ypeq rfl rfl rfl) <| Zv (ypf rfl rfl) <| Znl <| Znx <| Zcf rfl <| Zsk <| Znx <| Zsr <| Zv (yd 5 rfl rfl rfl) ?_
  refine Zv (yd 4 rfl rfl rfl) <| Zv (ym rfl) <| Zv (yb l294 rfl) <| Ze (ebx rfl) fun b24 => Zw <| Ze (eal z292) fun b9 => Zw <| Ze (es 0 rfl rfl rfl rfl rfl) <| Zw0 <| Znl <| Znx <| Zsr <| Zv (yd 7 rfl rfl rfl) ?_
  refine Zv (yn rfl) <| Zv (yf 0 rfl) <| Zv (yf 0 rfl) <| Zv (yf 0 rfl) ?_
  refine Zol 4 cor_op rfl <| fun ok A cap bb pr hpr => Zv (yd 0 rfl rfl rfl) <| Zv (yfn rfl rfl) ?_
  refine Zfl [0,0,0,0] (cor_fold (c := c) ok) rfl ?_
  refine Zfl [7,6,1,1,0,1] (dr_fold (b0 := b3) (b1 := b4) (b2 := b9) (ba := b24) (bc := bc) (bk := bk) (k := k) (pick := pick) (c := c) (d := d)) rfl ?_
  refine Zk (c180 184 [.pointer (some ⟨b3, 0, none⟩), .pointer (some ⟨b4, 0, none⟩), .pointer (some ⟨b9, 0, none⟩)] (drP b3 b4 b9 b24 bc bk k pick c d) (drP b3 b4 b9 b24 bc bk (k + 1) pick (drainR c d pick).1 (drainR c d pick).2.1) (drainR c d pick).2.2 c.h.id (c184 b3 b4 b9 b24 bc bk k pick c d hp hk) (by kernel_rfl)) [0] rfl rfl <| fun A_1 => fun cap_1 => Zq <| Zv (ym rfl) <| Zv (yx rfl rfl) <| Zv (yx rfl rfl) <| Ze (eal z53) fun b10 => Zw <| Ze (esw 0 (m := 20) rfl rfl rfl rfl rfl (Enc.len ..) (Enc.allL ..)) <| Zw0 <| Zv (ya rfl) ?_
  refine Znl <| Znx <| Zsr <| Zv (ydw 0 (m := 20) rfl rfl (Enc.len ..)) <| Zv (ym rfl) <| Ze (esw 4 (m := 20) rfl rfl rfl rfl rfl (Enc.len ..) (Enc.allL ..)) <| Zw0 <| Zv (ya rfl) <| Zv (ya rfl) <| Znl <| Znx ?_
  refine Zrt ?_
  refine Zox 2 dr_op rfl <| Zre (.wh 9 (m := 20) rfl rfl (Enc.len ..) (.t rfl (.t rfl .n))) (hS _ _) [7,4,4] 7 rfl rfl rfl rfl
def goF (c : Cor) (d : CD) (pick : Int) : Cor × CD × Did × List Msg :=
  if c.h.cause ≠ 0 then (c, d, didN c.h.id, [])
  else if (fetF c.code c.h.pc).2 = false then (c.setH (c.h.setCause 4), d, ⟨1, c.h.id, ⟨c.h.pc, 0, acc0, ans0, 0, 0, 4⟩, sto0, -1⟩, [])
  else ((actR c d (fetF c.code c.h.pc).1 pick (actF c.h (fetF c.code c.h.pc).1 c.size).1).1, (actR c d (fetF c.code c.h.pc).1 pick (actF c.h (fetF c.code c.h.pc).1 c.size).1).2.1,
    didOf c.h.id (actR c d (fetF c.code c.h.pc).1 pick (actF c.h (fetF c.code c.h.pc).1 c.size).1).2.2, msOf (actR c d (fetF c.code c.h.pc).1 pick (actF c.h (fetF c.code c.h.pc).1 c.size).1).2.2)
theorem c138 (bc bk k : Nat) (pick : Int) (c : Cor) (d : CD) (hp : -9223372036854775808 ≤ pick ∧ pick ≤ 9223372036854775807) (hk : k ≤ 1000000) : Sp Tryz.prog 138 [.pointer (some ⟨bc, 0, none⟩), .pointer (some ⟨bk, 0, none⟩), .int .i64 pick] [.hp (corC k bc c), .hp (cacC bk d), spC] fun K => ∀ A cap, K (.returned (.tuple #[.agg (didE.arr (goF c d pick).2.2.1), .slice A (goF c d pick).2.2.2.length cap, .int .i64 0])) [.hp (own msgE A cap (goF c d pick).2.2.2), .hp (corC k bc (goF c d pick).1), .hp (cacC bk (goF c d pick).2.1), spC] := by
  refine Zen Tryz.func138 rfl rfl rfl fun e X Φ hS => ?_
  refine Zsr <| Ze (eal z53) fun b6 => Zw <| Zv (ya rfl) <| Zv (ya rfl) <| Znl <| Znx <| Zsq <| Zsr <| Zv (ym rfl) <| Zk (c53 ..) [1] rfl rfl ?_
  refine Zq <| Zv (ym rfl) <| Zg rfl rfl <| Zv (ym rfl) <| Zg rfl rfl <| Zk (c42 ..) [2] rfl rfl <| fun b' => Zq <| Zg rfl rfl <| Zv (ypeq rfl rfl rfl) ?_
  refine Zv (ypf rfl rfl) <| Znl <| Znx <| Zcf rfl <| Zsk <| Znx <| Zsq <| Zsr <| Zv (ym rfl) <| Zv (yn rfl) ?_
  refine Zv (yf 0 rfl) <| Zv (yf 0 rfl) <| Zv (yf 34 rfl) ?_
  refine Zol 2 cor_op rfl <| fun ok A cap bb pr hpr => Zv (yd 0 rfl rfl (nt_cca _ _)) <| Zv (yne rfl rfl) <| Znl <| Znx <| Zif rfl (fun h31 => ?_) (fun h31 => ?_)
  refine Zsr <| Zv (ym rfl) <| Zv (yn rfl) <| Zv (yf 0 rfl) <| Zv (yf 0 rfl) <| Zv (yf 0 rfl) <| Zv (yd 0 rfl rfl rfl) <| Zv (yb l53 rfl) <| Ze (esw 6 (m := 20) rfl rfl rfl rfl rfl rfl rfl) <| Zw0 <| Zv (ya rfl) ?_
  refine Zv (ya rfl) <| Znl <| Znx <| Zrt <| Zr1 ?_
  rotate_left
  refine Zsk <| Znx <| Zsq ?_
  rotate_left
  · rw [show goF c d pick = (c, d, didN c.h.id, []) from if_pos h31] at hS
    refine Zfx [0,0,0,0] (cor_fold (c := c) ok) rfl ?_
    refine Zix (fun _ hs => sep_nil (E := msgE) hs) <| Zre (.wh 4 (m := 20) rfl rfl rfl (.t rfl (.t rfl .n))) (hS _ _) [0,0,1,2] 2 rfl rfl rfl rfl
  · have hpc := ok.h.pc
    have hcl := ok.cl
    refine Zhd [1] rfl rfl <| Zht 0 rfl (ym rfl) <| Zht 1 rfl (yn rfl) <| Zht 2 rfl (yf 0 rfl) <| Zht 3 rfl (yf 35 rfl) <| Zht 4 rfl (yd 0 rfl rfl (nt_core 0 rfl rfl)) <| Zht 5 rfl (ym rfl) <| Zht 6 rfl (yn rfl) <| Zht 7 rfl (yf 0 rfl) <| Zht 8 rfl (yf 0 rfl) ?_
    refine Zht 9 rfl (yf 1 rfl) <| Zht 10 rfl (yd 0 rfl rfl rfl) ?_
    refine Zh1 11 (by kernel_rfl) <| Zok (c127 _ A cap c.code c.h.pc own.rd hpc (by omega)) [0] rfl rfl rfl <| Zqh 1 rfl <| Zht 12 rfl (ym rfl) <| Zht 13 rfl (yx rfl rfl) <| Zht 14 rfl (yx rfl rfl) <| Zht 15 rfl (ya rfl) <| Zht 16 rfl (ya rfl) <| Zhn (by kernel_rfl) <| Znx <| Zsq ?_
    refine Zsr <| Zv (ym rfl) <| Zv (ynot rfl) <| Znl <| Znx <| Zib rfl (fun h55 => ?_) (fun h55 => ?_)
    refine Zsr <| Zv (ym rfl) <| Zv (yn rfl) <| Zv (yf 0 rfl) <| Zv (yf 0 rfl) <| Zv (yf 34 rfl) <| Ze (es 1 rfl rfl rfl (pt_cca _ _ _) rfl) <| Zw0 <| Znl <| Znx <| Zsq ?_
    refine Zhe 14 rfl <| Zht 0 rfl (ym rfl) <| Zht 1 rfl (yn rfl) <| Zht 2 rfl (yf 0 rfl) <| Zht 3 rfl (yf 0 rfl) <| Zht 4 rfl (yf 0 rfl) <| Zht 5 rfl (yd 1 rfl rfl rfl) <| Zht 6 rfl (ym rfl) <| Zht 7 rfl (yn rfl) <| Zht 8 rfl (yf 0 rfl) ?_
    refine Zht 9 rfl (yf 0 rfl) <| Zht 10 rfl (yf 1 rfl) <| Zht 11 rfl (yd 1 rfl rfl rfl) <| Zht 12 rfl (yb l49 rfl) <| Zht 13 rfl (yb l53 rfl) <| Zhn (by kernel_rfl) <| Ztl rfl <| Zte (esw 6 (m := 20) rfl rfl rfl rfl rfl rfl rfl) <| Ztw <| Ztv (ya rfl) <| Ztv (ya rfl) ?_
    refine Ztn <| Znx <| Zrt <| Zr1 ?_
    rotate_left
    refine Zsk <| Znx <| Zsq ?_
    rotate_left
    · have hf : (fetF c.code c.h.pc).2 = false := by simpa using h55
      have ok' : (c.setH (c.h.setCause 4)).Ok k := ⟨ok.h.setCause (by decide) (by decide), ok.cu, ok.cl, ok.s0, ok.s1, ok.f0, ok.f1, ok.res⟩
      rw [show goF c d pick = (c.setH (c.h.setCause 4), d, ⟨1, c.h.id, ⟨c.h.pc, 0, acc0, ans0, 0, 0, 4⟩, sto0, -1⟩, []) from (if_neg h31).trans (if_pos hf)] at hS
      dsimp only at hS
      refine Zfx [1,0,0,0] (cor_fold (c := c.setH (c.h.setCause 4)) ok') rfl ?_
      refine Zix (fun _ hs => sep_nil (E := msgE) hs) <| Zre (.wh 4 (m := 20) rfl rfl rfl (.t rfl (.t rfl .n))) (hS _ _) [0,0,1,2] 2 rfl rfl rfl rfl
    · have hf : ¬ (fetF c.code c.h.pc).2 = false := by intro h; rw [h] at h55; cases h55
      have okh := ok.h
      rw [show goF c d pick = _ from (if_neg h31).trans (if_neg hf)] at hS
      generalize (fetF c.code c.h.pc).1 = w at hS ⊢
      have ao := act_ok c.h w c.size okh
      refine Zhd [7] rfl rfl <| Zht 0 rfl (ym rfl) <| Zht 1 rfl (yn rfl) <| Zht 2 rfl (yf 0 rfl) <| Zht 3 rfl (yf 0 rfl) <| Zht 4 rfl (yda 1 (m := 35) rfl rfl (core_hart _ _) (Enc.len ..)) <| Zht 5 rfl (ym rfl) <| Zht 6 rfl (ym rfl) <| Zht 7 rfl (yn rfl) <| Zht 8 rfl (yf 0 rfl) ?_
      refine Zht 9 rfl (yf 36 rfl) <| Zht 10 rfl (yd 1 rfl rfl (nt_core 1 rfl rfl)) <| Zh2 11 16 (by kernel_rfl) (Zok (c129 ..) [0] rfl rfl rfl ?_) (Zoe rfl (eal z44) fun b11 => Zwh 2 rfl ?_)
      refine Zqh 1 rfl <| Zht 12 rfl (ym rfl) <| Zht 13 rfl (yx rfl rfl) <| Zht 14 rfl (yx rfl rfl) <| Zht 15 rfl (yx rfl rfl) <| Zh1 16 (by kernel_rfl) <| Zoe rfl (eal z44) fun b11 => Zwh 2 rfl <| Zh1 17 (by kernel_rfl) <| Zoe rfl (esw 0 (m := 7) rfl rfl rfl rfl rfl (Enc.len ..) (Enc.allL ..)) <| Zwh0 2 rfl <| Zht 18 rfl (ya rfl) <| Zht 19 rfl (ya rfl) <| Zhn (by kernel_rfl) ?_
      refine Znx <| Zsr <| Zv (ym rfl) <| Zv (ym rfl) <| Zv (ym rfl) <| Zv (ym rfl) <| Zv (ydw 0 (m := 7) rfl rfl (Enc.len ..)) <| Zv (yb l294 rfl) <| Ze (ebx rfl) fun b97 => Zw <| Ze (eal z292) fun b14 => Zw ?_
      refine Ze (es 0 rfl rfl rfl rfl rfl) <| Zw0 <| Znl <| Znx <| Zsr <| Zv (ym rfl) <| Zv (yn rfl) <| Zv (yf 0 rfl) <| Zv (yf 0 rfl) <| Zv (yf 0 rfl) <| Zv (yd 5 rfl rfl rfl) ?_
      refine Zv (yfn rfl rfl) ?_
      rotate_left
      refine Zh1 11 (by kernel_rfl) <| Zok (c129 ..) [1] rfl rfl rfl <| Zqh 2 rfl <| Zht 12 rfl (ym rfl) <| Zht 13 rfl (yx rfl rfl) <| Zht 14 rfl (yx rfl rfl) <| Zht 15 rfl (yx rfl rfl) <| Zh1 17 (by kernel_rfl) <| Zoe rfl (esw 1 (m := 7) rfl rfl rfl rfl rfl (Enc.len ..) (Enc.allL ..)) <| Zwh0 2 rfl <| Zht 18 rfl (ya rfl) <| Zht 19 rfl (ya rfl) <| Zhn (by kernel_rfl) ?_
      refine Znx <| Zsr <| Zv (ym rfl) <| Zv (ym rfl) <| Zv (ym rfl) <| Zv (ym rfl) <| Zv (ydw 1 (m := 7) rfl rfl (Enc.len ..)) <| Zv (yb l294 rfl) <| Ze (ebx rfl) fun b97 => Zw <| Ze (eal z292) fun b14 => Zw ?_
      refine Ze (es 0 rfl rfl rfl rfl rfl) <| Zw0 <| Znl <| Znx <| Zsr <| Zv (ym rfl) <| Zv (yn rfl) <| Zv (yf 0 rfl) <| Zv (yf 0 rfl) <| Zv (yf 0 rfl) <| Zv (yd 5 rfl rfl rfl) ?_
      refine Zv (yfn rfl rfl) ?_
      rotate_left
      · dsimp only at hS
        refine Zfl [5,4,4,4] (cor_fold (c := c) ok) rfl ?_
        refine Zfl [3,1,1,0,2,0] (go_fold (b1 := b11) (b2 := b14) (ba := b97) (bc := bc) (bk := bk) (k := k) (pick := pick) (w := w) (a := (actF c.h w c.size).1) (c := c) (d := d)) rfl ?_
        refine Zk (c180 181 [.pointer (some ⟨b11, 0, none⟩), .pointer (some ⟨b14, 0, none⟩)] (goP b11 b14 b97 bc bk k pick w (actF c.h w c.size).1 c d) (goP b11 b14 b97 bc bk k pick w (actF c.h w c.size).1 (actR c d w pick (actF c.h w c.size).1).1 (actR c d w pick (actF c.h w c.size).1).2.1) (actR c d w pick (actF c.h w c.size).1).2.2 c.h.id (c181 b11 b14 b97 bc bk k pick w (actF c.h w c.size).1 c d ao hp hk) (by kernel_rfl)) [0] rfl rfl <| fun A_1 => fun cap_1 => Zq <| Zv (ym rfl) <| Zv (yx rfl rfl) <| Zv (yx rfl rfl) <| Ze (eal z53) fun b15 => Zw <| Ze (esw 0 (m := 20) rfl rfl rfl rfl rfl (Enc.len ..) (Enc.allL ..)) <| Zw0 <| Zv (ya rfl) ?_
        refine Znl <| Znx <| Zsr <| Zv (ydw 0 (m := 20) rfl rfl (Enc.len ..)) <| Zv (ym rfl) <| Ze (esw 4 (m := 20) rfl rfl rfl rfl rfl (Enc.len ..) (Enc.allL ..)) <| Zw0 <| Zv (ya rfl) <| Zv (ya rfl) <| Znl <| Znx ?_
        refine Zrt ?_
        refine Zox 2 go_op rfl <| Zre (.wh 9 (m := 20) rfl rfl (Enc.len ..) (.t rfl (.t rfl .n))) (hS _ _) [7,3,3,3] 6 rfl rfl rfl rfl
      · dsimp only at hS
        refine Zfl [5,4,4,4] (cor_fold (c := c) ok) rfl ?_
        refine Zfl [4,1,1,0,2,0] (go_fold (b1 := b11) (b2 := b14) (ba := b97) (bc := bc) (bk := bk) (k := k) (pick := pick) (w := w) (a := (actF c.h w c.size).1) (c := c) (d := d)) rfl ?_
        refine Zk (c180 181 [.pointer (some ⟨b11, 0, none⟩), .pointer (some ⟨b14, 0, none⟩)] (goP b11 b14 b97 bc bk k pick w (actF c.h w c.size).1 c d) (goP b11 b14 b97 bc bk k pick w (actF c.h w c.size).1 (actR c d w pick (actF c.h w c.size).1).1 (actR c d w pick (actF c.h w c.size).1).2.1) (actR c d w pick (actF c.h w c.size).1).2.2 c.h.id (c181 b11 b14 b97 bc bk k pick w (actF c.h w c.size).1 c d ao hp hk) (by kernel_rfl)) [0] rfl rfl <| fun A_1 => fun cap_1 => Zq <| Zv (ym rfl) <| Zv (yx rfl rfl) <| Zv (yx rfl rfl) <| Ze (eal z53) fun b15 => Zw <| Ze (esw 0 (m := 20) rfl rfl rfl rfl rfl (Enc.len ..) (Enc.allL ..)) <| Zw0 <| Zv (ya rfl) ?_
        refine Znl <| Znx <| Zsr <| Zv (ydw 0 (m := 20) rfl rfl (Enc.len ..)) <| Zv (ym rfl) <| Ze (esw 4 (m := 20) rfl rfl rfl rfl rfl (Enc.len ..) (Enc.allL ..)) <| Zw0 <| Zv (ya rfl) <| Zv (ya rfl) <| Znl <| Znx ?_
        refine Zrt ?_
        refine Zox 2 go_op rfl <| Zre (.wh 9 (m := 20) rfl rfl (Enc.len ..) (.t rfl (.t rfl .n))) (hS _ _) [7,3,3,3] 6 rfl rfl rfl rfl
end Go.Proofs.YtpfijldkkfiooaaGreatDoor
namespace Go.Proofs.YtpfijldkkfiooaaGreatDoor
open Go
def manyC {β : Type} (F : β → HP) : List β → HP
  | [] => fun _ => True
  | x :: l => Sep [.hp (F x), .hp (manyC F l)]
theorem sep_un {L : List Ck} {p : HP} {h : Hl} (hs : Sep [.hp p] h) (f : ∀ h, p h → Sep L h) : Sep L h := by
  have := (hs.hd (q := .hp (Sep L)) f).flat
  rwa [List.append_nil] at this
theorem sep_fo {L : List Ck} {p : HP} {h : Hl} (hs : Sep L h) (f : ∀ h, Sep L h → p h) : Sep [.hp p] h := by
  have h2 : Sep (L ++ []) h := by rwa [List.append_nil]
  exact h2.unflat.hd (q := .hp p) f
section
variable {β : Type} {F G : β → HP}
theorem many_out : ∀ (a : List β) {x : β} {c : List β} {h : Hl}, manyC F (a ++ x :: c) h → Sep [.hp (F x), .hp (manyC F (a ++ c))] h
  | [], _, _, _, hs => hs
  | y :: a, x, c, h, hs => by
    have h1 : Sep [.hp (F y), .hp (F x), .hp (manyC F (a ++ c))] h := Sep.mapTl hs fun _ hh => sep_un hh fun _ hq => many_out a hq
    exact h1.swap.mapTl fun _ hh => sep_fo hh fun _ hq => hq
theorem many_in : ∀ (a : List β) {x : β} {c : List β} {h : Hl}, Sep [.hp (F x), .hp (manyC F (a ++ c))] h → manyC F (a ++ x :: c) h
  | [], _, _, _, hs => hs
  | y :: a, x, c, h, hs => by
    have h1 : Sep [.hp (F x), .hp (F y), .hp (manyC F (a ++ c))] h := Sep.mapTl hs fun _ hh => sep_un hh fun _ hq => hq
    exact h1.swap.mapTl fun _ hh => sep_fo hh fun _ hq => many_in a hq
theorem many_imp : ∀ {l : List β} {h : Hl}, manyC F l h → (∀ x ∈ l, ∀ h, F x h → G x h) → manyC G l h
  | [], _, _, _ => trivial
  | x :: l, h, hs, f => by
    have h1 : Sep [.hp (G x), .hp (manyC F l)] h := Sep.hd hs (q := .hp (G x)) (f x (.head _))
    exact h1.mapTl fun _ hh => hh.hd (q := .hp (manyC G l)) fun _ hq => many_imp hq fun y hy => f y (.tail _ hy)
theorem many_up : ∀ {l : List β} {h : Hl}, Sep [.hp (manyC F l)] h → manyC F l h
  | [], _, _ => trivial
  | x :: l, h, hs => sep_un hs fun _ hq => hq
theorem many_drop {a : List β} {x : β} {c : List β} {h : Hl} (hs : manyC F (a ++ x :: c) h) : Sep [.hp (manyC F (a ++ c))] h := (many_out a hs).tl
end
section
variable {β : Type} {F : β → HP}
theorem many_at {l : List β} {i : Nat} {x : β} {h : Hl} (e : l[i]? = some x) (hs : manyC F l h) : Sep [.hp (F x), .hp (manyC F (l.eraseIdx i))] h := by
  obtain ⟨hi, rfl⟩ := List.getElem?_eq_some_iff.1 e
  rw [List.eraseIdx_eq_take_drop_succ]
  refine many_out (l.take i) ?_
  rwa [List.getElem_cons_drop hi, List.take_append_drop]
theorem many_set {l : List β} {i : Nat} {y : β} {h : Hl} (hi : i < l.length) (hs : Sep [.hp (F y), .hp (manyC F (l.eraseIdx i))] h) : manyC F (l.set i y) h := by
  rw [List.set_eq_take_append_cons_drop, if_pos hi]
  refine many_in (l.take i) ?_
  rwa [List.eraseIdx_eq_take_drop_succ] at hs
end
def mp (es : List (Nat × Nat)) : List (Int × Value) := es.map fun x => ((x.1 : Int), .pointer (some ⟨x.2, 0, none⟩))
abbrev keys (es : List (Nat × Nat)) : List Nat := es.map (·.1)
theorem lk_no {n : Nat} : ∀ {es : List (Nat × Nat)}, n ∉ keys es → lk (n : Int) (mp es) = none
  | [], _ => rfl
  | (m, b) :: es, h => by
    have h1 : n ≠ m := fun e => h (by rw [e]; exact .head _)
    have h2 : n ∉ keys es := fun e => h (.tail _ e)
    show (match lk (n : Int) (mp es) with | some u => some u | none => bif (n : Int) == (m : Int) then _ else none) = none
    rw [lk_no h2]
    have : ((n : Int) == (m : Int)) = false := by simpa using (by omega : (n : Int) ≠ m)
    simp only [this, cond_false]
theorem lk_mid {n b : Nat} {c : List (Nat × Nat)} (hc : n ∉ keys c) : ∀ {a : List (Nat × Nat)}, n ∉ keys a → lk (n : Int) (mp (a ++ (n, b) :: c)) = some (.pointer (some ⟨b, 0, none⟩))
  | [], _ => by
    show (match lk (n : Int) (mp c) with | some u => some u | none => bif (n : Int) == (n : Int) then _ else none) = _
    rw [lk_no hc]
    simp
  | (m, b') :: a, h => by
    have h2 : n ∉ keys a := fun e => h (.tail _ e)
    show (match lk (n : Int) (mp (a ++ (n, b) :: c)) with | some u => some u | none => bif (n : Int) == (m : Int) then _ else none) = _
    rw [lk_mid hc h2]
theorem upd_mid {n b b' : Nat} {c : List (Nat × Nat)} (hc : n ∉ keys c) : ∀ {a : List (Nat × Nat)}, n ∉ keys a → upd' (n : Int) (.pointer (some ⟨b', 0, none⟩)) (mp (a ++ (n, b) :: c)) = mp (a ++ (n, b') :: c)
  | [], _ => by
    show (match lk (n : Int) (mp c) with | some _ => _ | none => bif (n : Int) == (n : Int) then _ else _) = _
    rw [lk_no hc]
    simp
    rfl
  | (m, b'') :: a, h => by
    have h2 : n ∉ keys a := fun e => h (.tail _ e)
    show (match lk (n : Int) (mp (a ++ (n, b) :: c)) with | some _ => _ :: upd' (n : Int) _ (mp (a ++ (n, b) :: c)) | none => _) = _
    rw [lk_mid hc h2, upd_mid hc h2]
    rfl
theorem ups_mid {n b b' : Nat} {a c : List (Nat × Nat)} (ha : n ∉ keys a) (hc : n ∉ keys c) : ups (n : Int) (.pointer (some ⟨b', 0, none⟩)) (mp (a ++ (n, b) :: c)) = mp (a ++ (n, b') :: c) := by
  unfold ups
  rw [lk_mid hc ha]
  exact upd_mid hc ha
theorem ups_no {n b' : Nat} {es : List (Nat × Nat)} (h : n ∉ keys es) : ups (n : Int) (.pointer (some ⟨b', 0, none⟩)) (mp es) = mp ((n, b') :: es) := by
  unfold ups
  rw [lk_no h]
  rfl
theorem keys_split {n : Nat} : ∀ {es : List (Nat × Nat)}, (keys es).Nodup → n ∈ keys es → ∃ a b c, es = a ++ (n, b) :: c ∧ n ∉ keys a ∧ n ∉ keys c
  | [], _, h => by cases h
  | (m, b) :: es, hn, h => by
    have hn' := List.nodup_cons.1 hn
    by_cases e : n = m
    · subst e
      exact ⟨[], b, es, rfl, List.not_mem_nil, hn'.1⟩
    · rcases List.mem_cons.1 h with h | h
      · exact absurd h e
      · obtain ⟨a, b', c, rfl, h1, h2⟩ := keys_split hn'.2 h
        refine ⟨(m, b) :: a, b', c, rfl, fun h => ?_, h2⟩
        rcases List.mem_cons.1 h with h | h
        · exact e h
        · exact h1 h
end Go.Proofs.YtpfijldkkfiooaaGreatDoor
namespace Go.Proofs.YtpfijldkkfiooaaGreatDoor
open Go
theorem nodup_le {α : Type} [DecidableEq α] : ∀ (l m : List α), l.Nodup → (∀ x ∈ l, x ∈ m) → l.length ≤ m.length
  | [], _, _, _ => Nat.zero_le _
  | x :: l, m, hn, hs => by
    rw [List.nodup_cons] at hn
    have hx : x ∈ m := hs x (by simp)
    have h2 := nodup_le l (m.erase x) hn.2 fun y hy => (List.mem_erase_of_ne (fun e : y = x => hn.1 (e ▸ hy))).2 (hs y (by simp [hy]))
    rw [List.length_erase_of_mem hx] at h2
    have := List.length_pos_of_mem hx
    simp only [List.length_cons]
    omega
abbrev iterC (it r : Nat) (l : List (Int × Value)) (pre : List MapEntry) : Ck := .obj it (.mapIter (some r) l.length (pre.map (·.born)).toArray l.length)
section
variable {k : IntKind}
theorem es_mem : ∀ {l : List (Int × Value)} {e : MapEntry}, e ∈ esOf k l → ∃ x ∈ l, e.key = .int k x.1 ∧ e.val = x.2 ∧ e.born < l.length
  | [], _, h => by cases h
  | (n, v) :: l, e, h => by
    rcases List.mem_append.1 h with h | h
    · obtain ⟨x, hx, h1, h2, h3⟩ := es_mem h
      exact ⟨x, .tail _ hx, h1, h2, Nat.lt_succ_of_lt h3⟩
    · rw [List.mem_singleton] at h
      subst h
      exact ⟨(n, v), .head _, rfl, rfl, Nat.lt_succ_self _⟩
theorem mem_es : ∀ {l : List (Int × Value)} {x : Int × Value}, x ∈ l → ∃ e ∈ esOf k l, e.key = .int k x.1
  | (n, v) :: l, x, h => by
    rcases List.mem_cons.1 h with rfl | h
    · exact ⟨_, List.mem_append.2 (.inr (.head _)), rfl⟩
    · obtain ⟨e, he, h1⟩ := mem_es h
      exact ⟨e, List.mem_append.2 (.inl he), h1⟩
theorem es_born : ∀ {l : List (Int × Value)}, ((esOf k l).map (·.born)).Nodup
  | [] => List.nodup_nil
  | (n, v) :: l => by
    show ((esOf k l ++ [_]).map _).Nodup
    rw [List.map_append, List.nodup_append]
    refine ⟨es_born, by simp, fun a ha b hb e => ?_⟩
    obtain ⟨x, hx, rfl⟩ := List.mem_map.1 ha
    obtain ⟨_, _, _, _, h3⟩ := es_mem hx
    simp at hb
    omega
theorem es_inj {l : List (Int × Value)} {e e' : MapEntry} (h : e ∈ esOf k l) (h' : e' ∈ esOf k l) (hb : e.born = e'.born) : e = e' := by
  have hp := List.pairwise_map.1 (es_born (k := k) (l := l))
  obtain ⟨i, hi, rfl⟩ := List.getElem_of_mem h
  obtain ⟨j, hj, rfl⟩ := List.getElem_of_mem h'
  have hp := List.pairwise_iff_getElem.1 hp
  rcases Nat.lt_trichotomy i j with x | x | x
  · exact absurd hb (hp i j hi hj x)
  · subst x; rfl
  · exact absurd hb.symm (hp j i hj hi x)
theorem es_key : ∀ {l : List (Int × Value)} {e e' : MapEntry}, (l.map (·.1)).Nodup → e ∈ esOf k l → e' ∈ esOf k l → e.key = e'.key → e = e'
  | [], _, _, _, h, _, _ => by cases h
  | (n, v) :: l, e, e', hn, h, h', hk => by
    have hn' := List.nodup_cons.1 hn
    have no : ∀ {x : MapEntry}, x ∈ esOf k l → x.key ≠ .int k n := fun hx hh => by
      obtain ⟨y, hy, h1, _⟩ := es_mem hx
      rw [h1] at hh
      cases hh
      exact hn'.1 (show y.1 ∈ l.map (·.1) from List.mem_map_of_mem hy)
    rcases List.mem_append.1 h with h | h <;> rcases List.mem_append.1 h' with h' | h'
    · exact es_key hn'.2 h h' hk
    · rw [List.mem_singleton] at h'; subst h'; exact absurd hk (no h)
    · rw [List.mem_singleton] at h; subst h; exact absurd hk.symm (no h')
    · rw [List.mem_singleton] at h h'; rw [h, h']
end
section
variable {P : Program} {N : Nat × List Deferred} {T : Tb} {e : World} {L L' : List Ck} {x : Operand} {t ty : TypeId} {pos : String} {af : Array Edge} {g : Option (Nat × Bool)} {dd : Option Nat} {k : IntKind} {r it : Nat} {l : List (Int × Value)} {pre : List MapEntry}
theorem emr (i : Nat) {K0 E : Nat} (h : evT T x = some (.map (some r))) (hL : nth L i = some (mapC k r l)) (ht : P.underlying t = some (.map K0 E)) : Ef P N T e L ⟨dd, .range t x, ty, pos, af, g⟩ fun K => ∀ it, K (some (.pointer (some ⟨it, 0, none⟩))) (iterC it r l [] :: L) := fun a w fr hp G kk => .inl (by
  have hM : MapBlk w r (esOf k l).toArray l.length := hp.ob hL
  refine ⟨.pointer (some ⟨w.heap.size, 0, none⟩), w.alloc (.mapIter (some r) l.length #[] l.length), ?_, kk _ _ (hp.newO ((Only.refl _ w).alloc _) (Go.heap_alloc_new w _) (Nat.le_refl _))⟩
  have := run_range_map w t K0 E r _ _ ht hM
  simp [execOp, fr.evT h, this])
theorem enx (i j : Nat) (h : evT T x = some (.pointer (some ⟨it, 0, none⟩))) (hL : nth L i = some (iterC it r l pre)) (hM : nth L j = some (mapC k r l)) (hpre : ∀ s ∈ pre, s ∈ esOf k l) : Ef P N T e L ⟨dd, .next x false, ty, pos, af, g⟩ fun K => ((∀ s ∈ esOf k l, s ∈ pre) → K (some (.tuple #[.bool false])) L) ∧ ∀ s ∈ esOf k l, s ∉ pre → ∀ L', put L i (iterC it r l (pre ++ [s])) = some L' → K (some (.tuple #[.bool true, s.key, s.val])) L' := fun a w fr hp G kk => .inl (by
  have hI : w.heap[it]? = some (.mapIter (some r) l.length (pre.map (·.born)).toArray l.length) := hp.ob hL
  have hMp : w.heap[r]? = some (.map (esOf k l).toArray l.length) := hp.ob hM
  rcases run_next_at (P := P) w ty it r l.length l.length _ _ _ hI hMp (fun s hs => by
    obtain ⟨_, _, _, _, h3⟩ := es_mem (show s ∈ esOf k l by simpa using hs)
    exact h3) (Nat.le_refl _) with ⟨h0, hrun⟩ | ⟨s, hs, w1, hw1, hrun⟩
  · refine ⟨.tuple #[.bool false], w, by simp [execOp, fr.evT h, hrun], kk.1 (fun s hs => ?_) _ hp⟩
    have h1 := (Array.filter_eq_empty_iff.1 (Array.eq_empty_of_size_eq_zero h0)) s (by simpa using hs)
    simp at h1
    obtain ⟨s', hs', hb⟩ := h1
    rw [← es_inj (hpre s' hs') hs hb]
    exact hs'
  · have hel := Array.mem_filter.1 (show s ∈ leftOf (esOf k l).toArray (pre.map (·.born)).toArray by simpa using hs)
    have hs1 : s ∈ esOf k l := by simpa using hel.1
    have hs2 : s ∉ pre := fun hm => by
      have := hel.2
      simp at this
      exact this s hm rfl
    have hp1 : Hp e L w1 := by rcases hw1 with rfl | rfl; exact hp; exact hp.drew
    have hI1 : w1.heap[it]? = some (.mapIter (some r) l.length (pre.map (·.born)).toArray l.length) := hp1.ob hL
    have hlt : it < w1.heap.size := (Array.getElem?_eq_some_iff.1 hI1).1
    obtain ⟨L', hL'⟩ := put_of (iterC it r l (pre ++ [s])) hL
    refine ⟨_, _, by simp [execOp, fr.evT h, hrun]; rfl, kk.2 s hs1 hs2 L' hL' _ (hp1.back hL hL' fun M hq => hq.setO ?_ ?_)⟩
    · refine ⟨rfl, rfl, rfl, by simp [ChangeMaps.setBlock], fun j hj hs => ?_⟩
      simp [ChangeMaps.setBlock, show it ≠ j from fun h => hs h.symm]
    · simp [ChangeMaps.setBlock, hlt])
theorem yen (i j : Nat) {s : MapEntry} (h : evT T x = some (.pointer (some ⟨it, 0, none⟩))) (hL : nth L i = some (iterC it r l (pre ++ [s]))) (hM : nth L j = some (mapC k r l)) (hs : s ∈ esOf k l) : Yl P N T e L ⟨dd, .entry x, ty, pos, af, g⟩ (.tuple #[s.key, s.val]) := fun a w fr hp => by
  have hI : w.heap[it]? = some (.mapIter (some r) l.length ((pre ++ [s]).map (·.born)).toArray l.length) := hp.ob hL
  have hMp : w.heap[r]? = some (.map (esOf k l).toArray l.length) := hp.ob hM
  have hI2 : w.heap[it]? = some (.mapIter (some r) l.length ((pre.map (·.born)).toArray.push s.born) l.length) := by rw [hI]; simp
  have := run_entry_at (P := P) w it r l.length _ _ _ s hI2 hMp (by simpa using hs) (by simpa using es_born)
  simp [execOp, fr.evT h, this]
end
end Go.Proofs.YtpfijldkkfiooaaGreatDoor
namespace Go.Proofs.YtpfijldkkfiooaaGreatDoor
open Go
set_option maxRecDepth 4000
structure Sh where
  a : Bool
  b : Bool
  c : Bool
  d : Bool
  deriving DecidableEq
def Sh.get (s : Sh) (i : Int) : Bool := if i = 0 then s.a else if i = 1 then s.b else if i = 2 then s.c else if i = 3 then s.d else false
def Sh.set (s : Sh) (i : Int) (x : Bool) : Sh := if i = 0 then ⟨x, s.b, s.c, s.d⟩ else if i = 1 then ⟨s.a, x, s.c, s.d⟩ else if i = 2 then ⟨s.a, s.b, x, s.d⟩ else if i = 3 then ⟨s.a, s.b, s.c, x⟩ else s
def sh0 : Sh := ⟨false, false, false, false⟩
structure Ent where
  o : Int
  sh : Sh
  busy : Bool
  asks : Int
  kind : Int
  waits : Int
  told : Bool
  q : List Msg
  deriving DecidableEq
def ent0 : Ent := ⟨-1, sh0, false, 0, 0, 0, false, []⟩
def Ent.cs (d : Ent) (v : Value) : List Value := [.int .i64 d.o, .bool d.sh.a, .bool d.sh.b, .bool d.sh.c, .bool d.sh.d, .bool d.busy, .int .i64 d.asks, .int .i64 d.kind, .int .i64 d.waits, .bool d.told, v]
def Ent.setO (d : Ent) (o : Int) : Ent := ⟨o, d.sh, d.busy, d.asks, d.kind, d.waits, d.told, d.q⟩
def Ent.setS (d : Ent) (s : Sh) : Ent := ⟨d.o, s, d.busy, d.asks, d.kind, d.waits, d.told, d.q⟩
def Ent.setT (d : Ent) (t : Bool) : Ent := ⟨d.o, d.sh, d.busy, d.asks, d.kind, d.waits, t, d.q⟩
def Ent.setW (d : Ent) (w : Int) : Ent := ⟨d.o, d.sh, d.busy, d.asks, d.kind, w, d.told, d.q⟩
def Ent.setQ (d : Ent) (q : List Msg) : Ent := ⟨d.o, d.sh, d.busy, d.asks, d.kind, d.waits, d.told, q⟩
def othK (sh : Sh) (r : Int) : Nat → List Int
  | 0 => []
  | k + 1 => if (sh.get k && decide ((k : Int) ≠ r)) = true then othK sh r k ++ [(k : Int)] else othK sh r k
def othersF (sh : Sh) (r : Int) : List Int := othK sh r 4
def leaveF (d : Ent) (r : Int) : Ent := d.setO (if d.o = r then -1 else d.o)
def ownF (d : Ent) (r : Int) : Ent := ⟨r, sh0, d.busy, d.asks, d.kind, d.waits, d.told, d.q⟩
def busyF (d : Ent) (m : Msg) (waits : Int) (told : Bool) : Ent := ⟨d.o, d.sh, true, m.src, m.kind, waits, told, d.q⟩
theorem oth_len (sh : Sh) (r : Int) : ∀ k, (othK sh r k).length ≤ k
  | 0 => Nat.le_refl 0
  | k + 1 => by
    unfold othK
    have := oth_len sh r k
    split
    · simp; omega
    · omega
def lineB (bs : List Int) (n : Int) : B16 := if h : (lineF bs n.toNat).length = 16 ∧ ∀ a ∈ lineF bs n.toNat, 0 ≤ a ∧ a < 256 then ⟨lineF bs n.toNat, h⟩ else b16z
def setLn (bs : List Int) (n : Int) (b : B16) : List Int := setF bs n.toNat b.1
structure Byt (bs : List Int) (n : Int) : Prop where
  r : ∀ a ∈ bs, 0 ≤ a ∧ a < 256
  l : bs.length ≤ 1048576
  n0 : 0 ≤ n
  n1 : n.toNat < bs.length / 16
theorem Byt.line {bs : List Int} {n : Int} (h : Byt bs n) : (lineB bs n).1 = lineF bs n.toNat := by
  unfold lineB
  rw [dif_pos ⟨line_len h.n1, fun a ha => h.r a (List.mem_of_mem_take (List.mem_of_mem_drop ha))⟩]
theorem Byt.set {bs : List Int} {n : Int} (h : Byt bs n) (k : Int) (hk : k = n) (b : B16) : Byt (setLn bs k b) n := by
  subst hk
  have h1 : (setLn bs k b).length = bs.length := set_len h.n1 b.2.1
  refine ⟨fun a ha => ?_, by rw [h1]; exact h.l, h.n0, by rw [h1]; exact h.n1⟩
  unfold setLn setF at ha
  rcases List.mem_append.1 ha with ha | ha
  · rcases List.mem_append.1 ha with ha | ha
    · exact h.r a (List.mem_of_mem_take ha)
    · exact b.2.2 a ha
  · exact h.r a (List.mem_of_mem_drop ha)
def workC (bw bh bi r : Nat) (n : Int) (d : Ent) (out : List Msg) (bs : List Int) : HP := fun h => Byt bs n ∧ ∃ be A cap Aq cq, Sep [.blk bw 313 [.slice A out.length cap, .pointer (some ⟨be, 0, none⟩), .pointer (some ⟨bh, 0, none⟩), .int .u32 n], .blk be 165 (d.cs (.slice Aq d.q.length cq)), .hp (own msgE A cap out), .hp (own msgE Aq cq d.q), .blk bh 158 [.pointer (some ⟨bi, 0, none⟩), .map (some r)], .hp (imgC bi bs)] h
theorem work_op {bw bh bi r : Nat} {n : Int} {d : Ent} {out : List Msg} {bs : List Int} : Op_ (workC bw bh bi r n d out bs) fun K => Byt bs n → ∀ be A cap Aq cq, K [.blk bw 313 [.slice A out.length cap, .pointer (some ⟨be, 0, none⟩), .pointer (some ⟨bh, 0, none⟩), .int .u32 n], .blk be 165 (d.cs (.slice Aq d.q.length cq)), .hp (own msgE A cap out), .hp (own msgE Aq cq d.q), .blk bh 158 [.pointer (some ⟨bi, 0, none⟩), .map (some r)], .hp (imgC bi bs)] := .mk fun G k h hh => by
  obtain ⟨ok, be, A, cap, Aq, cq, hs⟩ := hh
  exact ⟨_, k ok be A cap Aq cq, hs⟩
theorem work_fold {bw bh bi r be cap cq : Nat} {n : Int} {d : Ent} {out : List Msg} {bs : List Int} {A Aq : Option Addr} (ok : Byt bs n) : ∀ h, Sep [.blk bw 313 [.slice A out.length cap, .pointer (some ⟨be, 0, none⟩), .pointer (some ⟨bh, 0, none⟩), .int .u32 n], .blk be 165 (d.cs (.slice Aq d.q.length cq)), .hp (own msgE A cap out), .hp (own msgE Aq cq d.q), .blk bh 158 [.pointer (some ⟨bi, 0, none⟩), .map (some r)], .hp (imgC bi bs)] h → workC bw bh bi r n d out bs h := fun _ hs => ⟨ok, be, A, cap, Aq, cq, hs⟩
theorem c227f (fine : Bool) (why : Int) (h : fine = false) : Sp Tryz.prog 227 [.bool fine, .int .i64 why] [] fun K => K (.panicked (panV (.iface 308 (.agg #[.int .i64 why])))) [] := by
  subst h
  refine Zen Tryz.func227 rfl rfl rfl fun e X Φ hS => Zsr <| Zv (ym rfl) <| Zv (ynot rfl) <| Znl <| Znx <| Zct rfl <| Zrg <| Zv (ym rfl) <| Zv (yb l308 rfl) ?_
  refine Zv (ymi Tryz.underlying308 rfl rfl) <| Zpn rfl ?_
  refine Zpe hS [] 0 rfl rfl
theorem c299 (bw bh bi r : Nat) (n k : Int) (d : Ent) (out : List Msg) (bs : List Int) : Sp Tryz.prog 299 [.pointer (some ⟨bw, 0, none⟩), .int .i64 k] [.hp (workC bw bh bi r n d out bs)] fun K => K (.returned (.tuple #[])) [.hp (workC bw bh bi r n (leaveF d k) out bs)] := by
  refine Zen Tryz.func299 rfl rfl rfl fun e X Φ hS => Zoc 0 work_op rfl <| fun ok be A cap Aq cq => ?_
  refine Zsr <| Zv (ym rfl) <| Zv (yn rfl) <| Zv (yf 1 rfl) <| Zv (yd 0 rfl rfl rfl) <| Zv (yn rfl) <| Zv (yf 0 rfl) <| Zv (yd 1 rfl rfl rfl) <| Zv (ym rfl) <| Zv (yeq rfl rfl) ?_
  refine Znl <| Znx <| Zif rfl (fun h12 => ?_) (fun h12 => ?_)
  refine Zrg <| Zv (ym rfl) <| Zv (yn rfl) <| Zv (yf 1 rfl) <| Zv (yd 0 rfl rfl rfl) <| Zv (yn rfl) <| Zv (yf 0 rfl) <| Ze (es 1 rfl rfl rfl rfl rfl) <| Zw0 <| Znl <| Zee ?_
  rotate_left
  refine Zsk <| Zee ?_
  rotate_left
  · rw [show leaveF d k = d.setO (-1) by unfold leaveF; rw [if_pos h12]] at hS
    refine Zfx [0,0,0,0,0,0] (work_fold (d := d.setO (-1)) ok) rfl <| Zre .n hS [0] 0 rfl rfl rfl rfl
  · rw [show leaveF d k = d by unfold leaveF; rw [if_neg h12]; rfl] at hS
    refine Zfx [0,0,0,0,0,0] (work_fold (d := d) ok) rfl <| Zre .n hS [0] 0 rfl rfl rfl rfl
theorem c229 (bw bh bi r : Nat) (n k : Int) (d : Ent) (out : List Msg) (bs : List Int) : Sp Tryz.prog 229 [.pointer (some ⟨bw, 0, none⟩), .int .i64 k] [.hp (workC bw bh bi r n d out bs)] fun K => K (.returned (.tuple #[])) [.hp (workC bw bh bi r n (ownF d k) out bs)] := by
  refine Zen Tryz.func229 rfl rfl rfl fun e X Φ hS => Zoc 0 work_op rfl <| fun ok be A cap Aq cq => ?_
  refine Zhd [1] rfl rfl <| Zht 0 rfl (ym rfl) <| Zht 1 rfl (yn rfl) <| Zht 2 rfl (yf 1 rfl) <| Zht 3 rfl (yd 0 rfl rfl rfl) <| Zht 4 rfl (ym rfl) <| Zht 5 rfl (yn rfl) <| Zht 6 rfl (yf 1 rfl) <| Zht 7 rfl (yd 0 rfl rfl rfl) <| Zht 8 rfl (ym rfl) ?_
  refine Zht 9 rfl (yb l163 rfl) <| Zht 10 rfl (yn rfl) <| Zht 11 rfl (yf 0 rfl) <| Zh1 12 (by kernel_rfl) <| Zoe rfl (es 0 rfl rfl rfl rfl rfl) <| Zwh0 1 rfl <| Zht 13 rfl (yn rfl) <| Zht 14 rfl (yf 1 rfl) <| Zh1 15 (by kernel_rfl) <| Zoe rfl (esa 0 (m := 4) rfl rfl rfl rfl rfl (Nat.le_of_ble_eq_true rfl) rfl) <| Zwh0 1 rfl <| Zhn (by kernel_rfl) <| Zee ?_
  refine Zfx [1,0,0,0,0,0] (work_fold (d := ownF d k) ok) rfl <| Zre .n hS [0] 0 rfl rfl rfl rfl
theorem c300 (bw bh bi r : Nat) (n : Int) (m : Msg) (wt : Int) (td : Bool) (d : Ent) (out : List Msg) (bs : List Int) : Sp Tryz.prog 300 [.pointer (some ⟨bw, 0, none⟩), .agg (msgE.arr m), .int .i64 wt, .bool td] [.hp (workC bw bh bi r n d out bs)] fun K => K (.returned (.tuple #[])) [.hp (workC bw bh bi r n (busyF d m wt td) out bs)] := by
  refine Zen Tryz.func300 rfl rfl rfl fun e X Φ hS => Zoc 0 work_op rfl <| fun ok be A cap Aq cq => ?_
  refine Zsr <| Ze (ebxE rfl) fun b5 => Zw <| Znl <| Znx ?_
  refine Zhd [2] rfl rfl <| Zht 0 rfl (ym rfl) <| Zht 1 rfl (yn rfl) <| Zht 2 rfl (yf 1 rfl) <| Zht 3 rfl (yd 1 rfl rfl rfl) <| Zht 4 rfl (ym rfl) <| Zht 5 rfl (yn rfl) <| Zht 6 rfl (yf 1 rfl) <| Zht 7 rfl (yd 1 rfl rfl rfl) <| Zht 8 rfl (ym rfl) ?_
  refine Zht 9 rfl (yn rfl) <| Zht 10 rfl (yf 1 rfl) <| Zht 11 rfl (yd 1 rfl rfl rfl) <| Zht 12 rfl (ym rfl) <| Zht 13 rfl (yn rfl) <| Zht 14 rfl (yf 1 rfl) <| Zht 15 rfl (yd 1 rfl rfl rfl) <| Zht 16 rfl (ym rfl) <| Zht 17 rfl (yn rfl) <| Zht 18 rfl (yf 1 rfl) ?_
  refine Zht 19 rfl (yd 1 rfl rfl rfl) <| Zht 20 rfl (yf 1 rfl) <| Zht 21 rfl (yd 0 rfl rfl rfl) <| Zht 22 rfl (yf 0 rfl) <| Zht 23 rfl (yd 0 rfl rfl rfl) <| Zht 24 rfl (ym rfl) <| Zht 25 rfl (ym rfl) <| Zht 26 rfl (yn rfl) <| Zht 27 rfl (yf 5 rfl) <| Zh1 28 (by kernel_rfl) <| Zoe rfl (es 0 rfl rfl rfl rfl rfl) <| Zwh0 1 rfl ?_
  refine Zht 29 rfl (yn rfl) <| Zht 30 rfl (yf 6 rfl) <| Zh1 31 (by kernel_rfl) <| Zoe rfl (es 0 rfl rfl rfl rfl rfl) <| Zwh0 1 rfl <| Zht 32 rfl (yn rfl) <| Zht 33 rfl (yf 7 rfl) <| Zh1 34 (by kernel_rfl) <| Zoe rfl (es 0 rfl rfl rfl rfl rfl) <| Zwh0 1 rfl <| Zht 35 rfl (yn rfl) <| Zht 36 rfl (yf 8 rfl) <| Zh1 37 (by kernel_rfl) <| Zoe rfl (es 0 rfl rfl rfl rfl rfl) <| Zwh0 1 rfl <| Zht 38 rfl (yn rfl) ?_
  refine Zht 39 rfl (yf 9 rfl) <| Zh1 40 (by kernel_rfl) <| Zoe rfl (es 0 rfl rfl rfl rfl rfl) <| Zwh0 1 rfl <| Zhn (by kernel_rfl) <| Zee ?_
  refine Zfx [2,0,1,1,1,1] (work_fold (d := busyF d m wt td) ok) rfl <| Zre .n hS [0] 1 rfl rfl rfl rfl
end Go.Proofs.YtpfijldkkfiooaaGreatDoor
namespace Go.Proofs.YtpfijldkkfiooaaGreatDoor
open Go
set_option maxRecDepth 4000
abbrev i64E : Enc Tryz.prog Int := intE 3 .i64
theorem elI64 : ElemI i64E 399 8 := ⟨Tryz.underlying399, by
  obtain ⟨i0, hi, hz0, hz1, hz2⟩ := info_parts (show (Tryz.prog.info? 3).map (fun i => (i.zero, i.size, i.bytes)) = some (some (.int .i64 0), 1, 8) by kernel_rfl)
  exact ⟨i0, _, hi, hz0, hz1, hz2, rfl⟩⟩
section
variable {N : Nat × List Deferred} {T : Tb} {e : World} {L : List Ck} {x : Operand} {ty : TypeId} {pos : String} {af : Array Edge} {g : Option (Nat × Bool)} {dd : Option Nat}
theorem ebi {k : Int} (h : evT T x = some (.int .i64 k)) : Ef Tryz.prog N T e L ⟨dd, .buildSlice 399 1 #[(0, x)], ty, pos, af, g⟩ fun K => ∀ A, K (some (.slice A 1 1)) (.hp (own i64E A 1 [k]) :: L) := fun a w fr hp G kk => .inl (by
  obtain ⟨i, z, hi, hz, hsz, hby, hzc⟩ := elI64.info
  have hs1 : i.size = 1 := hsz
  refine ⟨.slice (some ⟨w.heap.size, 0, none⟩) 1 1, w.alloc (.cells #[.int .i64 k] 3), ?_, kk _ _ (hp.ownNew ((Only.refl _ w).alloc _) ⟨by simp, by decide, .inr ⟨_, 0, _, rfl, Go.heap_alloc_new w _, by simp [i64E, intE], by simp [i64E, intE]⟩⟩ inA_new)⟩
  have hfill : Instr.fill (fun q => some (q * i.size, i.size)) ((Array.range (1 * i.size)).map (z.cells[· % z.cells.size]!)) [(0, .int .i64 k)] = some #[.int .i64 k] := by
    rw [hs1]
    generalize hzz : (Array.range (1 * 1)).map (z.cells[· % z.cells.size]!) = zz
    have hz1 : zz.size = 1 := by rw [← hzz]; simp
    rcases zz with ⟨_ | ⟨v0, _ | ⟨v1, l⟩⟩⟩
    · exact absurd hz1 (by simp)
    · rfl
    · exact absurd hz1 (by simp)
  have := run_buildSlice (P := Tryz.prog) w 399 3 1 #[(0, .int .i64 k)] #[.int .i64 k] i z elI64.ty hi hz (by rw [hs1]; omega) (by rw [hs1]; omega) hfill
  simp [execOp, fr.evT h, this])
end
theorem put_it {α : Type} : ∀ {L L' : List α} {i : Nat} {c : α}, nth L i = some c → put L i c = some L' → L = L'
  | [], _, _, _, h, _ => by cases h
  | x :: l, L', 0, c, h, h1 => by cases h; cases h1; rfl
  | x :: l, L', i + 1, c, h, h1 => by
    cases hp : put l i c with
    | none => simp [put, hp] at h1
    | some l' =>
      simp [put, hp] at h1
      subst h1
      rw [put_it (i := i) h hp]
section
variable {P : Program} {r : Option Nat} {n : Nat} {c : Code} {Q : Exit → Act → World → Prop} {N : Nat × List Deferred} {T : Tb} {e : World} {L L' : List Ck}
theorem Zbs (i : Nat) {b t : Nat} {cs : List Value} (cs' : List Value) (hL : nth L i = some (.blk b t cs)) (hc : cs = cs') (hL' : put L i (.blk b t cs') = some L') (k : ZC P r n c Q N T e L') : ZC P r n c Q N T e L := by
  subst hc
  rw [put_it hL hL']
  exact k
end
theorem sh_nth (s : Sh) {i : Nat} (h : i < 4) : nth [.bool s.a, .bool s.b, .bool s.c, .bool s.d] i = some (Value.bool (s.get i)) := by
  match i, h with
  | 0, _ => rfl
  | 1, _ => rfl
  | 2, _ => rfl
  | 3, _ => rfl
theorem put_sh (d : Ent) (v : Value) (x : Bool) {i : Nat} (h : i < 4) : put (d.cs v) (1 + i) (.bool x) = some ((d.setS (d.sh.set i x)).cs v) := by
  match i, h with
  | 0, _ => rfl
  | 1, _ => rfl
  | 2, _ => rfl
  | 3, _ => rfl
theorem nth_sh (d : Ent) (v : Value) {i : Nat} (h : i < 4) : nth (d.cs v) (1 + i) = some (.bool (d.sh.get i)) := by
  match i, h with
  | 0, _ => rfl
  | 1, _ => rfl
  | 2, _ => rfl
  | 3, _ => rfl
theorem c258' (b : Nat) (n : Int) (bs : List Int) (ok : Byt bs n) : Sp Tryz.prog 258 [.pointer (some ⟨b, 0, none⟩), .int .u32 n] [.hp (imgC b bs)] fun K => K (.returned (.tuple #[.agg (bsE.cells (lineB bs n)).toArray, .int .i64 0])) [.hp (imgC b bs)] := ⟨fun e X w Φ hp hS => by
  have h0 := ok.n0
  have h1 := ok.l
  have h2 := ok.n1
  have hn : n = (n.toNat : Int) := by omega
  have hb : bsE.cells (lineB bs n) = (lineF bs n.toNat).map (Value.int .u8) := by rw [← ok.line]; rfl
  rw [hb] at hS
  rw [hn]
  exact (c258 b n.toNat bs h1 (by omega)).run e X w Φ hp ⟨fun _ => hS, fun h => absurd h2 (by omega)⟩⟩
theorem c56' (b : Nat) (n : Int) (bs : List Int) (x : B16) (ok : Byt bs n) : Sp Tryz.prog 56 [.pointer (some ⟨b, 0, none⟩), .int .u32 n, .agg (bsE.cells x).toArray] [.hp (imgC b bs)] fun K => K (.returned (.int .i64 0)) [.hp (imgC b (setLn bs n x))] := ⟨fun e X w Φ hp hS => by
  have h0 := ok.n0
  have h1 := ok.l
  have h2 := ok.n1
  have hn : n = (n.toNat : Int) := by omega
  have hp' := (c56 b n.toNat bs x.1 x.2.1 h1 (by omega)).run e X w Φ hp ⟨fun _ => hS, fun h => absurd h2 (by omega)⟩
  rw [← hn] at hp'
  exact hp'⟩
theorem c301 (bw bh bi r : Nat) (n k : Int) (d : Ent) (out : List Msg) (bs : List Int) : Sp Tryz.prog 301 [.pointer (some ⟨bw, 0, none⟩), .int .i64 k] [.hp (workC bw bh bi r n d out bs)] fun K => ∀ A cap, K (.returned (.slice A (othersF d.sh k).length cap)) [.hp (own i64E A cap (othersF d.sh k)), .hp (workC bw bh bi r n d out bs)] := by
  refine Zen Tryz.func301 rfl rfl rfl fun e X Φ hS => Zoc 0 work_op rfl <| fun ok be A cap Aq cq => ?_
  refine Zsr <| Zv (ya rfl) <| Znl <| Znx <| Zsr <| Zv (ya rfl) <| Znl <| Znx <| Zsq <| Zsr ?_
  refine Zv (ym rfl) <| Zv (yn rfl) <| Zv (yf 1 rfl) <| Zv (yd 0 rfl rfl rfl) <| Zv (yn rfl) <| Zv (yf 1 rfl) <| Zv (yda 1 (m := 4) rfl rfl rfl rfl) <| Zv (ym rfl) <| Znl <| Znx ?_
  refine Zbl ?_
  refine Zic (fun _ hs => sep_nil (E := i64E) hs) ?_
  refine Zlq (ι := { p : Nat × Option Addr × Nat // p.1 ≤ 4 }) (fun p => [(15, .int .i64 (p.1.1 : Int)), (14, .agg [.bool d.sh.a, .bool d.sh.b, .bool d.sh.c, .bool d.sh.d].toArray), (5, .slice p.1.2.1 (othK d.sh k p.1.1).length p.1.2.2), (1, .int .i64 k)]) (fun p => [.hp (own i64E p.1.2.1 p.1.2.2 (othK d.sh k p.1.1))]) (fun p => 4 - p.1.1) ⟨(0, none, 0), by simp⟩ ⟨rfl, rfl, rfl, rfl, trivial⟩ [0] rfl fun p => Zsr <| Zv (ylt rfl rfl) <| Znl <| Znx <| Zsq <| Zif rfl (fun h16 => ?_) (fun h16 => ?_)
  refine Zsk <| Znx <| Zsq <| Zbl <| Zsr <| Zv (ym rfl) ?_
  rotate_left
  refine Zex <| Zxt <| Zxt <| Zxx <| Znx <| Zsr <| Zv (ym rfl) <| Zv (ya rfl) <| Znl <| Znx ?_
  refine Zrt ?_
  rotate_left
  · refine Zv (yix (i := p.1.1) rfl rfl (sh_nth d.sh (by omega)) Tryz.underlying163 (Nat.ble_eq_true_of_le (show p.1.1 + 1 ≤ 4 by omega))) <| Zv (ya rfl) <| Zv (ya rfl) <| Znl <| Znx <| Zsr <| Zv (ym rfl) <| Zv (ym rfl) <| Zgb rfl rfl (fun h20 => ?_) (fun h20 => ?_)
    refine Zg' rfl rfl h20 <| Zv (ym rfl) <| Zg' rfl rfl h20 <| Zv (ym rfl) <| Zg' rfl rfl h20 <| Zv (yne rfl rfl) <| Zv (ypt' rfl h20 rfl) <| Znl <| Znx <| Zif rfl (fun h24 => ?_) (fun h24 => ?_)
    refine Zrg <| Zv (ym rfl) <| Zv (ym rfl) ?_
    rotate_left
    refine Zsk <| Zxn <| Znx <| Zrg <| Zv (yadd rfl rfl (i64w rfl (by omega))) <| Zv (ym rfl) <| Znl ?_
    rotate_left
    refine Zu' rfl rfl h20 rfl <| Zu' rfl rfl h20 rfl <| Zu' rfl rfl h20 rfl <| Zv (ypf' rfl h20 rfl) <| Znl <| Znx <| Zcf rfl <| Zsk <| Zxn <| Znx ?_
    refine Zrg <| Zv (yadd rfl rfl (i64w rfl (by omega))) <| Zv (ym rfl) <| Znl ?_
    rotate_left
    · have e1 : othK d.sh k (p.1.1 + 1) = othK d.sh k p.1.1 ++ [(p.1.1 : Int)] := by rw [othK, if_pos (by rw [h20]; simpa using h24)]
      have hl := oth_len d.sh k p.1.1
      have hm : (othK d.sh k p.1.1).length + [(p.1.1 : Int)].length ≤ maxLen := ml_le (by show (othK d.sh k p.1.1).length + 1 ≤ _; omega)
      refine Ze (ebi rfl) <| fun B => Zw ?_
      refine Ze (eap' 1 0 elI64 rfl rfl rfl own.rd rfl rfl rfl (fun _ _ => rfl) (by show (_ + 1) * 8 ≤ _; omega) hm) <| fun A' cap' => Zw <| Zv (ya rfl) <| Znl <| Zxn <| Znx <| Zrg <| Zv (yadd rfl rfl (i64w rfl (by omega))) <| Zv (ym rfl) <| Znl ?_
      rw [← e1]
      refine Zlr ⟨(p.1.1 + 1, A', cap'), by omega⟩ (by show 4 - (p.1.1 + 1) < 4 - p.1.1; omega) ⟨rfl, rfl, rfl, rfl, trivial⟩ [1] 1 rfl rfl
    · have e1 : othK d.sh k (p.1.1 + 1) = othK d.sh k p.1.1 := by rw [othK, if_neg (by rw [h20]; simpa using h24)]
      rw [← e1]
      refine Zlr ⟨(p.1.1 + 1, p.1.2.1, p.1.2.2), by omega⟩ (by show 4 - (p.1.1 + 1) < 4 - p.1.1; omega) ⟨rfl, rfl, rfl, rfl, trivial⟩ [0] 0 rfl rfl
    · have e1 : othK d.sh k (p.1.1 + 1) = othK d.sh k p.1.1 := by rw [othK, if_neg (by simp [h20])]
      rw [← e1]
      refine Zlr ⟨(p.1.1 + 1, p.1.2.1, p.1.2.2), by omega⟩ (by show 4 - (p.1.1 + 1) < 4 - p.1.1; omega) ⟨rfl, rfl, rfl, rfl, trivial⟩ [0] 0 rfl rfl
  · have e1 : othersF d.sh k = othK d.sh k p.1.1 := by
      have := p.2
      rw [show p.1.1 = 4 by omega]
      rfl
    rw [← e1]
    refine Zfx [1,1,1,1,1,1] (work_fold (d := d) (out := out) ok) rfl <| Zre (.t rfl .n) (hS _ _) [1,0] 0 rfl rfl rfl rfl
theorem c230 (bw bh bi r : Nat) (n kind dst : Int) (hn : U32 n) (by_ : Bool) (d : Ent) (out : List Msg) (bs : List Int) (hl : out.length ≤ 1000000) : Sp Tryz.prog 230 [.pointer (some ⟨bw, 0, none⟩), .int .i64 kind, .int .i64 dst, .bool by_] [.hp (workC bw bh bi r n d out bs)] fun K => K (.returned (.tuple #[])) [.hp (workC bw bh bi r n d (out ++ [mkM kind 4 dst n (if by_ then lineB bs n else b16z) hn]) bs)] := by
  cases by_ with
  | false =>
    refine Zen Tryz.func230 rfl rfl rfl fun e X Φ hS => Zoc 0 work_op rfl <| fun ok be A cap Aq cq => ?_
    refine Zsr <| Zv (ym rfl) <| Zv (ym rfl) <| Zv (ym rfl) <| Zv (yn rfl) <| Zv (yf 3 rfl) <| Zv (yd 0 rfl rfl rfl) <| Zv (yb l117 rfl) <| Ze (eal z117) fun b8 => Zw <| Ze (esw 0 (m := 20) rfl rfl rfl rfl rfl rfl rfl) <| Zw0 ?_
    refine Znl <| Znx <| Zsq <| Zsr <| Zv (ym rfl) <| Znl <| Znx <| Zcf rfl <| Zsk <| Znx ?_
    refine Zbs 0 (msgE.cells (mkM kind 4 dst n b16z hn)) rfl rfl rfl ?_
    refine Zhf 9 [3] rfl rfl <| Zht 0 rfl (ym rfl) <| Zht 1 rfl (ym rfl) <| Zht 2 rfl (yn rfl) <| Zht 3 rfl (yf 0 rfl) <| Zht 4 rfl (yf 0 rfl) <| Zht 5 rfl (yd 1 rfl rfl rfl) <| Zht 6 rfl (ydw 0 (m := 20) rfl rfl (Enc.len ..)) <| Zh1 7 (by kernel_rfl) <| Zoe rfl (eb1 elMsg (by decide) rfl) fun A40 => Zwh 2 rfl ?_
    have hm : out.length + [mkM kind 4 dst n b16z hn].length ≤ maxLen := ml_le (by show out.length + 1 ≤ _; omega)
    refine Zh1 8 (by kernel_rfl) <| Zoe rfl (eap' 1 0 elMsg rfl rfl rfl own.rd rfl rfl rfl (fun _ _ => rfl) (by simp; omega) hm) <| fun A' cap' => Zwh 2 rfl <| Zhn (by kernel_rfl) <| Ztl rfl <| Ztv (yn rfl) <| Ztv (yf 0 rfl) <| Ztv (yf 0 rfl) <| Zte (es 3 rfl rfl rfl rfl rfl) <| Ztw <| Ztn <| Zee ?_
    refine Zfx [3,3,1,2,2,2] (work_fold (d := d) (out := out ++ [mkM kind 4 dst n b16z hn]) ok) rfl <| Zre .n hS [0] 2 rfl rfl rfl rfl
  | true =>
    refine Zen Tryz.func230 rfl rfl rfl fun e X Φ hS => Zoc 0 work_op rfl <| fun ok be A cap Aq cq => ?_
    refine Zsr <| Zv (ym rfl) <| Zv (ym rfl) <| Zv (ym rfl) <| Zv (yn rfl) <| Zv (yf 3 rfl) <| Zv (yd 0 rfl rfl rfl) <| Zv (yb l117 rfl) <| Ze (eal z117) fun b8 => Zw <| Ze (esw 0 (m := 20) rfl rfl rfl rfl rfl rfl rfl) <| Zw0 ?_
    refine Znl <| Znx <| Zsq <| Zsr <| Zv (ym rfl) <| Znl <| Znx <| Zct rfl ?_
    refine Zbs 0 (msgE.cells (mkM kind 4 dst n b16z hn)) rfl rfl rfl ?_
    refine Zhd [0,5] rfl rfl <| Zht 0 rfl (ym rfl) <| Zht 1 rfl (yn rfl) <| Zht 2 rfl (yf 2 rfl) <| Zht 3 rfl (yd 0 rfl rfl rfl) <| Zht 4 rfl (yn rfl) <| Zht 5 rfl (yf 0 rfl) <| Zht 6 rfl (yd 4 rfl rfl rfl) <| Zht 7 rfl (ym rfl) <| Zht 8 rfl (yn rfl) ?_
    refine Zht 9 rfl (yf 3 rfl) <| Zht 10 rfl (yd 0 rfl rfl rfl) ?_
    refine Zh1 11 (by kernel_rfl) <| Zok (c258' bi n bs ok) [1] rfl rfl rfl <| Zqh 2 rfl <| Zht 12 rfl (ym rfl) <| Zht 13 rfl (yx rfl rfl) <| Zht 14 rfl (yx rfl rfl) <| Zht 15 rfl (yf 4 rfl) <| Zh1 16 (by kernel_rfl) <| Zoe rfl (esc 1 (m := 16) rfl rfl rfl (pt_mbs _ _) rfl (Enc.len ..) (by rw [Enc.len]; decide) (Enc.allL ..)) <| Zwh0 2 rfl <| Zhn (by kernel_rfl) <| Znx ?_
    refine Zhf 9 [4] rfl rfl <| Zht 0 rfl (ym rfl) <| Zht 1 rfl (ym rfl) <| Zht 2 rfl (yn rfl) <| Zht 3 rfl (yf 0 rfl) <| Zht 4 rfl (yf 0 rfl) <| Zht 5 rfl (yd 2 rfl rfl rfl) <| Zht 6 rfl (ydw 1 (m := 20) rfl rfl (Enc.len ..)) <| Zh1 7 (by kernel_rfl) <| Zoe rfl (eb1 elMsg (by decide) rfl) fun A40 => Zwh 2 rfl ?_
    have hm : out.length + [mkM kind 4 dst n (lineB bs n) hn].length ≤ maxLen := ml_le (by show out.length + 1 ≤ _; omega)
    refine Zh1 8 (by kernel_rfl) <| Zoe rfl (eap' 1 0 elMsg rfl rfl rfl own.rd rfl rfl rfl (fun _ _ => rfl) (by simp; omega) hm) <| fun A' cap' => Zwh 2 rfl <| Zhn (by kernel_rfl) <| Ztl rfl <| Ztv (yn rfl) <| Ztv (yf 0 rfl) <| Ztv (yf 0 rfl) <| Zte (es 4 rfl rfl rfl rfl rfl) <| Ztw <| Ztn <| Zee ?_
    refine Zfx [4,4,1,3,3,1] (work_fold (d := d) (out := out ++ [mkM kind 4 dst n (lineB bs n) hn]) ok) rfl <| Zre .n hS [0] 2 rfl rfl rfl rfl
end Go.Proofs.YtpfijldkkfiooaaGreatDoor
namespace Go.Proofs.YtpfijldkkfiooaaGreatDoor
open Go
set_option maxRecDepth 4000
def sendM (m : Msg) (kind dst : Int) (b : B16 := b16z) : Msg := mkM kind 4 dst m.line b m.hn
def beginF (bs : List Int) (d : Ent) (m : Msg) : Ent × List Int × List Msg :=
  if m.kind = 3 then ((leaveF d m.src), (if d.o = m.src then setLn bs m.line m.bs else bs), [sendM m 7 m.src])
  else
    let e := leaveF d m.src
    if 0 ≤ e.o then (busyF e m 1 false, bs, [sendM m (3 + m.kind) e.o])
    else if m.kind = 2 then
      if othersF e.sh m.src = [] then (busyF (ownF e m.src) m 0 true, bs, [sendM m 10 m.src (lineB bs m.line)])
      else (busyF e m (othersF e.sh m.src).length false, bs, (othersF e.sh m.src).map (sendM m 6))
    else if othersF e.sh m.src = [] then (busyF (ownF e m.src) m 0 true, bs, [sendM m 9 m.src (lineB bs m.line)])
    else (busyF (e.setS (e.sh.set m.src true)) m 0 true, bs, [sendM m 8 m.src (lineB bs m.line)])
def writeD (d : Ent) : Ent := (ownF d d.asks).setT true
theorem c228 (bw bh bi r : Nat) (n : Int) (hn : U32 n) (d : Ent) (out : List Msg) (bs : List Int) (hl : out.length ≤ 1000000) : Sp Tryz.prog 228 [.pointer (some ⟨bw, 0, none⟩)] [.hp (workC bw bh bi r n d out bs)] fun K => K (.returned (.tuple #[])) [.hp (workC bw bh bi r n (writeD d) (out ++ [mkM 10 4 d.asks n (lineB bs n) hn]) bs)] := by
  refine Zen Tryz.func228 rfl rfl rfl fun e X Φ hS => Zoc 0 work_op rfl <| fun ok be A cap Aq cq => ?_
  refine Zsr <| Zv (ym rfl) <| Zv (ym rfl) <| Zv (yn rfl) <| Zv (yf 1 rfl) <| Zv (yd 0 rfl rfl rfl) <| Zv (yn rfl) <| Zv (yf 6 rfl) <| Zv (yd 1 rfl rfl rfl) ?_
  refine Zfl [0,0,0,0,0,0] (work_fold (d := d) (out := out) ok) rfl <| Zk (c229 ..) [0] rfl rfl <| Zq <| Znl <| Znx <| Zsr <| Zv (ym rfl) <| Zv (ym rfl) <| Zv (yn rfl) <| Zv (yf 1 rfl) ?_
  refine Zol 0 work_op rfl <| fun _ be A cap Aq cq => Zv (yd 0 rfl rfl rfl) <| Zv (yn rfl) <| Zv (yf 6 rfl) <| Zv (yd 1 rfl rfl rfl) ?_
  refine Zfl [0,0,0,0,0,0] (work_fold (d := ownF d d.asks) (out := out) ok) rfl ?_
  refine Zk (c230 bw bh bi r n 10 d.asks hn true (ownF d d.asks) out bs hl) [0] rfl rfl <| Zq <| Znl <| Znx <| Zrg <| Zv (ym rfl) <| Zv (yn rfl) <| Zv (yf 1 rfl) ?_
  refine Zol 0 work_op rfl <| fun _ be A cap Aq cq => Zv (yd 0 rfl rfl rfl) <| Zv (yn rfl) <| Zv (yf 9 rfl) <| Ze (es 1 rfl rfl rfl rfl rfl) <| Zw0 <| Znl <| Zee ?_
  refine Zfx [0,0,0,0,0,0] (work_fold (d := writeD d) (out := out ++ [mkM 10 4 d.asks n (lineB bs n) hn]) ok) rfl <| Zre .n hS [0] 0 rfl rfl rfl rfl
theorem c255 (bw bh bi r : Nat) (m : Msg) (d : Ent) (out : List Msg) (bs : List Int) (hk : m.kind = 1) (h0 : 0 ≤ m.src) (h4 : m.src < 4) (hl : out.length ≤ 1000000) : Sp Tryz.prog 255 [.pointer (some ⟨bw, 0, none⟩), .agg (msgE.arr m)] [.hp (workC bw bh bi r m.line d out bs)] fun K => K (.returned (.tuple #[])) [.hp (workC bw bh bi r m.line (beginF bs d m).1 (out ++ (beginF bs d m).2.2) (beginF bs d m).2.1)] := by
  refine Zen Tryz.func255 rfl rfl rfl fun e X Φ hS => Zsr <| Ze (ebxE rfl) fun b3 => Zw <| Znl <| Znx <| Zsr <| Zv (ym rfl) <| Zv (yf 1 rfl) <| Zv (yd 0 rfl rfl rfl) <| Zk (c299 ..) [1] rfl rfl ?_
  refine Zq <| Znl <| Znx <| Zbl <| Zsr <| Zv (ym rfl) <| Zv (yn rfl) <| Zv (yf 1 rfl) ?_
  refine Zol 0 work_op rfl <| fun ok be A cap Aq cq => Zv (yd 0 rfl rfl rfl) <| Zv (yn rfl) <| Zv (yf 0 rfl) <| Zv (yd 1 rfl rfl rfl) <| Zv (yge rfl rfl) <| Zv (ya rfl) <| Znl <| Znx <| Zif rfl (fun h19 => ?_) (fun h19 => ?_)
  refine Zsr <| Zv (ym rfl) <| Zv (ym rfl) <| Zv (yn rfl) <| Zv (yf 1 rfl) <| Zv (yd 0 rfl rfl rfl) <| Zv (yn rfl) <| Zv (yf 0 rfl) <| Zv (yd 1 rfl rfl rfl) ?_
  rotate_left
  refine Zsr <| Zv (ym rfl) <| Zv (yf 1 rfl) <| Zv (yd 6 rfl rfl rfl) ?_
  rotate_left
  · have e1 : beginF bs d m = (busyF (leaveF d m.src) m 1 false, bs, [sendM m 4 (leaveF d m.src).o]) := by
      unfold beginF; rw [if_neg (by omega)]; simp only []; rw [if_pos h19, hk]; rfl
    rw [e1] at hS
    refine Zfl [0,0,0,0,0,0] (work_fold (d := leaveF d m.src) (out := out) ok) rfl ?_
    refine Zol 0 work_op rfl <| fun _ be A cap Aq cq => ?_
    refine Zfl [0,0,0,0,0,0] (work_fold (d := leaveF d m.src) (out := out) ok) rfl ?_
    refine Zk (c230 bw bh bi r m.line 4 (leaveF d m.src).o m.hn false (leaveF d m.src) out bs hl) [0] rfl rfl <| Zq <| Znl <| Znx <| Zrg <| Zv (ym rfl) <| Zv (ydw 1 (m := 20) rfl rfl (Enc.len ..)) <| Zk (c300 ..) [0] rfl rfl <| Zq <| Znl ?_
    refine Zxn <| Zee <| Zre .n hS [0] 1 rfl rfl rfl rfl
  · refine Zfl [0,0,0,0,0,0] (work_fold (d := leaveF d m.src) (out := out) ok) rfl <| Zk (c301 ..) [0] rfl rfl <| fun A_1 => fun cap_1 => Zq <| Zv (sl_of ⟨_, Tryz.underlying399⟩ rfl) <| Zv (ygt rfl rfl) <| Zv (ya rfl) <| Znl <| Znx ?_
    refine Zif rfl (fun h40 => ?_) (fun h40 => ?_)
    refine Zsq ?_
    rotate_left
    refine Zsr <| Zv (ym rfl) <| Zv (yf 1 rfl) <| Zv (yd 2 rfl rfl rfl) <| Zk (c229 ..) [1] rfl rfl <| Zq <| Znl <| Znx <| Zsr <| Zv (ym rfl) ?_
    refine Zv (yf 1 rfl) <| Zv (yd 2 rfl rfl rfl) ?_
    rotate_left
    · have ho : othersF (leaveF d m.src).sh m.src ≠ [] := fun h => by rw [h] at h40; exact absurd h40 (by decide)
      have e1 : beginF bs d m = (busyF ((leaveF d m.src).setS ((leaveF d m.src).sh.set m.src true)) m 0 true, bs, [sendM m 8 m.src (lineB bs m.line)]) := by
        unfold beginF; rw [if_neg (by omega)]; simp only []; rw [if_neg h19, if_neg (by omega), if_neg ho]
      rw [e1] at hS
      obtain ⟨i, hi⟩ := Int.eq_ofNat_of_zero_le h0
      refine Zoc 1 work_op rfl <| fun _ be A cap Aq cq => ?_
      refine Zhd [1] rfl rfl <| Zht 0 rfl (ym rfl) <| Zht 1 rfl (yn rfl) <| Zht 2 rfl (yf 1 rfl) <| Zht 3 rfl (yd 0 rfl rfl rfl) <| Zht 4 rfl (yf 1 rfl) <| Zht 5 rfl (yd 6 rfl rfl rfl) <| Zht 6 rfl (yn rfl) <| Zht 7 rfl (yf 1 rfl) ?_
      refine Zht 8 rfl (yai (i := i) Tryz.underlying163 rfl (congrArg (fun x => some (Value.int .i64 x)) hi) (by omega)) ?_
      refine Zh1 9 (by kernel_rfl) <| Zoe rfl (es 0 rfl rfl rfl (put_sh _ _ _ (i := i) (by omega)) rfl) <| Zwh0 1 rfl <| Zhn (by kernel_rfl) <| Znx <| Zsr <| Zv (ym rfl) <| Zv (yf 1 rfl) <| Zv (yd 7 rfl rfl rfl) ?_
      rw [← hi]
      refine Zfl [1,0,0,0,0,0] (work_fold (d := (leaveF d m.src).setS ((leaveF d m.src).sh.set m.src true)) (out := out) ok) rfl ?_
      refine Zk (c230 bw bh bi r m.line 8 m.src m.hn true ((leaveF d m.src).setS ((leaveF d m.src).sh.set m.src true)) out bs hl) [0] rfl rfl <| Zq <| Znl <| Znx <| Zrg <| Zv (ym rfl) <| Zv (ydw 2 (m := 20) rfl rfl (Enc.len ..)) <| Zk (c300 ..) [0] rfl rfl <| Zq <| Znl ?_
      refine Zxn <| Zee <| Zre .n hS [0] 2 rfl rfl rfl rfl
    · have ho : othersF (leaveF d m.src).sh m.src = [] := List.length_eq_zero_iff.1 (by omega)
      have e1 : beginF bs d m = (busyF (ownF (leaveF d m.src) m.src) m 0 true, bs, [sendM m 9 m.src (lineB bs m.line)]) := by
        unfold beginF; rw [if_neg (by omega)]; simp only []; rw [if_neg h19, if_neg (by omega), if_pos ho]
      rw [e1] at hS
      refine Zk (c230 bw bh bi r m.line 9 m.src m.hn true (ownF (leaveF d m.src) m.src) out bs hl) [0] rfl rfl <| Zq <| Znl <| Znx <| Zrg <| Zv (ym rfl) <| Zv (ydw 2 (m := 20) rfl rfl (Enc.len ..)) <| Zk (c300 ..) [0] rfl rfl <| Zq <| Znl ?_
      refine Zxn <| Zee <| Zre .n hS [0] 2 rfl rfl rfl rfl
theorem c256 (bw bh bi r : Nat) (m : Msg) (d : Ent) (out : List Msg) (bs : List Int) (hk : m.kind = 2) (hl : out.length ≤ 900000) : Sp Tryz.prog 256 [.pointer (some ⟨bw, 0, none⟩), .agg (msgE.arr m)] [.hp (workC bw bh bi r m.line d out bs)] fun K => K (.returned (.tuple #[])) [.hp (workC bw bh bi r m.line (beginF bs d m).1 (out ++ (beginF bs d m).2.2) (beginF bs d m).2.1)] := by
  refine Zen Tryz.func256 rfl rfl rfl fun e X Φ hS => Zsr <| Ze (ebxE rfl) fun b3 => Zw <| Znl <| Znx <| Zsr <| Zv (ym rfl) <| Zv (yf 1 rfl) <| Zv (yd 0 rfl rfl rfl) <| Zk (c299 ..) [1] rfl rfl ?_
  refine Zq <| Znl <| Znx <| Zsq <| Zsr <| Zv (ym rfl) <| Zv (yn rfl) <| Zv (yf 1 rfl) ?_
  refine Zol 0 work_op rfl <| fun ok be A cap Aq cq => Zv (yd 0 rfl rfl rfl) <| Zv (yn rfl) <| Zv (yf 0 rfl) <| Zv (yd 1 rfl rfl rfl) <| Zv (yge rfl rfl) <| Znl <| Znx <| Zif rfl (fun h18 => ?_) (fun h18 => ?_)
  refine Zsr <| Zv (ym rfl) <| Zv (ym rfl) <| Zv (yn rfl) <| Zv (yf 1 rfl) <| Zv (yd 0 rfl rfl rfl) <| Zv (yn rfl) <| Zv (yf 0 rfl) <| Zv (yd 1 rfl rfl rfl) ?_
  rotate_left
  refine Zsk <| Znx <| Zsr <| Zv (ym rfl) <| Zv (yf 1 rfl) <| Zv (yd 6 rfl rfl rfl) ?_
  rotate_left
  · have e1 : beginF bs d m = (busyF (leaveF d m.src) m 1 false, bs, [sendM m 5 (leaveF d m.src).o]) := by
      unfold beginF; rw [if_neg (by omega)]; simp only []; rw [if_pos h18, hk]; rfl
    rw [e1] at hS
    refine Zfl [0,0,0,0,0,0] (work_fold (d := leaveF d m.src) (out := out) ok) rfl ?_
    refine Zol 0 work_op rfl <| fun _ be A cap Aq cq => ?_
    refine Zfl [0,0,0,0,0,0] (work_fold (d := leaveF d m.src) (out := out) ok) rfl ?_
    refine Zk (c230 bw bh bi r m.line 5 (leaveF d m.src).o m.hn false (leaveF d m.src) out bs (by omega)) [0] rfl rfl <| Zq <| Znl <| Znx <| Zsr <| Zv (ym rfl) <| Zv (ydw 1 (m := 20) rfl rfl (Enc.len ..)) <| Zk (c300 ..) [0] rfl rfl <| Zq <| Znl ?_
    refine Znx <| Zrt <| Zr1 <| Zre .n hS [0] 1 rfl rfl rfl rfl
  · refine Zfl [0,0,0,0,0,0] (work_fold (d := leaveF d m.src) (out := out) ok) rfl <| Zk (c301 ..) [0] rfl rfl <| fun A_1 => fun cap_1 => Zq <| Zv (ya rfl) <| Znl <| Znx <| Zsq <| Zsr ?_
    refine Zv (ym rfl) <| Zv (sl_of ⟨_, Tryz.underlying399⟩ rfl) <| Zv (ym rfl) <| Znl <| Znx <| Zbl ?_
    have hdef : beginF bs d m = if othersF (leaveF d m.src).sh m.src = [] then (busyF (ownF (leaveF d m.src) m.src) m 0 true, bs, [sendM m 10 m.src (lineB bs m.line)]) else (busyF (leaveF d m.src) m (othersF (leaveF d m.src).sh m.src).length false, bs, (othersF (leaveF d m.src).sh m.src).map (sendM m 6)) := by
      unfold beginF; rw [if_neg (by omega)]; simp only []; rw [if_neg h18, if_pos hk]
    have ho4 : (othersF (leaveF d m.src).sh m.src).length ≤ 4 := oth_len _ _ 4
    generalize othersF (leaveF d m.src).sh m.src = os at hdef ho4 ⊢
    have hout : out = out ++ (os.take 0).map (sendM m 6) := by simp
    rw [hout]
    refine Zlq (ι := { i : Nat // i ≤ os.length }) (fun i => [(37, .int .i64 (i.1 : Int)), (36, .int .i64 (os.length : Int)), (35, .slice A_1 os.length cap_1), (4, .slice A_1 os.length cap_1), (0, .pointer (some ⟨bw, 0, none⟩)), (3, .pointer (some ⟨b3, 0, none⟩))]) (fun i => [.hp (workC bw bh bi r m.line (leaveF d m.src) (out ++ (os.take i.1).map (sendM m 6)) bs)]) (fun i => os.length - i.1) ⟨0, by omega⟩ ⟨rfl, rfl, rfl, rfl, rfl, rfl, trivial⟩ [1] rfl fun i => Zsr <| Zv (ylt rfl rfl) <| Znl <| Znx <| Zsq <| Zif rfl (fun h38 => ?_) (fun h38 => ?_)
    refine Zsk <| Znx <| Zsq <| Zbl <| Zsr <| Zv (yea 1 own.rd rfl rfl rfl (by first | assumption | omega) rfl Tryz.underlying399 rfl) <| Zv (yec (m := 0) 1 own.rd rfl (gE (by first | assumption | omega)) rfl rfl rfl) <| Zv (ya rfl) <| Znl <| Znx ?_
    refine Zrg <| Zv (ym rfl) <| Zv (ym rfl) ?_
    rotate_left
    refine Zex <| Zxt <| Zxt <| Zxx <| Znx <| Zsr <| Zv (ym rfl) <| Zv (ydw 2 (m := 20) rfl rfl (Enc.len ..)) <| Zv (ym rfl) <| Zv (sl_of ⟨_, Tryz.underlying399⟩ rfl) ?_
    refine Zk (c300 ..) [0] rfl rfl <| Zq <| Znl <| Znx <| Zsr <| Zv (ym rfl) <| Zv (sl_of ⟨_, Tryz.underlying399⟩ rfl) <| Zv (yeq rfl rfl) <| Znl <| Znx ?_
    refine Zif rfl (fun h52 => ?_) (fun h52 => ?_)
    refine Zrg <| Zv (ym rfl) ?_
    rotate_left
    refine Zsk <| Zee ?_
    rotate_left
    · have hx := gE (l := os) (k := i.1) (by omega)
      have e2 : out ++ (os.take (i.1 + 1)).map (sendM m 6) = (out ++ (os.take i.1).map (sendM m 6)) ++ [mkM 6 4 os[i.1] m.line (if false = true then lineB bs m.line else b16z) m.hn] := by
        rw [List.take_add_one, hx, Option.toList_some, List.map_append, ← List.append_assoc]; rfl
      have hl2 : (out ++ (os.take i.1).map (sendM m 6)).length ≤ 1000000 := by simp; omega
      refine Zk (c230 bw bh bi r m.line 6 os[i.1] m.hn false (leaveF d m.src) (out ++ (os.take i.1).map (sendM m 6)) bs hl2) [0] rfl rfl <| Zq <| Znl <| Zxn <| Znx <| Zrg <| Zv (yadd rfl rfl (i64w rfl (by omega))) <| Zv (ym rfl) <| Znl ?_
      rw [← e2]
      refine Zlr ⟨i.1 + 1, by omega⟩ (by show os.length - (i.1 + 1) < os.length - i.1; omega) ⟨rfl, rfl, rfl, rfl, rfl, rfl, trivial⟩ [0] 0 rfl rfl
    · have h0 : os = [] := List.length_eq_zero_iff.1 (by omega)
      subst h0
      rw [if_pos rfl] at hdef
      rw [hdef] at hS
      have e2 : out ++ (([] : List Int).take i.1).map (sendM m 6) = out := by simp
      rw [e2]
      refine Zk (c228 bw bh bi r m.line m.hn (busyF (leaveF d m.src) m (([] : List Int).length : Int) false) out bs (by omega)) [0] rfl rfl <| Zq <| Znl <| Zee <| Zre .n hS [0] 2 rfl rfl rfl rfl
    · have h0 : os ≠ [] := fun h => h52 (by rw [h]; rfl)
      have hi := i.2
      have e2 : os.take i.1 = os := List.take_of_length_le (by omega)
      rw [if_neg h0] at hdef
      rw [hdef] at hS
      rw [e2]
      refine Zre .n hS [0] 2 rfl rfl rfl rfl
theorem c257 (bw bh bi r : Nat) (m : Msg) (d : Ent) (out : List Msg) (bs : List Int) (hk : m.kind = 3) (hl : out.length ≤ 1000000) : Sp Tryz.prog 257 [.pointer (some ⟨bw, 0, none⟩), .agg (msgE.arr m)] [.hp (workC bw bh bi r m.line d out bs)] fun K => K (.returned (.tuple #[])) [.hp (workC bw bh bi r m.line (beginF bs d m).1 (out ++ (beginF bs d m).2.2) (beginF bs d m).2.1)] := by
  refine Zen Tryz.func257 rfl rfl rfl fun e X Φ hS => Zoc 0 work_op rfl <| fun ok be A cap Aq cq => ?_
  refine Zsr <| Ze (ebxE rfl) fun b3 => Zw <| Znl <| Znx <| Zsq <| Zsq <| Zhd [] rfl rfl <| Zht 0 rfl (ym rfl) <| Zht 1 rfl (yn rfl) <| Zht 2 rfl (yf 1 rfl) ?_
  refine Zht 3 rfl (yd 1 rfl rfl rfl) <| Zht 4 rfl (yn rfl) <| Zht 5 rfl (yf 0 rfl) <| Zht 6 rfl (yd 2 rfl rfl rfl) <| Zht 7 rfl (yf 1 rfl) <| Zht 8 rfl (yd 0 rfl rfl rfl) <| Zht 9 rfl (yeq rfl rfl) <| Zhn (by kernel_rfl) <| Znx <| Zif rfl (fun h13 => ?_) (fun h13 => ?_)
  refine Zsq ?_
  rotate_left
  refine Zsk <| Znx <| Zrg <| Zv (ym rfl) <| Zv (yf 1 rfl) <| Zv (yd 0 rfl rfl rfl) ?_
  rotate_left
  · have e1 : beginF bs d m = (d.setO (-1), setLn bs m.line m.bs, [sendM m 7 m.src]) := by
      unfold beginF leaveF; rw [if_pos hk, if_pos h13, if_pos h13]
    rw [e1] at hS
    refine Zhd [6] rfl rfl <| Zht 0 rfl (ym rfl) <| Zht 1 rfl (yn rfl) <| Zht 2 rfl (yf 2 rfl) <| Zht 3 rfl (yd 1 rfl rfl rfl) <| Zht 4 rfl (yn rfl) <| Zht 5 rfl (yf 0 rfl) <| Zht 6 rfl (yd 5 rfl rfl rfl) <| Zht 7 rfl (ym rfl) <| Zht 8 rfl (yn rfl) ?_
    refine Zht 9 rfl (yf 3 rfl) <| Zht 10 rfl (yd 1 rfl rfl rfl) <| Zht 11 rfl (yf 4 rfl) <| Zht 12 rfl (yda 0 (m := 16) rfl rfl (msg_bs' _) (Enc.len ..)) ?_
    refine Zh1 13 (by kernel_rfl) <| Zok (c56' bi m.line bs m.bs ok) [0] rfl rfl rfl <| Zqh 1 rfl <| Zhn (by kernel_rfl) <| Znx <| Zrg <| Zv (ym rfl) <| Zv (yn rfl) <| Zv (yf 1 rfl) <| Zv (yd 2 rfl rfl rfl) <| Zv (yn rfl) ?_
    refine Zv (yf 0 rfl) <| Ze (es 3 rfl rfl rfl rfl rfl) <| Zw0 <| Znl <| Znx <| Zrg <| Zv (ym rfl) <| Zv (yf 1 rfl) <| Zv (yd 1 rfl rfl rfl) ?_
    refine Zfl [2,2,2,2,2,0] (work_fold (d := d.setO (-1)) (out := out) (ok.set m.line rfl m.bs)) rfl ?_
    refine Zk (c230 bw bh bi r m.line 7 m.src m.hn false (d.setO (-1)) out (setLn bs m.line m.bs) hl) [0] rfl rfl <| Zq <| Znl <| Zee <| Zre .n hS [0] 1 rfl rfl rfl rfl
  · have e1 : beginF bs d m = (d, bs, [sendM m 7 m.src]) := by
      unfold beginF leaveF; rw [if_pos hk, if_neg h13, if_neg h13]; rfl
    rw [e1] at hS
    refine Zfl [1,1,1,1,1,1] (work_fold (d := d) (out := out) ok) rfl ?_
    refine Zk (c230 bw bh bi r m.line 7 m.src m.hn false d out bs hl) [0] rfl rfl <| Zq <| Znl <| Zee <| Zre .n hS [0] 1 rfl rfl rfl rfl
end Go.Proofs.YtpfijldkkfiooaaGreatDoor
namespace Go.Proofs.YtpfijldkkfiooaaGreatDoor
open Go
set_option maxRecDepth 4000
structure HD where
  bs : List Int
  E : List Ent
def entOf (E : List Ent) (n : Nat) : Ent := E.getD n ent0
structure RqOk (n : Int) (m : Msg) : Prop where
  k : m.kind = 1 ∨ m.kind = 2 ∨ m.kind = 3
  s0 : 0 ≤ m.src
  s4 : m.src < 4
  l : m.line = n
structure EW (k : Nat) (n : Int) (d : Ent) : Prop where
  a : 0 ≤ d.asks ∧ d.asks < 4
  w : d.waits ≤ 4
  q : ∀ m ∈ d.q, RqOk n m
  l : d.q.length ≤ k
structure HOk (k : Nat) (h : HD) : Prop where
  r : ∀ a ∈ h.bs, 0 ≤ a ∧ a < 256
  l : h.bs.length ≤ 1048576
  p : 0 < h.bs.length
  e : h.E.length = h.bs.length / 16
  w : ∀ n, n < h.E.length → EW k n (entOf h.E n)
theorem EW.mono {k k' : Nat} {n : Int} {d : Ent} (h : EW k n d) (hk : k ≤ k') : EW k' n d := ⟨h.a, h.w, h.q, Nat.le_trans h.l hk⟩
theorem HOk.mono {k k' : Nat} {h : HD} (a : HOk k h) (hk : k ≤ k') : HOk k' h := ⟨a.r, a.l, a.p, a.e, fun n hn => (a.w n hn).mono hk⟩
def entC (b : Nat) (d : Ent) : HP := fun h => ∃ A cap, Sep [.blk b 165 (d.cs (.slice A d.q.length cap)), .hp (own msgE A cap d.q)] h
theorem ent_op {b : Nat} {d : Ent} : Op_ (entC b d) fun K => ∀ A cap, K [.blk b 165 (d.cs (.slice A d.q.length cap)), .hp (own msgE A cap d.q)] := .mk fun G k h hh => by
  obtain ⟨A, cap, hs⟩ := hh
  exact ⟨_, k A cap, hs⟩
theorem ent_fold {b cap : Nat} {A : Option Addr} {d : Ent} : ∀ h, Sep [.blk b 165 (d.cs (.slice A d.q.length cap)), .hp (own msgE A cap d.q)] h → entC b d h := fun _ hs => ⟨A, cap, hs⟩
abbrev entsC (E : List Ent) (es : List (Nat × Nat)) : HP := manyC (fun x : Nat × Nat => entC x.2 (entOf E x.1)) es
structure KOk (E : List Ent) (es : List (Nat × Nat)) : Prop where
  nd : (keys es).Nodup
  lt : ∀ n ∈ keys es, n < E.length
  no : ∀ n, n ∉ keys es → entOf E n = ent0
def homC (k b : Nat) (h : HD) : HP := fun g => HOk k h ∧ ∃ bi r es, KOk h.E es ∧ Sep [.blk b 158 [.pointer (some ⟨bi, 0, none⟩), .map (some r)], .hp (imgC bi h.bs), mapC .u32 r (mp es), .hp (entsC h.E es)] g
theorem hom_op {k b : Nat} {h : HD} : Op_ (homC k b h) fun K => HOk k h → ∀ bi r es, KOk h.E es → K [.blk b 158 [.pointer (some ⟨bi, 0, none⟩), .map (some r)], .hp (imgC bi h.bs), mapC .u32 r (mp es), .hp (entsC h.E es)] := .mk fun G k g hh => by
  obtain ⟨ok, bi, r, es, hk, hs⟩ := hh
  exact ⟨_, k ok bi r es hk, hs⟩
theorem hom_fold {k b bi r : Nat} {h : HD} {es : List (Nat × Nat)} (ok : HOk k h) (hk : KOk h.E es) : ∀ g, Sep [.blk b 158 [.pointer (some ⟨bi, 0, none⟩), .map (some r)], .hp (imgC bi h.bs), mapC .u32 r (mp es), .hp (entsC h.E es)] g → homC k b h g := fun _ hs => ⟨ok, bi, r, es, hk, hs⟩
theorem ents_op {E : List Ent} {n b : Nat} {a c : List (Nat × Nat)} : Op_ (entsC E (a ++ (n, b) :: c)) fun K => K [.hp (entC b (entOf E n)), .hp (entsC E (a ++ c))] := .mk fun G k h hh => ⟨_, k, many_out a hh⟩
theorem ents_in {E : List Ent} {n b : Nat} {a c : List (Nat × Nat)} : ∀ h, Sep [.hp (entC b (entOf E n)), .hp (entsC E (a ++ c))] h → entsC E (a ++ (n, b) :: c) h := fun _ hs => many_in a hs
theorem c62 (k b : Nat) (h : HD) : Sp Tryz.prog 62 [.pointer (some ⟨b, 0, none⟩)] [.hp (homC k b h)] fun K => K (.returned (.bool false)) [.hp (homC k b h)] := by
  refine Zen Tryz.func62 rfl rfl rfl fun e X Φ hS => Zoc 0 hom_op rfl <| fun ok bi r es hk => ?_
  refine Zsr <| Zv (ya rfl) <| Znl <| Znx <| Zsr <| Zv (ym rfl) <| Zv (ypeq rfl rfl rfl) <| Zv (ym rfl) <| Zg rfl rfl <| Zv (ym rfl) ?_
  refine Zg rfl rfl <| Zv (yn rfl) <| Zg rfl rfl <| Zv (yf 0 rfl) <| Zg rfl rfl <| Zv (yd 0 rfl rfl rfl) <| Zg rfl rfl <| Zv (ypeq rfl rfl rfl) <| Zv (ypf rfl rfl) <| Zv (ya rfl) ?_
  refine Znl <| Znx <| Zrt ?_
  refine Zfx [0,0,0,0] (hom_fold (k := k) (h := h) ok hk) rfl <| Zre (.t rfl .n) hS [0] 0 rfl rfl rfl rfl
theorem c150 (k b : Nat) (h : HD) : Sp Tryz.prog 150 [.pointer (some ⟨b, 0, none⟩)] [.hp (homC k b h)] fun K => K (.returned (.int .i64 (h.E.length : Int))) [.hp (homC k b h)] := by
  refine Zen Tryz.func150 rfl rfl rfl fun e X Φ hS => ?_
  refine Zsq <| Zrg <| Zv (ya rfl) <| Znl <| Znx <| Zsq <| Zsr <| Zv (ym rfl) <| Zk (c62 ..) [0] rfl rfl <| Zq ?_
  refine Znl <| Znx <| Zcf rfl <| Zsk <| Znx <| Zsr <| Zv (ym rfl) <| Zv (yn rfl) <| Zv (yf 0 rfl) ?_
  refine Zol 0 hom_op rfl <| fun ok bi r es hk => Zv (yd 0 rfl rfl rfl) <| Zk (c74 ..) [1] rfl rfl <| Zq <| Zv (yquo rfl rfl (by decide) rfl) <| Zv (ya rfl) <| Znl <| Znx <| Zrt ?_
  rw [quo16 ok.l, ← ok.e]
  refine Zfx [1,0,0,0] (hom_fold (k := k) (h := h) ok hk) rfl <| Zre (.t rfl .n) hS [0] 0 rfl rfl rfl rfl
theorem c81 (A : Option Addr) (cap : Nat) (d : Ent) (hq : d.q.length ≤ 1048576) : Sp Tryz.prog 81 [.agg (d.cs (.slice A d.q.length cap)).toArray] [.hp (own msgE A cap d.q)] fun K => ∀ A' cap', K (.returned (.agg (d.cs (.slice A' d.q.length cap')).toArray)) [.hp (own msgE A' cap' d.q), .hp (own msgE A cap d.q)] := by
  refine Zen Tryz.func81 rfl rfl rfl fun e X Φ hS => Zoc 0 own_len rfl <| fun hA hcp hcm => ?_
  refine Zsr <| Ze (ebx rfl) fun b1 => Zw <| Ze (eal z165) fun b2 => Zw <| Znl <| Znx <| Zsr <| Zv (yf 10 rfl) <| Zv (yd 1 rfl rfl rfl) ?_
  refine Zk (c123 _ A cap d.q own.rd hA hq) [2] rfl rfl <| fun A' => fun cap' => Zq <| Zv (yf 10 rfl) <| Ze (es 3 rfl rfl rfl rfl rfl) <| Zw0 <| Znl <| Znx <| Zsr <| Zv (ydw 3 (m := 11) rfl rfl rfl) ?_
  refine Ze (esw 2 (m := 11) rfl rfl rfl rfl rfl rfl rfl) <| Zw0 <| Znl <| Znx <| Zrt <| Zre (.wh 2 (m := 11) rfl rfl rfl .n) (hS _ _) [0,0] 2 rfl rfl rfl rfl
theorem c151 (k b n : Nat) (h : HD) (hn : n < h.E.length) (hk2 : k ≤ 1000000) : Sp Tryz.prog 151 [.pointer (some ⟨b, 0, none⟩), .int .u32 (n : Int)] [.hp (homC k b h)] fun K => ∀ A cap, K (.returned (.agg ((entOf h.E n).cs (.slice A (entOf h.E n).q.length cap)).toArray)) [.hp (own msgE A cap (entOf h.E n).q), .hp (homC k b h)] := by
  refine Zen Tryz.func151 rfl rfl rfl fun e X Φ hS => Zoc 0 hom_op rfl <| fun ok bi r es hk => ?_
  have hl : (entOf h.E n).q.length ≤ 1048576 := by have := (ok.w n hn).l; omega
  by_cases hin : n ∈ keys es
  · obtain ⟨a, b', c, rfl, ha, hc⟩ := keys_split hk.nd hin
    have hlk := lk_mid (b := b') hc ha
    refine Zoc 3 ents_op rfl <| ?_
    refine Zsr <| Ze (eal z165) fun b4 => Zw <| Znl <| Znx <| Zsq <| Zsr <| Zv (ym rfl) <| Zv (yn rfl) <| Zv (yf 1 rfl) <| Zv (yd 3 rfl rfl rfl) ?_
    refine Zv (ym rfl) <| Zv (ylk' 5 hlk rfl rfl rfl Tryz.underlying156 Tryz.underlying40 zv162) <| Zv (ya rfl) <| Znl <| Znx <| Zsr <| Zv (ym rfl) <| Zv (ypne rfl rfl rfl) <| Znl <| Znx ?_
    refine Zct rfl <| Zsr <| Zv (ym rfl) <| Zv (yn rfl) ?_
    refine Zol 1 ent_op rfl <| fun A cap => Zv (ydw 0 (m := 11) rfl rfl rfl) ?_
    refine Zk (c81 A cap (entOf h.E n) hl) [1] rfl rfl <| fun A' => fun cap' => Zq <| Ze (esw 3 (m := 11) rfl rfl rfl rfl rfl rfl rfl) <| Zw0 <| Znl <| Znx <| Zrt <| Zr1 ?_
    refine Zfx [2,1] (ent_fold (b := b') (d := entOf h.E n)) rfl ?_
    refine Zfx [0,2] (ents_in (E := h.E) (n := n) (b := b') (a := a) (c := c)) rfl ?_
    refine Zfx [3,3,3,0] (hom_fold (k := k) (h := h) ok hk) rfl <| Zre (.wh 2 (m := 11) rfl rfl rfl .n) (hS _ _) [1,0] 1 rfl rfl rfl rfl
  · have hlk := lk_no hin
    refine Zsr <| Ze (eal z165) fun b4 => Zw <| Znl <| Znx <| Zsq <| Zsr <| Zv (ym rfl) <| Zv (yn rfl) <| Zv (yf 1 rfl) <| Zv (yd 1 rfl rfl rfl) ?_
    refine Zv (ym rfl) <| Zv (ylk' 3 hlk rfl rfl rfl Tryz.underlying156 Tryz.underlying40 zv162) <| Zv (ya rfl) <| Znl <| Znx <| Zsr <| Zv (ym rfl) <| Zv (ypne rfl rfl rfl) <| Znl <| Znx ?_
    refine Zcf rfl <| Zsk <| Znx <| Zsr <| Zv (yb l165 rfl) <| Ze (esw 0 (m := 11) rfl rfl rfl rfl rfl rfl rfl) <| Zw0 <| Znl <| Znx <| Zrt ?_
    rw [hk.no n hin] at hS
    refine Zix (fun _ hs => sep_nil (E := msgE) hs) ?_
    refine Zfx [2,2,2,2] (hom_fold (k := k) (h := h) ok hk) rfl <| Zre (.wh 2 (m := 11) rfl rfl rfl .n) (hS _ _) [1,0] 1 rfl rfl rfl rfl
end Go.Proofs.YtpfijldkkfiooaaGreatDoor
namespace Go.Proofs.YtpfijldkkfiooaaGreatDoor
open Go
set_option maxRecDepth 4000
abbrev stopH (c : Int) := panV (.iface 308 (.agg #[.int .i64 c]))
theorem c227 (fine : Bool) (why : Int) : Sp Tryz.prog 227 [.bool fine, .int .i64 why] [] fun K => (fine = true → K (.returned (.tuple #[])) []) ∧ (fine = false → K (.panicked (stopH why)) []) := by
  cases fine with
  | true =>
    refine Zen Tryz.func227 rfl rfl rfl fun e X Φ hS => Zsr <| Zv (ym rfl) <| Zv (ynot rfl) <| Znl <| Znx <| Zcf rfl <| Zsk <| Zee ?_
    refine Zre .n (hS.1 rfl) [] 0 rfl rfl rfl rfl
  | false =>
    refine Zen Tryz.func227 rfl rfl rfl fun e X Φ hS => Zsr <| Zv (ym rfl) <| Zv (ynot rfl) <| Znl <| Znx <| Zct rfl <| Zrg <| Zv (ym rfl) <| Zv (yb l308 rfl) ?_
    refine Zv (ymi Tryz.underlying308 rfl rfl) <| Zpn rfl ?_
    refine Zpe (hS.2 rfl) [] 0 rfl rfl
theorem c226 (bw bh bi r : Nat) (m : Msg) (d : Ent) (out : List Msg) (bs : List Int) (hk : m.kind = 1 ∨ m.kind = 2 ∨ m.kind = 3) (h0 : 0 ≤ m.src) (h4 : m.src < 4) (hl : out.length ≤ 900000) : Sp Tryz.prog 226 [.pointer (some ⟨bw, 0, none⟩), .agg (msgE.arr m)] [.hp (workC bw bh bi r m.line d out bs)] fun K => K (.returned (.tuple #[])) [.hp (workC bw bh bi r m.line (beginF bs d m).1 (out ++ (beginF bs d m).2.2) (beginF bs d m).2.1)] := by
  refine Zen Tryz.func226 rfl rfl rfl fun e X Φ hS => ?_
  refine Zsr <| Ze (ebxE rfl) fun b3 => Zw <| Znl <| Znx <| Zrg <| Ze (emk .i64) fun r4 => Zw <| Zv (ym rfl) <| Zv (yfn rfl rfl) <| Ze (ein 0 rfl rfl rfl rfl rfl rfl Tryz.underlying315 Tryz.underlying114) <| Zw0 <| Zv (ym rfl) ?_
  refine Zv (yfn rfl rfl) <| Ze (ein 0 rfl rfl rfl rfl rfl rfl Tryz.underlying315 Tryz.underlying114) <| Zw0 <| Zv (ym rfl) <| Zv (yfn rfl rfl) <| Ze (ein 0 rfl rfl rfl rfl rfl rfl Tryz.underlying315 Tryz.underlying114) <| Zw0 <| Zv (ym rfl) <| Zv (yf 0 rfl) <| Zv (yd 1 rfl rfl rfl) ?_
  rcases hk with hk | hk | hk
  · rw [hk]
    refine Zv (ylk 0 rfl rfl rfl Tryz.underlying315 Tryz.underlying114 zv314) <| Zv (ydw 1 (m := 20) rfl rfl (Enc.len ..)) ?_
    refine Zkv (c255 bw bh bi r m d out bs hk h0 h4 (by omega)) [2] rfl rfl rfl rfl <| Zq <| Znl <| Zee <| Zre .n hS [0] 2 rfl rfl rfl rfl
  · rw [hk]
    refine Zv (ylk 0 rfl rfl rfl Tryz.underlying315 Tryz.underlying114 zv314) <| Zv (ydw 1 (m := 20) rfl rfl (Enc.len ..)) ?_
    refine Zkv (c256 bw bh bi r m d out bs hk hl) [2] rfl rfl rfl rfl <| Zq <| Znl <| Zee <| Zre .n hS [0] 2 rfl rfl rfl rfl
  · rw [hk]
    refine Zv (ylk 0 rfl rfl rfl Tryz.underlying315 Tryz.underlying114 zv314) <| Zv (ydw 1 (m := 20) rfl rfl (Enc.len ..)) ?_
    refine Zkv (c257 bw bh bi r m d out bs hk (by omega)) [2] rfl rfl rfl rfl <| Zq <| Znl <| Zee <| Zre .n hS [0] 2 rfl rfl rfl rfl
def reqF (bs : List Int) (d : Ent) (m : Msg) : Ent × List Int × List Msg := if d.busy then (d.setQ (d.q ++ [m]), bs, []) else beginF bs d m
theorem c192 (bw bh bi r : Nat) (m : Msg) (d : Ent) (out : List Msg) (bs : List Int) (hk : m.kind = 1 ∨ m.kind = 2 ∨ m.kind = 3) (h0 : 0 ≤ m.src) (h4 : m.src < 4) (hl : out.length ≤ 900000) (hq : d.q.length ≤ 1000000) : Sp Tryz.prog 192 [.pointer (some ⟨bw, 0, none⟩), .agg (msgE.arr m)] [.hp (workC bw bh bi r m.line d out bs)] fun K => K (.returned (.tuple #[])) [.hp (workC bw bh bi r m.line (reqF bs d m).1 (out ++ (reqF bs d m).2.2) (reqF bs d m).2.1)] := by
  refine Zen Tryz.func192 rfl rfl rfl fun e X Φ hS => Zoc 0 work_op rfl <| fun ok be A cap Aq cq => ?_
  refine Zsr <| Ze (ebxE rfl) fun b3 => Zw <| Znl <| Znx <| Zsq <| Zsr <| Zv (ym rfl) <| Zv (yn rfl) <| Zv (yf 1 rfl) <| Zv (yd 1 rfl rfl rfl) ?_
  refine Zv (yn rfl) <| Zv (yf 5 rfl) <| Zv (yd 2 rfl rfl rfl) <| Znl <| Znx <| Zib rfl (fun h10 => ?_) (fun h10 => ?_)
  refine Zsq ?_
  rotate_left
  refine Zsk <| Znx <| Zrg <| Zv (ym rfl) <| Zv (ydw 0 (m := 20) rfl rfl (Enc.len ..)) ?_
  rotate_left
  · have e1 : reqF bs d m = (d.setQ (d.q ++ [m]), bs, []) := if_pos h10
    rw [e1] at hS
    refine Zhf 14 [4] rfl rfl <| Zht 0 rfl (ym rfl) <| Zht 1 rfl (yn rfl) <| Zht 2 rfl (yf 1 rfl) <| Zht 3 rfl (yd 1 rfl rfl rfl) <| Zht 4 rfl (ym rfl) <| Zht 5 rfl (yn rfl) <| Zht 6 rfl (yf 1 rfl) <| Zht 7 rfl (yd 1 rfl rfl rfl) <| Zht 8 rfl (yn rfl) ?_
    refine Zht 9 rfl (yf 10 rfl) <| Zht 10 rfl (yd 2 rfl rfl rfl) <| Zht 11 rfl (ydw 0 (m := 20) rfl rfl (Enc.len ..)) <| Zh1 12 (by kernel_rfl) <| Zoe rfl (eb1 elMsg (by decide) rfl) fun A23 => Zwh 2 rfl ?_
    have hm : d.q.length + [m].length ≤ maxLen := ml_le (by show d.q.length + 1 ≤ _; omega)
    refine Zh1 13 (by kernel_rfl) <| Zoe rfl (eap' 1 0 elMsg rfl rfl rfl own.rd rfl rfl rfl (fun _ _ => rfl) (by simp; omega) hm) <| fun A' cap' => Zwh 2 rfl <| Zhn (by kernel_rfl) <| Ztl rfl <| Ztv (yn rfl) <| Ztv (yf 10 rfl) <| Zte (es 4 rfl rfl rfl rfl rfl) <| Ztw <| Ztn <| Znx <| Zrt <| Zr1 ?_
    refine Zfx [3,3,3,1,2,2] (work_fold (d := d.setQ (d.q ++ [m])) (out := out) ok) rfl ?_
    rw [← List.append_nil out]
    refine Zre .n hS [0] 2 rfl rfl rfl rfl
  · have e1 : reqF bs d m = beginF bs d m := if_neg (by rw [h10]; decide)
    rw [e1] at hS
    refine Zfl [1,1,1,1,1,1] (work_fold (d := d) (out := out) ok) rfl ?_
    refine Zk (c226 bw bh bi r m d out bs hk h0 h4 hl) [0] rfl rfl <| Zq <| Znl <| Zee <| Zre .n hS [0] 1 rfl rfl rfl rfl
end Go.Proofs.YtpfijldkkfiooaaGreatDoor
namespace Go.Proofs.YtpfijldkkfiooaaGreatDoor
open Go
set_option maxRecDepth 4000
def backOk (d : Ent) (m : Msg) : Bool := d.busy && decide (0 < d.waits) && decide (d.o = m.src)
def backH (bs : List Int) (d : Ent) (m : Msg) : Ent × List Int × List Msg :=
  let bs' := setLn bs m.line m.bs
  if d.kind = 2 then (writeD (d.setW 0), bs', [sendM m 10 d.asks (lineB bs' m.line)])
  else ((((ownF (d.setW 0) (-1)).setS ((sh0.set m.src true).set d.asks true))).setT true, bs', [sendM m 8 d.asks (lineB bs' m.line)])
theorem c193 (bw bh bi r : Nat) (m : Msg) (d : Ent) (out : List Msg) (bs : List Int) (h0 : 0 ≤ m.src) (h4 : m.src < 4) (ha : 0 ≤ d.asks ∧ d.asks < 4) (hl : out.length ≤ 900000) : Sp Tryz.prog 193 [.pointer (some ⟨bw, 0, none⟩), .agg (msgE.arr m)] [.hp (workC bw bh bi r m.line d out bs)] fun K =>
    (backOk d m = true → K (.returned (.tuple #[])) [.hp (workC bw bh bi r m.line (backH bs d m).1 (out ++ (backH bs d m).2.2) (backH bs d m).2.1)]) ∧ (backOk d m = false → K (.panicked (stopH 220)) [.hp (workC bw bh bi r m.line d out bs)]) := by
  refine Zen Tryz.func193 rfl rfl rfl fun e X Φ hS => Zoc 0 work_op rfl <| fun ok be A cap Aq cq => ?_
  refine Zsr <| Ze (ebxE rfl) fun b3 => Zw <| Znl <| Znx <| Zsq <| Zhd [] rfl rfl <| Zht 0 rfl (ym rfl) <| Zht 1 rfl (yn rfl) <| Zht 2 rfl (yf 1 rfl) <| Zht 3 rfl (yd 1 rfl rfl rfl) ?_
  refine Zht 4 rfl (yn rfl) <| Zht 5 rfl (yf 5 rfl) <| Zht 6 rfl (yd 2 rfl rfl rfl) <| Zht 7 rfl (ym rfl) <| Zhgb 8 rfl rfl rfl (fun h11 => ?_) (fun h11 => ?_)
  refine Zhg 8 rfl rfl (lkn rfl h11) (ym rfl) <| Zhg 9 rfl rfl (lkn rfl h11) (yn rfl) <| Zhg 10 rfl rfl (lkn rfl h11) (yf 1 rfl) <| Zhg 11 rfl rfl (lkn rfl h11) (yd 1 rfl rfl rfl) <| Zhg 12 rfl rfl (lkn rfl h11) (yn rfl) <| Zhg 13 rfl rfl (lkn rfl h11) (yf 8 rfl) <| Zhg 14 rfl rfl (lkn rfl h11) (yd 2 rfl rfl rfl) <| Zhg 15 rfl rfl (lkn rfl h11) (ygt rfl rfl) <| Zht 16 rfl (ypt' rfl h11 rfl) <| Zht 17 rfl (ym rfl) ?_
  refine Zhgs 18 rfl rfl rfl (fun h21 => ?_) (fun h21 => ?_)
  refine Zhg 18 rfl rfl (lkn rfl (decide_eq_true h21)) (ym rfl) <| Zhg 19 rfl rfl (lkn rfl (decide_eq_true h21)) (yn rfl) <| Zhg 20 rfl rfl (lkn rfl (decide_eq_true h21)) (yf 1 rfl) <| Zhg 21 rfl rfl (lkn rfl (decide_eq_true h21)) (yd 1 rfl rfl rfl) <| Zhg 22 rfl rfl (lkn rfl (decide_eq_true h21)) (yn rfl) <| Zhg 23 rfl rfl (lkn rfl (decide_eq_true h21)) (yf 0 rfl) <| Zhg 24 rfl rfl (lkn rfl (decide_eq_true h21)) (yd 2 rfl rfl rfl) <| Zhg 25 rfl rfl (lkn rfl (decide_eq_true h21)) (yf 1 rfl) <| Zhg 26 rfl rfl (lkn rfl (decide_eq_true h21)) (yd 0 rfl rfl rfl) <| Zhg 27 rfl rfl (lkn rfl (decide_eq_true h21)) (yeq rfl rfl) ?_
  refine Zht 28 rfl (ypt' rfl (decide_eq_true h21) rfl) <| Zh1 29 (by kernel_rfl) <| Zok (c227 ..) [] rfl rfl rfl <| ⟨?_, ?_⟩
  refine fun a => Zqh 0 rfl <| Zhn (by kernel_rfl) <| Znx <| Zsq ?_
  rotate_left
  refine fun a => Zqhp <| Zp1 ?_
  rotate_left
  refine Zhu 18 rfl rfl (lkn rfl (decide_eq_false h21)) rfl <| Zhu 19 rfl rfl (lkn rfl (decide_eq_false h21)) rfl <| Zhu 20 rfl rfl (lkn rfl (decide_eq_false h21)) rfl <| Zhu 21 rfl rfl (lkn rfl (decide_eq_false h21)) rfl <| Zhu 22 rfl rfl (lkn rfl (decide_eq_false h21)) rfl <| Zhu 23 rfl rfl (lkn rfl (decide_eq_false h21)) rfl <| Zhu 24 rfl rfl (lkn rfl (decide_eq_false h21)) rfl <| Zhu 25 rfl rfl (lkn rfl (decide_eq_false h21)) rfl <| Zhu 26 rfl rfl (lkn rfl (decide_eq_false h21)) rfl <| Zhu 27 rfl rfl (lkn rfl (decide_eq_false h21)) rfl ?_
  refine Zht 28 rfl (ypf' rfl (decide_eq_false h21) rfl) <| Zh1 29 (by kernel_rfl) <| Zok (c227f (h := rfl) ..) [] rfl rfl rfl <| Zqhp <| Zp1 ?_
  rotate_left
  refine Zhu 8 rfl rfl (lkn rfl h11) rfl <| Zhu 9 rfl rfl (lkn rfl h11) rfl <| Zhu 10 rfl rfl (lkn rfl h11) rfl <| Zhu 11 rfl rfl (lkn rfl h11) rfl <| Zhu 12 rfl rfl (lkn rfl h11) rfl <| Zhu 13 rfl rfl (lkn rfl h11) rfl <| Zhu 14 rfl rfl (lkn rfl h11) rfl <| Zhu 15 rfl rfl (lkn rfl h11) rfl <| Zht 16 rfl (ypf' rfl h11 rfl) <| Zht 17 rfl (ym rfl) ?_
  refine Zhu 18 rfl rfl rfl rfl <| Zhu 19 rfl rfl rfl rfl <| Zhu 20 rfl rfl rfl rfl <| Zhu 21 rfl rfl rfl rfl <| Zhu 22 rfl rfl rfl rfl <| Zhu 23 rfl rfl rfl rfl <| Zhu 24 rfl rfl rfl rfl <| Zhu 25 rfl rfl rfl rfl <| Zhu 26 rfl rfl rfl rfl <| Zhu 27 rfl rfl rfl rfl ?_
  refine Zht 28 rfl (ypf rfl rfl) <| Zh1 29 (by kernel_rfl) <| Zok (c227f (h := rfl) ..) [] rfl rfl rfl <| Zqhp <| Zp1 ?_
  rotate_left
  · have hb : backOk d m = true := by simp only [backOk, h11, h21, a, decide_true, Bool.and_true]
    have hS := hS.1 hb
    obtain ⟨i, hi⟩ := Int.eq_ofNat_of_zero_le h0
    obtain ⟨j, hj⟩ := Int.eq_ofNat_of_zero_le ha.1
    have ok' := ok.set m.line rfl m.bs
    refine Zhd [6] rfl rfl <| Zht 0 rfl (ym rfl) <| Zht 1 rfl (yn rfl) <| Zht 2 rfl (yf 2 rfl) <| Zht 3 rfl (yd 1 rfl rfl rfl) <| Zht 4 rfl (yn rfl) <| Zht 5 rfl (yf 0 rfl) <| Zht 6 rfl (yd 5 rfl rfl rfl) <| Zht 7 rfl (ym rfl) <| Zht 8 rfl (yn rfl) ?_
    refine Zht 9 rfl (yf 3 rfl) <| Zht 10 rfl (yd 1 rfl rfl rfl) <| Zht 11 rfl (yf 4 rfl) <| Zht 12 rfl (yda 0 (m := 16) rfl rfl (msg_bs' _) (Enc.len ..)) ?_
    refine Zh1 13 (by kernel_rfl) <| Zok (c56' bi m.line bs m.bs ok) [0] rfl rfl rfl <| Zqh 1 rfl <| Zhn (by kernel_rfl) <| Znx <| Zsr <| Zv (ym rfl) <| Zv (yn rfl) <| Zv (yf 1 rfl) <| Zv (yd 2 rfl rfl rfl) <| Zv (yn rfl) ?_
    refine Zv (yf 8 rfl) <| Ze (es 3 rfl rfl rfl rfl rfl) <| Zw0 <| Znl <| Znx <| Zsq <| Zsr <| Zv (ym rfl) <| Zv (yn rfl) <| Zv (yf 1 rfl) <| Zv (yd 2 rfl rfl rfl) ?_
    refine Zv (yn rfl) <| Zv (yf 7 rfl) <| Zv (yd 3 rfl rfl rfl) <| Zv (yeq rfl rfl) <| Znl <| Znx <| Zif rfl (fun h61 => ?_) (fun h61 => ?_)
    refine Zsr <| Zv (ym rfl) ?_
    rotate_left
    refine Zsk <| Znx <| Zsr <| Zv (ym rfl) ?_
    rotate_left
    · have e1 : backH bs d m = (writeD (d.setW 0), setLn bs m.line m.bs, [sendM m 10 d.asks (lineB (setLn bs m.line m.bs) m.line)]) := if_pos h61
      rw [e1] at hS
      refine Zfl [2,2,2,2,2,0] (work_fold (d := d.setW 0) (out := out) ok') rfl ?_
      refine Zk (c228 bw bh bi r m.line m.hn (d.setW 0) out (setLn bs m.line m.bs) (by omega)) [0] rfl rfl <| Zq <| Znl <| Znx <| Zrt <| Zr1 <| Zre .n hS [0] 1 rfl rfl rfl rfl
    · have e1 : backH bs d m = ((((ownF (d.setW 0) (-1)).setS ((sh0.set m.src true).set d.asks true))).setT true, setLn bs m.line m.bs, [sendM m 8 d.asks (lineB (setLn bs m.line m.bs) m.line)]) := if_neg h61
      rw [e1] at hS
      refine Zfl [2,2,2,2,2,0] (work_fold (d := d.setW 0) (out := out) ok') rfl <| Zk (c229 ..) [0] rfl rfl <| Zq <| Znl <| Znx <| Zsq ?_
      refine Zoc 0 work_op rfl <| fun _ be A cap Aq cq => ?_
      refine Zhd [1] rfl rfl <| Zht 0 rfl (ym rfl) <| Zht 1 rfl (yn rfl) <| Zht 2 rfl (yf 1 rfl) <| Zht 3 rfl (yd 0 rfl rfl rfl) <| Zht 4 rfl (yf 1 rfl) <| Zht 5 rfl (yd 5 rfl rfl rfl) <| Zht 6 rfl (ym rfl) <| Zht 7 rfl (yn rfl) <| Zht 8 rfl (yf 1 rfl) ?_
      refine Zht 9 rfl (yd 0 rfl rfl rfl) <| Zht 10 rfl (ym rfl) <| Zht 11 rfl (yn rfl) <| Zht 12 rfl (yf 1 rfl) <| Zht 13 rfl (yd 0 rfl rfl rfl) <| Zht 14 rfl (yn rfl) <| Zht 15 rfl (yf 6 rfl) <| Zht 17 rfl (yn rfl) <| Zht 18 rfl (yf 1 rfl) <| Zht 21 rfl (yn rfl) ?_
      refine Zht 22 rfl (yf 1 rfl) <| Zh1 16 (by kernel_rfl) <| Zov rfl (yd 0 rfl rfl rfl) ?_
      refine Zht 19 rfl (yai (i := i) Tryz.underlying163 rfl (congrArg (fun x => some (Value.int .i64 x)) hi) (by omega)) ?_
      refine Zh1 20 (by kernel_rfl) <| Zoe rfl (es 0 rfl rfl rfl (put_sh _ _ _ (i := i) (by omega)) rfl) <| Zwh0 1 rfl ?_
      refine Zht 23 rfl (yai (i := j) Tryz.underlying163 rfl (congrArg (fun x => some (Value.int .i64 x)) hj) (by omega)) ?_
      refine Zh1 24 (by kernel_rfl) <| Zoe rfl (es 0 rfl rfl rfl (put_sh _ _ _ (i := j) (by omega)) rfl) <| Zwh0 1 rfl <| Zhn (by kernel_rfl) <| Znx <| Zsr <| Zv (ym rfl) <| Zv (ym rfl) <| Zv (yn rfl) <| Zv (yf 1 rfl) <| Zv (yd 1 rfl rfl rfl) <| Zv (yn rfl) ?_
      refine Zv (yf 6 rfl) <| Zv (yd 0 rfl rfl rfl) ?_
      rw [← hi, ← hj]
      refine Zfl [1,0,0,0,0,0] (work_fold (d := (ownF (d.setW 0) (-1)).setS ((sh0.set m.src true).set d.asks true)) (out := out) ok') rfl ?_
      refine Zol 0 work_op rfl <| fun _ be A cap Aq cq => ?_
      refine Zfl [0,0,0,0,0,0] (work_fold (d := (ownF (d.setW 0) (-1)).setS ((sh0.set m.src true).set d.asks true)) (out := out) ok') rfl ?_
      refine Zk (c230 bw bh bi r m.line 8 d.asks m.hn true ((ownF (d.setW 0) (-1)).setS ((sh0.set m.src true).set d.asks true)) out (setLn bs m.line m.bs) (by omega)) [0] rfl rfl <| Zq <| Znl <| Znx <| Zrg <| Zv (ym rfl) <| Zv (yn rfl) <| Zv (yf 1 rfl) ?_
      refine Zol 0 work_op rfl <| fun _ be A cap Aq cq => Zv (yd 0 rfl rfl rfl) <| Zv (yn rfl) <| Zv (yf 9 rfl) <| Ze (es 1 rfl rfl rfl rfl rfl) <| Zw0 <| Znl <| Zee ?_
      refine Zfx [0,0,0,0,0,0] (work_fold (d := ((ownF (d.setW 0) (-1)).setS ((sh0.set m.src true).set d.asks true)).setT true) (out := out ++ [sendM m 8 d.asks (lineB (setLn bs m.line m.bs) m.line)]) ok') rfl <| Zre .n hS [0] 1 rfl rfl rfl rfl
  · refine Zfx [1,1,1,1,1,1] (work_fold (d := d) (out := out) ok) rfl ?_
    refine Zpe (hS.2 (by simp only [backOk, h11, h21, a, decide_true, Bool.and_false])) [0] 1 rfl rfl
  · refine Zfx [1,1,1,1,1,1] (work_fold (d := d) (out := out) ok) rfl ?_
    refine Zpe (hS.2 (by simp [backOk, h11, h21])) [0] 1 rfl rfl
  · refine Zfx [1,1,1,1,1,1] (work_fold (d := d) (out := out) ok) rfl ?_
    refine Zpe (hS.2 (by simp [backOk, h11])) [0] 1 rfl rfl
end Go.Proofs.YtpfijldkkfiooaaGreatDoor
