/-
  Part 5 of what the claim stands on: walks through the code, plain laws.
-/
import Derived.Test.YtpfijldkkfiooaaGreatDoorZTA4
set_option linter.unusedVariables false
set_option linter.unusedSimpArgs false
namespace Go.Proofs.YtpfijldkkfiooaaGreatDoor
open Go
set_option maxRecDepth 4000
def ackOk (d : Ent) (m : Msg) : Bool := d.busy && decide (0 < d.waits) && decide (d.o < 0) && d.sh.get m.src && decide (m.src ≠ d.asks)
def ackH (bs : List Int) (d : Ent) (m : Msg) : Ent × List Int × List Msg :=
  let e := (d.setS (d.sh.set m.src false)).setW (d.waits - 1)
  if d.waits = 1 then (writeD e, bs, [sendM m 10 d.asks (lineB bs m.line)]) else (e, bs, [])
theorem c194 (bw bh bi r : Nat) (m : Msg) (d : Ent) (out : List Msg) (bs : List Int) (h0 : 0 ≤ m.src) (h4 : m.src < 4) (hw : d.waits ≤ 4) (hl : out.length ≤ 900000) : Sp Tryz.prog 194 [.pointer (some ⟨bw, 0, none⟩), .agg (msgE.arr m)] [.hp (workC bw bh bi r m.line d out bs)] fun K =>
    (ackOk d m = true → K (.returned (.tuple #[])) [.hp (workC bw bh bi r m.line (ackH bs d m).1 (out ++ (ackH bs d m).2.2) (ackH bs d m).2.1)]) ∧ (ackOk d m = false → K (.panicked (stopH 220)) [.hp (workC bw bh bi r m.line d out bs)]) := by
  obtain ⟨i, hi⟩ := Int.eq_ofNat_of_zero_le h0
  have hg : d.sh.get m.src = d.sh.get (i : Int) := by rw [hi]
  refine Zen Tryz.func194 rfl rfl rfl fun e X Φ hS => Zoc 0 work_op rfl <| fun ok be A cap Aq cq => ?_
  refine Zsr <| Ze (ebxE rfl) fun b3 => Zw <| Znl <| Znx <| Zsq <| Zhd [] rfl rfl <| Zht 0 rfl (ym rfl) <| Zht 1 rfl (yn rfl) <| Zht 2 rfl (yf 1 rfl) <| Zht 3 rfl (yd 1 rfl rfl rfl) ?_
  refine Zht 4 rfl (yn rfl) <| Zht 5 rfl (yf 5 rfl) <| Zht 6 rfl (yd 2 rfl rfl rfl) <| Zht 7 rfl (ym rfl) <| Zhgb 8 rfl rfl rfl (fun h11 => ?_) (fun h11 => ?_)
  refine Zhg 8 rfl rfl (lkn rfl h11) (ym rfl) <| Zhg 9 rfl rfl (lkn rfl h11) (yn rfl) <| Zhg 10 rfl rfl (lkn rfl h11) (yf 1 rfl) <| Zhg 11 rfl rfl (lkn rfl h11) (yd 1 rfl rfl rfl) <| Zhg 12 rfl rfl (lkn rfl h11) (yn rfl) <| Zhg 13 rfl rfl (lkn rfl h11) (yf 8 rfl) <| Zhg 14 rfl rfl (lkn rfl h11) (yd 2 rfl rfl rfl) <| Zhg 15 rfl rfl (lkn rfl h11) (ygt rfl rfl) <| Zht 16 rfl (ypt' rfl h11 rfl) <| Zht 17 rfl (ym rfl) ?_
  refine Zhgs 18 rfl rfl rfl (fun h21 => ?_) (fun h21 => ?_)
  refine Zhg 18 rfl rfl (lkn rfl (decide_eq_true h21)) (ym rfl) <| Zhg 19 rfl rfl (lkn rfl (decide_eq_true h21)) (yn rfl) <| Zhg 20 rfl rfl (lkn rfl (decide_eq_true h21)) (yf 1 rfl) <| Zhg 21 rfl rfl (lkn rfl (decide_eq_true h21)) (yd 1 rfl rfl rfl) <| Zhg 22 rfl rfl (lkn rfl (decide_eq_true h21)) (yn rfl) <| Zhg 23 rfl rfl (lkn rfl (decide_eq_true h21)) (yf 0 rfl) <| Zhg 24 rfl rfl (lkn rfl (decide_eq_true h21)) (yd 2 rfl rfl rfl) <| Zhg 25 rfl rfl (lkn rfl (decide_eq_true h21)) (ylt rfl rfl) <| Zht 26 rfl (ypt' rfl (decide_eq_true h21) rfl) <| Zht 27 rfl (ym rfl) ?_
  refine Zhgs 28 rfl rfl rfl (fun h31 => ?_) (fun h31 => ?_)
  refine Zhg 28 rfl rfl (lkn rfl (decide_eq_true h31)) (ym rfl) <| Zhg 29 rfl rfl (lkn rfl (decide_eq_true h31)) (yn rfl) <| Zhg 30 rfl rfl (lkn rfl (decide_eq_true h31)) (yf 1 rfl) <| Zhg 31 rfl rfl (lkn rfl (decide_eq_true h31)) (yd 1 rfl rfl rfl) <| Zhg 32 rfl rfl (lkn rfl (decide_eq_true h31)) (yf 1 rfl) <| Zhg 33 rfl rfl (lkn rfl (decide_eq_true h31)) (yd 0 rfl rfl rfl) <| Zhg 34 rfl rfl (lkn rfl (decide_eq_true h31)) (yn rfl) <| Zhg 35 rfl rfl (lkn rfl (decide_eq_true h31)) (yf 1 rfl) ?_
  rotate_left
  refine Zhu 28 rfl rfl (lkn rfl (decide_eq_false h31)) rfl <| Zhu 29 rfl rfl (lkn rfl (decide_eq_false h31)) rfl <| Zhu 30 rfl rfl (lkn rfl (decide_eq_false h31)) rfl <| Zhu 31 rfl rfl (lkn rfl (decide_eq_false h31)) rfl <| Zhu 32 rfl rfl (lkn rfl (decide_eq_false h31)) rfl <| Zhu 33 rfl rfl (lkn rfl (decide_eq_false h31)) rfl <| Zhu 34 rfl rfl (lkn rfl (decide_eq_false h31)) rfl <| Zhu 35 rfl rfl (lkn rfl (decide_eq_false h31)) rfl <| Zhu 36 rfl rfl (lkn rfl (decide_eq_false h31)) rfl <| Zhu 37 rfl rfl (lkn rfl (decide_eq_false h31)) rfl ?_
  refine Zht 38 rfl (ypf' rfl (decide_eq_false h31) rfl) <| Zht 39 rfl (ym rfl) <| Zhu 40 rfl rfl rfl rfl <| Zhu 41 rfl rfl rfl rfl <| Zhu 42 rfl rfl rfl rfl <| Zhu 43 rfl rfl rfl rfl <| Zhu 44 rfl rfl rfl rfl <| Zhu 45 rfl rfl rfl rfl <| Zhu 46 rfl rfl rfl rfl <| Zhu 47 rfl rfl rfl rfl ?_
  refine Zhu 48 rfl rfl rfl rfl <| Zhu 49 rfl rfl rfl rfl <| Zht 50 rfl (ypf rfl rfl) <| Zh1 51 (by kernel_rfl) <| Zok (c227f (h := rfl) ..) [] rfl rfl rfl <| Zqhp <| Zp1 ?_
  rotate_left
  refine Zhu 18 rfl rfl (lkn rfl (decide_eq_false h21)) rfl <| Zhu 19 rfl rfl (lkn rfl (decide_eq_false h21)) rfl <| Zhu 20 rfl rfl (lkn rfl (decide_eq_false h21)) rfl <| Zhu 21 rfl rfl (lkn rfl (decide_eq_false h21)) rfl <| Zhu 22 rfl rfl (lkn rfl (decide_eq_false h21)) rfl <| Zhu 23 rfl rfl (lkn rfl (decide_eq_false h21)) rfl <| Zhu 24 rfl rfl (lkn rfl (decide_eq_false h21)) rfl <| Zhu 25 rfl rfl (lkn rfl (decide_eq_false h21)) rfl <| Zht 26 rfl (ypf' rfl (decide_eq_false h21) rfl) <| Zht 27 rfl (ym rfl) ?_
  refine Zhu 28 rfl rfl rfl rfl <| Zhu 29 rfl rfl rfl rfl <| Zhu 30 rfl rfl rfl rfl <| Zhu 31 rfl rfl rfl rfl <| Zhu 32 rfl rfl rfl rfl <| Zhu 33 rfl rfl rfl rfl <| Zhu 34 rfl rfl rfl rfl <| Zhu 35 rfl rfl rfl rfl <| Zhu 36 rfl rfl rfl rfl <| Zhu 37 rfl rfl rfl rfl ?_
  refine Zht 38 rfl (ypf rfl rfl) <| Zht 39 rfl (ym rfl) <| Zhu 40 rfl rfl rfl rfl <| Zhu 41 rfl rfl rfl rfl <| Zhu 42 rfl rfl rfl rfl <| Zhu 43 rfl rfl rfl rfl <| Zhu 44 rfl rfl rfl rfl <| Zhu 45 rfl rfl rfl rfl <| Zhu 46 rfl rfl rfl rfl <| Zhu 47 rfl rfl rfl rfl ?_
  refine Zhu 48 rfl rfl rfl rfl <| Zhu 49 rfl rfl rfl rfl <| Zht 50 rfl (ypf rfl rfl) <| Zh1 51 (by kernel_rfl) <| Zok (c227f (h := rfl) ..) [] rfl rfl rfl <| Zqhp <| Zp1 ?_
  rotate_left
  refine Zhu 8 rfl rfl (lkn rfl h11) rfl <| Zhu 9 rfl rfl (lkn rfl h11) rfl <| Zhu 10 rfl rfl (lkn rfl h11) rfl <| Zhu 11 rfl rfl (lkn rfl h11) rfl <| Zhu 12 rfl rfl (lkn rfl h11) rfl <| Zhu 13 rfl rfl (lkn rfl h11) rfl <| Zhu 14 rfl rfl (lkn rfl h11) rfl <| Zhu 15 rfl rfl (lkn rfl h11) rfl <| Zht 16 rfl (ypf' rfl h11 rfl) <| Zht 17 rfl (ym rfl) ?_
  refine Zhu 18 rfl rfl rfl rfl <| Zhu 19 rfl rfl rfl rfl <| Zhu 20 rfl rfl rfl rfl <| Zhu 21 rfl rfl rfl rfl <| Zhu 22 rfl rfl rfl rfl <| Zhu 23 rfl rfl rfl rfl <| Zhu 24 rfl rfl rfl rfl <| Zhu 25 rfl rfl rfl rfl <| Zht 26 rfl (ypf rfl rfl) <| Zht 27 rfl (ym rfl) ?_
  refine Zhu 28 rfl rfl rfl rfl <| Zhu 29 rfl rfl rfl rfl <| Zhu 30 rfl rfl rfl rfl <| Zhu 31 rfl rfl rfl rfl <| Zhu 32 rfl rfl rfl rfl <| Zhu 33 rfl rfl rfl rfl <| Zhu 34 rfl rfl rfl rfl <| Zhu 35 rfl rfl rfl rfl <| Zhu 36 rfl rfl rfl rfl <| Zhu 37 rfl rfl rfl rfl ?_
  refine Zht 38 rfl (ypf rfl rfl) <| Zht 39 rfl (ym rfl) <| Zhu 40 rfl rfl rfl rfl <| Zhu 41 rfl rfl rfl rfl <| Zhu 42 rfl rfl rfl rfl <| Zhu 43 rfl rfl rfl rfl <| Zhu 44 rfl rfl rfl rfl <| Zhu 45 rfl rfl rfl rfl <| Zhu 46 rfl rfl rfl rfl <| Zhu 47 rfl rfl rfl rfl ?_
  refine Zhu 48 rfl rfl rfl rfl <| Zhu 49 rfl rfl rfl rfl <| Zht 50 rfl (ypf rfl rfl) <| Zh1 51 (by kernel_rfl) <| Zok (c227f (h := rfl) ..) [] rfl rfl rfl <| Zqhp <| Zp1 ?_
  rotate_left
  · refine Zhg 36 rfl rfl (lkn rfl (decide_eq_true h31)) (yai (i := i) Tryz.underlying163 rfl (congrArg (fun x => some (Value.int .i64 x)) hi) (by omega)) ?_
    refine Zhg 37 rfl rfl (lkn rfl (decide_eq_true h31)) (yd 2 rfl rfl (nth_sh d _ (i := i) (by omega))) <| Zht 38 rfl (ypt' rfl (decide_eq_true h31) rfl) <| Zht 39 rfl (ym rfl) <| Zhgb 40 rfl rfl rfl (fun h43 => ?_) (fun h43 => ?_)
    refine Zhg 40 rfl rfl (lkn rfl h43) (yf 1 rfl) <| Zhg 41 rfl rfl (lkn rfl h43) (yd 0 rfl rfl rfl) <| Zhg 42 rfl rfl (lkn rfl h43) (ym rfl) <| Zhg 43 rfl rfl (lkn rfl h43) (yn rfl) <| Zhg 44 rfl rfl (lkn rfl h43) (yf 1 rfl) <| Zhg 45 rfl rfl (lkn rfl h43) (yd 1 rfl rfl rfl) <| Zhg 46 rfl rfl (lkn rfl h43) (yn rfl) <| Zhg 47 rfl rfl (lkn rfl h43) (yf 6 rfl) <| Zhg 48 rfl rfl (lkn rfl h43) (yd 2 rfl rfl rfl) <| Zhg 49 rfl rfl (lkn rfl h43) (yne rfl rfl) ?_
    refine Zht 50 rfl (ypt' rfl h43 rfl) <| Zh1 51 (by kernel_rfl) <| Zok (c227 ..) [] rfl rfl rfl <| ⟨?_, ?_⟩
    refine fun a => Zqh 0 rfl <| Zhn (by kernel_rfl) <| Znx <| Zsq ?_
    rotate_left
    refine fun a => Zqhp <| Zp1 ?_
    rotate_left
    refine Zhu 40 rfl rfl (lkn rfl h43) rfl <| Zhu 41 rfl rfl (lkn rfl h43) rfl <| Zhu 42 rfl rfl (lkn rfl h43) rfl <| Zhu 43 rfl rfl (lkn rfl h43) rfl <| Zhu 44 rfl rfl (lkn rfl h43) rfl <| Zhu 45 rfl rfl (lkn rfl h43) rfl <| Zhu 46 rfl rfl (lkn rfl h43) rfl <| Zhu 47 rfl rfl (lkn rfl h43) rfl <| Zhu 48 rfl rfl (lkn rfl h43) rfl <| Zhu 49 rfl rfl (lkn rfl h43) rfl ?_
    refine Zht 50 rfl (ypf' rfl h43 rfl) <| Zh1 51 (by kernel_rfl) <| Zok (c227f (h := rfl) ..) [] rfl rfl rfl <| Zqhp <| Zp1 ?_
    rotate_left
    · have hb : ackOk d m = true := by rw [ackOk, h11, decide_eq_true h21, decide_eq_true h31, hg, h43, a]; rfl
      have hS := hS.1 hb
      have ew : IntKind.i64.wrap ((d.setS (d.sh.set (i : Int) false)).waits - 1) = d.waits - 1 := i64w rfl (by omega)
      refine Zhd [2] rfl rfl <| Zht 0 rfl (ym rfl) <| Zht 1 rfl (yn rfl) <| Zht 2 rfl (yf 1 rfl) <| Zht 3 rfl (yd 1 rfl rfl rfl) <| Zht 4 rfl (yf 1 rfl) <| Zht 5 rfl (yd 0 rfl rfl rfl) <| Zht 6 rfl (yn rfl) <| Zht 7 rfl (yf 1 rfl) ?_
      refine Zht 8 rfl (yai (i := i) Tryz.underlying163 rfl (congrArg (fun x => some (Value.int .i64 x)) hi) (by omega)) ?_
      refine Zh1 9 (by kernel_rfl) <| Zoe rfl (es 0 rfl rfl rfl (put_sh _ _ _ (i := i) (by omega)) rfl) <| Zwh0 1 rfl <| Zhn (by kernel_rfl) <| Znx <| Zsr <| Zv (ym rfl) <| Zv (yn rfl) <| Zv (yf 1 rfl) <| Zv (yd 2 rfl rfl rfl) <| Zv (yn rfl) <| Zv (yf 8 rfl) ?_
      refine Zv (yd 0 rfl rfl rfl) <| Zv (ysub rfl rfl rfl) <| Zv (yn rfl) <| Zv (yf 8 rfl) <| Ze (es 0 rfl rfl rfl rfl rfl) <| Zw0 <| Znl <| Znx <| Zsr <| Zv (ym rfl) <| Zv (yn rfl) ?_
      refine Zv (yf 1 rfl) <| Zv (yd 2 rfl rfl rfl) <| Zv (yn rfl) <| Zv (yf 8 rfl) <| Zv (yd 0 rfl rfl rfl) <| Zv (yeq rfl rfl) <| Znl <| Znx <| Zif rfl (fun h82 => ?_) (fun h82 => ?_)
      refine Zrg <| Zv (ym rfl) ?_
      rotate_left
      refine Zsk <| Zee ?_
      rotate_left
      · rw [ew] at h82 ⊢
        rw [← hi]
        have e1 : ackH bs d m = (writeD ((d.setS (d.sh.set m.src false)).setW (d.waits - 1)), bs, [sendM m 10 d.asks (lineB bs m.line)]) := if_pos (by omega)
        rw [e1] at hS
        refine Zfl [2,0,1,1,1,1] (work_fold (d := (d.setS (d.sh.set m.src false)).setW (d.waits - 1)) (out := out) ok) rfl ?_
        refine Zk (c228 bw bh bi r m.line m.hn ((d.setS (d.sh.set m.src false)).setW (d.waits - 1)) out bs (by omega)) [0] rfl rfl <| Zq <| Znl <| Zee <| Zre .n hS [0] 1 rfl rfl rfl rfl
      · rw [ew] at h82 ⊢
        rw [← hi]
        have e1 : ackH bs d m = ((d.setS (d.sh.set m.src false)).setW (d.waits - 1), bs, []) := if_neg (by omega)
        rw [e1] at hS
        refine Zfx [2,0,1,1,1,1] (work_fold (d := (d.setS (d.sh.set m.src false)).setW (d.waits - 1)) (out := out) ok) rfl ?_
        rw [← List.append_nil out]
        refine Zre .n hS [0] 1 rfl rfl rfl rfl
    · refine Zfx [1,1,1,1,1,1] (work_fold (d := d) (out := out) ok) rfl ?_
      refine Zpe (hS.2 (by rw [ackOk, a]; simp)) [0] 1 rfl rfl
    · refine Zfx [1,1,1,1,1,1] (work_fold (d := d) (out := out) ok) rfl ?_
      refine Zpe (hS.2 (by rw [ackOk, hg, h43]; simp)) [0] 1 rfl rfl
  · refine Zfx [1,1,1,1,1,1] (work_fold (d := d) (out := out) ok) rfl ?_
    refine Zpe (hS.2 (by rw [ackOk, decide_eq_false h31]; simp)) [0] 1 rfl rfl
  · refine Zfx [1,1,1,1,1,1] (work_fold (d := d) (out := out) ok) rfl ?_
    refine Zpe (hS.2 (by rw [ackOk, decide_eq_false h21]; simp)) [0] 1 rfl rfl
  · refine Zfx [1,1,1,1,1,1] (work_fold (d := d) (out := out) ok) rfl ?_
    refine Zpe (hS.2 (by rw [ackOk, h11]; simp)) [0] 1 rfl rfl
end Go.Proofs.YtpfijldkkfiooaaGreatDoor
namespace Go.Proofs.YtpfijldkkfiooaaGreatDoor
open Go
set_option maxRecDepth 4000
section
variable {P : Program} {α : Type} [DecidableEq α] {E : Enc P α} {A : Option Addr} {cap : Nat} {l : List α}
theorem own_drop {k : Nat} (hk : k ≤ l.length) : ∀ h, Sep [.hp (own E A cap l)] h → own E (cutA A cap k E.n) (cap - k) (l.drop k) h := fun h hs => by
  obtain ⟨h', _, hle', _, _, ⟨h1, h2, h3⟩, _⟩ := hs
  refine ⟨by rw [List.length_drop]; omega, by omega, ?_⟩
  rcases h3 with ⟨rfl, h3⟩ | ⟨g, o, cs, rfl, hg, ho, hr⟩
  · refine .inl ⟨?_, by omega⟩
    unfold cutA; split <;> rfl
  · right
    unfold cutA
    split
    · rename_i hc
      have e : l.drop k = [] := List.drop_eq_nil_of_le (by omega)
      refine ⟨g, o, cs, rfl, hle' _ _ hg, ?_, by rw [e]; simp⟩
      rw [hc, Nat.sub_self, Nat.zero_mul]
      have := Nat.zero_le (cap * E.n)
      omega
    · have hle : k * E.n ≤ cap * E.n := Nat.mul_le_mul_right _ (by omega)
      refine ⟨g, o + k * E.n, cs, by simp [Addr.add_mid], hle' _ _ hg, by rw [Nat.sub_mul]; omega, ?_⟩
      have e : ((l.take k).flatMap E.cells).length = k * E.n := by rw [flat_len, List.length_take, Nat.min_eq_left hk]
      have e2 : l.flatMap E.cells = (l.take k).flatMap E.cells ++ (l.drop k).flatMap E.cells := by rw [← List.flatMap_append, List.take_append_drop]
      have e3 : (l.flatMap E.cells).drop (k * E.n) = (l.drop k).flatMap E.cells := by rw [e2, ← e, List.drop_left]
      rw [← e3, ← hr, List.drop_take, List.drop_drop, List.length_drop, Nat.sub_mul]
end
theorem beg_q (bs : List Int) (d : Ent) (m : Msg) : (beginF bs d m).1.q = d.q := by
  unfold beginF
  dsimp only
  repeat' split
  all_goals rfl
theorem beg_len (bs : List Int) (d : Ent) (m : Msg) : (beginF bs d m).2.2.length ≤ 4 := by
  have h4 := oth_len (leaveF d m.src).sh m.src 4
  unfold beginF
  dsimp only
  repeat' split
  all_goals first
    | exact Nat.le_trans (Nat.le_refl 1) (by decide)
    | (simp only [List.length_map]; exact h4)
theorem c226' (bw bh bi r : Nat) (n : Int) (m : Msg) (hn : m.line = n) (d : Ent) (out : List Msg) (bs : List Int) (hk : m.kind = 1 ∨ m.kind = 2 ∨ m.kind = 3) (h0 : 0 ≤ m.src) (h4 : m.src < 4) (hl : out.length ≤ 900000) : Sp Tryz.prog 226 [.pointer (some ⟨bw, 0, none⟩), .agg (msgE.arr m)] [.hp (workC bw bh bi r n d out bs)] fun K => K (.returned (.tuple #[])) [.hp (workC bw bh bi r n (beginF bs d m).1 (out ++ (beginF bs d m).2.2) (beginF bs d m).2.1)] := by
  subst hn
  exact c226 bw bh bi r m d out bs hk h0 h4 hl
def Ent.fre (d : Ent) : Ent := ⟨d.o, d.sh, false, 0, 0, d.waits, false, d.q⟩
def doneOk (d : Ent) (m : Msg) : Bool := d.busy && d.told && decide (d.asks = m.src)
def drainF : List Msg → List Int → Ent → Ent × List Int × List Msg
  | [], bs, d => (d.setQ [], bs, [])
  | m :: r, bs, d => if d.busy then (d.setQ (m :: r), bs, [])
    else
      let x := beginF bs (d.setQ r) m
      let y := drainF r x.2.1 x.1
      (y.1, y.2.1, x.2.2 ++ y.2.2)
theorem drain_busy {bs : List Int} {d : Ent} (h : d.busy = true) : drainF d.q bs d = (d, bs, []) := by
  obtain ⟨o, sh, b, a, k, w, t, q⟩ := d
  cases q with
  | nil => rfl
  | cons m r => exact if_pos h
theorem drain_nil {bs : List Int} {d : Ent} (h : d.q = []) : drainF d.q bs d = (d, bs, []) := by
  obtain ⟨o, sh, b, a, k, w, t, q⟩ := d
  have h : q = [] := h
  subst h
  rfl
theorem drain_step {bs : List Int} {d : Ent} {m : Msg} {r : List Msg} (h : d.busy = false) (hq : d.q = m :: r) : drainF d.q bs d = ((drainF r (beginF bs (d.setQ r) m).2.1 (beginF bs (d.setQ r) m).1).1, (drainF r (beginF bs (d.setQ r) m).2.1 (beginF bs (d.setQ r) m).1).2.1, (beginF bs (d.setQ r) m).2.2 ++ (drainF r (beginF bs (d.setQ r) m).2.1 (beginF bs (d.setQ r) m).1).2.2) := by
  rw [hq]
  exact if_neg (by rw [h]; decide)
structure DrI (n : Int) (d : Ent) (bs : List Int) (p : Ent × List Int × List Msg) : Prop where
  e1 : (drainF d.q bs d.fre).1 = (drainF p.1.q p.2.1 p.1).1
  e2 : (drainF d.q bs d.fre).2.1 = (drainF p.1.q p.2.1 p.1).2.1
  e3 : (drainF d.q bs d.fre).2.2 = p.2.2 ++ (drainF p.1.q p.2.1 p.1).2.2
  q : ∀ x ∈ p.1.q, (x.kind = 1 ∨ x.kind = 2 ∨ x.kind = 3) ∧ 0 ≤ x.src ∧ x.src < 4 ∧ x.line = n
  l : p.2.2.length + 4 * p.1.q.length ≤ 4 * d.q.length
theorem DrI.step {n : Int} {d : Ent} {bs : List Int} {d' : Ent} {bs' : List Int} {o' : List Msg} {m : Msg} {r : List Msg} (h : DrI n d bs (d', bs', o')) (hb : d'.busy = false) (hq : d'.q = m :: r) : DrI n d bs ((beginF bs' (d'.setQ r) m).1, (beginF bs' (d'.setQ r) m).2.1, o' ++ (beginF bs' (d'.setQ r) m).2.2) := by
  have hs := drain_step (bs := bs') hb hq
  have hbq : (beginF bs' (d'.setQ r) m).1.q = r := beg_q ..
  have hbl := beg_len bs' (d'.setQ r) m
  obtain ⟨e1, e2, e3, q, l⟩ := h
  have q' : ∀ x ∈ d'.q, _ := q
  have l' : o'.length + 4 * d'.q.length ≤ 4 * d.q.length := l
  rw [hq] at q' l'
  refine ⟨?_, ?_, ?_, ?_, ?_⟩
  · rw [e1]; show (drainF d'.q bs' d').1 = (drainF (beginF bs' (d'.setQ r) m).1.q (beginF bs' (d'.setQ r) m).2.1 (beginF bs' (d'.setQ r) m).1).1; rw [hs, hbq]
  · rw [e2]; show (drainF d'.q bs' d').2.1 = (drainF (beginF bs' (d'.setQ r) m).1.q (beginF bs' (d'.setQ r) m).2.1 (beginF bs' (d'.setQ r) m).1).2.1; rw [hs, hbq]
  · rw [e3]; show o' ++ (drainF d'.q bs' d').2.2 = (o' ++ (beginF bs' (d'.setQ r) m).2.2) ++ _; rw [hs, List.append_assoc]; rw [hbq]
  · show ∀ x ∈ (beginF bs' (d'.setQ r) m).1.q, _
    rw [hbq]
    exact fun x hx => q' x (List.mem_cons_of_mem _ hx)
  · show (o' ++ (beginF bs' (d'.setQ r) m).2.2).length + 4 * (beginF bs' (d'.setQ r) m).1.q.length ≤ _
    rw [hbq, List.length_append]
    simp only [List.length_cons] at l'
    omega
theorem c195 (bw bh bi r : Nat) (n : Int) (m : Msg) (d : Ent) (out : List Msg) (bs : List Int) (hq : ∀ x ∈ d.q, (x.kind = 1 ∨ x.kind = 2 ∨ x.kind = 3) ∧ 0 ≤ x.src ∧ x.src < 4 ∧ x.line = n) (hl : out.length + 4 * d.q.length ≤ 800000) : Sp Tryz.prog 195 [.pointer (some ⟨bw, 0, none⟩), .agg (msgE.arr m)] [.hp (workC bw bh bi r n d out bs)] fun K =>
    (doneOk d m = true → K (.returned (.tuple #[])) [.hp (workC bw bh bi r n (drainF d.q bs d.fre).1 (out ++ (drainF d.q bs d.fre).2.2) (drainF d.q bs d.fre).2.1)]) ∧ (doneOk d m = false → K (.panicked (stopH 220)) [.hp (workC bw bh bi r n d out bs)]) := by
  refine Zen Tryz.func195 rfl rfl rfl fun e X Φ hS => Zoc 0 work_op rfl <| fun ok be A cap Aq cq => ?_
  refine Zsr <| Ze (ebxE rfl) fun b3 => Zw <| Znl <| Znx <| Zsq <| Zhd [] rfl rfl <| Zht 0 rfl (ym rfl) <| Zht 1 rfl (yn rfl) <| Zht 2 rfl (yf 1 rfl) <| Zht 3 rfl (yd 1 rfl rfl rfl) ?_
  refine Zht 4 rfl (yn rfl) <| Zht 5 rfl (yf 5 rfl) <| Zht 6 rfl (yd 2 rfl rfl rfl) <| Zht 7 rfl (ym rfl) <| Zhgb 8 rfl rfl rfl (fun h12 => ?_) (fun h12 => ?_)
  refine Zhg 8 rfl rfl (lkn rfl h12) (ym rfl) <| Zhg 9 rfl rfl (lkn rfl h12) (yn rfl) <| Zhg 10 rfl rfl (lkn rfl h12) (yf 1 rfl) <| Zhg 11 rfl rfl (lkn rfl h12) (yd 1 rfl rfl rfl) <| Zhg 12 rfl rfl (lkn rfl h12) (yn rfl) <| Zhg 13 rfl rfl (lkn rfl h12) (yf 9 rfl) <| Zhg 14 rfl rfl (lkn rfl h12) (yd 2 rfl rfl rfl) <| Zht 15 rfl (ypt' rfl h12 rfl) <| Zht 16 rfl (ym rfl) <| Zhgb 17 rfl rfl rfl (fun h21 => ?_) (fun h21 => ?_)
  refine Zhg 17 rfl rfl (lkn rfl h21) (ym rfl) <| Zhg 18 rfl rfl (lkn rfl h21) (yn rfl) <| Zhg 19 rfl rfl (lkn rfl h21) (yf 1 rfl) <| Zhg 20 rfl rfl (lkn rfl h21) (yd 1 rfl rfl rfl) <| Zhg 21 rfl rfl (lkn rfl h21) (yn rfl) <| Zhg 22 rfl rfl (lkn rfl h21) (yf 6 rfl) <| Zhg 23 rfl rfl (lkn rfl h21) (yd 2 rfl rfl rfl) <| Zhg 24 rfl rfl (lkn rfl h21) (yf 1 rfl) <| Zhg 25 rfl rfl (lkn rfl h21) (yd 0 rfl rfl rfl) <| Zhg 26 rfl rfl (lkn rfl h21) (yeq rfl rfl) ?_
  refine Zht 27 rfl (ypt' rfl h21 rfl) <| Zh1 28 (by kernel_rfl) <| Zok (c227 ..) [] rfl rfl rfl <| ⟨?_, ?_⟩
  refine fun a => Zqh 0 rfl <| Zhn (by kernel_rfl) <| Znx <| Zsq ?_
  rotate_left
  refine fun a => Zqhp <| Zp1 ?_
  rotate_left
  refine Zhu 17 rfl rfl (lkn rfl h21) rfl <| Zhu 18 rfl rfl (lkn rfl h21) rfl <| Zhu 19 rfl rfl (lkn rfl h21) rfl <| Zhu 20 rfl rfl (lkn rfl h21) rfl <| Zhu 21 rfl rfl (lkn rfl h21) rfl <| Zhu 22 rfl rfl (lkn rfl h21) rfl <| Zhu 23 rfl rfl (lkn rfl h21) rfl <| Zhu 24 rfl rfl (lkn rfl h21) rfl <| Zhu 25 rfl rfl (lkn rfl h21) rfl <| Zhu 26 rfl rfl (lkn rfl h21) rfl ?_
  refine Zht 27 rfl (ypf' rfl h21 rfl) <| Zh1 28 (by kernel_rfl) <| Zok (c227f (h := rfl) ..) [] rfl rfl rfl <| Zqhp <| Zp1 ?_
  rotate_left
  refine Zhu 8 rfl rfl (lkn rfl h12) rfl <| Zhu 9 rfl rfl (lkn rfl h12) rfl <| Zhu 10 rfl rfl (lkn rfl h12) rfl <| Zhu 11 rfl rfl (lkn rfl h12) rfl <| Zhu 12 rfl rfl (lkn rfl h12) rfl <| Zhu 13 rfl rfl (lkn rfl h12) rfl <| Zhu 14 rfl rfl (lkn rfl h12) rfl <| Zht 15 rfl (ypf' rfl h12 rfl) <| Zht 16 rfl (ym rfl) <| Zhu 17 rfl rfl rfl rfl ?_
  refine Zhu 18 rfl rfl rfl rfl <| Zhu 19 rfl rfl rfl rfl <| Zhu 20 rfl rfl rfl rfl <| Zhu 21 rfl rfl rfl rfl <| Zhu 22 rfl rfl rfl rfl <| Zhu 23 rfl rfl rfl rfl <| Zhu 24 rfl rfl rfl rfl <| Zhu 25 rfl rfl rfl rfl <| Zhu 26 rfl rfl rfl rfl <| Zht 27 rfl (ypf rfl rfl) ?_
  refine Zh1 28 (by kernel_rfl) <| Zok (c227f (h := rfl) ..) [] rfl rfl rfl <| Zqhp <| Zp1 ?_
  rotate_left
  · refine Zhd [2] rfl rfl <| Zht 0 rfl (ym rfl) <| Zht 1 rfl (yn rfl) <| Zht 2 rfl (yf 1 rfl) <| Zht 3 rfl (yd 1 rfl rfl rfl) <| Zht 4 rfl (ym rfl) <| Zht 5 rfl (yn rfl) <| Zht 6 rfl (yf 1 rfl) <| Zht 7 rfl (yd 1 rfl rfl rfl) <| Zht 8 rfl (ym rfl) ?_
    refine Zht 9 rfl (yn rfl) <| Zht 10 rfl (yf 1 rfl) <| Zht 11 rfl (yd 1 rfl rfl rfl) <| Zht 12 rfl (ym rfl) <| Zht 13 rfl (yn rfl) <| Zht 14 rfl (yf 1 rfl) <| Zht 15 rfl (yd 1 rfl rfl rfl) <| Zht 16 rfl (yn rfl) <| Zht 17 rfl (yf 5 rfl) <| Zh1 18 (by kernel_rfl) <| Zoe rfl (es 0 rfl rfl rfl rfl rfl) <| Zwh0 1 rfl ?_
    refine Zht 19 rfl (yn rfl) <| Zht 20 rfl (yf 6 rfl) <| Zh1 21 (by kernel_rfl) <| Zoe rfl (es 0 rfl rfl rfl rfl rfl) <| Zwh0 1 rfl <| Zht 22 rfl (yn rfl) <| Zht 23 rfl (yf 7 rfl) <| Zh1 24 (by kernel_rfl) <| Zoe rfl (es 0 rfl rfl rfl rfl rfl) <| Zwh0 1 rfl <| Zht 25 rfl (yn rfl) <| Zht 26 rfl (yf 9 rfl) <| Zh1 27 (by kernel_rfl) <| Zoe rfl (es 0 rfl rfl rfl rfl rfl) <| Zwh0 1 rfl <| Zhn (by kernel_rfl) ?_
    refine Znx <| Zbl ?_
    have hb : doneOk d m = true := by rw [doneOk, h12, h21, a]; rfl
    have hS := hS.1 hb
    refine Zfc [2,0,1,1,1,1] (work_fold (d := d.fre) (out := out) ok) rfl ?_
    rw [← List.append_nil out]
    refine Zlq (ι := { p : Ent × List Int × List Msg // DrI n d bs p }) (fun p => [(0, .pointer (some ⟨bw, 0, none⟩))]) (fun p => [.hp (workC bw bh bi r n p.1.1 (out ++ p.1.2.2) p.1.2.1)]) (fun p => p.1.1.q.length) ⟨(d.fre, bs, []), rfl, rfl, rfl, hq, by show 0 + _ ≤ _; rw [Nat.zero_add]; exact Nat.le_refl _⟩ ⟨rfl, trivial⟩ [0] rfl fun p => Zoc 0 work_op rfl <| fun ok' be' A' cap' Aq' cq' => ?_
    obtain ⟨⟨⟨eo, es_, eb, ea, ek, ew, et, eq⟩, bs', o'⟩, hI⟩ := p
    cases eb with
    | true =>
      refine Zsq <| Zsr <| Zv (ym rfl) <| Zv (yn rfl) <| Zv (yf 1 rfl) <| Zv (yd 0 rfl rfl rfl) <| Zv (yn rfl) <| Zv (yf 5 rfl) <| Zv (yd 1 rfl rfl rfl) <| Zv (ynot rfl) ?_
      refine Zv (ym rfl) <| Zu rfl rfl rfl <| Zu rfl rfl rfl <| Zu rfl rfl rfl <| Zu rfl rfl rfl <| Zu rfl rfl rfl <| Zu rfl rfl rfl <| Zu rfl rfl rfl <| Zu rfl rfl rfl <| Zu rfl rfl rfl ?_
      refine Zv (ypf rfl rfl) <| Znl <| Znx <| Zcf rfl <| Zex <| Zxt <| Zxt <| Zxx <| Zee ?_
      have hd := drain_busy (bs := bs') (d := ⟨eo, es_, true, ea, ek, ew, et, eq⟩) rfl
      refine Zfx [0,0,0,0,0,0] (work_fold (d := ⟨eo, es_, true, ea, ek, ew, et, eq⟩) (out := out ++ o') ok') rfl ?_
      rw [hI.e1, hI.e2, hI.e3] at hS
      dsimp only at hS
      rw [hd, List.append_nil] at hS
      refine Zre .n hS [0] 1 rfl rfl rfl rfl
    | false =>
      cases eq with
      | nil =>
        refine Zsq <| Zsr <| Zv (ym rfl) <| Zv (yn rfl) <| Zv (yf 1 rfl) <| Zv (yd 0 rfl rfl rfl) <| Zv (yn rfl) <| Zv (yf 5 rfl) <| Zv (yd 1 rfl rfl rfl) <| Zv (ynot rfl) ?_
        refine Zv (ym rfl) <| Zg rfl rfl <| Zv (ym rfl) <| Zg rfl rfl <| Zv (yn rfl) <| Zg rfl rfl <| Zv (yf 1 rfl) <| Zg rfl rfl <| Zv (yd 0 rfl rfl rfl) <| Zg rfl rfl ?_
        refine Zv (yn rfl) <| Zg rfl rfl <| Zv (yf 10 rfl) <| Zg rfl rfl <| Zv (yd 1 rfl rfl rfl) <| Zg rfl rfl <| Zv (sl_of ⟨_, Tryz.underlying112⟩ rfl) <| Zg rfl rfl <| Zv (ygt rfl rfl) <| Zv (ypt rfl rfl) ?_
        refine Znl <| Znx <| Zcf rfl <| Zex <| Zxt <| Zxt <| Zxx <| Zee ?_
        have hd := drain_nil (bs := bs') (d := ⟨eo, es_, false, ea, ek, ew, et, []⟩) rfl
        refine Zfx [0,0,0,0,0,0] (work_fold (d := ⟨eo, es_, false, ea, ek, ew, et, []⟩) (out := out ++ o') ok') rfl ?_
        rw [hI.e1, hI.e2, hI.e3] at hS
        dsimp only at hS
        rw [hd, List.append_nil] at hS
        refine Zre .n hS [0] 1 rfl rfl rfl rfl
      | cons m' q' =>
        have hx : (m' :: q')[0]? = some m' := rfl
        have hI' := hI.step rfl rfl
        have hl' : o'.length + 4 * (m' :: q').length ≤ 4 * d.q.length := hI.l
        have hlo : (out ++ o').length ≤ 900000 := by rw [List.length_append]; omega
        obtain ⟨hk', h0', h4', hln'⟩ := hI.q m' (.head _)
        have hd1 : 1 ≤ (m' :: q').length := Nat.succ_le_succ (Nat.zero_le q'.length)
        refine Zsq <| Zsr <| Zv (ym rfl) <| Zv (yn rfl) <| Zv (yf 1 rfl) <| Zv (yd 0 rfl rfl rfl) <| Zv (yn rfl) <| Zv (yf 5 rfl) <| Zv (yd 1 rfl rfl rfl) <| Zv (ynot rfl) ?_
        refine Zv (ym rfl) <| Zg rfl rfl <| Zv (ym rfl) <| Zg rfl rfl <| Zv (yn rfl) <| Zg rfl rfl <| Zv (yf 1 rfl) <| Zg rfl rfl <| Zv (yd 0 rfl rfl rfl) <| Zg rfl rfl ?_
        refine Zv (yn rfl) <| Zg rfl rfl <| Zv (yf 10 rfl) <| Zg rfl rfl <| Zv (yd 1 rfl rfl rfl) <| Zg rfl rfl <| Zv (sl_of ⟨_, Tryz.underlying112⟩ rfl) <| Zg rfl rfl <| Zv (ygt rfl rfl) <| Zv (ypt rfl rfl) ?_
        refine Znl <| Znx <| Zif rfl (fun h76 => ?_) (fun h76 => ?_)
        refine Zsk <| Znx <| Zbl <| Zsr <| Zv (ym rfl) <| Zv (yn rfl) <| Zv (yf 1 rfl) <| Zv (yd 0 rfl rfl rfl) <| Zv (yn rfl) <| Zv (yf 10 rfl) ?_
        refine Zv (yd 1 rfl rfl rfl) <| Zv (yea (j := 0) 3 own.rd rfl rfl rfl (by first | assumption | omega) rfl Tryz.underlying112 rfl) <| Zv (yel 3 own.rd rfl (by assumption) rfl rfl rfl) <| Ze (eal z117) fun b4 => Zw <| Ze (esw 0 (m := 20) rfl rfl rfl rfl rfl (Enc.len ..) (Enc.allL ..)) <| Zw0 <| Znl <| Znx <| Zsq ?_
        rotate_left
        refine Zex <| Zxt <| Zxt <| Zxx <| Zee ?_
        rotate_left
        · refine Zhd [2] rfl rfl <| Zht 0 rfl (ym rfl) <| Zht 1 rfl (yn rfl) <| Zht 2 rfl (yf 1 rfl) <| Zht 3 rfl (yd 1 rfl rfl rfl) <| Zht 4 rfl (ym rfl) <| Zht 5 rfl (yn rfl) <| Zht 6 rfl (yf 1 rfl) <| Zht 7 rfl (yd 1 rfl rfl rfl) <| Zht 8 rfl (yn rfl) ?_
          refine Zht 9 rfl (yf 10 rfl) <| Zh1 10 (by kernel_rfl) <| Zov rfl (yd 0 rfl rfl rfl) ?_
          refine Zht 11 rfl (ysld (j := 1) 20 Tryz.underlying112 rfl rfl hd1) <| Zht 12 rfl (yn rfl) <| Zht 13 rfl (yf 10 rfl) <| Zh1 14 (by kernel_rfl) <| Zoe rfl (es 0 rfl rfl rfl rfl rfl) <| Zwh0 1 rfl <| Zhn (by kernel_rfl) <| Znx <| Zrg <| Zv (ym rfl) <| Zv (ydw 1 (m := 20) rfl rfl (Enc.len ..)) ?_
          refine Zfl (p := own msgE (cutA Aq' cq' 1 20) (cq' - 1) q') [4] (own_drop (k := 1) (l := m' :: q') hd1) rfl ?_
          refine Zfl [3,1,2,0,1,1] (work_fold (d := ⟨eo, es_, false, ea, ek, ew, et, q'⟩) (out := out ++ o') (bs := bs') ok') rfl ?_
          refine Zk (c226' bw bh bi r n m' hln' ⟨eo, es_, false, ea, ek, ew, et, q'⟩ (out ++ o') bs' hk' h0' h4' hlo) [0] rfl rfl <| Zq <| Znl <| Zxn ?_
          rw [List.append_assoc]
          have hm : (beginF bs' ((⟨eo, es_, false, ea, ek, ew, et, m' :: q'⟩ : Ent).setQ q') m').1.q.length < (m' :: q').length := by rw [beg_q]; exact Nat.lt_succ_self _
          refine Zlr ⟨(_, _, _), hI'⟩ hm ⟨rfl, trivial⟩ [0] 1 rfl rfl
        · exact absurd (show (0 : Int) < (((m' :: q').length : Nat) : Int) by omega) h76
  · refine Zfx [1,1,1,1,1,1] (work_fold (d := d) (out := out) ok) rfl ?_
    refine Zpe (hS.2 (by rw [doneOk, a]; simp)) [0] 1 rfl rfl
  · refine Zfx [1,1,1,1,1,1] (work_fold (d := d) (out := out) ok) rfl ?_
    refine Zpe (hS.2 (by rw [doneOk, h21]; simp)) [0] 1 rfl rfl
  · refine Zfx [1,1,1,1,1,1] (work_fold (d := d) (out := out) ok) rfl ?_
    refine Zpe (hS.2 (by rw [doneOk, h12]; simp)) [0] 1 rfl rfl
end Go.Proofs.YtpfijldkkfiooaaGreatDoor
namespace Go.Proofs.YtpfijldkkfiooaaGreatDoor
open Go
def putH (h : HD) (m : Msg) (x : Ent × List Int × List Msg) : HD × List Msg × Int := (⟨x.2.1, h.E.set m.line.toNat x.1⟩, x.2.2, 0)
def takeH (h : HD) (m : Msg) : HD × List Msg × Int :=
  if chk m ≠ 0 ∨ m.dst ≠ 4 then (h, [], 2)
  else if (h.E.length : Int) ≤ m.line then (h, [], 4)
  else if m.kind = 11 then (if backOk (entOf h.E m.line.toNat) m = true then putH h m (backH h.bs (entOf h.E m.line.toNat) m) else (h, [], 220))
  else if m.kind = 12 then (if ackOk (entOf h.E m.line.toNat) m = true then putH h m (ackH h.bs (entOf h.E m.line.toNat) m) else (h, [], 220))
  else if m.kind = 13 then (if doneOk (entOf h.E m.line.toNat) m = true then putH h m (drainF (entOf h.E m.line.toNat).q h.bs (entOf h.E m.line.toNat).fre) else (h, [], 220))
  else putH h m (reqF h.bs (entOf h.E m.line.toNat) m)
section
variable {k : Nat} {n : Int} {d : Ent} {bs : List Int} {m : Msg}
theorem EW.leave (h : EW k n d) (r : Int) : EW k n (leaveF d r) := ⟨h.a, h.w, h.q, h.l⟩
theorem EW.own (h : EW k n d) (r : Int) : EW k n (ownF d r) := ⟨h.a, h.w, h.q, h.l⟩
theorem EW.busy (h : EW k n d) (hm : RqOk n m) (w : Int) (t : Bool) (hw : w ≤ 4) : EW k n (busyF d m w t) := ⟨⟨hm.s0, hm.s4⟩, hw, h.q, h.l⟩
theorem EW.setS (h : EW k n d) (s : Sh) : EW k n (d.setS s) := ⟨h.a, h.w, h.q, h.l⟩
theorem EW.setT (h : EW k n d) (s : Bool) : EW k n (d.setT s) := ⟨h.a, h.w, h.q, h.l⟩
theorem EW.setW (h : EW k n d) (w : Int) (hw : w ≤ 4) : EW k n (d.setW w) := ⟨h.a, hw, h.q, h.l⟩
theorem EW.fre (h : EW k n d) : EW k n d.fre := ⟨by show (0 : Int) ≤ 0 ∧ (0 : Int) < 4; decide, h.w, h.q, h.l⟩
theorem EW.begin (h : EW k n d) (hm : RqOk n m) : EW k n (beginF bs d m).1 := by
  have h4 : (othersF (leaveF d m.src).sh m.src).length ≤ 4 := oth_len ..
  have hl := h.leave m.src
  unfold beginF
  dsimp only
  repeat' split
  · exact hl
  · exact hl
  · exact hl.busy hm 1 false (by decide)
  · exact (hl.own _).busy hm 0 true (by decide)
  · exact hl.busy hm ((othersF (leaveF d m.src).sh m.src).length : Int) false (by omega)
  · exact (hl.own _).busy hm 0 true (by decide)
  · exact (hl.setS _).busy hm 0 true (by decide)
theorem EW.qq (h : EW k n d) {q : List Msg} {k' : Nat} (hq : ∀ x ∈ q, RqOk n x) (hl : q.length ≤ k') : EW k' n (d.setQ q) := ⟨h.a, h.w, hq, hl⟩
theorem EW.drain : ∀ (q : List Msg) (bs : List Int) (d : Ent), EW k n d → (∀ x ∈ q, RqOk n x) → q.length ≤ k → EW k n (drainF q bs d).1
  | [], bs, d, h, hq, hl => h.qq hq hl
  | m :: r, bs, d, h, hq, hl => by
    have hr : ∀ x ∈ r, RqOk n x := fun x hx => hq x (.tail _ hx)
    have hrl : r.length ≤ k := by simp only [List.length_cons] at hl; omega
    cases hb : d.busy with
    | true =>
      rw [show drainF (m :: r) bs d = (d.setQ (m :: r), bs, []) from if_pos hb]
      exact h.qq hq hl
    | false =>
      rw [show drainF (m :: r) bs d = _ from if_neg (by rw [hb]; decide)]
      exact EW.drain r _ _ ((h.qq hr hrl).begin (hq m (.head _))) hr hrl
theorem EW.req (h : EW k n d) (hm : RqOk n m) : EW (k + 1) n (reqF bs d m).1 := by
  unfold reqF
  split
  · refine h.qq (fun x hx => ?_) (by rw [List.length_append]; have := h.l; simp; omega)
    rcases List.mem_append.1 hx with hx | hx
    · exact h.q x hx
    · rw [List.mem_singleton] at hx; subst hx; exact hm
  · exact (h.begin hm).mono (Nat.le_succ k)
theorem EW.back (h : EW k n d) : EW k n (backH bs d m).1 := by
  unfold backH
  dsimp only
  split
  · exact ((h.setW 0 (by decide)).own _).setT _
  · exact (((h.setW 0 (by decide)).own _).setS _).setT _
theorem EW.ack (h : EW k n d) : EW k n (ackH bs d m).1 := by
  have := h.w
  unfold ackH
  dsimp only
  split
  · exact (((h.setS _).setW _ (by omega)).own _).setT _
  · exact (h.setS _).setW _ (by omega)
theorem setLn_len (hn : Byt bs n) (hm : m.line = n) (b : B16) : (setLn bs m.line b).length = bs.length := by
  subst hm
  exact set_len hn.n1 b.2.1
theorem beg_bl (hn : Byt bs n) (hm : m.line = n) : (beginF bs d m).2.1.length = bs.length ∧ Byt (beginF bs d m).2.1 n := by
  unfold beginF
  dsimp only
  repeat' split
  all_goals first
    | exact ⟨rfl, hn⟩
    | exact ⟨setLn_len hn hm _, hn.set _ hm _⟩
theorem req_bl (hn : Byt bs n) (hm : m.line = n) : (reqF bs d m).2.1.length = bs.length := by
  unfold reqF
  split
  · rfl
  · exact (beg_bl hn hm).1
theorem back_bl (hn : Byt bs n) (hm : m.line = n) : (backH bs d m).2.1.length = bs.length := by
  unfold backH
  dsimp only
  split <;> exact setLn_len hn hm _
theorem ack_bl : (ackH bs d m).2.1 = bs := by
  unfold ackH
  dsimp only
  split <;> rfl
theorem drain_bl : ∀ (q : List Msg) (bs : List Int) (d : Ent), Byt bs n → (∀ x ∈ q, RqOk n x) → (drainF q bs d).2.1.length = bs.length
  | [], bs, d, hn, hq => rfl
  | m :: r, bs, d, hn, hq => by
    cases hb : d.busy with
    | true => rw [show drainF (m :: r) bs d = (d.setQ (m :: r), bs, []) from if_pos hb]
    | false =>
      rw [show drainF (m :: r) bs d = _ from if_neg (by rw [hb]; decide)]
      obtain ⟨b1, b2⟩ := beg_bl (d := d.setQ r) hn (hq m (.head _)).l
      exact (drain_bl r _ _ b2 fun x hx => hq x (.tail _ hx)).trans b1
end
theorem HOk.put {k : Nat} {h : HD} {n : Nat} {bs : List Int} {d : Ent} (a : HOk k h) (hn : n < h.E.length) (hb : Byt bs (n : Int)) (hl : bs.length = h.bs.length) (hd : EW (k + 1) (n : Int) d) : HOk (k + 1) ⟨bs, h.E.set n d⟩ :=
  ⟨hb.r, hb.l, by show 0 < bs.length; rw [hl]; exact a.p, by show (h.E.set n d).length = bs.length / 16; rw [List.length_set, hl]; exact a.e, fun i hi => by
    show EW (k + 1) (i : Int) (entOf (h.E.set n d) i)
    have hi : i < h.E.length := by rw [show (⟨bs, h.E.set n d⟩ : HD).E = h.E.set n d from rfl, List.length_set] at hi; exact hi
    unfold entOf
    by_cases e : n = i
    · subst e
      rw [List.getD_eq_getElem?_getD, List.getElem?_set_self hn]
      exact hd
    · rw [List.getD_eq_getElem?_getD, List.getElem?_set_ne e, ← List.getD_eq_getElem?_getD]
      exact (a.w i hi).mono (Nat.le_succ k)⟩
theorem KOk.put {E : List Ent} {es : List (Nat × Nat)} {n b : Nat} {d : Ent} (hn : n < E.length) (h : KOk E es) (hno : n ∉ keys es) : KOk (E.set n d) ((n, b) :: es) :=
  ⟨List.nodup_cons.2 ⟨hno, h.nd⟩, fun i hi => by
    rw [List.length_set]
    rcases List.mem_cons.1 hi with e | hi
    · rw [e]; exact hn
    · exact h.lt i hi, fun i hi => by
    have e : n ≠ i := fun e => hi (by rw [e]; exact .head _)
    have := h.no i fun x => hi (.tail _ x)
    unfold entOf at *
    rw [List.getD_eq_getElem?_getD, List.getElem?_set_ne e, ← List.getD_eq_getElem?_getD]
    exact this⟩
theorem keys_mid {a c : List (Nat × Nat)} {n b b' : Nat} : keys (a ++ (n, b) :: c) = keys (a ++ (n, b') :: c) := by simp [keys]
theorem KOk.upd {E : List Ent} {a c : List (Nat × Nat)} {n b b' : Nat} {d : Ent} (h : KOk E (a ++ (n, b) :: c)) : KOk (E.set n d) (a ++ (n, b') :: c) := by
  have e := keys_mid (a := a) (c := c) (n := n) (b := b) (b' := b')
  refine ⟨e ▸ h.nd, fun i hi => by rw [List.length_set]; exact h.lt i (e ▸ hi), fun i hi => ?_⟩
  have hne : n ≠ i := fun x => hi (by rw [← x]; simp [keys])
  have := h.no i (e ▸ hi)
  unfold entOf at *
  rw [List.getD_eq_getElem?_getD, List.getElem?_set_ne hne, ← List.getD_eq_getElem?_getD]
  exact this
theorem ents_other {E : List Ent} {n : Nat} {d : Ent} {es : List (Nat × Nat)} {h : Hl} (hno : n ∉ keys es) (hs : entsC E es h) : entsC (E.set n d) es h := many_imp hs fun x hx g hg => by
  have hne : n ≠ x.1 := fun e => hno (by rw [e]; exact List.mem_map_of_mem hx)
  have : entOf (E.set n d) x.1 = entOf E x.1 := by
    unfold entOf
    rw [List.getD_eq_getElem?_getD, List.getElem?_set_ne hne, ← List.getD_eq_getElem?_getD]
  show entC x.2 (entOf (E.set n d) x.1) g
  rw [this]
  exact hg
theorem ent_set {E : List Ent} {n : Nat} {d : Ent} (hn : n < E.length) : entOf (E.set n d) n = d := by
  unfold entOf
  rw [List.getD_eq_getElem?_getD, List.getElem?_set_self hn]
  rfl
theorem ents_new {E : List Ent} {n b : Nat} {d : Ent} {es : List (Nat × Nat)} (hn : n < E.length) (hno : n ∉ keys es) : ∀ h, Sep [.hp (entC b d), .hp (entsC E es)] h → entsC (E.set n d) ((n, b) :: es) h := fun h hs => by
  show Sep [.hp (entC b (entOf (E.set n d) n)), .hp (entsC (E.set n d) es)] h
  rw [ent_set hn]
  exact hs.mapTl fun _ hh => hh.hd (q := .hp (entsC (E.set n d) es)) fun _ hq => ents_other hno hq
theorem ents_upd {E : List Ent} {n b b' : Nat} {d : Ent} {a c : List (Nat × Nat)} (hn : n < E.length) (ha : n ∉ keys a) (hc : n ∉ keys c) : ∀ h, Sep [.hp (entC b' d), .hp (entsC E (a ++ (n, b) :: c))] h → entsC (E.set n d) (a ++ (n, b') :: c) h := fun h hs => by
  refine many_in a ?_
  show Sep [.hp (entC b' (entOf (E.set n d) n)), .hp (entsC (E.set n d) (a ++ c))] h
  rw [ent_set hn]
  have hno : n ∉ keys (a ++ c) := by simp only [keys, List.map_append, List.mem_append]; exact fun x => x.elim ha hc
  exact hs.mapTl fun _ hh => hh.hd (q := .hp (entsC (E.set n d) (a ++ c))) fun _ hq => ents_other hno (many_up (many_drop hq))
end Go.Proofs.YtpfijldkkfiooaaGreatDoor
namespace Go.Proofs.YtpfijldkkfiooaaGreatDoor
open Go
set_option maxRecDepth 4000
def home0 (bs : List Int) : HD := ⟨bs, List.replicate (bs.length / 16) ent0⟩
theorem ent_rep (n k : Nat) : entOf (List.replicate n ent0) k = ent0 := by
  unfold entOf
  rw [List.getD_eq_getElem?_getD]
  cases h : (List.replicate n ent0)[k]? with
  | none => rfl
  | some x =>
    have := List.mem_of_getElem? h
    rw [List.mem_replicate] at this
    exact this.2
theorem ent0_ok (n : Int) : EW 0 n ent0 := ⟨by decide, by decide, fun m h => (by cases h), Nat.le_refl 0⟩
theorem home0_ok {bs : List Int} (h0 : 0 < bs.length) (hl : bs.length ≤ 1048576) (hr : ∀ a ∈ bs, 0 ≤ a ∧ a < 256) : HOk 0 (home0 bs) := ⟨hr, hl, h0, List.length_replicate, fun n _ => by rw [show (home0 bs).E = List.replicate (bs.length / 16) ent0 from rfl, ent_rep]; exact ent0_ok _⟩
theorem kok0 (bs : List Int) : KOk (home0 bs).E [] := ⟨List.nodup_nil, fun n h => (by cases h), fun n _ => ent_rep _ _⟩
theorem many_nil {β : Type} {F : β → HP} {L : List Ck} {h : Hl} (hs : Sep L h) : Sep (.hp (manyC F []) :: L) h := ⟨fun _ => none, h, fun _ _ e => (by cases e), Le.refl h, fun _ => .inl rfl, trivial, hs⟩
theorem c71 (b : Nat) (bs : List Int) (h0 : 0 < bs.length) (hl : bs.length ≤ 1048576) (hr : ∀ a ∈ bs, 0 ≤ a ∧ a < 256) : Sp Tryz.prog 71 [.pointer (some ⟨b, 0, none⟩)] [.hp (imgC b bs)] fun K => ∀ b', K (.returned (.tuple #[.pointer (some ⟨b', 0, none⟩), .int .i64 0])) [.hp (homC 0 b' (home0 bs)), .hp (imgC b bs)] := by
  refine Zen Tryz.func71 rfl rfl rfl fun e X Φ hS => Zsr <| Zv (ya rfl) <| Zv (ya rfl) <| Znl <| Znx <| Zsr <| Zv (ym rfl) <| Zk (c63 ..) [0] rfl rfl <| fun b' => ?_
  refine Zq <| Zv (ya rfl) <| Znl <| Znx <| Zsq <| Zsr <| Zv (ym rfl) <| Zv (ypeq rfl rfl rfl) <| Znl <| Znx ?_
  refine Zcf rfl <| Zsk <| Znx <| Zsr <| Zv (ym rfl) <| Ze (emk .u32) fun r10 => Zw <| Zv (yb l158 rfl) <| Ze (ebx rfl) fun b12 => Zw <| Zv (ya rfl) <| Zv (ya rfl) ?_
  refine Znl <| Znx <| Zrt ?_
  refine Zix (fun _ hs => many_nil (F := fun x : Nat × Nat => entC x.2 (entOf (home0 bs).E x.1)) hs) ?_
  refine Zfx [1,3,1,0] (hom_fold (k := 0) (b := b12) (h := home0 bs) (es := []) (home0_ok h0 hl hr) (kok0 bs)) rfl <| Zre (.t rfl (.t rfl .n)) (hS _) [0,0] 0 rfl rfl rfl rfl
theorem c25 (k b : Nat) (h : HD) : Sp Tryz.prog 25 [.pointer (some ⟨b, 0, none⟩)] [.hp (homC k b h)] fun K => ∀ b', K (.returned (.pointer (some ⟨b', 0, none⟩))) [.hp (imgC b' h.bs), .hp (homC k b h)] := by
  refine Zen Tryz.func25 rfl rfl rfl fun e X Φ hS => Zsr <| Zv (ya rfl) <| Znl <| Znx <| Zsq <| Zsr <| Zv (ym rfl) <| Zk (c62 ..) [0] rfl rfl <| Zq ?_
  refine Znl <| Znx <| Zcf rfl <| Zsk <| Znx <| Zsr <| Zv (ym rfl) <| Zv (yn rfl) <| Zv (yf 0 rfl) ?_
  refine Zol 0 hom_op rfl <| fun ok bi r kE hK => Zv (yd 0 rfl rfl rfl) ?_
  have hp := ok.p
  have hl := ok.l
  refine Zk (c63 bi h.bs hp hl) [1] rfl rfl <| fun b' => Zq <| Zv (ya rfl) <| Znl <| Znx <| Zrt ?_
  refine Zfx [2,0,1,1] (hom_fold (k := k) (h := h) ok hK) rfl <| Zre (.t rfl .n) (hS _) [1,0] 0 rfl rfl rfl rfl
theorem ents_cons {E : List Ent} {n b : Nat} {es : List (Nat × Nat)} : ∀ h, Sep [.hp (entC b (entOf E n)), .hp (entsC E es)] h → entsC E ((n, b) :: es) h := fun _ hs => hs
theorem ents_op' {E : List Ent} {kE : List (Nat × Nat)} {n b : Nat} {a c : List (Nat × Nat)} (e : kE = a ++ (n, b) :: c) : Op_ (entsC E kE) fun K => K [.hp (entC b (entOf E n)), .hp (entsC E (a ++ c))] := e ▸ ents_op
theorem ents_in' {E : List Ent} {kE : List (Nat × Nat)} {n b : Nat} {a c : List (Nat × Nat)} (e : kE = a ++ (n, b) :: c) : ∀ h, Sep [.hp (entC b (entOf E n)), .hp (entsC E (a ++ c))] h → entsC E kE h := e ▸ ents_in
structure CpI (kE : List (Nat × Nat)) (p : List MapEntry × List (Nat × Nat)) : Prop where
  a : ∀ s ∈ p.1, s ∈ esOf .u32 (mp kE)
  b : ∀ s ∈ p.1, ∃ n ∈ keys p.2, s.key = .int .u32 (n : Int)
  c : ∀ n ∈ keys p.2, ∃ s ∈ p.1, s.key = .int .u32 (n : Int)
  d : (keys p.2).Nodup
  e : ∀ n ∈ keys p.2, n ∈ keys kE
theorem CpI.nil (kE : List (Nat × Nat)) : CpI kE ([], []) := ⟨fun s h => (by cases h), fun s h => (by cases h), fun n h => (by cases h), List.nodup_nil, fun n h => (by cases h)⟩
theorem mp_keys (kE : List (Nat × Nat)) (h : (keys kE).Nodup) : ((mp kE).map (·.1)).Nodup := by
  have e : (mp kE).map (·.1) = (keys kE).map (fun n : Nat => (n : Int)) := by simp [mp, keys, List.map_map, Function.comp_def]
  rw [e]
  exact List.pairwise_map.2 (h.imp fun hab x => hab (by omega))
theorem CpI.fresh {kE : List (Nat × Nat)} {p : List MapEntry × List (Nat × Nat)} (h : CpI kE p) (hn : (keys kE).Nodup) {s : MapEntry} (hs : s ∈ esOf .u32 (mp kE)) (hns : s ∉ p.1) {n : Nat} (hk : s.key = .int .u32 (n : Int)) : n ∉ keys p.2 := fun hm => by
  obtain ⟨s', h1, h2⟩ := h.c n hm
  exact hns (es_key (mp_keys kE hn) (h.a s' h1) hs (h2.trans hk.symm) ▸ h1)
theorem CpI.step {kE : List (Nat × Nat)} {p : List MapEntry × List (Nat × Nat)} (h : CpI kE p) (hn : (keys kE).Nodup) {s : MapEntry} (hs : s ∈ esOf .u32 (mp kE)) (hns : s ∉ p.1) {n : Nat} (hk : s.key = .int .u32 (n : Int)) (hin : n ∈ keys kE) (b' : Nat) : CpI kE (p.1 ++ [s], (n, b') :: p.2) := by
  have hf := h.fresh hn hs hns hk
  refine ⟨fun x hx => ?_, fun x hx => ?_, fun x hx => ?_, List.nodup_cons.2 ⟨hf, h.d⟩, fun x hx => ?_⟩
  · rcases List.mem_append.1 hx with hx | hx
    · exact h.a x hx
    · rw [List.mem_singleton] at hx; subst hx; exact hs
  · rcases List.mem_append.1 hx with hx | hx
    · obtain ⟨m, h1, h2⟩ := h.b x hx
      exact ⟨m, .tail _ h1, h2⟩
    · rw [List.mem_singleton] at hx; subst hx; exact ⟨n, .head _, hk⟩
  · rcases List.mem_cons.1 hx with e | hx
    · exact ⟨s, List.mem_append.2 (.inr (.head _)), by rw [e]; exact hk⟩
    · obtain ⟨x', h1, h2⟩ := h.c x hx
      exact ⟨x', List.mem_append.2 (.inl h1), h2⟩
  · rcases List.mem_cons.1 hx with e | hx
    · rw [e]; exact hin
    · exact h.e x hx
theorem CpI.len {kE : List (Nat × Nat)} {p : List MapEntry × List (Nat × Nat)} (h : CpI kE p) : p.2.length ≤ kE.length := by
  have := nodup_le _ _ h.d h.e
  simpa [keys] using this
theorem CpI.done {E : List Ent} {kE : List (Nat × Nat)} {p : List MapEntry × List (Nat × Nat)} (h : CpI kE p) (hK : KOk E kE) (hall : ∀ s ∈ esOf .u32 (mp kE), s ∈ p.1) : KOk E p.2 := by
  refine ⟨h.d, fun n hn => hK.lt n (h.e n hn), fun n hn => hK.no n fun hm => hn ?_⟩
  obtain ⟨x, hx, e⟩ := List.mem_map.1 hm
  obtain ⟨s, hs, hk⟩ := mem_es (k := .u32) (show ((x.1 : Int), Value.pointer (some ⟨x.2, 0, none⟩)) ∈ mp kE from List.mem_map.2 ⟨x, hx, rfl⟩)
  obtain ⟨m, h1, h2⟩ := h.b s (hall s hs)
  rw [h2] at hk
  cases e
  have : m = x.1 := by
    have := Value.int.inj hk
    omega
  rw [← this]
  exact h1
theorem c40 (k b : Nat) (h : HD) (hk2 : k ≤ 1000) : Sp Tryz.prog 40 [.pointer (some ⟨b, 0, none⟩)] [.hp (homC k b h)] fun K => ∀ b', K (.returned (.pointer (some ⟨b', 0, none⟩))) [.hp (homC k b' h), .hp (homC k b h)] := by
  refine Zen Tryz.func40 rfl rfl rfl fun e X Φ hS => Zsr <| Zv (ya rfl) <| Znl <| Znx <| Zsq <| Zsr <| Zv (ym rfl) <| Zk (c62 ..) [0] rfl rfl <| Zq ?_
  refine Znl <| Znx <| Zcf rfl <| Zsk <| Znx <| Zsr <| Zv (ym rfl) <| Zv (yn rfl) <| Zv (yf 0 rfl) ?_
  refine Zol 0 hom_op rfl <| fun ok bi r kE hK => Zv (yd 0 rfl rfl rfl) ?_
  have hp := ok.p
  have hl := ok.l
  refine Zk (c63 ..) [1] rfl rfl <| fun b' => Zq <| Ze (emk .u32) fun r14 => Zw <| Zv (yb l158 rfl) <| Ze (ebx rfl) fun b16 => Zw <| Zv (ya rfl) <| Znl <| Znx <| Zsq ?_
  refine Zsr <| Zv (ym rfl) <| Zv (yn rfl) <| Zv (yf 1 rfl) <| Zv (yd 4 rfl rfl rfl) ?_
  refine Ze (emr 5 rfl rfl Tryz.underlying156) <| fun it => Zw <| Znl <| Znx <| Zbl ?_
  refine Zic (fun _ hs => many_nil (F := fun x : Nat × Nat => entC x.2 (entOf h.E x.1)) hs) ?_
  refine Zlq (ι := { p : List MapEntry × List (Nat × Nat) // CpI kE p }) (fun _ => [(21, .pointer (some ⟨it, 0, none⟩)), (3, .pointer (some ⟨b16, 0, none⟩))]) (fun p => [iterC it r (mp kE) p.1.1, mapC .u32 r14 (mp p.1.2), .hp (entsC h.E p.1.2), .hp (entsC h.E kE)]) (fun p => kE.length - p.1.2.length) ⟨([], []), CpI.nil kE⟩ ⟨rfl, rfl, trivial⟩ [1, 2, 0, 5] rfl fun p => Zsr ?_
  refine Ze (enx 0 8 rfl rfl rfl p.2.a) ⟨fun hall => ?_, fun s hs hns L' hL' => ?_⟩
  · refine Zw ?_
    refine Zv (yx rfl rfl) <| Znl <| Znx <| Zsq <| Zcf rfl <| Zex <| Zxt <| Zxt <| Zxx <| Znx ?_
    refine Zsr <| Zv (ym rfl) <| Zv (ya rfl) <| Znl <| Znx <| Zrt ?_
    have hK2 := p.2.done hK hall
    refine Zfx [4,5,1,1] (hom_fold (k := k) (h := h) (es := p.1.2) ok hK2) rfl ?_
    refine Zfx [4,3,3,2] (hom_fold (k := k) (h := h) (es := kE) ok hK) rfl <| Zre (.t rfl .n) (hS _) [1,0] 1 rfl rfl rfl rfl
  · cases hL'
    refine Zw ?_
    refine Zv (yx rfl rfl) <| Znl <| Znx <| Zsq <| Zct rfl <| Zsk <| Znx <| Zbl <| Zsr ?_
    obtain ⟨x, hx, k1, k2, _⟩ := es_mem hs
    obtain ⟨⟨n, bn⟩, hm, rfl⟩ := List.mem_map.1 hx
    have k1' : s.key = .int .u32 (n : Int) := k1
    have k2' : s.val = .pointer (some ⟨bn, 0, none⟩) := k2
    have hf := p.2.fresh hK.nd hs hns k1'
    have hin : n ∈ keys kE := List.mem_map.2 ⟨_, hm, rfl⟩
    obtain ⟨a, c, hE⟩ := List.append_of_mem hm
    have hlq : (entOf h.E n).q.length ≤ 1048576 := by have := (ok.w n (hK.lt n hin)).l; omega
    refine Zv (yen 0 8 rfl rfl rfl hs) ?_
    rw [k1', k2']
    refine Zol 3 (ents_op' hE) rfl <| Zv (yx rfl rfl) <| Zv (yx rfl rfl) <| Zv (ya rfl) <| Zv (ya rfl) <| Znl <| Znx <| Zsr <| Zv (ym rfl) <| Zv (yn rfl) ?_
    refine Zol 0 ent_op rfl <| fun A cap => Zv (ydw 0 (m := 11) rfl rfl rfl) ?_
    refine Zk (c81 A cap (entOf h.E n) hlq) [1] rfl rfl <| fun A' => fun cap' => Zq <| Ze (eal z165) fun b6 => Zw <| Ze (esw 0 (m := 11) rfl rfl rfl rfl rfl rfl rfl) <| Zw0 <| Znl <| Znx <| Zrg <| Zv (ym rfl) ?_
    refine Zv (yn rfl) <| Zv (yf 1 rfl) <| Zv (yd 8 rfl rfl rfl) <| Zv (ym rfl) <| Ze (emu 6 rfl rfl rfl rfl rfl Tryz.underlying156 Tryz.underlying40) <| Zw0 <| Znl <| Zxn ?_
    rw [ups_no hf]
    refine Zfx [3,2] (ent_fold (b := bn) (d := entOf h.E n)) rfl ?_
    refine Zfx [0,2] (ents_in' hE) rfl ?_
    refine Zfx [1,1] (ent_fold (b := b6) (d := entOf h.E n)) rfl ?_
    refine Zfx [0,3] (ents_cons (E := h.E) (n := n) (b := b6) (es := p.1.2)) rfl ?_
    have hs2 := p.2.step hK.nd hs hns k1' hin b6
    have hm2 : kE.length - ((n, b6) :: p.1.2).length < kE.length - p.1.2.length := by
      have := hs2.len
      simp only [List.length_cons] at this ⊢
      omega
    refine Zlr ⟨(p.1.1 ++ [s], (n, b6) :: p.1.2), hs2⟩ hm2 ⟨rfl, rfl, trivial⟩ [2, 2, 0, 0] 0 rfl rfl
end Go.Proofs.YtpfijldkkfiooaaGreatDoor
namespace Go.Proofs.YtpfijldkkfiooaaGreatDoor
open Go
set_option maxRecDepth 4000
def ptrE (T : Nat) : Enc Tryz.prog Nat where
  T := T
  n := 1
  cells := fun b => [.pointer (some ⟨b, 0, none⟩)]
  len := fun _ => rfl
  one := fun x v hv => by
    rw [List.mem_singleton] at hv
    subst hv
    rfl
  pos := by decide
structure MD where
  C : List Cor
  D : List CD
  most : Int
  q : List Msg
  h : HD
structure MD.Ok (k : Nat) (m : MD) : Prop where
  n0 : 0 < m.C.length
  n1 : m.C.length ≤ 4
  d : m.D.length = m.C.length
  m0 : 1 ≤ m.most
  m1 : m.most ≤ 1024
  q : (m.q.length : Int) ≤ m.most
abbrev corsC (k : Nat) (l : List (Nat × Cor)) : HP := manyC (fun x : Nat × Cor => corC k x.1 x.2) l
abbrev cacsC (l : List (Nat × CD)) : HP := manyC (fun x : Nat × CD => cacC x.1 x.2) l
def partC (k b : Nat) (m : MD) : HP := fun g => m.Ok k ∧ ∃ A cap B capb bn bh cb kb, (cb.length = m.C.length ∧ kb.length = m.C.length) ∧ Sep [.blk b 108 [.slice A cb.length cap, .slice B kb.length capb, .pointer (some ⟨bn, 0, none⟩), .pointer (some ⟨bh, 0, none⟩)], .hp (own (ptrE 74) A cap cb), .hp (own (ptrE 80) B capb kb), .hp (corsC k (cb.zip m.C)), .hp (cacsC (kb.zip m.D)), .hp (netC bn m.most m.q), .hp (homC k bh m.h)] g
theorem part_op {k b : Nat} {m : MD} : Op_ (partC k b m) fun K => m.Ok k → ∀ A cap B capb bn bh cb kb, (cb.length = m.C.length ∧ kb.length = m.C.length) → K [.blk b 108 [.slice A cb.length cap, .slice B kb.length capb, .pointer (some ⟨bn, 0, none⟩), .pointer (some ⟨bh, 0, none⟩)], .hp (own (ptrE 74) A cap cb), .hp (own (ptrE 80) B capb kb), .hp (corsC k (cb.zip m.C)), .hp (cacsC (kb.zip m.D)), .hp (netC bn m.most m.q), .hp (homC k bh m.h)] := .mk fun G K g hh => by
  obtain ⟨ok, A, cap, B, capb, bn, bh, cb, kb, hl, hs⟩ := hh
  exact ⟨_, K ok A cap B capb bn bh cb kb hl, hs⟩
theorem part_fold {k b cap capb bn bh : Nat} {m : MD} {A B : Option Addr} {cb kb : List Nat} (ok : m.Ok k) (hl : cb.length = m.C.length ∧ kb.length = m.C.length) : ∀ g, Sep [.blk b 108 [.slice A cb.length cap, .slice B kb.length capb, .pointer (some ⟨bn, 0, none⟩), .pointer (some ⟨bh, 0, none⟩)], .hp (own (ptrE 74) A cap cb), .hp (own (ptrE 80) B capb kb), .hp (corsC k (cb.zip m.C)), .hp (cacsC (kb.zip m.D)), .hp (netC bn m.most m.q), .hp (homC k bh m.h)] g → partC k b m g := fun _ hs => ⟨ok, A, cap, B, capb, bn, bh, cb, kb, hl, hs⟩
theorem cors_op {k i : Nat} {l : List (Nat × Cor)} {x : Nat × Cor} (e : l[i]? = some x) : Op_ (corsC k l) fun K => K [.hp (corC k x.1 x.2), .hp (corsC k (l.eraseIdx i))] := .mk fun G K h hh => ⟨_, K, many_at e hh⟩
theorem cacs_op {i : Nat} {l : List (Nat × CD)} {x : Nat × CD} (e : l[i]? = some x) : Op_ (cacsC l) fun K => K [.hp (cacC x.1 x.2), .hp (cacsC (l.eraseIdx i))] := .mk fun G K h hh => ⟨_, K, many_at e hh⟩
theorem zip_set {α β : Type} : ∀ {a : List α} {l : List β} {i : Nat} {x : α} {y : β}, a[i]? = some x → (a.zip l).set i (x, y) = a.zip (l.set i y)
  | [], _, _, _, _, e => by simp at e
  | _ :: _, [], _, _, _, _ => by simp
  | z :: a, w :: l, 0, x, y, e => by
    simp at e
    subst e
    rfl
  | z :: a, w :: l, i + 1, x, y, e => by
    simp at e
    simp [zip_set (a := a) (l := l) (i := i) (y := y) e]
theorem zip_at {α β : Type} {a : List α} {l : List β} {i : Nat} {x : α} {y : β} (h1 : a[i]? = some x) (h2 : l[i]? = some y) : (a.zip l)[i]? = some (x, y) := List.getElem?_zip_eq_some.2 ⟨h1, h2⟩
theorem cors_in {k i b : Nat} {cb : List Nat} {l : List Cor} {c : Cor} (e : cb[i]? = some b) (hi : i < (cb.zip l).length) : ∀ h, Sep [.hp (corC k b c), .hp (corsC k ((cb.zip l).eraseIdx i))] h → corsC k (cb.zip (l.set i c)) h := fun h hs => by
  rw [← zip_set e]
  exact many_set (F := fun x : Nat × Cor => corC k x.1 x.2) (y := (b, c)) hi hs
theorem cacs_in {i b : Nat} {cb : List Nat} {l : List CD} {c : CD} (e : cb[i]? = some b) (hi : i < (cb.zip l).length) : ∀ h, Sep [.hp (cacC b c), .hp (cacsC ((cb.zip l).eraseIdx i))] h → cacsC (cb.zip (l.set i c)) h := fun h hs => by
  rw [← zip_set e]
  exact many_set (F := fun x : Nat × CD => cacC x.1 x.2) (y := (b, c)) hi hs
theorem cors_mono {k k' : Nat} {l : List (Nat × Cor)} (hk : k ≤ k') : ∀ g, Sep [.hp (corsC k l)] g → corsC k' l g := fun g hs => many_imp (many_up hs) fun x _ h hc => cor_mono hk h (sep_hp1 hc)
theorem MD.Ok.mono {k k' : Nat} {m : MD} (a : m.Ok k) : m.Ok k' := ⟨a.n0, a.n1, a.d, a.m0, a.m1, a.q⟩
theorem c38 (x : Cho) : Sp Tryz.prog 38 [.agg (choE.arr x)] [] fun K => K (.returned (.bool (decide (1 ≤ x.kind) && decide (x.kind ≤ 5)))) [] := by
  refine Zen Tryz.func38 rfl rfl rfl fun e X Φ hS => Zsr <| Ze (ebxE rfl) fun b1 => Zw <| Zv (ya rfl) <| Znl <| Znx <| Zsr <| Zv (yf 0 rfl) <| Zv (yd 0 rfl rfl rfl) <| Zv (yge rfl rfl) ?_
  refine Zv (ym rfl) <| Zgs rfl rfl (fun h6 => ?_) (fun h6 => ?_)
  refine Zg' rfl rfl (decide_eq_true h6) <| Zv (yf 0 rfl) <| Zg' rfl rfl (decide_eq_true h6) <| Zv (yd 0 rfl rfl rfl) <| Zg' rfl rfl (decide_eq_true h6) <| Zv (yle rfl rfl) <| Zv (ypt' rfl (decide_eq_true h6) rfl) <| Zv (ya rfl) <| Znl <| Znx ?_
  refine Zrt <| Zre (.t rfl .n) hS [] 1 ?_ rfl rfl rfl
  rotate_left
  refine Zu' rfl rfl (decide_eq_false h6) rfl <| Zu' rfl rfl (decide_eq_false h6) rfl <| Zu' rfl rfl (decide_eq_false h6) rfl <| Zv (ypf' rfl (decide_eq_false h6) rfl) <| Zv (ya rfl) <| Znl <| Znx <| Zrt <| Zre (.t rfl .n) hS [] 1 ?_ rfl rfl rfl
  rotate_left
  all_goals simp [pk, *]
theorem c37 (x : Cho) : Sp Tryz.prog 37 [.agg (choE.arr x)] [] fun K => K (.returned (.bool (!(decide (1 ≤ x.kind) && decide (x.kind ≤ 5))))) [] := by
  refine Zen Tryz.func37 rfl rfl rfl fun e X Φ hS => Zsr <| Ze (ebxE rfl) fun b1 => Zw <| Zv (ya rfl) <| Znl <| Znx <| Zsr <| Zv (ydw 0 (m := 3) rfl rfl (Enc.len ..)) <| Zk (c38 ..) [] rfl rfl <| Zq ?_
  refine Zv (ynot rfl) <| Zv (ya rfl) <| Znl <| Znx <| Zrt <| Zre (.t rfl .n) hS [] 1 rfl rfl rfl rfl
theorem c51 (pick : Int) (n : Nat) (h0 : 0 < n) (hn : n ≤ 1048576) (hp : -9223372036854775808 ≤ pick ∧ pick ≤ 9223372036854775807) : Sp Tryz.prog 51 [.int .i64 pick, .int .i64 (n : Int)] [] fun K => K (.returned (.int .i64 ((pickAt pick n : Nat) : Int))) [] := by
  obtain ⟨p1, p2, p3, p4⟩ := pick_lt pick h0
  have e1 : IntKind.i64.wrap (pick.tmod n + n) = pick.tmod n + n := i64w rfl (by omega)
  refine Zen Tryz.func51 rfl rfl rfl fun e X Φ hS => Zsr <| Zv (ya rfl) <| Znl <| Znx <| Zsr <| Zv (ym rfl) <| Zv (ym rfl) <| Zv (yrem rfl rfl (by omega) rfl) <| Zv (ym rfl) ?_
  refine Zv (yadd rfl rfl (i64w rfl (by omega))) <| Zv (ym rfl) <| Zv (yrem rfl rfl (by omega) rfl) <| Zv (ya rfl) <| Znl <| Znx <| Zrt <| Zre (.t rfl .n) hS [] 0 ?_ rfl rfl rfl
  all_goals (rw [p1]; rfl)
def sendsF (most : Int) : List Msg → List Msg → List Msg
  | q, [] => q
  | q, m :: r => sendsF most (sendF most q m).1 r
theorem send_len {most : Int} {q : List Msg} {m : Msg} (h : (q.length : Int) ≤ most) : ((sendF most q m).1.length : Int) ≤ most := by
  unfold sendF
  repeat' split
  · exact h
  · exact h
  · simp; omega
theorem sends_len {most : Int} : ∀ {l q : List Msg}, (q.length : Int) ≤ most → ((sendsF most q l).length : Int) ≤ most
  | [], _, h => h
  | m :: l, q, h => sends_len (l := l) (send_len h)
theorem sends_app {most : Int} : ∀ {l q : List Msg} {m : Msg}, sendsF most q (l ++ [m]) = (sendF most (sendsF most q l) m).1
  | [], _, _ => rfl
  | x :: l, q, m => sends_app (l := l)
theorem c139 (b bn : Nat) (v0 v1 v3 : Value) (A : Option Addr) (cap : Nat) (l : List Msg) (most : Int) (q : List Msg) (h1 : 1 ≤ most) (h2 : most ≤ 1024) (hq : (q.length : Int) ≤ most) (hll : l.length ≤ 1048576) : Sp Tryz.prog 139 [.pointer (some ⟨b, 0, none⟩), .slice A l.length cap] [.blk b 108 [v0, v1, .pointer (some ⟨bn, 0, none⟩), v3], .hp (own msgE A cap l), .hp (netC bn most q)] fun K => K (.returned (.tuple #[])) [.blk b 108 [v0, v1, .pointer (some ⟨bn, 0, none⟩), v3], .hp (own msgE A cap l), .hp (netC bn most (sendsF most q l))] := by
  refine Zen Tryz.func139 rfl rfl rfl fun e X Φ hS => ?_
  refine Zsr <| Zv (ym rfl) <| Zv (sl_of ⟨_, Tryz.underlying112⟩ rfl) <| Zv (ym rfl) <| Znl <| Znx <| Zbl ?_
  refine Zlq (ι := { i : Nat // i ≤ l.length }) (fun i => [(8, .int .i64 (i.1 : Int)), (7, .int .i64 (l.length : Int)), (6, .slice A l.length cap), (0, .pointer (some ⟨b, 0, none⟩))]) (fun i => [.hp (netC bn most (sendsF most q (l.take i.1)))]) (fun i => l.length - i.1) ⟨0, by omega⟩ ⟨rfl, rfl, rfl, rfl, trivial⟩ [2] rfl fun i => Zsr <| Zv (ylt rfl rfl) <| Znl <| Znx <| Zsq <| Zif rfl (fun h9 => ?_) (fun h9 => ?_)
  refine Zsk <| Znx <| Zsq <| Zbl <| Zsr <| Zv (yea 2 own.rd rfl rfl rfl (by first | assumption | omega) rfl Tryz.underlying112 rfl) <| Zv (yel 2 own.rd rfl (gE (by first | assumption | omega)) rfl rfl rfl) <| Ze (eal z117) fun b5 => Zw <| Ze (esw 0 (m := 20) rfl rfl rfl rfl rfl (Enc.len ..) (Enc.allL ..)) <| Zw0 <| Znl ?_
  refine Znx ?_
  rotate_left
  refine Zex <| Zxt <| Zxt <| Zxx <| Zee ?_
  rotate_left
  · have hlt : i.1 < l.length := by omega
    have hx := gE (l := l) (k := i.1) hlt
    have hn : most ≠ 0 := by omega
    have hs := sends_len (l := l.take i.1) hq
    have hs2 : (sendsF most q (l.take i.1)).length ≤ 1048576 := by omega
    refine Zhd [1] rfl rfl <| Zht 0 rfl (ym rfl) <| Zht 1 rfl (yn rfl) <| Zht 2 rfl (yf 2 rfl) <| Zht 3 rfl (yd 1 rfl rfl rfl) <| Zht 4 rfl (ydw 0 (m := 20) rfl rfl (Enc.len ..)) <| Zh1 5 (by kernel_rfl) <| Zok (c183 ..) [0] rfl rfl rfl <| Zqh 1 rfl <| Zhn (by kernel_rfl) <| Zxn ?_
    refine Znx <| Zrg <| Zv (yadd rfl rfl (i64w rfl (by omega))) <| Zv (ym rfl) <| Znl ?_
    rw [← sends_app, take_snc hx]
    refine Zlr ⟨i.1 + 1, by omega⟩ (by show l.length - (i.1 + 1) < l.length - i.1; omega) ⟨rfl, rfl, rfl, rfl, trivial⟩ [0] 1 rfl rfl
  · have hi := i.2
    rw [List.take_of_length_le (by omega)]
    refine Zre .n hS [1,1,0] 0 rfl rfl rfl rfl
end Go.Proofs.YtpfijldkkfiooaaGreatDoor
namespace Go.Proofs.YtpfijldkkfiooaaGreatDoor
open Go
theorem outm_len (d : CD) (x : Ln) : (outF d x).2.1.length ≤ 1 := by
  unfold outF
  split
  · exact Nat.zero_le 1
  · split
    · exact Nat.zero_le 1
    · exact Nat.le_refl 1
theorem ask_len (d : CD) (line : Int) (h : U32 line) (wr : Bool) (pick : Int) : (askF d line h wr pick).2.1.length ≤ 2 := by
  unfold askF
  split
  · exact Nat.zero_le 2
  · split
    · exact Nat.zero_le 2
    · split
      · exact Nat.le_succ 1
      · rename_i x _
        split
        · have := outm_len d x
          simp
          omega
        · exact Nat.zero_le 2
theorem askA_len (d : CD) (a : Acc) (wr : Bool) (pick : Int) : (askA d a wr pick).2.1.length ≤ 2 := by
  unfold askA
  split
  · exact ask_len ..
  · exact Nat.zero_le 2
theorem evict_len (d : CD) (pick : Int) : (evictF d pick).2.length ≤ 1 := by
  unfold evictF
  split
  · exact Nat.zero_le 1
  · exact outm_len ..
theorem ms_done (c : Cor) (d : CD) (w : Int) (x : Ans) (o : Int) : (msOf (doneR c d w x o).2.2).length ≤ 2 := Nat.zero_le 2
theorem ms_ask (c : Cor) (d : CD) (a : Acc) (wr : Bool) (pick : Int) : (msOf (askR c d a wr pick).2.2).length ≤ 2 := askA_len d a wr pick
theorem ms_nil (c : Cor) (d : CD) : (msOf (failR c d []).2.2).length ≤ 2 := Nat.zero_le 2
theorem act_len (c : Cor) (d : CD) (w pick : Int) (a : Acc) : (msOf (actR c d w pick a).2.2).length ≤ 2 := by
  unfold actR
  repeat' split
  · unfold loadR cachR; repeat' split
    all_goals first | exact ms_nil .. | exact ms_done .. | exact ms_ask ..
  · unfold storeR; repeat' split
    all_goals first | exact ms_nil .. | exact ms_done .. | exact ms_ask ..
  · unfold lrR; repeat' split
    all_goals first | exact ms_nil .. | exact ms_done .. | exact ms_ask ..
  · unfold scR; repeat' split
    all_goals first | exact ms_nil .. | exact ms_done .. | exact ms_ask ..
  · unfold amoR; repeat' split
    all_goals first | exact ms_nil .. | exact ms_done .. | exact ms_ask ..
  · unfold fenceR; repeat' split
    all_goals first | exact ms_nil .. | exact ms_done .. | exact ms_ask ..
  · exact ms_done ..
theorem go_len (c : Cor) (d : CD) (pick : Int) : (goF c d pick).2.2.2.length ≤ 2 := by
  unfold goF
  repeat' split
  · exact Nat.zero_le 2
  · exact Nat.zero_le 2
  · exact act_len ..
theorem drain_len (c : Cor) (d : CD) (pick : Int) : (msOf (drainR c d pick).2.2).length ≤ 2 := by
  unfold drainR
  repeat' split
  · exact ms_nil ..
  · exact askA_len ..
  · exact Nat.zero_le 2
theorem take_len (d : CD) (m : Msg) : (takeF d m).2.1.length ≤ 1 := by
  unfold takeF
  repeat' split
  all_goals first | exact Nat.zero_le 1 | exact Nat.le_refl 1
theorem drn_len : ∀ (q : List Msg) (bs : List Int) (d : Ent), (drainF q bs d).2.2.length ≤ 4 * q.length
  | [], _, _ => Nat.zero_le _
  | m :: r, bs, d => by
    cases hb : d.busy with
    | true =>
      rw [show drainF (m :: r) bs d = (d.setQ (m :: r), bs, []) from if_pos hb]
      exact Nat.zero_le _
    | false =>
      rw [show drainF (m :: r) bs d = _ from if_neg (by rw [hb]; decide)]
      have h1 := beg_len bs (d.setQ r) m
      have h2 := drn_len r (beginF bs (d.setQ r) m).2.1 (beginF bs (d.setQ r) m).1
      simp only [List.length_append, List.length_cons]
      omega
theorem takeH_len {k : Nat} {h : HD} (ok : HOk k h) (m : Msg) : (takeH h m).2.1.length ≤ 4 * k + 4 := by
  unfold takeH
  split
  · exact Nat.zero_le _
  · split
    · exact Nat.zero_le _
    · rename_i h1
      have hn := m.hn
      have hq := (ok.w m.line.toNat (by omega)).l
      have h3 := drn_len (entOf h.E m.line.toNat).q h.bs (entOf h.E m.line.toNat).fre
      have h4 := beg_len h.bs (entOf h.E m.line.toNat) m
      repeat' split
      · show (backH _ _ _).2.2.length ≤ _
        unfold backH; dsimp only; split <;> (show 1 ≤ _; omega)
      · exact Nat.zero_le _
      · show (ackH _ _ _).2.2.length ≤ _
        unfold ackH; dsimp only; split
        · show 1 ≤ _; omega
        · exact Nat.zero_le _
      · exact Nat.zero_le _
      · show (drainF _ _ _).2.2.length ≤ _
        omega
      · exact Nat.zero_le _
      · show (reqF _ _ _).2.2.length ≤ _
        unfold reqF; split
        · exact Nat.zero_le _
        · omega
theorem del_len {q : List Msg} {k : Nat} {x : Msg} (h : q[k]? = some x) : (delF q k).length + 1 = q.length := by
  have := (List.getElem?_eq_some_iff.1 h).1
  unfold delF
  simp
  omega
theorem net_eq {b : Nat} {most : Int} {q q' : List Msg} (e : q = q') : ∀ h, Sep [.hp (netC b most q)] h → netC b most q' h := fun h hs => by
  subst e
  obtain ⟨h1, _, hle, _, _, ⟨A, cap, hp⟩, _⟩ := hs
  exact ⟨A, cap, hp.up hle⟩
theorem hom_ok {k b : Nat} {h : HD} : Op_ (homC k b h) fun K => HOk k h → K [.hp (homC k b h)] := .mk fun G K g hh => ⟨_, K hh.1, sep_hp1 hh⟩
end Go.Proofs.YtpfijldkkfiooaaGreatDoor
namespace Go.Proofs.YtpfijldkkfiooaaGreatDoor
open Go
set_option maxRecDepth 4000
def MD.put (m : MD) (i : Nat) (c : Cor) (d : CD) (q : List Msg) : MD := ⟨m.C.set i c, m.D.set i d, m.most, q, m.h⟩
theorem MD.Ok.put {k k' : Nat} {m : MD} (a : m.Ok k) (i : Nat) (c : Cor) (d : CD) {q : List Msg} (hq : (q.length : Int) ≤ m.most) : (m.put i c d q).Ok k' := ⟨by show 0 < (m.C.set i c).length; rw [List.length_set]; exact a.n0, by show (m.C.set i c).length ≤ 4; rw [List.length_set]; exact a.n1, by show (m.D.set i d).length = (m.C.set i c).length; rw [List.length_set, List.length_set]; exact a.d, a.m0, a.m1, hq⟩
theorem part_put {k b cap capb bn bh i : Nat} {m : MD} {c : Cor} {d : CD} {q : List Msg} {A B : Option Addr} {cb kb : List Nat} (ok : (m.put i c d q).Ok k) (hl1 : cb.length = m.C.length) (hl2 : kb.length = m.C.length) : ∀ g, Sep [.blk b 108 [.slice A cb.length cap, .slice B kb.length capb, .pointer (some ⟨bn, 0, none⟩), .pointer (some ⟨bh, 0, none⟩)], .hp (own (ptrE 74) A cap cb), .hp (own (ptrE 80) B capb kb), .hp (corsC k (cb.zip (m.C.set i c))), .hp (cacsC (kb.zip (m.D.set i d))), .hp (netC bn m.most q), .hp (homC k bh m.h)] g → partC k b (m.put i c d q) g := part_fold (m := m.put i c d q) ok ⟨hl1.trans List.length_set.symm, hl2.trans List.length_set.symm⟩
def spoilF (m : MD) (i : Nat) : MD := match m.C[i]? with | some c => ⟨m.C.set i (c.setR none), m.D, m.most, m.q, m.h⟩ | none => m
theorem c96 (k b i : Nat) (pick : Int) (m : MD) (hi : i < m.C.length) : Sp Tryz.prog 96 [.pointer (some ⟨b, 0, none⟩), .int .i64 (i : Int), .int .i64 pick] [.hp (partC k b m)] fun K => K (.returned (.agg (didE.arr did0))) [.hp (partC k b (spoilF m i))] := by
  refine Zen Tryz.func96 rfl rfl rfl fun e X Φ hS => Zoc 0 part_op rfl <| fun ok A cap B capb bn bh cb kb hl => ?_
  obtain ⟨hl1, hl2⟩ := hl
  have hci := gE (l := cb) (k := i) (by omega)
  have hCi := gE hi
  have hz := zip_at hci hCi
  have hzl : i < (cb.zip m.C).length := (List.getElem?_eq_some_iff.1 hz).1
  have hic : i < cb.length := by omega
  refine Zoc 3 (cors_op hz) rfl <| Zsr <| Ze (eal z53) fun b6 => Zw <| Znl <| Znx <| Zsr <| Zv (ym rfl) <| Zv (yn rfl) <| Zv (yf 0 rfl) <| Zv (yd 3 rfl rfl rfl) ?_
  refine Zv (ym rfl) <| Zv (yea 4 own.rd rfl rfl rfl (by first | assumption | omega) rfl Tryz.underlying105 rfl) <| Zv (yec (m := 0) 4 own.rd rfl (by assumption) rfl rfl rfl) <| Zk (c145 ..) [1] rfl rfl <| Zq <| Znl <| Znx <| Zsr <| Zv (yb l53 rfl) <| Ze (esw 1 (m := 20) rfl rfl rfl rfl rfl rfl rfl) <| Zw0 ?_
  refine Znl <| Znx <| Zrt ?_
  rw [show spoilF m i = ⟨m.C.set i (m.C[i].setR none), m.D, m.most, m.q, m.h⟩ by unfold spoilF; rw [hCi]] at hS
  have ok' : (⟨m.C.set i (m.C[i].setR none), m.D, m.most, m.q, m.h⟩ : MD).Ok k := ⟨by rw [List.length_set]; exact ok.n0, by rw [List.length_set]; exact ok.n1, by rw [List.length_set]; exact ok.d, ok.m0, ok.m1, ok.q⟩
  refine Zfx [0,1] (cors_in (c := m.C[i].setR none) hci hzl) rfl ?_
  refine Zfx [2,2,2,0,1,1,1] (part_fold (m := ⟨m.C.set i (m.C[i].setR none), m.D, m.most, m.q, m.h⟩) ok' ⟨hl1.trans List.length_set.symm, hl2.trans List.length_set.symm⟩) rfl <| Zre (.wh 1 (m := 20) rfl rfl rfl .n) hS [0] 1 rfl rfl rfl rfl
def goM (m : MD) (i : Nat) (pick : Int) : MD × Did := match m.C[i]?, m.D[i]? with
  | some c, some d => (m.put i (goF c d pick).1 (goF c d pick).2.1 (sendsF m.most m.q (goF c d pick).2.2.2), (goF c d pick).2.2.1)
  | _, _ => (m, did0)
theorem c92 (k b i : Nat) (pick : Int) (m : MD) (hi : i < m.C.length) (hp : -9223372036854775808 ≤ pick ∧ pick ≤ 9223372036854775807) (hk : k ≤ 1000000) : Sp Tryz.prog 92 [.pointer (some ⟨b, 0, none⟩), .int .i64 (i : Int), .int .i64 pick] [.hp (partC k b m), spC] fun K => K (.returned (.agg (didE.arr (goM m i pick).2))) [.hp (partC k b (goM m i pick).1), spC] := by
  refine Zen Tryz.func92 rfl rfl rfl fun e X Φ hS => Zoc 0 part_op rfl <| fun ok A cap B capb bn bh cb kb hl => ?_
  obtain ⟨hl1, hl2⟩ := hl
  have hd := ok.d
  have hci := gE (l := cb) (k := i) (by omega)
  have hki := gE (l := kb) (k := i) (by omega)
  have hCi := gE hi
  have hDi := gE (l := m.D) (k := i) (by omega)
  have hz := zip_at hci hCi
  have hz2 := zip_at hki hDi
  have hzl : i < (cb.zip m.C).length := (List.getElem?_eq_some_iff.1 hz).1
  have hzl2 : i < (kb.zip m.D).length := (List.getElem?_eq_some_iff.1 hz2).1
  have hic : i < cb.length := by omega
  have hik : i < kb.length := by omega
  rw [show goM m i pick = (m.put i (goF m.C[i] m.D[i] pick).1 (goF m.C[i] m.D[i] pick).2.1 (sendsF m.most m.q (goF m.C[i] m.D[i] pick).2.2.2), (goF m.C[i] m.D[i] pick).2.2.1) by unfold goM; rw [hCi, hDi]] at hS
  refine Zoc 3 (cors_op hz) rfl <| Zsr <| Ze (eal z53) fun b6 => Zw <| Znl <| Znx <| Zsq ?_
  refine Zoc 6 (cacs_op hz2) rfl ?_
  refine Zhd [0,2,8] rfl rfl <| Zht 0 rfl (ym rfl) <| Zht 1 rfl (yn rfl) <| Zht 2 rfl (yf 0 rfl) <| Zht 3 rfl (yd 3 rfl rfl rfl) <| Zht 4 rfl (ym rfl) <| Zht 5 rfl (yea 4 own.rd rfl rfl rfl (by first | assumption | omega) rfl Tryz.underlying105 rfl) <| Zht 6 rfl (yec (m := 0) 4 own.rd rfl (by assumption) rfl rfl rfl) <| Zht 7 rfl (ym rfl) <| Zht 8 rfl (yn rfl) ?_
  refine Zht 9 rfl (yf 1 rfl) <| Zht 10 rfl (yd 3 rfl rfl rfl) <| Zht 11 rfl (ym rfl) <| Zht 12 rfl (yea 5 own.rd rfl rfl rfl (by first | assumption | omega) rfl Tryz.underlying106 rfl) <| Zht 13 rfl (yec (m := 0) 5 own.rd rfl (by assumption) rfl rfl rfl) <| Zht 14 rfl (ym rfl) ?_
  have okn : (m.put i (goF m.C[i] m.D[i] pick).1 (goF m.C[i] m.D[i] pick).2.1 (sendsF m.most m.q (goF m.C[i] m.D[i] pick).2.2.2)).Ok k := ok.put i _ _ (sends_len ok.q)
  refine Zh2 15 20 (by kernel_rfl) (Zok (c138 cb[i] kb[i] k pick m.C[i] m.D[i] hp hk) [1,0,0] rfl rfl rfl <| fun A' cap' => Zqh 4 rfl ?_) (Zoe rfl (eal z53) fun b7 => Zwh 4 rfl ?_)
  · refine Zht 16 rfl (ym rfl) <| Zht 17 rfl (yx rfl rfl) <| Zht 18 rfl (yx rfl rfl) <| Zht 19 rfl (yx rfl rfl) <| Zh1 20 (by kernel_rfl) <| Zoe rfl (eal z53) fun b7 => Zwh 5 rfl <| Zh1 21 (by kernel_rfl) <| Zoe rfl (esw 0 (m := 20) rfl rfl rfl rfl rfl (Enc.len ..) (Enc.allL ..)) <| Zwh0 5 rfl <| Zht 22 rfl (ya rfl) <| Zht 23 rfl (ya rfl) <| Zhn (by kernel_rfl) <| Znx ?_
    refine Zsr <| Zv (ym rfl) <| Zv (ym rfl) ?_
    refine Zk (c139 b bn _ _ _ A' cap' (goF m.C[i] m.D[i] pick).2.2.2 m.most m.q ok.m0 ok.m1 ok.q (Nat.le_trans (go_len ..) (by decide))) [8,1,9] rfl rfl <| Zq <| Znl <| Znx <| Zsr <| Zv (ydw 3 (m := 20) rfl rfl (Enc.len ..)) <| Ze (esw 8 (m := 20) rfl rfl rfl rfl rfl (Enc.len ..) (Enc.allL ..)) <| Zw0 <| Znl <| Znx <| Zrt ?_
    refine Zfx [4,8] (cors_in (c := (goF m.C[i] m.D[i] pick).1) hci hzl) rfl ?_
    refine Zfx [5,6] (cacs_in (c := (goF m.C[i] m.D[i] pick).2.1) hki hzl2) rfl ?_
    refine Zfx [2,7,7,1,0,1,4] (part_put okn hl1 hl2) rfl <| Zre (.wh 4 (m := 20) rfl rfl (Enc.len ..) .n) hS [0,2] 3 rfl rfl rfl rfl
  · refine Zh1 15 (by kernel_rfl) <| Zok (c138 cb[i] kb[i] k pick m.C[i] m.D[i] hp hk) [2,1,1] rfl rfl rfl <| fun A' cap' => Zqh 5 rfl <| Zht 16 rfl (ym rfl) <| Zht 17 rfl (yx rfl rfl) <| Zht 18 rfl (yx rfl rfl) <| Zht 19 rfl (yx rfl rfl) <| Zh1 21 (by kernel_rfl) <| Zoe rfl (esw 4 (m := 20) rfl rfl rfl rfl rfl (Enc.len ..) (Enc.allL ..)) <| Zwh0 5 rfl <| Zht 22 rfl (ya rfl) <| Zht 23 rfl (ya rfl) <| Zhn (by kernel_rfl) <| Znx ?_
    refine Zsr <| Zv (ym rfl) <| Zv (ym rfl) ?_
    refine Zk (c139 b bn _ _ _ A' cap' (goF m.C[i] m.D[i] pick).2.2.2 m.most m.q ok.m0 ok.m1 ok.q (Nat.le_trans (go_len ..) (by decide))) [8,0,9] rfl rfl <| Zq <| Znl <| Znx <| Zsr <| Zv (ydw 6 (m := 20) rfl rfl (Enc.len ..)) <| Ze (esw 8 (m := 20) rfl rfl rfl rfl rfl (Enc.len ..) (Enc.allL ..)) <| Zw0 <| Znl <| Znx <| Zrt ?_
    refine Zfx [3,8] (cors_in (c := (goF m.C[i] m.D[i] pick).1) hci hzl) rfl ?_
    refine Zfx [4,6] (cacs_in (c := (goF m.C[i] m.D[i] pick).2.1) hki hzl2) rfl ?_
    refine Zfx [2,7,7,1,0,1,4] (part_put okn hl1 hl2) rfl <| Zre (.wh 4 (m := 20) rfl rfl (Enc.len ..) .n) hS [0,1] 3 rfl rfl rfl rfl
end Go.Proofs.YtpfijldkkfiooaaGreatDoor
namespace Go.Proofs.YtpfijldkkfiooaaGreatDoor
open Go
set_option maxRecDepth 4000
def MD.putD (m : MD) (i : Nat) (d : CD) (q : List Msg) : MD := ⟨m.C, m.D.set i d, m.most, q, m.h⟩
theorem MD.Ok.putD {k k' : Nat} {m : MD} (a : m.Ok k) (i : Nat) (d : CD) {q : List Msg} (hq : (q.length : Int) ≤ m.most) : (m.putD i d q).Ok k' := ⟨a.n0, a.n1, by show (m.D.set i d).length = m.C.length; rw [List.length_set]; exact a.d, a.m0, a.m1, hq⟩
theorem part_putD {k b cap capb bn bh i : Nat} {m : MD} {d : CD} {q : List Msg} {A B : Option Addr} {cb kb : List Nat} (ok : (m.putD i d q).Ok k) (hl1 : cb.length = m.C.length) (hl2 : kb.length = m.C.length) : ∀ g, Sep [.blk b 108 [.slice A cb.length cap, .slice B kb.length capb, .pointer (some ⟨bn, 0, none⟩), .pointer (some ⟨bh, 0, none⟩)], .hp (own (ptrE 74) A cap cb), .hp (own (ptrE 80) B capb kb), .hp (corsC k (cb.zip m.C)), .hp (cacsC (kb.zip (m.D.set i d))), .hp (netC bn m.most q), .hp (homC k bh m.h)] g → partC k b (m.putD i d q) g := part_fold (m := m.putD i d q) ok ⟨hl1, hl2⟩
def evictM (m : MD) (i : Nat) (pick : Int) : MD := match m.D[i]? with
  | some d => m.putD i (evictF d pick).1 (sendsF m.most m.q (evictF d pick).2)
  | none => m
theorem c95 (k b i : Nat) (pick : Int) (m : MD) (hi : i < m.C.length) (hp : -9223372036854775808 ≤ pick ∧ pick ≤ 9223372036854775807) : Sp Tryz.prog 95 [.pointer (some ⟨b, 0, none⟩), .int .i64 (i : Int), .int .i64 pick] [.hp (partC k b m)] fun K => K (.returned (.agg (didE.arr did0))) [.hp (partC k b (evictM m i pick))] := by
  refine Zen Tryz.func95 rfl rfl rfl fun e X Φ hS => Zoc 0 part_op rfl <| fun ok A cap B capb bn bh cb kb hl => ?_
  obtain ⟨hl1, hl2⟩ := hl
  have hd := ok.d
  have hki := gE (l := kb) (k := i) (by omega)
  have hDi := gE (l := m.D) (k := i) (by omega)
  have hz2 := zip_at hki hDi
  have hzl2 : i < (kb.zip m.D).length := (List.getElem?_eq_some_iff.1 hz2).1
  have hik : i < kb.length := by omega
  have okn := ok.putD (k' := k) i (evictF m.D[i] pick).1 (sends_len (l := (evictF m.D[i] pick).2) ok.q)
  rw [show evictM m i pick = m.putD i (evictF m.D[i] pick).1 (sendsF m.most m.q (evictF m.D[i] pick).2) by unfold evictM; rw [hDi]] at hS
  refine Zoc 4 (cacs_op hz2) rfl <| Zsr <| Ze (eal z53) fun b6 => Zw <| Znl <| Znx <| Zsr <| Zv (ym rfl) <| Zv (ym rfl) <| Zv (yn rfl) <| Zv (yf 1 rfl) ?_
  refine Zv (yd 3 rfl rfl rfl) <| Zv (ym rfl) <| Zv (yea 5 own.rd rfl rfl rfl (by first | assumption | omega) rfl Tryz.underlying106 rfl) <| Zv (yec (m := 0) 5 own.rd rfl (by assumption) rfl rfl rfl) <| Zv (ym rfl) ?_
  refine Zk (c144 kb[i] m.D[i] pick hp) [1] rfl rfl <| fun A_1 => fun cap_1 => Zq ?_
  refine Zk (c139 b bn _ _ _ A_1 cap_1 (evictF m.D[i] pick).2 m.most m.q ok.m0 ok.m1 ok.q (Nat.le_trans (evict_len ..) (by decide))) [4,0,6] rfl rfl <| Zq <| Znl <| Znx <| Zsr <| Zv (yb l53 rfl) <| Ze (esw 4 (m := 20) rfl rfl rfl rfl rfl rfl rfl) <| Zw0 <| Znl <| Znx <| Zrt ?_
  refine Zfx [3,4] (cacs_in (c := (evictF m.D[i] pick).1) hki hzl2) rfl ?_
  refine Zfx [1,4,4,4,0,1,2] (part_putD okn hl1 hl2) rfl <| Zre (.wh 2 (m := 20) rfl rfl rfl .n) hS [0] 2 rfl rfl rfl rfl
end Go.Proofs.YtpfijldkkfiooaaGreatDoor
namespace Go.Proofs.YtpfijldkkfiooaaGreatDoor
open Go
set_option maxRecDepth 4000
theorem r191 (p q : Value) : Ct Tryz.prog 191 [p, q] .returning .returning [] [] := by
  refine ZenS Tryz.func191 rfl rfl rfl rfl rfl rfl (fun _ _ => rfl) (.inl ⟨rfl, rfl, rfl⟩) fun e X c₀ cs => ?_
  refine Zbl <| Zsr <| Zv (yii Tryz.underlying20 rfl) <| Znl <| Znx <| Zct rfl <| Zrg <| Zv (ya rfl) <| Znl <| Zxn ?_
  refine ZeS [] 0 (fun w' hp => ⟨rfl, rfl, hp⟩) rfl rfl
theorem p191 (b b' t t' : Nat) (c : Int) (v v' : Value) : Ct Tryz.prog 191 [.pointer (some ⟨b, 0, none⟩), .pointer (some ⟨b', 0, none⟩)] (pa (.iface 308 (.agg #[.int .i64 c])) false) (pa (.iface 308 (.agg #[.int .i64 c])) true) [.blk b t [v], .blk b' t' [v']] [.blk b t [.slice none 0 0], .blk b' t' [.int .i64 c]] := by
  refine ZenS Tryz.func191 rfl rfl rfl rfl rfl rfl (fun _ _ => rfl) (.inr ⟨rfl, rfl⟩) fun e X c₀ cs => ?_
  refine Zbl <| Zsr <| Zv (yin Tryz.underlying20 rfl) <| Znl <| Znx <| Zcf rfl <| Zsr <| Zv (yta Tryz.underlying308 rfl rfl) <| Zv (yx rfl rfl) <| Zv (yx rfl rfl) ?_
  refine Znl <| Znx <| Zct rfl <| Zsr <| Ze (eal z308) fun b3 => Zw <| Ze (esw 0 (m := 1) rfl rfl rfl rfl rfl rfl rfl) <| Zw0 <| Znl <| Znx ?_
  refine Zhd [1,1] rfl rfl <| Zht 0 rfl (yf 0 rfl) <| Zht 1 rfl (yd 0 rfl rfl rfl) <| Zh1 2 (by kernel_rfl) <| Zoe rfl (es 0 rfl rfl rfl rfl rfl) <| Zwh0 2 rfl <| Zh1 3 (by kernel_rfl) <| Zoe rfl (es 1 rfl rfl rfl rfl rfl) <| Zwh0 2 rfl <| Zhn (by kernel_rfl) <| Zxn ?_
  refine ZeS [0, 0] 1 (fun w' hp => ⟨rfl, rfl, hp⟩) rfl rfl
theorem hom_mono {k b : Nat} {h : HD} : ∀ g, Sep [.hp (homC k b h)] g → homC (k + 1) b h g := fun g hs => by
  obtain ⟨h1, h2, hle, _, _, ⟨ok, bi, r, es, hk, hp⟩, _⟩ := hs
  exact ⟨ok.mono (Nat.le_succ k), bi, r, es, hk, hp.up hle⟩
theorem c151' (k b n : Nat) (i : Int) (hi : i = (n : Int)) (h : HD) (hn : n < h.E.length) (hk2 : k ≤ 1000000) : Sp Tryz.prog 151 [.pointer (some ⟨b, 0, none⟩), .int .u32 i] [.hp (homC k b h)] fun K => ∀ A cap, K (.returned (.agg ((entOf h.E n).cs (.slice A (entOf h.E n).q.length cap)).toArray)) [.hp (own msgE A cap (entOf h.E n).q), .hp (homC k b h)] := by
  subst hi
  exact c151 k b n h hn hk2
theorem ents_put {E : List Ent} {es : List (Nat × Nat)} {n : Nat} {i : Int} (hi : i = (n : Int)) (hn : n < E.length) (hk : KOk E es) (b' : Nat) (d : Ent) : ∃ es', ups i (.pointer (some ⟨b', 0, none⟩)) (mp es) = mp es' ∧ KOk (E.set n d) es' ∧ ∀ h, Sep [.hp (entC b' d), .hp (entsC E es)] h → entsC (E.set n d) es' h := by
  subst hi
  by_cases hin : n ∈ keys es
  · obtain ⟨a, b, c, rfl, ha, hc⟩ := keys_split hk.nd hin
    exact ⟨a ++ (n, b') :: c, ups_mid ha hc, hk.upd, ents_upd hn ha hc⟩
  · exact ⟨(n, b') :: es, ups_no hin, hk.put hn hin, ents_new hn hin⟩
theorem c142 (k b : Nat) (h : HD) (m : Msg) (hk2 : k ≤ 1000) : Sp Tryz.prog 142 [.pointer (some ⟨b, 0, none⟩), .agg (msgE.arr m)] [.hp (homC k b h)] fun K => ∀ A cap, K (.returned (.tuple #[.slice A (takeH h m).2.1.length cap, .int .i64 (takeH h m).2.2])) [.hp (own msgE A cap (takeH h m).2.1), .hp (homC (k + 1) b (takeH h m).1)] := by
  have hn := m.hn
  refine ZenD Tryz.func142 rfl rfl rfl fun e X Φ hS => ?_
  refine Zsr <| Ze (ebxE rfl) fun b3 => Zw <| Ze (eal z112) fun b4 => Zw <| Ze (eal z34) fun b5 => Zw <| Znl <| Znx <| Zsq <| Zbl <| Zsr <| Zv (ym rfl) ?_
  refine Zk (c62 ..) [3] rfl rfl <| Zq <| Zv (ya rfl) <| Znl <| Znx <| Zcf rfl <| Zsr <| Zv (ydw 3 (m := 20) rfl rfl (Enc.len ..)) <| Zk (c190 ..) [] rfl rfl <| Zq ?_
  refine Zv (yne rfl rfl) <| Zv (ym rfl) <| Zgs rfl rfl (fun h15 => ?_) (fun h15 => ?_)
  refine Zu' rfl rfl (decide_eq_true h15) rfl <| Zu' rfl rfl (decide_eq_true h15) rfl <| Zu' rfl rfl (decide_eq_true h15) rfl <| Zv (ypt' rfl (decide_eq_true h15) rfl) <| Zv (ya rfl) <| Znl <| Znx <| Zct rfl <| Zsr <| Ze (es 2 rfl rfl rfl rfl rfl) <| Zw0 ?_
  refine Ze (es 1 rfl rfl rfl rfl rfl) <| Zw0 <| Znl <| Znx <| Zrt <| Zr2 <| Zr1 ?_
  rotate_left
  refine Zg' rfl rfl (decide_eq_false h15) <| Zv (yf 2 rfl) <| Zg' rfl rfl (decide_eq_false h15) <| Zv (yd 3 rfl rfl rfl) <| Zg' rfl rfl (decide_eq_false h15) <| Zv (yne rfl rfl) <| Zv (ypf' rfl (decide_eq_false h15) rfl) <| Zv (ya rfl) <| Znl <| Znx ?_
  refine Zif rfl (fun h11 => ?_) (fun h11 => ?_)
  refine Zsr <| Ze (es 2 rfl rfl rfl rfl rfl) <| Zw0 <| Ze (es 1 rfl rfl rfl rfl rfl) <| Zw0 <| Znl <| Znx <| Zrt <| Zr2 <| Zr1 ?_
  rotate_left
  refine Zsq ?_
  rotate_left
  · rw [show takeH h m = (h, [], 2) from if_pos (.inl h15)] at hS
    refine Zfx [0] (hom_mono (k := k) (b := b) (h := h)) rfl ?_
    refine Zix (fun _ hs => sep_nil (E := msgE) hs) <| ZreD (.c 3 rfl rfl rfl (.c 2 rfl rfl rfl .n)) (hS _ _) [0,0] 3 rfl rfl rfl rfl
  · rw [show takeH h m = (h, [], 2) from if_pos (.inr h11)] at hS
    refine Zfx [0] (hom_mono (k := k) (b := b) (h := h)) rfl ?_
    refine Zix (fun _ hs => sep_nil (E := msgE) hs) <| ZreD (.c 3 rfl rfl rfl (.c 2 rfl rfl rfl .n)) (hS _ _) [0,0] 3 rfl rfl rfl rfl
  · refine Zhd [0] rfl rfl <| Zht 0 rfl (yf 3 rfl) <| Zht 1 rfl (yd 2 rfl rfl rfl) <| Zht 2 rfl (ycv Tryz.underlying40 Tryz.underlying2 rfl (i64w rfl (by omega))) <| Zht 3 rfl (ym rfl) <| Zh1 4 (by kernel_rfl) <| Zok (c150 ..) [0] rfl rfl rfl <| Zqh 1 rfl <| Zht 5 rfl (yge rfl rfl) <| Zht 6 rfl (ya rfl) <| Zhn (by kernel_rfl) ?_
    refine Znx <| Zif rfl (fun h20 => ?_) (fun h20 => ?_)
    refine Zsr <| Ze (es 2 rfl rfl rfl rfl rfl) <| Zw0 <| Ze (es 1 rfl rfl rfl rfl rfl) <| Zw0 <| Znl <| Znx <| Zrt <| Zr2 <| Zr1 ?_
    rotate_left
    refine Zsk <| Zxn <| Znx <| Zsr <| Zv (yfn rfl rfl) <| Zdv rfl rfl <| Znl <| Znx <| Zsr <| Zv (ym rfl) ?_
    refine Zv (yf 3 rfl) <| Zv (yd 3 rfl rfl rfl) ?_
    rotate_left
    · rw [show takeH h m = (h, [], 4) from (if_neg (fun x => x.elim h15 h11)).trans (if_pos h20)] at hS
      refine Zfx [0] (hom_mono (k := k) (b := b) (h := h)) rfl ?_
      refine Zix (fun _ hs => sep_nil (E := msgE) hs) <| ZreD (.c 3 rfl rfl rfl (.c 2 rfl rfl rfl .n)) (hS _ _) [0,0] 3 rfl rfl rfl rfl
    · have hj : m.line = ((m.line.toNat : Nat) : Int) := by omega
      have he : m.line.toNat < h.E.length := by omega
      have hk0 : k ≤ 1000000 := by omega
      have h0 : ¬ (chk m ≠ 0 ∨ m.dst ≠ 4) := fun x => x.elim h15 h11
      have hT : takeH h m = _ := (if_neg h0).trans (if_neg h20)
      have hkd : (m.kind = 1 ∨ m.kind = 2 ∨ m.kind = 3 ∨ m.kind = 11 ∨ m.kind = 12 ∨ m.kind = 13) ∧ 0 ≤ m.src ∧ m.src < 4 := by
        have hd : m.dst = 4 := by simpa using h11
        have hc : goodMsg m = true := by
          cases hg : goodMsg m with
          | true => rfl
          | false => exact absurd (show chk m ≠ 0 by simp [chk, hg]) h15
        simp [goodMsg, homeK, cacheK, isCache, hd] at hc
        omega
      obtain ⟨hkd, s0, s4⟩ := hkd
      refine Zk (c151' k b m.line.toNat m.line hj h he hk0) [0] rfl rfl <| fun A => fun cap => Zq <| Ze (eal z165) fun b6 => Zw <| Ze (esw 0 (m := 11) rfl rfl rfl rfl rfl rfl rfl) <| Zw0 <| Znl <| Znx <| Zsr <| Zv (ym rfl) ?_
      refine Zv (yf 3 rfl) <| Zv (yd 5 rfl rfl rfl) <| Zv (yb l313 rfl) <| Ze (ebx rfl) fun b36 => Zw <| Zv (ya rfl) <| Znl <| Znx <| Zsr <| Ze (emk .i64) fun r37 => Zw <| Zv (ym rfl) ?_
      refine Zv (yfn rfl rfl) <| Ze (ein 0 rfl rfl rfl rfl rfl rfl Tryz.underlying315 Tryz.underlying114) <| Zw0 <| Zv (ym rfl) <| Zv (yfn rfl rfl) <| Ze (ein 0 rfl rfl rfl rfl rfl rfl Tryz.underlying315 Tryz.underlying114) <| Zw0 <| Zv (ym rfl) <| Zv (yfn rfl rfl) <| Ze (ein 0 rfl rfl rfl rfl rfl rfl Tryz.underlying315 Tryz.underlying114) <| Zw0 <| Zv (ym rfl) <| Zv (yfn rfl rfl) ?_
      refine Ze (ein 0 rfl rfl rfl rfl rfl rfl Tryz.underlying315 Tryz.underlying114) <| Zw0 <| Zv (ym rfl) <| Zv (yfn rfl rfl) <| Ze (ein 0 rfl rfl rfl rfl rfl rfl Tryz.underlying315 Tryz.underlying114) <| Zw0 <| Zv (ym rfl) <| Zv (yfn rfl rfl) <| Ze (ein 0 rfl rfl rfl rfl rfl rfl Tryz.underlying315 Tryz.underlying114) <| Zw0 <| Zv (ym rfl) <| Zv (yf 0 rfl) <| Zv (yd 7 rfl rfl rfl) ?_
      refine Zol 4 hom_op rfl <| fun ok bi r kE hK => ?_
      have okB : Byt h.bs m.line := ⟨ok.r, ok.l, hn.1, by rw [← ok.e]; exact he⟩
      refine Zim (fun _ hs => sep_nil (E := msgE) hs) ?_
      refine Zfl [6,6,0,5,0,0] (work_fold (bw := b36) (be := b6) (bh := b) (bi := bi) (r := r) (bs := h.bs) (n := m.line) (d := entOf h.E m.line.toNat) (out := []) okB) rfl ?_
      have hew := ok.w _ he
      have hq := hew.l
      rcases hkd with hk | hk | hk | hk | hk | hk
      · have hr : RqOk (m.line.toNat : Int) m := ⟨by omega, s0, s4, hj⟩
        rw [hk]
        refine Zv (ylk 3 rfl rfl rfl Tryz.underlying315 Tryz.underlying114 zv314) <| Zv (ydw 6 (m := 20) rfl rfl (Enc.len ..)) ?_
        refine Zkv (c192 b36 b bi r m (entOf h.E m.line.toNat) [] h.bs (by omega) s0 s4 (by decide) (by omega)) [0] rfl rfl rfl rfl <| Zq <| Znl <| Znx <| Zsq ?_
        have f1 : EW (k + 1) (m.line.toNat : Int) (reqF h.bs (entOf h.E m.line.toNat) m).1 := hew.req hr
        have f2 : (reqF h.bs (entOf h.E m.line.toNat) m).2.1.length = h.bs.length := req_bl okB rfl
        have f3 : takeH h m = putH h m (reqF h.bs (entOf h.E m.line.toNat) m) := hT.trans ((if_neg (by omega)).trans ((if_neg (by omega)).trans (if_neg (by omega))))
        rw [f3] at hS
        dsimp only [putH] at hS
        generalize reqF h.bs (entOf h.E m.line.toNat) m = x at f1 f2 hS ⊢
        refine Zoc 0 work_op rfl <| fun okx be' A' cap' Aq' cq' => ?_
        obtain ⟨kE', e1, e2, e3⟩ := ents_put hj he hK be' x.1
        have okN : HOk (k + 1) ⟨x.2.1, h.E.set m.line.toNat x.1⟩ := ok.put he (by rw [← hj]; exact okx) f2 f1
        refine Zhd [6] rfl rfl <| Zht 0 rfl (ym rfl) <| Zht 1 rfl (yn rfl) <| Zht 2 rfl (yf 1 rfl) <| Zht 3 rfl (yd 4 rfl rfl rfl) <| Zht 4 rfl (yf 3 rfl) <| Zht 5 rfl (yd 10 rfl rfl rfl) <| Zht 6 rfl (ym rfl) <| Zht 7 rfl (yn rfl) <| Zht 8 rfl (yf 1 rfl) ?_
        refine Zht 9 rfl (yd 0 rfl rfl rfl) <| Zh1 10 (by kernel_rfl) <| Zoe rfl (emu 0 rfl rfl rfl rfl rfl Tryz.underlying156 Tryz.underlying40) <| Zwh0 1 rfl <| Zhn (by kernel_rfl) <| Znx <| Zsr <| Zv (ym rfl) <| Zv (yn rfl) <| Zv (yf 0 rfl) <| Zv (yf 0 rfl) <| Zv (yd 1 rfl rfl rfl) ?_
        refine Ze (es 10 rfl rfl rfl rfl rfl) <| Zw0 <| Ze (es 9 rfl rfl rfl rfl rfl) <| Zw0 <| Znl <| Znx <| Zrt ?_
        rw [e1, List.nil_append]
        refine Zfx [2,3] (ent_fold (b := be') (d := x.1)) rfl ?_
        refine Zfx [0,5] e3 rfl ?_
        refine Zfx [4,4,1,0] (hom_fold (k := k + 1) (h := ⟨x.2.1, h.E.set m.line.toNat x.1⟩) okN e2) rfl ?_
        refine ZrD (r191 _ _) [] rfl (.c 5 rfl rfl rfl (.c 4 rfl rfl rfl .n)) (hS _ _) [2,0] 5 rfl rfl rfl
      · have hr : RqOk (m.line.toNat : Int) m := ⟨by omega, s0, s4, hj⟩
        rw [hk]
        refine Zv (ylk 3 rfl rfl rfl Tryz.underlying315 Tryz.underlying114 zv314) <| Zv (ydw 6 (m := 20) rfl rfl (Enc.len ..)) ?_
        refine Zkv (c192 b36 b bi r m (entOf h.E m.line.toNat) [] h.bs (by omega) s0 s4 (by decide) (by omega)) [0] rfl rfl rfl rfl <| Zq <| Znl <| Znx <| Zsq ?_
        have f1 : EW (k + 1) (m.line.toNat : Int) (reqF h.bs (entOf h.E m.line.toNat) m).1 := hew.req hr
        have f2 : (reqF h.bs (entOf h.E m.line.toNat) m).2.1.length = h.bs.length := req_bl okB rfl
        have f3 : takeH h m = putH h m (reqF h.bs (entOf h.E m.line.toNat) m) := hT.trans ((if_neg (by omega)).trans ((if_neg (by omega)).trans (if_neg (by omega))))
        rw [f3] at hS
        dsimp only [putH] at hS
        generalize reqF h.bs (entOf h.E m.line.toNat) m = x at f1 f2 hS ⊢
        refine Zoc 0 work_op rfl <| fun okx be' A' cap' Aq' cq' => ?_
        obtain ⟨kE', e1, e2, e3⟩ := ents_put hj he hK be' x.1
        have okN : HOk (k + 1) ⟨x.2.1, h.E.set m.line.toNat x.1⟩ := ok.put he (by rw [← hj]; exact okx) f2 f1
        refine Zhd [6] rfl rfl <| Zht 0 rfl (ym rfl) <| Zht 1 rfl (yn rfl) <| Zht 2 rfl (yf 1 rfl) <| Zht 3 rfl (yd 4 rfl rfl rfl) <| Zht 4 rfl (yf 3 rfl) <| Zht 5 rfl (yd 10 rfl rfl rfl) <| Zht 6 rfl (ym rfl) <| Zht 7 rfl (yn rfl) <| Zht 8 rfl (yf 1 rfl) ?_
        refine Zht 9 rfl (yd 0 rfl rfl rfl) <| Zh1 10 (by kernel_rfl) <| Zoe rfl (emu 0 rfl rfl rfl rfl rfl Tryz.underlying156 Tryz.underlying40) <| Zwh0 1 rfl <| Zhn (by kernel_rfl) <| Znx <| Zsr <| Zv (ym rfl) <| Zv (yn rfl) <| Zv (yf 0 rfl) <| Zv (yf 0 rfl) <| Zv (yd 1 rfl rfl rfl) ?_
        refine Ze (es 10 rfl rfl rfl rfl rfl) <| Zw0 <| Ze (es 9 rfl rfl rfl rfl rfl) <| Zw0 <| Znl <| Znx <| Zrt ?_
        rw [e1, List.nil_append]
        refine Zfx [2,3] (ent_fold (b := be') (d := x.1)) rfl ?_
        refine Zfx [0,5] e3 rfl ?_
        refine Zfx [4,4,1,0] (hom_fold (k := k + 1) (h := ⟨x.2.1, h.E.set m.line.toNat x.1⟩) okN e2) rfl ?_
        refine ZrD (r191 _ _) [] rfl (.c 5 rfl rfl rfl (.c 4 rfl rfl rfl .n)) (hS _ _) [2,0] 5 rfl rfl rfl
      · have hr : RqOk (m.line.toNat : Int) m := ⟨by omega, s0, s4, hj⟩
        rw [hk]
        refine Zv (ylk 3 rfl rfl rfl Tryz.underlying315 Tryz.underlying114 zv314) <| Zv (ydw 6 (m := 20) rfl rfl (Enc.len ..)) ?_
        refine Zkv (c192 b36 b bi r m (entOf h.E m.line.toNat) [] h.bs (by omega) s0 s4 (by decide) (by omega)) [0] rfl rfl rfl rfl <| Zq <| Znl <| Znx <| Zsq ?_
        have f1 : EW (k + 1) (m.line.toNat : Int) (reqF h.bs (entOf h.E m.line.toNat) m).1 := hew.req hr
        have f2 : (reqF h.bs (entOf h.E m.line.toNat) m).2.1.length = h.bs.length := req_bl okB rfl
        have f3 : takeH h m = putH h m (reqF h.bs (entOf h.E m.line.toNat) m) := hT.trans ((if_neg (by omega)).trans ((if_neg (by omega)).trans (if_neg (by omega))))
        rw [f3] at hS
        dsimp only [putH] at hS
        generalize reqF h.bs (entOf h.E m.line.toNat) m = x at f1 f2 hS ⊢
        refine Zoc 0 work_op rfl <| fun okx be' A' cap' Aq' cq' => ?_
        obtain ⟨kE', e1, e2, e3⟩ := ents_put hj he hK be' x.1
        have okN : HOk (k + 1) ⟨x.2.1, h.E.set m.line.toNat x.1⟩ := ok.put he (by rw [← hj]; exact okx) f2 f1
        refine Zhd [6] rfl rfl <| Zht 0 rfl (ym rfl) <| Zht 1 rfl (yn rfl) <| Zht 2 rfl (yf 1 rfl) <| Zht 3 rfl (yd 4 rfl rfl rfl) <| Zht 4 rfl (yf 3 rfl) <| Zht 5 rfl (yd 10 rfl rfl rfl) <| Zht 6 rfl (ym rfl) <| Zht 7 rfl (yn rfl) <| Zht 8 rfl (yf 1 rfl) ?_
        refine Zht 9 rfl (yd 0 rfl rfl rfl) <| Zh1 10 (by kernel_rfl) <| Zoe rfl (emu 0 rfl rfl rfl rfl rfl Tryz.underlying156 Tryz.underlying40) <| Zwh0 1 rfl <| Zhn (by kernel_rfl) <| Znx <| Zsr <| Zv (ym rfl) <| Zv (yn rfl) <| Zv (yf 0 rfl) <| Zv (yf 0 rfl) <| Zv (yd 1 rfl rfl rfl) ?_
        refine Ze (es 10 rfl rfl rfl rfl rfl) <| Zw0 <| Ze (es 9 rfl rfl rfl rfl rfl) <| Zw0 <| Znl <| Znx <| Zrt ?_
        rw [e1, List.nil_append]
        refine Zfx [2,3] (ent_fold (b := be') (d := x.1)) rfl ?_
        refine Zfx [0,5] e3 rfl ?_
        refine Zfx [4,4,1,0] (hom_fold (k := k + 1) (h := ⟨x.2.1, h.E.set m.line.toNat x.1⟩) okN e2) rfl ?_
        refine ZrD (r191 _ _) [] rfl (.c 5 rfl rfl rfl (.c 4 rfl rfl rfl .n)) (hS _ _) [2,0] 5 rfl rfl rfl
      · rw [hk]
        refine Zv (ylk 3 rfl rfl rfl Tryz.underlying315 Tryz.underlying114 zv314) <| Zv (ydw 6 (m := 20) rfl rfl (Enc.len ..)) ?_
        refine Zkv (c193 b36 b bi r m (entOf h.E m.line.toNat) [] h.bs s0 s4 hew.a (by decide)) [0] rfl rfl rfl rfl <| ⟨?_, ?_⟩
        refine fun a => Zq <| Znl <| Znx <| Zsq ?_
        rotate_left
        refine fun a => Zqp <| Zp1 ?_
        rotate_left
        · skip
          have f1 : EW (k + 1) (m.line.toNat : Int) (backH h.bs (entOf h.E m.line.toNat) m).1 := hew.back.mono (Nat.le_succ k)
          have f2 : (backH h.bs (entOf h.E m.line.toNat) m).2.1.length = h.bs.length := back_bl okB rfl
          have f3 : takeH h m = putH h m (backH h.bs (entOf h.E m.line.toNat) m) := hT.trans ((if_pos hk).trans (if_pos a))
          rw [f3] at hS
          dsimp only [putH] at hS
          generalize backH h.bs (entOf h.E m.line.toNat) m = x at f1 f2 hS ⊢
          refine Zoc 0 work_op rfl <| fun okx be' A' cap' Aq' cq' => ?_
          obtain ⟨kE', e1, e2, e3⟩ := ents_put hj he hK be' x.1
          have okN : HOk (k + 1) ⟨x.2.1, h.E.set m.line.toNat x.1⟩ := ok.put he (by rw [← hj]; exact okx) f2 f1
          refine Zhd [6] rfl rfl <| Zht 0 rfl (ym rfl) <| Zht 1 rfl (yn rfl) <| Zht 2 rfl (yf 1 rfl) <| Zht 3 rfl (yd 4 rfl rfl rfl) <| Zht 4 rfl (yf 3 rfl) <| Zht 5 rfl (yd 10 rfl rfl rfl) <| Zht 6 rfl (ym rfl) <| Zht 7 rfl (yn rfl) <| Zht 8 rfl (yf 1 rfl) ?_
          refine Zht 9 rfl (yd 0 rfl rfl rfl) <| Zh1 10 (by kernel_rfl) <| Zoe rfl (emu 0 rfl rfl rfl rfl rfl Tryz.underlying156 Tryz.underlying40) <| Zwh0 1 rfl <| Zhn (by kernel_rfl) <| Znx <| Zsr <| Zv (ym rfl) <| Zv (yn rfl) <| Zv (yf 0 rfl) <| Zv (yf 0 rfl) <| Zv (yd 1 rfl rfl rfl) ?_
          refine Ze (es 10 rfl rfl rfl rfl rfl) <| Zw0 <| Ze (es 9 rfl rfl rfl rfl rfl) <| Zw0 <| Znl <| Znx <| Zrt ?_
          rw [e1, List.nil_append]
          refine Zfx [2,3] (ent_fold (b := be') (d := x.1)) rfl ?_
          refine Zfx [0,5] e3 rfl ?_
          refine Zfx [4,4,1,0] (hom_fold (k := k + 1) (h := ⟨x.2.1, h.E.set m.line.toNat x.1⟩) okN e2) rfl ?_
          refine ZrD (r191 _ _) [] rfl (.c 5 rfl rfl rfl (.c 4 rfl rfl rfl .n)) (hS _ _) [2,0] 5 rfl rfl rfl
        · skip
          rw [show takeH h m = (h, [], 220) from hT.trans ((if_pos hk).trans (if_neg (by rw [a]; decide)))] at hS
          refine Zox 0 work_op rfl <| fun okx be' A' cap' Aq' cq' => ?_
          refine Zfx [4,4,4,4] (hom_fold (k := k) (h := h) ok hK) rfl ?_
          refine Zfx [0] (hom_mono (k := k) (b := b) (h := h)) rfl ?_
          refine Zix (fun _ hs => sep_nil (E := msgE) hs) ?_
          refine ZpD (p191 b4 b5 _ _ _ _ _) [8,7] rfl (.c 0 rfl rfl rfl (.c 1 rfl rfl rfl .n)) (hS none 0) [2,2] 8 rfl rfl rfl
      · rw [hk]
        refine Zv (ylk 3 rfl rfl rfl Tryz.underlying315 Tryz.underlying114 zv314) <| Zv (ydw 6 (m := 20) rfl rfl (Enc.len ..)) ?_
        refine Zkv (c194 b36 b bi r m (entOf h.E m.line.toNat) [] h.bs s0 s4 hew.w (by decide)) [0] rfl rfl rfl rfl <| ⟨?_, ?_⟩
        refine fun a => Zq <| Znl <| Znx <| Zsq ?_
        rotate_left
        refine fun a => Zqp <| Zp1 ?_
        rotate_left
        · skip
          have f1 : EW (k + 1) (m.line.toNat : Int) (ackH h.bs (entOf h.E m.line.toNat) m).1 := hew.ack.mono (Nat.le_succ k)
          have f2 : (ackH h.bs (entOf h.E m.line.toNat) m).2.1.length = h.bs.length := by rw [ack_bl]
          have f3 : takeH h m = putH h m (ackH h.bs (entOf h.E m.line.toNat) m) := hT.trans ((if_neg (by omega)).trans ((if_pos hk).trans (if_pos a)))
          rw [f3] at hS
          dsimp only [putH] at hS
          generalize ackH h.bs (entOf h.E m.line.toNat) m = x at f1 f2 hS ⊢
          refine Zoc 0 work_op rfl <| fun okx be' A' cap' Aq' cq' => ?_
          obtain ⟨kE', e1, e2, e3⟩ := ents_put hj he hK be' x.1
          have okN : HOk (k + 1) ⟨x.2.1, h.E.set m.line.toNat x.1⟩ := ok.put he (by rw [← hj]; exact okx) f2 f1
          refine Zhd [6] rfl rfl <| Zht 0 rfl (ym rfl) <| Zht 1 rfl (yn rfl) <| Zht 2 rfl (yf 1 rfl) <| Zht 3 rfl (yd 4 rfl rfl rfl) <| Zht 4 rfl (yf 3 rfl) <| Zht 5 rfl (yd 10 rfl rfl rfl) <| Zht 6 rfl (ym rfl) <| Zht 7 rfl (yn rfl) <| Zht 8 rfl (yf 1 rfl) ?_
          refine Zht 9 rfl (yd 0 rfl rfl rfl) <| Zh1 10 (by kernel_rfl) <| Zoe rfl (emu 0 rfl rfl rfl rfl rfl Tryz.underlying156 Tryz.underlying40) <| Zwh0 1 rfl <| Zhn (by kernel_rfl) <| Znx <| Zsr <| Zv (ym rfl) <| Zv (yn rfl) <| Zv (yf 0 rfl) <| Zv (yf 0 rfl) <| Zv (yd 1 rfl rfl rfl) ?_
          refine Ze (es 10 rfl rfl rfl rfl rfl) <| Zw0 <| Ze (es 9 rfl rfl rfl rfl rfl) <| Zw0 <| Znl <| Znx <| Zrt ?_
          rw [e1, List.nil_append]
          refine Zfx [2,3] (ent_fold (b := be') (d := x.1)) rfl ?_
          refine Zfx [0,5] e3 rfl ?_
          refine Zfx [4,4,1,0] (hom_fold (k := k + 1) (h := ⟨x.2.1, h.E.set m.line.toNat x.1⟩) okN e2) rfl ?_
          refine ZrD (r191 _ _) [] rfl (.c 5 rfl rfl rfl (.c 4 rfl rfl rfl .n)) (hS _ _) [2,0] 5 rfl rfl rfl
        · skip
          rw [show takeH h m = (h, [], 220) from hT.trans ((if_neg (by omega)).trans ((if_pos hk).trans (if_neg (by rw [a]; decide))))] at hS
          refine Zox 0 work_op rfl <| fun okx be' A' cap' Aq' cq' => ?_
          refine Zfx [4,4,4,4] (hom_fold (k := k) (h := h) ok hK) rfl ?_
          refine Zfx [0] (hom_mono (k := k) (b := b) (h := h)) rfl ?_
          refine Zix (fun _ hs => sep_nil (E := msgE) hs) ?_
          refine ZpD (p191 b4 b5 _ _ _ _ _) [8,7] rfl (.c 0 rfl rfl rfl (.c 1 rfl rfl rfl .n)) (hS none 0) [2,2] 8 rfl rfl rfl
      · rw [hk]
        refine Zv (ylk 3 rfl rfl rfl Tryz.underlying315 Tryz.underlying114 zv314) <| Zv (ydw 6 (m := 20) rfl rfl (Enc.len ..)) ?_
        refine Zkv (c195 b36 b bi r m.line m (entOf h.E m.line.toNat) [] h.bs (fun x hx => ⟨(hew.q x hx).k, (hew.q x hx).s0, (hew.q x hx).s4, (hew.q x hx).l.trans hj.symm⟩) (by show 0 + _ ≤ _; omega)) [0] rfl rfl rfl rfl <| ⟨?_, ?_⟩
        refine fun a => Zq <| Znl <| Znx <| Zsq ?_
        rotate_left
        refine fun a => Zqp <| Zp1 ?_
        rotate_left
        · skip
          have f1 : EW (k + 1) (m.line.toNat : Int) (drainF (entOf h.E m.line.toNat).q h.bs (entOf h.E m.line.toNat).fre).1 := (EW.drain _ _ _ hew.fre hew.q hew.l).mono (Nat.le_succ k)
          have f2 : (drainF (entOf h.E m.line.toNat).q h.bs (entOf h.E m.line.toNat).fre).2.1.length = h.bs.length := drain_bl _ _ _ (by rw [← hj]; exact okB) hew.q
          have f3 : takeH h m = putH h m (drainF (entOf h.E m.line.toNat).q h.bs (entOf h.E m.line.toNat).fre) := hT.trans ((if_neg (by omega)).trans ((if_neg (by omega)).trans ((if_pos hk).trans (if_pos a))))
          rw [f3] at hS
          dsimp only [putH] at hS
          generalize drainF (entOf h.E m.line.toNat).q h.bs (entOf h.E m.line.toNat).fre = x at f1 f2 hS ⊢
          refine Zoc 0 work_op rfl <| fun okx be' A' cap' Aq' cq' => ?_
          obtain ⟨kE', e1, e2, e3⟩ := ents_put hj he hK be' x.1
          have okN : HOk (k + 1) ⟨x.2.1, h.E.set m.line.toNat x.1⟩ := ok.put he (by rw [← hj]; exact okx) f2 f1
          refine Zhd [6] rfl rfl <| Zht 0 rfl (ym rfl) <| Zht 1 rfl (yn rfl) <| Zht 2 rfl (yf 1 rfl) <| Zht 3 rfl (yd 4 rfl rfl rfl) <| Zht 4 rfl (yf 3 rfl) <| Zht 5 rfl (yd 10 rfl rfl rfl) <| Zht 6 rfl (ym rfl) <| Zht 7 rfl (yn rfl) <| Zht 8 rfl (yf 1 rfl) ?_
          refine Zht 9 rfl (yd 0 rfl rfl rfl) <| Zh1 10 (by kernel_rfl) <| Zoe rfl (emu 0 rfl rfl rfl rfl rfl Tryz.underlying156 Tryz.underlying40) <| Zwh0 1 rfl <| Zhn (by kernel_rfl) <| Znx <| Zsr <| Zv (ym rfl) <| Zv (yn rfl) <| Zv (yf 0 rfl) <| Zv (yf 0 rfl) <| Zv (yd 1 rfl rfl rfl) ?_
          refine Ze (es 10 rfl rfl rfl rfl rfl) <| Zw0 <| Ze (es 9 rfl rfl rfl rfl rfl) <| Zw0 <| Znl <| Znx <| Zrt ?_
          rw [e1, List.nil_append]
          refine Zfx [2,3] (ent_fold (b := be') (d := x.1)) rfl ?_
          refine Zfx [0,5] e3 rfl ?_
          refine Zfx [4,4,1,0] (hom_fold (k := k + 1) (h := ⟨x.2.1, h.E.set m.line.toNat x.1⟩) okN e2) rfl ?_
          refine ZrD (r191 _ _) [] rfl (.c 5 rfl rfl rfl (.c 4 rfl rfl rfl .n)) (hS _ _) [2,0] 5 rfl rfl rfl
        · skip
          rw [show takeH h m = (h, [], 220) from hT.trans ((if_neg (by omega)).trans ((if_neg (by omega)).trans ((if_pos hk).trans (if_neg (by rw [a]; decide)))))] at hS
          refine Zox 0 work_op rfl <| fun okx be' A' cap' Aq' cq' => ?_
          refine Zfx [4,4,4,4] (hom_fold (k := k) (h := h) ok hK) rfl ?_
          refine Zfx [0] (hom_mono (k := k) (b := b) (h := h)) rfl ?_
          refine Zix (fun _ hs => sep_nil (E := msgE) hs) ?_
          refine ZpD (p191 b4 b5 _ _ _ _ _) [8,7] rfl (.c 0 rfl rfl rfl (.c 1 rfl rfl rfl .n)) (hS none 0) [2,2] 8 rfl rfl rfl
end Go.Proofs.YtpfijldkkfiooaaGreatDoor
namespace Go.Proofs.YtpfijldkkfiooaaGreatDoor
open Go
set_option maxRecDepth 4000
def MD.putH (m : MD) (h : HD) (q : List Msg) : MD := ⟨m.C, m.D, m.most, q, h⟩
def takM (m : MD) (q : List Msg) (x : Msg) : MD :=
  if x.dst ≠ 4 then (match m.D[x.dst.toNat]? with
    | some d => m.putD x.dst.toNat (takeF d x).1 (sendsF m.most q (takeF d x).2.1)
    | none => m)
  else m.putH (takeH m.h x).1 (sendsF m.most q (takeH m.h x).2.1)
def delivM (m : MD) (pick : Int) : MD := match m.q[pickAt pick m.q.length]? with
  | some x => takM m (delF m.q (pickAt pick m.q.length)) x
  | none => m
theorem deliv_at {m : MD} {pick : Int} {x : Msg} (a : m.q[pickAt pick m.q.length]? = some x) : delivM m pick = takM m (delF m.q (pickAt pick m.q.length)) x := by
  unfold delivM
  rw [a]
theorem MD.Ok.putH {k k' : Nat} {m : MD} (a : m.Ok k) (h : HD) {q : List Msg} (hq : (q.length : Int) ≤ m.most) : (m.putH h q).Ok k' := ⟨a.n0, a.n1, a.d, a.m0, a.m1, hq⟩
theorem part_putH {k b cap capb bn bh : Nat} {m : MD} {h : HD} {q : List Msg} {A B : Option Addr} {cb kb : List Nat} (ok : (m.putH h q).Ok k) (hl1 : cb.length = m.C.length) (hl2 : kb.length = m.C.length) : ∀ g, Sep [.blk b 108 [.slice A cb.length cap, .slice B kb.length capb, .pointer (some ⟨bn, 0, none⟩), .pointer (some ⟨bh, 0, none⟩)], .hp (own (ptrE 74) A cap cb), .hp (own (ptrE 80) B capb kb), .hp (corsC k (cb.zip m.C)), .hp (cacsC (kb.zip m.D)), .hp (netC bn m.most q), .hp (homC k bh h)] g → partC k b (m.putH h q) g := part_fold (m := m.putH h q) ok ⟨hl1, hl2⟩
theorem c94 (k b : Nat) (n0 pick : Int) (m : MD) (hp : -9223372036854775808 ≤ pick ∧ pick ≤ 9223372036854775807) (hk : k ≤ 1000) (hn : ∀ x ∈ m.q, x.dst = 4 ∨ (0 ≤ x.dst ∧ x.dst < (m.C.length : Int))) : Sp Tryz.prog 94 [.pointer (some ⟨b, 0, none⟩), .int .i64 n0, .int .i64 pick] [.hp (partC k b m)] fun K => K (.returned (.agg (didE.arr did0))) [.hp (partC (k + 1) b (delivM m pick))] := by
  refine Zen Tryz.func94 rfl rfl rfl fun e X Φ hS => Zoc 0 part_op rfl <| fun ok A cap B capb bn bh cb kb hl => ?_
  obtain ⟨hl1, hl2⟩ := hl
  have hm0 : m.most ≠ 0 := by have := ok.m0; omega
  have hql : m.q.length ≤ 1048576 := by have := ok.q; have := ok.m1; omega
  refine Zsr <| Ze (eal z53) fun b6 => Zw <| Znl <| Znx <| Zsr <| Zv (ym rfl) <| Zv (yn rfl) <| Zv (yf 2 rfl) <| Zv (yd 1 rfl rfl rfl) <| Zv (ym rfl) ?_
  refine Zk (c141 bn m.most pick m.q hm0 hql hp) [6] rfl rfl <| ⟨?_, ?_⟩
  refine fun a => Zq <| Zv (ym rfl) <| Zv (yx rfl rfl) <| Zv (yx rfl rfl) <| Ze (eal z117) fun b7 => Zw <| Ze (esw 0 (m := 20) rfl rfl rfl rfl rfl (Enc.len ..) (Enc.allL ..)) <| Zw0 <| Zv (ya rfl) <| Znl <| Znx ?_
  refine Zsq <| Zsr <| Zv (ym rfl) <| Zv (ynot rfl) <| Znl <| Znx <| Zct rfl <| Zsr <| Zv (yb l53 rfl) <| Ze (esw 2 (m := 20) rfl rfl rfl rfl rfl rfl rfl) <| Zw0 ?_
  refine Znl <| Znx <| Zrt <| Zr1 ?_
  rotate_left
  refine fun m_1 => fun a => Zq <| Zv (ym rfl) <| Zv (yx rfl rfl) <| Zv (yx rfl rfl) <| Ze (eal z117) fun b7 => Zw <| Ze (esw 0 (m := 20) rfl rfl rfl rfl rfl (Enc.len ..) (Enc.allL ..)) <| Zw0 <| Zv (ya rfl) <| Znl ?_
  refine Znx <| Zsq <| Zsr <| Zv (ym rfl) <| Zv (ynot rfl) <| Znl <| Znx <| Zcf rfl <| Zsk <| Znx ?_
  refine Zsr <| Zv (ym rfl) <| Zv (yn rfl) <| Zv (yf 3 rfl) <| Zv (yd 3 rfl rfl rfl) <| Zv (yfn rfl rfl) <| Zv (ya rfl) <| Znl <| Znx <| Zsq ?_
  refine Zsr <| Zv (yf 2 rfl) <| Zv (yd 0 rfl rfl rfl) <| Zv (yne rfl rfl) <| Znl <| Znx <| Zif rfl (fun h31 => ?_) (fun h31 => ?_)
  refine Zhd [] rfl rfl <| Zht 0 rfl (ym rfl) <| Zht 1 rfl (yn rfl) <| Zht 2 rfl (yf 1 rfl) <| Zht 3 rfl (yd 3 rfl rfl rfl) <| Zht 4 rfl (yf 2 rfl) <| Zht 5 rfl (yd 0 rfl rfl rfl) ?_
  rotate_left
  refine Zsk <| Znx <| Zsr <| Zv (ym rfl) <| Zv (ydw 0 (m := 20) rfl rfl (Enc.len ..)) ?_
  rotate_left
  · rw [show delivM m pick = m by unfold delivM; rw [show m.q[pickAt pick m.q.length]? = none by rw [a]; rfl]] at hS
    refine Zfx [1] (net_eq (q' := m.q) a.symm) rfl ?_
    refine Zfx [6] (cors_mono (k' := k + 1) (Nat.le_succ k)) rfl ?_
    refine Zfx [8] (hom_mono (k := k)) rfl ?_
    refine Zfx [5,5,5,1,4,1,0] (part_fold (k := k + 1) (m := m) ok.mono ⟨hl1, hl2⟩) rfl <| Zre (.wh 2 (m := 20) rfl rfl rfl .n) hS [0] 2 rfl rfl rfl rfl
  · have hmem : m_1 ∈ m.q := List.mem_of_getElem? a
    have hdl := del_len a
    have hd := ok.d
    have hj : m_1.dst = ((m_1.dst.toNat : Nat) : Int) := by have := hn m_1 hmem; omega
    have hjl : m_1.dst.toNat < kb.length := by have := hn m_1 hmem; omega
    have hki := gE hjl
    have hDi := gE (l := m.D) (k := m_1.dst.toNat) (by omega)
    have hz2 := zip_at hki hDi
    have hzl2 : m_1.dst.toNat < (kb.zip m.D).length := (List.getElem?_eq_some_iff.1 hz2).1
    rw [show delivM m pick = m.putD m_1.dst.toNat (takeF m.D[m_1.dst.toNat] m_1).1 (sendsF m.most (delF m.q (pickAt pick m.q.length)) (takeF m.D[m_1.dst.toNat] m_1).2.1) from (deliv_at a).trans ((if_pos h31).trans (by rw [hDi]))] at hS
    have hq1 : ((delF m.q (pickAt pick m.q.length)).length : Int) ≤ m.most := by have := ok.q; omega
    have okn := ok.putD (k' := k + 1) m_1.dst.toNat (takeF m.D[m_1.dst.toNat] m_1).1 (sends_len (l := (takeF m.D[m_1.dst.toNat] m_1).2.1) hq1)
    refine Zht 6 rfl (yea 5 own.rd rfl rfl (congrArg (fun x => some (Value.int .i64 x)) hj) hjl rfl Tryz.underlying106 rfl) <| Zht 7 rfl (yec (m := 0) 5 own.rd rfl (by assumption) rfl rfl rfl) <| Zht 8 rfl (yfn rfl rfl) <| Zht 9 rfl (ya rfl) <| Zhn (by kernel_rfl) <| Znx <| Zsr <| Zv (ym rfl) <| Zv (ydw 0 (m := 20) rfl rfl (Enc.len ..)) ?_
    refine Zol 7 (cacs_op hz2) rfl <| Zkv (c143 ..) [0] rfl rfl rfl rfl <| fun A_1 => fun cap_1 => Zq <| Zv (ym rfl) <| Zv (yx rfl rfl) <| Zv (yx rfl rfl) <| Zv (ya rfl) <| Zv (ya rfl) ?_
    refine Znl <| Znx <| Zsr <| Zv (ym rfl) <| Zv (ym rfl) ?_
    refine Zk (c139 b bn _ _ _ A_1 cap_1 (takeF m.D[m_1.dst.toNat] m_1).2.1 m.most (delF m.q (pickAt pick m.q.length)) ok.m0 ok.m1 hq1 (Nat.le_trans (take_len ..) (by decide))) [6,0,3] rfl rfl <| Zq <| Znl <| Znx <| Zsr <| Zv (yb l53 rfl) <| Ze (esw 6 (m := 20) rfl rfl rfl rfl rfl rfl rfl) <| Zw0 <| Znl <| Znx <| Zrt ?_
    refine Zfx [3,3] (cacs_in (c := (takeF m.D[m_1.dst.toNat] m_1).1) hki hzl2) rfl ?_
    refine Zfx [8] (cors_mono (k' := k + 1) (Nat.le_succ k)) rfl ?_
    refine Zfx [9] (hom_mono (k := k)) rfl ?_
    refine Zfx [3,7,7,1,1,2,0] (part_putD (k := k + 1) okn hl1 hl2) rfl <| Zre (.wh 3 (m := 20) rfl rfl rfl .n) hS [0] 3 rfl rfl rfl rfl
  · have hdl := del_len a
    rw [show delivM m pick = m.putH (takeH m.h m_1).1 (sendsF m.most (delF m.q (pickAt pick m.q.length)) (takeH m.h m_1).2.1) from (deliv_at a).trans (if_neg h31)] at hS
    have hq1 : ((delF m.q (pickAt pick m.q.length)).length : Int) ≤ m.most := by have := ok.q; omega
    have okn := ok.putH (k' := k + 1) (takeH m.h m_1).1 (sends_len (l := (takeH m.h m_1).2.1) hq1)
    refine Zol 8 hom_ok rfl <| fun hok => ?_
    have htl : (takeH m.h m_1).2.1.length ≤ 1048576 := Nat.le_trans (takeH_len hok m_1) (by omega)
    refine Zkv (c142 k bh m.h m_1 hk) [0] rfl rfl rfl rfl <| fun A_1 => fun cap_1 => Zq <| Zv (ym rfl) <| Zv (yx rfl rfl) <| Zv (yx rfl rfl) <| Zv (ya rfl) <| Zv (ya rfl) <| Znl ?_
    refine Znx <| Zsr <| Zv (ym rfl) <| Zv (ym rfl) ?_
    refine Zk (c139 b bn _ _ _ A_1 cap_1 (takeH m.h m_1).2.1 m.most (delF m.q (pickAt pick m.q.length)) ok.m0 ok.m1 hq1 htl) [5,0,2] rfl rfl <| Zq <| Znl <| Znx <| Zsr <| Zv (yb l53 rfl) <| Ze (esw 5 (m := 20) rfl rfl rfl rfl rfl rfl rfl) <| Zw0 <| Znl <| Znx <| Zrt ?_
    refine Zfx [8] (cors_mono (k' := k + 1) (Nat.le_succ k)) rfl ?_
    refine Zfx [1,6,6,0,5,1,1] (part_putH (k := k + 1) okn hl1 hl2) rfl <| Zre (.wh 3 (m := 20) rfl rfl rfl .n) hS [0] 3 rfl rfl rfl rfl
end Go.Proofs.YtpfijldkkfiooaaGreatDoor
namespace Go.Proofs.YtpfijldkkfiooaaGreatDoor
open Go
set_option maxRecDepth 4000
def drainM (m : MD) (i : Nat) (pick : Int) : MD × Did := match m.C[i]?, m.D[i]? with
  | some c, some d => (m.put i (drainR c d pick).1 (drainR c d pick).2.1 (sendsF m.most m.q (msOf (drainR c d pick).2.2)), didOf c.h.id (drainR c d pick).2.2)
  | _, _ => (m, did0)
theorem c93 (k b i : Nat) (pick : Int) (m : MD) (hi : i < m.C.length) (hp : -9223372036854775808 ≤ pick ∧ pick ≤ 9223372036854775807) (hk : k ≤ 1000000) : Sp Tryz.prog 93 [.pointer (some ⟨b, 0, none⟩), .int .i64 (i : Int), .int .i64 pick] [.hp (partC k b m)] fun K => K (.returned (.agg (didE.arr (drainM m i pick).2))) [.hp (partC (k + 1) b (drainM m i pick).1)] := by
  refine Zen Tryz.func93 rfl rfl rfl fun e X Φ hS => Zoc 0 part_op rfl <| fun ok A cap B capb bn bh cb kb hl => ?_
  obtain ⟨hl1, hl2⟩ := hl
  have hd := ok.d
  have hci := gE (l := cb) (k := i) (by omega)
  have hki := gE (l := kb) (k := i) (by omega)
  have hCi := gE hi
  have hDi := gE (l := m.D) (k := i) (by omega)
  have hz := zip_at hci hCi
  have hz2 := zip_at hki hDi
  have hzl : i < (cb.zip m.C).length := (List.getElem?_eq_some_iff.1 hz).1
  have hzl2 : i < (kb.zip m.D).length := (List.getElem?_eq_some_iff.1 hz2).1
  have hic : i < cb.length := by omega
  have hik : i < kb.length := by omega
  rw [show drainM m i pick = (m.put i (drainR m.C[i] m.D[i] pick).1 (drainR m.C[i] m.D[i] pick).2.1 (sendsF m.most m.q (msOf (drainR m.C[i] m.D[i] pick).2.2)), (didOf m.C[i].h.id (drainR m.C[i] m.D[i] pick).2.2)) by unfold drainM; rw [hCi, hDi]] at hS
  refine Zoc 3 (cors_op hz) rfl <| Zsr <| Ze (eal z53) fun b6 => Zw <| Znl <| Znx <| Zsq ?_
  refine Zoc 6 (cacs_op hz2) rfl ?_
  refine Zhd [0,2] rfl rfl <| Zht 0 rfl (ym rfl) <| Zht 1 rfl (yn rfl) <| Zht 2 rfl (yf 0 rfl) <| Zht 3 rfl (yd 3 rfl rfl rfl) <| Zht 4 rfl (ym rfl) <| Zht 5 rfl (yea 4 own.rd rfl rfl rfl (by first | assumption | omega) rfl Tryz.underlying105 rfl) <| Zht 6 rfl (yec (m := 0) 4 own.rd rfl (by assumption) rfl rfl rfl) <| Zht 7 rfl (ym rfl) <| Zht 8 rfl (yn rfl) ?_
  refine Zht 9 rfl (yf 1 rfl) <| Zht 10 rfl (yd 3 rfl rfl rfl) <| Zht 11 rfl (ym rfl) <| Zht 12 rfl (yea 5 own.rd rfl rfl rfl (by first | assumption | omega) rfl Tryz.underlying106 rfl) <| Zht 13 rfl (yec (m := 0) 5 own.rd rfl (by assumption) rfl rfl rfl) <| Zht 14 rfl (ym rfl) ?_
  have okn : (m.put i (drainR m.C[i] m.D[i] pick).1 (drainR m.C[i] m.D[i] pick).2.1 (sendsF m.most m.q (msOf (drainR m.C[i] m.D[i] pick).2.2))).Ok (k + 1) := ok.put i _ _ (sends_len ok.q)
  refine Zh2 15 20 (by kernel_rfl) (Zok (c140 cb[i] kb[i] k pick m.C[i] m.D[i] hp hk) [1,0] rfl rfl rfl <| fun A' cap' => Zqh 3 rfl ?_) (Zoe rfl (eal z53) fun b7 => Zwh 3 rfl ?_)
  · refine Zht 16 rfl (ym rfl) <| Zht 17 rfl (yx rfl rfl) <| Zht 18 rfl (yx rfl rfl) <| Zht 19 rfl (yx rfl rfl) <| Zh1 20 (by kernel_rfl) <| Zoe rfl (eal z53) fun b7 => Zwh 4 rfl <| Zh1 21 (by kernel_rfl) <| Zoe rfl (esw 0 (m := 20) rfl rfl rfl rfl rfl (Enc.len ..) (Enc.allL ..)) <| Zwh0 4 rfl <| Zht 22 rfl (ya rfl) <| Zht 23 rfl (ya rfl) <| Zhn (by kernel_rfl) <| Znx ?_
    refine Zsr <| Zv (ym rfl) <| Zv (ym rfl) ?_
    refine Zk (c139 b bn _ _ _ A' cap' (msOf (drainR m.C[i] m.D[i] pick).2.2) m.most m.q ok.m0 ok.m1 ok.q (Nat.le_trans (drain_len ..) (by decide))) [7,1,8] rfl rfl <| Zq <| Znl <| Znx <| Zsr <| Zv (ydw 3 (m := 20) rfl rfl (Enc.len ..)) <| Ze (esw 7 (m := 20) rfl rfl rfl rfl rfl (Enc.len ..) (Enc.allL ..)) <| Zw0 <| Znl <| Znx <| Zrt ?_
    refine Zfx [8] (cors_mono (k' := k + 1) (Nat.le_succ k)) rfl ?_
    refine Zfx [5,0] (cors_in (k := k + 1) (c := (drainR m.C[i] m.D[i] pick).1) hci hzl) rfl ?_
    refine Zfx [5,5] (cacs_in (c := (drainR m.C[i] m.D[i] pick).2.1) hki hzl2) rfl ?_
    refine Zfx [9] (hom_mono (k := k)) rfl ?_
    refine Zfx [3,7,7,2,1,2,0] (part_put (k := k + 1) okn hl1 hl2) rfl <| Zre (.wh 3 (m := 20) rfl rfl (Enc.len ..) .n) hS [0] 3 rfl rfl rfl rfl
  · refine Zh1 15 (by kernel_rfl) <| Zok (c140 cb[i] kb[i] k pick m.C[i] m.D[i] hp hk) [2,1] rfl rfl rfl <| fun A' cap' => Zqh 4 rfl <| Zht 16 rfl (ym rfl) <| Zht 17 rfl (yx rfl rfl) <| Zht 18 rfl (yx rfl rfl) <| Zht 19 rfl (yx rfl rfl) <| Zh1 21 (by kernel_rfl) <| Zoe rfl (esw 3 (m := 20) rfl rfl rfl rfl rfl (Enc.len ..) (Enc.allL ..)) <| Zwh0 4 rfl <| Zht 22 rfl (ya rfl) <| Zht 23 rfl (ya rfl) <| Zhn (by kernel_rfl) <| Znx ?_
    refine Zsr <| Zv (ym rfl) <| Zv (ym rfl) ?_
    refine Zk (c139 b bn _ _ _ A' cap' (msOf (drainR m.C[i] m.D[i] pick).2.2) m.most m.q ok.m0 ok.m1 ok.q (Nat.le_trans (drain_len ..) (by decide))) [7,0,8] rfl rfl <| Zq <| Znl <| Znx <| Zsr <| Zv (ydw 5 (m := 20) rfl rfl (Enc.len ..)) <| Ze (esw 7 (m := 20) rfl rfl rfl rfl rfl (Enc.len ..) (Enc.allL ..)) <| Zw0 <| Znl <| Znx <| Zrt ?_
    refine Zfx [8] (cors_mono (k' := k + 1) (Nat.le_succ k)) rfl ?_
    refine Zfx [4,0] (cors_in (k := k + 1) (c := (drainR m.C[i] m.D[i] pick).1) hci hzl) rfl ?_
    refine Zfx [4,5] (cacs_in (c := (drainR m.C[i] m.D[i] pick).2.1) hki hzl2) rfl ?_
    refine Zfx [9] (hom_mono (k := k)) rfl ?_
    refine Zfx [3,7,7,2,1,2,0] (part_put (k := k + 1) okn hl1 hl2) rfl <| Zre (.wh 3 (m := 20) rfl rfl (Enc.len ..) .n) hS [0] 3 rfl rfl rfl rfl
end Go.Proofs.YtpfijldkkfiooaaGreatDoor
namespace Go.Proofs.YtpfijldkkfiooaaGreatDoor
open Go
set_option maxRecDepth 4000
def machC (k b : Nat) (m : MD) : HP := fun h => ∃ bp, Sep [.blk b 104 [.pointer (some ⟨bp, 0, none⟩)], .hp (partC k bp m)] h
theorem mach_op {k b : Nat} {m : MD} : Op_ (machC k b m) fun K => ∀ bp, K [.blk b 104 [.pointer (some ⟨bp, 0, none⟩)], .hp (partC k bp m)] := .mk fun G K h hh => by
  obtain ⟨bp, hs⟩ := hh
  exact ⟨_, K bp, hs⟩
theorem mach_fold {k b bp : Nat} {m : MD} : ∀ h, Sep [.blk b 104 [.pointer (some ⟨bp, 0, none⟩)], .hp (partC k bp m)] h → machC k b m h := fun _ hs => ⟨bp, hs⟩
theorem c35 (k b : Nat) (m : MD) : Sp Tryz.prog 35 [.pointer (some ⟨b, 0, none⟩)] [.hp (machC k b m)] fun K => K (.returned (.bool false)) [.hp (machC k b m)] := by
  refine Zen Tryz.func35 rfl rfl rfl fun e X Φ hS => Zoc 0 mach_op rfl <| fun bp => ?_
  refine Zsr <| Zv (ya rfl) <| Znl <| Znx <| Zsr <| Zv (ym rfl) <| Zv (ypeq rfl rfl rfl) <| Zv (ym rfl) <| Zg rfl rfl <| Zv (ym rfl) ?_
  refine Zg rfl rfl <| Zv (yn rfl) <| Zg rfl rfl <| Zv (yf 0 rfl) <| Zg rfl rfl <| Zv (yd 0 rfl rfl rfl) <| Zg rfl rfl <| Zv (ypeq rfl rfl rfl) <| Zv (ypf rfl rfl) <| Zv (ya rfl) ?_
  refine Znl <| Znx <| Zrt ?_
  refine Zfx [0,0] (mach_fold (m := m)) rfl <| Zre (.t rfl .n) hS [0] 0 rfl rfl rfl rfl
theorem c43 (k b : Nat) (m : MD) : Sp Tryz.prog 43 [.pointer (some ⟨b, 0, none⟩)] [.hp (machC k b m)] fun K => ∀ A cap, K (.returned (.slice A m.q.length cap)) [.hp (own msgE A cap m.q), .hp (machC k b m)] := by
  refine Zen Tryz.func43 rfl rfl rfl fun e X Φ hS => Zsr <| Zv (ya rfl) <| Znl <| Znx <| Zsq <| Zsr <| Zv (ym rfl) <| Zk (c35 ..) [0] rfl rfl <| Zq ?_
  refine Znl <| Znx <| Zcf rfl <| Zsk <| Znx <| Zsr <| Zv (ym rfl) <| Zv (yn rfl) <| Zv (yf 0 rfl) ?_
  refine Zol 0 mach_op rfl <| fun bp => Zv (yd 0 rfl rfl rfl) <| Zv (yn rfl) <| Zv (yf 2 rfl) ?_
  refine Zol 1 part_op rfl <| fun ok A cap B capb bn bh cb kb hl => Zv (yd 0 rfl rfl rfl) ?_
  have hm0 : m.most ≠ 0 := by have := ok.m0; omega
  have hql : m.q.length ≤ 1048576 := by have := ok.q; have := ok.m1; omega
  refine Zol 5 net_op rfl <| fun An capn => Zol 1 own_len rfl <| fun hA hcp hcm => Zk (c80 ..) [1,0] rfl rfl <| fun A' => fun cap' => Zq <| Zv (ya rfl) <| Znl <| Znx <| Zrt ?_
  refine Zfx [1,1] (net_fold (b := bn) (q := m.q) rfl) rfl ?_
  refine Zfx [2,2,2,2,2,0,1] (part_fold (m := m) ok hl) rfl ?_
  refine Zfx [2,0] (mach_fold (m := m)) rfl <| Zre (.t rfl .n) (hS _ _) [1,0] 0 rfl rfl rfl rfl
theorem c50 (bp : Nat) : Sp Tryz.prog 50 [.pointer (some ⟨bp, 0, none⟩)] [] fun K => K (.returned (.agg #[.nilFunc, .func (.func 92) #[.pointer (some ⟨bp, 0, none⟩)] #[], .func (.func 93) #[.pointer (some ⟨bp, 0, none⟩)] #[], .func (.func 94) #[.pointer (some ⟨bp, 0, none⟩)] #[], .func (.func 95) #[.pointer (some ⟨bp, 0, none⟩)] #[], .func (.func 96) #[.pointer (some ⟨bp, 0, none⟩)] #[]])) [] := by
  refine Zen Tryz.func50 rfl rfl rfl fun e X Φ hS => Zsr <| Ze (eal z130) fun b2 => Zw <| Znl <| Znx <| Zsr <| Zv (ym rfl) <| Zv (yfn rfl rfl) <| Zv (ym rfl) <| Zv (yfn rfl rfl) ?_
  refine Zv (ym rfl) <| Zv (yfn rfl rfl) <| Zv (ym rfl) <| Zv (yfn rfl rfl) <| Zv (ym rfl) <| Zv (yfn rfl rfl) <| Zv (yb l130 rfl) <| Ze (esw 0 (m := 6) rfl rfl rfl rfl rfl rfl rfl) <| Zw0 <| Znl <| Znx ?_
  refine Zrt <| Zre (.wh 0 (m := 6) rfl rfl rfl .n) hS [] 1 rfl rfl rfl rfl
theorem part_mono {k b : Nat} {m : MD} : ∀ g, Sep [.hp (partC k b m)] g → partC (k + 1) b m g := fun g hs => by
  obtain ⟨h1, h2, hle, _, _, ⟨ok, A, cap, B, capb, bn, bh, cb, kb, hl, hp⟩, _⟩ := hs
  have hp := hp.up hle
  refine ⟨ok.mono, A, cap, B, capb, bn, bh, cb, kb, hl, ?_⟩
  refine hp.mapTl fun _ hp => hp.mapTl fun _ hp => hp.mapTl fun _ hp => ?_
  have hp := hp.hd (q := .hp (corsC (k + 1) (cb.zip m.C))) fun _ hh => cors_mono (Nat.le_succ k) _ (sep_hp1 hh)
  refine hp.mapTl fun _ hp => hp.mapTl fun _ hp => hp.mapTl fun _ hp => ?_
  exact hp.hd (q := .hp (homC (k + 1) bh m.h)) fun _ hh => hom_mono _ (sep_hp1 hh)
end Go.Proofs.YtpfijldkkfiooaaGreatDoor
namespace Go.Proofs.YtpfijldkkfiooaaGreatDoor
open Go
theorem Sp_fold {P : Program} {f : Nat} {args : List Value} {p : HP} {R L : List Ck} {S : Out → Prop} (c : Sp P f args (.hp p :: L) S) (hf : ∀ h, Sep R h → p h) : Sp P f args (R ++ L) S := ⟨fun e X w Φ hp hS => c.run e X w Φ (hp.imp fun h hs => by
  rw [List.append_assoc] at hs
  exact hs.unflat.hd (q := .hp p) hf) hS⟩
theorem Sp_fr1 {P : Program} {f : Nat} {args : List Value} {p p' : HP} {v : Value} {q : Ck} (c : Sp P f args [.hp p] fun K => K (.returned v) [.hp p']) : Sp P f args [.hp p, q] fun K => K (.returned v) [.hp p', q] := ⟨fun e X w Φ hp hS => c.run e (q :: X) w Φ hp hS⟩
theorem Sp_mo {P : Program} {f : Nat} {args : List Value} {p p' : HP} {v : Value} {L M : List Ck} (c : Sp P f args L fun K => K (.returned v) (.hp p :: M)) (h : ∀ g, Sep [.hp p] g → p' g) : Sp P f args L fun K => K (.returned v) (.hp p' :: M) := ⟨fun e X w Φ hp hS => c.run e X w Φ hp fun w' hw => hS w' (hw.imp fun g hs => hs.hd (q := .hp p') fun g' hp' => h g' (sep_hp1 hp'))⟩
def stepK (m : MD) (x : Cho) : MD × Did :=
  if x.kind = 1 then goM m (pickAt x.hart m.C.length) x.pick else if x.kind = 2 then drainM m (pickAt x.hart m.C.length) x.pick
  else if x.kind = 3 then (delivM m x.pick, did0) else if x.kind = 4 then (evictM m (pickAt x.hart m.C.length) x.pick, did0) else (spoilF m (pickAt x.hart m.C.length), did0)
def fnsL (bp : Nat) : List Value := [.nilFunc, .func (.func 92) #[.pointer (some ⟨bp, 0, none⟩)] #[], .func (.func 93) #[.pointer (some ⟨bp, 0, none⟩)] #[], .func (.func 94) #[.pointer (some ⟨bp, 0, none⟩)] #[], .func (.func 95) #[.pointer (some ⟨bp, 0, none⟩)] #[], .func (.func 96) #[.pointer (some ⟨bp, 0, none⟩)] #[]]
theorem step_fn (k bp : Nat) (m : MD) (x : Cho) (hk : k ≤ 1000) (h1 : 1 ≤ x.kind) (h5 : x.kind ≤ 5) (hp : -9223372036854775808 ≤ x.pick ∧ x.pick ≤ 9223372036854775807) (hi : pickAt x.hart m.C.length < m.C.length) (hn : ∀ y ∈ m.q, y.dst = 4 ∨ (0 ≤ y.dst ∧ y.dst < (m.C.length : Int))) : ∃ f, nth (fnsL bp) x.kind.toNat = some (.func (.func f) #[.pointer (some ⟨bp, 0, none⟩)] #[]) ∧ callOk Tryz.prog f = true ∧ Sp Tryz.prog f [.pointer (some ⟨bp, 0, none⟩), .int .i64 ((pickAt x.hart m.C.length : Nat) : Int), .int .i64 x.pick] [.hp (partC k bp m), spC] fun K => K (.returned (.agg (didE.arr (stepK m x).2))) [.hp (partC (k + 1) bp (stepK m x).1), spC] := by
  obtain ⟨kd, ht, pk'⟩ := x
  have hkd : kd = 1 ∨ kd = 2 ∨ kd = 3 ∨ kd = 4 ∨ kd = 5 := by
    have h1 : 1 ≤ kd := h1
    have h5 : kd ≤ 5 := h5
    omega
  rcases hkd with rfl | rfl | rfl | rfl | rfl
  · exact ⟨92, rfl, by kernel_rfl, Sp_mo (c92 k bp _ pk' m hi hp (by omega)) part_mono⟩
  · exact ⟨93, rfl, by kernel_rfl, Sp_fr1 (c93 k bp _ pk' m hi hp (by omega))⟩
  · exact ⟨94, rfl, by kernel_rfl, Sp_fr1 (c94 k bp _ pk' m hp hk hn)⟩
  · exact ⟨95, rfl, by kernel_rfl, Sp_fr1 (Sp_mo (c95 k bp _ pk' m hi hp) part_mono)⟩
  · exact ⟨96, rfl, by kernel_rfl, Sp_fr1 (Sp_mo (c96 k bp _ pk' m hi) part_mono)⟩
end Go.Proofs.YtpfijldkkfiooaaGreatDoor
namespace Go.Proofs.YtpfijldkkfiooaaGreatDoor
open Go
set_option maxRecDepth 4000
theorem Zjm {P : Program} {n : Nat} {r : Option Nat} {N : Nat × List Deferred} {T : Tb} {e : World} {Q : Exit → Act → World → Prop} {L : List Ck} {c c' : Code} {ι : Type} (Ti : ι → Tb) (Mi : ι → List Ck) (Y : List Ck) (h1 : ZC P r n c (Exit.then (Jk Ti (fun i => Mi i ++ Y) N e) Q) N T e L) (h2 : ∀ i, ZC P r n c' Q N (Ti i) e (Mi i ++ Y)) : ZC P r n c (Exit.then (Kc P r n c' Q) Q) N T e L := fun w hp ok a fr => by
  refine Code.wpIn_mono ?_ (h1 w hp ok a fr)
  intro ex a' w' he
  cases ex with
  | normal =>
    obtain ⟨j, h3, h4⟩ := he
    exact h2 j w' h4 ok a' h3
  | _ => exact he
def lostL : Nat → List Cor → List CD → List Cor
  | i + 1, c :: C, d :: D => (if lostB c d then c.setR none else c) :: lostL i C D
  | _, C, _ => C
theorem lost_len : ∀ (i : Nat) (C : List Cor) (D : List CD), (lostL i C D).length = C.length
  | 0, _, _ => rfl
  | _ + 1, [], _ => rfl
  | _ + 1, _ :: _, [] => rfl
  | i + 1, c :: C, d :: D => by simp [lostL, lost_len i C D]
theorem lost_at : ∀ {i : Nat} {C : List Cor} {D : List CD} {c : Cor}, C[i]? = some c → (lostL i C D)[i]? = some c
  | 0, _, _, _, h => h
  | _ + 1, [], _, _, h => by simp at h
  | _ + 1, _ :: _, [], _, h => h
  | i + 1, _ :: C, _ :: D, c, h => by
    simp only [List.getElem?_cons_succ] at h
    simp only [lostL, List.getElem?_cons_succ]
    exact lost_at h
theorem lost_snc : ∀ {i : Nat} {C : List Cor} {D : List CD} {c : Cor} {d : CD}, C[i]? = some c → D[i]? = some d → (lostL i C D).set i (if lostB c d then c.setR none else c) = lostL (i + 1) C D
  | 0, [], _, _, _, h, _ => by simp at h
  | 0, _ :: _, [], _, _, _, h => by simp at h
  | 0, _ :: _, _ :: _, c, d, h, h' => by
    simp at h h'
    subst h h'
    rfl
  | _ + 1, [], _, _, _, h, _ => by simp at h
  | _ + 1, _ :: _, [], _, _, _, h => by simp at h
  | i + 1, _ :: C, _ :: D, c, d, h, h' => by
    simp only [List.getElem?_cons_succ] at h h'
    have := lost_snc (i := i) h h'
    show _ :: (lostL i C D).set i _ = _ :: lostL (i + 1) C D
    rw [this]
def lostM (m : MD) : MD := ⟨lostL m.C.length m.C m.D, m.D, m.most, m.q, m.h⟩
theorem cacs_same {i b : Nat} {cb : List Nat} {l : List CD} {c : CD} (e : cb[i]? = some b) (e' : l[i]? = some c) (hi : i < (cb.zip l).length) : ∀ h, Sep [.hp (cacC b c), .hp (cacsC ((cb.zip l).eraseIdx i))] h → cacsC (cb.zip l) h := fun h hs => by
  have := cacs_in (c := c) e hi h hs
  rwa [show l.set i c = l from by
    obtain ⟨h1, h2⟩ := List.getElem?_eq_some_iff.1 e'
    rw [← h2]
    exact List.set_getElem_self h1] at this
theorem MD.Ok.lost {k : Nat} {m : MD} (a : m.Ok k) : (lostM m).Ok k := ⟨by show 0 < (lostL _ _ _).length; rw [lost_len]; exact a.n0, by show (lostL _ _ _).length ≤ 4; rw [lost_len]; exact a.n1, by show _ = (lostL _ _ _).length; rw [lost_len]; exact a.d, a.m0, a.m1, a.q⟩
theorem part_lost {k b cap capb bn bh : Nat} {m : MD} {A B : Option Addr} {cb kb : List Nat} (ok : m.Ok k) (hl : cb.length = m.C.length ∧ kb.length = m.C.length) : ∀ g, Sep [.blk b 108 [.slice A cb.length cap, .slice B kb.length capb, .pointer (some ⟨bn, 0, none⟩), .pointer (some ⟨bh, 0, none⟩)], .hp (own (ptrE 74) A cap cb), .hp (own (ptrE 80) B capb kb), .hp (corsC k (cb.zip (lostL m.C.length m.C m.D))), .hp (cacsC (kb.zip m.D)), .hp (netC bn m.most m.q), .hp (homC k bh m.h)] g → partC k b (lostM m) g := part_fold (m := lostM m) ok.lost (by rw [show (lostM m).C.length = m.C.length from lost_len ..]; exact hl)
theorem c16a (k b : Nat) (m : MD) (x : Cho) (hk : k ≤ 1000) (h1 : 1 ≤ x.kind) (h5 : x.kind ≤ 5) (hp : -9223372036854775808 ≤ x.pick ∧ x.pick ≤ 9223372036854775807) (hh : -9223372036854775808 ≤ x.hart ∧ x.hart ≤ 9223372036854775807) (hn : ∀ y ∈ m.q, y.dst = 4 ∨ (0 ≤ y.dst ∧ y.dst < (m.C.length : Int))) : Sp Tryz.prog 16 [.pointer (some ⟨b, 0, none⟩), .agg (choE.arr x)] [.hp (machC k b m), spC] fun K => K (.returned (.tuple #[.agg (didE.arr (stepK m x).2), .int .i64 0])) [.hp (machC (k + 1) b (lostM (stepK m x).1)), spC] := by
  refine Zen Tryz.func16 rfl rfl rfl fun e X Φ hS => ?_
  refine Zsr <| Ze (ebxE rfl) fun b3 => Zw <| Ze (eal z53) fun b4 => Zw <| Zv (ya rfl) <| Znl <| Znx <| Zsq <| Zbl <| Zsr <| Zv (ym rfl) ?_
  refine Zk (c35 ..) [2] rfl rfl <| Zq <| Zv (ya rfl) <| Znl <| Znx <| Zcf rfl <| Zsr <| Zv (ydw 2 (m := 3) rfl rfl (Enc.len ..)) <| Zk (c38 ..) [] rfl rfl <| Zq ?_
  refine Zv (ynot rfl) <| Zv (ya rfl) <| Znl <| Znx <| Zib rfl (fun h13 => ?_) (fun h13 => ?_)
  refine Zsr <| Zv (yb l53 rfl) <| Ze (esw 1 (m := 20) rfl rfl rfl rfl rfl rfl rfl) <| Zw0 <| Zv (ya rfl) <| Znl <| Znx <| Zrt <| Zr2 <| Zr1 ?_
  rotate_left
  refine Zsk <| Zxn <| Znx <| Zsq ?_
  rotate_left
  · exfalso
    simp at h13
    omega
  · refine Zoc 0 mach_op rfl <| fun bp => Zoc 1 part_op rfl <| fun ok A cap B capb bn bh cb kb hl => ?_
    refine Zjm (ι := Nat) (fun b6 => [(0, .pointer (some ⟨b, 0, none⟩)), (4, .pointer (some ⟨b4, 0, none⟩)), (5, .int .i64 0), (6, .pointer (some ⟨b6, 0, none⟩))]) (fun b6 => [.blk b6 53 (didE.cells (stepK m x).2), .hp (partC (k + 1) bp (stepK m x).1), .blk b4 53 (didE.cells did0), .blk b 104 [.pointer (some ⟨bp, 0, none⟩)], spC]) X ?_ fun i => ?_
    rotate_left
    refine Zsq <| Zsr <| Zv (ym rfl) <| Zv (yn rfl) <| Zv (yf 0 rfl) <| Zv (yd 3 rfl rfl rfl) <| Zv (yn rfl) <| Zv (yf 0 rfl) ?_
    rotate_left
    · have hcl : 0 < m.C.length := ok.n0
      have hcl4 := ok.n1
      obtain ⟨p1, p2, p3, p4⟩ := pick_lt x.hart hcl
      obtain ⟨f, hf, hok, hc⟩ := step_fn k bp m x hk h1 h5 hp p2 hn
      have hc := Sp_fold (L := [spC]) hc (part_fold (A := A) (cap := cap) (B := B) (capb := capb) (bn := bn) (bh := bh) ok hl)
      have hkn : x.kind = ((x.kind.toNat : Nat) : Int) := by omega
      have hkl : Nat.blt x.kind.toNat 6 = true := Nat.ble_eq_true_of_le (show x.kind.toNat + 1 ≤ 6 by omega)
      have hcb0 : 0 < cb.length := by omega
      have hcb4 : cb.length ≤ 1048576 := by omega
      rw [← hl.1] at hc
      refine Zhd [0,0,0,0,0,0,0,3] rfl rfl <| Zht 0 rfl (ym rfl) <| Zht 1 rfl (yn rfl) <| Zht 2 rfl (yf 0 rfl) <| Zht 3 rfl (yd 0 rfl rfl rfl) <| Zht 5 rfl (yf 0 rfl) <| Zht 6 rfl (yd 2 rfl rfl rfl) <| Zht 8 rfl (yf 1 rfl) <| Zht 9 rfl (yd 2 rfl rfl rfl) <| Zht 10 rfl (ym rfl) ?_
      refine Zht 11 rfl (yn rfl) <| Zht 12 rfl (yf 0 rfl) <| Zht 13 rfl (yd 0 rfl rfl rfl) <| Zht 14 rfl (yn rfl) <| Zht 15 rfl (yf 0 rfl) <| Zht 19 rfl (yf 2 rfl) <| Zht 20 rfl (yd 2 rfl rfl rfl) ?_
      refine Zh3 4 16 22 (by kernel_rfl) (Zok (c50 bp) [] rfl rfl rfl <| Zqh 8 rfl ?_) (Zov rfl (yd 0 rfl rfl rfl) ?_) (Zoe rfl (eal z53) fun b6 => Zwh 9 rfl ?_)
      · refine Zht 7 rfl (yix (i := x.kind.toNat) rfl (congrArg (fun v => some (Value.int .i64 v)) hkn) hf Tryz.underlying130 hkl) ?_
        refine Zh2 16 22 (by kernel_rfl) (Zov rfl (yd 0 rfl rfl rfl) ?_) (Zoe rfl (eal z53) fun b6 => Zwh 9 rfl ?_)
        · refine Zht 17 rfl (sl_of ⟨_, Tryz.underlying105⟩ rfl) ?_
          refine Zh2 18 22 (by kernel_rfl) (Zok (c51 x.hart cb.length hcb0 hcb4 hh) [] rfl rfl rfl <| Zqh 8 rfl ?_) (Zoe rfl (eal z53) fun b6 => Zwh 9 rfl ?_)
          · refine Zh2 21 22 (by kernel_rfl) (Zokv (t' := 25) hc [0,0,0,0,0,0,0,0] rfl rfl rfl rfl rfl (Zqh 2 rfl ?_) rfl hok) (Zoe rfl (eal z53) fun b6 => Zwh 9 rfl ?_)
            · refine Zh1 22 (by kernel_rfl) (Zoe rfl (eal z53) fun b6 => Zwh 3 rfl ?_)
              refine Zh1 23 (by kernel_rfl) <| Zoe rfl (esw 0 (m := 20) rfl rfl rfl rfl rfl (Enc.len ..) (Enc.allL ..)) <| Zwh0 3 rfl <| Zhn (by kernel_rfl) ?_
              refine Zjr b6 ⟨rfl, rfl, rfl, rfl, trivial⟩ [0,0,2,1,0] 1 rfl rfl
            · refine Zh1 21 (by kernel_rfl) (Zokv (t' := 25) hc [1,1,1,1,1,1,1,1] rfl rfl rfl rfl rfl (Zqh 3 rfl ?_) rfl hok)
              refine Zh1 23 (by kernel_rfl) <| Zoe rfl (esw 2 (m := 20) rfl rfl rfl rfl rfl (Enc.len ..) (Enc.allL ..)) <| Zwh0 3 rfl <| Zhn (by kernel_rfl) ?_
              refine Zjr b6 ⟨rfl, rfl, rfl, rfl, trivial⟩ [2,0,2,1,0] 1 rfl rfl
          · refine Zh1 18 (by kernel_rfl) (Zok (c51 x.hart cb.length hcb0 hcb4 hh) [] rfl rfl rfl <| Zqh 9 rfl ?_)
            refine Zh1 21 (by kernel_rfl) (Zokv (t' := 25) hc [1,1,1,1,1,1,1,1] rfl rfl rfl rfl rfl (Zqh 3 rfl ?_) rfl hok)
            refine Zh1 23 (by kernel_rfl) <| Zoe rfl (esw 2 (m := 20) rfl rfl rfl rfl rfl (Enc.len ..) (Enc.allL ..)) <| Zwh0 3 rfl <| Zhn (by kernel_rfl) ?_
            refine Zjr b6 ⟨rfl, rfl, rfl, rfl, trivial⟩ [2,0,2,1,0] 1 rfl rfl
        · refine Zh1 16 (by kernel_rfl) (Zov rfl (yd 1 rfl rfl rfl) ?_)
          refine Zht 17 rfl (sl_of ⟨_, Tryz.underlying105⟩ rfl) ?_
          refine Zh1 18 (by kernel_rfl) (Zok (c51 x.hart cb.length hcb0 hcb4 hh) [] rfl rfl rfl <| Zqh 9 rfl ?_)
          refine Zh1 21 (by kernel_rfl) (Zokv (t' := 25) hc [1,1,1,1,1,1,1,1] rfl rfl rfl rfl rfl (Zqh 3 rfl ?_) rfl hok)
          refine Zh1 23 (by kernel_rfl) <| Zoe rfl (esw 2 (m := 20) rfl rfl rfl rfl rfl (Enc.len ..) (Enc.allL ..)) <| Zwh0 3 rfl <| Zhn (by kernel_rfl) ?_
          refine Zjr b6 ⟨rfl, rfl, rfl, rfl, trivial⟩ [2,0,2,1,0] 1 rfl rfl
      · refine Zht 17 rfl (sl_of ⟨_, Tryz.underlying105⟩ rfl) ?_
        refine Zh2 4 22 (by kernel_rfl) (Zok (c50 bp) [] rfl rfl rfl <| Zqh 8 rfl ?_) (Zoe rfl (eal z53) fun b6 => Zwh 9 rfl ?_)
        · refine Zht 7 rfl (yix (i := x.kind.toNat) rfl (congrArg (fun v => some (Value.int .i64 v)) hkn) hf Tryz.underlying130 hkl) ?_
          refine Zh2 18 22 (by kernel_rfl) (Zok (c51 x.hart cb.length hcb0 hcb4 hh) [] rfl rfl rfl <| Zqh 8 rfl ?_) (Zoe rfl (eal z53) fun b6 => Zwh 9 rfl ?_)
          · refine Zh2 21 22 (by kernel_rfl) (Zokv (t' := 25) hc [0,0,0,0,0,0,0,0] rfl rfl rfl rfl rfl (Zqh 2 rfl ?_) rfl hok) (Zoe rfl (eal z53) fun b6 => Zwh 9 rfl ?_)
            · refine Zh1 22 (by kernel_rfl) (Zoe rfl (eal z53) fun b6 => Zwh 3 rfl ?_)
              refine Zh1 23 (by kernel_rfl) <| Zoe rfl (esw 0 (m := 20) rfl rfl rfl rfl rfl (Enc.len ..) (Enc.allL ..)) <| Zwh0 3 rfl <| Zhn (by kernel_rfl) ?_
              refine Zjr b6 ⟨rfl, rfl, rfl, rfl, trivial⟩ [0,0,2,1,0] 1 rfl rfl
            · refine Zh1 21 (by kernel_rfl) (Zokv (t' := 25) hc [1,1,1,1,1,1,1,1] rfl rfl rfl rfl rfl (Zqh 3 rfl ?_) rfl hok)
              refine Zh1 23 (by kernel_rfl) <| Zoe rfl (esw 2 (m := 20) rfl rfl rfl rfl rfl (Enc.len ..) (Enc.allL ..)) <| Zwh0 3 rfl <| Zhn (by kernel_rfl) ?_
              refine Zjr b6 ⟨rfl, rfl, rfl, rfl, trivial⟩ [2,0,2,1,0] 1 rfl rfl
          · refine Zh1 18 (by kernel_rfl) (Zok (c51 x.hart cb.length hcb0 hcb4 hh) [] rfl rfl rfl <| Zqh 9 rfl ?_)
            refine Zh1 21 (by kernel_rfl) (Zokv (t' := 25) hc [1,1,1,1,1,1,1,1] rfl rfl rfl rfl rfl (Zqh 3 rfl ?_) rfl hok)
            refine Zh1 23 (by kernel_rfl) <| Zoe rfl (esw 2 (m := 20) rfl rfl rfl rfl rfl (Enc.len ..) (Enc.allL ..)) <| Zwh0 3 rfl <| Zhn (by kernel_rfl) ?_
            refine Zjr b6 ⟨rfl, rfl, rfl, rfl, trivial⟩ [2,0,2,1,0] 1 rfl rfl
        · refine Zh1 4 (by kernel_rfl) (Zok (c50 bp) [] rfl rfl rfl <| Zqh 9 rfl ?_)
          refine Zht 7 rfl (yix (i := x.kind.toNat) rfl (congrArg (fun v => some (Value.int .i64 v)) hkn) hf Tryz.underlying130 hkl) ?_
          refine Zh1 18 (by kernel_rfl) (Zok (c51 x.hart cb.length hcb0 hcb4 hh) [] rfl rfl rfl <| Zqh 9 rfl ?_)
          refine Zh1 21 (by kernel_rfl) (Zokv (t' := 25) hc [1,1,1,1,1,1,1,1] rfl rfl rfl rfl rfl (Zqh 3 rfl ?_) rfl hok)
          refine Zh1 23 (by kernel_rfl) <| Zoe rfl (esw 2 (m := 20) rfl rfl rfl rfl rfl (Enc.len ..) (Enc.allL ..)) <| Zwh0 3 rfl <| Zhn (by kernel_rfl) ?_
          refine Zjr b6 ⟨rfl, rfl, rfl, rfl, trivial⟩ [2,0,2,1,0] 1 rfl rfl
      · refine Zh2 4 16 (by kernel_rfl) (Zok (c50 bp) [] rfl rfl rfl <| Zqh 9 rfl ?_) (Zov rfl (yd 1 rfl rfl rfl) ?_)
        · refine Zht 7 rfl (yix (i := x.kind.toNat) rfl (congrArg (fun v => some (Value.int .i64 v)) hkn) hf Tryz.underlying130 hkl) ?_
          refine Zh1 16 (by kernel_rfl) (Zov rfl (yd 1 rfl rfl rfl) ?_)
          refine Zht 17 rfl (sl_of ⟨_, Tryz.underlying105⟩ rfl) ?_
          refine Zh1 18 (by kernel_rfl) (Zok (c51 x.hart cb.length hcb0 hcb4 hh) [] rfl rfl rfl <| Zqh 9 rfl ?_)
          refine Zh1 21 (by kernel_rfl) (Zokv (t' := 25) hc [1,1,1,1,1,1,1,1] rfl rfl rfl rfl rfl (Zqh 3 rfl ?_) rfl hok)
          refine Zh1 23 (by kernel_rfl) <| Zoe rfl (esw 2 (m := 20) rfl rfl rfl rfl rfl (Enc.len ..) (Enc.allL ..)) <| Zwh0 3 rfl <| Zhn (by kernel_rfl) ?_
          refine Zjr b6 ⟨rfl, rfl, rfl, rfl, trivial⟩ [2,0,2,1,0] 1 rfl rfl
        · refine Zht 17 rfl (sl_of ⟨_, Tryz.underlying105⟩ rfl) ?_
          refine Zh1 4 (by kernel_rfl) (Zok (c50 bp) [] rfl rfl rfl <| Zqh 9 rfl ?_)
          refine Zht 7 rfl (yix (i := x.kind.toNat) rfl (congrArg (fun v => some (Value.int .i64 v)) hkn) hf Tryz.underlying130 hkl) ?_
          refine Zh1 18 (by kernel_rfl) (Zok (c51 x.hart cb.length hcb0 hcb4 hh) [] rfl rfl rfl <| Zqh 9 rfl ?_)
          refine Zh1 21 (by kernel_rfl) (Zokv (t' := 25) hc [1,1,1,1,1,1,1,1] rfl rfl rfl rfl rfl (Zqh 3 rfl ?_) rfl hok)
          refine Zh1 23 (by kernel_rfl) <| Zoe rfl (esw 2 (m := 20) rfl rfl rfl rfl rfl (Enc.len ..) (Enc.allL ..)) <| Zwh0 3 rfl <| Zhn (by kernel_rfl) ?_
          refine Zjr b6 ⟨rfl, rfl, rfl, rfl, trivial⟩ [2,0,2,1,0] 1 rfl rfl
    · generalize stepK m x = y at hS ⊢
      obtain ⟨m1, dd⟩ := y
      dsimp only at hS ⊢
      refine Zol 1 part_op rfl <| fun ok1 A1 cap1 B1 capb1 bn1 bh1 cb1 kb1 hl1 => Zv (yd 0 rfl rfl rfl) <| Zv (sl_of ⟨_, Tryz.underlying105⟩ rfl) <| Zv (ym rfl) <| Znl <| Znx <| Zbl ?_
      have hCl : m1.C.length ≤ 4 := ok1.n1
      have hDl := ok1.d
      obtain ⟨hl1, hl2⟩ := hl1
      refine Zlq (ι := { j : Nat // j ≤ cb1.length }) (fun j => [(48, .int .i64 (j.1 : Int)), (47, .int .i64 (cb1.length : Int)), (46, .slice A1 cb1.length cap1), (0, .pointer (some ⟨b, 0, none⟩)), (4, .pointer (some ⟨b4, 0, none⟩)), (5, .int .i64 0), (6, .pointer (some ⟨i, 0, none⟩))]) (fun j => [.hp (corsC (k + 1) (cb1.zip (lostL j.1 m1.C m1.D))), .hp (cacsC (kb1.zip m1.D))]) (fun j => cb1.length - j.1) ⟨0, by omega⟩ ⟨rfl, rfl, rfl, rfl, rfl, rfl, rfl, trivial⟩ [3, 3] rfl fun j => Zsr <| Zv (ylt rfl rfl) <| Znl <| Znx <| Zsq <| Zif rfl (fun h49 => ?_) (fun h49 => ?_)
      refine Zsk <| Znx <| Zsq <| Zbl <| Zsr <| Zv (ym rfl) <| Zv (yea 3 own.rd rfl rfl rfl (by first | assumption | omega) rfl Tryz.underlying105 rfl) <| Zv (yec (m := 0) 3 own.rd rfl (gE (by first | assumption | omega)) rfl rfl rfl) <| Zv (ya rfl) <| Zv (ya rfl) ?_
      refine Znl <| Znx <| Zrg <| Zv (ym rfl) <| Zv (ym rfl) <| Zv (yn rfl) <| Zv (yf 0 rfl) <| Zv (yd 9 rfl rfl rfl) <| Zv (yn rfl) <| Zv (yf 1 rfl) ?_
      refine Zv (yd 2 rfl rfl rfl) <| Zv (ym rfl) <| Zv (yea 4 own.rd rfl rfl rfl (by first | assumption | omega) rfl Tryz.underlying106 rfl) <| Zv (yec (m := 0) 4 own.rd rfl (gE (by first | assumption | omega)) rfl rfl rfl) ?_
      rotate_left
      refine Zex <| Zxt <| Zxt <| Zxx <| Znx <| Zsr <| Zv (ydw 7 (m := 20) rfl rfl (Enc.len ..)) <| Ze (esw 8 (m := 20) rfl rfl rfl rfl (Enc.len ..) (Enc.len ..) (Enc.allL ..)) <| Zw0 <| Zv (ya rfl) <| Znl ?_
      refine Znx <| Zrt ?_
      rotate_left
      · have hlt : j.1 < cb1.length := by omega
        have hci := gE hlt
        have hki := gE (l := kb1) (k := j.1) (by omega)
        have hCi := gE (l := m1.C) (k := j.1) (by omega)
        have hDi := gE (l := m1.D) (k := j.1) (by omega)
        have hz1 := zip_at hci (lost_at (D := m1.D) hCi)
        have hz2 := zip_at hki hDi
        have hzl1 := (List.getElem?_eq_some_iff.1 hz1).1
        have hzl2 := (List.getElem?_eq_some_iff.1 hz2).1
        refine Zol 0 (cors_op hz1) rfl ?_
        refine Zol 2 (cacs_op hz2) rfl ?_
        refine Zk (c52 (k + 1) cb1[j.1] kb1[j.1] m1.C[j.1] m1.D[j.1]) [2,0] rfl rfl <| Zq <| Znl <| Zxn <| Znx <| Zrg <| Zv (yadd rfl rfl (i64w rfl (by omega))) <| Zv (ym rfl) <| Znl ?_
        refine Zfx [0,2] (cors_in (c := if lostB m1.C[j.1] m1.D[j.1] then m1.C[j.1].setR none else m1.C[j.1]) hci hzl1) rfl ?_
        rw [lost_snc hCi hDi]
        refine Zfx [1,1] (cacs_same hki hDi hzl2) rfl ?_
        refine Zlr ⟨j.1 + 1, by omega⟩ (by show cb1.length - (j.1 + 1) < cb1.length - j.1; omega) ⟨rfl, rfl, rfl, rfl, rfl, rfl, rfl, trivial⟩ [1, 0] 0 rfl rfl
      · have hj := j.2
        rw [show j.1 = m1.C.length by omega]
        refine Zfx [2,2,2,0,0,0,0] (part_lost (m := m1) ok1 ⟨hl1, hl2⟩) rfl ?_
        refine Zfx [3,0] (mach_fold (m := lostM m1)) rfl <| Zre (.wh 2 (m := 20) rfl rfl (Enc.len ..) (.t rfl .n)) hS [0,2] 2 rfl rfl rfl rfl
end Go.Proofs.YtpfijldkkfiooaaGreatDoor
namespace Go.Proofs.YtpfijldkkfiooaaGreatDoor
open Go
def MsIn (n : Nat) (y : Msg) : Prop := (y.dst = 4 ∧ 0 ≤ y.src ∧ y.src < (n : Int)) ∨ (0 ≤ y.dst ∧ y.dst < (n : Int))
def SrcIn (n : Nat) (y : Msg) : Prop := 0 ≤ y.src ∧ y.src < (n : Int)
structure EnIn (n : Nat) (d : Ent) : Prop where
  o : d.o < (n : Int)
  sh : ∀ i : Nat, d.sh.get i = true → i < n
  a0 : 0 ≤ d.asks
  a1 : d.asks < (n : Int)
  q : ∀ y ∈ d.q, SrcIn n y
structure MD.In (m : MD) : Prop where
  d : ∀ (i : Nat) (d : CD), m.D[i]? = some d → d.id = i
  dl : m.D.length = m.C.length
  n0 : 0 < m.C.length
  q : ∀ y ∈ m.q, MsIn m.C.length y
  e : ∀ i : Nat, EnIn m.C.length (entOf m.h.E i)
theorem MD.In.hn {m : MD} (h : m.In) : ∀ y ∈ m.q, y.dst = 4 ∨ (0 ≤ y.dst ∧ y.dst < (m.C.length : Int)) := fun y hy => (h.q y hy).elim (fun h => .inl h.1) .inr
theorem en0 {n : Nat} (h : 0 < n) : EnIn n ent0 := ⟨by show (-1 : Int) < n; omega, fun i hi => by
  exfalso
  simp [ent0, sh0, Sh.get] at hi, by decide, by show (0 : Int) < n; omega, fun y hy => by cases hy⟩
theorem get_sh0 (i : Int) : sh0.get i = false := by simp [sh0, Sh.get]
theorem get_set2 {s : Sh} {j i : Int} {x : Bool} (h : (s.set j x).get i = true) : s.get i = true ∨ (i = j ∧ x = true) := by
  unfold Sh.set at h
  repeat' split at h
  all_goals first
    | exact .inl h
    | (rename_i hj
       subst hj
       unfold Sh.get at h ⊢
       dsimp only at h
       repeat' split at h
       all_goals first
         | exact absurd h (by decide)
         | exact .inr ⟨by assumption, h⟩
         | (left; simp_all))
theorem oth_in {n : Nat} {sh : Sh} {r : Int} (hs : ∀ i : Nat, sh.get i = true → i < n) : ∀ (k : Nat) (x : Int), x ∈ othK sh r k → 0 ≤ x ∧ x < (n : Int)
  | 0, _, hx => by cases hx
  | k + 1, x, hx => by
    unfold othK at hx
    split at hx
    · rename_i h1
      simp only [Bool.and_eq_true] at h1
      rcases List.mem_append.1 hx with h | h
      · exact oth_in hs k x h
      · rw [List.mem_singleton] at h
        subst h
        have := hs k h1.1
        omega
    · exact oth_in hs k x hx
section
variable {n : Nat} {d : Ent} {bs : List Int} {m : Msg}
theorem EnIn.leave (h : EnIn n d) (r : Int) : EnIn n (leaveF d r) := ⟨by
  show (if d.o = r then (-1 : Int) else d.o) < n
  have := h.o
  split
  · omega
  · exact this, h.sh, h.a0, h.a1, h.q⟩
theorem EnIn.own (h : EnIn n d) {r : Int} (hr : r < (n : Int)) : EnIn n (ownF d r) := ⟨hr, (fun i hi => by rw [show (ownF d r).sh = sh0 from rfl, get_sh0] at hi; cases hi), h.a0, h.a1, h.q⟩
theorem EnIn.busy (h : EnIn n d) (hm : SrcIn n m) (w : Int) (t : Bool) : EnIn n (busyF d m w t) := ⟨h.o, h.sh, hm.1, hm.2, h.q⟩
theorem EnIn.setS (h : EnIn n d) {s : Sh} (hs : ∀ i : Nat, s.get i = true → i < n) : EnIn n (d.setS s) := ⟨h.o, hs, h.a0, h.a1, h.q⟩
theorem EnIn.setW (h : EnIn n d) (w : Int) : EnIn n (d.setW w) := ⟨h.o, h.sh, h.a0, h.a1, h.q⟩
theorem EnIn.setT (h : EnIn n d) (w : Bool) : EnIn n (d.setT w) := ⟨h.o, h.sh, h.a0, h.a1, h.q⟩
theorem EnIn.setQ (h : EnIn n d) {q : List Msg} (hq : ∀ y ∈ q, SrcIn n y) : EnIn n (d.setQ q) := ⟨h.o, h.sh, h.a0, h.a1, hq⟩
theorem EnIn.fre (h : EnIn n d) : EnIn n d.fre := ⟨h.o, h.sh, Int.le_refl 0, by show (0 : Int) < n; have := h.a0; have := h.a1; omega, h.q⟩
theorem EnIn.writeD (h : EnIn n d) : EnIn n (writeD d) := (h.own h.a1).setT true
theorem sm_in {kind dst : Int} {b : B16} (h0 : 0 ≤ dst) (h1 : dst < (n : Int)) : MsIn n (sendM m kind dst b) := .inr ⟨h0, h1⟩
theorem begin_in (h : EnIn n d) (hm : SrcIn n m) : EnIn n (beginF bs d m).1 ∧ ∀ y ∈ (beginF bs d m).2.2, MsIn n y := by
  have hl := h.leave m.src
  have one : ∀ {kind dst : Int} {b : B16}, 0 ≤ dst → dst < (n : Int) → ∀ y ∈ [sendM m kind dst b], MsIn n y := fun h0 h1 y hy => by
    rw [List.mem_singleton] at hy
    subst hy
    exact sm_in h0 h1
  unfold beginF
  dsimp only
  split
  · exact ⟨hl, one hm.1 hm.2⟩
  · split
    · rename_i ho
      exact ⟨hl.busy hm _ _, one ho hl.o⟩
    · split
      · split
        · exact ⟨(hl.own hm.2).busy hm _ _, one hm.1 hm.2⟩
        · refine ⟨hl.busy hm _ _, fun y hy => ?_⟩
          obtain ⟨x, hx, rfl⟩ := List.mem_map.1 hy
          obtain ⟨h0, h1⟩ := oth_in hl.sh 4 x hx
          exact sm_in h0 h1
      · split
        · exact ⟨(hl.own hm.2).busy hm _ _, one hm.1 hm.2⟩
        · refine ⟨(hl.setS fun i hi => ?_).busy hm _ _, one hm.1 hm.2⟩
          rcases get_set2 hi with h | ⟨h, _⟩
          · exact hl.sh i h
          · have := hm.2
            omega
theorem drain_in : ∀ (q : List Msg) (bs : List Int) (d : Ent), EnIn n d → (∀ y ∈ q, SrcIn n y) → EnIn n (drainF q bs d).1 ∧ ∀ y ∈ (drainF q bs d).2.2, MsIn n y
  | [], bs, d, h, hq => ⟨h.setQ hq, fun y hy => by cases hy⟩
  | m :: r, bs, d, h, hq => by
    have hr : ∀ y ∈ r, SrcIn n y := fun y hy => hq y (.tail _ hy)
    cases hb : d.busy with
    | true =>
      rw [show drainF (m :: r) bs d = (d.setQ (m :: r), bs, []) from if_pos hb]
      exact ⟨h.setQ hq, fun y hy => by cases hy⟩
    | false =>
      rw [show drainF (m :: r) bs d = _ from if_neg (by rw [hb]; decide)]
      have h1 := begin_in (bs := bs) (h.setQ hr) (hq m (.head _))
      have h2 := drain_in r (beginF bs (d.setQ r) m).2.1 (beginF bs (d.setQ r) m).1 h1.1 hr
      exact ⟨h2.1, fun y hy => (List.mem_append.1 hy).elim (h1.2 y) (h2.2 y)⟩
theorem back_in (h : EnIn n d) (hm : SrcIn n m) : EnIn n (backH bs d m).1 ∧ ∀ y ∈ (backH bs d m).2.2, MsIn n y := by
  have one : ∀ {kind : Int} {b : B16}, ∀ y ∈ [sendM m kind d.asks b], MsIn n y := fun y hy => by
    rw [List.mem_singleton] at hy
    subst hy
    exact sm_in h.a0 h.a1
  unfold backH
  dsimp only
  split
  · exact ⟨(h.setW 0).writeD, one⟩
  · refine ⟨((((h.setW 0).own (r := -1) (by have := h.a0; have := h.a1; omega)).setS fun i hi => ?_).setT true), one⟩
    rcases get_set2 hi with h1 | ⟨h1, _⟩
    · rcases get_set2 h1 with h2 | ⟨h2, _⟩
      · rw [get_sh0] at h2; cases h2
      · have := hm.2; omega
    · have := h.a1; omega
theorem ack_in (h : EnIn n d) (hm : SrcIn n m) : EnIn n (ackH bs d m).1 ∧ ∀ y ∈ (ackH bs d m).2.2, MsIn n y := by
  have h1 : EnIn n ((d.setS (d.sh.set m.src false)).setW (d.waits - 1)) := (h.setS fun i hi => by
    rcases get_set2 hi with h1 | ⟨_, h1⟩
    · exact h.sh i h1
    · cases h1).setW _
  unfold ackH
  dsimp only
  split
  · refine ⟨h1.writeD, fun y hy => ?_⟩
    rw [List.mem_singleton] at hy
    subst hy
    exact sm_in h.a0 h.a1
  · exact ⟨h1, fun y hy => by cases hy⟩
theorem req_in (h : EnIn n d) (hm : SrcIn n m) : EnIn n (reqF bs d m).1 ∧ ∀ y ∈ (reqF bs d m).2.2, MsIn n y := by
  unfold reqF
  split
  · exact ⟨h.setQ fun y hy => (List.mem_append.1 hy).elim (h.q y) fun hy => by rw [List.mem_singleton] at hy; subst hy; exact hm, fun y hy => by cases hy⟩
  · exact begin_in h hm
theorem ent_set2 {E : List Ent} (h : ∀ i : Nat, EnIn n (entOf E i)) (j : Nat) {d : Ent} (hd : EnIn n d) : ∀ i : Nat, EnIn n (entOf (E.set j d) i) := fun i => by
  unfold entOf
  rw [List.getD_eq_getElem?_getD, List.getElem?_set]
  have := h i
  unfold entOf at this
  rw [List.getD_eq_getElem?_getD] at this
  split
  · split
    · exact hd
    · rename_i h1 h2
      subst h1
      rw [List.getElem?_eq_none (by omega)] at this
      exact this
  · exact this
theorem take_in {h : HD} {y : Msg} (he : ∀ i : Nat, EnIn n (entOf h.E i)) (hy : MsIn n y) (hd : y.dst = 4) (h4 : n ≤ 4) : (∀ i : Nat, EnIn n (entOf (takeH h y).1.E i)) ∧ ∀ z ∈ (takeH h y).2.1, MsIn n z := by
  have hs : SrcIn n y := by rcases hy with h | h; exact h.2; omega
  have no : ∀ {x : Int}, (∀ i : Nat, EnIn n (entOf (h, ([] : List Msg), x).1.E i)) ∧ ∀ z ∈ (h, ([] : List Msg), x).2.1, MsIn n z := ⟨he, fun z hz => by cases hz⟩
  have yes : ∀ {x : Ent × List Int × List Msg}, EnIn n x.1 ∧ (∀ z ∈ x.2.2, MsIn n z) → (∀ i : Nat, EnIn n (entOf (putH h y x).1.E i)) ∧ ∀ z ∈ (putH h y x).2.1, MsIn n z := fun hx => ⟨ent_set2 he _ hx.1, hx.2⟩
  have e0 := he y.line.toNat
  unfold takeH
  repeat' split
  · exact no
  · exact no
  · exact yes (back_in e0 hs)
  · exact no
  · exact yes (ack_in e0 hs)
  · exact no
  · exact yes (drain_in _ _ _ e0.fre e0.q)
  · exact no
  · exact yes (req_in e0 hs)
end
def DIn (d d' : CD) (l : List Msg) : Prop := d'.id = d.id ∧ ∀ y ∈ l, y.dst = 4 ∧ y.src = d.id
theorem DIn.no (d : CD) : DIn d d [] := ⟨rfl, fun y hy => by cases hy⟩
theorem DIn.one {d d' : CD} {m : Msg} (h : d'.id = d.id) (h1 : m.dst = 4) (h2 : m.src = d.id) : DIn d d' [m] := ⟨h, fun y hy => by rw [List.mem_singleton] at hy; subst hy; exact ⟨h1, h2⟩⟩
theorem out_in (d : CD) (x : Ln) : DIn d (outF d x).1 (outF d x).2.1 := by
  unfold outF
  split
  · exact ⟨rfl, fun y hy => by cases hy⟩
  · split
    · exact .no d
    · exact .one rfl rfl rfl
theorem ask_in (d : CD) (line : Int) (h : U32 line) (wr : Bool) (pick : Int) : DIn d (askF d line h wr pick).1 (askF d line h wr pick).2.1 := by
  unfold askF
  split
  · exact .no d
  · split
    · exact .no d
    · split
      · exact .one rfl rfl rfl
      · rename_i x _
        split
        · have := out_in d x
          refine ⟨this.1, fun y hy => ?_⟩
          rcases List.mem_append.1 hy with h | h
          · exact this.2 y h
          · rw [List.mem_singleton] at h; subst h; exact ⟨rfl, rfl⟩
        · exact .no d
theorem askA_in (d : CD) (a : Acc) (wr : Bool) (pick : Int) : DIn d (askA d a wr pick).1 (askA d a wr pick).2.1 := by
  unfold askA
  split
  · exact ask_in ..
  · exact .no d
theorem evict_in (d : CD) (pick : Int) : DIn d (evictF d pick).1 (evictF d pick).2 := by
  unfold evictF
  split
  · exact .no d
  · exact out_in ..
theorem write_in (d : CD) (a w v : Int) : (writeF d a w v).1.id = d.id := by
  unfold writeF
  repeat' split
  all_goals rfl
theorem backG_in {d d' : CD} {m : Msg} {bs : B16} (h : backG d m = some (d', bs)) : d'.id = d.id := by
  unfold backG at h
  split at h
  · cases h; rfl
  · split at h
    · cases h; rfl
    · cases h
theorem takeF_in (d : CD) (m : Msg) : DIn d (takeF d m).1 (takeF d m).2.1 := by
  unfold takeF
  split
  · exact .no d
  · split
    · split
      · exact .one rfl rfl rfl
      · exact .no d
    · split
      · split
        · rename_i hb
          exact .one (backG_in hb) rfl rfl
        · exact .no d
      · split
        · split
          · exact .no d
          · exact .one rfl rfl rfl
        · split
          · exact ⟨rfl, fun y hy => by cases hy⟩
          · exact .no d
abbrev RIn (d : CD) (r : ARes) : Prop := DIn d r.2.1 (msOf r.2.2)
theorem in_done (c : Cor) {d d' : CD} (w : Int) (x : Ans) (o : Int) (h : d'.id = d.id) : RIn d (doneR c d' w x o) := ⟨h, fun y hy => by cases hy⟩
theorem in_ask (c : Cor) (d : CD) (a : Acc) (wr : Bool) (pick : Int) : RIn d (askR c d a wr pick) := askA_in d a wr pick
theorem in_nil (c : Cor) (d : CD) : RIn d (failR c d []) := .no d
theorem act_in (c : Cor) (d : CD) (w pick : Int) (a : Acc) : RIn d (actR c d w pick a) := by
  unfold actR
  repeat' split
  · unfold loadR cachR; repeat' split
    all_goals first | exact in_nil .. | exact in_done _ _ _ _ rfl | exact in_ask ..
  · unfold storeR; repeat' split
    all_goals first | exact in_nil .. | exact in_done _ _ _ _ rfl | exact in_ask ..
  · unfold lrR; repeat' split
    all_goals first | exact in_nil .. | exact in_done _ _ _ _ rfl | exact in_ask ..
  · unfold scR; repeat' split
    all_goals first | exact in_nil .. | exact in_done _ _ _ _ rfl | exact in_done _ _ _ _ (write_in ..) | exact in_ask ..
  · unfold amoR; repeat' split
    all_goals first | exact in_nil .. | exact in_done _ _ _ _ rfl | exact in_done _ _ _ _ (write_in ..) | exact in_ask ..
  · unfold fenceR; repeat' split
    all_goals first | exact in_nil .. | exact in_done _ _ _ _ rfl | exact in_ask ..
  · exact in_done _ _ _ _ rfl
theorem goF_in (c : Cor) (d : CD) (pick : Int) : DIn d (goF c d pick).2.1 (goF c d pick).2.2.2 := by
  unfold goF
  repeat' split
  · exact .no d
  · exact .no d
  · exact act_in ..
theorem drainR_in (c : Cor) (d : CD) (pick : Int) : RIn d (drainR c d pick) := by
  unfold drainR
  repeat' split
  · exact in_nil ..
  · have h := askA_in (writeF d (hdS c.B).addr (hdS c.B).width (hdS c.B).value).1 ⟨0, (hdS c.B).addr, 0, 0, 0, false, false⟩ true pick
    have hw := write_in d (hdS c.B).addr (hdS c.B).width (hdS c.B).value
    exact ⟨h.1.trans hw, fun y hy => ⟨(h.2 y hy).1, (h.2 y hy).2.trans hw⟩⟩
  · exact ⟨write_in .., fun y hy => by cases hy⟩
theorem sendF_mem {most : Int} {q : List Msg} {m y : Msg} (h : y ∈ (sendF most q m).1) : y ∈ q ∨ y = m := by
  unfold sendF at h
  repeat' split at h
  · exact .inl h
  · exact .inl h
  · rcases List.mem_append.1 h with h | h
    · exact .inl h
    · exact .inr (List.mem_singleton.1 h)
theorem sends_mem {most : Int} : ∀ {l q : List Msg} {y : Msg}, y ∈ sendsF most q l → y ∈ q ∨ y ∈ l
  | [], _, _, h => .inl h
  | m :: l, q, y, h => by
    rcases sends_mem (l := l) h with h | h
    · exact (sendF_mem h).imp (fun h => h) fun e => by rw [e]; exact .head _
    · exact .inr (.tail _ h)
theorem del_mem {q : List Msg} {k : Nat} {y : Msg} (h : y ∈ delF q k) : y ∈ q := by
  unfold delF at h
  rcases List.mem_append.1 h with h | h
  · exact List.mem_of_mem_take h
  · exact List.mem_of_mem_drop h
theorem ids_set {D : List CD} (h : ∀ (i : Nat) (d : CD), D[i]? = some d → d.id = i) {j : Nat} {d d' : CD} (hj : D[j]? = some d) (hd : d'.id = d.id) : ∀ (i : Nat) (x : CD), (D.set j d')[i]? = some x → x.id = i := fun i x hx => by
  rw [List.getElem?_set] at hx
  split at hx
  · rename_i e
    subst e
    split at hx
    · cases hx
      rw [hd, h j d hj]
    · cases hx
  · exact h i x hx
theorem din_ms {m : MD} (h : m.In) {i : Nat} {d d' : CD} {l : List Msg} (hi : m.D[i]? = some d) (hd : DIn d d' l) : ∀ y ∈ l, MsIn m.C.length y := fun y hy => by
  have h1 := hd.2 y hy
  have h2 := h.d i d hi
  have h3 := (List.getElem?_eq_some_iff.1 hi).1
  have := h.dl
  exact .inl ⟨h1.1, by omega, by omega⟩
theorem MD.In.put {m : MD} (h : m.In) {i : Nat} {c : Cor} {d d' : CD} {l : List Msg} (hi : m.D[i]? = some d) (hd : DIn d d' l) : (m.put i c d' (sendsF m.most m.q l)).In where
  d := ids_set h.d hi hd.1
  dl := by show (m.D.set i d').length = (m.C.set i c).length; rw [List.length_set, List.length_set]; exact h.dl
  n0 := by show 0 < (m.C.set i c).length; rw [List.length_set]; exact h.n0
  q := fun y hy => by
    show MsIn (m.C.set i c).length y
    rw [List.length_set]
    exact (sends_mem hy).elim (h.q y) (din_ms h hi hd y)
  e := fun j => by
    show EnIn (m.C.set i c).length _
    rw [List.length_set]
    exact h.e j
theorem MD.In.putD {m : MD} (h : m.In) {i : Nat} {d d' : CD} {l q : List Msg} (hi : m.D[i]? = some d) (hd : DIn d d' l) (hq : ∀ y ∈ q, y ∈ m.q) : (m.putD i d' (sendsF m.most q l)).In where
  d := ids_set h.d hi hd.1
  dl := by show (m.D.set i d').length = m.C.length; rw [List.length_set]; exact h.dl
  n0 := h.n0
  q := fun y hy => (sends_mem hy).elim (fun hy => h.q y (hq y hy)) (din_ms h hi hd y)
  e := h.e
theorem MD.In.lost {m : MD} (h : m.In) : (lostM m).In where
  d := h.d
  dl := by show m.D.length = (lostL _ _ _).length; rw [lost_len]; exact h.dl
  n0 := by show 0 < (lostL _ _ _).length; rw [lost_len]; exact h.n0
  q := fun y hy => by
    show MsIn (lostL _ _ _).length y
    rw [lost_len]
    exact h.q y hy
  e := fun j => by
    show EnIn (lostL _ _ _).length _
    rw [lost_len]
    exact h.e j
theorem MD.In.step {m : MD} (h : m.In) (h4 : m.C.length ≤ 4) (x : Cho) : (stepK m x).1.In := by
  unfold stepK
  split
  · unfold goM
    split
    · rename_i c d _ hd
      exact h.put hd (goF_in c d x.pick)
    · exact h
  · split
    · unfold drainM
      split
      · rename_i c d _ hd
        exact h.put hd (drainR_in c d x.pick)
      · exact h
    · split
      · show (delivM m x.pick).In
        unfold delivM
        split
        · rename_i y hy
          have hmem := List.mem_of_getElem? hy
          have hin := h.q y hmem
          unfold takM
          split
          · split
            · rename_i d hd
              exact h.putD hd (takeF_in d y) fun z hz => del_mem hz
            · exact h
          · rename_i hd
            have hd : y.dst = 4 := Classical.not_not.1 hd
            obtain ⟨t1, t2⟩ := take_in h.e hin hd h4
            exact ⟨h.d, h.dl, h.n0, fun z hz => (sends_mem hz).elim (fun hz => h.q z (del_mem hz)) (t2 z), t1⟩
        · exact h
      · split
        · show (evictM m _ x.pick).In
          unfold evictM
          split
          · rename_i d hd
            exact h.putD hd (evict_in d x.pick) fun z hz => hz
          · exact h
        · show (spoilF m _).In
          unfold spoilF
          split
          · exact ⟨h.d, by show m.D.length = (m.C.set _ _).length; rw [List.length_set]; exact h.dl, by show 0 < (m.C.set _ _).length; rw [List.length_set]; exact h.n0, fun y hy => by show MsIn (m.C.set _ _).length y; rw [List.length_set]; exact h.q y hy, fun j => by show EnIn (m.C.set _ _).length _; rw [List.length_set]; exact h.e j⟩
          · exact h
end Go.Proofs.YtpfijldkkfiooaaGreatDoor
namespace Go.Proofs.YtpfijldkkfiooaaGreatDoor
open Go
theorem elDid : ElemI didE 33 136 := ⟨Tryz.underlying33, by
  obtain ⟨i0, hi, hz0, hz1, hz2⟩ := info_parts (show (Tryz.prog.info? 53).map (fun i => (i.zero, i.size, i.bytes)) = some (some (.agg (didE.arr did0)), 20, 136) by kernel_rfl)
  exact ⟨i0, _, hi, hz0, hz1, hz2, by rw [show (Value.agg (didE.arr did0)).cells = didE.arr did0 from rfl, didE.size]⟩⟩
theorem elHrt : ElemI hrtE 65 152 := ⟨Tryz.underlying65, by
  obtain ⟨i0, hi, hz0, hz1, hz2⟩ := info_parts (show (Tryz.prog.info? 59).map (fun i => (i.zero, i.size, i.bytes)) = some (some (.agg (hrtE.arr (hrt0 0))), 35, 152) by kernel_rfl)
  exact ⟨i0, _, hi, hz0, hz1, hz2, by rw [show (Value.agg (hrtE.arr (hrt0 0))).cells = hrtE.arr (hrt0 0) from rfl, hrtE.size]⟩⟩
theorem elCor : ElemI (ptrE 74) 105 8 := ⟨Tryz.underlying105, by
  obtain ⟨i0, hi, hz0, hz1, hz2⟩ := info_parts (show (Tryz.prog.info? 74).map (fun i => (i.zero, i.size, i.bytes)) = some (some (.pointer none), 1, 8) by kernel_rfl)
  exact ⟨i0, _, hi, hz0, hz1, hz2, rfl⟩⟩
theorem elCac : ElemI (ptrE 80) 106 8 := ⟨Tryz.underlying106, by
  obtain ⟨i0, hi, hz0, hz1, hz2⟩ := info_parts (show (Tryz.prog.info? 80).map (fun i => (i.zero, i.size, i.bytes)) = some (some (.pointer none), 1, 8) by kernel_rfl)
  exact ⟨i0, _, hi, hz0, hz1, hz2, rfl⟩⟩
section
variable {N : Nat × List Deferred} {T : Tb} {e : World} {L : List Ck} {x : Operand} {ty : TypeId} {pos : String} {af : Array Edge} {g : Option (Nat × Bool)} {dd : Option Nat} {t TT : Nat}
theorem ebp {k bytes : Nat} (hE : ElemI (ptrE TT) t bytes) (h : evT T x = some (.pointer (some ⟨k, 0, none⟩))) : Ef Tryz.prog N T e L ⟨dd, .buildSlice t 1 #[(0, x)], ty, pos, af, g⟩ fun K => ∀ A, K (some (.slice A 1 1)) (.hp (own (ptrE TT) A 1 [k]) :: L) := fun a w fr hp G kk => .inl (by
  obtain ⟨i, z, hi, hz, hsz, hby, hzc⟩ := hE.info
  have hs1 : i.size = 1 := hsz
  refine ⟨.slice (some ⟨w.heap.size, 0, none⟩) 1 1, w.alloc (.cells #[.pointer (some ⟨k, 0, none⟩)] TT), ?_, kk _ _ (hp.ownNew ((Only.refl _ w).alloc _) ⟨by simp, by decide, .inr ⟨_, 0, _, rfl, Go.heap_alloc_new w _, by simp [ptrE], by simp [ptrE]⟩⟩ inA_new)⟩
  have hfill : Instr.fill (fun q => some (q * i.size, i.size)) ((Array.range (1 * i.size)).map (z.cells[· % z.cells.size]!)) [(0, .pointer (some ⟨k, 0, none⟩))] = some #[.pointer (some ⟨k, 0, none⟩)] := by
    rw [hs1]
    generalize hzz : (Array.range (1 * 1)).map (z.cells[· % z.cells.size]!) = zz
    have hz1 : zz.size = 1 := by rw [← hzz]; simp
    rcases zz with ⟨_ | ⟨v0, _ | ⟨v1, l⟩⟩⟩
    · exact absurd hz1 (by simp)
    · rfl
    · exact absurd hz1 (by simp)
  have := run_buildSlice (P := Tryz.prog) w t TT 1 #[(0, .pointer (some ⟨k, 0, none⟩))] #[.pointer (some ⟨k, 0, none⟩)] i z hE.ty hi hz (by rw [hs1]; omega) (by rw [hs1]; omega) hfill
  simp [execOp, fr.evT h, this])
end
end Go.Proofs.YtpfijldkkfiooaaGreatDoor
namespace Go.Proofs.YtpfijldkkfiooaaGreatDoor
open Go
set_option maxRecDepth 4000
def rightC (x : Cho) : Bool := decide (1 ≤ x.kind) && decide (x.kind ≤ 5)
structure ChoIn (x : Cho) : Prop where
  h : -9223372036854775808 ≤ x.hart ∧ x.hart ≤ 9223372036854775807
  p : -9223372036854775808 ≤ x.pick ∧ x.pick ≤ 9223372036854775807
def cho0 : Cho := ⟨0, 0, 0⟩
theorem c78 (c : Ck) (A : Option Addr) (cap : Nat) (l : List Cho) (hR : Rd choE c A cap l) (hl : l.length ≤ 1048576) : Sp Tryz.prog 78 [.slice A l.length cap, .func (.func 37) #[] #[]] [c] fun K => ((∀ x ∈ l, rightC x = true) → K (.returned (.int .i64 (-1))) [c]) ∧ ((¬ ∀ x ∈ l, rightC x = true) → ∀ i : Nat, K (.returned (.int .i64 (i : Int))) [c]) := by
  refine Zen Tryz.func78 rfl rfl rfl fun e X Φ hS => Zsr <| Zv (ya rfl) <| Znl <| Znx <| Zsq <| Zsr <| Zv (ym rfl) <| Zv (sl_of ⟨_, Tryz.underlying26⟩ rfl) <| Zv (ym rfl) ?_
  refine Znl <| Znx <| Zbl ?_
  refine Zlq (ι := { i : Nat // i ≤ l.length ∧ ∀ j, j < i → rightC (l.getD j cho0) = true }) (fun i => [(8, .int .i64 (i.1 : Int)), (7, .int .i64 (l.length : Int)), (0, .slice A l.length cap), (1, .func (.func 37) #[] #[])]) (fun _ => [c]) (fun i => l.length - i.1) ⟨0, by omega, fun j hj => by omega⟩ ⟨rfl, rfl, rfl, rfl, trivial⟩ [0] rfl fun i => Zsr <| Zv (ylt rfl rfl) <| Znl <| Znx <| Zsq <| Zif rfl (fun h9 => ?_) (fun h9 => ?_)
  refine Zsk <| Znx <| Zsq <| Zbl <| Zsr <| Zv (ym rfl) <| Zv (ya rfl) <| Znl <| Znx <| Zsr ?_
  refine Zv (ym rfl) <| Zv (ym rfl) <| Zv (ym rfl) <| Zv (yea 0 hR rfl rfl rfl (by first | assumption | omega) rfl Tryz.underlying26 rfl) <| Zv (yel 0 hR rfl (gE (by first | assumption | omega)) rfl rfl rfl) <| Zkv (c37 ..) [] rfl rfl rfl rfl <| Zq <| Znl <| Znx <| Zib rfl (fun h16 => ?_) (fun h16 => ?_)
  refine Zsr <| Zv (ym rfl) <| Zv (ya rfl) <| Znl <| Znx <| Zrt <| Zr2 <| Zr1 <| Zr1 <| Zr2 ?_
  refine Zr1 ?_
  rotate_left
  refine Zsk <| Zxn <| Znx <| Zrg <| Zv (yadd rfl rfl (i64w rfl (by omega))) <| Zv (ym rfl) <| Znl ?_
  rotate_left
  refine Zex <| Zxt <| Zxt <| Zxx <| Znx <| Zsr <| Zv (ya rfl) <| Znl <| Znx <| Zrt ?_
  rotate_left
  · have hlt : i.1 < l.length := by omega
    refine Zix (fun _ hs => hs) ?_
    refine Zre (.t rfl .n) (hS.2 (fun h => by have := h _ (List.getElem_mem hlt); unfold rightC at this; rw [this] at h16; cases h16) i.1) [0] 0 rfl rfl rfl rfl
  · have hlt : i.1 < l.length := by omega
    have e1 : l.getD i.1 cho0 = l[i.1] := by simp [List.getD, hlt]
    refine Zlr ⟨i.1 + 1, by omega, fun j hj => ?_⟩ (by show l.length - (i.1 + 1) < l.length - i.1; omega) ⟨rfl, rfl, rfl, rfl, trivial⟩ [0] 0 rfl rfl
    by_cases hji : j = i.1
    · rw [hji, e1]
      unfold rightC
      cases hb : (decide (1 ≤ l[i.1].kind) && decide (l[i.1].kind ≤ 5)) with
      | true => rfl
      | false => rw [hb] at h16; cases h16
    · exact i.2.2 j (by omega)
  · have hlt : i.1 = l.length := by have := i.2.1; omega
    refine Zre (.t rfl .n) (hS.1 fun x hx => by obtain ⟨j, hj, rfl⟩ := List.getElem_of_mem hx; have := i.2.2 j (by omega); simpa [List.getD, hj] using this) [0] 0 rfl rfl rfl rfl
theorem c36 (c : Ck) (A : Option Addr) (cap : Nat) (l : List Cho) (hR : Rd choE c A cap l) (hl : l.length ≤ 1048576) : Sp Tryz.prog 36 [.slice A l.length cap, .func (.func 37) #[] #[]] [c] fun K => ((∀ x ∈ l, rightC x = true) → K (.returned (.bool false)) [c]) ∧ ((¬ ∀ x ∈ l, rightC x = true) → K (.returned (.bool true)) [c]) := by
  refine Zen Tryz.func36 rfl rfl rfl fun e X Φ hS => Zsr <| Zv (ya rfl) <| Znl <| Znx <| Zsr <| Zv (ym rfl) <| Zv (ym rfl) ?_
  refine Zk (c78 c A cap l hR hl) [0] rfl rfl <| ⟨?_, ?_⟩
  refine fun a => Zq <| Zv (yge rfl rfl) <| Zv (ya rfl) <| Znl <| Znx <| Zrt ?_
  rotate_left
  refine fun a => fun i => Zq <| Zv (yge rfl rfl) <| Zv (ya rfl) <| Znl <| Znx <| Zrt ?_
  rotate_left
  · refine Zre (.t rfl .n) (hS.1 a) [0] 0 rfl rfl rfl rfl
  · refine Zre (.t rfl .n) (hS.2 a) [0] 0 rfl rfl rfl rfl
def runF (s : MD × List Did) (x : Cho) : MD × List Did := (lostM (stepK s.1 x).1, if (stepK s.1 x).2.kind ≠ 0 then s.2 ++ [(stepK s.1 x).2] else s.2)
def runM (m : MD) (l : List Cho) : MD × List Did := l.foldl runF (m, [])
theorem run_snc {m : MD} {l : List Cho} {i : Nat} (h : i < l.length) : runM m (l.take (i + 1)) = runF (runM m (l.take i)) l[i] := by
  unfold runM
  rw [← take_snc (gE h), List.foldl_append]
  rfl
theorem step_cl (m : MD) (x : Cho) : (lostM (stepK m x).1).C.length = m.C.length := by
  show (lostL _ _ _).length = _
  rw [lost_len]
  unfold stepK
  split
  · unfold goM
    split
    · exact List.length_set
    · rfl
  · split
    · unfold drainM
      split
      · exact List.length_set
      · rfl
    · split
      · show (delivM m x.pick).C.length = _
        unfold delivM
        split
        · unfold takM
          repeat' split
          all_goals rfl
        · rfl
      · split
        · show (evictM m _ x.pick).C.length = _
          unfold evictM
          split
          all_goals rfl
        · show (spoilF m _).C.length = _
          unfold spoilF
          split
          · exact List.length_set
          · rfl
theorem runs_in : ∀ {l : List Cho} {s : MD × List Did}, s.1.In → s.1.C.length ≤ 4 → (l.foldl runF s).1.In ∧ (l.foldl runF s).1.C.length = s.1.C.length
  | [], _, h, _ => ⟨h, rfl⟩
  | x :: l, s, h, h4 => by
    have h1 : (runF s x).1.In := (h.step h4 x).lost
    have h2 : (runF s x).1.C.length = s.1.C.length := step_cl s.1 x
    have := runs_in (l := l) (s := runF s x) h1 (by omega)
    exact ⟨this.1, this.2.trans h2⟩
theorem run_dl (m : MD) (l : List Cho) : (runM m l).2.length ≤ l.length := by
  have : ∀ (l : List Cho) (s : MD × List Did), (l.foldl runF s).2.length ≤ s.2.length + l.length := fun l => by
    induction l with
    | nil => intro s; exact Nat.le_refl _
    | cons x l ih =>
      intro s
      have h1 := ih (runF s x)
      have h2 : (runF s x).2.length ≤ s.2.length + 1 := by
        unfold runF
        dsimp only
        split
        · simp
        · omega
      simp only [List.foldl_cons, List.length_cons]
      omega
  have := this l (m, [])
  rw [List.length_nil, Nat.zero_add] at this
  exact this
theorem c10 (k b : Nat) (m : MD) (c : Ck) (A : Option Addr) (cap : Nat) (l : List Cho) (hR : Rd choE c A cap l) (hl : k + l.length ≤ 1000) (hx : ∀ x ∈ l, ChoIn x) (hm : m.In) (h4 : m.C.length ≤ 4) : Sp Tryz.prog 10 [.pointer (some ⟨b, 0, none⟩), .slice A l.length cap] [.hp (machC k b m), spC, c] fun K => ((∀ x ∈ l, rightC x = true) → ∀ A' cap', K (.returned (.tuple #[.slice A' (runM m l).2.length cap', .int .i64 0])) [.hp (own didE A' cap' (runM m l).2), .hp (machC (k + l.length) b (runM m l).1), spC, c]) ∧ ((¬ ∀ x ∈ l, rightC x = true) → K (.returned (.tuple #[.slice none 0 0, .int .i64 2])) [.hp (machC k b m), spC, c]) := by
  have hl2 : l.length ≤ 1048576 := by omega
  refine Zen Tryz.func10 rfl rfl rfl fun e X Φ hS => Zsr <| Zv (ya rfl) <| Zv (ya rfl) <| Znl <| Znx <| Zsq <| Zbl <| Zsr <| Zv (ym rfl) ?_
  refine Zk (c35 ..) [0] rfl rfl <| Zq <| Zv (ya rfl) <| Znl <| Znx <| Zcf rfl <| Zsr <| Zv (ym rfl) ?_
  refine Zk (c36 c A cap l hR hl2) [2] rfl rfl <| ⟨?_, ?_⟩
  refine fun a => Zq <| Zv (ya rfl) <| Znl <| Znx <| Zcf rfl <| Zsk <| Zxn <| Znx <| Zsr ?_
  refine Zv (ya rfl) <| Znl <| Znx <| Zsq <| Zsr <| Zv (ym rfl) <| Zv (sl_of ⟨_, Tryz.underlying26⟩ rfl) <| Zv (ym rfl) <| Znl <| Znx ?_
  refine Zbl ?_
  rotate_left
  refine fun a => Zq <| Zv (ya rfl) <| Znl <| Znx <| Zct rfl <| Zsr <| Zv (ya rfl) <| Zv (ya rfl) <| Znl ?_
  refine Znx <| Zrt <| Zr2 <| Zr1 ?_
  rotate_left
  · refine Zic (fun _ hs => sep_nil (E := didE) hs) ?_
    refine Zlq (ι := { p : Nat × Option Addr × Nat // p.1 ≤ l.length }) (fun p => [(19, .int .i64 (p.1.1 : Int)), (18, .int .i64 (l.length : Int)), (17, .slice A l.length cap), (6, .slice p.1.2.1 (runM m (l.take p.1.1)).2.length p.1.2.2), (0, .pointer (some ⟨b, 0, none⟩))]) (fun p => [.hp (own didE p.1.2.1 p.1.2.2 (runM m (l.take p.1.1)).2), .hp (machC (k + p.1.1) b (runM m (l.take p.1.1)).1), spC, c]) (fun p => l.length - p.1.1) ⟨(0, none, 0), by show 0 ≤ _; omega⟩ ⟨rfl, rfl, rfl, rfl, rfl, trivial⟩ [0, 1, 1, 0] rfl fun p => Zsr <| Zv (ylt rfl rfl) <| Znl <| Znx <| Zsq <| Zif rfl (fun h20 => ?_) (fun h20 => ?_)
    refine Zsk <| Znx <| Zsq <| Zbl <| Zsr <| Zv (yea 3 hR rfl rfl rfl (by first | assumption | omega) rfl Tryz.underlying26 rfl) <| Zv (yel 3 hR rfl (gE (by first | assumption | omega)) rfl rfl rfl) <| Ze (eal z71) fun b8 => Zw <| Ze (esw 0 (m := 3) rfl rfl rfl rfl rfl (Enc.len ..) (Enc.allL ..)) <| Zw0 <| Znl ?_
    refine Znx <| Zsr <| Zv (ym rfl) <| Zv (ydw 0 (m := 3) rfl rfl (Enc.len ..)) ?_
    rotate_left
    refine Zex <| Zxt <| Zxt <| Zxx <| Znx <| Zsr <| Zv (ym rfl) <| Zv (ya rfl) <| Zv (ya rfl) <| Znl ?_
    refine Znx <| Zrt ?_
    rotate_left
    · have hlt : p.1.1 < l.length := by omega
      have hin := (runs_in (l := l.take p.1.1) (s := (m, [])) hm h4).1
      have hcl := (runs_in (l := l.take p.1.1) (s := (m, [])) hm h4).2
      have hr := a _ (List.getElem_mem hlt)
      have hr' : 1 ≤ l[p.1.1].kind ∧ l[p.1.1].kind ≤ 5 := by simpa [rightC] using hr
      have hxi := hx _ (List.getElem_mem hlt)
      refine Zk (c16a (k + p.1.1) b (runM m (l.take p.1.1)).1 l[p.1.1] (by omega) hr'.1 hr'.2 hxi.p hxi.h hin.hn) [2,2] rfl rfl <| Zq <| Zv (ym rfl) <| Zv (yx rfl rfl) <| Zv (yx rfl rfl) <| Ze (eal z53) fun b9 => Zw <| Ze (esw 0 (m := 20) rfl rfl rfl rfl rfl (Enc.len ..) (Enc.allL ..)) <| Zw0 <| Zv (ya rfl) <| Znl <| Znx ?_
      refine Zsr <| Zv (yf 0 rfl) <| Zv (yd 0 rfl rfl rfl) <| Zv (yne rfl rfl) <| Znl <| Znx <| Zif rfl (fun h31 => ?_) (fun h31 => ?_)
      refine Zrg <| Zv (ym rfl) <| Zv (ydw 0 (m := 20) rfl rfl (Enc.len ..)) <| Ze (eb1 elDid (by decide) rfl) fun A34 => Zw ?_
      rotate_left
      refine Zsk <| Zxn <| Znx <| Zrg <| Zv (yadd rfl rfl (i64w rfl (by omega))) <| Zv (ym rfl) <| Znl ?_
      rotate_left
      have hdl : (runM m (l.take p.1.1)).2.length ≤ p.1.1 := by
        have := run_dl m (l.take p.1.1)
        rw [List.length_take] at this
        omega
      have hm1 : (runM m (l.take p.1.1)).2.length + 1 ≤ maxLen := Nat.le_trans (show _ ≤ 1048576 by omega) (by decide)
      · refine Ze (eap' 5 0 elDid rfl rfl rfl own.rd rfl rfl rfl (fun _ _ => rfl) (by simp; omega) hm1) <| fun A' cap' => Zw <| Zv (ya rfl) <| Znl <| Zxn <| Znx <| Zrg <| Zv (yadd rfl rfl (i64w rfl (by omega))) <| Zv (ym rfl) <| Znl ?_
        have hr : runM m (l.take (p.1.1 + 1)) = (lostM (stepK (runM m (l.take p.1.1)).1 l[p.1.1]).1, (runM m (l.take p.1.1)).2 ++ [(stepK (runM m (l.take p.1.1)).1 l[p.1.1]).2]) := (run_snc hlt).trans (congrArg (Prod.mk _) (if_pos h31))
        rw [Nat.add_assoc, ← show (runM m (l.take (p.1.1 + 1))).1 = lostM (stepK (runM m (l.take p.1.1)).1 l[p.1.1]).1 by rw [hr], ← show (runM m (l.take (p.1.1 + 1))).2 = (runM m (l.take p.1.1)).2 ++ [(stepK (runM m (l.take p.1.1)).1 l[p.1.1]).2] by rw [hr]]
        refine Zlr ⟨(p.1.1 + 1, A', cap'), hlt⟩ (by show l.length - (p.1.1 + 1) < l.length - p.1.1; omega) ⟨rfl, rfl, rfl, rfl, rfl, trivial⟩ [5, 2, 2, 3] 3 rfl rfl
      · have hr : runM m (l.take (p.1.1 + 1)) = (lostM (stepK (runM m (l.take p.1.1)).1 l[p.1.1]).1, (runM m (l.take p.1.1)).2) := (run_snc hlt).trans (congrArg (Prod.mk _) (if_neg h31))
        rw [Nat.add_assoc, ← show (runM m (l.take (p.1.1 + 1))).1 = lostM (stepK (runM m (l.take p.1.1)).1 l[p.1.1]).1 by rw [hr], ← show (runM m (l.take (p.1.1 + 1))).2 = (runM m (l.take p.1.1)).2 by rw [hr]]
        refine Zlr ⟨(p.1.1 + 1, p.1.2.1, p.1.2.2), hlt⟩ (by show l.length - (p.1.1 + 1) < l.length - p.1.1; omega) ⟨rfl, rfl, rfl, rfl, rfl, trivial⟩ [4, 1, 1, 2] 2 rfl rfl
    · have hpl := p.2
      rw [show p.1.1 = l.length by omega, List.take_length]
      refine Zre (.t rfl (.t rfl .n)) (hS.1 a _ _) [0,0,0,0] 0 rfl rfl rfl rfl
  · refine Zre (.t rfl (.t rfl .n)) (hS.2 a) [1,1,0] 0 rfl rfl rfl rfl
end Go.Proofs.YtpfijldkkfiooaaGreatDoor
namespace Go.Proofs.YtpfijldkkfiooaaGreatDoor
open Go
set_option maxRecDepth 4000
theorem map_snc {α β : Type} (f : α → β) {l : List α} {i : Nat} (h : i < l.length) : (l.take i).map f ++ [f l[i]] = (l.take (i + 1)).map f := by
  rw [← take_snc (gE h), List.map_append]
  rfl
theorem cors_same {k i b : Nat} {cb : List Nat} {l : List Cor} {c : Cor} (e : cb[i]? = some b) (e' : l[i]? = some c) (hi : i < (cb.zip l).length) : ∀ h, Sep [.hp (corC k b c), .hp (corsC k ((cb.zip l).eraseIdx i))] h → corsC k (cb.zip l) h := fun h hs => by
  have := cors_in (c := c) e hi h hs
  rwa [show l.set i c = l from by
    obtain ⟨h1, h2⟩ := List.getElem?_eq_some_iff.1 e'
    rw [← h2]
    exact List.set_getElem_self h1] at this
theorem c15 (k b : Nat) (m : MD) : Sp Tryz.prog 15 [.pointer (some ⟨b, 0, none⟩)] [.hp (machC k b m)] fun K => ∀ A cap, K (.returned (.slice A (m.C.map (·.h)).length cap)) [.hp (own hrtE A cap (m.C.map (·.h))), .hp (machC k b m)] := by
  refine Zen Tryz.func15 rfl rfl rfl fun e X Φ hS => Zsr <| Zv (ya rfl) <| Znl <| Znx <| Zsq <| Zsr <| Zv (ym rfl) <| Zk (c35 ..) [0] rfl rfl <| Zq ?_
  refine Znl <| Znx <| Zcf rfl <| Zsk <| Znx <| Zsr <| Zv (ya rfl) <| Znl <| Znx <| Zsq ?_
  refine Zsr <| Zv (ym rfl) <| Zv (yn rfl) <| Zv (yf 0 rfl) ?_
  refine Zol 0 mach_op rfl <| fun bp => Zv (yd 0 rfl rfl rfl) <| Zv (yn rfl) <| Zv (yf 0 rfl) ?_
  refine Zol 1 part_op rfl <| fun ok A cap B capb bn bh cb kb hl => Zv (yd 0 rfl rfl rfl) <| Zv (sl_of ⟨_, Tryz.underlying105⟩ rfl) <| Zv (ym rfl) <| Znl <| Znx <| Zbl ?_
  have hCl : m.C.length ≤ 4 := ok.n1
  obtain ⟨hl1, hl2⟩ := hl
  refine Zic (fun _ hs => sep_nil (E := hrtE) hs) ?_
  refine Zlq (ι := { p : Nat × Option Addr × Nat // p.1 ≤ cb.length }) (fun p => [(16, .int .i64 (p.1.1 : Int)), (15, .int .i64 (cb.length : Int)), (14, .slice A cb.length cap), (3, .slice p.1.2.1 ((m.C.take p.1.1).map (·.h)).length p.1.2.2)]) (fun p => [.hp (own hrtE p.1.2.1 p.1.2.2 ((m.C.take p.1.1).map (·.h))), .hp (corsC k (cb.zip m.C))]) (fun p => cb.length - p.1.1) ⟨(0, none, 0), by show 0 ≤ _; omega⟩ ⟨rfl, rfl, rfl, rfl, trivial⟩ [0, 3] rfl fun p => Zsr <| Zv (ylt rfl rfl) <| Znl <| Znx <| Zsq <| Zif rfl (fun h17 => ?_) (fun h17 => ?_)
  refine Zsk <| Znx <| Zsq <| Zbl <| Zsr <| Zv (yea 3 own.rd rfl rfl rfl (by first | assumption | omega) rfl Tryz.underlying105 rfl) <| Zv (yec (m := 0) 3 own.rd rfl (gE (by first | assumption | omega)) rfl rfl rfl) <| Zv (ya rfl) <| Znl <| Znx ?_
  refine Zrg <| Zv (ym rfl) <| Zv (ym rfl) ?_
  rotate_left
  refine Zex <| Zxt <| Zxt <| Zxx <| Znx <| Zsr <| Zv (ym rfl) <| Zv (ya rfl) <| Znl <| Znx ?_
  refine Zrt ?_
  rotate_left
  · have hlt : p.1.1 < cb.length := by omega
    have hci := gE hlt
    have hCi := gE (l := m.C) (k := p.1.1) (by omega)
    have hz1 := zip_at hci hCi
    have hzl1 := (List.getElem?_eq_some_iff.1 hz1).1
    have hlt4 : p.1.1 < m.C.length := by omega
    have hdl : ((m.C.take p.1.1).map (·.h)).length ≤ 4 := by rw [List.length_map, List.length_take]; omega
    have hm1 : ((m.C.take p.1.1).map (·.h)).length + 1 ≤ maxLen := Nat.le_trans (show _ ≤ 1048576 by omega) (by decide)
    refine Zol 1 (cors_op hz1) rfl <| Zk (c49 ..) [0] rfl rfl <| Zq <| Ze (eb1 elHrt (by decide) rfl) fun A23 => Zw ?_
    refine Ze (eap' 3 0 elHrt rfl rfl rfl own.rd rfl rfl rfl (fun _ _ => rfl) (by simp; omega) hm1) <| fun A' cap' => Zw <| Zv (ya rfl) <| Znl <| Zxn <| Znx <| Zrg <| Zv (yadd rfl rfl (i64w rfl (by omega))) <| Zv (ym rfl) <| Znl ?_
    dsimp only
    rw [map_snc (f := fun c : Cor => c.h) hlt4]
    refine Zfx [1,1] (cors_same hci hCi hzl1) rfl ?_
    refine Zlr ⟨(p.1.1 + 1, A', cap'), hlt⟩ (by show cb.length - (p.1.1 + 1) < cb.length - p.1.1; omega) ⟨rfl, rfl, rfl, rfl, trivial⟩ [2, 0] 1 rfl rfl
  · have hpl := p.2
    rw [show p.1.1 = m.C.length by omega, List.take_length]
    refine Zfx [2,2,2,1,1,1,1] (part_fold (m := m) ok ⟨hl1, hl2⟩) rfl ?_
    refine Zfx [2,0] (mach_fold (m := m)) rfl <| Zre (.t rfl .n) (hS _ _) [1,0] 0 rfl rfl rfl rfl
end Go.Proofs.YtpfijldkkfiooaaGreatDoor
namespace Go.Proofs.YtpfijldkkfiooaaGreatDoor
open Go
set_option maxRecDepth 4000
theorem zip_snc {α β : Type} {a : List α} {l : List β} {i : Nat} {x : α} {y : β} (h : a.length = i) (e : l[i]? = some y) : (a ++ [x]).zip (l.take (i + 1)) = a.zip (l.take i) ++ [(x, y)] := by
  rw [← take_snc e, List.zip_append (by rw [List.length_take]; have := (List.getElem?_eq_some_iff.1 e).1; omega)]
  rfl
theorem many_snc {β : Type} {F : β → HP} {l : List β} {x : β} {h : Hl} (hs : Sep [.hp (F x), .hp (manyC F l)] h) : manyC F (l ++ [x]) h := many_in l (by rwa [List.append_nil])
theorem cors_snc {k i b : Nat} {nb : List Nat} {C : List Cor} {c : Cor} (h : nb.length = i) (e : C[i]? = some c) : ∀ g, Sep [.hp (corC k b c), .hp (corsC k (nb.zip (C.take i)))] g → corsC k ((nb ++ [b]).zip (C.take (i + 1))) g := fun g hs => by
  rw [zip_snc h e]
  exact many_snc (F := fun x : Nat × Cor => corC k x.1 x.2) hs
theorem cacs_snc {i b : Nat} {nb : List Nat} {C : List CD} {c : CD} (h : nb.length = i) (e : C[i]? = some c) : ∀ g, Sep [.hp (cacC b c), .hp (cacsC (nb.zip (C.take i)))] g → cacsC ((nb ++ [b]).zip (C.take (i + 1))) g := fun g hs => by
  rw [zip_snc h e]
  exact many_snc (F := fun x : Nat × CD => cacC x.1 x.2) hs
structure Cpy where
  i : Nat
  A : Option Addr
  cap : Nat
  B : Option Addr
  capb : Nat
  nb : List Nat
  nk : List Nat
theorem c11 (k b : Nat) (m : MD) (hk : k ≤ 1000) : Sp Tryz.prog 11 [.pointer (some ⟨b, 0, none⟩)] [.hp (machC k b m)] fun K => ∀ b', K (.returned (.pointer (some ⟨b', 0, none⟩))) [.hp (machC k b' m), .hp (machC k b m)] := by
  refine Zen Tryz.func11 rfl rfl rfl fun e X Φ hS => Zsr <| Zv (ya rfl) <| Znl <| Znx <| Zsq <| Zsr <| Zv (ym rfl) <| Zk (c35 ..) [0] rfl rfl <| Zq ?_
  refine Znl <| Znx <| Zcf rfl <| Zsk <| Znx <| Zsq ?_
  refine Zoc 0 mach_op rfl <| fun bp => Zoc 1 part_op rfl <| fun ok A cap B capb bn bh cb kb hl => ?_
  have hCl : m.C.length ≤ 4 := ok.n1
  have hDl := ok.d
  obtain ⟨hl1, hl2⟩ := hl
  have hm0 : m.most ≠ 0 := by have := ok.m0; omega
  have hql : m.q.length ≤ 1048576 := by have := ok.q; have := ok.m1; omega
  refine Zhd [5, 5] rfl rfl <| Zht 0 rfl (ym rfl) <| Zht 1 rfl (yn rfl) <| Zht 2 rfl (yf 0 rfl) <| Zht 3 rfl (yd 5 rfl rfl rfl) <| Zht 4 rfl (yn rfl) <| Zht 5 rfl (yf 2 rfl) <| Zht 6 rfl (yd 0 rfl rfl rfl) <| Zht 8 rfl (ym rfl) <| Zht 9 rfl (yn rfl) ?_
  refine Zht 10 rfl (yf 0 rfl) <| Zht 11 rfl (yd 5 rfl rfl rfl) <| Zht 12 rfl (yn rfl) <| Zht 13 rfl (yf 3 rfl) <| Zht 14 rfl (yd 0 rfl rfl rfl) <| Zh1 7 (by kernel_rfl) <| Zok (c39 ..) [0] rfl rfl rfl <| fun b' => Zqh 3 rfl ?_
  refine Zh1 15 (by kernel_rfl) <| Zok (c40 k bh m.h hk) [2] rfl rfl rfl <| fun b2 => Zqh 4 rfl <| Zht 16 rfl (yb l108 rfl) <| Zh1 17 (by kernel_rfl) <| Zoe rfl (ebx rfl) fun b24 => Zwh 5 rfl <| Zht 18 rfl (ya rfl) <| Zhn (by kernel_rfl) <| Znx <| Zsq <| Zsr <| Zv (ym rfl) <| Zv (yn rfl) ?_
  refine Zv (yf 0 rfl) <| Zv (yd 10 rfl rfl rfl) <| Zv (yn rfl) <| Zv (yf 0 rfl) <| Zv (yd 5 rfl rfl rfl) <| Zv (sl_of ⟨_, Tryz.underlying105⟩ rfl) <| Zv (ym rfl) <| Znl <| Znx <| Zbl ?_
  refine Zic (fun _ hs => sep_nil (E := ptrE 74) hs) ?_
  refine Zic (fun _ hs => sep_nil (E := ptrE 80) hs) ?_
  refine Zic (fun _ hs => many_nil (F := fun x : Nat × Cor => corC k x.1 x.2) hs) ?_
  refine Zic (fun _ hs => many_nil (F := fun x : Nat × CD => cacC x.1 x.2) hs) ?_
  refine Zlq (ι := { c : Cpy // c.i ≤ m.C.length ∧ c.nb.length = c.i ∧ c.nk.length = c.i }) (fun c => [(33, .int .i64 (c.1.i : Int)), (32, .int .i64 (cb.length : Int)), (31, .slice A cb.length cap), (0, .pointer (some ⟨b, 0, none⟩)), (3, .pointer (some ⟨b24, 0, none⟩))]) (fun c => [.blk b24 108 [.slice c.1.A c.1.nb.length c.1.cap, .slice c.1.B c.1.nk.length c.1.capb, .pointer (some ⟨b', 0, none⟩), .pointer (some ⟨b2, 0, none⟩)], .hp (own (ptrE 74) c.1.A c.1.cap c.1.nb), .hp (own (ptrE 80) c.1.B c.1.capb c.1.nk), .hp (corsC k (c.1.nb.zip (m.C.take c.1.i))), .hp (cacsC (c.1.nk.zip (m.D.take c.1.i))), .hp (corsC k (cb.zip m.C)), .hp (cacsC (kb.zip m.D))]) (fun c => m.C.length - c.1.i) ⟨⟨0, none, 0, none, 0, [], []⟩, Nat.zero_le _, rfl, rfl⟩ ⟨rfl, rfl, rfl, rfl, rfl, trivial⟩ [4, 3, 2, 1, 0, 7, 7] rfl fun c => Zsr <| Zv (ylt rfl rfl) <| Znl <| Znx <| Zsq <| Zif rfl (fun h34 => ?_) (fun h34 => ?_)
  refine Zsk <| Znx <| Zsq <| Zbl <| Zsr <| Zv (ym rfl) <| Zv (ya rfl) <| Znl <| Znx ?_
  rotate_left
  refine Zex <| Zxt <| Zxt <| Zxx <| Znx <| Zsr <| Zv (ym rfl) <| Zv (yb l104 rfl) <| Ze (ebx rfl) fun b79 => Zw <| Zv (ya rfl) ?_
  refine Znl <| Znx <| Zrt ?_
  rotate_left
  · obtain ⟨hc1, hc2, hc3⟩ := c.2
    have hlt : c.1.i < cb.length := by omega
    have hci := gE hlt
    have hki := gE (l := kb) (k := c.1.i) (by omega)
    have hCi := gE (l := m.C) (k := c.1.i) (by omega)
    have hDi := gE (l := m.D) (k := c.1.i) (by omega)
    have hz1 := zip_at hci hCi
    have hz2 := zip_at hki hDi
    have hzl1 := (List.getElem?_eq_some_iff.1 hz1).1
    have hzl2 := (List.getElem?_eq_some_iff.1 hz2).1
    have hlk : c.1.i < kb.length := by omega
    have hm1 : c.1.nb.length + 1 ≤ maxLen := Nat.le_trans (show _ ≤ 1048576 by omega) (by decide)
    have hm2 : c.1.nk.length + 1 ≤ maxLen := Nat.le_trans (show _ ≤ 1048576 by omega) (by decide)
    refine Zoc 5 (cors_op hz1) rfl ?_
    refine Zoc 7 (cacs_op hz2) rfl ?_
    refine Zhu_ 36 1 [0, 1, 3, 3] rfl rfl rfl rfl <| Zht 0 rfl (ym rfl) <| Zht 2 rfl (ym rfl) <| Zht 3 rfl (yn rfl) <| Zht 4 rfl (yf 0 rfl) <| Zht 5 rfl (yd 2 rfl rfl rfl) <| Zht 6 rfl (ym rfl) <| Zht 7 rfl (yn rfl) <| Zht 8 rfl (yf 0 rfl) <| Zht 9 rfl (yd 12 rfl rfl rfl) ?_
    refine Zht 10 rfl (yn rfl) <| Zht 11 rfl (yf 0 rfl) <| Zht 12 rfl (yd 9 rfl rfl rfl) <| Zht 13 rfl (ym rfl) <| Zht 14 rfl (yea 10 own.rd rfl rfl rfl (by first | assumption | omega) rfl Tryz.underlying105 rfl) <| Zht 15 rfl (yec (m := 0) 10 own.rd rfl (by assumption) rfl rfl rfl) <| Zht 19 rfl (ym rfl) <| Zht 20 rfl (yn rfl) <| Zht 21 rfl (yf 1 rfl) <| Zht 22 rfl (yd 2 rfl rfl rfl) ?_
    refine Zht 23 rfl (ym rfl) <| Zht 24 rfl (yn rfl) <| Zht 25 rfl (yf 0 rfl) <| Zht 26 rfl (yd 12 rfl rfl rfl) <| Zht 27 rfl (yn rfl) <| Zht 28 rfl (yf 1 rfl) <| Zht 29 rfl (yd 9 rfl rfl rfl) <| Zht 30 rfl (ym rfl) <| Zht 31 rfl (yea 11 own.rd rfl rfl rfl (by first | assumption | omega) rfl Tryz.underlying106 rfl) <| Zht 32 rfl (yec (m := 0) 11 own.rd rfl (by assumption) rfl rfl rfl) ?_
    refine Zh1 16 (by kernel_rfl) <| Zok (c41 ..) [1] rfl rfl rfl <| fun b'_1 => Zqh 5 rfl <| Zh1 17 (by kernel_rfl) <| Zoe rfl (ebp elCor rfl) fun A53 => Zwh 6 rfl ?_
    refine Zh1 18 (by kernel_rfl) <| Zoe rfl (eap' 4 0 elCor rfl rfl rfl own.rd rfl rfl rfl (fun _ _ => rfl) (by simp; omega) hm1) <| fun A' cap' => Zwh 6 rfl <| Zh1 33 (by kernel_rfl) <| Zok (c42 ..) [3] rfl rfl rfl <| fun b'_2 => Zqh 7 rfl <| Zh1 34 (by kernel_rfl) <| Zoe rfl (ebp elCac rfl) fun A70 => Zwh 8 rfl ?_
    refine Zh1 35 (by kernel_rfl) <| Zoe rfl (eap' 7 0 elCac rfl rfl rfl own.rd rfl rfl rfl (fun _ _ => rfl) (by simp; omega) hm2) <| fun B' capb' => Zwh 8 rfl <| Zhn (by kernel_rfl) <| Ztl rfl <| Ztv (yn rfl) <| Ztv (yf 0 rfl) <| Zte (es 10 rfl rfl rfl rfl rfl) <| Ztw <| Ztv (yn rfl) <| Ztv (yf 1 rfl) <| Zte (es 10 rfl rfl rfl rfl rfl) <| Ztw <| Ztn ?_
    refine Zxn <| Znx <| Zrg <| Zv (yadd rfl rfl (i64w rfl (by omega))) <| Zv (ym rfl) <| Znl ?_
    refine Zfx [2,7] (cacs_same hki hDi hzl2) rfl ?_
    refine Zfx [5,7] (cors_same hci hCi hzl1) rfl ?_
    refine Zfx [3,9] (cacs_snc (b := b'_2) hc3 hDi) rfl ?_
    refine Zfx [5,8] (cors_snc (b := b'_1) hc2 hCi) rfl ?_
    refine Zlr ⟨⟨c.1.i + 1, A', cap', B', capb', c.1.nb ++ [b'_1], c.1.nk ++ [b'_2]⟩, by dsimp only; omega, by rw [List.length_append, hc2]; rfl, by rw [List.length_append, hc3]; rfl⟩ (by show m.C.length - (c.1.i + 1) < m.C.length - c.1.i; omega) ⟨rfl, rfl, rfl, rfl, rfl, trivial⟩ [8, 6, 6, 0, 0, 0, 0] 2 rfl rfl
  · obtain ⟨hc1, hc2, hc3⟩ := c.2
    rw [show m.C.take c.1.i = m.C from List.take_of_length_le (by omega), show m.D.take c.1.i = m.D from List.take_of_length_le (by omega)]
    have e1 : c.1.nb.length = m.C.length := by omega
    have e2 : c.1.nk.length = m.C.length := by omega
    refine Zfx [1,1,1,1,1,5,3] (part_fold (b := b24) (m := m) ok ⟨e1, e2⟩) rfl ?_
    refine Zfx [6,6,6,2,2,3,2] (part_fold (b := bp) (m := m) ok ⟨hl1, hl2⟩) rfl ?_
    refine Zfx [2,1] (mach_fold (b := b79) (m := m)) rfl ?_
    refine Zfx [2,1] (mach_fold (b := b) (m := m)) rfl <| Zre (.t rfl .n) (hS _) [1,0] 0 rfl rfl rfl rfl
end Go.Proofs.YtpfijldkkfiooaaGreatDoor
namespace Go.Proofs.YtpfijldkkfiooaaGreatDoor
open Go
set_option maxRecDepth 4000
def entAt (h : HD) (line : Int) : Ent := if (h.E.length : Int) ≤ line then ⟨0, sh0, false, 0, 0, 0, false, []⟩ else entOf h.E line.toNat
theorem c102 (k b : Nat) (h : HD) (line : Int) (hn : U32 line) (hk2 : k ≤ 1000) : Sp Tryz.prog 102 [.pointer (some ⟨b, 0, none⟩), .int .u32 line] [.hp (homC k b h)] fun K => ∀ A cap x, K (.returned (.tuple #[.agg ((entAt h line).cs (.slice A (entAt h line).q.length cap)).toArray, .int .i64 x])) [.hp (homC k b h)] := by
  have hn' : IntKind.i64.wrap line = line := i64w rfl (by unfold U32 at hn; omega)
  refine Zen Tryz.func102 rfl rfl rfl fun e X Φ hS => Zsr <| Ze (eal z165) fun b4 => Zw <| Zv (ya rfl) <| Znl <| Znx <| Zsq <| Zbl <| Zsr <| Zv (ym rfl) ?_
  refine Zk (c62 ..) [1] rfl rfl <| Zq <| Zv (ya rfl) <| Znl <| Znx <| Zcf rfl <| Zsr <| Zv (ym rfl) <| Zv (ycv Tryz.underlying40 Tryz.underlying2 rfl rfl) <| Zv (ym rfl) ?_
  refine Zk (c150 ..) [0] rfl rfl <| Zq <| Zv (yge rfl rfl) <| Zv (ya rfl) <| Znl <| Znx <| Zif rfl (fun h10 => ?_) (fun h10 => ?_)
  refine Zsr <| Zv (yb l165 rfl) <| Ze (esw 1 (m := 11) rfl rfl rfl rfl rfl rfl rfl) <| Zw0 <| Zv (ya rfl) <| Znl <| Znx <| Zrt <| Zr2 <| Zr1 ?_
  rotate_left
  refine Zsk <| Zxn <| Znx <| Zsr <| Zv (ym rfl) <| Zv (ym rfl) ?_
  rotate_left
  · rw [hn'] at h10
    rw [show entAt h line = _ from if_pos h10] at hS
    refine Zre (.wh 1 (m := 11) rfl rfl rfl (.t rfl .n)) (hS none 0 4) [0] 1 rfl rfl rfl rfl
  · rw [hn'] at h10
    rw [show entAt h line = _ from if_neg h10] at hS
    have hj : line = ((line.toNat : Nat) : Int) := by have := hn.1; omega
    have he : line.toNat < h.E.length := by omega
    have hk0 : k ≤ 1000000 := by omega
    refine Zk (c151' k b line.toNat line hj h he hk0) [0] rfl rfl <| fun A => fun cap => Zq <| Ze (esw 2 (m := 11) rfl rfl rfl rfl rfl rfl rfl) <| Zw0 <| Zv (ya rfl) <| Znl <| Znx <| Zrt <| Zre (.wh 2 (m := 11) rfl rfl rfl (.t rfl .n)) (hS _ _ _) [1] 2 rfl rfl rfl rfl
def ownB (h : HD) (line n : Int) : Bool := decide ((entAt h line).o = n)
theorem c101 (k b1 bp : Nat) (line n : Int) (h : HD) (bh : Nat) (v0 v1 v2 : Value) (hn : U32 line) (hk2 : k ≤ 1000) : Sp Tryz.prog 101 [.int .u32 line, .int .i64 n, .pointer (some ⟨b1, 0, none⟩)] [.blk b1 101 [.pointer (some ⟨bp, 0, none⟩)], .blk bp 108 [v0, v1, v2, .pointer (some ⟨bh, 0, none⟩)], .hp (homC k bh h)] fun K => K (.returned (.bool (ownB h line n))) [.blk b1 101 [.pointer (some ⟨bp, 0, none⟩)], .blk bp 108 [v0, v1, v2, .pointer (some ⟨bh, 0, none⟩)], .hp (homC k bh h)] := by
  refine Zen Tryz.func101 rfl rfl rfl fun e X Φ hS => Zsr <| Zv (ya rfl) <| Znl <| Znx <| Zsr <| Zv (yd 0 rfl rfl rfl) <| Zv (yn rfl) <| Zv (yf 3 rfl) <| Zv (yd 1 rfl rfl rfl) ?_
  refine Zv (ym rfl) ?_
  refine Zk (c102 k bh h line hn hk2) [2] rfl rfl <| fun A => fun cap => fun x => Zq <| Zv (ym rfl) <| Zv (yx rfl rfl) <| Zv (yx rfl rfl) <| Ze (eal z165) fun b6 => Zw <| Ze (esw 0 (m := 11) rfl rfl rfl rfl rfl rfl rfl) <| Zw0 ?_
  refine Zv (ya rfl) <| Znl <| Znx <| Zsr <| Zv (yf 0 rfl) <| Zv (yd 0 rfl rfl rfl) <| Zv (ym rfl) <| Zv (yeq rfl rfl) <| Zv (ya rfl) <| Znl ?_
  refine Znx <| Zrt <| Zre (.t rfl .n) hS [2,2,1] 1 rfl rfl rfl rfl
end Go.Proofs.YtpfijldkkfiooaaGreatDoor
namespace Go.Proofs.YtpfijldkkfiooaaGreatDoor
open Go
set_option maxRecDepth 4000
def backB (h : HD) (x : Msg) : Bool := decide (x.kind = 11) && ownB h x.line x.src
def lnOf (x : Msg) : Ln := ⟨x.line, 0, x.bs, x.hn⟩
def over1 (h : HD) (l : List Msg) : List Ln := (l.filter (backB h)).map lnOf
def givL (h : HD) (n : Nat) (g : Option Ln) : List Ln := match g with | some x => if ownB h x.num n = true then [x] else [] | none => []
def cd0 : CD := ⟨0, 0, 0, [], none, none⟩
def over2 (h : HD) (D : List CD) (i : Nat) : List Ln := (List.range i).flatMap fun j => givL h j (D.getD j cd0).giv
def dirL (l : List Ln) : List Ln := l.filter fun x => decide (x.state ≠ 1)
def over3 (D : List CD) (i : Nat) : List Ln := (D.take i).flatMap fun d => dirL (allL d.n d.L)
def overL (m : MD) : List Ln := over1 m.h m.q ++ over2 m.h m.D m.D.length ++ over3 m.D m.D.length
theorem filt_snc {α : Type} {p : α → Bool} {l : List α} {i : Nat} (h : i < l.length) : (l.take (i + 1)).filter p = (l.take i).filter p ++ (if p l[i] = true then [l[i]] else []) := by
  rw [← take_snc (gE h), List.filter_append]
  congr 1
  cases hp : p l[i] with
  | true => simp [hp]
  | false => simp [hp]
theorem filt_pre {α : Type} {p : α → Bool} {l : List α} {i : Nat} : (l.take i).filter p <+: l.filter p := (List.take_prefix i l).filter p
theorem over1_snc {h : HD} {l : List Msg} {i : Nat} (hi : i < l.length) : over1 h (l.take (i + 1)) = over1 h (l.take i) ++ (if backB h l[i] = true then [lnOf l[i]] else []) := by
  unfold over1
  rw [filt_snc hi, List.map_append]
  congr 1
  split <;> rfl
theorem over1_pre {m : MD} {i : Nat} : over1 m.h (m.q.take i) <+: overL m := by
  unfold overL
  rw [List.append_assoc]
  exact (((List.take_prefix i m.q).filter _).map _).trans (List.prefix_append _ _)
theorem over2_snc {h : HD} {D : List CD} {i : Nat} : over2 h D (i + 1) = over2 h D i ++ givL h i (D.getD i cd0).giv := by
  unfold over2
  rw [List.range_succ, List.flatMap_append]
  simp
theorem range_pre {i n : Nat} (h : i ≤ n) : List.range i <+: List.range n := by
  obtain ⟨k, rfl⟩ := Nat.exists_eq_add_of_le h
  rw [List.range_add]
  exact List.prefix_append _ _
theorem flat_pre {α β : Type} {f : α → List β} {a b : List α} (h : a <+: b) : a.flatMap f <+: b.flatMap f := by
  obtain ⟨c, rfl⟩ := h
  rw [List.flatMap_append]
  exact List.prefix_append _ _
theorem over2_pre {m : MD} {i : Nat} (h : i ≤ m.D.length) : over1 m.h m.q ++ over2 m.h m.D i <+: overL m := by
  unfold overL
  exact ((List.prefix_append_right_inj _).2 (flat_pre (range_pre h))).trans (List.prefix_append _ _)
theorem over3_snc {D : List CD} {i : Nat} (hi : i < D.length) : over3 D (i + 1) = over3 D i ++ dirL (allL D[i].n D[i].L) := by
  unfold over3
  rw [← take_snc (gE hi), List.flatMap_append]
  simp
theorem over3_pre {m : MD} {i k : Nat} (hi : i < m.D.length) : over1 m.h m.q ++ over2 m.h m.D m.D.length ++ (over3 m.D i ++ dirL ((allL m.D[i].n m.D[i].L).take k)) <+: overL m := by
  unfold overL
  refine (List.prefix_append_right_inj _).2 (List.IsPrefix.trans ((List.prefix_append_right_inj _).2 filt_pre) ?_)
  show over3 m.D i ++ dirL (allL m.D[i].n m.D[i].L) <+: _
  rw [← over3_snc hi]
  exact flat_pre (by rw [List.take_length]; exact List.take_prefix _ _)
theorem c55 (bp : Nat) : Sp Tryz.prog 55 [.pointer (some ⟨bp, 0, none⟩)] [] fun K => ∀ b1, K (.returned (.func (.func 100) #[] #[.pointer (some ⟨b1, 0, none⟩)])) [.blk b1 101 [.pointer (some ⟨bp, 0, none⟩)]] := by
  refine Zen Tryz.func55 rfl rfl rfl fun e X Φ hS => Zsr <| Ze (ebx rfl) fun b1 => Zw <| Zv (ya rfl) <| Znl <| Znx <| Zsr <| Zv (yfn rfl rfl) <| Zv (ya rfl) <| Znl ?_
  refine Znx <| Zrt <| Zre (.t rfl .n) (hS _) [0] 0 rfl rfl rfl rfl
end Go.Proofs.YtpfijldkkfiooaaGreatDoor
namespace Go.Proofs.YtpfijldkkfiooaaGreatDoor
open Go
set_option maxRecDepth 4000
theorem q100 (k b1 bp : Nat) (m : MD) (hk : k ≤ 1000) : Sq Tryz.prog 100 [.pointer (some ⟨b1, 0, none⟩)] [.blk b1 101 [.pointer (some ⟨bp, 0, none⟩)], .hp (partC k bp m)] (fun _ => [.blk b1 101 [.pointer (some ⟨bp, 0, none⟩)], .hp (partC k bp m)]) (fun x => [.agg (lnE.arr x)]) (overL m) := by
  refine ⟨fun y J Jx hYd => ?_⟩
  refine Zen Tryz.func100 rfl rfl rfl fun e X Φ hS => Zoc 2 part_op rfl <| fun ok A cap B capb bn bh cb kb hl => Zsr <| Zv (yfn rfl rfl) <| Zv (ya rfl) <| Znl <| Znx <| Zsq <| Zsr <| Zv (yd 8 rfl rfl rfl) <| Zv (yn rfl) ?_
  refine Zv (yf 2 rfl) <| Zv (yd 0 rfl rfl rfl) ?_
  have hCl : m.C.length ≤ 4 := ok.n1
  have hDl := ok.d
  have hm0 : m.most ≠ 0 := by have := ok.m0; omega
  have hql : m.q.length ≤ 1048576 := by have := ok.q; have := ok.m1; omega
  refine Zol 5 net_op rfl <| fun An capn => Zol 1 own_len rfl <| fun hA hcp hcm => Zk (c80 ..) [1,0] rfl rfl <| fun A' => fun cap' => Zq <| Zv (sl_of ⟨_, Tryz.underlying112⟩ rfl) <| Zv (ym rfl) <| Znl <| Znx <| Zbl ?_
  refine Zfc [1,1] (net_fold (b := bn) (q := m.q) rfl) rfl ?_
  refine Zlq (ι := { i : Nat // i ≤ m.q.length }) (fun i => [(21, .int .i64 (i.1 : Int)), (20, .int .i64 (m.q.length : Int)), (19, .slice A' m.q.length cap'), (0, .func (.yield y) #[] #[]), (1, .pointer (some ⟨b1, 0, none⟩)), (3, .func (.func 101) #[] #[.pointer (some ⟨b1, 0, none⟩)])]) (fun i => [.hp (own msgE A' cap' m.q), .blk bp 108 [.slice A cb.length cap, .slice B kb.length capb, .pointer (some ⟨bn, 0, none⟩), .pointer (some ⟨bh, 0, none⟩)], .blk b1 101 [.pointer (some ⟨bp, 0, none⟩)], .hp (homC k bh m.h), .hp (J (over1 m.h (m.q.take i.1)))]) (fun i => m.q.length - i.1) ⟨0, by omega⟩ ⟨rfl, rfl, rfl, rfl, rfl, rfl, trivial⟩ [1, 1, 7, 5, 5] rfl fun i => Zsr <| Zv (ylt rfl rfl) <| Znl <| Znx <| Zsq <| Zif rfl (fun h22 => ?_) (fun h22 => ?_)
  refine Zsk <| Znx <| Zsq <| Zbl <| Zsr <| Zv (yea 0 own.rd rfl rfl rfl (by first | assumption | omega) rfl Tryz.underlying112 rfl) <| Zv (yel 0 own.rd rfl (gE (by first | assumption | omega)) rfl rfl rfl) <| Ze (eal z117) fun b5 => Zw <| Ze (esw 0 (m := 20) rfl rfl rfl rfl rfl (Enc.len ..) (Enc.allL ..)) <| Zw0 <| Znl ?_
  refine Znx <| Zsr <| Zv (yf 0 rfl) <| Zv (yd 0 rfl rfl rfl) <| Zv (yeq rfl rfl) <| Zv (ym rfl) <| Zgs rfl rfl (fun h28 => ?_) (fun h28 => ?_)
  refine Zg' rfl rfl (decide_eq_true h28) <| Zv (ym rfl) <| Zg' rfl rfl (decide_eq_true h28) <| Zv (yf 3 rfl) <| Zg' rfl rfl (decide_eq_true h28) <| Zv (yd 0 rfl rfl rfl) <| Zg' rfl rfl (decide_eq_true h28) <| Zv (yf 1 rfl) <| Zg' rfl rfl (decide_eq_true h28) <| Zv (yd 0 rfl rfl rfl) ?_
  refine Zg' rfl rfl (decide_eq_true h28) ?_
  rotate_left
  refine Zu' rfl rfl (decide_eq_false h28) rfl <| Zu' rfl rfl (decide_eq_false h28) rfl <| Zu' rfl rfl (decide_eq_false h28) rfl <| Zu' rfl rfl (decide_eq_false h28) rfl <| Zu' rfl rfl (decide_eq_false h28) rfl <| Zu' rfl rfl (decide_eq_false h28) rfl <| Zv (ypf' rfl (decide_eq_false h28) rfl) <| Zv (ym rfl) <| Zu rfl rfl rfl <| Zu rfl rfl rfl ?_
  refine Zu rfl rfl rfl <| Zu rfl rfl rfl <| Zu rfl rfl rfl <| Zu rfl rfl rfl <| Zu rfl rfl rfl <| Zu rfl rfl rfl <| Zv (ypf rfl rfl) <| Znl <| Znx <| Zcf rfl ?_
  refine Zsk <| Zxn <| Znx <| Zrg <| Zv (yadd rfl rfl (i64w rfl (by omega))) <| Zv (ym rfl) <| Znl ?_
  rotate_left
  refine Zex <| Zxt <| Zxt <| Zxx <| Znx <| Zsq <| Zsr <| Zv (yd 2 rfl rfl rfl) <| Zv (yn rfl) <| Zv (yf 1 rfl) ?_
  refine Zv (yd 1 rfl rfl rfl) <| Zv (sl_of ⟨_, Tryz.underlying106⟩ rfl) <| Zv (ym rfl) <| Znl <| Znx <| Zbl ?_
  rotate_left
  · have hlt : i.1 < m.q.length := by omega
    have hmn := m.q[i.1].hn
    have hs1 := over1_snc (h := m.h) hlt
    refine Zkv (t := 29) (b1 := []) (b2 := [.pointer (some ⟨b1, 0, none⟩)]) (args := [.int .u32 m.q[i.1].line, .int .i64 m.q[i.1].src]) (c101 k b1 bp m.q[i.1].line m.q[i.1].src m.h bh (.slice A cb.length cap) (.slice B kb.length capb) (.pointer (some ⟨bn, 0, none⟩)) hmn hk) [3, 2, 2] rfl rfl rfl rfl <| Zq ?_
    generalize ho : ownB m.h m.q[i.1].line m.q[i.1].src = ob
    refine Zv (ypt' rfl (decide_eq_true h28) rfl) <| Zv (ym rfl) <| Zgb rfl rfl (fun h36 => ?_) (fun h36 => ?_)
    refine Zg' rfl rfl h36 <| Zv (ym rfl) <| Zg' rfl rfl h36 <| Zv (yf 3 rfl) <| Zg' rfl rfl h36 <| Zv (yd 3 rfl rfl rfl) <| Zg' rfl rfl h36 <| Zv (yf 4 rfl) <| Zg' rfl rfl h36 <| Zv (yda 3 (m := 16) rfl rfl (msg_bs' _) (Enc.len ..)) ?_
    refine Zg' rfl rfl h36 <| Zv (ybln2 (by assumption) rfl) <| Zg' rfl rfl h36 ?_
    rotate_left
    refine Zu' rfl rfl h36 rfl <| Zu' rfl rfl h36 rfl <| Zu' rfl rfl h36 rfl <| Zu' rfl rfl h36 rfl <| Zu' rfl rfl h36 rfl <| Zu' rfl rfl h36 rfl <| Zu' rfl rfl h36 rfl <| Zu' rfl rfl h36 rfl <| Zv (ypf' rfl h36 rfl) <| Znl ?_
    refine Znx <| Zcf rfl <| Zsk <| Zxn <| Znx <| Zrg <| Zv (yadd rfl rfl (i64w rfl (by omega))) <| Zv (ym rfl) <| Znl ?_
    rotate_left
    · have hb : backB m.h m.q[i.1] = true := by simp [backB, h28, ho, h36]
      rw [hb] at hs1
      simp only [if_true] at hs1
      have hpr : over1 m.h (m.q.take i.1) ++ [lnOf m.q[i.1]] <+: overL m := by rw [← hs1]; exact over1_pre
      refine Zyd (hYd (over1 m.h (m.q.take i.1)) (lnOf m.q[i.1]) hpr) 5 rfl rfl rfl ?_ ?_
      refine Zg' rfl rfl h36 <| Zv (ynot rfl) <| Zv (ypt' rfl h36 rfl) <| Znl <| Znx <| Zcf rfl <| Zsk <| Zxn <| Znx <| Zrg ?_
      refine Zv (yadd rfl rfl (i64w rfl (by omega))) <| Zv (ym rfl) <| Znl ?_
      rotate_left
      refine Zg' rfl rfl h36 <| Zv (ynot rfl) <| Zv (ypt' rfl h36 rfl) <| Znl <| Znx <| Zct rfl <| Zrt <| Zr2 <| Zr1 <| Zr1 ?_
      refine Zr2 <| Zr1 ?_
      rotate_left
      · rw [← hs1]
        refine Zlr ⟨i.1 + 1, hlt⟩ (by show m.q.length - (i.1 + 1) < m.q.length - i.1; omega) ⟨rfl, rfl, rfl, rfl, rfl, rfl, trivial⟩ [5, 2, 1, 1, 0] 1 rfl rfl
      · refine Zfx [2,6,6,6,6,5,2] (part_fold (m := m) ok hl) rfl ?_
        refine Zre .n (hS.2 _ hpr) [1,1,0] 2 rfl rfl rfl rfl
    · have hb : backB m.h m.q[i.1] = false := by simp [backB, h28, ho, h36]
      rw [hb] at hs1
      simp only [Bool.false_eq_true, if_false, List.append_nil] at hs1
      rw [← hs1]
      refine Zlr ⟨i.1 + 1, hlt⟩ (by show m.q.length - (i.1 + 1) < m.q.length - i.1; omega) ⟨rfl, rfl, rfl, rfl, rfl, rfl, trivial⟩ [4, 1, 0, 0, 1] 1 rfl rfl
  · have hlt : i.1 < m.q.length := by omega
    have hs1 := over1_snc (h := m.h) hlt
    have hb : backB m.h m.q[i.1] = false := by simp [backB, h28]
    rw [hb] at hs1
    simp only [Bool.false_eq_true, if_false, List.append_nil] at hs1
    rw [← hs1]
    refine Zlr ⟨i.1 + 1, hlt⟩ (by show m.q.length - (i.1 + 1) < m.q.length - i.1; omega) ⟨rfl, rfl, rfl, rfl, rfl, rfl, trivial⟩ [1, 1, 1, 1, 1] 1 rfl rfl
  · have hi : i.1 = m.q.length := by have := i.2; omega
    rw [show m.q.take i.1 = m.q from List.take_of_length_le (by omega)]
    have hl2 : kb.length = m.D.length := by rw [hDl]; exact hl.2
    refine Zlq (ι := { j : Nat // j ≤ kb.length }) (fun j => [(52, .int .i64 (j.1 : Int)), (51, .int .i64 (kb.length : Int)), (50, .slice B kb.length capb), (0, .func (.yield y) #[] #[]), (1, .pointer (some ⟨b1, 0, none⟩)), (3, .func (.func 101) #[] #[.pointer (some ⟨b1, 0, none⟩)])]) (fun j => [.hp (cacsC (kb.zip m.D)), .blk bp 108 [.slice A cb.length cap, .slice B kb.length capb, .pointer (some ⟨bn, 0, none⟩), .pointer (some ⟨bh, 0, none⟩)], .blk b1 101 [.pointer (some ⟨bp, 0, none⟩)], .hp (homC k bh m.h), .hp (J (over1 m.h m.q ++ over2 m.h m.D j.1))]) (fun j => kb.length - j.1) ⟨0, by omega⟩ ⟨rfl, rfl, rfl, rfl, rfl, rfl, trivial⟩ [9, 1, 1, 1, 1] (by rw [show over2 m.h m.D 0 = [] from rfl, List.append_nil]; rfl) fun j => Zsr <| Zv (ylt rfl rfl) <| Znl <| Znx <| Zsq <| Zif rfl (fun h53 => ?_) (fun h53 => ?_)
    refine Zsk <| Znx <| Zsq <| Zbl <| Zsr <| Zv (ym rfl) <| Zv (yea 8 own.rd rfl rfl rfl (by first | assumption | omega) rfl Tryz.underlying106 rfl) <| Zv (yec (m := 0) 8 own.rd rfl (gE (by first | assumption | omega)) rfl rfl rfl) <| Zv (ya rfl) <| Zv (ya rfl) ?_
    refine Znl <| Znx <| Zsr <| Zv (ym rfl) ?_
    rotate_left
    refine Zex <| Zxt <| Zxt <| Zxx <| Znx <| Zsr <| Zv (yd 2 rfl rfl rfl) <| Zv (yn rfl) <| Zv (yf 1 rfl) <| Zv (yd 1 rfl rfl rfl) ?_
    refine Zv (sl_of ⟨_, Tryz.underlying106⟩ rfl) <| Zv (ym rfl) <| Znl <| Znx <| Zbl ?_
    rotate_left
    · have hjt : j.1 < kb.length := by omega
      have hki := gE hjt
      have hDi := gE (l := m.D) (k := j.1) (by omega)
      have hz2 := zip_at hki hDi
      have hzl2 := (List.getElem?_eq_some_iff.1 hz2).1
      have hs2 := over2_snc (h := m.h) (D := m.D) (i := j.1)
      have hgd : m.D.getD j.1 cd0 = m.D[j.1] := by rw [List.getD_eq_getElem?_getD, hDi]; rfl
      rw [hgd] at hs2
      refine Zol 0 (cacs_op hz2) rfl ?_
      refine Zk (c103 kb[j.1] m.D[j.1]) [0] rfl rfl <| Zq <| Zv (ym rfl) <| Zv (yx rfl rfl) <| Zv (yx rfl rfl) <| Ze (eal z145) fun b8 => Zw <| Ze (esw 0 (m := 18) rfl rfl rfl rfl rfl (Enc.len ..) (Enc.allL ..)) <| Zw0 <| Zv (ya rfl) <| Znl <| Znx ?_
      refine Zsr <| Zv (ym rfl) <| Zv (ym rfl) <| Zgb rfl rfl (fun h63 => ?_) (fun h63 => ?_)
      refine Zg' rfl rfl h63 <| Zv (ym rfl) <| Zg' rfl rfl h63 <| Zv (yf 0 rfl) <| Zg' rfl rfl h63 <| Zv (yd 0 rfl rfl rfl) <| Zg' rfl rfl h63 <| Zv (ym rfl) <| Zg' rfl rfl h63 ?_
      rotate_left
      refine Zu' rfl rfl h63 rfl <| Zu' rfl rfl h63 rfl <| Zu' rfl rfl h63 rfl <| Zu' rfl rfl h63 rfl <| Zu' rfl rfl h63 rfl <| Zv (ypf' rfl h63 rfl) <| Zv (ym rfl) <| Zu rfl rfl rfl <| Zu rfl rfl rfl <| Zu rfl rfl rfl ?_
      refine Zu rfl rfl rfl <| Zv (ypf rfl rfl) <| Znl <| Znx <| Zcf rfl <| Zsk <| Zxn <| Znx <| Zrg <| Zv (yadd rfl rfl (i64w rfl (by omega))) ?_
      refine Zv (ym rfl) <| Znl ?_
      rotate_left
      · obtain ⟨x, hx⟩ : ∃ x, m.D[j.1].giv = some x := Option.isSome_iff_exists.1 h63
        have hxd : m.D[j.1].giv.getD ln0 = x := by rw [hx]; rfl
        rw [hxd]
        rw [hx] at hs2
        have hxn := x.hn
        refine Zkv (t := 64) (b1 := []) (b2 := [.pointer (some ⟨b1, 0, none⟩)]) (args := [.int .u32 x.num, .int .i64 (j.1 : Int)]) (c101 k b1 bp x.num (j.1 : Int) m.h bh (.slice A cb.length cap) (.slice B kb.length capb) (.pointer (some ⟨bn, 0, none⟩)) hxn hk) [4, 3, 3] rfl rfl rfl rfl <| Zq ?_
        generalize ho : ownB m.h x.num (j.1 : Int) = ob
        refine Zv (ypt' rfl h63 rfl) <| Zv (ym rfl) <| Zgb rfl rfl (fun h70 => ?_) (fun h70 => ?_)
        refine Zg' rfl rfl h70 <| Zv (ym rfl) <| Zg' rfl rfl h70 <| Zv (ydw 3 (m := 18) rfl rfl (Enc.len ..)) <| Zg' rfl rfl h70 ?_
        rotate_left
        refine Zu' rfl rfl h70 rfl <| Zu' rfl rfl h70 rfl <| Zu' rfl rfl h70 rfl <| Zu' rfl rfl h70 rfl <| Zv (ypf' rfl h70 rfl) <| Znl <| Znx <| Zcf rfl <| Zsk <| Zxn ?_
        refine Znx <| Zrg <| Zv (yadd rfl rfl (i64w rfl (by omega))) <| Zv (ym rfl) <| Znl ?_
        rotate_left
        · have hs3 : over2 m.h m.D (j.1 + 1) = over2 m.h m.D j.1 ++ [x] := by rw [hs2]; show _ ++ (if ownB m.h x.num _ = true then [x] else []) = _; rw [ho, if_pos h70]
          have hpr : over1 m.h m.q ++ over2 m.h m.D j.1 ++ [x] <+: overL m := by rw [List.append_assoc, ← hs3]; exact over2_pre (by omega)
          refine Zyd (hYd _ _ hpr) 6 rfl rfl rfl ?_ ?_
          refine Zg' rfl rfl h70 <| Zv (ynot rfl) <| Zv (ypt' rfl h70 rfl) <| Znl <| Znx <| Zcf rfl <| Zsk <| Zxn <| Znx <| Zrg ?_
          refine Zv (yadd rfl rfl (i64w rfl (by omega))) <| Zv (ym rfl) <| Znl ?_
          rotate_left
          refine Zg' rfl rfl h70 <| Zv (ynot rfl) <| Zv (ypt' rfl h70 rfl) <| Znl <| Znx <| Zct rfl <| Zrt <| Zr2 <| Zr1 <| Zr1 ?_
          refine Zr2 <| Zr1 ?_
          rotate_left
          · rw [List.append_assoc, ← hs3]
            refine Zfx [5,5] (cacs_same hki hDi hzl2) rfl ?_
            refine Zlr ⟨j.1 + 1, hjt⟩ (by show kb.length - (j.1 + 1) < kb.length - j.1; omega) ⟨rfl, rfl, rfl, rfl, rfl, rfl, trivial⟩ [0, 2, 1, 1, 0] 1 rfl rfl
          · refine Zfx [5,5] (cacs_same hki hDi hzl2) rfl ?_
            refine Zfx [3,7,7,7,0,5,2] (part_fold (m := m) ok hl) rfl ?_
            refine Zre .n (hS.2 _ hpr) [1,1,0] 2 rfl rfl rfl rfl
        · have hs3 : over2 m.h m.D (j.1 + 1) = over2 m.h m.D j.1 := by rw [hs2]; show _ ++ (if ownB m.h x.num _ = true then [x] else []) = _; rw [ho, if_neg (by rw [h70]; decide), List.append_nil]
          rw [← hs3]
          refine Zfx [4,4] (cacs_same hki hDi hzl2) rfl ?_
          refine Zlr ⟨j.1 + 1, hjt⟩ (by show kb.length - (j.1 + 1) < kb.length - j.1; omega) ⟨rfl, rfl, rfl, rfl, rfl, rfl, trivial⟩ [0, 1, 0, 0, 1] 1 rfl rfl
      · have hx : m.D[j.1].giv = none := Option.not_isSome_iff_eq_none.1 (by rw [h63]; decide)
        have hs3 : over2 m.h m.D (j.1 + 1) = over2 m.h m.D j.1 := by rw [hs2, hx]; exact List.append_nil _
        rw [← hs3]
        refine Zfx [1,1] (cacs_same hki hDi hzl2) rfl ?_
        refine Zlr ⟨j.1 + 1, hjt⟩ (by show kb.length - (j.1 + 1) < kb.length - j.1; omega) ⟨rfl, rfl, rfl, rfl, rfl, rfl, trivial⟩ [0, 1, 1, 1, 1] 1 rfl rfl
    · have hj : j.1 = m.D.length := by have := j.2; omega
      rw [hj]
      refine Zlq (ι := { i : Nat // i ≤ kb.length }) (fun i => [(82, .int .i64 (i.1 : Int)), (81, .int .i64 (kb.length : Int)), (80, .slice B kb.length capb), (0, .func (.yield y) #[] #[])]) (fun i => [.hp (cacsC (kb.zip m.D)), .hp (J (over1 m.h m.q ++ over2 m.h m.D m.D.length ++ over3 m.D i.1))]) (fun i => kb.length - i.1) ⟨0, by omega⟩ ⟨rfl, rfl, rfl, rfl, trivial⟩ [0, 3] (by rw [show over3 m.D 0 = [] from rfl, List.append_nil]; rfl) fun i => Zsr <| Zv (ylt rfl rfl) <| Znl <| Znx <| Zsq <| Zif rfl (fun h83 => ?_) (fun h83 => ?_)
      refine Zsk <| Znx <| Zsq <| Zbl <| Zsr <| Zv (yea 8 own.rd rfl rfl rfl (by first | assumption | omega) rfl Tryz.underlying106 rfl) <| Zv (yec (m := 0) 8 own.rd rfl (gE (by first | assumption | omega)) rfl rfl rfl) <| Zv (ya rfl) <| Znl <| Znx ?_
      refine Zsr <| Zv (ym rfl) ?_
      rotate_left
      refine Zex <| Zxt <| Zxt <| Zxx <| Zee ?_
      rotate_left
      · have hjt : i.1 < kb.length := by omega
        have hki := gE hjt
        have hDi := gE (l := m.D) (k := i.1) (by omega)
        have hz2 := zip_at hki hDi
        have hzl2 := (List.getElem?_eq_some_iff.1 hz2).1
        have hs3 := over3_snc (D := m.D) (i := i.1) (by omega)
        refine Zol 0 (cacs_op hz2) rfl ?_
        refine Zol 0 cac_ok rfl <| fun okd => ?_
        have hal : (allL m.D[i.1].n m.D[i.1].L).length ≤ 1048576 := by rw [allL_len okd.n0]; exact Nat.le_trans okd.len (by decide)
        refine Zk (c23 kb[i.1] m.D[i.1]) [0] rfl rfl <| fun A_1 => fun cap_1 => Zq <| Zv (sl_of ⟨_, Tryz.underlying79⟩ rfl) <| Zv (ym rfl) <| Znl <| Znx <| Zbl ?_
        refine Zfc [1,1] (cacs_same hki hDi hzl2) rfl ?_
        have hpre : ∀ kk, over1 m.h m.q ++ over2 m.h m.D m.D.length ++ (over3 m.D i.1 ++ dirL ((allL m.D[i.1].n m.D[i.1].L).take kk)) <+: overL m := fun kk => over3_pre (by omega)
        generalize hl0 : allL m.D[i.1].n m.D[i.1].L = l at hal hs3 hpre ⊢
        refine Zlq (ι := { k : Nat // k ≤ l.length }) (fun k => [(89, .int .i64 (k.1 : Int)), (88, .int .i64 (l.length : Int)), (87, .slice A_1 l.length cap_1), (82, .int .i64 (i.1 : Int)), (81, .int .i64 (kb.length : Int)), (80, .slice B kb.length capb), (0, .func (.yield y) #[] #[])]) (fun k => [.hp (own lnE A_1 cap_1 l), .hp (J (over1 m.h m.q ++ over2 m.h m.D m.D.length ++ (over3 m.D i.1 ++ dirL (l.take k.1))))]) (fun k => l.length - k.1) ⟨0, by omega⟩ ⟨rfl, rfl, rfl, rfl, rfl, rfl, rfl, trivial⟩ [1, 1] (by rw [show dirL (l.take 0) = [] from rfl, List.append_nil]; rfl) fun k => Zsr <| Zv (ylt rfl rfl) <| Znl <| Znx <| Zsq <| Zif rfl (fun h90 => ?_) (fun h90 => ?_)
        refine Zsk <| Znx <| Zsq <| Zbl <| Zsr <| Zv (yea 0 own.rd rfl rfl rfl (by first | assumption | omega) rfl Tryz.underlying79 rfl) <| Zv (yel 0 own.rd rfl (gE (by first | assumption | omega)) rfl rfl rfl) <| Ze (eal z145) fun b13 => Zw <| Ze (esw 0 (m := 18) rfl rfl rfl rfl rfl (Enc.len ..) (Enc.allL ..)) <| Zw0 <| Znl ?_
        refine Znx <| Zsr <| Zv (yf 1 rfl) <| Zv (yd 0 rfl rfl rfl) <| Zv (yne rfl rfl) <| Zv (ym rfl) <| Zgs rfl rfl (fun h96 => ?_) (fun h96 => ?_)
        refine Zg' rfl rfl (decide_eq_true h96) <| Zv (ym rfl) <| Zg' rfl rfl (decide_eq_true h96) <| Zv (ydw 0 (m := 18) rfl rfl (Enc.len ..)) <| Zg' rfl rfl (decide_eq_true h96) ?_
        rotate_left
        refine Zu' rfl rfl (decide_eq_false h96) rfl <| Zu' rfl rfl (decide_eq_false h96) rfl <| Zu' rfl rfl (decide_eq_false h96) rfl <| Zu' rfl rfl (decide_eq_false h96) rfl <| Zv (ypf' rfl (decide_eq_false h96) rfl) <| Znl <| Znx <| Zcf rfl <| Zsk <| Zxn ?_
        refine Znx <| Zrg <| Zv (yadd rfl rfl (i64w rfl (by omega))) <| Zv (ym rfl) <| Znl ?_
        rotate_left
        refine Zex <| Zxt <| Zxt <| Zxx <| Zxn <| Znx <| Zrg <| Zv (yadd rfl rfl (i64w rfl (by omega))) <| Zv (ym rfl) <| Znl ?_
        rotate_left
        · have hkt : k.1 < l.length := by omega
          have hs4 : dirL (l.take (k.1 + 1)) = dirL (l.take k.1) ++ [l[k.1]] := by
            refine (filt_snc hkt).trans ?_
            rw [if_pos (by simpa using h96)]
            rfl
          have hpr : over1 m.h m.q ++ over2 m.h m.D m.D.length ++ (over3 m.D i.1 ++ dirL (l.take k.1)) ++ [l[k.1]] <+: overL m := by
            have h9 := hpre (k.1 + 1)
            rw [hs4, ← List.append_assoc (over3 m.D i.1), ← List.append_assoc (over1 m.h m.q ++ over2 m.h m.D m.D.length)] at h9
            exact h9
          have hs5 : over1 m.h m.q ++ over2 m.h m.D m.D.length ++ (over3 m.D i.1 ++ dirL (l.take k.1)) ++ [l[k.1]] = over1 m.h m.q ++ over2 m.h m.D m.D.length ++ (over3 m.D i.1 ++ dirL (l.take (k.1 + 1))) := by
            rw [hs4, List.append_assoc (over1 m.h m.q ++ over2 m.h m.D m.D.length), List.append_assoc (over3 m.D i.1)]
          refine Zyd (hYd _ _ hpr) 2 rfl rfl rfl ?_ ?_
          refine Zg' rfl rfl (decide_eq_true h96) <| Zv (ynot rfl) <| Zv (ypt' rfl (decide_eq_true h96) rfl) <| Znl <| Znx <| Zcf rfl <| Zsk <| Zxn <| Znx <| Zrg ?_
          refine Zv (yadd rfl rfl (i64w rfl (by omega))) <| Zv (ym rfl) <| Znl ?_
          rotate_left
          refine Zg' rfl rfl (decide_eq_true h96) <| Zv (ynot rfl) <| Zv (ypt' rfl (decide_eq_true h96) rfl) <| Znl <| Znx <| Zct rfl <| Zrt <| Zr2 <| Zr1 <| Zr1 ?_
          refine Zr2 <| Zr2 <| Zr1 <| Zr1 <| Zr2 ?_
          rotate_left
          · rw [hs5]
            refine Zlr ⟨k.1 + 1, hkt⟩ (by show l.length - (k.1 + 1) < l.length - k.1; omega) ⟨rfl, rfl, rfl, rfl, rfl, rfl, rfl, trivial⟩ [2, 0] 1 rfl rfl
          · refine Zfx [4,8,8,8,3,6,4] (part_fold (m := m) ok hl) rfl ?_
            refine Zre .n (hS.2 _ hpr) [1,3,0] 3 rfl rfl rfl rfl
        · have hkt : k.1 < l.length := by omega
          have hs4 : dirL (l.take (k.1 + 1)) = dirL (l.take k.1) := by
            refine (filt_snc hkt).trans ?_
            rw [if_neg (by simpa using h96), List.append_nil]
            rfl
          rw [← hs4]
          refine Zlr ⟨k.1 + 1, hkt⟩ (by show l.length - (k.1 + 1) < l.length - k.1; omega) ⟨rfl, rfl, rfl, rfl, rfl, rfl, rfl, trivial⟩ [1, 1] 1 rfl rfl
        · have hk2 : k.1 = l.length := by have := k.2; omega
          rw [show l.take k.1 = l from List.take_of_length_le (by omega), ← hs3]
          refine Zlr ⟨i.1 + 1, hjt⟩ (by show kb.length - (i.1 + 1) < kb.length - i.1; omega) ⟨rfl, rfl, rfl, rfl, trivial⟩ [2, 1] 1 rfl rfl
      · have hi : i.1 = m.D.length := by have := i.2; omega
        rw [hi, show over1 m.h m.q ++ over2 m.h m.D m.D.length ++ over3 m.D m.D.length = overL m from rfl]
        refine Zfx [2,6,6,6,0,4,2] (part_fold (m := m) ok hl) rfl ?_
        refine Zre .n hS.1 [1,1,0] 1 rfl rfl rfl rfl
end Go.Proofs.YtpfijldkkfiooaaGreatDoor
namespace Go.Proofs.YtpfijldkkfiooaaGreatDoor
open Go
set_option maxRecDepth 4000
def setB (bs : List Int) (x : Ln) : List Int := if x.num.toNat < bs.length / 16 then setF bs x.num.toNat x.bs.1 else bs
def memF (m : MD) : List Int := (overL m).foldl setB m.h.bs
theorem setB_len (bs : List Int) (x : Ln) : (setB bs x).length = bs.length := by
  unfold setB
  split
  · have := x.bs.2.1
    simp [setF]
    omega
  · rfl
theorem setBs_len : ∀ (l : List Ln) (bs : List Int), (l.foldl setB bs).length = bs.length
  | [], _ => rfl
  | x :: l, bs => (setBs_len l (setB bs x)).trans (setB_len bs x)
theorem setBs_snc (bs : List Int) (l : List Ln) (x : Ln) : (l ++ [x]).foldl setB bs = setB (l.foldl setB bs) x := by rw [List.foldl_append]; rfl
theorem c56s (b : Nat) (l : List Int) (x : Ln) (hl : l.length ≤ 1048576) : Sp Tryz.prog 56 [.pointer (some ⟨b, 0, none⟩), .int .u32 x.num, .agg (bsE.cells x.bs).toArray] [.hp (imgC b l)] fun K => ∀ e, K (.returned (.int .i64 e)) [.hp (imgC b (setB l x))] := ⟨fun e X w Φ hp hS => by
  have hn := x.hn
  have hc := c56 b x.num.toNat l x.bs.1 x.bs.2.1 hl (by omega)
  rw [show ((x.num.toNat : Nat) : Int) = x.num by omega] at hc
  refine hc.run e X w Φ hp ⟨fun h => ?_, fun h => ?_⟩
  · have := hS 0
    rwa [show setB l x = setF l x.num.toNat x.bs.1 from if_pos h] at this
  · have := hS 4
    rwa [show setB l x = l from if_neg (by omega)] at this⟩
theorem c20 (k b : Nat) (m : MD) (hk : k ≤ 1000) : Sp Tryz.prog 20 [.pointer (some ⟨b, 0, none⟩)] [.hp (machC k b m)] fun K => ∀ b', K (.returned (.pointer (some ⟨b', 0, none⟩))) [.hp (imgC b' (memF m)), .hp (machC k b m)] := by
  refine ZenM Tryz.func20 rfl rfl rfl fun e X Φ hS => Zsr <| Zv (ya rfl) <| Znl <| Znx <| Zsq <| Zsr <| Zv (ym rfl) <| Zk (c35 ..) [0] rfl rfl <| Zq ?_
  refine Znl <| Znx <| Zcf rfl <| Zsk <| Znx <| Zsr <| Zv (ym rfl) <| Zv (yn rfl) <| Zv (yf 0 rfl) ?_
  refine Zol 0 mach_op rfl <| fun bp => Zv (yd 0 rfl rfl rfl) <| Zv (yn rfl) <| Zv (yf 3 rfl) ?_
  refine Zol 1 part_op rfl <| fun ok A cap B capb bn bh cb kb hl => Zv (yd 0 rfl rfl rfl) <| Zk (c25 ..) [6] rfl rfl <| fun b' => Zq <| Ze (eal z28) fun b3 => Zw <| Ze (es 0 rfl rfl rfl rfl rfl) <| Zw0 <| Znl <| Znx <| Zsq ?_
  refine Zsr <| Zv (ym rfl) <| Zv (yn rfl) <| Zv (yf 0 rfl) <| Zv (yd 9 rfl rfl rfl) <| Zk (c55 ..) [] rfl rfl <| fun b1 => Zq <| Znl <| Znx ?_
  refine Zbl ?_
  refine Zoc 3 hom_ok rfl <| fun hok => ?_
  have hbl : m.h.bs.length ≤ 1048576 := hok.l
  refine Zfc [4,4,4,4,4,4,0] (part_fold (m := m) ok hl) rfl ?_
  refine Zrf (q100 k b1 bp m hk) (fun pre => [.blk b3 28 [.pointer (some ⟨b', 0, none⟩)], .hp (imgC b' (pre.foldl setB m.h.bs))]) (fun _ => True) (fun _ => []) (fun _ => False) (fun _ _ => []) (fun _ _ => False) [1,0,0,0] rfl rfl trivial (fun e' y pre x F hx _ => ?_) (fun D _ => ?_) (fun _ _ _ h => h.elim) (fun _ _ _ _ h => h.elim) (fun _ => rfl) (by decide)
  refine Zrg <| Ze (eal z145) fun b4 => Zw <| Ze (esw 0 (m := 18) rfl rfl rfl rfl rfl (Enc.len ..) (Enc.allL ..)) <| Zw0 <| Znl <| Zak 3 rfl fun F' => Zbl <| Zrg <| Zv (yd 1 rfl rfl rfl) <| Zv (yf 0 rfl) <| Zv (yd 0 rfl rfl rfl) ?_
  refine Zv (yf 2 rfl) <| Zv (yda 0 (m := 16) rfl rfl (ln_bs' _) (Enc.len ..)) ?_
  rotate_left
  refine Zxn <| Znx <| Zsr <| Zv (yd 1 rfl rfl rfl) <| Zv (ya rfl) <| Znl <| Znx <| Zrt <| Zmk 0 rfl ?_
  rotate_left
  · have hpl : (pre.foldl setB m.h.bs).length ≤ 1048576 := by rw [setBs_len]; exact hbl
    refine Zk (c56s b' (pre.foldl setB m.h.bs) x hpl) [2] rfl rfl <| fun e_1 => Zq <| Znl <| Zxn ?_
    rw [← setBs_snc]
    refine Zrn trivial [2,0] 1 rfl rfl
  · rw [show (overL m).foldl setB m.h.bs = memF m from rfl]
    refine Zfx [4,3] (mach_fold (b := b) (m := m)) rfl <| Zre (.t rfl .n) (hS _) [2,0] 2 rfl rfl rfl rfl
end Go.Proofs.YtpfijldkkfiooaaGreatDoor
namespace Go.Proofs.YtpfijldkkfiooaaGreatDoor
open Go
theorem did_eq (w : World) (a b : Did) : (Op.equal 53 (.agg a.cells.toArray) (.agg b.cells.toArray)).run Tryz.prog w = .ok (decide (a = b)) w := by
  have h := run_equalIn_struct (P := Tryz.prog) w 9999 53 a.cells.toArray b.cells.toArray (by kernel_rfl) (by kernel_rfl)
  show (Op.equalIn (9999 + 1) 53 _ _).run Tryz.prog w = _
  rw [h]
  obtain ⟨dk, dh, ⟨pc, wd, ⟨k, ad, wi, va, op, aq, rl⟩, ⟨av, ao⟩, rd, vl, cs⟩, ⟨s1, s2, s3⟩, ow⟩ := a
  obtain ⟨dk', dh', ⟨pc', wd', ⟨k', ad', wi', va', op', aq', rl'⟩, ⟨av', ao'⟩, rd', vl', cs'⟩, ⟨s1', s2', s3'⟩, ow'⟩ := b
  simp only [Program.fieldsOf, Tryz.underlying53, Op.eqFields]
  simp [go_sem, Did.cells]
  by_cases h1 : dk = dk' <;> simp [h1]
  by_cases h2 : dh = dh' <;> simp [h2]
  by_cases h3 : pc = pc' <;> simp [h3]
  by_cases h4 : wd = wd' <;> simp [h4]
  by_cases h5 : k = k' <;> simp [h5]
  by_cases h6 : ad = ad' <;> simp [h6]
  by_cases h7 : wi = wi' <;> simp [h7]
  by_cases h8 : va = va' <;> simp [h8]
  by_cases h9 : op = op' <;> simp [h9]
  by_cases h10 : aq = aq' <;> simp [h10]
  by_cases h11 : rl = rl' <;> simp [h11]
  by_cases h12 : av = av' <;> simp [h12]
  by_cases h13 : ao = ao' <;> simp [h13]
  by_cases h14 : rd = rd' <;> simp [h14]
  by_cases h15 : vl = vl' <;> simp [h15]
  by_cases h16 : cs = cs' <;> simp [h16]
  by_cases h17 : s1 = s1' <;> simp [h17]
  by_cases h18 : s2 = s2' <;> simp [h18]
  by_cases h19 : s3 = s3' <;> simp [h19]
  by_cases h20 : ow = ow' <;> simp [h20]
theorem sizeU32 : (Tryz.prog.info? 40).map (·.size) = some 1 := by kernel_rfl
theorem hrt_eq (w : World) (m m' : Hrt) : (Op.equal 59 (.agg m.cells.toArray) (.agg m'.cells.toArray)).run Tryz.prog w = .ok (decide (m = m')) w := by
  have h := run_equalIn_struct (P := Tryz.prog) w 9999 59 m.cells.toArray m'.cells.toArray (by kernel_rfl) (by kernel_rfl)
  have ha : (Op.equalIn 9999 57 (.agg (m.regs.map (Value.int .u32)).toArray) (.agg (m'.regs.map (Value.int .u32)).toArray)).run Tryz.prog w = .ok (decide (m.regs = m'.regs)) w :=
    run_equalIn_arr (P := Tryz.prog) w 9997 Tryz.underlying57 Tryz.underlying40 sizeU32 m.regs m'.regs m.hr m'.hr
  have t1 : List.take 32 (m.regs.map (Value.int .u32) ++ [.int .i64 m.cause]) = m.regs.map (Value.int .u32) := List.take_left' (by simp [m.hr])
  have t2 : List.take 32 (m'.regs.map (Value.int .u32) ++ [.int .i64 m'.cause]) = m'.regs.map (Value.int .u32) := List.take_left' (by simp [m'.hr])
  have t3 : (m.regs.map (Value.int .u32) ++ [.int .i64 m.cause])[32]? = some (.int .i64 m.cause) := by rw [List.getElem?_append_right (by simp [m.hr])]; simp [m.hr]
  have t4 : (m'.regs.map (Value.int .u32) ++ [.int .i64 m'.cause])[32]? = some (.int .i64 m'.cause) := by rw [List.getElem?_append_right (by simp [m'.hr])]; simp [m'.hr]
  show (Op.equalIn (9999 + 1) 59 _ _).run Tryz.prog w = _
  rw [h]
  simp only [Program.fieldsOf, Tryz.underlying59, Op.eqFields]
  have e : (m = m') ↔ (m.id = m'.id ∧ m.pc = m'.pc ∧ m.regs = m'.regs ∧ m.cause = m'.cause) := by
    constructor
    · rintro rfl; simp
    · rintro ⟨h1, h2, h3, h4⟩
      cases m; cases m'
      simp_all
  simp [go_sem, Hrt.cells, e, t1, t2, t3, t4]
  by_cases a1 : m.id = m'.id <;> simp [a1]
  by_cases a2 : m.pc = m'.pc <;> simp [a2]
  simp only [ha, Result.andThen]
  by_cases a3 : m.regs = m'.regs <;> simp [a3]
  by_cases a4 : m.cause = m'.cause <;> simp [a4]
theorem didER : didE.Rec where
  eq := did_eq
  calm := by kernel_rfl
theorem hrtER : hrtE.Rec where
  eq := hrt_eq
  calm := by kernel_rfl
end Go.Proofs.YtpfijldkkfiooaaGreatDoor
namespace Go.Proofs.YtpfijldkkfiooaaGreatDoor
open Go
set_option maxRecDepth 4000
theorem mach_ok {k b : Nat} {m : MD} : Op_ (machC k b m) fun K => m.Ok k → HOk k m.h → K [.hp (machC k b m)] := .mk fun G K h hh => by
  have h0 := hh
  obtain ⟨bp, hs⟩ := hh
  obtain ⟨_, _, hp⟩ := hs.nth (i := 1) rfl
  obtain ⟨ok, A, cap, B, capb, bn, bh, cb, kb, hl, hs2⟩ := hp
  obtain ⟨_, _, hq⟩ := hs2.nth (i := 6) rfl
  exact ⟨_, K ok hq.1, sep_hp1 h0⟩
theorem mem_len {k : Nat} {m : MD} (h : HOk k m.h) : (memF m).length ≤ 1048576 := by
  unfold memF
  rw [setBs_len]
  exact h.l
theorem c12 (k k' b b' : Nat) (m : MD) (hk : k ≤ 1000) (hk' : k' ≤ 1000) : Sp Tryz.prog 12 [.pointer (some ⟨b, 0, none⟩), .pointer (some ⟨b', 0, none⟩)] [.hp (machC k b m), .hp (machC k' b' m)] fun K => K (.returned (.bool true)) [.hp (machC k b m), .hp (machC k' b' m)] := by
  refine Zen Tryz.func12 rfl rfl rfl fun e X Φ hS => Zoc 0 mach_ok rfl <| fun ok hok => ?_
  have hml := mem_len hok
  have hcl : (m.C.map (·.h)).length ≤ 4 := by rw [List.length_map]; exact ok.n1
  have hCl : m.C.length ≤ 4 := ok.n1
  have hql : m.q.length ≤ 1048576 := by have := ok.q; have := ok.m1; omega
  refine Zsr <| Zv (ya rfl) <| Znl <| Znx <| Zsr <| Zv (ym rfl) <| Zk (c15 ..) [0] rfl rfl <| fun A => fun cap => Zq ?_
  refine Zv (ym rfl) <| Zk (c15 ..) [2] rfl rfl <| fun A_1 => fun cap_1 => Zq <| Zv (ya rfl) <| Zv (ya rfl) <| Znl <| Znx <| Zsr ?_
  refine Zv (ym rfl) <| Zk (c43 ..) [3] rfl rfl <| fun A_2 => fun cap_2 => Zq <| Zv (ym rfl) <| Zk (c43 ..) [3] rfl rfl <| fun A_3 => fun cap_3 => Zq ?_
  refine Zv (ya rfl) <| Zv (ya rfl) <| Znl <| Znx <| Zsq <| Zsq ?_
  refine Zjm (ι := Unit) (fun _ => [(5, .slice A (m.C.map (·.h)).length cap), (6, .slice A_1 (m.C.map (·.h)).length cap_1), (7, .slice A_2 m.q.length cap_2), (8, .slice A_3 m.q.length cap_3), (41, .bool false)]) (fun _ => [.hp (machC k b m), .hp (machC k' b' m), .hp (own hrtE A cap (m.C.map (·.h))), .hp (own hrtE A_1 cap_1 (m.C.map (·.h))), .hp (own msgE A_2 cap_2 m.q), .hp (own msgE A_3 cap_3 m.q)]) X ?_ fun i => ?_
  rotate_left
  refine Zcf rfl <| Zsk <| Znx <| Zsq <| Zsr <| Zv (ya rfl) <| Znl <| Znx <| Zbl ?_
  rotate_left
  · refine Zhd [1, 2] rfl rfl <| Zht 0 rfl (ym rfl) <| Zht 1 rfl (sl_of ⟨_, Tryz.underlying65⟩ rfl) <| Zht 2 rfl (ym rfl) <| Zht 3 rfl (sl_of ⟨_, Tryz.underlying65⟩ rfl) <| Zht 4 rfl (yne rfl rfl) <| Zht 5 rfl (ym rfl) <| Zhg 6 rfl rfl (lkn rfl (decide_eq_false (by omega))) (ym rfl) <| Zhg 7 rfl rfl (lkn rfl (decide_eq_false (by omega))) (sl_of ⟨_, Tryz.underlying112⟩ rfl) <| Zhg 8 rfl rfl (lkn rfl (decide_eq_false (by omega))) (ym rfl) ?_
    refine Zhg 9 rfl rfl (lkn rfl (decide_eq_false (by omega))) (sl_of ⟨_, Tryz.underlying112⟩ rfl) <| Zhg 10 rfl rfl (lkn rfl (decide_eq_false (by omega))) (yne rfl rfl) <| Zht 11 rfl (ypf' rfl (decide_eq_false (by omega)) rfl) <| Zht 12 rfl (ym rfl) <| Zhg 13 rfl rfl (lkn rfl (decide_eq_false (by omega))) (ym rfl) <| Zhg 17 rfl rfl (lkn rfl (decide_eq_false (by omega))) (ym rfl) ?_
    rw [show decide ((m.q.length : Int) ≠ (m.q.length : Int)) = false by simp, show decide (((m.C.map (·.h)).length : Int) ≠ ((m.C.map (·.h)).length : Int)) = false by simp]
    refine Zh1 14 (by kernel_rfl) <| Zok (c20 k b m hk) [1] rfl rfl rfl <| fun b'_1 => Zqh 3 rfl <| Zh1 15 (by kernel_rfl) <| Zok (c21 ..) [0] rfl rfl rfl <| fun g' => fun o' => fun cap' => Zqh 4 rfl ?_
    refine Zh2 16 18 (by kernel_rfl) (Zov rfl (ycvs 1 own.rd rfl rfl rfl) ?_) (Zok (c20 k' b' m hk') [3] rfl rfl rfl <| fun b2 => Zqh 5 rfl ?_)
    · refine Zh1 18 (by kernel_rfl) (Zok (c20 k' b' m hk') [3] rfl rfl rfl <| fun b2 => Zqh 5 rfl ?_)
      refine Zh1 19 (by kernel_rfl) (Zok (c21 b2 (memF m) hml) [0] rfl rfl rfl <| fun g2 o2 cap2 => Zqh 6 rfl ?_)
      refine Zh1 20 (by kernel_rfl) (Zov rfl (ycvs 1 own.rd rfl rfl rfl) ?_)
      refine Zhg 21 rfl rfl rfl (ysne rfl rfl) <| Zht 22 rfl (ypf rfl rfl) <| Zhn (by kernel_rfl) ?_
      refine Zjr () ⟨rfl, rfl, rfl, rfl, rfl, trivial⟩ [5,2,7,6,5,4] 4 rfl rfl
    · refine Zh2 16 19 (by kernel_rfl) (Zov rfl (ycvs 3 own.rd rfl rfl rfl) ?_) (Zok (c21 b2 (memF m) hml) [0] rfl rfl rfl <| fun g2 o2 cap2 => Zqh 6 rfl ?_)
      · refine Zh1 19 (by kernel_rfl) (Zok (c21 b2 (memF m) hml) [0] rfl rfl rfl <| fun g2 o2 cap2 => Zqh 6 rfl ?_)
        refine Zh1 20 (by kernel_rfl) (Zov rfl (ycvs 1 own.rd rfl rfl rfl) ?_)
        refine Zhg 21 rfl rfl rfl (ysne rfl rfl) <| Zht 22 rfl (ypf rfl rfl) <| Zhn (by kernel_rfl) ?_
        refine Zjr () ⟨rfl, rfl, rfl, rfl, rfl, trivial⟩ [5,2,7,6,5,4] 4 rfl rfl
      · refine Zh2 16 20 (by kernel_rfl) (Zov rfl (ycvs 4 own.rd rfl rfl rfl) ?_) (Zov rfl (ycvs 1 own.rd rfl rfl rfl) ?_)
        · refine Zh1 20 (by kernel_rfl) (Zov rfl (ycvs 1 own.rd rfl rfl rfl) ?_)
          refine Zhg 21 rfl rfl rfl (ysne rfl rfl) <| Zht 22 rfl (ypf rfl rfl) <| Zhn (by kernel_rfl) ?_
          refine Zjr () ⟨rfl, rfl, rfl, rfl, rfl, trivial⟩ [5,2,7,6,5,4] 4 rfl rfl
        · refine Zh1 16 (by kernel_rfl) (Zov rfl (ycvs 4 own.rd rfl rfl rfl) ?_)
          refine Zhg 21 rfl rfl rfl (ysne rfl rfl) <| Zht 22 rfl (ypf rfl rfl) <| Zhn (by kernel_rfl) ?_
          refine Zjr () ⟨rfl, rfl, rfl, rfl, rfl, trivial⟩ [5,2,7,6,5,4] 4 rfl rfl
  · refine Zlq (ι := { i : Nat // i ≤ (m.C.map (·.h)).length }) (fun i => [(9, .int .i64 (i.1 : Int)), (5, .slice A (m.C.map (·.h)).length cap), (6, .slice A_1 (m.C.map (·.h)).length cap_1), (7, .slice A_2 m.q.length cap_2), (8, .slice A_3 m.q.length cap_3)]) (fun i => [.hp (own hrtE A cap (m.C.map (·.h))), .hp (own hrtE A_1 cap_1 (m.C.map (·.h)))]) (fun i => (m.C.map (·.h)).length - i.1) ⟨0, by omega⟩ ⟨rfl, rfl, rfl, rfl, rfl, trivial⟩ [2, 2] rfl fun i => Zsq <| Zsr <| Zv (ym rfl) <| Zv (ym rfl) <| Zv (sl_of ⟨_, Tryz.underlying65⟩ rfl) <| Zv (ylt rfl rfl) <| Znl <| Znx <| Zif rfl (fun h45 => ?_) (fun h45 => ?_)
    refine Zsk <| Znx <| Zsq <| Zbl <| Zsq <| Zhd [] rfl rfl <| Zht 0 rfl (ym rfl) <| Zht 1 rfl (ym rfl) <| Zht 2 rfl (yea 0 own.rd rfl rfl rfl (by first | assumption | omega) rfl Tryz.underlying65 rfl) <| Zht 3 rfl (yel 0 own.rd rfl (gE (by first | assumption | omega)) rfl rfl rfl) ?_
    refine Zht 4 rfl (ym rfl) <| Zht 5 rfl (ym rfl) <| Zht 6 rfl (yea 1 own.rd rfl rfl rfl (by first | assumption | omega) rfl Tryz.underlying65 rfl) <| Zht 7 rfl (yel 1 own.rd rfl (gE (by first | assumption | omega)) rfl rfl rfl) <| Zht 8 rfl (yneE hrtER _ _ rfl rfl) <| Zhn (by kernel_rfl) <| Znx <| Zib rfl (fun h56 => ?_) (fun h56 => ?_)
    refine Zsr <| Zv (ya rfl) <| Znl <| Znx <| Zrt <| Zr2 <| Zr1 <| Zr1 <| Zr2 <| Zr1 ?_
    refine Zre (.t rfl .n) hS [2,2] 4 ?_ rfl rfl rfl
    rotate_left
    refine Zsk <| Zxn <| Znx <| Zrg <| Zv (ym rfl) <| Zv (yadd rfl rfl (i64w rfl (by omega))) <| Zv (ya rfl) <| Znl ?_
    rotate_left
    refine Zex <| Zxt <| Zxt <| Zxx <| Znx <| Zsq <| Zsr <| Zv (ya rfl) <| Znl <| Znx ?_
    refine Zbl ?_
    rotate_left
    · simp at h56
    · refine Zlr ⟨i.1 + 1, by omega⟩ (by show (m.C.map (·.h)).length - (i.1 + 1) < (m.C.map (·.h)).length - i.1; omega) ⟨rfl, rfl, rfl, rfl, rfl, trivial⟩ [0, 0] 0 rfl rfl
    · refine Zlq (ι := { i : Nat // i ≤ m.q.length }) (fun i => [(10, .int .i64 (i.1 : Int)), (7, .slice A_2 m.q.length cap_2), (8, .slice A_3 m.q.length cap_3)]) (fun i => [.hp (own msgE A_2 cap_2 m.q), .hp (own msgE A_3 cap_3 m.q)]) (fun i => m.q.length - i.1) ⟨0, by omega⟩ ⟨rfl, rfl, rfl, trivial⟩ [4, 4] rfl fun i => Zsq <| Zsr <| Zv (ym rfl) <| Zv (ym rfl) <| Zv (sl_of ⟨_, Tryz.underlying112⟩ rfl) <| Zv (ylt rfl rfl) <| Znl <| Znx <| Zif rfl (fun h60 => ?_) (fun h60 => ?_)
      refine Zsk <| Znx <| Zsq <| Zbl <| Zsq <| Zhd [] rfl rfl <| Zht 0 rfl (ym rfl) <| Zht 1 rfl (ym rfl) <| Zht 2 rfl (yea 0 own.rd rfl rfl rfl (by first | assumption | omega) rfl Tryz.underlying112 rfl) <| Zht 3 rfl (yel 0 own.rd rfl (gE (by first | assumption | omega)) rfl rfl rfl) ?_
      refine Zht 4 rfl (ym rfl) <| Zht 5 rfl (ym rfl) <| Zht 6 rfl (yea 1 own.rd rfl rfl rfl (by first | assumption | omega) rfl Tryz.underlying112 rfl) <| Zht 7 rfl (yel 1 own.rd rfl (gE (by first | assumption | omega)) rfl rfl rfl) <| Zht 8 rfl (yneE msgER _ _ rfl rfl) <| Zhn (by kernel_rfl) <| Znx <| Zib rfl (fun h71 => ?_) (fun h71 => ?_)
      refine Zsr <| Zv (ya rfl) <| Znl <| Znx <| Zrt <| Zr2 <| Zr1 <| Zr1 <| Zr2 <| Zr1 ?_
      refine Zre (.t rfl .n) hS [4,4] 4 ?_ rfl rfl rfl
      rotate_left
      refine Zsk <| Zxn <| Znx <| Zrg <| Zv (ym rfl) <| Zv (yadd rfl rfl (i64w rfl (by omega))) <| Zv (ya rfl) <| Znl ?_
      rotate_left
      refine Zex <| Zxt <| Zxt <| Zxx <| Znx <| Zsr <| Zv (ya rfl) <| Znl <| Znx <| Zrt ?_
      refine Zre (.t rfl .n) hS [4,4] 4 rfl rfl rfl rfl
      · simp at h71
      · refine Zlr ⟨i.1 + 1, by omega⟩ (by show m.q.length - (i.1 + 1) < m.q.length - i.1; omega) ⟨rfl, rfl, rfl, trivial⟩ [0, 0] 0 rfl rfl
end Go.Proofs.YtpfijldkkfiooaaGreatDoor
namespace Go.Proofs.YtpfijldkkfiooaaGreatDoor
open Go
set_option maxRecDepth 4000
theorem c122n (s ways : Int) (hs : s < 1) : Sp Tryz.prog 122 [.int .i64 s, .int .i64 ways] [] fun K => K (.returned (.tuple #[.pointer none, .int .i64 2])) [] := by
  refine Zen Tryz.func122 rfl rfl rfl fun e X Φ hS => Zsr <| Zv (ya rfl) <| Zv (ya rfl) <| Znl <| Znx <| Zsq <| Zsr <| Zv (ym rfl) <| Zv (ylt rfl rfl) ?_
  refine Zv (ym rfl) <| Zu' rfl rfl (decide_eq_true hs) rfl <| Zu' rfl rfl (decide_eq_true hs) rfl <| Zv (ypt' rfl (decide_eq_true hs) rfl) <| Zv (ym rfl) <| Zu rfl rfl rfl <| Zu rfl rfl rfl <| Zu rfl rfl rfl <| Zu rfl rfl rfl <| Zu rfl rfl rfl ?_
  refine Zv (ypt rfl rfl) <| Zv (ym rfl) <| Zu rfl rfl rfl <| Zu rfl rfl rfl <| Zv (ypt rfl rfl) <| Zv (ym rfl) <| Zu rfl rfl rfl <| Zu rfl rfl rfl <| Zv (ypt rfl rfl) <| Znl ?_
  refine Znx <| Zct rfl <| Zsr <| Zv (ya rfl) <| Zv (ya rfl) <| Znl <| Znx <| Zrt <| Zr1 <| Zre (.t rfl (.t rfl .n)) hS [] 0 rfl rfl rfl rfl
theorem c75n (i s ways : Int) (h0 : 0 ≤ i) (h1 : i < 4) (hs : s < 1) : Sp Tryz.prog 75 [.int .i64 i, .int .i64 s, .int .i64 ways] [] fun K => K (.returned (.tuple #[.pointer none, .int .i64 2])) [] := by
  refine Zen Tryz.func75 rfl rfl rfl fun e X Φ hS => Zsr <| Zv (ya rfl) <| Zv (ya rfl) <| Znl <| Znx <| Zsr <| Zv (ym rfl) <| Zv (ym rfl) ?_
  refine Zk (c122n s ways hs) [] rfl rfl <| Zq <| Zv (ym rfl) <| Zv (yx rfl rfl) <| Zv (yx rfl rfl) <| Zv (ya rfl) <| Zv (ya rfl) <| Znl <| Znx <| Zsq ?_
  refine Zsr <| Zv (ym rfl) <| Zv (yne rfl rfl) <| Zv (ym rfl) <| Zu rfl rfl rfl <| Zu rfl rfl rfl <| Zv (ypt rfl rfl) <| Zv (ym rfl) <| Zu rfl rfl rfl <| Zu rfl rfl rfl ?_
  refine Zv (ypt rfl rfl) <| Znl <| Znx <| Zct rfl <| Zsr <| Zv (ya rfl) <| Zv (ya rfl) <| Znl <| Znx <| Zrt ?_
  refine Zr1 <| Zre (.t rfl (.t rfl .n)) hS [] 0 rfl rfl rfl rfl
theorem right_pos {s ways : Int} (h : rightB s ways = true) : 1 ≤ s := by
  unfold rightB pow2 at h
  simp at h
  omega
theorem c75z (i s ways : Int) (h0 : 0 ≤ i) (h1 : i < 4) : Sp Tryz.prog 75 [.int .i64 i, .int .i64 s, .int .i64 ways] [] fun K => (rightB s ways = true → ∀ b, K (.returned (.tuple #[.pointer (some ⟨b, 0, none⟩), .int .i64 0])) [.hp (cacC b (newD i s.toNat ways))]) ∧ (rightB s ways = false → K (.returned (.tuple #[.pointer none, .int .i64 2])) []) := by
  rcases (show s < 1 ∨ 1 ≤ s by omega) with h | h
  · exact ⟨fun e X w Φ hp hS => (c75n i s ways h0 h1 h).run e X w Φ hp (hS.2 (by
      cases hr : rightB s ways with
      | true => have := right_pos hr; omega
      | false => rfl))⟩
  · have hn : s = ((s.toNat : Nat) : Int) := by omega
    have hc := c75 i s.toNat ways h0 h1
    rwa [← hn] at hc
def slE : Enc Tryz.prog (Option Addr × Nat × List Int) where
  T := 62
  n := 1
  cells := fun x => [.slice x.1 x.2.2.length x.2.1]
  len := fun _ => rfl
  one := fun x v hv => by
    rw [List.mem_singleton] at hv
    subst hv
    rfl
  pos := by decide
structure Cds (c : Ck) (A : Option Addr) (cap : Nat) (l : List (Option Addr × Nat × List Int)) : Prop where
  r : Rd slE c A cap l
  w : ∀ x ∈ l, x.2.1 ≠ 0 → Rd u32E c x.1 x.2.1 x.2.2
  z : ∀ x ∈ l, x.2.1 = 0 → x.2.2 = []
  n : ∀ x ∈ l, x.1 = none → x.2.2 = [] ∧ x.2.1 = 0
  u : ∀ x ∈ l, ∀ a ∈ x.2.2, U32 a
abbrev cdsOf (l : List (Option Addr × Nat × List Int)) : List (List Int) := l.map (·.2.2)
def newC (i : Nat) (size : Int) (code : List Int) : Cor := ⟨hrt0 i, code, size, [], 0, none⟩
def cachesF (sets ways : Int) (n : Nat) : List CD := (List.range n).map fun i => newD (i : Nat) sets.toNat ways
def newM (cs : List (List Int)) (bs : List Int) (sets ways : Int) : MD := ⟨(List.range cs.length).map fun i => newC i (bs.length : Int) (cs.getD i []), cachesF sets ways cs.length, 1024, [], home0 bs⟩
def newOk (cs : List (List Int)) (sets ways : Int) : Bool := decide (1 ≤ cs.length) && decide (cs.length ≤ 4) && rightB sets ways && cs.all fun c => decide (c.length ≤ 1024)
theorem newM_C {l : List (Option Addr × Nat × List Int)} {bs : List Int} {sets ways : Int} {i : Nat} (h : i < l.length) : (newM (cdsOf l) bs sets ways).C[i]? = some (newC i (bs.length : Int) l[i].2.2) := by
  show ((List.range (cdsOf l).length).map _)[i]? = _
  rw [List.getElem?_map, List.getElem?_range (by rw [List.length_map]; exact h)]
  simp [h]
theorem newM_D {l : List (Option Addr × Nat × List Int)} {bs : List Int} {sets ways : Int} {i : Nat} (h : i < l.length) : (newM (cdsOf l) bs sets ways).D[i]? = some (newD (i : Nat) sets.toNat ways) := by
  show ((List.range (cdsOf l).length).map _)[i]? = _
  rw [List.getElem?_map, List.getElem?_range (by rw [List.length_map]; exact h)]
  rfl
theorem newOk_no1 {l : List (Option Addr × Nat × List Int)} {sets ways : Int} {i : Nat} (h : i < l.length) (hc : ¬ l[i].2.2.length ≤ 1024) : newOk (cdsOf l) sets ways = false := by
  cases hn : newOk (cdsOf l) sets ways with
  | false => rfl
  | true =>
    exfalso
    unfold newOk at hn
    simp only [Bool.and_eq_true, List.all_eq_true] at hn
    exact hc (of_decide_eq_true (hn.2 _ (List.mem_map.2 ⟨l[i], List.getElem_mem h, rfl⟩)))
theorem newOk_no2 {l : List (List Int)} {sets ways : Int} (h : rightB sets ways = false) : newOk l sets ways = false := by
  unfold newOk
  rw [h]
  simp
theorem newOk_yes {l : List (Option Addr × Nat × List Int)} {sets ways : Int} (h1 : 1 ≤ l.length) (h4 : l.length ≤ 4) (hr : rightB sets ways = true) (hc : ∀ (i : Nat) (h : i < l.length), l[i].2.2.length ≤ 1024) : newOk (cdsOf l) sets ways = true := by
  unfold newOk
  rw [hr]
  simp only [Bool.and_eq_true, List.all_eq_true, decide_eq_true_eq, List.length_map]
  refine ⟨⟨⟨h1, h4⟩, trivial⟩, fun x hx => ?_⟩
  obtain ⟨y, hy, rfl⟩ := List.mem_map.1 hx
  obtain ⟨i, hi, rfl⟩ := List.getElem_of_mem hy
  exact hc i hi
structure NwI (l : List (Option Addr × Nat × List Int)) (sets ways : Int) (c : Cpy) : Prop where
  i : c.i ≤ l.length
  nb : c.nb.length = c.i
  nk : c.nk.length = c.i
  r : 0 < c.i → rightB sets ways = true
  k : ∀ (j : Nat) (h : j < l.length), j < c.i → l[j].2.2.length ≤ 1024
theorem c32 (c : Ck) (A : Option Addr) (cap : Nat) (l : List (Option Addr × Nat × List Int)) (bi : Nat) (bs : List Int) (sets ways : Int) (hC : Cds c A cap l) (hz : szF bs.length = false) (hr : ∀ a ∈ bs, 0 ≤ a ∧ a < 256) : Sp Tryz.prog 32 [.slice A l.length cap, .pointer (some ⟨bi, 0, none⟩), .int .i64 sets, .int .i64 ways] [.hp (imgC bi bs), c] fun K =>
    (newOk (cdsOf l) sets ways = true → ∀ b, K (.returned (.tuple #[.pointer (some ⟨b, 0, none⟩), .int .i64 0])) [.hp (machC 0 b (newM (cdsOf l) bs sets ways)), .hp (imgC bi bs), c]) ∧ (newOk (cdsOf l) sets ways = false → K (.returned (.tuple #[.pointer none, .int .i64 2])) [.hp (imgC bi bs), c]) := by
  obtain ⟨z1, z2⟩ : 16 ≤ bs.length ∧ bs.length ≤ 4096 := by
    unfold szF at hz
    simp only [Bool.or_eq_false_iff, decide_eq_false_iff_not] at hz
    omega
  have hRc := hC.r
  have hmx : (1 : Int) ≤ 1024 ∧ (1024 : Int) ≤ 1024 := by decide
  refine Zen Tryz.func32 rfl rfl rfl fun e X Φ hS => Zsr <| Zv (ya rfl) <| Zv (ya rfl) <| Znl <| Znx <| Zsr <| Zv (ym rfl) ?_
  refine Zk (c71 bi bs (by omega) (by omega) hr) [0] rfl rfl <| fun b' => Zq <| Zv (ym rfl) <| Zv (yx rfl rfl) <| Zv (yx rfl rfl) <| Zv (ya rfl) <| Zv (ya rfl) <| Znl <| Znx ?_
  refine Zsq <| Zsr <| Zv (ym rfl) <| Zv (yne rfl rfl) <| Znl <| Znx <| Zcf rfl <| Zsk <| Znx <| Zsq ?_
  refine Zsr <| Zv (ym rfl) <| Zv (sl_of ⟨_, Tryz.underlying22⟩ rfl) <| Zv (ylt rfl rfl) <| Zv (ym rfl) <| Zgs rfl rfl (fun h30 => ?_) (fun h30 => ?_)
  refine Zu' rfl rfl (decide_eq_true h30) rfl <| Zu' rfl rfl (decide_eq_true h30) rfl <| Zu' rfl rfl (decide_eq_true h30) rfl <| Zv (ypt' rfl (decide_eq_true h30) rfl) <| Znl <| Znx <| Zct rfl <| Zsr <| Zv (ya rfl) <| Zv (ya rfl) ?_
  refine Znl <| Znx <| Zrt <| Zr1 ?_
  rotate_left
  refine Zg' rfl rfl (decide_eq_false h30) <| Zv (ym rfl) <| Zg' rfl rfl (decide_eq_false h30) <| Zv (sl_of ⟨_, Tryz.underlying22⟩ rfl) <| Zg' rfl rfl (decide_eq_false h30) <| Zv (ygt rfl rfl) <| Zv (ypf' rfl (decide_eq_false h30) rfl) <| Znl <| Znx <| Zif rfl (fun h34 => ?_) (fun h34 => ?_)
  refine Zsr <| Zv (ya rfl) <| Zv (ya rfl) <| Znl <| Znx <| Zrt <| Zr1 ?_
  rotate_left
  refine Zsk <| Znx <| Zsr <| Zv (ym rfl) <| Zv (yb l108 rfl) <| Ze (ebx rfl) fun b37 => Zw <| Zv (ya rfl) <| Znl <| Znx <| Zsr ?_
  refine Zv (ym rfl) ?_
  rotate_left
  · refine Zre (.t rfl (.t rfl .n)) (hS.2 (by unfold newOk; rw [decide_eq_false (by rw [List.length_map]; omega)]; rfl)) [1,1] 1 rfl rfl rfl rfl
  · refine Zre (.t rfl (.t rfl .n)) (hS.2 (by unfold newOk; rw [decide_eq_false (p := (cdsOf l).length ≤ 4) (by rw [List.length_map]; omega)]; simp)) [1,1] 1 rfl rfl rfl rfl
  · refine Zk (c72 1024 hmx) [] rfl rfl <| fun b => Zq <| Zv (ym rfl) <| Zv (yx rfl rfl) <| Zv (yx rfl rfl) <| Zv (yn rfl) <| Zv (yf 2 rfl) <| Ze (es 1 rfl rfl rfl rfl rfl) <| Zw0 <| Znl ?_
    refine Znx <| Zsq <| Zsr <| Zv (ym rfl) <| Zv (sl_of ⟨_, Tryz.underlying22⟩ rfl) <| Zv (ym rfl) <| Znl <| Znx <| Zbl ?_
    refine Zic (fun _ hs => sep_nil (E := ptrE 74) hs) ?_
    refine Zic (fun _ hs => sep_nil (E := ptrE 80) hs) ?_
    refine Zic (fun _ hs => many_nil (F := fun x : Nat × Cor => corC 0 x.1 x.2) hs) ?_
    refine Zic (fun _ hs => many_nil (F := fun x : Nat × CD => cacC x.1 x.2) hs) ?_
    refine Zlq (ι := { p : Cpy // NwI l sets ways p }) (fun p => [(47, .int .i64 (p.1.i : Int)), (46, .int .i64 (l.length : Int)), (45, .slice A l.length cap), (1, .pointer (some ⟨bi, 0, none⟩)), (2, .int .i64 sets), (3, .int .i64 ways), (12, .pointer (some ⟨b37, 0, none⟩))]) (fun p => [.blk b37 108 [.slice p.1.A p.1.nb.length p.1.cap, .slice p.1.B p.1.nk.length p.1.capb, .pointer (some ⟨b, 0, none⟩), .pointer (some ⟨b', 0, none⟩)], .hp (own (ptrE 74) p.1.A p.1.cap p.1.nb), .hp (own (ptrE 80) p.1.B p.1.capb p.1.nk), .hp (corsC 0 (p.1.nb.zip ((newM (cdsOf l) bs sets ways).C.take p.1.i))), .hp (cacsC (p.1.nk.zip ((newM (cdsOf l) bs sets ways).D.take p.1.i))), .hp (imgC bi bs), c]) (fun p => l.length - p.1.i) ⟨⟨0, none, 0, none, 0, [], []⟩, ⟨Nat.zero_le _, rfl, rfl, fun h => absurd h (Nat.lt_irrefl 0), fun j _ h => absurd h (Nat.not_lt_zero j)⟩⟩ ⟨rfl, rfl, rfl, rfl, rfl, rfl, rfl, trivial⟩ [5, 3, 2, 1, 0, 2, 2] rfl fun p => Zsr <| Zv (ylt rfl rfl) <| Znl <| Znx <| Zsq <| Zif rfl (fun h48 => ?_) (fun h48 => ?_)
    refine Zsk <| Znx <| Zsq <| Zbl <| Zsr <| Zv (ym rfl) <| Zv (yea 6 hRc rfl rfl rfl (by first | assumption | omega) rfl Tryz.underlying22 rfl) ?_
    rotate_left
    refine Zex <| Zxt <| Zxt <| Zxx <| Znx <| Zsr <| Zv (ym rfl) <| Zv (yb l104 rfl) <| Ze (ebx rfl) fun b96 => Zw <| Zv (ya rfl) ?_
    refine Zv (ya rfl) <| Znl <| Znx <| Zrt ?_
    rotate_left
    · have hI := p.2
      have hlt : p.1.i < l.length := by omega
      have hmem := List.getElem_mem hlt
      have hRw := hC.w _ hmem
      have hzw := hC.z _ hmem
      have hnw := hC.n _ hmem
      have huw := hC.u _ hmem
      have hi4 : ((p.1.i : Nat) : Int) < 4 := by omega
      have hi0 : (0 : Int) ≤ ((p.1.i : Nat) : Int) := by omega
      refine Zv (yec (m := 0) 6 hRc rfl (gE (by first | assumption | omega)) rfl rfl rfl) <| Zv (ya rfl) <| Zv (ya rfl) <| Znl <| Znx <| Zsr <| Zv (ym rfl) <| Zv (ym rfl) <| Zv (ym rfl) <| Zk (c74 ..) [5] rfl rfl ?_
      refine Zq ?_
      refine Zk (c73u ((p.1.i : Nat) : Int) c l[p.1.i].1 l[p.1.i].2.1 l[p.1.i].2.2 (bs.length : Int) hi0 hi4 hRw hzw hnw huw) [6] rfl rfl <| ⟨?_, ?_⟩
      refine fun a => fun b_1 => Zq <| Zv (ym rfl) <| Zv (yx rfl rfl) <| Zv (yx rfl rfl) <| Zv (ya rfl) <| Zv (ya rfl) <| Znl <| Znx ?_
      refine Zsr <| Zv (ym rfl) <| Zv (ym rfl) <| Zv (ym rfl) ?_
      rotate_left
      refine fun a => Zq <| Zv (ym rfl) <| Zv (yx rfl rfl) <| Zv (yx rfl rfl) <| Zv (ya rfl) <| Zv (ya rfl) <| Znl <| Znx <| Zsr ?_
      refine Zv (ym rfl) <| Zv (ym rfl) <| Zv (ym rfl) ?_
      rotate_left
      · refine Zk (c75z ((p.1.i : Nat) : Int) sets ways hi0 hi4) [] rfl rfl <| ⟨?_, ?_⟩
        refine fun a_1 => fun b_2 => Zq <| Zv (ym rfl) <| Zv (yx rfl rfl) <| Zv (yx rfl rfl) <| Zv (ya rfl) <| Zv (ya rfl) <| Znl <| Znx ?_
        refine Zsq <| Zsr <| Zv (ym rfl) <| Zv (yne rfl rfl) <| Zv (ym rfl) <| Zg rfl rfl <| Zv (ym rfl) <| Zg rfl rfl <| Zv (yne rfl rfl) <| Zv (ypf rfl rfl) ?_
        refine Znl <| Znx <| Zcf rfl <| Zsk <| Znx ?_
        rotate_left
        refine fun a_1 => Zq <| Zv (ym rfl) <| Zv (yx rfl rfl) <| Zv (yx rfl rfl) <| Zv (ya rfl) <| Zv (ya rfl) <| Znl <| Znx <| Zsq ?_
        refine Zsr <| Zv (ym rfl) <| Zv (yne rfl rfl) <| Zv (ym rfl) <| Zg rfl rfl <| Zv (ym rfl) <| Zg rfl rfl <| Zv (yne rfl rfl) <| Zv (ypf rfl rfl) <| Znl ?_
        refine Znx <| Zct rfl <| Zsr <| Zv (ya rfl) <| Zv (ya rfl) <| Znl <| Znx <| Zrt <| Zr1 <| Zr2 ?_
        refine Zr1 <| Zr1 <| Zr2 <| Zr1 ?_
        rotate_left
        · have hCi := newM_C (bs := bs) (sets := sets) (ways := ways) hlt
          have hDi := newM_D (bs := bs) (sets := sets) (ways := ways) hlt
          have hI1 := hI.nb
          have hI2 := hI.nk
          have hm1 : p.1.nb.length + 1 ≤ maxLen := Nat.le_trans (show _ ≤ 1048576 by omega) (by decide)
          have hm2 : p.1.nk.length + 1 ≤ maxLen := Nat.le_trans (show _ ≤ 1048576 by omega) (by decide)
          have hN : ∀ A' cap' B' capb', NwI l sets ways ⟨p.1.i + 1, A', cap', B', capb', p.1.nb ++ [b_1], p.1.nk ++ [b_2]⟩ := fun _ _ _ _ => ⟨hlt, by rw [List.length_append, hI1]; rfl, by rw [List.length_append, hI2]; rfl, fun _ => a_1, fun j hj hji => by
            rcases Nat.lt_or_ge j p.1.i with h | h
            · exact hI.k j hj h
            · have : j = p.1.i := by
                have : j < p.1.i + 1 := hji
                omega
              subst this
              exact a.1⟩
          refine Zhu_ 16 1 [5, 5] rfl rfl rfl rfl <| Zht 0 rfl (ym rfl) <| Zht 2 rfl (ym rfl) <| Zht 3 rfl (yn rfl) <| Zht 4 rfl (yf 0 rfl) <| Zht 5 rfl (yd 4 rfl rfl rfl) <| Zht 6 rfl (ym rfl) <| Zht 9 rfl (ym rfl) <| Zht 10 rfl (yn rfl) <| Zht 11 rfl (yf 1 rfl) ?_
          refine Zht 12 rfl (yd 4 rfl rfl rfl) <| Zht 13 rfl (ym rfl) <| Zh2 7 14 (by kernel_rfl) (Zoe rfl (ebp elCor rfl) fun A80 => Zwh 3 rfl ?_) (Zoe rfl (ebp elCac rfl) fun A87 => Zwh 3 rfl ?_)
          rotate_left
          refine Zh1 7 (by kernel_rfl) <| Zoe rfl (ebp elCor rfl) fun A80 => Zwh 4 rfl ?_
          rotate_left
          · refine Zh2 8 14 (by kernel_rfl) (Zoe rfl (eap' 1 0 elCor rfl rfl rfl own.rd rfl rfl rfl (fun _ _ => rfl) (by simp; omega) hm1) <| fun A' cap' => Zwh 3 rfl ?_) (Zoe rfl (ebp elCac rfl) <| fun A87 => Zwh 4 rfl ?_)
            · refine Zh1 14 (by kernel_rfl) <| Zoe rfl (ebp elCac rfl) fun A87 => Zwh 4 rfl ?_
              refine Zh1 15 (by kernel_rfl) <| Zoe rfl (eap' 3 0 elCac rfl rfl rfl own.rd rfl rfl rfl (fun _ _ => rfl) (by simp; omega) hm2) <| fun B' capb' => Zwh 4 rfl <| Zhn (by kernel_rfl) <| Ztl rfl <| Ztv (yn rfl) <| Ztv (yf 0 rfl) <| Zte (es 8 rfl rfl rfl rfl rfl) <| Ztw <| Ztv (yn rfl) <| Ztv (yf 1 rfl) <| Zte (es 8 rfl rfl rfl rfl rfl) <| Ztw <| Ztn ?_
              refine Zxn <| Znx <| Zrg <| Zv (yadd rfl rfl (i64w rfl (by omega))) <| Zv (ym rfl) <| Znl ?_
              refine Zfx [4,9] (cacs_snc (b := b_2) hI.nk hDi) rfl ?_
              refine Zfx [5,8] (cors_snc (b := b_1) hI.nb hCi) rfl ?_
              refine Zlr ⟨⟨p.1.i + 1, A', cap', B', capb', p.1.nb ++ [b_1], p.1.nk ++ [b_2]⟩, hN A' cap' B' capb'⟩ (by show l.length - (p.1.i + 1) < l.length - p.1.i; omega) ⟨rfl, rfl, rfl, rfl, rfl, rfl, rfl, trivial⟩ [8, 4, 4, 0, 0, 3, 2] 2 rfl rfl
            · refine Zh1 8 (by kernel_rfl) <| Zoe rfl (eap' 2 1 elCor rfl rfl rfl own.rd rfl rfl rfl (fun _ _ => rfl) (by simp; omega) hm1) <| fun A' cap' => Zwh 4 rfl ?_
              refine Zh1 15 (by kernel_rfl) <| Zoe rfl (eap' 3 0 elCac rfl rfl rfl own.rd rfl rfl rfl (fun _ _ => rfl) (by simp; omega) hm2) <| fun B' capb' => Zwh 4 rfl <| Zhn (by kernel_rfl) <| Ztl rfl <| Ztv (yn rfl) <| Ztv (yf 0 rfl) <| Zte (es 8 rfl rfl rfl rfl rfl) <| Ztw <| Ztv (yn rfl) <| Ztv (yf 1 rfl) <| Zte (es 8 rfl rfl rfl rfl rfl) <| Ztw <| Ztn ?_
              refine Zxn <| Znx <| Zrg <| Zv (yadd rfl rfl (i64w rfl (by omega))) <| Zv (ym rfl) <| Znl ?_
              refine Zfx [4,9] (cacs_snc (b := b_2) hI.nk hDi) rfl ?_
              refine Zfx [5,8] (cors_snc (b := b_1) hI.nb hCi) rfl ?_
              refine Zlr ⟨⟨p.1.i + 1, A', cap', B', capb', p.1.nb ++ [b_1], p.1.nk ++ [b_2]⟩, hN A' cap' B' capb'⟩ (by show l.length - (p.1.i + 1) < l.length - p.1.i; omega) ⟨rfl, rfl, rfl, rfl, rfl, rfl, rfl, trivial⟩ [8, 4, 4, 0, 0, 3, 2] 2 rfl rfl
          · refine Zh1 8 (by kernel_rfl) <| Zoe rfl (eap' 2 0 elCor rfl rfl rfl own.rd rfl rfl rfl (fun _ _ => rfl) (by simp; omega) hm1) <| fun A' cap' => Zwh 4 rfl ?_
            refine Zh1 15 (by kernel_rfl) <| Zoe rfl (eap' 3 1 elCac rfl rfl rfl own.rd rfl rfl rfl (fun _ _ => rfl) (by simp; omega) hm2) <| fun B' capb' => Zwh 4 rfl <| Zhn (by kernel_rfl) <| Ztl rfl <| Ztv (yn rfl) <| Ztv (yf 0 rfl) <| Zte (es 8 rfl rfl rfl rfl rfl) <| Ztw <| Ztv (yn rfl) <| Ztv (yf 1 rfl) <| Zte (es 8 rfl rfl rfl rfl rfl) <| Ztw <| Ztn ?_
            refine Zxn <| Znx <| Zrg <| Zv (yadd rfl rfl (i64w rfl (by omega))) <| Zv (ym rfl) <| Znl ?_
            refine Zfx [4,9] (cacs_snc (b := b_2) hI.nk hDi) rfl ?_
            refine Zfx [5,8] (cors_snc (b := b_1) hI.nb hCi) rfl ?_
            refine Zlr ⟨⟨p.1.i + 1, A', cap', B', capb', p.1.nb ++ [b_1], p.1.nk ++ [b_2]⟩, hN A' cap' B' capb'⟩ (by show l.length - (p.1.i + 1) < l.length - p.1.i; omega) ⟨rfl, rfl, rfl, rfl, rfl, rfl, rfl, trivial⟩ [8, 4, 4, 0, 0, 3, 2] 2 rfl rfl
        · refine Zre (.t rfl (.t rfl .n)) (hS.2 (newOk_no2 a_1)) [2,1] 8 rfl rfl rfl rfl
      · refine Zk (c75z ((p.1.i : Nat) : Int) sets ways hi0 hi4) [] rfl rfl <| ⟨?_, ?_⟩
        refine fun a_1 => fun b_1 => Zq <| Zv (ym rfl) <| Zv (yx rfl rfl) <| Zv (yx rfl rfl) <| Zv (ya rfl) <| Zv (ya rfl) <| Znl <| Znx ?_
        refine Zsq <| Zsr <| Zv (ym rfl) <| Zv (yne rfl rfl) <| Zv (ym rfl) <| Zu rfl rfl rfl <| Zu rfl rfl rfl <| Zv (ypt rfl rfl) <| Znl <| Znx ?_
        refine Zct rfl <| Zsr <| Zv (ya rfl) <| Zv (ya rfl) <| Znl <| Znx <| Zrt <| Zr1 <| Zr2 <| Zr1 ?_
        refine Zr1 <| Zr2 <| Zr1 ?_
        rotate_left
        refine fun a_1 => Zq <| Zv (ym rfl) <| Zv (yx rfl rfl) <| Zv (yx rfl rfl) <| Zv (ya rfl) <| Zv (ya rfl) <| Znl <| Znx <| Zsq ?_
        refine Zsr <| Zv (ym rfl) <| Zv (yne rfl rfl) <| Zv (ym rfl) <| Zu rfl rfl rfl <| Zu rfl rfl rfl <| Zv (ypt rfl rfl) <| Znl <| Znx <| Zct rfl ?_
        refine Zsr <| Zv (ya rfl) <| Zv (ya rfl) <| Znl <| Znx <| Zrt <| Zr1 <| Zr2 <| Zr1 <| Zr1 ?_
        refine Zr2 <| Zr1 ?_
        rotate_left
        · refine Zre (.t rfl (.t rfl .n)) (hS.2 (newOk_no1 hlt fun h => a ⟨h, by omega, by omega⟩)) [2,1] 8 rfl rfl rfl rfl
        · refine Zre (.t rfl (.t rfl .n)) (hS.2 (newOk_no1 hlt fun h => a ⟨h, by omega, by omega⟩)) [1,0] 7 rfl rfl rfl rfl
    · have hI := p.2
      have hI0 := hI.i
      have hI1 := hI.nb
      have hI2 := hI.nk
      have hCl : (newM (cdsOf l) bs sets ways).C.length = l.length := by simp [newM]
      have hDl : (newM (cdsOf l) bs sets ways).D.length = l.length := by simp [newM, cachesF]
      rw [show (newM (cdsOf l) bs sets ways).C.take p.1.i = (newM (cdsOf l) bs sets ways).C from List.take_of_length_le (by omega), show (newM (cdsOf l) bs sets ways).D.take p.1.i = (newM (cdsOf l) bs sets ways).D from List.take_of_length_le (by omega)]
      have okN : (newM (cdsOf l) bs sets ways).Ok 0 := ⟨by omega, by omega, by omega, by show (1 : Int) ≤ 1024; decide, by show (1024 : Int) ≤ 1024; decide, by show ((0 : Nat) : Int) ≤ 1024; decide⟩
      have hy := newOk_yes (l := l) (by omega) (by omega) (hI.r (by omega)) (fun j h => hI.k j h (by omega))
      refine Zfx [1,1,1,1,1,3,3] (part_fold (b := b37) (bn := b) (bh := b') (m := newM (cdsOf l) bs sets ways) okN ⟨by omega, by omega⟩) rfl ?_
      refine Zfx [1,0] (mach_fold (b := b96) (m := newM (cdsOf l) bs sets ways)) rfl ?_
      refine Zre (.t rfl (.t rfl .n)) (hS.1 hy _) [0,0,0] 0 rfl rfl rfl rfl
end Go.Proofs.YtpfijldkkfiooaaGreatDoor
namespace Go.Proofs.YtpfijldkkfiooaaGreatDoor
open Go
set_option maxRecDepth 4000
structure Wld where
  A : Option Addr
  cap : Nat
  l : List (Option Addr × Nat × List Int)
  B : Option Addr
  capb : Nat
  bs : List Int
  sets : Int
  ways : Int
def Wld.cells (x : Wld) : List Value := [.slice x.A x.l.length x.cap, .slice x.B x.bs.length x.capb, .int .i64 x.sets, .int .i64 x.ways]
structure Wld.In (c : Ck) (x : Wld) : Prop where
  cds : Cds c x.A x.cap x.l
  b : Rd u8E c x.B x.capb x.bs
  r : ∀ a ∈ x.bs, 0 ≤ a ∧ a < 256
def Wld.ok (x : Wld) : Bool := !szF x.bs.length && newOk (cdsOf x.l) x.sets x.ways
def Wld.m (x : Wld) : MD := newM (cdsOf x.l) x.bs x.sets x.ways
theorem c7 (c : Ck) (x : Wld) (h : x.In c) : Sp Tryz.prog 7 [.agg x.cells.toArray] [c] fun K => (x.ok = true → ∀ b bi, K (.returned (.tuple #[.pointer (some ⟨b, 0, none⟩), .pointer (some ⟨bi, 0, none⟩)])) [.hp (machC 0 b x.m), .hp (imgC bi x.bs), c]) ∧ (x.ok = false → K (.returned (.tuple #[.pointer none, .pointer none])) [c]) := by
  have hb := h.b
  refine Zen Tryz.func7 rfl rfl rfl fun e X Φ hS => Zsr <| Ze (ebx rfl) fun b1 => Zw <| Zv (ya rfl) <| Zv (ya rfl) <| Znl <| Znx <| Zsr <| Zv (yf 1 rfl) <| Zv (yd 0 rfl rfl rfl) ?_
  refine Zk (c31 c x.B x.capb x.bs hb) [1] rfl rfl <| ⟨?_, ?_⟩
  refine fun a => Zq <| Zv (ym rfl) <| Zv (yx rfl rfl) <| Zv (yx rfl rfl) <| Zv (ya rfl) <| Zv (ya rfl) <| Znl <| Znx <| Zsq ?_
  refine Zsr <| Zv (ym rfl) <| Zv (yne rfl rfl) <| Znl <| Znx <| Zct rfl <| Zsr <| Zv (ya rfl) <| Zv (ya rfl) <| Znl ?_
  refine Znx <| Zrt <| Zr1 ?_
  rotate_left
  refine fun a => fun b => Zq <| Zv (ym rfl) <| Zv (yx rfl rfl) <| Zv (yx rfl rfl) <| Zv (ya rfl) <| Zv (ya rfl) <| Znl <| Znx ?_
  refine Zsq <| Zsr <| Zv (ym rfl) <| Zv (yne rfl rfl) <| Znl <| Znx <| Zcf rfl <| Zsk <| Znx <| Zsr ?_
  refine Zv (yf 0 rfl) <| Zv (yd 2 rfl rfl rfl) <| Zv (ym rfl) <| Zv (yf 2 rfl) <| Zv (yd 2 rfl rfl rfl) <| Zv (yf 3 rfl) <| Zv (yd 2 rfl rfl rfl) ?_
  rotate_left
  · refine Zre (.t rfl (.t rfl .n)) (hS.2 (by unfold Wld.ok; rw [a]; rfl)) [0] 1 rfl rfl rfl rfl
  · refine Zk (c32 c x.A x.cap x.l b x.bs x.sets x.ways h.cds a h.r) [0,0] rfl rfl <| ⟨?_, ?_⟩
    refine fun a_1 => fun b_1 => Zq <| Zv (ym rfl) <| Zv (yx rfl rfl) <| Zv (yx rfl rfl) <| Zv (ya rfl) <| Zv (ya rfl) <| Znl <| Znx ?_
    refine Zsq <| Zsr <| Zv (ym rfl) <| Zv (yne rfl rfl) <| Znl <| Znx <| Zcf rfl <| Zsk <| Znx <| Zsr ?_
    refine Zv (ym rfl) <| Zv (ym rfl) <| Zv (ya rfl) <| Zv (ya rfl) <| Znl <| Znx <| Zrt ?_
    rotate_left
    refine fun a_1 => Zq <| Zv (ym rfl) <| Zv (yx rfl rfl) <| Zv (yx rfl rfl) <| Zv (ya rfl) <| Zv (ya rfl) <| Znl <| Znx <| Zsq ?_
    refine Zsr <| Zv (ym rfl) <| Zv (yne rfl rfl) <| Znl <| Znx <| Zct rfl <| Zsr <| Zv (ya rfl) <| Zv (ya rfl) <| Znl ?_
    refine Znx <| Zrt <| Zr1 ?_
    rotate_left
    · refine Zre (.t rfl (.t rfl .n)) (hS.1 (by unfold Wld.ok; rw [a, a_1]; rfl) _ _) [0,0,0] 1 rfl rfl rfl rfl
    · refine Zre (.t rfl (.t rfl .n)) (hS.2 (by unfold Wld.ok; rw [a, a_1]; rfl)) [1] 2 rfl rfl rfl rfl
structure Wld.Few (x : Wld) (n : Nat) : Prop where
  b : x.bs.length ≤ 128
  n : n ≤ 200
theorem c8 (c : Ck) (x : Wld) (h : x.In c) (C : Option Addr) (capc n : Nat) : Sp Tryz.prog 8 [.agg x.cells.toArray, .slice C n capc] [c] fun K => K (.returned (.bool true)) [c] ∧ (x.Few n → K (.returned (.bool false)) [c]) := by
  have hRc := h.cds.r
  refine Zen Tryz.func8 rfl rfl rfl fun e X Φ hS => Zsr <| Ze (ebx rfl) fun b2 => Zw <| Zv (ya rfl) <| Znl <| Znx <| Zsr <| Zv (ya rfl) <| Znl <| Znx ?_
  refine Zsq <| Zsr <| Zv (ya rfl) <| Znl <| Znx <| Zbl ?_
  refine Zlq (ι := { p : Nat × Int // p.1 ≤ x.l.length ∧ p.1 ≤ 8 }) (fun p => [(6, .int .i64 (p.1.1 : Int)), (5, .int .i64 p.1.2), (2, .pointer (some ⟨b2, 0, none⟩)), (1, .slice C n capc)]) (fun _ => [.blk b2 25 x.cells, c]) (fun p => 8 - p.1.1) ⟨(0, 0), Nat.zero_le _, Nat.zero_le _⟩ ⟨rfl, rfl, rfl, rfl, trivial⟩ [0, 0] rfl fun p => Zsq <| Zsr <| Zv (ym rfl) <| Zv (yf 0 rfl) <| Zv (yd 0 rfl rfl rfl) <| Zv (sl_of ⟨_, Tryz.underlying22⟩ rfl) <| Zv (ylt rfl rfl) <| Zv (ym rfl) <| Zgs rfl rfl (fun h12 => ?_) (fun h12 => ?_)
  refine Zg' rfl rfl (decide_eq_true h12) <| Zv (ym rfl) <| Zg' rfl rfl (decide_eq_true h12) <| Zv (ylt rfl rfl) <| Zv (ypt' rfl (decide_eq_true h12) rfl) <| Znl <| Znx <| Zif rfl (fun h15 => ?_) (fun h15 => ?_)
  refine Zsk <| Znx <| Zsq <| Zbl <| Zsr <| Zv (ym rfl) <| Zv (yf 0 rfl) <| Zv (yd 0 rfl rfl rfl) <| Zv (ym rfl) <| Zv (yea 1 hRc rfl rfl rfl (by first | assumption | omega) rfl Tryz.underlying22 rfl) ?_
  refine Zv (yec (m := 0) 1 hRc rfl (gE (by first | assumption | omega)) rfl rfl rfl) <| Zv (sl_of ⟨_, Tryz.underlying62⟩ rfl) <| Zv (yadd rfl rfl rfl) <| Zv (ya rfl) <| Znl <| Znx <| Zsr <| Zv (ym rfl) <| Zv (ygt rfl rfl) <| Znl ?_
  refine Znx <| Zif rfl (fun h27 => ?_) (fun h27 => ?_)
  refine Zsr <| Zv (ya rfl) <| Znl <| Znx <| Zrt <| Zr2 <| Zr1 <| Zr1 <| Zr2 <| Zr1 ?_
  rotate_left
  refine Zsk <| Zxn <| Znx <| Zrg <| Zv (ym rfl) <| Zv (yadd rfl rfl (i64w rfl (by omega))) <| Zv (ya rfl) <| Znl ?_
  rotate_left
  refine Zex <| Zxt <| Zxt <| Zxx <| Znx <| Zsr <| Zv (yf 1 rfl) <| Zv (yd 0 rfl rfl rfl) <| Zv (sl_of ⟨_, Tryz.underlying23⟩ rfl) <| Zv (ygt rfl rfl) ?_
  refine Zv (ym rfl) <| Zgs rfl rfl (fun h32 => ?_) (fun h32 => ?_)
  refine Zu' rfl rfl (decide_eq_true h32) rfl <| Zu' rfl rfl (decide_eq_true h32) rfl <| Zu' rfl rfl (decide_eq_true h32) rfl <| Zv (ypt' rfl (decide_eq_true h32) rfl) <| Zv (ya rfl) <| Znl <| Znx <| Zrt ?_
  rotate_left
  refine Zg' rfl rfl (decide_eq_false h32) <| Zv (ym rfl) <| Zg' rfl rfl (decide_eq_false h32) <| Zv (sl_of ⟨_, Tryz.underlying26⟩ rfl) <| Zg' rfl rfl (decide_eq_false h32) <| Zv (ygt rfl rfl) <| Zv (ypf' rfl (decide_eq_false h32) rfl) <| Zv (ya rfl) <| Znl <| Znx ?_
  refine Zrt ?_
  rotate_left
  refine Zu' rfl rfl (decide_eq_false h12) rfl <| Zu' rfl rfl (decide_eq_false h12) rfl <| Zv (ypf' rfl (decide_eq_false h12) rfl) <| Znl <| Znx <| Zcf rfl <| Zex <| Zxt <| Zxt <| Zxx ?_
  refine Znx <| Zsr <| Zv (yf 1 rfl) <| Zv (yd 0 rfl rfl rfl) <| Zv (sl_of ⟨_, Tryz.underlying23⟩ rfl) <| Zv (ygt rfl rfl) <| Zv (ym rfl) <| Zgs rfl rfl (fun h32 => ?_) (fun h32 => ?_)
  refine Zu' rfl rfl (decide_eq_true h32) rfl <| Zu' rfl rfl (decide_eq_true h32) rfl <| Zu' rfl rfl (decide_eq_true h32) rfl <| Zv (ypt' rfl (decide_eq_true h32) rfl) <| Zv (ya rfl) <| Znl <| Znx <| Zrt ?_
  rotate_left
  refine Zg' rfl rfl (decide_eq_false h32) <| Zv (ym rfl) <| Zg' rfl rfl (decide_eq_false h32) <| Zv (sl_of ⟨_, Tryz.underlying26⟩ rfl) <| Zg' rfl rfl (decide_eq_false h32) <| Zv (ygt rfl rfl) <| Zv (ypf' rfl (decide_eq_false h32) rfl) <| Zv (ya rfl) <| Znl <| Znx ?_
  refine Zrt ?_
  rotate_left
  · refine Zre (.t rfl .n) hS.1 [1] 1 rfl rfl rfl rfl
  · refine Zlr ⟨(p.1.1 + 1, _), by show p.1.1 + 1 ≤ _ ∧ p.1.1 + 1 ≤ 8; omega⟩ (by show 8 - (p.1.1 + 1) < 8 - p.1.1; omega) ⟨rfl, rfl, rfl, rfl, trivial⟩ [0, 0] 0 rfl rfl
  · refine Zre (.t rfl .n) hS.1 [1] 1 rfl rfl rfl rfl
  · by_cases hn : (200 : Int) < n
    · rw [decide_eq_true hn]
      refine Zre (.t rfl .n) hS.1 [1] 1 rfl rfl rfl rfl
    · rw [decide_eq_false hn]
      refine Zre (.t rfl .n) (hS.2 ⟨by omega, by omega⟩) [1] 1 rfl rfl rfl rfl
  · refine Zre (.t rfl .n) hS.1 [1] 1 rfl rfl rfl rfl
  · by_cases hn : (200 : Int) < n
    · rw [decide_eq_true hn]
      refine Zre (.t rfl .n) hS.1 [1] 1 rfl rfl rfl rfl
    · rw [decide_eq_false hn]
      refine Zre (.t rfl .n) (hS.2 ⟨by omega, by omega⟩) [1] 1 rfl rfl rfl rfl
end Go.Proofs.YtpfijldkkfiooaaGreatDoor
namespace Go.Proofs.YtpfijldkkfiooaaGreatDoor
open Go
theorem foldl_snd : ∀ (l : List Cho) (m : MD) (s : List Did), l.foldl runF (m, s) = ((l.foldl runF (m, [])).1, s ++ (l.foldl runF (m, [])).2)
  | [], m, s => by simp
  | x :: l, m, s => by
    simp only [List.foldl_cons]
    rw [show runF (m, s) x = ((runF (m, []) x).1, s ++ (runF (m, []) x).2) by
      unfold runF
      dsimp only
      split <;> simp]
    rw [foldl_snd l (runF (m, []) x).1 (s ++ _), show runF (m, []) x = ((runF (m, []) x).1, (runF (m, []) x).2) from rfl, foldl_snd l (runF (m, []) x).1 (runF (m, []) x).2]
    simp
theorem run_app (m : MD) (a b : List Cho) : runM m (a ++ b) = ((runM (runM m a).1 b).1, (runM m a).2 ++ (runM (runM m a).1 b).2) := by
  unfold runM
  rw [List.foldl_append]
  exact foldl_snd b _ _
theorem newM_in {cs : List (List Int)} {bs : List Int} {sets ways : Int} (h : newOk cs sets ways = true) : (newM cs bs sets ways).In ∧ (newM cs bs sets ways).C.length ≤ 4 := by
  unfold newOk at h
  simp only [Bool.and_eq_true, decide_eq_true_eq] at h
  have h1 := h.1.1.1
  have h4 := h.1.1.2
  have hC : (newM cs bs sets ways).C.length = cs.length := by simp [newM]
  refine ⟨⟨fun i d hd => ?_, by simp [newM, cachesF], by omega, fun y hy => (by cases hy), fun i => ?_⟩, by omega⟩
  · have hd : ((List.range cs.length).map fun i => newD (i : Nat) sets.toNat ways)[i]? = some d := hd
    rw [List.getElem?_map] at hd
    cases hr : (List.range cs.length)[i]? with
    | none => rw [hr] at hd; cases hd
    | some j =>
      rw [hr] at hd
      obtain ⟨_, hj⟩ := List.getElem?_eq_some_iff.1 hr
      rw [List.getElem_range] at hj
      subst hj
      cases hd
      rfl
  · show EnIn _ (entOf (List.replicate _ ent0) i)
    rw [ent_rep]
    exact en0 (by omega)
end Go.Proofs.YtpfijldkkfiooaaGreatDoor
namespace Go.Proofs.YtpfijldkkfiooaaGreatDoor
open Go
set_option maxRecDepth 4000
theorem c77 (c : Ck) (A : Option Addr) (cap b1 : Nat) (l : List Int) (hR : Rd u8E c A cap l) (hl : l.length = 4) (hr : ∀ a ∈ l, 0 ≤ a ∧ a < 256) : Sp Tryz.prog 77 [.slice A l.length cap, .pointer (some ⟨b1, 0, none⟩)] [.blk b1 40 [.int .u32 0], c] fun K => K (.returned (.tuple #[])) [.blk b1 40 [.int .u32 (rdR l 0 l.length)], c] := by
  refine Zen Tryz.func77 rfl rfl rfl fun e X Φ hS => Zsr <| Zv (ym rfl) <| Zv (sl_of ⟨_, Tryz.underlying23⟩ rfl) <| Zv (ym rfl) <| Znl <| Znx <| Zbl ?_
  refine Zlq (ι := { i : Nat // i ≤ l.length }) (fun i => [(7, .int .i64 (i.1 : Int)), (6, .int .i64 (l.length : Int)), (5, .slice A l.length cap), (1, .pointer (some ⟨b1, 0, none⟩))]) (fun i => [.blk b1 40 [.int .u32 (rdR l 0 i.1)], c]) (fun i => l.length - i.1) ⟨0, by omega⟩ ⟨rfl, rfl, rfl, rfl, trivial⟩ [0, 0] rfl fun i => Zsr <| Zv (ylt rfl rfl) <| Znl <| Znx <| Zsq <| Zif rfl (fun h8 => ?_) (fun h8 => ?_)
  refine Zsk <| Znx <| Zsq <| Zbl <| Zsr <| Zv (ym rfl) <| Zv (yea 1 hR rfl rfl rfl (by first | assumption | omega) rfl Tryz.underlying23 rfl) <| Zv (yec (m := 0) 1 hR rfl (gE (by first | assumption | omega)) rfl rfl rfl) <| Zv (ya rfl) <| Zv (ya rfl) ?_
  refine Znl <| Znx <| Zhe 7 rfl <| Zht 0 rfl (yd 0 rfl rfl rfl) <| Zht 1 rfl (ym rfl) <| Zht 2 rfl (ycv Tryz.underlying5 Tryz.underlying40 rfl rfl) <| Zht 3 rfl (ym rfl) <| Zht 4 rfl (ymul rfl rfl (i64w rfl (by omega))) <| Zht 5 rfl (yshl rfl rfl (by omega) rfl) <| Zht 6 rfl (yor rfl rfl rfl) ?_
  refine Zhn (by kernel_rfl) <| Ztl rfl <| Zte (es 0 rfl rfl rfl rfl rfl) <| Ztw <| Ztn <| Zxn <| Znx <| Zrg <| Zv (yadd rfl rfl (i64w rfl (by omega))) <| Zv (ym rfl) <| Znl ?_
  rotate_left
  refine Zex <| Zxt <| Zxt <| Zxx <| Zee ?_
  rotate_left
  · have hb := hr _ (List.getElem_mem (show i.1 < l.length by omega))
    have e1 : l.getD (0 + i.1) 0 = l[i.1] := by simp [List.getD, show i.1 < l.length by omega]
    rw [← e1] at hb ⊢
    have e2 : IntKind.u32.wrap (l.getD (0 + i.1) 0) = l.getD (0 + i.1) 0 := u32w rfl (by omega)
    have e3 : min (8 * (i.1 : Int)).toNat IntKind.u32.bits = min (8 * i.1) 32 := by
      rw [show (8 * (i.1 : Int)).toNat = 8 * i.1 by omega]
      rfl
    rw [e2, e3, show IntKind.u32.wrap ((BitVec.ofInt IntKind.u32.bits (rdR l 0 i.1) ||| BitVec.ofInt IntKind.u32.bits (IntKind.u32.wrap (l.getD (0 + i.1) 0 * 2 ^ min (8 * i.1) 32))).toNat : Int) = rdR l 0 (i.1 + 1) from rfl]
    refine Zlr ⟨i.1 + 1, by omega⟩ (by show l.length - (i.1 + 1) < l.length - i.1; omega) ⟨rfl, rfl, rfl, rfl, trivial⟩ [0, 0] 0 rfl rfl
  · have hi : i.1 = l.length := by have := i.2; omega
    rw [hi]
    refine Zre .n hS [0,0] 0 rfl rfl rfl rfl
theorem c76 (b b1 : Nat) (l : List Int) (hl : 16 ≤ l.length) (hl2 : l.length ≤ 1048576) (hr : ∀ a ∈ l, 0 ≤ a ∧ a < 256) : Sp Tryz.prog 76 [.pointer (some ⟨b, 0, none⟩), .int .u32 0, .int .i64 4, .func (.func 77) #[] #[.pointer (some ⟨b1, 0, none⟩)]] [.hp (imgC b l), .blk b1 40 [.int .u32 0]] fun K => K (.returned (.int .i64 0)) [.hp (imgC b l), .blk b1 40 [.int .u32 (rdR (l.take 4) 0 4)]] := by
  have hl4 : ((l.take 4).drop 0).length = 4 := by simp; omega
  have hr4 : ∀ a ∈ (l.take 4).drop 0, 0 ≤ a ∧ a < 256 := fun a ha => hr a (List.mem_of_mem_take (List.mem_of_mem_drop ha))
  refine Zen Tryz.func76 rfl rfl rfl fun e X Φ hS => Zsr <| Zv (ya rfl) <| Znl <| Znx <| Zsr <| Ze (emk .i64) fun r11 => Zw <| Ze (ein 0 rfl rfl rfl rfl rfl rfl Tryz.underlying241 Tryz.underlying3) <| Zw0 <| Ze (ein 0 rfl rfl rfl rfl rfl rfl Tryz.underlying241 Tryz.underlying3) <| Zw0 <| Ze (ein 0 rfl rfl rfl rfl rfl rfl Tryz.underlying241 Tryz.underlying3) <| Zw0 ?_
  refine Zv (ym rfl) <| Zv (ya rfl) <| Znl <| Znx <| Zsq <| Zbl <| Zsr <| Zv (ym rfl) <| Zk (c57 ..) [1] rfl rfl <| Zq ?_
  refine Zv (ya rfl) <| Znl <| Znx <| Zcf rfl <| Zsr <| Zv (ym rfl) <| Zv (ym rfl) <| Zv (ylk 1 rfl rfl rfl Tryz.underlying241 Tryz.underlying3 zv4) <| Zv (ynot rfl) <| Zv (ya rfl) ?_
  refine Znl <| Znx <| Zcf rfl <| Zsr <| Zv (ym rfl) <| Zv (ym rfl) <| Zv (ycv Tryz.underlying3 Tryz.underlying40 rfl (u32w rfl (by omega))) <| Zv (yrem rfl rfl (by decide) rfl) <| Zv (yne rfl rfl) <| Zv (ya rfl) ?_
  refine Znl <| Znx <| Zcf rfl <| Zsr <| Zv (ym rfl) <| Zv (ym rfl) <| Zv (yn rfl) <| Zv (yf 0 rfl) ?_
  refine Zol 0 img_op rfl <| fun h0 g o cap hcp => Zv (yd 0 rfl rfl rfl) <| Zv (sl_of ⟨_, Tryz.underlying23⟩ rfl) <| Zv (ycv Tryz.underlying3 Tryz.underlying40 rfl (u32w rfl (by omega))) <| Zv (yge rfl rfl) <| Zv (ya rfl) <| Znl <| Znx <| Zcf' rfl (decide_eq_false (by omega)) <| Zsk ?_
  refine Zxn <| Znx <| Zsr <| Zv (ym rfl) <| Zv (ycv Tryz.underlying40 Tryz.underlying3 rfl (i64w rfl (by omega))) <| Zv (ya rfl) <| Znl <| Znx <| Zsr <| Zv (ym rfl) ?_
  refine Zv (ym rfl) <| Zv (yn rfl) <| Zv (yf 0 rfl) <| Zv (yd 0 rfl rfl rfl) <| Zv (ym rfl) <| Zv (ym rfl) <| Zv (ym rfl) <| Zv (yadd (s := 4) rfl rfl rfl) <| Zv (ym rfl) <| Zv (ym rfl) ?_
  refine Zv (yadd (s := 4) rfl rfl rfl) ?_
  refine Zv (yslf (i := 0) (j := 4) (m := 4) 1 Tryz.underlying23 rfl rfl rfl rfl (by omega) (by omega) (by omega) (n1 := 4) (c1 := 4) (by omega) (by omega)) ?_
  have hR4 := Rd.cut (i := 0) (j := 4) (own.rd (E := u8E) (A := some ⟨g, o, none⟩) (cap := cap) (l := l)) (by omega) (by omega)
  rw [show Value.slice (cutA (some ⟨g, o, none⟩) 4 0 1) 4 4 = .slice (cutA (some ⟨g, o, none⟩) 4 0 u8E.n) ((l.take 4).drop 0).length (4 - 0) by rw [hl4]; rfl]
  refine Zkv (c77 (.hp (own u8E (some ⟨g, o, none⟩) cap l)) (cutA (some ⟨g, o, none⟩) 4 0 u8E.n) (4 - 0) b1 ((l.take 4).drop 0) hR4 hl4 hr4) [3,1] rfl rfl rfl rfl <| Zq <| Znl <| Znx <| Zsr <| Zv (ya rfl) <| Znl <| Znx <| Zrt ?_
  rw [hl4, List.drop_zero]
  refine Zfx [2,1] (img_fold (b := b) (l := l) h0) rfl <| Zre (.t rfl .n) hS [0,0] 1 rfl rfl rfl rfl
theorem c34 (b : Nat) (l : List Int) (hl : 16 ≤ l.length) (hl2 : l.length ≤ 1048576) (hr : ∀ a ∈ l, 0 ≤ a ∧ a < 256) : Sp Tryz.prog 34 [.pointer (some ⟨b, 0, none⟩), .int .u32 0, .int .i64 4] [.hp (imgC b l)] fun K => K (.returned (.tuple #[.int .u32 (rdR (l.take 4) 0 4), .int .i64 0])) [.hp (imgC b l)] := by
  refine Zen Tryz.func34 rfl rfl rfl fun e X Φ hS => Zsr <| Zv (ya rfl) <| Zv (ya rfl) <| Znl <| Znx <| Zsr <| Ze (eal z40) fun b8 => Zw <| Ze (es 0 rfl rfl rfl rfl rfl) <| Zw0 <| Znl ?_
  refine Znx <| Zsr <| Zv (ym rfl) <| Zv (ym rfl) <| Zv (ym rfl) <| Zv (yfn rfl rfl) ?_
  refine Zk (c76 b b8 l hl hl2 hr) [1,0] rfl rfl <| Zq <| Zv (ya rfl) <| Znl <| Znx <| Zsr <| Zv (yd 1 rfl rfl rfl) <| Zv (ym rfl) <| Zv (ya rfl) <| Zv (ya rfl) ?_
  refine Znl <| Znx <| Zrt <| Zre (.t rfl (.t rfl .n)) hS [0] 1 rfl rfl rfl rfl
end Go.Proofs.YtpfijldkkfiooaaGreatDoor
namespace Go.Proofs.YtpfijldkkfiooaaGreatDoor
open Go
theorem zz4 {zz : Array Value} (h : zz.size = 4) : ∃ a b c d, zz = #[a, b, c, d] := by
  rcases zz with ⟨l⟩
  match l, h with
  | [a, b, c, d], _ => exact ⟨a, b, c, d, rfl⟩
section
variable {N : Nat × List Deferred} {T : Tb} {e : World} {L : List Ck} {x x0 x1 x2 x3 : Operand} {ty : TypeId} {pos : String} {af : Array Edge} {g : Option (Nat × Bool)} {dd : Option Nat}
theorem ebu4 {a b c d : Int} (h0 : evT T x0 = some (.int .u32 a)) (h1 : evT T x1 = some (.int .u32 b)) (h2 : evT T x2 = some (.int .u32 c)) (h3 : evT T x3 = some (.int .u32 d)) : Ef Tryz.prog N T e L ⟨dd, .buildSlice 62 4 #[(0, x0), (1, x1), (2, x2), (3, x3)], ty, pos, af, g⟩ fun K => ∀ A, K (some (.slice A 4 4)) (.hp (own u32E A 4 [a, b, c, d]) :: L) := fun ac w fr hp G kk => .inl (by
  obtain ⟨i, z, hi, hz, hsz, hby, hzc⟩ := elU32.info
  have hs1 : i.size = 1 := hsz
  refine ⟨.slice (some ⟨w.heap.size, 0, none⟩) 4 4, w.alloc (.cells #[.int .u32 a, .int .u32 b, .int .u32 c, .int .u32 d] 40), ?_, kk _ _ (hp.ownNew ((Only.refl _ w).alloc _) ⟨by simp, by decide, .inr ⟨_, 0, _, rfl, Go.heap_alloc_new w _, by simp [u32E, intE], by simp [u32E, intE]⟩⟩ inA_new)⟩
  have hfill : Instr.fill (fun q => some (q * i.size, i.size)) ((Array.range (4 * i.size)).map (z.cells[· % z.cells.size]!)) [(0, .int .u32 a), (1, .int .u32 b), (2, .int .u32 c), (3, .int .u32 d)] = some #[.int .u32 a, .int .u32 b, .int .u32 c, .int .u32 d] := by
    rw [hs1]
    generalize hzz : (Array.range (4 * 1)).map (z.cells[· % z.cells.size]!) = zz
    obtain ⟨_, _, _, _, rfl⟩ := zz4 (zz := zz) (by rw [← hzz]; simp)
    rfl
  have := run_buildSlice (P := Tryz.prog) w 62 40 4 #[(0, .int .u32 a), (1, .int .u32 b), (2, .int .u32 c), (3, .int .u32 d)] #[.int .u32 a, .int .u32 b, .int .u32 c, .int .u32 d] i z elU32.ty hi hz (by rw [hs1]; omega) (by rw [hs1]; omega) hfill
  simp [execOp, fr.evT h0, fr.evT h1, fr.evT h2, fr.evT h3, this])
theorem elSl : ElemI slE 22 24 := ⟨Tryz.underlying22, by
  obtain ⟨i0, hi, hz0, hz1, hz2⟩ := info_parts (show (Tryz.prog.info? 62).map (fun i => (i.zero, i.size, i.bytes)) = some (some (.slice none 0 0), 1, 24) by kernel_rfl)
  exact ⟨i0, _, hi, hz0, hz1, hz2, rfl⟩⟩
theorem ebsl {k : Option Addr × Nat × List Int} (h : evT T x = some (.slice k.1 k.2.2.length k.2.1)) : Ef Tryz.prog N T e L ⟨dd, .buildSlice 22 1 #[(0, x)], ty, pos, af, g⟩ fun K => ∀ A, K (some (.slice A 1 1)) (.hp (own slE A 1 [k]) :: L) := fun a w fr hp G kk => .inl (by
  obtain ⟨i, z, hi, hz, hsz, hby, hzc⟩ := elSl.info
  have hs1 : i.size = 1 := hsz
  refine ⟨.slice (some ⟨w.heap.size, 0, none⟩) 1 1, w.alloc (.cells #[.slice k.1 k.2.2.length k.2.1] 62), ?_, kk _ _ (hp.ownNew ((Only.refl _ w).alloc _) ⟨by simp, by decide, .inr ⟨_, 0, _, rfl, Go.heap_alloc_new w _, by simp [slE], by simp [slE]⟩⟩ inA_new)⟩
  have hfill : Instr.fill (fun q => some (q * i.size, i.size)) ((Array.range (1 * i.size)).map (z.cells[· % z.cells.size]!)) [(0, .slice k.1 k.2.2.length k.2.1)] = some #[.slice k.1 k.2.2.length k.2.1] := by
    rw [hs1]
    generalize hzz : (Array.range (1 * 1)).map (z.cells[· % z.cells.size]!) = zz
    have hz1 : zz.size = 1 := by rw [← hzz]; simp
    rcases zz with ⟨_ | ⟨v0, _ | ⟨v1, l⟩⟩⟩
    · exact absurd hz1 (by simp)
    · rfl
    · exact absurd hz1 (by simp)
  have := run_buildSlice (P := Tryz.prog) w 22 62 1 #[(0, .slice k.1 k.2.2.length k.2.1)] #[.slice k.1 k.2.2.length k.2.1] i z elSl.ty hi hz (by rw [hs1]; omega) (by rw [hs1]; omega) hfill
  simp [execOp, fr.evT h, this])
theorem elCho : ElemI choE 26 24 := ⟨Tryz.underlying26, by
  obtain ⟨i0, hi, hz0, hz1, hz2⟩ := info_parts (show (Tryz.prog.info? 71).map (fun i => (i.zero, i.size, i.bytes)) = some (some (.agg (choE.arr cho0)), 3, 24) by kernel_rfl)
  exact ⟨i0, _, hi, hz0, hz1, hz2, by rw [show (Value.agg (choE.arr cho0)).cells = choE.arr cho0 from rfl, choE.size]⟩⟩
def pl7 : List (Nat × Nat) := [(0, 3), (3, 3), (6, 3), (9, 3), (12, 3), (15, 3), (18, 3)]
theorem pl7_at {i : Nat} {p : Nat × Nat} (h : nth pl7 i = some p) : some (i * 3, 3) = some p := by
  match i, h with
  | 0, h => exact h
  | 1, h => exact h
  | 2, h => exact h
  | 3, h => exact h
  | 4, h => exact h
  | 5, h => exact h
  | 6, h => exact h
theorem zz21 {zz : Array Value} (h : zz.size = 21) : ∃ a0 a1 a2 a3 a4 a5 a6 a7 a8 a9 a10 a11 a12 a13 a14 a15 a16 a17 a18 a19 a20, zz = #[a0, a1, a2, a3, a4, a5, a6, a7, a8, a9, a10, a11, a12, a13, a14, a15, a16, a17, a18, a19, a20] := by
  rcases zz with ⟨l⟩
  match l, h with
  | [a0, a1, a2, a3, a4, a5, a6, a7, a8, a9, a10, a11, a12, a13, a14, a15, a16, a17, a18, a19, a20], _ => exact ⟨a0, a1, a2, a3, a4, a5, a6, a7, a8, a9, a10, a11, a12, a13, a14, a15, a16, a17, a18, a19, a20, rfl⟩
set_option maxRecDepth 20000 in
theorem ebc7 {x4 x5 x6 : Operand} {c0 c1 c2 c3 c4 c5 c6 : Cho} (h0 : evT T x0 = some (.agg (choE.arr c0))) (h1 : evT T x1 = some (.agg (choE.arr c1))) (h2 : evT T x2 = some (.agg (choE.arr c2))) (h3 : evT T x3 = some (.agg (choE.arr c3))) (h4 : evT T x4 = some (.agg (choE.arr c4))) (h5 : evT T x5 = some (.agg (choE.arr c5))) (h6 : evT T x6 = some (.agg (choE.arr c6))) : Ef Tryz.prog N T e L ⟨dd, .buildSlice 26 7 #[(0, x0), (1, x1), (2, x2), (3, x3), (4, x4), (5, x5), (6, x6)], ty, pos, af, g⟩ fun K => ∀ A, K (some (.slice A 7 7)) (.hp (own choE A 7 [c0, c1, c2, c3, c4, c5, c6]) :: L) := fun ac w fr hp G kk => .inl (by
  obtain ⟨i, z, hi, hz, hsz, hby, hzc⟩ := elCho.info
  have hs1 : i.size = 3 := hsz
  refine ⟨.slice (some ⟨w.heap.size, 0, none⟩) 7 7, w.alloc (.cells #[.int .i64 c0.kind, .int .i64 c0.hart, .int .i64 c0.pick, .int .i64 c1.kind, .int .i64 c1.hart, .int .i64 c1.pick, .int .i64 c2.kind, .int .i64 c2.hart, .int .i64 c2.pick, .int .i64 c3.kind, .int .i64 c3.hart, .int .i64 c3.pick, .int .i64 c4.kind, .int .i64 c4.hart, .int .i64 c4.pick, .int .i64 c5.kind, .int .i64 c5.hart, .int .i64 c5.pick, .int .i64 c6.kind, .int .i64 c6.hart, .int .i64 c6.pick] 71), ?_, kk _ _ (hp.ownNew ((Only.refl _ w).alloc _) ⟨by simp, by decide, .inr ⟨_, 0, _, rfl, Go.heap_alloc_new w _, by simp [choE], by simp [choE, Cho.cells]⟩⟩ inA_new)⟩
  have hfill : Instr.fill (fun q => some (q * i.size, i.size)) ((Array.range (7 * i.size)).map (z.cells[· % z.cells.size]!)) [(0, .agg (choE.arr c0)), (1, .agg (choE.arr c1)), (2, .agg (choE.arr c2)), (3, .agg (choE.arr c3)), (4, .agg (choE.arr c4)), (5, .agg (choE.arr c5)), (6, .agg (choE.arr c6))] = some #[.int .i64 c0.kind, .int .i64 c0.hart, .int .i64 c0.pick, .int .i64 c1.kind, .int .i64 c1.hart, .int .i64 c1.pick, .int .i64 c2.kind, .int .i64 c2.hart, .int .i64 c2.pick, .int .i64 c3.kind, .int .i64 c3.hart, .int .i64 c3.pick, .int .i64 c4.kind, .int .i64 c4.hart, .int .i64 c4.pick, .int .i64 c5.kind, .int .i64 c5.hart, .int .i64 c5.pick, .int .i64 c6.kind, .int .i64 c6.hart, .int .i64 c6.pick] := by
    rw [hs1]
    generalize hzz : (Array.range (7 * 3)).map (z.cells[· % z.cells.size]!) = zz
    obtain ⟨_, _, _, _, _, _, _, _, _, _, _, _, _, _, _, _, _, _, _, _, _, rfl⟩ := zz21 (zz := zz) (by rw [← hzz]; simp)
    exact fill_bl pl7 _ (fun i p hp => pl7_at hp) _ _ (by repeat' first | exact trivial | exact rfl | constructor)
  have := run_buildSlice (P := Tryz.prog) w 26 71 7 #[(0, .agg (choE.arr c0)), (1, .agg (choE.arr c1)), (2, .agg (choE.arr c2)), (3, .agg (choE.arr c3)), (4, .agg (choE.arr c4)), (5, .agg (choE.arr c5)), (6, .agg (choE.arr c6))] #[.int .i64 c0.kind, .int .i64 c0.hart, .int .i64 c0.pick, .int .i64 c1.kind, .int .i64 c1.hart, .int .i64 c1.pick, .int .i64 c2.kind, .int .i64 c2.hart, .int .i64 c2.pick, .int .i64 c3.kind, .int .i64 c3.hart, .int .i64 c3.pick, .int .i64 c4.kind, .int .i64 c4.hart, .int .i64 c4.pick, .int .i64 c5.kind, .int .i64 c5.hart, .int .i64 c5.pick, .int .i64 c6.kind, .int .i64 c6.hart, .int .i64 c6.pick] i z elCho.ty hi hz (by rw [hs1]; omega) (by rw [hs1]; omega) hfill
  simp [execOp, fr.evT h0, fr.evT h1, fr.evT h2, fr.evT h3, fr.evT h4, fr.evT h5, fr.evT h6, this])
end
end Go.Proofs.YtpfijldkkfiooaaGreatDoor
namespace Go.Proofs.YtpfijldkkfiooaaGreatDoor
open Go
set_option maxRecDepth 4000
abbrev code1 : List Int := [5243027, 1056803, 8451, 115]
def world1 (A A2 B : Option Addr) : Wld := ⟨A, 1, [(A2, 4, code1)], B, 16, List.replicate 16 0, 1, 1⟩
def world1P (A A2 B : Option Addr) : HP := Sep [.hp (own slE A 1 [(A2, 4, code1)]), .hp (own u32E A2 4 code1), .hp (own u8E B 16 (List.replicate 16 0))]
theorem sep_rd {α : Type} [DecidableEq α] {E : Enc Tryz.prog α} {A : Option Addr} {cap : Nat} {l : List α} {L : List Ck} {i : Nat} (h : nth L i = some (.hp (own E A cap l))) : Rd E (.hp (Sep L)) A cap l := fun g hc w hl => by
  obtain ⟨h1, e1, ho⟩ := Sep.nth h hc
  exact (own.at_ ho (e1.tr hl)).view
theorem world1_in (A A2 B : Option Addr) (hA2 : A2 ≠ none) : (world1 A A2 B).In (.hp (world1P A A2 B)) where
  cds := ⟨sep_rd (i := 0) rfl, fun x hx => by
    rw [show (world1 A A2 B).l = [(A2, 4, code1)] from rfl, List.mem_singleton] at hx
    subst hx
    exact fun _ => sep_rd (i := 1) rfl, fun x hx h0 => by
    rw [show (world1 A A2 B).l = [(A2, 4, code1)] from rfl, List.mem_singleton] at hx
    subst hx
    exact absurd h0 (by show ¬ (4 = 0); omega), fun x hx hn => by
    rw [show (world1 A A2 B).l = [(A2, 4, code1)] from rfl, List.mem_singleton] at hx
    subst hx
    exact absurd hn hA2, fun x hx => by
    rw [show (world1 A A2 B).l = [(A2, 4, code1)] from rfl, List.mem_singleton] at hx
    subst hx
    intro a ha
    simp only [code1, List.mem_cons, List.not_mem_nil, or_false] at ha
    rcases ha with rfl | rfl | rfl | rfl <;> (unfold U32; omega)⟩
  b := sep_rd (i := 2) rfl
  r := fun a ha => by
    rw [List.eq_of_mem_replicate ha]
    decide
theorem world1_ok (A A2 B : Option Addr) : (world1 A A2 B).ok = true := by
  show (!szF (((List.replicate 16 (0 : Int)).length : Nat) : Int) && newOk [code1] 1 1) = true
  decide +kernel
def m1 : MD := newM [code1] (List.replicate 16 0) 1 1
theorem c33 : Sp Tryz.prog 33 [] [] fun K => ∀ b, K (.returned (.pointer (some ⟨b, 0, none⟩))) [.hp (machC 0 b m1)] := by
  refine Zen Tryz.func33 rfl rfl rfl fun e X Φ hS => Zsr <| Zv (ya rfl) <| Znl <| Znx <| Zsr ?_
  refine Ze (ebu4 rfl rfl rfl rfl) <| fun A2 => Zw ?_
  refine Zol 0 own_len rfl <| fun hA2 _ _ => ?_
  have hA2 : A2 ≠ none := fun e => by have := (hA2 e).1; cases this
  refine Ze (ebsl (k := (A2, 4, code1)) rfl) <| fun A => Zw ?_
  refine Ze (emks (n := 16) elU8 rfl rfl (by omega) (by decide)) <| fun B => Zw <| Zv (yb l25 rfl) ?_
  refine Zfl [1,1,0] (show ∀ h, Sep [.hp (own slE A 1 [(A2, 4, code1)]), .hp (own u32E A2 4 code1), .hp (own u8E B 16 (List.replicate 16 0))] h → world1P A A2 B h from fun _ hs => hs) rfl ?_
  refine Zk (c7 (.hp (world1P A A2 B)) (world1 A A2 B) (world1_in A A2 B hA2)) [0] rfl rfl <| ⟨?_, ?_⟩
  refine fun a => fun b => fun bi => Zq <| Zv (ym rfl) <| Zv (yx rfl rfl) <| Zv (yx rfl rfl) <| Zv (ya rfl) <| Zv (ya rfl) <| Znl ?_
  refine Znx <| Zsr <| Zv (ym rfl) <| Zv (ya rfl) <| Znl <| Znx <| Zrt <| Zre (.t rfl .n) (hS _) [0] 2 rfl rfl rfl rfl
  refine fun a => Zq <| Zv (ym rfl) <| Zv (yx rfl rfl) <| Zv (yx rfl rfl) <| Zv (ya rfl) <| Zv (ya rfl) <| Znl <| Znx <| Zsr ?_
  refine Zv (ym rfl) <| Zv (ya rfl) <| Znl <| Znx <| Zrt ?_
  · rw [world1_ok] at a
    cases a
def l7 : List Cho := [⟨1, 0, 0⟩, ⟨1, 0, 0⟩, ⟨1, 0, 0⟩, ⟨2, 0, 0⟩, ⟨3, 0, 0⟩, ⟨3, 0, 0⟩, ⟨2, 0, 0⟩]
def r1 : MD × List Did := runM m1 l7
def alive1 : Bool := decide (r1.2.length = 4) && decide ((r1.2.getD 2 did0).com.value = 5) && decide ((r1.2.getD 3 did0).kind = 2) && decide (rdR ((memF r1.1).take 4) 0 4 = 5) && decide ((memF r1.1).length = 16) && (memF r1.1).all (fun a => decide (0 ≤ a) && decide (a < 256))
theorem alive1_yes : alive1 = true := by decide +kernel
end Go.Proofs.YtpfijldkkfiooaaGreatDoor
namespace Go.Proofs.YtpfijldkkfiooaaGreatDoor
open Go
set_option maxRecDepth 4000
theorem l7_in : ∀ x ∈ l7, ChoIn x := fun x hx => by
  simp only [l7, List.mem_cons, List.not_mem_nil, or_false] at hx
  rcases hx with rfl | rfl | rfl | rfl | rfl | rfl | rfl <;> exact ⟨by decide, by decide⟩
theorem l7_right : ∀ x ∈ l7, rightC x = true := by decide
theorem m1_in : m1.In ∧ m1.C.length ≤ 4 := newM_in (by decide +kernel)
theorem c9 : Sp Tryz.prog 9 [] [spC] fun K => K (.returned (.bool true)) [spC] := by
  have hal := alive1_yes
  unfold alive1 at hal
  simp only [Bool.and_eq_true, decide_eq_true_eq, List.all_eq_true] at hal
  obtain ⟨⟨⟨⟨⟨e1, e2⟩, e3⟩, e4⟩, e5⟩, e6⟩ := hal
  obtain ⟨hin, h4⟩ := m1_in
  refine Zen Tryz.func9 rfl rfl rfl fun e X Φ hS => Zsr <| Zv (ya rfl) <| Znl <| Znx <| Zsr <| Zk (c33 ..) [] rfl rfl <| fun b => Zq <| Zv (ya rfl) ?_
  refine Znl <| Znx <| Zsr <| Zv (ym rfl) <| Zv (yb l71 rfl) <| Zv (yb l71 rfl) <| Zv (yb l71 rfl) <| Zv (yb l71 rfl) <| Zv (yb l71 rfl) <| Zv (yb l71 rfl) ?_
  refine Zv (yb l71 rfl) ?_
  refine Ze (ebc7 (c0 := ⟨1, 0, 0⟩) (c1 := ⟨1, 0, 0⟩) (c2 := ⟨1, 0, 0⟩) (c3 := ⟨2, 0, 0⟩) (c4 := ⟨3, 0, 0⟩) (c5 := ⟨3, 0, 0⟩) (c6 := ⟨2, 0, 0⟩) rfl rfl rfl rfl rfl rfl rfl) <| fun A => Zw ?_
  rw [show [(⟨1, 0, 0⟩ : Cho), ⟨1, 0, 0⟩, ⟨1, 0, 0⟩, ⟨2, 0, 0⟩, ⟨3, 0, 0⟩, ⟨3, 0, 0⟩, ⟨2, 0, 0⟩] = l7 from rfl, show Value.slice A 7 7 = .slice A l7.length 7 from rfl]
  refine Zk (c10 0 b m1 (.hp (own choE A 7 l7)) A 7 l7 own.rd (by decide) l7_in hin h4) [1,1,0] rfl rfl <| ⟨?_, ?_⟩
  refine fun a => fun A' => fun cap' => Zq <| Zv (ym rfl) <| Zv (yx rfl rfl) <| Zv (yx rfl rfl) <| Zv (ya rfl) <| Zv (ya rfl) <| Znl ?_
  refine Znx <| Zsr <| Zv (ym rfl) ?_
  rotate_left
  refine fun a => Zq <| Zv (ym rfl) <| Zv (yx rfl rfl) <| Zv (yx rfl rfl) <| Zv (ya rfl) <| Zv (ya rfl) <| Znl <| Znx <| Zsr ?_
  refine Zv (ym rfl) ?_
  rotate_left
  · rw [show runM m1 l7 = r1 from rfl]
    generalize r1 = r at e1 e2 e3 e4 e5 e6 ⊢
    obtain ⟨rm, ds⟩ := r
    dsimp only at e1 e2 e3 e4 e5 e6 ⊢
    have h16 : 16 ≤ (memF rm).length := by omega
    have hlm : (memF rm).length ≤ 1048576 := by omega
    have g2 := gE (l := ds) (k := 2) (by omega)
    have g3 := gE (l := ds) (k := 3) (by omega)
    have f2 : ds[2].com.value = 5 := by rw [List.getD_eq_getElem?_getD, g2] at e2; exact e2
    have f3 : ds[3].kind = 2 := by rw [List.getD_eq_getElem?_getD, g3] at e3; exact e3
    refine Zk (c20 (0 + l7.length) b rm (by decide)) [1] rfl rfl <| fun b' => Zq ?_
    refine Zk (c34 b' (memF rm) h16 hlm e6) [0] rfl rfl <| Zq <| Zv (ym rfl) <| Zv (yx rfl rfl) <| Zv (yx rfl rfl) <| Zv (ya rfl) <| Zv (ya rfl) <| Znl <| Znx <| Zsr ?_
    refine Zv (ym rfl) <| Zv (yeq rfl rfl) <| Zv (ym rfl) <| Zg rfl rfl <| Zv (ym rfl) <| Zg rfl rfl <| Zv (yeq rfl rfl) <| Zv (ypt rfl rfl) <| Zv (ym rfl) <| Zg rfl rfl ?_
    refine Zv (ym rfl) <| Zg rfl rfl <| Zv (sl_of ⟨_, Tryz.underlying33⟩ rfl) <| Zg rfl rfl <| Zv (yeq rfl rfl) <| Zv (ypt rfl rfl) <| Zv (ym rfl) <| Zg' rfl rfl (decide_eq_true (by omega)) <| Zv (ym rfl) <| Zg' rfl rfl (decide_eq_true (by omega)) ?_
    refine Zv (yea (j := 2) 2 own.rd rfl rfl rfl (by first | assumption | omega) rfl Tryz.underlying33 rfl) <| Zg' rfl rfl (decide_eq_true (by omega)) <| Zv (yf 2 rfl) <| Zg' rfl rfl (decide_eq_true (by omega)) <| Zv (yf 12 rfl) <| Zg' rfl rfl (decide_eq_true (by omega)) ?_
    rw [e4]
    refine Zv (yec (m := 14) 2 own.rd rfl g2 rfl rfl (by omega)) <| Zg' rfl rfl (decide_eq_true (by omega)) <| Zv (yeq rfl rfl) <| Zv (ypt' rfl (decide_eq_true (by omega)) rfl) <| Zv (ym rfl) <| Zg' rfl rfl (decide_eq_true f2) <| Zv (ym rfl) <| Zg' rfl rfl (decide_eq_true f2) <| Zv (yea (j := 3) 2 own.rd rfl rfl rfl (by first | assumption | omega) rfl Tryz.underlying33 rfl) <| Zg' rfl rfl (decide_eq_true f2) ?_
    refine Zv (yf 0 rfl) <| Zg' rfl rfl (decide_eq_true f2) <| Zv (yec (m := 0) 2 own.rd rfl (by assumption) rfl rfl rfl) <| Zg' rfl rfl (decide_eq_true f2) <| Zv (yeq rfl rfl) <| Zv (ypt' rfl (decide_eq_true f2) rfl) <| Zv (ym rfl) <| Zg' rfl rfl (decide_eq_true f3) <| Zv (ym rfl) <| Zg' rfl rfl (decide_eq_true f3) ?_
    refine Zv (yeq rfl rfl) <| Zv (ypt' rfl (decide_eq_true f3) rfl) <| Zv (ya rfl) <| Znl <| Znx <| Zrt <| Zre (.t rfl .n) hS [3] 4 rfl rfl rfl rfl
  · exact absurd l7_right a
end Go.Proofs.YtpfijldkkfiooaaGreatDoor
