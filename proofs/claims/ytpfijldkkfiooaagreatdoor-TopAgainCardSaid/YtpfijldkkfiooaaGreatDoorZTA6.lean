/-
  Part 6 of what the claim stands on: walks through the code, plain laws.
-/
import Derived.Test.YtpfijldkkfiooaaGreatDoorZTA5
set_option linter.unusedVariables false
set_option linter.unusedSimpArgs false
namespace Go.Proofs.YtpfijldkkfiooaaGreatDoor
open Go
set_option maxRecDepth 4000
structure Arg (p q : HP) : Prop where
  op : ∀ h, p h → Sep [spC, .hp q] h
  fo : ∀ h, Sep [spC, .hp q] h → p h
theorem Arg.un {p q : HP} (a : Arg p q) {X : List Ck} {h : Hl} (hs : Sep (.hp p :: X) h) : Sep (spC :: .hp q :: X) h := (hs.hd (q := .hp (Sep [spC, .hp q])) a.op).flat
theorem Arg.re {p q : HP} (a : Arg p q) {X : List Ck} {h : Hl} (hs : Sep (spC :: .hp q :: X) h) : Sep (.hp p :: X) h := (Sep.unflat (L := [spC, .hp q]) hs).hd (q := .hp p) a.fo
theorem c9p {p q : HP} (a : Arg p q) : Sp Tryz.prog 9 [] [.hp p] fun K => K (.returned (.bool true)) [.hp p] := ⟨fun e X w Φ hp hS => c9.run e (.hp q :: X) w Φ (hp.imp fun _ hs => a.un hs) fun w' hw => hS w' (hw.imp fun _ hs => a.re hs)⟩
theorem c10p {p q : HP} (a : Arg p q) (k b : Nat) (m : MD) (A : Option Addr) (cap : Nat) (l : List Cho) (hR : Rd choE (.hp q) A cap l) (hl : k + l.length ≤ 1000) (hx : ∀ x ∈ l, ChoIn x) (hm : m.In) (h4 : m.C.length ≤ 4) : Sp Tryz.prog 10 [.pointer (some ⟨b, 0, none⟩), .slice A l.length cap] [.hp (machC k b m), .hp p] fun K => ((∀ x ∈ l, rightC x = true) → ∀ A' cap', K (.returned (.tuple #[.slice A' (runM m l).2.length cap', .int .i64 0])) [.hp (own didE A' cap' (runM m l).2), .hp (machC (k + l.length) b (runM m l).1), .hp p]) ∧ ((¬ ∀ x ∈ l, rightC x = true) → K (.returned (.tuple #[.slice none 0 0, .int .i64 2])) [.hp (machC k b m), .hp p]) := ⟨fun e X w Φ hp hS => (c10 k b m (.hp q) A cap l hR hl hx hm h4).run e X w Φ (hp.imp fun _ hs => hs.mapTl fun _ hs => a.un hs) ⟨fun h A' cap' w' hw => hS.1 h A' cap' w' (hw.imp fun _ hs => hs.mapTl fun _ hs => hs.mapTl fun _ hs => a.re hs), fun h w' hw => hS.2 h w' (hw.imp fun _ hs => hs.mapTl fun _ hs => a.re hs)⟩⟩
theorem c3 (p q : HP) (a : Arg p q) (x : Wld) (hx : x.In (.hp p)) (C : Option Addr) (capc : Nat) (ls : List Cho) (hR : Rd choE (.hp q) C capc ls) (hR2 : Rd choE (.hp p) C capc ls) (hl : ∀ y ∈ ls, ChoIn y) (hc1 : ls.length ≤ capc) (cut : Int) : Sp Tryz.prog 3 [.agg x.cells.toArray, .slice C ls.length capc, .int .i64 cut] [.hp p] fun K => K (.returned (.bool true)) [.hp p] := by
  refine Zen Tryz.func3 rfl rfl rfl fun e X Φ hS => Zsr <| Ze (ebx rfl) fun b3 => Zw <| Zv (ya rfl) <| Znl <| Znx <| Zsr <| Zv (ydw 0 (m := 4) rfl rfl rfl) ?_
  refine Zk (c7 (.hp p) x hx) [1] rfl rfl <| ⟨?_, ?_⟩
  refine fun a_1 => fun b => fun bi => Zq <| Zv (ym rfl) <| Zv (yx rfl rfl) <| Zv (yx rfl rfl) <| Zv (ya rfl) <| Zv (ya rfl) <| Znl ?_
  refine Znx <| Zsq <| Zsr <| Zv (ydw 3 (m := 4) rfl rfl rfl) <| Zv (ym rfl) ?_
  rotate_left
  refine fun a_1 => Zq <| Zv (ym rfl) <| Zv (yx rfl rfl) <| Zv (yx rfl rfl) <| Zv (ya rfl) <| Zv (ya rfl) <| Znl <| Znx <| Zsq ?_
  refine Zsr <| Zv (ydw 1 (m := 4) rfl rfl rfl) <| Zv (ym rfl) ?_
  rotate_left
  · refine Zk (c8 (.hp p) x hx C capc ls.length) [2] rfl rfl <| ⟨?_, ?_⟩
    refine Zq <| Zv (ym rfl) <| Zu rfl rfl rfl <| Zu rfl rfl rfl <| Zv (ypt rfl rfl) <| Zv (ym rfl) <| Zu rfl rfl rfl <| Zu rfl rfl rfl <| Zv (ypt rfl rfl) <| Zv (ym rfl) ?_
    refine Zu rfl rfl rfl <| Zu rfl rfl rfl <| Zu rfl rfl rfl <| Zu rfl rfl rfl <| Zv (ypt rfl rfl) <| Znl <| Znx <| Zct rfl <| Zsr ?_
    rotate_left
    refine fun a_2 => Zq <| Zv (ym rfl) <| Zg rfl rfl <| Zv (ym rfl) <| Zg rfl rfl <| Zv (ypeq rfl rfl rfl) <| Zv (ypf rfl rfl) <| Zv (ym rfl) <| Zg rfl rfl ?_
    refine Zv (ym rfl) <| Zg rfl rfl <| Zv (ylt rfl rfl) <| Zv (ypf rfl rfl) <| Zv (ym rfl) <| Zgs rfl rfl (fun h35 => ?_) (fun h35 => ?_)
    refine Zu' rfl rfl (decide_eq_true h35) rfl <| Zu' rfl rfl (decide_eq_true h35) rfl <| Zu' rfl rfl (decide_eq_true h35) rfl <| Zu' rfl rfl (decide_eq_true h35) rfl <| Zv (ypt' rfl (decide_eq_true h35) rfl) <| Znl <| Znx <| Zct rfl <| Zsr ?_
    rotate_left
    refine Zg' rfl rfl (decide_eq_false h35) <| Zv (ym rfl) <| Zg' rfl rfl (decide_eq_false h35) <| Zv (ym rfl) <| Zg' rfl rfl (decide_eq_false h35) <| Zv (sl_of ⟨_, Tryz.underlying26⟩ rfl) <| Zg' rfl rfl (decide_eq_false h35) <| Zv (ygt rfl rfl) <| Zv (ypf' rfl (decide_eq_false h35) rfl) <| Znl ?_
    refine Znx <| Zif rfl (fun h40 => ?_) (fun h40 => ?_)
    refine Zsr ?_
    rotate_left
    refine Zsk <| Znx <| Zsr <| Zv (ydw 3 (m := 4) rfl rfl rfl) ?_
    rotate_left
    · refine Zk (c9p a) [0] rfl rfl <| Zq <| Zv (ya rfl) <| Znl <| Znx <| Zrt <| Zr1 <| Zre (.t rfl .n) hS [0] 3 rfl rfl rfl rfl
    · refine Zk (c9p a) [0] rfl rfl <| Zq <| Zv (ya rfl) <| Znl <| Znx <| Zrt <| Zr1 <| Zre (.t rfl .n) hS [0] 3 rfl rfl rfl rfl
    · refine Zk (c9p a) [0] rfl rfl <| Zq <| Zv (ya rfl) <| Znl <| Znx <| Zrt <| Zr1 <| Zre (.t rfl .n) hS [0] 3 rfl rfl rfl rfl
    · obtain ⟨kc, hkc⟩ := Int.eq_ofNat_of_zero_le (Int.not_lt.1 h35)
      subst hkc
      have hkl : kc ≤ ls.length := by omega
      have hn2 := a_2.n
      obtain ⟨hin, hn4⟩ : x.m.In ∧ x.m.C.length ≤ 4 := newM_in (by unfold Wld.ok at a_1; simp only [Bool.and_eq_true] at a_1; exact a_1.2)
      refine Zk (c7 (.hp p) x hx) [0] rfl rfl <| ⟨?_, ?_⟩
      refine fun a_3 => fun b_1 => fun bi_1 => Zq <| Zv (ym rfl) <| Zv (yx rfl rfl) <| Zv (yx rfl rfl) <| Zv (ya rfl) <| Zv (ya rfl) <| Znl ?_
      refine Znx <| Zsr <| Zv (ym rfl) <| Zv (ym rfl) ?_
      rotate_left
      refine fun a_3 => Zq <| Zv (ym rfl) <| Zv (yx rfl rfl) <| Zv (yx rfl rfl) <| Zv (ya rfl) <| Zv (ya rfl) <| Znl <| Znx <| Zsr ?_
      refine Zv (ym rfl) <| Zv (ym rfl) ?_
      rotate_left
      · refine Zk (c10p a 0 b x.m C capc ls hR (by omega) hl hin hn4) [3,2] rfl rfl <| ⟨?_, ?_⟩
        refine fun a_4 => fun A' => fun cap' => Zq <| Zv (ym rfl) <| Zv (yx rfl rfl) <| Zv (yx rfl rfl) <| Zv (ya rfl) <| Zv (ya rfl) <| Znl ?_
        refine Znx <| Zsr <| Zv (ym rfl) <| Zv (ym rfl) <| Zv (ym rfl) ?_
        rotate_left
        refine fun a_4 => Zq <| Zv (ym rfl) <| Zv (yx rfl rfl) <| Zv (yx rfl rfl) <| Zv (ya rfl) <| Zv (ya rfl) <| Znl <| Znx <| Zsr ?_
        refine Zv (ym rfl) <| Zv (ym rfl) <| Zv (ym rfl) ?_
        rotate_left
        · refine Zv (ysto 3 Tryz.underlying26 rfl rfl (by omega)) ?_
          have hR1 := hR.pre kc
          have hR3 := hR.from_ hkl
          have hl1 : (ls.take kc).length = kc := by rw [List.length_take]; omega
          have hl3 : (ls.drop kc).length = ls.length - kc := by rw [List.length_drop]
          rw [show Value.slice C kc capc = .slice C (ls.take kc).length capc by rw [hl1]]
          refine Zk (c10p a 0 b_1 x.m C capc (ls.take kc) hR1 (by omega) (fun y hy => hl y (List.mem_of_mem_take hy)) hin hn4) [3,2] rfl rfl <| ⟨?_, ?_⟩
          refine fun a_5 => fun A'_1 => fun cap'_1 => Zq <| Zv (ym rfl) <| Zv (yx rfl rfl) <| Zv (yx rfl rfl) <| Zv (ya rfl) <| Zv (ya rfl) <| Znl ?_
          refine Znx <| Zsr <| Zv (ym rfl) ?_
          rotate_left
          refine fun a_5 => Zq <| Zv (ym rfl) <| Zv (yx rfl rfl) <| Zv (yx rfl rfl) <| Zv (ya rfl) <| Zv (ya rfl) <| Znl <| Znx <| Zsr ?_
          refine Zv (ym rfl) ?_
          rotate_left
          · have hrun := run_app x.m (ls.take kc) (ls.drop kc)
            rw [List.take_append_drop] at hrun
            obtain ⟨hin1, hcl1⟩ := runs_in (l := ls.take kc) (s := (x.m, [])) hin hn4
            have hd1 := run_dl x.m (ls.take kc)
            have hd2 := run_dl (runM x.m (ls.take kc)).1 (ls.drop kc)
            have hn41 : (runM x.m (ls.take kc)).1.C.length ≤ 4 := Nat.le_trans (Nat.le_of_eq hcl1) hn4
            have hin1 : (runM x.m (ls.take kc)).1.In := hin1
            rw [hrun]
            generalize (runM x.m (ls.take kc)).2 = d1 at hd1 ⊢
            generalize (runM x.m (ls.take kc)).1 = m1 at hin1 hn41 hd2 ⊢
            generalize hdd : (runM m1 (ls.drop kc)).2 = d2 at hd2 ⊢
            refine Zk (c11 (0 + (ls.take kc).length) b_1 m1 (by omega)) [1] rfl rfl <| fun b' => Zq <| Zv (ya rfl) <| Znl <| Znx <| Zsq <| Zsr <| Zv (ym rfl) <| Zv (ypeq rfl rfl rfl) ?_
            refine Znl <| Znx <| Zcf rfl <| Zsk <| Znx <| Zsr <| Zv (ym rfl) <| Zv (ym rfl) <| Zv (ym rfl) ?_
            refine Zv (ysld 3 Tryz.underlying26 rfl rfl hkl) ?_
            rw [← hl3]
            refine Zk (c10p a (0 + (ls.take kc).length) b_1 m1 (cutA C capc kc choE.n) (capc - kc) (ls.drop kc) hR3 (by omega) (fun y hy => hl y (List.mem_of_mem_drop hy)) hin1 hn41) [1,2] rfl rfl <| ⟨?_, ?_⟩
            refine fun a_6 => fun A'_2 => fun cap'_2 => Zq <| Zv (ym rfl) <| Zv (yx rfl rfl) <| Zv (yx rfl rfl) <| Zv (ya rfl) <| Zv (ya rfl) <| Znl ?_
            refine Znx <| Zsr <| Zv (ym rfl) <| Zv (ym rfl) <| Zv (ym rfl) ?_
            rotate_left
            refine fun a_6 => Zq <| Zv (ym rfl) <| Zv (yx rfl rfl) <| Zv (yx rfl rfl) <| Zv (ya rfl) <| Zv (ya rfl) <| Znl <| Znx <| Zsr ?_
            refine Zv (ym rfl) <| Zv (ym rfl) <| Zv (ym rfl) ?_
            rotate_left
            · refine Zv (ysld 3 Tryz.underlying26 rfl rfl hkl) ?_
              rw [← hl3]
              refine Zk (c10p a (0 + (ls.take kc).length) b' m1 (cutA C capc kc choE.n) (capc - kc) (ls.drop kc) hR3 (by omega) (fun y hy => hl y (List.mem_of_mem_drop hy)) hin1 hn41) [3,2] rfl rfl <| ⟨?_, ?_⟩
              refine fun a_7 => fun A'_3 => fun cap'_3 => ?_
              rotate_left
              refine fun a_7 => ?_
              rotate_left
              · rw [hdd]
                generalize (runM m1 (ls.drop kc)).1 = m2
                dsimp only
                have hlen : (d1 ++ d2).length = d1.length + d2.length := List.length_append
                refine Zq <| Znl <| Znx <| Zsq <| Zsr <| Zv (ym rfl) <| Zv (yne rfl rfl) <| Zv (ym rfl) <| Zg rfl rfl <| Zv (ym rfl) ?_
                refine Zg rfl rfl <| Zv (yne rfl rfl) <| Zv (ypf rfl rfl) <| Zv (ym rfl) <| Zg rfl rfl <| Zv (ym rfl) <| Zg rfl rfl <| Zv (yne rfl rfl) <| Zv (ypf rfl rfl) <| Znl ?_
                refine Znx <| Zcf rfl <| Zsk <| Znx <| Zsq <| Zsr <| Zv (ym rfl) <| Zv (sl_of ⟨_, Tryz.underlying33⟩ rfl) <| Zv (ym rfl) <| Zv (sl_of ⟨_, Tryz.underlying33⟩ rfl) ?_
                refine Zv (yadd rfl rfl (i64w rfl (by omega))) <| Zv (ym rfl) <| Zv (sl_of ⟨_, Tryz.underlying33⟩ rfl) <| Zv (yne rfl rfl) <| Zv (ym rfl) <| Zg' rfl rfl (decide_eq_false (by omega)) <| Zv (ym rfl) <| Zg' rfl rfl (decide_eq_false (by omega)) <| Zv (ym rfl) <| Zg' rfl rfl (decide_eq_false (by omega)) ?_
                refine Zk (c12 (0 + ls.length) (0 + (ls.take kc).length + (ls.drop kc).length) b b_1 m2 (by omega) (by omega)) [7,4] rfl rfl <| Zq <| Zg' rfl rfl (decide_eq_false (by omega)) <| Zv (ynot rfl) <| Zv (ypf' rfl (decide_eq_false (by omega)) rfl) <| Zv (ym rfl) <| Zg rfl rfl <| Zv (ym rfl) <| Zg rfl rfl <| Zv (ym rfl) ?_
                refine Zg rfl rfl ?_
                refine Zk (c12 (0 + ls.length) (0 + (ls.take kc).length + (ls.drop kc).length) b b' m2 (by omega) (by omega)) [0,2] rfl rfl <| Zq <| Zg rfl rfl <| Zv (ynot rfl) <| Zv (ypf rfl rfl) <| Znl <| Znx <| Zcf rfl <| Zsk <| Znx ?_
                refine Zsq <| Zsr <| Zv (ya rfl) <| Znl <| Znx <| Zbl ?_
                refine Zlq (ι := { i : Nat // i ≤ (d1 ++ d2).length }) (fun i => [(18, .int .i64 (i.1 : Int)), (11, .slice A' (d1 ++ d2).length cap'), (13, .slice A'_1 d1.length cap'_1), (16, .slice A'_2 d2.length cap'_2)]) (fun i => [.hp (own didE A' cap' (d1 ++ d2)), .hp (own didE A'_1 cap'_1 d1), .hp (own didE A'_2 cap'_2 d2)]) (fun i => (d1 ++ d2).length - i.1) ⟨0, by omega⟩ ⟨rfl, rfl, rfl, rfl, trivial⟩ [7, 6, 5] rfl fun i => Zsq <| Zsr <| Zv (ym rfl) <| Zv (ym rfl) <| Zv (sl_of ⟨_, Tryz.underlying33⟩ rfl) <| Zv (ylt rfl rfl) <| Znl <| Znx <| Zif rfl (fun h123 => ?_) (fun h123 => ?_)
                refine Zsk <| Znx <| Zsq <| Zbl <| Zsq ?_
                rotate_left
                refine Zex <| Zxt <| Zxt <| Zxx <| Znx <| Zsr ?_
                rotate_left
                · have hi1 : i.1 < (d1 ++ d2).length := by omega
                  rcases Nat.lt_or_ge i.1 d1.length with hi | hi
                  · have hx1 : (d1 ++ d2)[i.1] = d1[i.1] := List.getElem_append_left hi
                    refine Zhd [] rfl rfl <| Zht 0 rfl (ym rfl) <| Zht 1 rfl (ym rfl) <| Zht 2 rfl (sl_of ⟨_, Tryz.underlying33⟩ rfl) <| Zht 3 rfl (ylt rfl rfl) <| Zht 4 rfl (ym rfl) <| Zhg 5 rfl rfl (lkn rfl (decide_eq_true (by omega))) (ym rfl) <| Zhg 6 rfl rfl (lkn rfl (decide_eq_true (by omega))) (ym rfl) <| Zhg 7 rfl rfl (lkn rfl (decide_eq_true (by omega))) (yea 0 own.rd rfl rfl rfl (by first | assumption | omega) rfl Tryz.underlying33 rfl) <| Zhg 8 rfl rfl (lkn rfl (decide_eq_true (by omega))) (yel 0 own.rd rfl (gE (by first | assumption | omega)) rfl rfl rfl) ?_
                    refine Zhg 9 rfl rfl (lkn rfl (decide_eq_true (by omega))) (ym rfl) <| Zhg 10 rfl rfl (lkn rfl (decide_eq_true (by omega))) (ym rfl) <| Zhg 11 rfl rfl (lkn rfl (decide_eq_true (by omega))) (yea 1 own.rd rfl rfl rfl (by first | assumption | omega) rfl Tryz.underlying33 rfl) <| Zhg 12 rfl rfl (lkn rfl (decide_eq_true (by omega))) (yel 1 own.rd rfl (gE (by first | assumption | omega)) rfl rfl rfl) <| Zhg 13 rfl rfl (lkn rfl (decide_eq_true (by omega))) (yneE didER _ _ rfl rfl) <| Zht 14 rfl (ypt' rfl (decide_eq_true (by omega)) rfl) <| Zht 15 rfl (ym rfl) <| Zhgb 16 rfl rfl rfl (fun h141 => ?_) (fun h141 => ?_)
                    refine Zhu 16 rfl rfl (lkn rfl h141) rfl <| Zhu 17 rfl rfl (lkn rfl h141) rfl <| Zhu 18 rfl rfl (lkn rfl h141) rfl <| Zhu 19 rfl rfl (lkn rfl h141) rfl <| Zhu 20 rfl rfl (lkn rfl h141) rfl <| Zhuu 21 rfl rfl rfl <| Zhuu 22 rfl rfl rfl <| Zhuu 23 rfl rfl rfl <| Zhuu 24 rfl rfl rfl <| Zhuu 25 rfl rfl rfl ?_
                    refine Zhuu 26 rfl rfl rfl <| Zhuu 27 rfl rfl rfl <| Zhuu 28 rfl rfl rfl <| Zhuu 29 rfl rfl rfl <| Zhuu 30 rfl rfl rfl <| Zhuu 31 rfl rfl rfl <| Zhuu 32 rfl rfl rfl <| Zhu 33 rfl rfl (lkn rfl h141) rfl <| Zht 34 rfl (ypt' rfl h141 rfl) <| Zhn (by kernel_rfl) ?_
                    refine Znx <| Zct rfl <| Zsr <| Zv (ya rfl) <| Znl <| Znx <| Zrt <| Zr2 <| Zr1 <| Zr1 ?_
                    refine Zr2 <| Zr1 <| Zre (.t rfl .n) hS [7] 10 ?_ rfl rfl rfl
                    rotate_left
                    refine Zhg 16 rfl rfl (lkn rfl h141) (ym rfl) <| Zhg 17 rfl rfl (lkn rfl h141) (ym rfl) <| Zhg 18 rfl rfl (lkn rfl h141) (sl_of ⟨_, Tryz.underlying33⟩ rfl) <| Zhg 19 rfl rfl (lkn rfl h141) (yge rfl rfl) <| Zhg 20 rfl rfl (lkn rfl h141) (ym rfl) <| Zhu 21 rfl rfl (lkn rfl (decide_eq_false (by omega))) rfl <| Zhu 22 rfl rfl (lkn rfl (decide_eq_false (by omega))) rfl <| Zhu 23 rfl rfl (lkn rfl (decide_eq_false (by omega))) rfl <| Zhu 24 rfl rfl (lkn rfl (decide_eq_false (by omega))) rfl <| Zhu 25 rfl rfl (lkn rfl (decide_eq_false (by omega))) rfl ?_
                    refine Zhu 26 rfl rfl (lkn rfl (decide_eq_false (by omega))) rfl <| Zhu 27 rfl rfl (lkn rfl (decide_eq_false (by omega))) rfl <| Zhu 28 rfl rfl (lkn rfl (decide_eq_false (by omega))) rfl <| Zhu 29 rfl rfl (lkn rfl (decide_eq_false (by omega))) rfl <| Zhu 30 rfl rfl (lkn rfl (decide_eq_false (by omega))) rfl <| Zhu 31 rfl rfl (lkn rfl (decide_eq_false (by omega))) rfl <| Zhu 32 rfl rfl (lkn rfl (decide_eq_false (by omega))) rfl <| Zhg 33 rfl rfl (lkn rfl h141) (ypf' rfl (decide_eq_false (by omega)) rfl) <| Zht 34 rfl (ypf' rfl h141 rfl) <| Zhn (by kernel_rfl) ?_
                    refine Znx <| Zcf rfl <| Zsk <| Zxn <| Znx <| Zrg <| Zv (ym rfl) <| Zv (yadd rfl rfl (i64w rfl (by omega))) <| Zv (ya rfl) <| Znl ?_
                    rotate_left
                    · simp [hx1] at h141
                    · refine Zlr ⟨i.1 + 1, hi1⟩ (by show (d1 ++ d2).length - (i.1 + 1) < (d1 ++ d2).length - i.1; omega) ⟨rfl, rfl, rfl, rfl, trivial⟩ [0, 0, 0] 0 rfl rfl
                  · obtain ⟨j, hj⟩ : ∃ j, i.1 = d1.length + j := ⟨i.1 - d1.length, by omega⟩
                    have hj2 : j < d2.length := by omega
                    have hx2 : (d1 ++ d2)[i.1] = d2[j] := by
                      rw [List.getElem_append_right hi]
                      simp [hj]
                    have hjv : (i.1 : Int) - (d1.length : Int) = ((j : Nat) : Int) := by omega
                    refine Zhd [] rfl rfl <| Zht 0 rfl (ym rfl) <| Zht 1 rfl (ym rfl) <| Zht 2 rfl (sl_of ⟨_, Tryz.underlying33⟩ rfl) <| Zht 3 rfl (ylt rfl rfl) <| Zht 4 rfl (ym rfl) <| Zhu 5 rfl rfl (lkn rfl (decide_eq_false (by omega))) rfl <| Zhu 6 rfl rfl (lkn rfl (decide_eq_false (by omega))) rfl <| Zhu 7 rfl rfl (lkn rfl (decide_eq_false (by omega))) rfl <| Zhu 8 rfl rfl (lkn rfl (decide_eq_false (by omega))) rfl ?_
                    refine Zhu 9 rfl rfl (lkn rfl (decide_eq_false (by omega))) rfl <| Zhu 10 rfl rfl (lkn rfl (decide_eq_false (by omega))) rfl <| Zhu 11 rfl rfl (lkn rfl (decide_eq_false (by omega))) rfl <| Zhu 12 rfl rfl (lkn rfl (decide_eq_false (by omega))) rfl <| Zhu 13 rfl rfl (lkn rfl (decide_eq_false (by omega))) rfl <| Zht 14 rfl (ypf' rfl (decide_eq_false (by omega)) rfl) <| Zht 15 rfl (ym rfl) <| Zhg 16 rfl rfl rfl (ym rfl) <| Zhg 17 rfl rfl rfl (ym rfl) <| Zhg 18 rfl rfl rfl (sl_of ⟨_, Tryz.underlying33⟩ rfl) ?_
                    refine Zhg 19 rfl rfl rfl (yge rfl rfl) <| Zhg 20 rfl rfl rfl (ym rfl) <| Zhg 21 rfl rfl (lkn rfl (decide_eq_true (by omega))) (ym rfl) <| Zhg 22 rfl rfl (lkn rfl (decide_eq_true (by omega))) (ym rfl) <| Zhg 23 rfl rfl (lkn rfl (decide_eq_true (by omega))) (yea 0 own.rd rfl rfl rfl (by first | assumption | omega) rfl Tryz.underlying33 rfl) <| Zhg 24 rfl rfl (lkn rfl (decide_eq_true (by omega))) (yel 0 own.rd rfl (gE (by first | assumption | omega)) rfl rfl rfl) <| Zhg 25 rfl rfl (lkn rfl (decide_eq_true (by omega))) (ym rfl) <| Zhg 26 rfl rfl (lkn rfl (decide_eq_true (by omega))) (ym rfl) <| Zhg 27 rfl rfl (lkn rfl (decide_eq_true (by omega))) (ym rfl) <| Zhg 28 rfl rfl (lkn rfl (decide_eq_true (by omega))) (sl_of ⟨_, Tryz.underlying33⟩ rfl) ?_
                    refine Zhg 29 rfl rfl (lkn rfl (decide_eq_true (by omega))) (ysub rfl rfl (i64w rfl (by omega))) ?_
                    refine Zhg 30 rfl rfl (lkn rfl (decide_eq_true (by omega))) (yea 2 own.rd rfl rfl (congrArg (fun v => some (Value.int .i64 v)) hjv) hj2 rfl Tryz.underlying33 rfl) <| Zhg 31 rfl rfl (lkn rfl (decide_eq_true (by omega))) (yel 2 own.rd rfl (gE (by first | assumption | omega)) rfl rfl rfl) <| Zhg 32 rfl rfl (lkn rfl (decide_eq_true (by omega))) (yneE didER _ _ rfl rfl) <| Zhg 33 rfl rfl rfl (ypt' rfl (decide_eq_true (by omega)) rfl) <| Zht 34 rfl (ypf rfl rfl) <| Zhn (by kernel_rfl) <| Znx <| Zib rfl (fun h160 => ?_) (fun h160 => ?_)
                    refine Zsr <| Zv (ya rfl) <| Znl <| Znx <| Zrt <| Zr2 <| Zr1 <| Zr1 <| Zr2 <| Zr1 ?_
                    refine Zre (.t rfl .n) hS [7] 10 ?_ rfl rfl rfl
                    rotate_left
                    refine Zsk <| Zxn <| Znx <| Zrg <| Zv (ym rfl) <| Zv (yadd rfl rfl (i64w rfl (by omega))) <| Zv (ya rfl) <| Znl ?_
                    rotate_left
                    · rw [hx2] at h160
                      simp at h160
                    · refine Zlr ⟨i.1 + 1, hi1⟩ (by show (d1 ++ d2).length - (i.1 + 1) < (d1 ++ d2).length - i.1; omega) ⟨rfl, rfl, rfl, rfl, trivial⟩ [0, 0, 0] 0 rfl rfl
                · refine Zk (c9p a) [7] rfl rfl <| Zq <| Zv (ya rfl) <| Znl <| Znx <| Zrt <| Zre (.t rfl .n) hS [0] 10 rfl rfl rfl rfl
              · exact absurd (fun y hy => a_4 y (List.mem_of_mem_drop hy)) a_7
            · exact absurd (fun y hy => a_4 y (List.mem_of_mem_drop hy)) a_6
          · exact absurd (fun y hy => a_4 y (List.mem_of_mem_take hy)) a_5
        · refine Zv (ysto 3 Tryz.underlying26 rfl rfl (by omega)) ?_
          have hR1 := hR.pre kc
          have hR3 := hR.from_ hkl
          have hl1 : (ls.take kc).length = kc := by rw [List.length_take]; omega
          have hl3 : (ls.drop kc).length = ls.length - kc := by rw [List.length_drop]
          have hall : (∀ y ∈ ls.take kc, rightC y = true) → ¬ ∀ y ∈ ls.drop kc, rightC y = true := fun h1 h2 => a_4 fun y hy => by
            rw [← List.take_append_drop kc ls] at hy
            exact (List.mem_append.1 hy).elim (h1 y) (h2 y)
          rw [show Value.slice C kc capc = .slice C (ls.take kc).length capc by rw [hl1]]
          refine Zk (c10p a 0 b_1 x.m C capc (ls.take kc) hR1 (by omega) (fun y hy => hl y (List.mem_of_mem_take hy)) hin hn4) [2,1] rfl rfl <| ⟨?_, ?_⟩
          refine fun a_5 => fun A' => fun cap' => Zq <| Zv (ym rfl) <| Zv (yx rfl rfl) <| Zv (yx rfl rfl) <| Zv (ya rfl) <| Zv (ya rfl) <| Znl ?_
          refine Znx <| Zsr <| Zv (ym rfl) ?_
          rotate_left
          refine fun a_5 => Zq <| Zv (ym rfl) <| Zv (yx rfl rfl) <| Zv (yx rfl rfl) <| Zv (ya rfl) <| Zv (ya rfl) <| Znl <| Znx <| Zsr ?_
          refine Zv (ym rfl) ?_
          rotate_left
          · obtain ⟨hin1, hcl1⟩ := runs_in (l := ls.take kc) (s := (x.m, [])) hin hn4
            have hn41 : (runM x.m (ls.take kc)).1.C.length ≤ 4 := Nat.le_trans (Nat.le_of_eq hcl1) hn4
            have hin1 : (runM x.m (ls.take kc)).1.In := hin1
            generalize (runM x.m (ls.take kc)).2 = d1
            generalize (runM x.m (ls.take kc)).1 = m1 at hin1 hn41 ⊢
            refine Zk (c11 (0 + (ls.take kc).length) b_1 m1 (by omega)) [1] rfl rfl <| fun b' => Zq <| Zv (ya rfl) <| Znl <| Znx <| Zsq <| Zsr <| Zv (ym rfl) <| Zv (ypeq rfl rfl rfl) ?_
            refine Znl <| Znx <| Zcf rfl <| Zsk <| Znx <| Zsr <| Zv (ym rfl) <| Zv (ym rfl) <| Zv (ym rfl) ?_
            refine Zv (ysld 3 Tryz.underlying26 rfl rfl hkl) ?_
            rw [← hl3]
            refine Zk (c10p a (0 + (ls.take kc).length) b_1 m1 (cutA C capc kc choE.n) (capc - kc) (ls.drop kc) hR3 (by omega) (fun y hy => hl y (List.mem_of_mem_drop hy)) hin1 hn41) [1,2] rfl rfl <| ⟨?_, ?_⟩
            refine fun a_6 => fun A'_1 => fun cap'_1 => Zq <| Zv (ym rfl) <| Zv (yx rfl rfl) <| Zv (yx rfl rfl) <| Zv (ya rfl) <| Zv (ya rfl) <| Znl ?_
            refine Znx <| Zsr <| Zv (ym rfl) <| Zv (ym rfl) <| Zv (ym rfl) ?_
            rotate_left
            refine fun a_6 => Zq <| Zv (ym rfl) <| Zv (yx rfl rfl) <| Zv (yx rfl rfl) <| Zv (ya rfl) <| Zv (ya rfl) <| Znl <| Znx <| Zsr ?_
            refine Zv (ym rfl) <| Zv (ym rfl) <| Zv (ym rfl) ?_
            rotate_left
            · exact absurd a_6 (hall a_5)
            · refine Zv (ysld 3 Tryz.underlying26 rfl rfl hkl) ?_
              rw [← hl3]
              refine Zk (c10p a (0 + (ls.take kc).length) b' m1 (cutA C capc kc choE.n) (capc - kc) (ls.drop kc) hR3 (by omega) (fun y hy => hl y (List.mem_of_mem_drop hy)) hin1 hn41) [2,1] rfl rfl <| ⟨?_, ?_⟩
              refine fun a_7 => fun A'_1 => fun cap'_1 => Zq <| Znl <| Znx <| Zsq <| Zsr <| Zv (ym rfl) <| Zv (yne rfl rfl) ?_
              refine Zv (ym rfl) <| Zu rfl rfl rfl <| Zu rfl rfl rfl <| Zv (ypt rfl rfl) <| Zv (ym rfl) <| Zu rfl rfl rfl <| Zu rfl rfl rfl <| Zv (ypt rfl rfl) <| Znl <| Znx ?_
              refine Zct rfl <| Zsr <| Zv (ym rfl) <| Zv (yeq rfl rfl) <| Zv (ym rfl) <| Zv (yeq rfl rfl) <| Zv (ym rfl) <| Zg rfl rfl <| Zv (ym rfl) <| Zg rfl rfl ?_
              refine Zv (yeq rfl rfl) <| Zv (ypt rfl rfl) <| Zv (ybeq rfl rfl rfl) <| Zv (ym rfl) <| Zg rfl rfl ?_
              rotate_left
              refine fun a_7 => Zq <| Znl <| Znx <| Zsq <| Zsr <| Zv (ym rfl) <| Zv (yne rfl rfl) <| Zv (ym rfl) <| Zu rfl rfl rfl ?_
              refine Zu rfl rfl rfl <| Zv (ypt rfl rfl) <| Zv (ym rfl) <| Zu rfl rfl rfl <| Zu rfl rfl rfl <| Zv (ypt rfl rfl) <| Znl <| Znx <| Zct rfl <| Zsr ?_
              refine Zv (ym rfl) <| Zv (yeq rfl rfl) <| Zv (ym rfl) <| Zv (yeq rfl rfl) <| Zv (ym rfl) <| Zg rfl rfl <| Zv (ym rfl) <| Zg rfl rfl <| Zv (yeq rfl rfl) <| Zv (ypt rfl rfl) ?_
              refine Zv (ybeq rfl rfl rfl) <| Zv (ym rfl) <| Zg rfl rfl ?_
              rotate_left
              · exact absurd a_7 (hall a_5)
              · refine Zk (c9p a) [1] rfl rfl <| Zq <| Zv (ypt rfl rfl) <| Zv (ya rfl) <| Znl <| Znx <| Zrt <| Zr1 <| Zre (.t rfl .n) hS [0] 7 rfl rfl rfl rfl
          · refine Zk (c11 0 b_1 x.m (by omega)) [0] rfl rfl <| fun b' => Zq <| Zv (ya rfl) <| Znl <| Znx <| Zsq <| Zsr <| Zv (ym rfl) <| Zv (ypeq rfl rfl rfl) ?_
            refine Znl <| Znx <| Zcf rfl <| Zsk <| Znx <| Zsr <| Zv (ym rfl) <| Zv (ym rfl) <| Zv (ym rfl) ?_
            refine Zv (ysld 3 Tryz.underlying26 rfl rfl hkl) ?_
            rw [← hl3]
            refine Zk (c10p a 0 b_1 x.m (cutA C capc kc choE.n) (capc - kc) (ls.drop kc) hR3 (by omega) (fun y hy => hl y (List.mem_of_mem_drop hy)) hin hn4) [1,1] rfl rfl <| ⟨?_, ?_⟩
            refine fun a_6 => fun A' => fun cap' => Zq <| Zv (ym rfl) <| Zv (yx rfl rfl) <| Zv (yx rfl rfl) <| Zv (ya rfl) <| Zv (ya rfl) <| Znl ?_
            refine Znx <| Zsr <| Zv (ym rfl) <| Zv (ym rfl) <| Zv (ym rfl) ?_
            rotate_left
            refine fun a_6 => Zq <| Zv (ym rfl) <| Zv (yx rfl rfl) <| Zv (yx rfl rfl) <| Zv (ya rfl) <| Zv (ya rfl) <| Znl <| Znx <| Zsr ?_
            refine Zv (ym rfl) <| Zv (ym rfl) <| Zv (ym rfl) ?_
            rotate_left
            · refine Zv (ysld 3 Tryz.underlying26 rfl rfl hkl) ?_
              rw [← hl3]
              refine Zk (c10p a 0 b' x.m (cutA C capc kc choE.n) (capc - kc) (ls.drop kc) hR3 (by omega) (fun y hy => hl y (List.mem_of_mem_drop hy)) hin hn4) [3,2] rfl rfl <| ⟨?_, ?_⟩
              refine fun a_7 => fun A'_1 => fun cap'_1 => Zq <| Znl <| Znx <| Zsq <| Zsr <| Zv (ym rfl) <| Zv (yne rfl rfl) ?_
              refine Zv (ym rfl) <| Zu rfl rfl rfl <| Zu rfl rfl rfl <| Zv (ypt rfl rfl) <| Zv (ym rfl) <| Zu rfl rfl rfl <| Zu rfl rfl rfl <| Zv (ypt rfl rfl) <| Znl <| Znx ?_
              refine Zct rfl <| Zsr <| Zv (ym rfl) <| Zv (yeq rfl rfl) <| Zv (ym rfl) <| Zv (yeq rfl rfl) <| Zv (ym rfl) <| Zu rfl rfl rfl <| Zu rfl rfl rfl <| Zv (ypf rfl rfl) ?_
              refine Zv (ybeq rfl rfl rfl) <| Zv (ym rfl) <| Zg rfl rfl ?_
              rotate_left
              refine fun a_7 => Zq <| Znl <| Znx <| Zsq <| Zsr <| Zv (ym rfl) <| Zv (yne rfl rfl) <| Zv (ym rfl) <| Zu rfl rfl rfl ?_
              refine Zu rfl rfl rfl <| Zv (ypt rfl rfl) <| Zv (ym rfl) <| Zu rfl rfl rfl <| Zu rfl rfl rfl <| Zv (ypt rfl rfl) <| Znl <| Znx <| Zct rfl <| Zsr ?_
              refine Zv (ym rfl) <| Zv (yeq rfl rfl) <| Zv (ym rfl) <| Zv (yeq rfl rfl) <| Zv (ym rfl) <| Zu rfl rfl rfl <| Zu rfl rfl rfl <| Zv (ypf rfl rfl) <| Zv (ybeq rfl rfl rfl) <| Zv (ym rfl) ?_
              refine Zg rfl rfl ?_
              rotate_left
              · refine Zk (c9p a) [2] rfl rfl <| Zq <| Zv (ypt rfl rfl) <| Zv (ya rfl) <| Znl <| Znx <| Zrt <| Zr1 <| Zre (.t rfl .n) hS [0] 8 rfl rfl rfl rfl
              · refine Zk (c9p a) [1] rfl rfl <| Zq <| Zv (ypt rfl rfl) <| Zv (ya rfl) <| Znl <| Znx <| Zrt <| Zr1 <| Zre (.t rfl .n) hS [0] 7 rfl rfl rfl rfl
            · refine Zv (ysld 3 Tryz.underlying26 rfl rfl hkl) ?_
              rw [← hl3]
              refine Zk (c10p a 0 b' x.m (cutA C capc kc choE.n) (capc - kc) (ls.drop kc) hR3 (by omega) (fun y hy => hl y (List.mem_of_mem_drop hy)) hin hn4) [2,1] rfl rfl <| ⟨?_, ?_⟩
              refine fun a_7 => fun A' => fun cap' => Zq <| Znl <| Znx <| Zsq <| Zsr <| Zv (ym rfl) <| Zv (yne rfl rfl) ?_
              refine Zv (ym rfl) <| Zu rfl rfl rfl <| Zu rfl rfl rfl <| Zv (ypt rfl rfl) <| Zv (ym rfl) <| Zu rfl rfl rfl <| Zu rfl rfl rfl <| Zv (ypt rfl rfl) <| Znl <| Znx ?_
              refine Zct rfl <| Zsr <| Zv (ym rfl) <| Zv (yeq rfl rfl) <| Zv (ym rfl) <| Zv (yeq rfl rfl) <| Zv (ym rfl) <| Zu rfl rfl rfl <| Zu rfl rfl rfl <| Zv (ypf rfl rfl) ?_
              refine Zv (ybeq rfl rfl rfl) <| Zv (ym rfl) <| Zg rfl rfl ?_
              rotate_left
              refine fun a_7 => Zq <| Znl <| Znx <| Zsq <| Zsr <| Zv (ym rfl) <| Zv (yne rfl rfl) <| Zv (ym rfl) <| Zu rfl rfl rfl ?_
              refine Zu rfl rfl rfl <| Zv (ypt rfl rfl) <| Zv (ym rfl) <| Zu rfl rfl rfl <| Zu rfl rfl rfl <| Zv (ypt rfl rfl) <| Znl <| Znx <| Zct rfl <| Zsr ?_
              refine Zv (ym rfl) <| Zv (yeq rfl rfl) <| Zv (ym rfl) <| Zv (yeq rfl rfl) <| Zv (ym rfl) <| Zu rfl rfl rfl <| Zu rfl rfl rfl <| Zv (ypf rfl rfl) <| Zv (ybeq rfl rfl rfl) <| Zv (ym rfl) ?_
              refine Zg rfl rfl ?_
              rotate_left
              · refine Zk (c9p a) [2] rfl rfl <| Zq <| Zv (ypt rfl rfl) <| Zv (ya rfl) <| Znl <| Znx <| Zrt <| Zr1 <| Zre (.t rfl .n) hS [0] 7 rfl rfl rfl rfl
              · refine Zk (c9p a) [1] rfl rfl <| Zq <| Zv (ypt rfl rfl) <| Zv (ya rfl) <| Znl <| Znx <| Zrt <| Zr1 <| Zre (.t rfl .n) hS [0] 6 rfl rfl rfl rfl
      · rw [a_1] at a_3
        cases a_3
  · refine Zk (c8 (.hp p) x hx C capc ls.length) [0] rfl rfl <| ⟨?_, ?_⟩
    refine Zq <| Zv (ym rfl) <| Zu rfl rfl rfl <| Zu rfl rfl rfl <| Zv (ypt rfl rfl) <| Zv (ym rfl) <| Zu rfl rfl rfl <| Zu rfl rfl rfl <| Zv (ypt rfl rfl) <| Zv (ym rfl) ?_
    refine Zu rfl rfl rfl <| Zu rfl rfl rfl <| Zu rfl rfl rfl <| Zu rfl rfl rfl <| Zv (ypt rfl rfl) <| Znl <| Znx <| Zct rfl <| Zsr ?_
    rotate_left
    refine fun a_2 => Zq <| Zv (ym rfl) <| Zg rfl rfl <| Zv (ym rfl) <| Zg rfl rfl <| Zv (ypeq rfl rfl rfl) <| Zv (ypf rfl rfl) <| Zv (ym rfl) <| Zu rfl rfl rfl ?_
    refine Zu rfl rfl rfl <| Zv (ypt rfl rfl) <| Zv (ym rfl) <| Zu rfl rfl rfl <| Zu rfl rfl rfl <| Zu rfl rfl rfl <| Zu rfl rfl rfl <| Zv (ypt rfl rfl) <| Znl <| Znx ?_
    refine Zct rfl <| Zsr ?_
    rotate_left
    · refine Zk (c9p a) [0] rfl rfl <| Zq <| Zv (ya rfl) <| Znl <| Znx <| Zrt <| Zr1 <| Zre (.t rfl .n) hS [0] 1 rfl rfl rfl rfl
    · refine Zk (c9p a) [0] rfl rfl <| Zq <| Zv (ya rfl) <| Znl <| Znx <| Zrt <| Zr1 <| Zre (.t rfl .n) hS [0] 1 rfl rfl rfl rfl
end Go.Proofs.YtpfijldkkfiooaaGreatDoor
namespace Go.Proofs.YtpfijldkkfiooaaGreatDoor
open Go
theorem ret_shaped {a : Assume} {C : Checked} {os : Os} {f : FuncId} {fn : Func} {s : ChangeSpec} {conds : List PathCond} {apart fresh handsOn again : Bool} {X : World → Array Value → Prop} {H : Type} {enc : TypeId × Value → H}
    (hX : ∀ (w w' : World) (args : Array Value), w.heap = w'.heap → X w args → X w' args)
    (own : ownKnob C.prog.godebug = none) (started : os.Started) (noInit : C.prog.inits.idxOf? f = none) (hfn : C.prog.funcs[f]? = some fn)
    (witness : ∃ (w : World) (tape : Tape) (i : Input), w.os = os ∧ (w.forCall tape i).Shaped C.prog ∧ i.vars = [] ∧ Input.okWide C.prog (w.forCall tape i) .any w.heap.size f i ∧
      ((s.pre enc C.prog fn conds apart (w.forCall tape i).memory i.args ∧ X (w.forCall tape i).memory i.args) ∧ sizedMet enc C.prog fn (OpenSpec.ofChange s) apart (w.forCall tape i).memory i.args) ∧ a.holds C.prog (lone (Frame.enter C.prog f i.args .normal) [] (w.forCall tape i)))
    (contract : ∀ (W : World) (base : Nat) (args : Array Value) (ds gs : List (DataW H)) (before : List MemPlace), W.ShapedOpen C.prog →
      (∀ (j : Nat) t v, fn.params[j]? = some t → args[j]? = some v → Value.okWide C.prog W .any base t v) →
      DataW.Whole enc C.prog fn.params.toList s.vars apart W args.toList ds gs before →
      conds.all (PathCond.test C.prog ⟨fn.params.toList, ds, s.plain.varTypes C.prog, gs⟩) = true → X W args →
      Calls C.prog f args W fun e W' => ∃ v, e = .returned v ∧ s.post enc C.prog fn apart fresh handsOn again W args v W') :
    ReturnsInHanded a C os f .any (fun w args => (s.pre enc C.prog fn conds apart w args ∧ X w args) ∧ sizedMet enc C.prog fn (OpenSpec.ofChange s) apart w args) (s.post enc C.prog fn apart fresh handsOn again) := by
  refine returnsInHanded_of_calls own started noInit witness ?_
  intro w tape i _ hsh _ hok hpre _
  obtain ⟨_, _, _, fn', hfn', _, _, _, _, hval⟩ := hok
  have e : fn' = fn := Option.some.inj (hfn'.symm.trans hfn)
  subst e
  obtain ⟨⟨⟨ds, gs, before, hw, hc⟩, hx⟩, _⟩ := hpre
  have hw' := DataW.Whole.of_heap (w' := w.forCall tape i) (by rfl) hw
  refine (contract (w.forCall tape i) w.heap.size i.args ds gs before hsh hval hw' hc (hX _ _ _ (by rfl) hx)).mono fun e W' ⟨v, he, hp⟩ => ?_
  subst he
  exact ChangeSpec.post_blind hp
theorem sp_block {W : World} (hs : W.ShapedOpen Tryz.prog) (hv : W.var? Tryz.prog "strings.asciiSpace" = some spL.toArray) : W.heap[0]? = some (.cells spL.toArray 405 (0, 0)) := by
  have h0 : (((begin Tryz.prog (fun _ _ => 0) default).world.heap[0]?).bind Obj.row?).map (·.2) = some 405 := by kernel_rfl
  obtain ⟨⟨zero, t⟩, h1, h2⟩ := Option.map_eq_some_iff.1 h0
  have h2 : t = 405 := h2
  subst h2
  obtain ⟨cs, h3, _⟩ := hs.1 0 zero 405 (Nat.le_of_ble_eq_true (by kernel_rfl)) h1
  unfold World.var? at hv
  rw [show Tryz.prog.globalNamed "strings.asciiSpace" = some 0 by kernel_rfl] at hv
  simp only [Option.bind_some, h3, Option.some.injEq] at hv
  rw [h3, hv]
def spZ : List Int := (List.range 256).map fun k => if k = 9 ∨ k = 10 ∨ k = 11 ∨ k = 12 ∨ k = 13 ∨ k = 32 then 1 else 0
theorem sp_data : (Rows.laid_strings_asciiSpace : DataW Unit) = Lib.tabData .u8 spZ := by kernel_rfl
theorem sp_zs : spZ.map (fun z => Value.int .u8 z) = spL := by
  unfold spZ spL
  rw [List.map_map]
  rfl
theorem sp_laid {W : World} (h : laidMetH Tryz.prog Rows.topAgainRow.laid W) : W.var? Tryz.prog "strings.asciiSpace" = some spL.toArray := by
  rw [MakeChecks.laidMetH_plain _ _ _ (by kernel_rfl)] at h
  have h2 : laidMet Tryz.prog [("strings.asciiSpace", Lib.tabData .u8 spZ)] W := by
    rw [← sp_data]
    exact h.tail.tail.tail.tail
  have h3 := Lib.tabIs_of_head (P := Tryz.prog) (W := W) (g := 0) (t := 405) (e := 5) (n := 256) (by kernel_rfl) (by kernel_rfl) Tryz.underlying405 Tryz.underlying5 (by kernel_rfl) (by kernel_rfl) h2
  unfold Lib.TabIs at h3
  rw [h3, sp_zs]
end Go.Proofs.YtpfijldkkfiooaaGreatDoor
namespace Go.Proofs.YtpfijldkkfiooaaGreatDoor
open Go
def hpP (W : World) : HP := fun h => Le (hlOf W) h
def hpQ (W : World) : HP := fun h => ∀ k o, k ≠ 0 → W.heap[k]? = some o → h k = some o
theorem arg_W {W : World} (h0 : W.heap[0]? = some (.cells spL.toArray 405 (0, 0))) : Arg (hpP W) (hpQ W) where
  op h hp := by
    refine ⟨fun k => if k = 0 then h 0 else none, fun k => if k = 0 then none else h k, fun k o e => ?_, fun k o e => ?_, fun k => ?_, ?_, fun k => if k = 0 then none else h k, fun _ => none, Le.refl _, (fun _ _ e => by cases e), fun _ => .inr rfl, fun k o hk hW => ?_, trivial⟩
    · by_cases hk : k = 0
      · subst hk; simpa using e
      · simp [hk] at e
    · by_cases hk : k = 0
      · simp [hk] at e
      · simpa [hk] using e
    · by_cases hk : k = 0
      · exact .inr (by simp [hk])
      · exact .inl (by simp [hk])
    · show (if 0 = 0 then h 0 else none) = _
      rw [if_pos rfl]
      exact hp 0 _ h0
    · show (if k = 0 then none else h k) = _
      rw [if_neg hk]
      exact hp k o hW
  fo h hs := by
    obtain ⟨h1, h2, l1, l2, _, hb, h3, h4, l3, _, _, hq, _⟩ := hs
    intro k o hk
    by_cases h : k = 0
    · subst h
      have e : o = .cells spL.toArray 405 (0, 0) := Option.some.inj ((show W.heap[0]? = some o from hk).symm.trans h0)
      subst e
      exact l1 _ _ hb
    · exact l2 _ _ (l3 _ _ (hq k o h hk))
theorem heap_le {W w : World} {k : Nat} {o : Obj} (hl : Le (hlOf W) (hlOf w)) (h : W.heap[k]? = some o) : w.heap[k]? = some o := hl k o h
theorem cell_le {W w : World} {x : Addr} {v : Value} (hl : Le (hlOf W) (hlOf w)) (h : W.cell? x = some v) : w.cell? x = some v := by
  unfold World.cell? at h ⊢
  cases hk : W.heap[x.block]? with
  | none => simp [hk] at h
  | some o =>
    rw [hk] at h
    rw [heap_le hl hk]
    exact h
theorem size_le {W w : World} (hl : Le (hlOf W) (hlOf w)) : W.heap.size ≤ w.heap.size := by
  rcases Nat.eq_zero_or_pos W.heap.size with h | h
  · omega
  · have := heap_le (k := W.heap.size - 1) hl (Array.getElem?_eq_getElem (by omega))
    have := (Array.getElem?_eq_some_iff.1 this).1
    omega
theorem view_W {α : Type} [DecidableEq α] {E : Enc Tryz.prog α} {W : World} {A : Option Addr} {cap : Nat} {l : List α} (h : View E W A cap l) : Rd E (.hp (hpP W)) A cap l := fun h1 hd w hl => by
  have hle : Le (hlOf W) (hlOf w) := Le.tr hd hl
  obtain ⟨h2, h3, h4⟩ := h
  refine ⟨h2, h3, h4.imp id fun ⟨g, o, hA, hg, hr⟩ => ⟨g, o, hA, Nat.lt_of_lt_of_le hg (size_le hle), fun j v hj => cell_le hle (hr j v hj)⟩⟩
theorem below_W {W w : World} (h : Hp W [.hp (hpP W)] w) : Go.RowKit.Below W.heap.size W w := by
  obtain ⟨g, hg, hp⟩ := h.get (i := 0) rfl
  have hle : Le (hlOf W) (hlOf w) := Le.tr hp hg
  exact ⟨h.os, h.tape, h.output, size_le hle, fun k hk => by rw [heap_le hle (Array.getElem?_eq_getElem hk), Array.getElem?_eq_getElem hk]⟩
theorem hp_W (W : World) : Hp W [.hp (hpP W)] W := ⟨rfl, rfl, rfl, sep_hp1 (Le.refl _)⟩
end Go.Proofs.YtpfijldkkfiooaaGreatDoor
namespace Go.Proofs.YtpfijldkkfiooaaGreatDoor
open Go.RowKit Go.ChangeShapes Go.WideShapes Go.ChangeAt Go.Deep
section
variable {H : Type} {enc : TypeId × Value → H} {P : Program} {w : World} {base : Nat} {spare : Nat → Bool} {held : Bool} {fuel : Nat} {cs : List Value} {x : DataW H × List MemPlace}
theorem has_addr {r : Reach} {a : Addr} {e n : Nat} (h : w.has P r base a e n) : ∃ g o, a = ⟨g, o, none⟩ ∧ g < w.heap.size := by
  obtain ⟨_, h1, row, cells, h2, _⟩ := h
  obtain ⟨g, o, s⟩ := a
  subst h1
  refine ⟨g, o, rfl, ?_⟩
  unfold World.shape? at h2
  rcases Nat.lt_or_ge g w.heap.size with h | h
  · exact h
  · have : w.heap[g]? = none := Array.getElem?_eq_none h
    simp [this] at h2
theorem add_none (g o i : Nat) : (⟨g, o, none⟩ : Addr).add i = ⟨g, o + i, none⟩ := by
  unfold Addr.add
  by_cases h : i = 0 <;> simp [h]
theorem open_recs {α : Type} [DecidableEq α] {E : Enc P α} {OK : α → Prop} {t : TypeId} {r : Reach} {b0 : Nat} {v : Value} {d : DataW H} {p : List MemPlace} (ht : P.underlying t = some (.slice E.T)) (hC : P.cellsOf E.T = E.n)
    (hel : ∀ fuel cs x, DataW.trod enc P w base (fun _ => true) held fuel E.T cs = some x → ∃ m, OK m ∧ cs = E.cells m) (hv : Value.okWide P w r b0 t v) (h : DataW.Trod enc P w base (fun _ => true) held t v d p) :
    ∃ A cap l, v = .slice A l.length cap ∧ View E w A cap l ∧ ∀ m ∈ l, OK m := by
  obtain ⟨a0, len, cap, rfl⟩ := okWide_slice ht hv
  obtain ⟨fuel, hf⟩ := h
  rcases open_slice ht hf with ⟨hcs, _⟩ | ⟨a, l, c, m, n, D, Pl, hcs, _, hl, hm, hz, _, hcell⟩
  · simp [Value.cells] at hcs
    obtain ⟨rfl, rfl, rfl⟩ := hcs
    exact ⟨none, 0, [], rfl, View.nil, by simp⟩
  · simp [Value.cells] at hcs
    obtain ⟨rfl, rfl, rfl⟩ := hcs
    rw [if_pos rfl] at hz
    subst hz
    have hh : w.has P r b0 a E.T m := by
      unfold Value.okWide at hv
      rw [ht] at hv
      simp only [Cell.okWide, ht, Cell.ok] at hv
      exact hv.2.2
    obtain ⟨g, o, rfl, hg⟩ := has_addr hh
    rw [hC] at hcell
    have hb : ∀ i : _root_.Fin len, ∃ q : α, OK q ∧ w.rangeAt g (o + i.1 * E.n) (E.cells q) := by
      intro i
      obtain ⟨cs', h1, h2⟩ := hcell i.1 (by omega)
      obtain ⟨q, hq, rfl⟩ := hel _ _ _ h2
      obtain ⟨_, hcl, hat⟩ := World.cells?_some h1
      refine ⟨q, hq, fun j v hj => ?_⟩
      have hjl := (List.getElem?_eq_some_iff.1 hj).1
      have := hat j (by omega)
      rw [add_none, add_none] at this
      rw [this, hj]
    obtain ⟨f, hf⟩ : ∃ f : _root_.Fin len → α, ∀ i, OK (f i) ∧ w.rangeAt g (o + i.1 * E.n) (E.cells (f i)) := ⟨fun i => (hb i).choose, fun i => (hb i).choose_spec⟩
    refine ⟨some ⟨g, o, none⟩, m, List.ofFn f, by simp, ⟨by simp; omega, hm, .inr ⟨g, o, rfl, hg, fun j v hj => ?_⟩⟩, ?_⟩
    · have hjl := (List.getElem?_eq_some_iff.1 hj).1
      rw [flat_len, List.length_ofFn] at hjl
      have hn := E.pos
      have hq : j / E.n < len := (Nat.div_lt_iff_lt_mul hn).2 hjl
      have hr : j % E.n < E.n := Nat.mod_lt _ hn
      have hj2 : j / E.n * E.n + j % E.n = j := by rw [Nat.mul_comm]; exact Nat.div_add_mod j E.n
      have e1 := flat_drop (E := E) (List.ofFn f) (j / E.n) (by simpa using hq)
      have e2 : (E.cells (f ⟨j / E.n, hq⟩))[j % E.n]? = some v := by
        rw [List.getElem_ofFn] at e1
        rw [← e1, List.getElem?_take, if_pos hr, List.getElem?_drop, hj2]
        exact hj
      have := (hf ⟨j / E.n, hq⟩).2 (j % E.n) v e2
      rw [← this]
      show _ = w.cell? ⟨g, o + j / E.n * E.n + j % E.n, none⟩
      rw [Nat.add_assoc, hj2]
    · intro q hq
      obtain ⟨i, rfl⟩ := List.mem_ofFn.1 hq
      exact (hf i).1
end
end Go.Proofs.YtpfijldkkfiooaaGreatDoor
namespace Go.Proofs.YtpfijldkkfiooaaGreatDoor
open Go Go.RowKit Go.ChangeShapes Go.WideShapes Go.ChangeAt Go.Deep
set_option maxRecDepth 20000
structure InOk (w : World) (m : Option Addr × Nat × List Int) : Prop where
  v : m.2.1 ≠ 0 → View u32E w m.1 m.2.1 m.2.2
  z : m.2.1 = 0 → m.2.2 = []
  n : m.1 = none → m.2.2 = [] ∧ m.2.1 = 0
  u : ∀ a ∈ m.2.2, U32 a
theorem addr_of {w : World} {a : Addr} {v : Value} (h : w.cell? a = some v) : ∃ g o, a = ⟨g, o, none⟩ ∧ g < w.heap.size := by
  obtain ⟨g, o, s⟩ := a
  unfold World.cell? at h
  cases hk : w.heap[g]? with
  | none => simp [hk] at h
  | some ob =>
    refine ⟨g, o, ?_, (Array.getElem?_eq_some_iff.1 hk).1⟩
    cases s with
    | none => rfl
    | some s => cases ob <;> simp [hk] at h
theorem flat_ints (l : List Int) : l.flatMap u32E.cells = l.map (Value.int .u32) := by
  induction l with
  | nil => rfl
  | cons a r ih => exact congrArg (List.cons _) ih
theorem wf_u32 {z : Int} (h : (Lit.int .u32 z).wf = true) : U32 z := by
  simp [Lit.wf] at h
  unfold U32
  simp [IntKind.min, IntKind.max, IntKind.bits, IntKind.signed] at h
  omega
theorem open_in {H : Type} {enc : TypeId × Value → H} {w : World} {base : Nat} {held : Bool} {fuel : Nat} {cs : List Value} {x : DataW H × List MemPlace} (h : DataW.trod enc Tryz.prog w base (fun _ => true) held fuel 62 cs = some x) : ∃ m, InOk w m ∧ cs = slE.cells m := by
  rcases open_slice Tryz.underlying62 h with ⟨hcs, _⟩ | ⟨a, len, cap, m, n, D, Pl, hcs, _, hl, hm, hz, _, hcell⟩
  · exact ⟨(none, 0, []), ⟨fun h => absurd rfl h, fun _ => rfl, fun _ => ⟨rfl, rfl⟩, fun a ha => by cases ha⟩, hcs⟩
  · rw [if_pos rfl] at hz
    subst hz
    by_cases hc : m = 0
    · subst hc
      obtain rfl : len = 0 := by omega
      exact ⟨(some a, 0, []), ⟨fun h => absurd rfl h, fun _ => rfl, fun h => (by cases h), fun a ha => (by cases ha)⟩, hcs⟩
    · have hC : Tryz.prog.cellsOf 40 = 1 := by kernel_rfl
      rw [hC] at hcell
      have hb : ∀ i : _root_.Fin m, ∃ z : Int, w.cell? (a.add i.1) = some (.int .u32 z) ∧ (Lit.int .u32 z).wf = true := fun i => by
        obtain ⟨cs', h1, h2⟩ := hcell i.1 i.2
        obtain ⟨_, hcl, hat⟩ := World.cells?_some h1
        obtain ⟨z, e0, _, wz⟩ := DataW.trod_int Tryz.underlying40 h2
        subst e0
        have := hat 0 (by omega)
        rw [Nat.mul_one] at this
        exact ⟨z, by simpa [Addr.add] using this, wz⟩
      obtain ⟨f, hf⟩ : ∃ f : _root_.Fin m → Int, ∀ i, w.cell? (a.add i.1) = some (.int .u32 (f i)) ∧ (Lit.int .u32 (f i)).wf = true := ⟨fun i => (hb i).choose, fun i => (hb i).choose_spec⟩
      obtain ⟨g, o, ha, hg⟩ := addr_of (hf ⟨0, by omega⟩).1
      subst ha
      refine ⟨(some ⟨g, o, none⟩, m, (List.range len).map fun i => if hi : i < m then f ⟨i, hi⟩ else 0), ⟨fun _ => ⟨by simpa using hl, hm, .inr ⟨g, o, rfl, hg, fun j v hj => ?_⟩⟩, fun h => absurd h hc, fun h => (by cases h), fun z hz => ?_⟩, by rw [hcs]; simp [slE]⟩
      · rw [flat_ints] at hj
        have hjl : j < len := by have := (List.getElem?_eq_some_iff.1 hj).1; simpa using this
        have hjm : j < m := by omega
        have := (hf ⟨j, hjm⟩).1
        rw [add_none] at this
        rw [this]
        simpa [hjl, hjm] using hj
      · obtain ⟨i, _, rfl⟩ := List.mem_map.1 hz
        by_cases hi : i < m
        · have := (hf ⟨i, hi⟩).2
          simp only [hi, dif_pos]
          exact wf_u32 this
        · simp only [hi, dif_neg, not_false_eq_true]; exact u0
theorem open_codes {H : Type} {enc : TypeId × Value → H} {w : World} {base b0 : Nat} {held : Bool} {r : Reach} {v : Value} {d : DataW H} {p : List MemPlace} (hv : Value.okWide Tryz.prog w r b0 22 v) (h : DataW.Trod enc Tryz.prog w base (fun _ => true) held 22 v d p) : ∃ A cap l, v = .slice A l.length cap ∧ View slE w A cap l ∧ ∀ m ∈ l, InOk w m :=
  open_recs (E := slE) Tryz.underlying22 (by kernel_rfl) (fun _ _ _ h => open_in h) hv h
theorem cds_W {W : World} {A : Option Addr} {cap : Nat} {l : List (Option Addr × Nat × List Int)} (h : View slE W A cap l) (hi : ∀ m ∈ l, InOk W m) : Cds (.hp (hpP W)) A cap l :=
  ⟨view_W h, fun m hm h0 => view_W ((hi m hm).v h0), fun m hm => (hi m hm).z, fun m hm => (hi m hm).n, fun m hm => (hi m hm).u⟩
end Go.Proofs.YtpfijldkkfiooaaGreatDoor
namespace Go.Proofs.YtpfijldkkfiooaaGreatDoor
open Go Go.RowKit Go.ChangeShapes Go.WideShapes Go.ChangeAt Go.Deep
set_option maxRecDepth 20000
theorem wf_u8 {a : Int} (h : (Lit.int .u8 a).wf = true) : 0 ≤ a ∧ a < 256 := by
  simp [Lit.wf, IntKind.min, IntKind.max, IntKind.signed, IntKind.bits] at h
  omega
theorem wf_i64 {a : Int} (h : (Lit.int .i64 a).wf = true) : -9223372036854775808 ≤ a ∧ a ≤ 9223372036854775807 := by
  simp [Lit.wf, IntKind.min, IntKind.max, IntKind.signed, IntKind.bits] at h
  omega
theorem wld_cells {w : World} {r : Reach} {b0 : Nat} {v : Value} (hv : Value.okWide Tryz.prog w r b0 25 v) : ∃ v0 v1 v2 v3, v = .agg #[v0, v1, v2, v3] ∧ Value.okWide Tryz.prog w r b0 22 v0 ∧ Value.okWide Tryz.prog w r b0 23 v1 := by
  simp only [Value.okWide, Tryz.underlying25] at hv
  obtain ⟨cs, rfl, hsz, ts, hts, _, hall⟩ := hv
  have hC : Tryz.prog.cellsOf 25 = 4 := by kernel_rfl
  rw [hC] at hsz
  obtain rfl : ts = [22, 23, 3, 3] := Option.some.inj (hts.symm.trans (by kernel_rfl))
  obtain ⟨l⟩ := cs
  match l, hsz with
  | [v0, v1, v2, v3], _ =>
    refine ⟨v0, v1, v2, v3, rfl, ?_, ?_⟩
    · obtain ⟨u, hu, ho⟩ := hall 0 v0 rfl
      obtain rfl : 22 = u := Option.some.inj hu
      simp only [Value.okWide, Tryz.underlying22]
      exact ho
    · obtain ⟨u, hu, ho⟩ := hall 1 v1 rfl
      obtain rfl : 23 = u := Option.some.inj hu
      simp only [Value.okWide, Tryz.underlying23]
      exact ho
theorem open_wld {H : Type} {enc : TypeId × Value → H} {w : World} {base b0 : Nat} {held : Bool} {r : Reach} {v : Value} {d : DataW H} {p : List MemPlace} (hv : Value.okWide Tryz.prog w r b0 25 v) (h : DataW.Trod enc Tryz.prog w base (fun _ => true) held 25 v d p) :
    ∃ x : Wld, v = .agg x.cells.toArray ∧ View slE w x.A x.cap x.l ∧ (∀ m ∈ x.l, InOk w m) ∧ View u8E w x.B x.capb x.bs ∧ ∀ a ∈ x.bs, 0 ≤ a ∧ a < 256 := by
  obtain ⟨v0, v1, v2, v3, rfl, o0, o1⟩ := wld_cells hv
  obtain ⟨fuel, hf⟩ := h
  obtain ⟨xs, n, _, _, hl, hlen, hg⟩ := DataW.trod_struct Tryz.underlying25 hf
  match xs, hlen with
  | [y0, y1, y2, y3], _ =>
    have c22 : Tryz.prog.cellsOf 22 = 1 := by kernel_rfl
    have c23 : Tryz.prog.cellsOf 23 = 1 := by kernel_rfl
    have c3 : Tryz.prog.cellsOf 3 = 1 := by kernel_rfl
    have h0 : DataW.trod enc Tryz.prog w base (fun _ => true) held n 22 (([v0, v1, v2, v3].drop 0).take (Tryz.prog.cellsOf 22)) = some y0 := hg 0 _ rfl
    have h1 : DataW.trod enc Tryz.prog w base (fun _ => true) held n 23 (([v0, v1, v2, v3].drop 1).take (Tryz.prog.cellsOf 23)) = some y1 := hg 1 _ rfl
    have h2 : DataW.trod enc Tryz.prog w base (fun _ => true) held n 3 (([v0, v1, v2, v3].drop 2).take (Tryz.prog.cellsOf 3)) = some y2 := hg 2 _ rfl
    have h3 : DataW.trod enc Tryz.prog w base (fun _ => true) held n 3 (([v0, v1, v2, v3].drop 3).take (Tryz.prog.cellsOf 3)) = some y3 := hg 3 _ rfl
    rw [c22] at h0
    rw [c23] at h1
    rw [c3] at h2 h3
    obtain ⟨a2, e2, _⟩ := DataW.trod_int Tryz.underlying3 h2
    obtain ⟨a3, e3, _⟩ := DataW.trod_int Tryz.underlying3 h3
    obtain rfl : v2 = .int .i64 a2 := by simpa using e2
    obtain rfl : v3 = .int .i64 a3 := by simpa using e3
    have k0 : DataW.Trod enc Tryz.prog w base (fun _ => true) held 22 v0 y0.1 y0.2 := by
      obtain ⟨A, len, cap, rfl⟩ := okWide_slice Tryz.underlying22 o0
      exact ⟨n, h0⟩
    have k1 : DataW.Trod enc Tryz.prog w base (fun _ => true) held 23 v1 y1.1 y1.2 := by
      obtain ⟨A, len, cap, rfl⟩ := okWide_slice Tryz.underlying23 o1
      exact ⟨n, h1⟩
    obtain ⟨A, cap, l, rfl, hA, hi⟩ := open_codes o0 k0
    obtain ⟨B, capb, bs, rfl, hB, hb⟩ := open_recs (E := u8E) (OK := fun a => 0 ≤ a ∧ a < 256) Tryz.underlying23 (by kernel_rfl) (fun _ _ _ h => by
      obtain ⟨z, e, _, wz⟩ := DataW.trod_int Tryz.underlying5 h
      exact ⟨z, wf_u8 wz, e⟩) o1 k1
    exact ⟨⟨A, cap, l, B, capb, bs, a2, a3⟩, rfl, hA, hi, hB, hb⟩
theorem wld_in {W : World} {x : Wld} (hA : View slE W x.A x.cap x.l) (hi : ∀ m ∈ x.l, InOk W m) (hB : View u8E W x.B x.capb x.bs) (hb : ∀ a ∈ x.bs, 0 ≤ a ∧ a < 256) : x.In (.hp (hpP W)) := ⟨cds_W hA hi, view_W hB, hb⟩
theorem open_cho {H : Type} {enc : TypeId × Value → H} {w : World} {base : Nat} {held : Bool} {fuel : Nat} {cs : List Value} {x : DataW H × List MemPlace} (h : DataW.trod enc Tryz.prog w base (fun _ => true) held fuel 71 cs = some x) : ∃ m : Cho, ChoIn m ∧ cs = choE.cells m := by
  obtain ⟨xs, n, _, _, hl, hlen, hg⟩ := DataW.trod_struct Tryz.underlying71 h
  have hC : Tryz.prog.cellsOf 71 = 3 := by kernel_rfl
  rw [hC] at hl
  match cs, hl, xs, hlen with
  | [v0, v1, v2], _, [y0, y1, y2], _ =>
    have h0 := hg 0 _ rfl
    have h1 := hg 1 _ rfl
    have h2 := hg 2 _ rfl
    obtain ⟨a0, e0, _⟩ := DataW.trod_int (k := .i64) (by kernel_rfl) (show _ = some y0 from h0)
    obtain ⟨a1, e1, _, w1⟩ := DataW.trod_int (k := .i64) (by kernel_rfl) (show _ = some y1 from h1)
    obtain ⟨a2, e2, _, w2⟩ := DataW.trod_int (k := .i64) (by kernel_rfl) (show _ = some y2 from h2)
    refine ⟨⟨a0, a1, a2⟩, ⟨wf_i64 w1, wf_i64 w2⟩, ?_⟩
    have d0 : [v0] = [Value.int .i64 a0] := e0
    have d1 : [v1] = [Value.int .i64 a1] := e1
    have d2 : [v2] = [Value.int .i64 a2] := e2
    show [v0, v1, v2] = [Value.int .i64 a0, .int .i64 a1, .int .i64 a2]
    simp_all
theorem open_chos {H : Type} {enc : TypeId × Value → H} {w : World} {base b0 : Nat} {held : Bool} {r : Reach} {v : Value} {d : DataW H} {p : List MemPlace} (hv : Value.okWide Tryz.prog w r b0 26 v) (h : DataW.Trod enc Tryz.prog w base (fun _ => true) held 26 v d p) : ∃ A cap l, v = .slice A l.length cap ∧ View choE w A cap l ∧ ∀ m ∈ l, ChoIn m :=
  open_recs (E := choE) Tryz.underlying26 (by kernel_rfl) (fun _ _ _ h => open_cho h) hv h
theorem chos_q {W : World} (h0 : W.heap[0]? = some (.cells spL.toArray 405 (0, 0))) (h1 : 1 < W.heap.size) {A : Option Addr} {cap : Nat} {l : List Cho} (h : View choE W A cap l) : Rd choE (.hp (hpQ W)) A cap l := fun hh hd w hl => by
  obtain ⟨h2, h3, h4⟩ := h
  have at_ : ∀ k, k ≠ 0 → k < W.heap.size → w.heap[k]? = W.heap[k]? := fun k hk hks => by
    rw [Array.getElem?_eq_getElem hks]
    exact hl k _ (hd k _ hk (Array.getElem?_eq_getElem hks))
  have size : W.heap.size ≤ w.heap.size := by
    have := at_ (W.heap.size - 1) (by omega) (by omega)
    rw [Array.getElem?_eq_getElem (show W.heap.size - 1 < W.heap.size by omega)] at this
    have := (Array.getElem?_eq_some_iff.1 this).1
    omega
  refine ⟨h2, h3, h4.imp id fun ⟨g, o, hA, hg, hr⟩ => ⟨g, o, hA, Nat.lt_of_lt_of_le hg size, ?_⟩⟩
  by_cases hg0 : g = 0
  · subst hg0
    cases l with
    | nil => intro j v hj; simp at hj
    | cons c r =>
      have := hr 0 (.int .i64 c.kind) rfl
      unfold World.cell? at this
      simp only [h0] at this
      exfalso
      have hall : ∀ v ∈ spL, ∃ z, v = .int .u8 z := fun v hv => by
        obtain ⟨z, _, rfl⟩ := List.mem_map.1 hv
        exact ⟨_, rfl⟩
      have hm : Value.int .i64 c.kind ∈ spL := by
        have h5 : spL.toArray[o + 0]? = some (.int .i64 c.kind) := by
          first | exact this | simpa using this
        rw [List.getElem?_toArray] at h5
        exact List.mem_of_getElem? h5
      obtain ⟨z, e⟩ := hall _ hm
      cases e
  · intro j v hj
    have := hr j v hj
    unfold World.cell? at this ⊢
    rw [show (⟨g, o + j, none⟩ : Addr).block = g from rfl, at_ g hg0 hg]
    exact this
end Go.Proofs.YtpfijldkkfiooaaGreatDoor
namespace Go.Proofs.YtpfijldkkfiooaaGreatDoor.topAgain
open Go Go.ChangeShapes Go.ChangeAt
set_option maxRecDepth 100000
theorem and_i {a b : Bool} (h : a = true) (k : b = true) : (a && b) = true := by rw [h, k]; rfl
theorem j0 : (Rows.topAgainRow.wf (OpenSpec.ofChange Rows.topAgainSpec)) = true := by kernel_rfl
theorem j1 : (laidOutB Tryz.prog) = true := by kernel_rfl
theorem j2 : (mapsRowed Tryz.prog) = true := by kernel_rfl
theorem j3 : (Tryz.f3.params.all (Tryz.prog.readableRec ·)) = true := by kernel_rfl
theorem j4 : (namedTie Tryz.prog Rows.topAgainRow.named Rows.topAgainSpec.vars) = true := by kernel_rfl
theorem j5 : ((Rows.topAgainRow.stops == [])) = true := by kernel_rfl
theorem j6 : ((Tryz.prog.stops == [])) = true := by kernel_rfl
theorem j7 : ((Rows.topAgainRow.knobs == [])) = true := by kernel_rfl
theorem j8 : ((Tryz.prog.stopKnobs == [])) = true := by kernel_rfl
theorem j9 : ((Rows.topAgainRow.inPlace == Tryz.prog.inPlace 3)) = true := by kernel_rfl
theorem j10 : ((Rows.topAgainRow.unfollowed == Tryz.prog.unfollowed 3)) = true := by kernel_rfl
theorem j11 : ((Rows.topAgainRow.recurses == Tryz.prog.recurses 3)) = true := by kernel_rfl
theorem j12 : ((Rows.topAgainRow.named == Tryz.prog.varsNamed 3)) = true := by kernel_rfl
theorem j13 : ((Rows.topAgainRow.maps == (Tryz.f3.params.toList ++ Rows.topAgainSpec.plain.varTypes Tryz.prog).any (Tryz.prog.mapsRec ·))) = true := by kernel_rfl
theorem j14 : ((Rows.topAgainRow.ifaces == (Tryz.f3.params.toList ++ Rows.topAgainSpec.plain.varTypes Tryz.prog).any (Tryz.prog.ifacesRec ·))) = true := by kernel_rfl
theorem j15 : ((Rows.topAgainRow.mapsOut == Tryz.prog.mapsAmong Tryz.f3.resultTypes.toList)) = true := by kernel_rfl
theorem j16 : ((Rows.topAgainRow.loops == (Tryz.f3.params.toList ++ Rows.topAgainSpec.plain.varTypes Tryz.prog).any (Tryz.prog.loopsFrom ·))) = true := by kernel_rfl
theorem j17 : ((Rows.topAgainRow.wideKeys == (Tryz.f3.params.toList ++ Rows.topAgainSpec.plain.varTypes Tryz.prog ++ Tryz.f3.resultTypes.toList).any (Tryz.prog.wideKeysFrom ·))) = true := by kernel_rfl
theorem j18 : (Rows.topAgainSpec.vars.all (Tryz.prog.varReadable ·)) = true := by kernel_rfl
theorem j19 : (Tryz.f3.resultTypes.all (fun t => Tryz.prog.readableRec t && decide (t < Tryz.prog.types.size))) = true := by kernel_rfl
theorem j20 : ((Rows.topAgainRow.ifacesOut == Tryz.f3.resultTypes.toList.any (Tryz.prog.ifacesRec ·))) = true := by kernel_rfl
theorem j21 : ((Rows.topAgainRow.loopsOut == Tryz.f3.resultTypes.toList.any (Tryz.prog.loopsFrom ·))) = true := by kernel_rfl
theorem j22 : ((Rows.topAgainRow.plainKeys == Tryz.prog.plainKeys)) = true := by kernel_rfl
theorem j23 : (Rows.topAgainRow.shortTexts.isNone) = true := by kernel_rfl
theorem j24 : (Tryz.prog.stopsHeard) = true := by kernel_rfl
theorem j25 : (Tryz.prog.mayEnter) = true := by kernel_rfl
theorem j26 : ((Rows.topAgainRow.lifted == Tryz.prog.liftsFinal)) = true := by kernel_rfl
theorem j27 : ((Tryz.prog.make == some Rows.topAgainRow.make)) = true := by kernel_rfl
theorem j28 : ((Rows.topAgainRow.kinds == (if Rows.topAgainRow.domain.isEmpty then [] else Tryz.f3.params.toList.map fun t => match Tryz.prog.underlying t with | some (.int k) => some k | _ => none))) = true := by kernel_rfl
theorem j29 : ((Rows.topAgainRow.pinned == Rows.topAgainRow.pinnedBy)) = true := by kernel_rfl
theorem j30 : ((Rows.topAgainRow.veiled == (Tryz.f3.params.toList ++ Rows.topAgainSpec.plain.varTypes Tryz.prog ++ Tryz.f3.resultTypes.toList).any (Tryz.prog.veiledRec ·))) = true := by kernel_rfl
theorem j31 : (Rows.topAgainRow.veiledFits Tryz.prog Tryz.f3.params.toList (Tryz.f3.params.toList ++ Rows.topAgainSpec.plain.varTypes Tryz.prog ++ Tryz.f3.resultTypes.toList)) = true := by kernel_rfl
theorem joined : joinedFacts Tryz.prog 3 Tryz.f3 Rows.topAgainSpec Rows.topAgainRow = true := by
  unfold joinedFacts
  exact (and_i (and_i (and_i (and_i (and_i (and_i (and_i (and_i (and_i (and_i (and_i (and_i (and_i (and_i (and_i (and_i (and_i (and_i (and_i (and_i (and_i (and_i (and_i (and_i (and_i (and_i (and_i (and_i (and_i (and_i (and_i j0 j1) j2) j3) j4) j5) j6) j7) j8) j9) j10) j11) j12) j13) j14) j15) j16) j17) j18) j19) j20) j21) j22) j23) j24) j25) j26) j27) j28) j29) j30) j31)
theorem named_ : Tryz.prog.funcNamed Rows.topAgainRow.func = some 3 := by kernel_rfl
theorem inst_ : Tryz.f3.isInstance Tryz.prog Rows.topAgainRow.origin Rows.topAgainRow.targs := of_decide_eq_true (by kernel_rfl)
theorem wrap_ : Tryz.f3.isWrapper Tryz.prog Rows.topAgainRow.wrapper Rows.topAgainRow.mainSum := by
  unfold Func.isWrapper
  first | (rw [if_pos (by decide +kernel)]; kernel_rfl) | (rw [if_neg (by decide +kernel)]; exact ⟨rfl, rfl⟩)
theorem byText : Rows.topAgainRow.wfByText (OpenSpec.ofChange Rows.topAgainSpec) = true := by kernel_rfl
theorem main_ : Tryz.prog.mainIs = some (true, "c003083851c4145e9b485e1c10402ef697cc3a8e20588172964b099e0e01a0ae".toList) := by kernel_rfl
theorem looks_ : true = Tryz.prog.looks [] := by kernel_rfl
theorem goes_ : false = Rows.topAgainRow.goesBy Tryz.prog := by kernel_rfl
theorem stand3 : Tryz.prog.wantsStandIn 3 = false := by kernel_rfl
theorem stand25 : Tryz.prog.wantsStandIn 25 = false := by kernel_rfl
theorem stand26 : Tryz.prog.wantsStandIn 26 = false := by kernel_rfl
theorem own_ : ownKnob Tryz.prog.godebug = none := by kernel_rfl
theorem laidOut : laidOutB Tryz.prog = true := j1
theorem door_met (os : Os) (args : Array Value) : laidMetH Tryz.prog Rows.topAgainRow.laid ((World.doorLaid Tryz.prog 400 os).forCall (fun _ _ => 0) ⟨#[], args, []⟩).memory :=
  laidMetH_of_parts3 (fuel := 8) (laidMet_of_run' 8 (by kernel_rfl) (by kernel_rfl)) (by kernel_rfl) (by kernel_rfl)
end Go.Proofs.YtpfijldkkfiooaaGreatDoor.topAgain
