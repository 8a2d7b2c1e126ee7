/-
  Part 2 of what the claim stands on: walks through the code, plain laws.
-/
import Derived.Test.YtdiaemlgghfecaaZQueues1
namespace Go.Proofs.Ytdiaemlgghfecaa
open Go.RowKit
set_option maxRecDepth 100000 in
set_option maxHeartbeats 4000000 in
theorem rcache_c (n : Int) (w : World) : Calls Try.prog 57 #[.int .i64 n] w (Ret fun v w' => v = .bool (isCache n) ∧ w' = w) := by
 refine Zen 9 Try.func57 ?_
 refine Zsr ?_
 refine Za ?_
 refine Znn ?_
 refine Zsr ?_
 refine Zm ?_
 refine Zv _ (fun _ fr => x_geq rfl (fr.ev rfl) rfl rfl) ?_
 refine Zm ?_
 refine Zy (decide (0 ≤ n)) (.int .i64 n) (fun _ fr _ => x_move rfl (fr.ev rfl)) ?_
 refine Zy (decide (0 ≤ n)) _ (fun _ fr hg => x_leq rfl ((fr.ev rfl).trans (onlyIf_t hg)) rfl rfl) ?_
 refine Zv (.bool ((decide (0 ≤ n)) && (decide (n ≤ 3)))) (fun _ fr => x_pick_and rfl (fr.ev rfl) (fun hb => ((fr.ev rfl)).trans (onlyIf_t (by simp_all))) (fun _ => rfl) rfl) ?_
 refine Za ?_
 refine Znn ?_
 refine Zrt ?_
 refine Zre rfl [_] ⟨rfl, trivial⟩ ?_
 exact ⟨_, rfl, congrArg Value.bool (by simp [isCache]; try omega), rfl⟩
set_option maxRecDepth 100000 in
set_option maxHeartbeats 4000000 in
theorem refchk_c (m : Msg) (w : World) : Calls Try.prog 39 #[.agg (msgE.arr m)] w (Ret fun v w' => v = .int .i64 (chk m) ∧ New w w') := by
 have hF := Only.refl (fun _ => False) w
 refine Zen 68 Try.func39 ?_
 refine Zsr ?_
 refine Znb (cs := msgE.arr m) fun b1 w2 hN3 B4 hb5 => ?_
 refine Za ?_
 refine Znn ?_
 refine Zsr ?_
 refine Zf fo36_0 ?_
 refine Zd (v := .int .i64 m.kind) pl33 (B4.cell 0 rfl) ?_
 refine Zv _ (fun _ fr => x_eql rfl (fr.ev rfl) rfl rfl) ?_
 refine Zm ?_
 refine Zy (!(decide (m.kind = 3))) _ (fun _ fr _ => x_fieldAddr fo36_0 rfl (fr.ev rfl) rfl) ?_
 refine Zy (!(decide (m.kind = 3))) _ (fun _ fr hg => x_load1 pl33 rfl ((fr.ev rfl).trans (onlyIf_t hg)) (B4.cell 0 rfl)) ?_
 refine Zy (!(decide (m.kind = 3))) _ (fun _ fr hg => x_eql rfl ((fr.ev rfl).trans (onlyIf_t hg)) rfl rfl) ?_
 refine Zv (.bool ((decide (m.kind = 3)) || (decide (m.kind = 11)))) (fun _ fr => x_pick_or rfl (fr.ev rfl) (fun _ => rfl) (fun hb => ((fr.ev rfl)).trans (onlyIf_t (by simp_all))) rfl) ?_
 refine Zm ?_
 refine Zy (!((decide (m.kind = 3)) || (decide (m.kind = 11)))) _ (fun _ fr _ => x_fieldAddr fo36_0 rfl (fr.ev rfl) rfl) ?_
 refine Zy (!((decide (m.kind = 3)) || (decide (m.kind = 11)))) _ (fun _ fr hg => x_load1 pl33 rfl ((fr.ev rfl).trans (onlyIf_t hg)) (B4.cell 0 rfl)) ?_
 refine Zy (!((decide (m.kind = 3)) || (decide (m.kind = 11)))) _ (fun _ fr hg => x_eql rfl ((fr.ev rfl).trans (onlyIf_t hg)) rfl rfl) ?_
 refine Zv (.bool (((decide (m.kind = 3)) || (decide (m.kind = 11))) || (decide (m.kind = 8)))) (fun _ fr => x_pick_or rfl (fr.ev rfl) (fun _ => rfl) (fun hb => ((fr.ev rfl)).trans (onlyIf_t (by simp_all))) rfl) ?_
 refine Zm ?_
 refine Zy (!(((decide (m.kind = 3)) || (decide (m.kind = 11))) || (decide (m.kind = 8)))) _ (fun _ fr _ => x_fieldAddr fo36_0 rfl (fr.ev rfl) rfl) ?_
 refine Zy (!(((decide (m.kind = 3)) || (decide (m.kind = 11))) || (decide (m.kind = 8)))) _ (fun _ fr hg => x_load1 pl33 rfl ((fr.ev rfl).trans (onlyIf_t hg)) (B4.cell 0 rfl)) ?_
 refine Zy (!(((decide (m.kind = 3)) || (decide (m.kind = 11))) || (decide (m.kind = 8)))) _ (fun _ fr hg => x_eql rfl ((fr.ev rfl).trans (onlyIf_t hg)) rfl rfl) ?_
 refine Zv (.bool ((((decide (m.kind = 3)) || (decide (m.kind = 11))) || (decide (m.kind = 8))) || (decide (m.kind = 9)))) (fun _ fr => x_pick_or rfl (fr.ev rfl) (fun _ => rfl) (fun hb => ((fr.ev rfl)).trans (onlyIf_t (by simp_all))) rfl) ?_
 refine Zm ?_
 refine Zy (!((((decide (m.kind = 3)) || (decide (m.kind = 11))) || (decide (m.kind = 8))) || (decide (m.kind = 9)))) _ (fun _ fr _ => x_fieldAddr fo36_0 rfl (fr.ev rfl) rfl) ?_
 refine Zy (!((((decide (m.kind = 3)) || (decide (m.kind = 11))) || (decide (m.kind = 8))) || (decide (m.kind = 9)))) _ (fun _ fr hg => x_load1 pl33 rfl ((fr.ev rfl).trans (onlyIf_t hg)) (B4.cell 0 rfl)) ?_
 refine Zy (!((((decide (m.kind = 3)) || (decide (m.kind = 11))) || (decide (m.kind = 8))) || (decide (m.kind = 9)))) _ (fun _ fr hg => x_eql rfl ((fr.ev rfl).trans (onlyIf_t hg)) rfl rfl) ?_
 refine Zv (.bool (((((decide (m.kind = 3)) || (decide (m.kind = 11))) || (decide (m.kind = 8))) || (decide (m.kind = 9))) || (decide (m.kind = 10)))) (fun _ fr => x_pick_or rfl (fr.ev rfl) (fun _ => rfl) (fun hb => ((fr.ev rfl)).trans (onlyIf_t (by simp_all))) rfl) ?_
 refine Za ?_
 refine Znn ?_
 refine Zsq ?_
 refine Zsr ?_
 refine Zm ?_
 refine Zv _ (fun _ fr => x_not rfl (fr.ev rfl) rfl) ?_
 refine Zm ?_
 refine Zy (!(((((decide (m.kind = 3)) || (decide (m.kind = 11))) || (decide (m.kind = 8))) || (decide (m.kind = 9))) || (decide (m.kind = 10)))) _ (fun _ fr _ => x_fieldAddr fo36_4 rfl (fr.ev rfl) rfl) ?_
 refine Zy (!(((((decide (m.kind = 3)) || (decide (m.kind = 11))) || (decide (m.kind = 8))) || (decide (m.kind = 9))) || (decide (m.kind = 10)))) _ (fun _ fr hg => x_loadE (E := bsE) ag34 rfl rfl ((fr.ev rfl).trans (onlyIf_t hg)) (B4.part (msg_bs _))) ?_
 refine Zy (!(((((decide (m.kind = 3)) || (decide (m.kind = 11))) || (decide (m.kind = 8))) || (decide (m.kind = 9))) || (decide (m.kind = 10)))) (.agg (bsE.arr b16z)) (fun _ _ _ => x_build (cells := bsE.arr b16z) rfl (by kernel_rfl)) ?_
 refine Zy (!(((((decide (m.kind = 3)) || (decide (m.kind = 11))) || (decide (m.kind = 8))) || (decide (m.kind = 9))) || (decide (m.kind = 10)))) _ (fun _ fr hg => x_neE bsER rfl rfl ((fr.ev rfl).trans (onlyIf_t hg)) ((fr.ev rfl).trans (onlyIf_t hg)) rfl) ?_
 refine Zv (.bool ((!(((((decide (m.kind = 3)) || (decide (m.kind = 11))) || (decide (m.kind = 8))) || (decide (m.kind = 9))) || (decide (m.kind = 10)))) && (!decide (m.bs = b16z)))) (fun _ fr => x_pick_and rfl (fr.ev rfl) (fun hb => ((fr.ev rfl)).trans (onlyIf_t (by simp_all))) (fun _ => rfl) rfl) ?_
 refine Znn ?_
 refine Zcd (fun hc6 => ?_) (fun hc6 => ?_)
 ·have hc6s := hc6
  try simp at hc6s
  refine Zsr ?_
  refine Za ?_
  refine Znn ?_
  refine Zrt ?_
  refine Zr1 ?_
  refine Zre rfl [_] ⟨rfl, trivial⟩ ?_
  replace hF := hF.trNew hN3
  exact ⟨_, rfl, congrArg (Value.int .i64) (by have hx := home_not m.kind; by_cases e1 : m.dst = 4 <;> by_cases e2 : m.src = 4 <;> simp_all [chk, goodMsg, bytesK, bs0]), hF⟩
 ·have hc6s := hc6
  try simp at hc6s
  refine Zsk ?_
  refine Znx ?_
  refine Zsq ?_
  refine Zsr ?_
  refine Zf fo36_0 ?_
  refine Zd (v := .int .i64 m.kind) pl33 (B4.cell 0 rfl) ?_
  refine Znn ?_
  refine Zbl ?_
  intro a fr
  refine fx_join (fun a w => w2 = w ∧ Fr (68, []) [(1, .pointer (some ⟨b1, 0, none⟩)), (36, .int .i64 m.kind), (37, .bool (homeK m.kind))] a) ?_ ?_
  ·revert a
   refine Zsr ?_
   refine Zv _ (fun _ fr => x_eql rfl (fr.ev rfl) rfl rfl) ?_
   refine Za ?_
   refine Znn ?_
   refine Zcd (fun hc7 => ?_) (fun hc7 => ?_)
   ·have hc7 := of_decide_eq_true hc7
    refine Zsk ?_
    intro a fr
    refine fx_next ?_
    exact ⟨rfl, fr.sub ⟨rfl, rfl, by show look _ 37 = some (.bool (homeK m.kind)); rw [show homeK m.kind = decide (m.kind = 1) by simp [homeK, hc6, hc7]]; rfl, trivial⟩⟩
   ·have hc7 := of_decide_eq_false hc7
    refine Zsr ?_
    refine Zv _ (fun _ fr => x_eql rfl (fr.ev rfl) rfl rfl) ?_
    refine Za ?_
    refine Znn ?_
    refine Zcd (fun hc8 => ?_) (fun hc8 => ?_)
    ·have hc8 := of_decide_eq_true hc8
     refine Zsk ?_
     intro a fr
     refine fx_next ?_
     exact ⟨rfl, fr.sub ⟨rfl, rfl, by show look _ 37 = some (.bool (homeK m.kind)); rw [show homeK m.kind = decide (m.kind = 2) by simp [homeK, hc6, hc7, hc8]]; rfl, trivial⟩⟩
    ·have hc8 := of_decide_eq_false hc8
     refine Zsr ?_
     refine Zv _ (fun _ fr => x_eql rfl (fr.ev rfl) rfl rfl) ?_
     refine Za ?_
     refine Znn ?_
     refine Zcd (fun hc9 => ?_) (fun hc9 => ?_)
     ·have hc9 := of_decide_eq_true hc9
      refine Zsk ?_
      intro a fr
      refine fx_next ?_
      exact ⟨rfl, fr.sub ⟨rfl, rfl, by show look _ 37 = some (.bool (homeK m.kind)); rw [show homeK m.kind = decide (m.kind = 3) by simp [homeK, hc6, hc7, hc8, hc9]]; rfl, trivial⟩⟩
     ·have hc9 := of_decide_eq_false hc9
      refine Zsr ?_
      refine Zv _ (fun _ fr => x_eql rfl (fr.ev rfl) rfl rfl) ?_
      refine Za ?_
      refine Znn ?_
      refine Zcd (fun hc10 => ?_) (fun hc10 => ?_)
      ·have hc10 := of_decide_eq_true hc10
       refine Zsk ?_
       intro a fr
       refine fx_next ?_
       exact ⟨rfl, fr.sub ⟨rfl, rfl, by show look _ 37 = some (.bool (homeK m.kind)); rw [show homeK m.kind = decide (m.kind = 11) by simp [homeK, hc6, hc7, hc8, hc9, hc10]]; rfl, trivial⟩⟩
      ·have hc10 := of_decide_eq_false hc10
       refine Zsr ?_
       refine Zv _ (fun _ fr => x_eql rfl (fr.ev rfl) rfl rfl) ?_
       refine Za ?_
       refine Znn ?_
       refine Zcd (fun hc11 => ?_) (fun hc11 => ?_)
       ·have hc11 := of_decide_eq_true hc11
        refine Zsk ?_
        intro a fr
        refine fx_next ?_
        exact ⟨rfl, fr.sub ⟨rfl, rfl, by show look _ 37 = some (.bool (homeK m.kind)); rw [show homeK m.kind = decide (m.kind = 12) by simp [homeK, hc6, hc7, hc8, hc9, hc10, hc11]]; rfl, trivial⟩⟩
       ·have hc11 := of_decide_eq_false hc11
        refine Zrg ?_
        refine Zv _ (fun _ fr => x_eql rfl (fr.ev rfl) rfl rfl) ?_
        refine Za ?_
        intro a fr
        refine wpList_nil ?_
        refine fx_next ?_
        exact ⟨rfl, fr.sub ⟨rfl, rfl, by show look _ 37 = some (.bool (homeK m.kind)); rw [show homeK m.kind = decide (m.kind = 13) by simp [homeK, hc6, hc7, hc8, hc9, hc10, hc11]]; rfl, trivial⟩⟩
  clear fr a
  rintro a _ ⟨rfl, fr⟩
  revert a
  refine Zcd (fun hc12 => ?_) (fun hc12 => ?_)
  ·refine Zsr ?_
   refine Zf fo36_1 ?_
   refine Zd (v := .int .i64 m.src) pl3 (B4.cell 1 rfl) ?_
   refine Zk cf57 (rcache_c m.src _) ?_
   rintro v w9 ⟨rfl, hw9⟩
   obtain rfl := hw9.symm
   refine Zm ?_
   refine Zy (isCache m.src) _ (fun _ fr _ => x_fieldAddr fo36_2 rfl (fr.ev rfl) rfl) ?_
   refine Zy (isCache m.src) _ (fun _ fr hg => x_load1 pl3 rfl ((fr.ev rfl).trans (onlyIf_t hg)) (B4.cell 2 rfl)) ?_
   refine Zy (isCache m.src) _ (fun _ fr hg => x_eql rfl ((fr.ev rfl).trans (onlyIf_t hg)) rfl rfl) ?_
   refine Zv (.bool ((isCache m.src) && (decide (m.dst = 4)))) (fun _ fr => x_pick_and rfl (fr.ev rfl) (fun hb => ((fr.ev rfl)).trans (onlyIf_t (by simp_all))) (fun _ => rfl) rfl) ?_
   refine Znn ?_
   refine Zcd (fun hc15 => ?_) (fun hc15 => ?_)
   ·have hc15s := hc15
    try simp at hc15s
    refine Zsr ?_
    refine Za ?_
    refine Znn ?_
    refine Zrt ?_
    refine Zr2 ?_
    refine Zr1 ?_
    refine Zre rfl [_] ⟨rfl, trivial⟩ ?_
    replace hF := hF.trNew hN3
    exact ⟨_, rfl, congrArg (Value.int .i64) (by have hx := home_not m.kind; by_cases e1 : m.dst = 4 <;> by_cases e2 : m.src = 4 <;> simp_all [chk, goodMsg, bytesK, bs0]), hF⟩
   ·have hc15s := hc15
    try simp at hc15s
    refine Zsk ?_
    refine Zb ?_
    refine Znx ?_
    refine Zsr ?_
    refine Za ?_
    refine Znn ?_
    refine Zrt ?_
    refine Zre rfl [_] ⟨rfl, trivial⟩ ?_
    replace hF := hF.trNew hN3
    exact ⟨_, rfl, congrArg (Value.int .i64) (by have hx := home_not m.kind; by_cases e1 : m.dst = 4 <;> by_cases e2 : m.src = 4 <;> simp_all [chk, goodMsg, bytesK, bs0]), hF⟩
  ·intro a fr
   refine fx_join (fun a w => w2 = w ∧ Fr (68, []) [(1, .pointer (some ⟨b1, 0, none⟩)), (36, .int .i64 m.kind), (37, .bool (homeK m.kind)), (52, .bool (cacheK m.kind))] a) ?_ ?_
   ·revert a
    refine Zsr ?_
    refine Zv _ (fun _ fr => x_eql rfl (fr.ev rfl) rfl rfl) ?_
    refine Za ?_
    refine Znn ?_
    refine Zcd (fun hc16 => ?_) (fun hc16 => ?_)
    ·have hc16 := of_decide_eq_true hc16
     refine Zsk ?_
     intro a fr
     refine fx_next ?_
     exact ⟨rfl, fr.sub ⟨rfl, rfl, rfl, by show look _ 52 = some (.bool (cacheK m.kind)); rw [show cacheK m.kind = decide (m.kind = 4) by simp [cacheK, hc6, hc12, hc16]]; rfl, trivial⟩⟩
    ·have hc16 := of_decide_eq_false hc16
     refine Zsr ?_
     refine Zv _ (fun _ fr => x_eql rfl (fr.ev rfl) rfl rfl) ?_
     refine Za ?_
     refine Znn ?_
     refine Zcd (fun hc17 => ?_) (fun hc17 => ?_)
     ·have hc17 := of_decide_eq_true hc17
      refine Zsk ?_
      intro a fr
      refine fx_next ?_
      exact ⟨rfl, fr.sub ⟨rfl, rfl, rfl, by show look _ 52 = some (.bool (cacheK m.kind)); rw [show cacheK m.kind = decide (m.kind = 5) by simp [cacheK, hc6, hc12, hc16, hc17]]; rfl, trivial⟩⟩
     ·have hc17 := of_decide_eq_false hc17
      refine Zsr ?_
      refine Zv _ (fun _ fr => x_eql rfl (fr.ev rfl) rfl rfl) ?_
      refine Za ?_
      refine Znn ?_
      refine Zcd (fun hc18 => ?_) (fun hc18 => ?_)
      ·have hc18 := of_decide_eq_true hc18
       refine Zsk ?_
       intro a fr
       refine fx_next ?_
       exact ⟨rfl, fr.sub ⟨rfl, rfl, rfl, by show look _ 52 = some (.bool (cacheK m.kind)); rw [show cacheK m.kind = decide (m.kind = 6) by simp [cacheK, hc6, hc12, hc16, hc17, hc18]]; rfl, trivial⟩⟩
      ·have hc18 := of_decide_eq_false hc18
       refine Zsr ?_
       refine Zv _ (fun _ fr => x_eql rfl (fr.ev rfl) rfl rfl) ?_
       refine Za ?_
       refine Znn ?_
       refine Zcd (fun hc19 => ?_) (fun hc19 => ?_)
       ·have hc19 := of_decide_eq_true hc19
        refine Zsk ?_
        intro a fr
        refine fx_next ?_
        exact ⟨rfl, fr.sub ⟨rfl, rfl, rfl, by show look _ 52 = some (.bool (cacheK m.kind)); rw [show cacheK m.kind = decide (m.kind = 7) by simp [cacheK, hc6, hc12, hc16, hc17, hc18, hc19]]; rfl, trivial⟩⟩
       ·have hc19 := of_decide_eq_false hc19
        refine Zsr ?_
        refine Zv _ (fun _ fr => x_eql rfl (fr.ev rfl) rfl rfl) ?_
        refine Za ?_
        refine Znn ?_
        refine Zcd (fun hc20 => ?_) (fun hc20 => ?_)
        ·have hc20 := of_decide_eq_true hc20
         refine Zsk ?_
         intro a fr
         refine fx_next ?_
         exact ⟨rfl, fr.sub ⟨rfl, rfl, rfl, by show look _ 52 = some (.bool (cacheK m.kind)); rw [show cacheK m.kind = decide (m.kind = 8) by simp [cacheK, hc6, hc12, hc16, hc17, hc18, hc19, hc20]]; rfl, trivial⟩⟩
        ·have hc20 := of_decide_eq_false hc20
         refine Zsr ?_
         refine Zv _ (fun _ fr => x_eql rfl (fr.ev rfl) rfl rfl) ?_
         refine Za ?_
         refine Znn ?_
         refine Zcd (fun hc21 => ?_) (fun hc21 => ?_)
         ·have hc21 := of_decide_eq_true hc21
          refine Zsk ?_
          intro a fr
          refine fx_next ?_
          exact ⟨rfl, fr.sub ⟨rfl, rfl, rfl, by show look _ 52 = some (.bool (cacheK m.kind)); rw [show cacheK m.kind = decide (m.kind = 9) by simp [cacheK, hc6, hc12, hc16, hc17, hc18, hc19, hc20, hc21]]; rfl, trivial⟩⟩
         ·have hc21 := of_decide_eq_false hc21
          refine Zrg ?_
          refine Zv _ (fun _ fr => x_eql rfl (fr.ev rfl) rfl rfl) ?_
          refine Za ?_
          intro a fr
          refine wpList_nil ?_
          refine fx_next ?_
          exact ⟨rfl, fr.sub ⟨rfl, rfl, rfl, by show look _ 52 = some (.bool (cacheK m.kind)); rw [show cacheK m.kind = decide (m.kind = 10) by simp [cacheK, hc6, hc12, hc16, hc17, hc18, hc19, hc20, hc21]]; rfl, trivial⟩⟩
   clear fr a
   rintro a _ ⟨rfl, fr⟩
   revert a
   refine Zcd (fun hc22 => ?_) (fun hc22 => ?_)
   ·refine Zsr ?_
    refine Zf fo36_1 ?_
    refine Zd (v := .int .i64 m.src) pl3 (B4.cell 1 rfl) ?_
    refine Zv _ (fun _ fr => x_eql rfl (fr.ev rfl) rfl rfl) ?_
    refine Zm ?_
    refine Zy (decide (m.src = 4)) _ (fun _ fr _ => x_fieldAddr fo36_2 rfl (fr.ev rfl) rfl) ?_
    refine Zy (decide (m.src = 4)) _ (fun _ fr hg => x_load1 pl3 rfl ((fr.ev rfl).trans (onlyIf_t hg)) (B4.cell 2 rfl)) ?_
    rcases Bool.eq_false_or_eq_true (decide (m.src = 4)) with hc23 | hc23
    ·intro a fr
     rw [hc23] at fr
     revert a
     have hc23 := of_decide_eq_true hc23
     refine Zkx (fun _ fr => x_call (vs := [.int .i64 m.dst]) rfl rfl ⟨((fr.ev rfl).trans (onlyIf_t rfl)), trivial⟩ Try.func57 nm57 rfl) (rcache_c m.dst _) ?_
     rintro v w9 ⟨rfl, hw9⟩
     obtain rfl := hw9.symm
     refine Zpt ?_
     refine Znn ?_
     refine Zcd (fun hc26 => ?_) (fun hc26 => ?_)
     ·refine Zsr ?_
      refine Za ?_
      refine Znn ?_
      refine Zrt ?_
      refine Zr2 ?_
      refine Zr1 ?_
      refine Zre rfl [_] ⟨rfl, trivial⟩ ?_
      replace hF := hF.trNew hN3
      exact ⟨_, rfl, congrArg (Value.int .i64) (by have hx := home_not m.kind; by_cases e1 : m.dst = 4 <;> by_cases e2 : m.src = 4 <;> simp_all [chk, goodMsg, bytesK, bs0]), hF⟩
     ·refine Zsk ?_
      refine Zb ?_
      refine Znx ?_
      refine Zsr ?_
      refine Za ?_
      refine Znn ?_
      refine Zrt ?_
      refine Zre rfl [_] ⟨rfl, trivial⟩ ?_
      replace hF := hF.trNew hN3
      exact ⟨_, rfl, congrArg (Value.int .i64) (by have hx := home_not m.kind; by_cases e1 : m.dst = 4 <;> by_cases e2 : m.src = 4 <;> simp_all [chk, goodMsg, bytesK, bs0]), hF⟩
    ·intro a fr
     rw [hc23] at fr
     revert a
     have hc23 := of_decide_eq_false hc23
     refine Zs ?_
     refine Zpf ?_
     refine Znn ?_
     refine Zcf ?_
     refine Zsk ?_
     refine Zb ?_
     refine Znx ?_
     refine Zsr ?_
     refine Za ?_
     refine Znn ?_
     refine Zrt ?_
     refine Zre rfl [_] ⟨rfl, trivial⟩ ?_
     replace hF := hF.trNew hN3
     exact ⟨_, rfl, congrArg (Value.int .i64) (by have hx := home_not m.kind; by_cases e1 : m.dst = 4 <;> by_cases e2 : m.src = 4 <;> simp_all [chk, goodMsg, bytesK, bs0]), hF⟩
   ·refine Zsk ?_
    refine Zb ?_
    refine Znx ?_
    refine Zsr ?_
    refine Za ?_
    refine Znn ?_
    refine Zrt ?_
    refine Zre rfl [_] ⟨rfl, trivial⟩ ?_
    replace hF := hF.trNew hN3
    exact ⟨_, rfl, congrArg (Value.int .i64) (by have hx := home_not m.kind; by_cases e1 : m.dst = 4 <;> by_cases e2 : m.src = 4 <;> simp_all [chk, goodMsg, bytesK, bs0]), hF⟩
set_option maxRecDepth 100000 in
set_option maxHeartbeats 4000000 in
theorem wants_c (w : World) : Calls Try.prog 47 #[] w (Ret fun v w' => ∃ r, v = .map (some r) ∧ w.heap.size ≤ r ∧ MapBlk w' r wantsEs 13 ∧ New w w') := by
 have hF := Only.refl (fun _ => False) w
 refine Zen 16 Try.func47 ?_
 refine Zsr ?_
 refine Za ?_
 refine Znn ?_
 refine Zsr ?_
 intro a fr
 refine fx_makeMap fr rfl rfl rfl (by first | decide | simp) ?_
 clear fr a
 intro r1 w2 hN3 M4 hb5
 have g_r1 := Nat.le_trans hF.size hb5
 refine Zv (.agg (#[.bool true, .bool false])) (fun _ _ => x_build (cells := #[.bool true, .bool false]) rfl (by kernel_rfl)) ?_
 intro a fr
 refine fx_insert (es' := #[⟨.int .i64 1, .agg (#[.bool true, .bool false]), 0⟩]) Try.underlying103 Try.underlying33 rfl rfl rfl (fr.ev rfl) rfl (fr.ev rfl) M4 rfl rfl fun w6 hO7 hBq => ?_
 revert a
 replace M4 := hBq
 clear hBq
 refine Zv (.agg (#[.bool true, .bool false])) (fun _ _ => x_build (cells := #[.bool true, .bool false]) rfl (by kernel_rfl)) ?_
 intro a fr
 refine fx_insert (es' := #[⟨.int .i64 1, .agg (#[.bool true, .bool false]), 0⟩, ⟨.int .i64 2, .agg (#[.bool true, .bool false]), 1⟩]) Try.underlying103 Try.underlying33 rfl rfl rfl (fr.ev rfl) rfl (fr.ev rfl) M4 rfl rfl fun w8 hO9 hBq => ?_
 revert a
 replace M4 := hBq
 clear hBq
 refine Zv (.agg (#[.bool true, .bool true])) (fun _ _ => x_build (cells := #[.bool true, .bool true]) rfl (by kernel_rfl)) ?_
 intro a fr
 refine fx_insert (es' := #[⟨.int .i64 1, .agg (#[.bool true, .bool false]), 0⟩, ⟨.int .i64 2, .agg (#[.bool true, .bool false]), 1⟩, ⟨.int .i64 3, .agg (#[.bool true, .bool true]), 2⟩]) Try.underlying103 Try.underlying33 rfl rfl rfl (fr.ev rfl) rfl (fr.ev rfl) M4 rfl rfl fun w10 hO11 hBq => ?_
 revert a
 replace M4 := hBq
 clear hBq
 refine Zv (.agg (#[.bool true, .bool true])) (fun _ _ => x_build (cells := #[.bool true, .bool true]) rfl (by kernel_rfl)) ?_
 intro a fr
 refine fx_insert (es' := #[⟨.int .i64 1, .agg (#[.bool true, .bool false]), 0⟩, ⟨.int .i64 2, .agg (#[.bool true, .bool false]), 1⟩, ⟨.int .i64 3, .agg (#[.bool true, .bool true]), 2⟩, ⟨.int .i64 11, .agg (#[.bool true, .bool true]), 3⟩]) Try.underlying103 Try.underlying33 rfl rfl rfl (fr.ev rfl) rfl (fr.ev rfl) M4 rfl rfl fun w12 hO13 hBq => ?_
 revert a
 replace M4 := hBq
 clear hBq
 refine Zv (.agg (#[.bool true, .bool false])) (fun _ _ => x_build (cells := #[.bool true, .bool false]) rfl (by kernel_rfl)) ?_
 intro a fr
 refine fx_insert (es' := #[⟨.int .i64 1, .agg (#[.bool true, .bool false]), 0⟩, ⟨.int .i64 2, .agg (#[.bool true, .bool false]), 1⟩, ⟨.int .i64 3, .agg (#[.bool true, .bool true]), 2⟩, ⟨.int .i64 11, .agg (#[.bool true, .bool true]), 3⟩, ⟨.int .i64 12, .agg (#[.bool true, .bool false]), 4⟩]) Try.underlying103 Try.underlying33 rfl rfl rfl (fr.ev rfl) rfl (fr.ev rfl) M4 rfl rfl fun w14 hO15 hBq => ?_
 revert a
 replace M4 := hBq
 clear hBq
 refine Zv (.agg (#[.bool true, .bool false])) (fun _ _ => x_build (cells := #[.bool true, .bool false]) rfl (by kernel_rfl)) ?_
 intro a fr
 refine fx_insert (es' := #[⟨.int .i64 1, .agg (#[.bool true, .bool false]), 0⟩, ⟨.int .i64 2, .agg (#[.bool true, .bool false]), 1⟩, ⟨.int .i64 3, .agg (#[.bool true, .bool true]), 2⟩, ⟨.int .i64 11, .agg (#[.bool true, .bool true]), 3⟩, ⟨.int .i64 12, .agg (#[.bool true, .bool false]), 4⟩, ⟨.int .i64 13, .agg (#[.bool true, .bool false]), 5⟩]) Try.underlying103 Try.underlying33 rfl rfl rfl (fr.ev rfl) rfl (fr.ev rfl) M4 rfl rfl fun w16 hO17 hBq => ?_
 revert a
 replace M4 := hBq
 clear hBq
 refine Zv (.agg (#[.bool false, .bool false])) (fun _ _ => x_build (cells := #[.bool false, .bool false]) rfl (by kernel_rfl)) ?_
 intro a fr
 refine fx_insert (es' := #[⟨.int .i64 1, .agg (#[.bool true, .bool false]), 0⟩, ⟨.int .i64 2, .agg (#[.bool true, .bool false]), 1⟩, ⟨.int .i64 3, .agg (#[.bool true, .bool true]), 2⟩, ⟨.int .i64 11, .agg (#[.bool true, .bool true]), 3⟩, ⟨.int .i64 12, .agg (#[.bool true, .bool false]), 4⟩, ⟨.int .i64 13, .agg (#[.bool true, .bool false]), 5⟩, ⟨.int .i64 4, .agg (#[.bool false, .bool false]), 6⟩]) Try.underlying103 Try.underlying33 rfl rfl rfl (fr.ev rfl) rfl (fr.ev rfl) M4 rfl rfl fun w18 hO19 hBq => ?_
 revert a
 replace M4 := hBq
 clear hBq
 refine Zv (.agg (#[.bool false, .bool false])) (fun _ _ => x_build (cells := #[.bool false, .bool false]) rfl (by kernel_rfl)) ?_
 intro a fr
 refine fx_insert (es' := #[⟨.int .i64 1, .agg (#[.bool true, .bool false]), 0⟩, ⟨.int .i64 2, .agg (#[.bool true, .bool false]), 1⟩, ⟨.int .i64 3, .agg (#[.bool true, .bool true]), 2⟩, ⟨.int .i64 11, .agg (#[.bool true, .bool true]), 3⟩, ⟨.int .i64 12, .agg (#[.bool true, .bool false]), 4⟩, ⟨.int .i64 13, .agg (#[.bool true, .bool false]), 5⟩, ⟨.int .i64 4, .agg (#[.bool false, .bool false]), 6⟩, ⟨.int .i64 5, .agg (#[.bool false, .bool false]), 7⟩]) Try.underlying103 Try.underlying33 rfl rfl rfl (fr.ev rfl) rfl (fr.ev rfl) M4 rfl rfl fun w20 hO21 hBq => ?_
 revert a
 replace M4 := hBq
 clear hBq
 refine Zv (.agg (#[.bool false, .bool false])) (fun _ _ => x_build (cells := #[.bool false, .bool false]) rfl (by kernel_rfl)) ?_
 intro a fr
 refine fx_insert (es' := #[⟨.int .i64 1, .agg (#[.bool true, .bool false]), 0⟩, ⟨.int .i64 2, .agg (#[.bool true, .bool false]), 1⟩, ⟨.int .i64 3, .agg (#[.bool true, .bool true]), 2⟩, ⟨.int .i64 11, .agg (#[.bool true, .bool true]), 3⟩, ⟨.int .i64 12, .agg (#[.bool true, .bool false]), 4⟩, ⟨.int .i64 13, .agg (#[.bool true, .bool false]), 5⟩, ⟨.int .i64 4, .agg (#[.bool false, .bool false]), 6⟩, ⟨.int .i64 5, .agg (#[.bool false, .bool false]), 7⟩, ⟨.int .i64 6, .agg (#[.bool false, .bool false]), 8⟩]) Try.underlying103 Try.underlying33 rfl rfl rfl (fr.ev rfl) rfl (fr.ev rfl) M4 rfl rfl fun w22 hO23 hBq => ?_
 revert a
 replace M4 := hBq
 clear hBq
 refine Zv (.agg (#[.bool false, .bool false])) (fun _ _ => x_build (cells := #[.bool false, .bool false]) rfl (by kernel_rfl)) ?_
 intro a fr
 refine fx_insert (es' := #[⟨.int .i64 1, .agg (#[.bool true, .bool false]), 0⟩, ⟨.int .i64 2, .agg (#[.bool true, .bool false]), 1⟩, ⟨.int .i64 3, .agg (#[.bool true, .bool true]), 2⟩, ⟨.int .i64 11, .agg (#[.bool true, .bool true]), 3⟩, ⟨.int .i64 12, .agg (#[.bool true, .bool false]), 4⟩, ⟨.int .i64 13, .agg (#[.bool true, .bool false]), 5⟩, ⟨.int .i64 4, .agg (#[.bool false, .bool false]), 6⟩, ⟨.int .i64 5, .agg (#[.bool false, .bool false]), 7⟩, ⟨.int .i64 6, .agg (#[.bool false, .bool false]), 8⟩, ⟨.int .i64 7, .agg (#[.bool false, .bool false]), 9⟩]) Try.underlying103 Try.underlying33 rfl rfl rfl (fr.ev rfl) rfl (fr.ev rfl) M4 rfl rfl fun w24 hO25 hBq => ?_
 revert a
 replace M4 := hBq
 clear hBq
 refine Zv (.agg (#[.bool false, .bool true])) (fun _ _ => x_build (cells := #[.bool false, .bool true]) rfl (by kernel_rfl)) ?_
 intro a fr
 refine fx_insert (es' := #[⟨.int .i64 1, .agg (#[.bool true, .bool false]), 0⟩, ⟨.int .i64 2, .agg (#[.bool true, .bool false]), 1⟩, ⟨.int .i64 3, .agg (#[.bool true, .bool true]), 2⟩, ⟨.int .i64 11, .agg (#[.bool true, .bool true]), 3⟩, ⟨.int .i64 12, .agg (#[.bool true, .bool false]), 4⟩, ⟨.int .i64 13, .agg (#[.bool true, .bool false]), 5⟩, ⟨.int .i64 4, .agg (#[.bool false, .bool false]), 6⟩, ⟨.int .i64 5, .agg (#[.bool false, .bool false]), 7⟩, ⟨.int .i64 6, .agg (#[.bool false, .bool false]), 8⟩, ⟨.int .i64 7, .agg (#[.bool false, .bool false]), 9⟩, ⟨.int .i64 8, .agg (#[.bool false, .bool true]), 10⟩]) Try.underlying103 Try.underlying33 rfl rfl rfl (fr.ev rfl) rfl (fr.ev rfl) M4 rfl rfl fun w26 hO27 hBq => ?_
 revert a
 replace M4 := hBq
 clear hBq
 refine Zv (.agg (#[.bool false, .bool true])) (fun _ _ => x_build (cells := #[.bool false, .bool true]) rfl (by kernel_rfl)) ?_
 intro a fr
 refine fx_insert (es' := #[⟨.int .i64 1, .agg (#[.bool true, .bool false]), 0⟩, ⟨.int .i64 2, .agg (#[.bool true, .bool false]), 1⟩, ⟨.int .i64 3, .agg (#[.bool true, .bool true]), 2⟩, ⟨.int .i64 11, .agg (#[.bool true, .bool true]), 3⟩, ⟨.int .i64 12, .agg (#[.bool true, .bool false]), 4⟩, ⟨.int .i64 13, .agg (#[.bool true, .bool false]), 5⟩, ⟨.int .i64 4, .agg (#[.bool false, .bool false]), 6⟩, ⟨.int .i64 5, .agg (#[.bool false, .bool false]), 7⟩, ⟨.int .i64 6, .agg (#[.bool false, .bool false]), 8⟩, ⟨.int .i64 7, .agg (#[.bool false, .bool false]), 9⟩, ⟨.int .i64 8, .agg (#[.bool false, .bool true]), 10⟩, ⟨.int .i64 9, .agg (#[.bool false, .bool true]), 11⟩]) Try.underlying103 Try.underlying33 rfl rfl rfl (fr.ev rfl) rfl (fr.ev rfl) M4 rfl rfl fun w28 hO29 hBq => ?_
 revert a
 replace M4 := hBq
 clear hBq
 refine Zv (.agg (#[.bool false, .bool true])) (fun _ _ => x_build (cells := #[.bool false, .bool true]) rfl (by kernel_rfl)) ?_
 intro a fr
 refine fx_insert (es' := #[⟨.int .i64 1, .agg (#[.bool true, .bool false]), 0⟩, ⟨.int .i64 2, .agg (#[.bool true, .bool false]), 1⟩, ⟨.int .i64 3, .agg (#[.bool true, .bool true]), 2⟩, ⟨.int .i64 11, .agg (#[.bool true, .bool true]), 3⟩, ⟨.int .i64 12, .agg (#[.bool true, .bool false]), 4⟩, ⟨.int .i64 13, .agg (#[.bool true, .bool false]), 5⟩, ⟨.int .i64 4, .agg (#[.bool false, .bool false]), 6⟩, ⟨.int .i64 5, .agg (#[.bool false, .bool false]), 7⟩, ⟨.int .i64 6, .agg (#[.bool false, .bool false]), 8⟩, ⟨.int .i64 7, .agg (#[.bool false, .bool false]), 9⟩, ⟨.int .i64 8, .agg (#[.bool false, .bool true]), 10⟩, ⟨.int .i64 9, .agg (#[.bool false, .bool true]), 11⟩, ⟨.int .i64 10, .agg (#[.bool false, .bool true]), 12⟩]) Try.underlying103 Try.underlying33 rfl rfl rfl (fr.ev rfl) rfl (fr.ev rfl) M4 rfl rfl fun w30 hO31 hBq => ?_
 revert a
 replace M4 := hBq
 clear hBq
 refine Zm ?_
 refine Za ?_
 refine Znn ?_
 refine Zrt ?_
 refine Zre rfl [_] ⟨rfl, trivial⟩ ?_
 replace hF := (((((((((((((hF.trNew hN3).loc hO7 (.inr g_r1)).loc hO9 (.inr g_r1)).loc hO11 (.inr g_r1)).loc hO13 (.inr g_r1)).loc hO15 (.inr g_r1)).loc hO17 (.inr g_r1)).loc hO19 (.inr g_r1)).loc hO21 (.inr g_r1)).loc hO23 (.inr g_r1)).loc hO25 (.inr g_r1)).loc hO27 (.inr g_r1)).loc hO29 (.inr g_r1)).loc hO31 (.inr g_r1)
 exact ⟨_, rfl, _, rfl, g_r1, M4, hF⟩
def zv1 : Value := .agg (#[.bool false, .bool false])
set_option maxRecDepth 100000 in
set_option maxHeartbeats 4000000 in
theorem chk_c (m : Msg) (w : World) : Calls Try.prog 29 #[.agg (msgE.arr m)] w (Ret fun v w' => v = .int .i64 (chk m) ∧ New w w') := by
 have hF := Only.refl (fun _ => False) w
 refine Zen 53 Try.func29 ?_
 refine Zsr ?_
 refine Znb (cs := msgE.arr m) fun b1 w2 hN3 B4 hb5 => ?_
 refine Za ?_
 refine Znn ?_
 refine Zsq ?_
 refine ZhT (n := 9) 9 (fun w => Blk w b1 36 (msgE.arr m) ∧ True) ?_
 intro w6 hN7
 replace B4 := B4.new hN7
 have hS9 := And.intro B4 trivial
 refine Zhf 1 fo36_0 hS9 ?_
 refine Zhl (v := .int .i64 m.kind) 2 pl33 hS9 (fun _ ⟨B4, _⟩ => (B4.cell 0 rfl)) ?_
 refine Zh2 0 7 ?_ ?_
 ·refine Zk cf47 (wants_c _) ?_
  rintro v w11 ⟨r8, rfl, hr10, M9, hN12⟩
  replace B4 := B4.new hN12
  refine Zhb ⟨B4, trivial⟩ ?_
  refine Zh2 3 7 ?_ ?_
  ·refine Zv (.tuple #[.agg (#[.bool (homeK m.kind), .bool (bytesK m.kind)]), .bool (isK m.kind)]) (fun _ fr => x_lookup (k := .i64) (ok := true) (v := .agg (#[.bool (homeK m.kind), .bool (bytesK m.kind)])) (b := (isK m.kind)) Try.underlying103 Try.underlying33 rfl (fr.ev rfl) (fr.ev rfl) M9 (z := .agg (#[.bool false, .bool false])) (by kernel_rfl) (wants_find _)) ?_
   refine Zhb ⟨B4, trivial⟩ ?_
   have hS9 := And.intro B4 trivial
   refine Zhm 4 hS9 ?_
   refine Zhx 5 hS9 ?_
   refine Zhx 6 hS9 ?_
   refine Zh1 7 ?_
   refine Zna (z := zv1) (cs := #[.bool false, .bool false]) (by kernel_rfl) fun b13 w14 hN15 B16 hb17 => ?_
   have ne_b1_b13 : NE b1 b13 := NE.mk (Nat.lt_of_lt_of_le B4.lt hb17)
   replace hF := ((hF.trNew hN3).trNew hN7).trNew hN12
   have g_b13 := Nat.le_trans hF.size hb17
   replace B4 := B4.new hN15
   refine Zhb ⟨B4, trivial⟩ ?_
   refine Zh1 8 ?_
   refine ZsS sz101 (by simp [Value.oneCell']) B16 rfl rfl (ho := rfl) (hy := rfl) fun w18 hO19 hBq => ?_
   replace B16 := hBq
   clear hBq
   replace B4 := B4.only hO19 ne_b1_b13
   refine Zhb ⟨B4, trivial⟩ ?_
   refine Zhn ?_
   refine Ztl ?_
   refine Za ?_
   refine Znn ?_
   refine Zsr ?_
   refine Zf fo36_2 ?_
   refine Zd (v := .int .i64 m.dst) pl3 (B4.cell 2 rfl) ?_
   refine Za ?_
   refine Znn ?_
   refine Zsq ?_
   refine Zbl ?_
   refine Zsq ?_
   refine Zbl ?_
   refine Zsq ?_
   refine Zbl ?_
   refine Zsq ?_
   refine Zbl ?_
   refine Zsq ?_
   refine Zsq ?_
   refine Zsr ?_
   refine Zm ?_
   refine Zv _ (fun _ fr => x_not rfl (fr.ev rfl) rfl) ?_
   refine Za ?_
   refine Znn ?_
   refine Zcd (fun hc20 => ?_) (fun hc20 => ?_)
   ·refine Zex ?_
    refine Zxt ?_
    refine Zxt ?_
    refine Zxx ?_
    refine Znx ?_
    refine Zsq ?_
    refine Zsr ?_
    refine Za ?_
    refine Znn ?_
    refine Zrt ?_
    refine Zr1 ?_
    refine Zr2 ?_
    refine Zr1 ?_
    refine Zr2 ?_
    refine Zr1 ?_
    refine Zr2 ?_
    refine Zr1 ?_
    refine Zre rfl [_] ⟨rfl, trivial⟩ ?_
    replace hF := (hF.trNew hN15).loc hO19 (.inr g_b13)
    exact ⟨_, rfl, congrArg (Value.int .i64) (by have hx := home_not m.kind; have hk := isK_iff m.kind; by_cases e1 : m.dst = 4 <;> by_cases e2 : m.src = 4 <;> simp_all [chk, goodMsg, isCache, bs0] <;> first | omega | (intro p q; rcases ‹(_ ∨ _) ∨ _› with (h | h) | h <;> first | omega | exact h | exact ⟨h.1, decide_eq_false h.2⟩)), hF⟩
   ·refine Zsk ?_
    refine Znx ?_
    refine Zsr ?_
    refine Zf fo101_0 ?_
    refine Zd (v := .bool (homeK m.kind)) pl4 (B16.cell 0 rfl) ?_
    refine Za ?_
    refine Znn ?_
    refine Zcd (fun hc21 => ?_) (fun hc21 => ?_)
    ·refine Zex ?_
     refine Zxt ?_
     refine Zxb ?_
     refine Zxt ?_
     refine Zxx ?_
     refine Znx ?_
     refine Zsq ?_
     refine Zsr ?_
     refine Zf fo36_2 ?_
     refine Zd (v := .int .i64 m.dst) pl3 (B4.cell 2 rfl) ?_
     refine Zv _ (fun _ fr => x_neq rfl (fr.ev rfl) rfl rfl) ?_
     refine Znn ?_
     refine Zcd (fun hc22 => ?_) (fun hc22 => ?_)
     ·have hc22 := of_decide_eq_true hc22
      refine Zsr ?_
      refine Za ?_
      refine Znn ?_
      refine Zrt ?_
      refine Zr1 ?_
      refine Zr2 ?_
      refine Zr1 ?_
      refine Zr2 ?_
      refine Zr1 ?_
      refine Zre rfl [_] ⟨rfl, trivial⟩ ?_
      replace hF := (hF.trNew hN15).loc hO19 (.inr g_b13)
      exact ⟨_, rfl, congrArg (Value.int .i64) (by have hx := home_not m.kind; have hk := isK_iff m.kind; by_cases e1 : m.dst = 4 <;> by_cases e2 : m.src = 4 <;> simp_all [chk, goodMsg, isCache, bs0] <;> first | omega | (intro p q; rcases ‹(_ ∨ _) ∨ _› with (h | h) | h <;> first | omega | exact h | exact ⟨h.1, decide_eq_false h.2⟩)), hF⟩
     ·have hc22 := of_decide_eq_false hc22
      refine Zsk ?_
      refine Znx ?_
      refine Zrg ?_
      refine Zf fo36_1 ?_
      refine Zd (v := .int .i64 m.src) pl3 (B4.cell 1 rfl) ?_
      refine Za ?_
      refine Znl ?_
      refine Zb ?_
      refine Znx ?_
      refine Zsq ?_
      refine Zsr ?_
      refine Zf fo101_0 ?_
      refine Zd (v := .bool (homeK m.kind)) pl4 (B16.cell 0 rfl) ?_
      refine Zv _ (fun _ fr => x_not rfl (fr.ev rfl) rfl) ?_
      refine Zm ?_
      refine Zy (!(homeK m.kind)) _ (fun _ fr _ => x_fieldAddr fo36_1 rfl (fr.ev rfl) rfl) ?_
      refine Zy (!(homeK m.kind)) _ (fun _ fr hg => x_load1 pl3 rfl ((fr.ev rfl).trans (onlyIf_t hg)) (B4.cell 1 rfl)) ?_
      refine Zy (!(homeK m.kind)) _ (fun _ fr hg => x_neq rfl ((fr.ev rfl).trans (onlyIf_t hg)) rfl rfl) ?_
      refine Zv (.bool ((!(homeK m.kind)) && (decide (m.src ≠ 4)))) (fun _ fr => x_pick_and rfl (fr.ev rfl) (fun hb => ((fr.ev rfl)).trans (onlyIf_t (by simp_all))) (fun _ => rfl) rfl) ?_
      refine Zm ?_
      refine Zy (!((!(homeK m.kind)) && (decide (m.src ≠ 4)))) _ (fun _ fr _ => x_move rfl (fr.ev rfl)) ?_
      refine Zy (!((!(homeK m.kind)) && (decide (m.src ≠ 4)))) _ (fun _ fr hg => x_lss rfl ((fr.ev rfl).trans (onlyIf_t hg)) rfl rfl) ?_
      refine Zv (.bool (((!(homeK m.kind)) && (decide (m.src ≠ 4))) || (decide (m.src < 0)))) (fun _ fr => x_pick_or rfl (fr.ev rfl) (fun _ => rfl) (fun hb => ((fr.ev rfl)).trans (onlyIf_t (by simp_all))) rfl) ?_
      refine Zm ?_
      refine Zy (!(((!(homeK m.kind)) && (decide (m.src ≠ 4))) || (decide (m.src < 0)))) _ (fun _ fr _ => x_move rfl (fr.ev rfl)) ?_
      refine Zy (!(((!(homeK m.kind)) && (decide (m.src ≠ 4))) || (decide (m.src < 0)))) _ (fun _ fr hg => x_geq rfl ((fr.ev rfl).trans (onlyIf_t hg)) rfl rfl) ?_
      refine Zv (.bool ((((!(homeK m.kind)) && (decide (m.src ≠ 4))) || (decide (m.src < 0))) || (decide (4 ≤ m.src)))) (fun _ fr => x_pick_or rfl (fr.ev rfl) (fun _ => rfl) (fun hb => ((fr.ev rfl)).trans (onlyIf_t (by simp_all))) rfl) ?_
      refine Zm ?_
      refine Zy (!((((!(homeK m.kind)) && (decide (m.src ≠ 4))) || (decide (m.src < 0))) || (decide (4 ≤ m.src)))) _ (fun _ fr _ => x_fieldAddr fo101_1 rfl (fr.ev rfl) rfl) ?_
      refine Zy (!((((!(homeK m.kind)) && (decide (m.src ≠ 4))) || (decide (m.src < 0))) || (decide (4 ≤ m.src)))) _ (fun _ fr hg => x_load1 pl4 rfl ((fr.ev rfl).trans (onlyIf_t hg)) (B16.cell 1 rfl)) ?_
      refine Zy (!((((!(homeK m.kind)) && (decide (m.src ≠ 4))) || (decide (m.src < 0))) || (decide (4 ≤ m.src)))) _ (fun _ fr hg => x_not rfl ((fr.ev rfl).trans (onlyIf_t hg)) rfl) ?_
      refine Zy (!((((!(homeK m.kind)) && (decide (m.src ≠ 4))) || (decide (m.src < 0))) || (decide (4 ≤ m.src)))) _ (fun _ fr hg => x_move rfl ((fr.ev rfl).trans (onlyIf_t hg))) ?_
      intro a fr
      refine fx_may2 (g := (!((((!(homeK m.kind)) && (decide (m.src ≠ 4))) || (decide (m.src < 0))) || (decide (4 ≤ m.src)))) && (!(bytesK m.kind))) (v := .pointer (some ⟨b1, 4, none⟩)) fr rfl rfl rfl (by simp) rfl (by first | decide | simp) (fun hg => x_fieldAddr fo36_4 rfl (fr.ev rfl) rfl) ?_
      clear fr a
      intro a fr
      refine fx_may2 (g := (!((((!(homeK m.kind)) && (decide (m.src ≠ 4))) || (decide (m.src < 0))) || (decide (4 ≤ m.src)))) && (!(bytesK m.kind))) (v := .agg (bsE.arr m.bs)) fr rfl rfl rfl (by simp) rfl (by first | decide | simp) (fun hg => x_loadE (E := bsE) ag34 rfl rfl ((fr.ev rfl).trans (onlyIf_t hg)) (B4.part (msg_bs _))) ?_
      clear fr a
      intro a fr
      refine fx_may2 (g := (!((((!(homeK m.kind)) && (decide (m.src ≠ 4))) || (decide (m.src < 0))) || (decide (4 ≤ m.src)))) && (!(bytesK m.kind))) (v := .agg (bsE.arr b16z)) fr rfl rfl rfl (by simp) rfl (by first | decide | simp) (fun hg => x_build (cells := bsE.arr b16z) rfl (by kernel_rfl)) ?_
      clear fr a
      intro a fr
      refine fx_may2 (g := (!((((!(homeK m.kind)) && (decide (m.src ≠ 4))) || (decide (m.src < 0))) || (decide (4 ≤ m.src)))) && (!(bytesK m.kind))) (v := .bool (!decide (m.bs = b16z))) fr rfl rfl rfl (by simp) rfl (by first | decide | simp) (fun hg => x_neE bsER rfl rfl ((fr.ev rfl).trans (onlyIf_t hg)) ((fr.ev rfl).trans (onlyIf_t hg)) rfl) ?_
      clear fr a
      refine Zy (!((((!(homeK m.kind)) && (decide (m.src ≠ 4))) || (decide (m.src < 0))) || (decide (4 ≤ m.src)))) (.bool ((!(bytesK m.kind)) && (!decide (m.bs = b16z)))) (fun _ fr hg => x_pick_and rfl ((fr.ev rfl).trans (onlyIf_t hg)) (fun hb => ((fr.ev rfl)).trans (onlyIf_t (by simp_all))) (fun _ => rfl) rfl) ?_
      refine Zv (.bool (((((!(homeK m.kind)) && (decide (m.src ≠ 4))) || (decide (m.src < 0))) || (decide (4 ≤ m.src))) || ((!(bytesK m.kind)) && (!decide (m.bs = b16z))))) (fun _ fr => x_pick_or rfl (fr.ev rfl) (fun _ => rfl) (fun hb => ((fr.ev rfl)).trans (onlyIf_t (by simp_all))) rfl) ?_
      refine Znn ?_
      refine Zcd (fun hc23 => ?_) (fun hc23 => ?_)
      ·have hc23s := hc23
       try simp at hc23s
       refine Zsr ?_
       refine Za ?_
       refine Znn ?_
       refine Zrt ?_
       refine Zr1 ?_
       refine Zr2 ?_
       refine Zr1 ?_
       refine Zre rfl [_] ⟨rfl, trivial⟩ ?_
       replace hF := (hF.trNew hN15).loc hO19 (.inr g_b13)
       exact ⟨_, rfl, congrArg (Value.int .i64) (by have hx := home_not m.kind; have hk := isK_iff m.kind; by_cases e1 : m.dst = 4 <;> by_cases e2 : m.src = 4 <;> simp_all [chk, goodMsg, isCache, bs0] <;> first | omega | (intro p q; rcases ‹(_ ∨ _) ∨ _› with (h | h) | h <;> first | omega | exact h | exact ⟨h.1, decide_eq_false h.2⟩)), hF⟩
      ·have hc23s := hc23
       try simp at hc23s
       refine Zsk ?_
       refine Znx ?_
       refine Zex ?_
       refine Zxx ?_
       refine Znx ?_
       refine Zsr ?_
       refine Za ?_
       refine Znn ?_
       refine Zrt ?_
       refine Zre rfl [_] ⟨rfl, trivial⟩ ?_
       replace hF := (hF.trNew hN15).loc hO19 (.inr g_b13)
       exact ⟨_, rfl, congrArg (Value.int .i64) (by have hx := home_not m.kind; have hk := isK_iff m.kind; by_cases e1 : m.dst = 4 <;> by_cases e2 : m.src = 4 <;> simp_all [chk, goodMsg, isCache, bs0] <;> first | omega | (intro p q; rcases ‹(_ ∨ _) ∨ _› with (h | h) | h <;> first | omega | exact h | exact ⟨h.1, decide_eq_false h.2⟩)), hF⟩
    ·refine Zsk ?_
     refine Znx ?_
     refine Zex ?_
     refine Zxb ?_
     refine Zxt ?_
     refine Zxb ?_
     refine Zxt ?_
     refine Zxx ?_
     refine Znx ?_
     refine Zsq ?_
     refine Zsr ?_
     refine Zf fo101_0 ?_
     refine Zd (v := .bool (homeK m.kind)) pl4 (B16.cell 0 rfl) ?_
     refine Zv _ (fun _ fr => x_not rfl (fr.ev rfl) rfl) ?_
     refine Zm ?_
     refine Zy (!(homeK m.kind)) _ (fun _ fr _ => x_fieldAddr fo36_1 rfl (fr.ev rfl) rfl) ?_
     refine Zy (!(homeK m.kind)) _ (fun _ fr hg => x_load1 pl3 rfl ((fr.ev rfl).trans (onlyIf_t hg)) (B4.cell 1 rfl)) ?_
     refine Zy (!(homeK m.kind)) _ (fun _ fr hg => x_neq rfl ((fr.ev rfl).trans (onlyIf_t hg)) rfl rfl) ?_
     refine Zv (.bool ((!(homeK m.kind)) && (decide (m.src ≠ 4)))) (fun _ fr => x_pick_and rfl (fr.ev rfl) (fun hb => ((fr.ev rfl)).trans (onlyIf_t (by simp_all))) (fun _ => rfl) rfl) ?_
     refine Zm ?_
     refine Zy (!((!(homeK m.kind)) && (decide (m.src ≠ 4)))) _ (fun _ fr _ => x_move rfl (fr.ev rfl)) ?_
     refine Zy (!((!(homeK m.kind)) && (decide (m.src ≠ 4)))) _ (fun _ fr hg => x_lss rfl ((fr.ev rfl).trans (onlyIf_t hg)) rfl rfl) ?_
     refine Zv (.bool (((!(homeK m.kind)) && (decide (m.src ≠ 4))) || (decide (m.dst < 0)))) (fun _ fr => x_pick_or rfl (fr.ev rfl) (fun _ => rfl) (fun hb => ((fr.ev rfl)).trans (onlyIf_t (by simp_all))) rfl) ?_
     refine Zm ?_
     refine Zy (!(((!(homeK m.kind)) && (decide (m.src ≠ 4))) || (decide (m.dst < 0)))) _ (fun _ fr _ => x_move rfl (fr.ev rfl)) ?_
     refine Zy (!(((!(homeK m.kind)) && (decide (m.src ≠ 4))) || (decide (m.dst < 0)))) _ (fun _ fr hg => x_geq rfl ((fr.ev rfl).trans (onlyIf_t hg)) rfl rfl) ?_
     refine Zv (.bool ((((!(homeK m.kind)) && (decide (m.src ≠ 4))) || (decide (m.dst < 0))) || (decide (4 ≤ m.dst)))) (fun _ fr => x_pick_or rfl (fr.ev rfl) (fun _ => rfl) (fun hb => ((fr.ev rfl)).trans (onlyIf_t (by simp_all))) rfl) ?_
     refine Zm ?_
     refine Zy (!((((!(homeK m.kind)) && (decide (m.src ≠ 4))) || (decide (m.dst < 0))) || (decide (4 ≤ m.dst)))) _ (fun _ fr _ => x_fieldAddr fo101_1 rfl (fr.ev rfl) rfl) ?_
     refine Zy (!((((!(homeK m.kind)) && (decide (m.src ≠ 4))) || (decide (m.dst < 0))) || (decide (4 ≤ m.dst)))) _ (fun _ fr hg => x_load1 pl4 rfl ((fr.ev rfl).trans (onlyIf_t hg)) (B16.cell 1 rfl)) ?_
     refine Zy (!((((!(homeK m.kind)) && (decide (m.src ≠ 4))) || (decide (m.dst < 0))) || (decide (4 ≤ m.dst)))) _ (fun _ fr hg => x_not rfl ((fr.ev rfl).trans (onlyIf_t hg)) rfl) ?_
     refine Zy (!((((!(homeK m.kind)) && (decide (m.src ≠ 4))) || (decide (m.dst < 0))) || (decide (4 ≤ m.dst)))) _ (fun _ fr hg => x_move rfl ((fr.ev rfl).trans (onlyIf_t hg))) ?_
     intro a fr
     refine fx_may2 (g := (!((((!(homeK m.kind)) && (decide (m.src ≠ 4))) || (decide (m.dst < 0))) || (decide (4 ≤ m.dst)))) && (!(bytesK m.kind))) (v := .pointer (some ⟨b1, 4, none⟩)) fr rfl rfl rfl (by simp) rfl (by first | decide | simp) (fun hg => x_fieldAddr fo36_4 rfl (fr.ev rfl) rfl) ?_
     clear fr a
     intro a fr
     refine fx_may2 (g := (!((((!(homeK m.kind)) && (decide (m.src ≠ 4))) || (decide (m.dst < 0))) || (decide (4 ≤ m.dst)))) && (!(bytesK m.kind))) (v := .agg (bsE.arr m.bs)) fr rfl rfl rfl (by simp) rfl (by first | decide | simp) (fun hg => x_loadE (E := bsE) ag34 rfl rfl ((fr.ev rfl).trans (onlyIf_t hg)) (B4.part (msg_bs _))) ?_
     clear fr a
     intro a fr
     refine fx_may2 (g := (!((((!(homeK m.kind)) && (decide (m.src ≠ 4))) || (decide (m.dst < 0))) || (decide (4 ≤ m.dst)))) && (!(bytesK m.kind))) (v := .agg (bsE.arr b16z)) fr rfl rfl rfl (by simp) rfl (by first | decide | simp) (fun hg => x_build (cells := bsE.arr b16z) rfl (by kernel_rfl)) ?_
     clear fr a
     intro a fr
     refine fx_may2 (g := (!((((!(homeK m.kind)) && (decide (m.src ≠ 4))) || (decide (m.dst < 0))) || (decide (4 ≤ m.dst)))) && (!(bytesK m.kind))) (v := .bool (!decide (m.bs = b16z))) fr rfl rfl rfl (by simp) rfl (by first | decide | simp) (fun hg => x_neE bsER rfl rfl ((fr.ev rfl).trans (onlyIf_t hg)) ((fr.ev rfl).trans (onlyIf_t hg)) rfl) ?_
     clear fr a
     refine Zy (!((((!(homeK m.kind)) && (decide (m.src ≠ 4))) || (decide (m.dst < 0))) || (decide (4 ≤ m.dst)))) (.bool ((!(bytesK m.kind)) && (!decide (m.bs = b16z)))) (fun _ fr hg => x_pick_and rfl ((fr.ev rfl).trans (onlyIf_t hg)) (fun hb => ((fr.ev rfl)).trans (onlyIf_t (by simp_all))) (fun _ => rfl) rfl) ?_
     refine Zv (.bool (((((!(homeK m.kind)) && (decide (m.src ≠ 4))) || (decide (m.dst < 0))) || (decide (4 ≤ m.dst))) || ((!(bytesK m.kind)) && (!decide (m.bs = b16z))))) (fun _ fr => x_pick_or rfl (fr.ev rfl) (fun _ => rfl) (fun hb => ((fr.ev rfl)).trans (onlyIf_t (by simp_all))) rfl) ?_
     refine Znn ?_
     refine Zcd (fun hc24 => ?_) (fun hc24 => ?_)
     ·have hc24s := hc24
      try simp at hc24s
      refine Zsr ?_
      refine Za ?_
      refine Znn ?_
      refine Zrt ?_
      refine Zr1 ?_
      refine Zr2 ?_
      refine Zr1 ?_
      refine Zre rfl [_] ⟨rfl, trivial⟩ ?_
      replace hF := (hF.trNew hN15).loc hO19 (.inr g_b13)
      exact ⟨_, rfl, congrArg (Value.int .i64) (by have hx := home_not m.kind; have hk := isK_iff m.kind; by_cases e1 : m.dst = 4 <;> by_cases e2 : m.src = 4 <;> simp_all [chk, goodMsg, isCache, bs0] <;> first | omega | (intro p q; rcases ‹(_ ∨ _) ∨ _› with (h | h) | h <;> first | omega | exact h | exact ⟨h.1, decide_eq_false h.2⟩)), hF⟩
     ·have hc24s := hc24
      try simp at hc24s
      refine Zsk ?_
      refine Znx ?_
      refine Zex ?_
      refine Zxx ?_
      refine Znx ?_
      refine Zsr ?_
      refine Za ?_
      refine Znn ?_
      refine Zrt ?_
      refine Zre rfl [_] ⟨rfl, trivial⟩ ?_
      replace hF := (hF.trNew hN15).loc hO19 (.inr g_b13)
      exact ⟨_, rfl, congrArg (Value.int .i64) (by have hx := home_not m.kind; have hk := isK_iff m.kind; by_cases e1 : m.dst = 4 <;> by_cases e2 : m.src = 4 <;> simp_all [chk, goodMsg, isCache, bs0] <;> first | omega | (intro p q; rcases ‹(_ ∨ _) ∨ _› with (h | h) | h <;> first | omega | exact h | exact ⟨h.1, decide_eq_false h.2⟩)), hF⟩
  ·refine Zna (z := zv1) (cs := #[.bool false, .bool false]) (by kernel_rfl) fun b25 w26 hN27 B28 hb29 => ?_
   have ne_b1_b25 : NE b1 b25 := NE.mk (Nat.lt_of_lt_of_le B4.lt hb29)
   replace hF := ((hF.trNew hN3).trNew hN7).trNew hN12
   have g_b25 := Nat.le_trans hF.size hb29
   replace B4 := B4.new hN27
   refine Zhb ⟨B4, trivial⟩ ?_
   refine Zh1 3 ?_
   replace M9 := M9.new hN27
   refine Zv (.tuple #[.agg (#[.bool (homeK m.kind), .bool (bytesK m.kind)]), .bool (isK m.kind)]) (fun _ fr => x_lookup (k := .i64) (ok := true) (v := .agg (#[.bool (homeK m.kind), .bool (bytesK m.kind)])) (b := (isK m.kind)) Try.underlying103 Try.underlying33 rfl (fr.ev rfl) (fr.ev rfl) M9 (z := .agg (#[.bool false, .bool false])) (by kernel_rfl) (wants_find _)) ?_
   refine Zhb ⟨B4, trivial⟩ ?_
   have hS9 := And.intro B4 trivial
   refine Zhm 4 hS9 ?_
   refine Zhx 5 hS9 ?_
   refine Zhx 6 hS9 ?_
   refine Zh1 8 ?_
   refine ZsS sz101 (by simp [Value.oneCell']) B28 rfl rfl (ho := rfl) (hy := rfl) fun w30 hO31 hBq => ?_
   replace B28 := hBq
   clear hBq
   replace B4 := B4.only hO31 ne_b1_b25
   refine Zhb ⟨B4, trivial⟩ ?_
   refine Zhn ?_
   refine Ztl ?_
   refine Za ?_
   refine Znn ?_
   refine Zsr ?_
   refine Zf fo36_2 ?_
   refine Zd (v := .int .i64 m.dst) pl3 (B4.cell 2 rfl) ?_
   refine Za ?_
   refine Znn ?_
   refine Zsq ?_
   refine Zbl ?_
   refine Zsq ?_
   refine Zbl ?_
   refine Zsq ?_
   refine Zbl ?_
   refine Zsq ?_
   refine Zbl ?_
   refine Zsq ?_
   refine Zsq ?_
   refine Zsr ?_
   refine Zm ?_
   refine Zv _ (fun _ fr => x_not rfl (fr.ev rfl) rfl) ?_
   refine Za ?_
   refine Znn ?_
   refine Zcd (fun hc32 => ?_) (fun hc32 => ?_)
   ·refine Zex ?_
    refine Zxt ?_
    refine Zxt ?_
    refine Zxx ?_
    refine Znx ?_
    refine Zsq ?_
    refine Zsr ?_
    refine Za ?_
    refine Znn ?_
    refine Zrt ?_
    refine Zr1 ?_
    refine Zr2 ?_
    refine Zr1 ?_
    refine Zr2 ?_
    refine Zr1 ?_
    refine Zr2 ?_
    refine Zr1 ?_
    refine Zre rfl [_] ⟨rfl, trivial⟩ ?_
    replace hF := (hF.trNew hN27).loc hO31 (.inr g_b25)
    exact ⟨_, rfl, congrArg (Value.int .i64) (by have hx := home_not m.kind; have hk := isK_iff m.kind; by_cases e1 : m.dst = 4 <;> by_cases e2 : m.src = 4 <;> simp_all [chk, goodMsg, isCache, bs0] <;> first | omega | (intro p q; rcases ‹(_ ∨ _) ∨ _› with (h | h) | h <;> first | omega | exact h | exact ⟨h.1, decide_eq_false h.2⟩)), hF⟩
   ·refine Zsk ?_
    refine Znx ?_
    refine Zsr ?_
    refine Zf fo101_0 ?_
    refine Zd (v := .bool (homeK m.kind)) pl4 (B28.cell 0 rfl) ?_
    refine Za ?_
    refine Znn ?_
    refine Zcd (fun hc33 => ?_) (fun hc33 => ?_)
    ·refine Zex ?_
     refine Zxt ?_
     refine Zxb ?_
     refine Zxt ?_
     refine Zxx ?_
     refine Znx ?_
     refine Zsq ?_
     refine Zsr ?_
     refine Zf fo36_2 ?_
     refine Zd (v := .int .i64 m.dst) pl3 (B4.cell 2 rfl) ?_
     refine Zv _ (fun _ fr => x_neq rfl (fr.ev rfl) rfl rfl) ?_
     refine Znn ?_
     refine Zcd (fun hc34 => ?_) (fun hc34 => ?_)
     ·have hc34 := of_decide_eq_true hc34
      refine Zsr ?_
      refine Za ?_
      refine Znn ?_
      refine Zrt ?_
      refine Zr1 ?_
      refine Zr2 ?_
      refine Zr1 ?_
      refine Zr2 ?_
      refine Zr1 ?_
      refine Zre rfl [_] ⟨rfl, trivial⟩ ?_
      replace hF := (hF.trNew hN27).loc hO31 (.inr g_b25)
      exact ⟨_, rfl, congrArg (Value.int .i64) (by have hx := home_not m.kind; have hk := isK_iff m.kind; by_cases e1 : m.dst = 4 <;> by_cases e2 : m.src = 4 <;> simp_all [chk, goodMsg, isCache, bs0] <;> first | omega | (intro p q; rcases ‹(_ ∨ _) ∨ _› with (h | h) | h <;> first | omega | exact h | exact ⟨h.1, decide_eq_false h.2⟩)), hF⟩
     ·have hc34 := of_decide_eq_false hc34
      refine Zsk ?_
      refine Znx ?_
      refine Zrg ?_
      refine Zf fo36_1 ?_
      refine Zd (v := .int .i64 m.src) pl3 (B4.cell 1 rfl) ?_
      refine Za ?_
      refine Znl ?_
      refine Zb ?_
      refine Znx ?_
      refine Zsq ?_
      refine Zsr ?_
      refine Zf fo101_0 ?_
      refine Zd (v := .bool (homeK m.kind)) pl4 (B28.cell 0 rfl) ?_
      refine Zv _ (fun _ fr => x_not rfl (fr.ev rfl) rfl) ?_
      refine Zm ?_
      refine Zy (!(homeK m.kind)) _ (fun _ fr _ => x_fieldAddr fo36_1 rfl (fr.ev rfl) rfl) ?_
      refine Zy (!(homeK m.kind)) _ (fun _ fr hg => x_load1 pl3 rfl ((fr.ev rfl).trans (onlyIf_t hg)) (B4.cell 1 rfl)) ?_
      refine Zy (!(homeK m.kind)) _ (fun _ fr hg => x_neq rfl ((fr.ev rfl).trans (onlyIf_t hg)) rfl rfl) ?_
      refine Zv (.bool ((!(homeK m.kind)) && (decide (m.src ≠ 4)))) (fun _ fr => x_pick_and rfl (fr.ev rfl) (fun hb => ((fr.ev rfl)).trans (onlyIf_t (by simp_all))) (fun _ => rfl) rfl) ?_
      refine Zm ?_
      refine Zy (!((!(homeK m.kind)) && (decide (m.src ≠ 4)))) _ (fun _ fr _ => x_move rfl (fr.ev rfl)) ?_
      refine Zy (!((!(homeK m.kind)) && (decide (m.src ≠ 4)))) _ (fun _ fr hg => x_lss rfl ((fr.ev rfl).trans (onlyIf_t hg)) rfl rfl) ?_
      refine Zv (.bool (((!(homeK m.kind)) && (decide (m.src ≠ 4))) || (decide (m.src < 0)))) (fun _ fr => x_pick_or rfl (fr.ev rfl) (fun _ => rfl) (fun hb => ((fr.ev rfl)).trans (onlyIf_t (by simp_all))) rfl) ?_
      refine Zm ?_
      refine Zy (!(((!(homeK m.kind)) && (decide (m.src ≠ 4))) || (decide (m.src < 0)))) _ (fun _ fr _ => x_move rfl (fr.ev rfl)) ?_
      refine Zy (!(((!(homeK m.kind)) && (decide (m.src ≠ 4))) || (decide (m.src < 0)))) _ (fun _ fr hg => x_geq rfl ((fr.ev rfl).trans (onlyIf_t hg)) rfl rfl) ?_
      refine Zv (.bool ((((!(homeK m.kind)) && (decide (m.src ≠ 4))) || (decide (m.src < 0))) || (decide (4 ≤ m.src)))) (fun _ fr => x_pick_or rfl (fr.ev rfl) (fun _ => rfl) (fun hb => ((fr.ev rfl)).trans (onlyIf_t (by simp_all))) rfl) ?_
      refine Zm ?_
      refine Zy (!((((!(homeK m.kind)) && (decide (m.src ≠ 4))) || (decide (m.src < 0))) || (decide (4 ≤ m.src)))) _ (fun _ fr _ => x_fieldAddr fo101_1 rfl (fr.ev rfl) rfl) ?_
      refine Zy (!((((!(homeK m.kind)) && (decide (m.src ≠ 4))) || (decide (m.src < 0))) || (decide (4 ≤ m.src)))) _ (fun _ fr hg => x_load1 pl4 rfl ((fr.ev rfl).trans (onlyIf_t hg)) (B28.cell 1 rfl)) ?_
      refine Zy (!((((!(homeK m.kind)) && (decide (m.src ≠ 4))) || (decide (m.src < 0))) || (decide (4 ≤ m.src)))) _ (fun _ fr hg => x_not rfl ((fr.ev rfl).trans (onlyIf_t hg)) rfl) ?_
      refine Zy (!((((!(homeK m.kind)) && (decide (m.src ≠ 4))) || (decide (m.src < 0))) || (decide (4 ≤ m.src)))) _ (fun _ fr hg => x_move rfl ((fr.ev rfl).trans (onlyIf_t hg))) ?_
      intro a fr
      refine fx_may2 (g := (!((((!(homeK m.kind)) && (decide (m.src ≠ 4))) || (decide (m.src < 0))) || (decide (4 ≤ m.src)))) && (!(bytesK m.kind))) (v := .pointer (some ⟨b1, 4, none⟩)) fr rfl rfl rfl (by simp) rfl (by first | decide | simp) (fun hg => x_fieldAddr fo36_4 rfl (fr.ev rfl) rfl) ?_
      clear fr a
      intro a fr
      refine fx_may2 (g := (!((((!(homeK m.kind)) && (decide (m.src ≠ 4))) || (decide (m.src < 0))) || (decide (4 ≤ m.src)))) && (!(bytesK m.kind))) (v := .agg (bsE.arr m.bs)) fr rfl rfl rfl (by simp) rfl (by first | decide | simp) (fun hg => x_loadE (E := bsE) ag34 rfl rfl ((fr.ev rfl).trans (onlyIf_t hg)) (B4.part (msg_bs _))) ?_
      clear fr a
      intro a fr
      refine fx_may2 (g := (!((((!(homeK m.kind)) && (decide (m.src ≠ 4))) || (decide (m.src < 0))) || (decide (4 ≤ m.src)))) && (!(bytesK m.kind))) (v := .agg (bsE.arr b16z)) fr rfl rfl rfl (by simp) rfl (by first | decide | simp) (fun hg => x_build (cells := bsE.arr b16z) rfl (by kernel_rfl)) ?_
      clear fr a
      intro a fr
      refine fx_may2 (g := (!((((!(homeK m.kind)) && (decide (m.src ≠ 4))) || (decide (m.src < 0))) || (decide (4 ≤ m.src)))) && (!(bytesK m.kind))) (v := .bool (!decide (m.bs = b16z))) fr rfl rfl rfl (by simp) rfl (by first | decide | simp) (fun hg => x_neE bsER rfl rfl ((fr.ev rfl).trans (onlyIf_t hg)) ((fr.ev rfl).trans (onlyIf_t hg)) rfl) ?_
      clear fr a
      refine Zy (!((((!(homeK m.kind)) && (decide (m.src ≠ 4))) || (decide (m.src < 0))) || (decide (4 ≤ m.src)))) (.bool ((!(bytesK m.kind)) && (!decide (m.bs = b16z)))) (fun _ fr hg => x_pick_and rfl ((fr.ev rfl).trans (onlyIf_t hg)) (fun hb => ((fr.ev rfl)).trans (onlyIf_t (by simp_all))) (fun _ => rfl) rfl) ?_
      refine Zv (.bool (((((!(homeK m.kind)) && (decide (m.src ≠ 4))) || (decide (m.src < 0))) || (decide (4 ≤ m.src))) || ((!(bytesK m.kind)) && (!decide (m.bs = b16z))))) (fun _ fr => x_pick_or rfl (fr.ev rfl) (fun _ => rfl) (fun hb => ((fr.ev rfl)).trans (onlyIf_t (by simp_all))) rfl) ?_
      refine Znn ?_
      refine Zcd (fun hc35 => ?_) (fun hc35 => ?_)
      ·have hc35s := hc35
       try simp at hc35s
       refine Zsr ?_
       refine Za ?_
       refine Znn ?_
       refine Zrt ?_
       refine Zr1 ?_
       refine Zr2 ?_
       refine Zr1 ?_
       refine Zre rfl [_] ⟨rfl, trivial⟩ ?_
       replace hF := (hF.trNew hN27).loc hO31 (.inr g_b25)
       exact ⟨_, rfl, congrArg (Value.int .i64) (by have hx := home_not m.kind; have hk := isK_iff m.kind; by_cases e1 : m.dst = 4 <;> by_cases e2 : m.src = 4 <;> simp_all [chk, goodMsg, isCache, bs0] <;> first | omega | (intro p q; rcases ‹(_ ∨ _) ∨ _› with (h | h) | h <;> first | omega | exact h | exact ⟨h.1, decide_eq_false h.2⟩)), hF⟩
      ·have hc35s := hc35
       try simp at hc35s
       refine Zsk ?_
       refine Znx ?_
       refine Zex ?_
       refine Zxx ?_
       refine Znx ?_
       refine Zsr ?_
       refine Za ?_
       refine Znn ?_
       refine Zrt ?_
       refine Zre rfl [_] ⟨rfl, trivial⟩ ?_
       replace hF := (hF.trNew hN27).loc hO31 (.inr g_b25)
       exact ⟨_, rfl, congrArg (Value.int .i64) (by have hx := home_not m.kind; have hk := isK_iff m.kind; by_cases e1 : m.dst = 4 <;> by_cases e2 : m.src = 4 <;> simp_all [chk, goodMsg, isCache, bs0] <;> first | omega | (intro p q; rcases ‹(_ ∨ _) ∨ _› with (h | h) | h <;> first | omega | exact h | exact ⟨h.1, decide_eq_false h.2⟩)), hF⟩
    ·refine Zsk ?_
     refine Znx ?_
     refine Zex ?_
     refine Zxb ?_
     refine Zxt ?_
     refine Zxb ?_
     refine Zxt ?_
     refine Zxx ?_
     refine Znx ?_
     refine Zsq ?_
     refine Zsr ?_
     refine Zf fo101_0 ?_
     refine Zd (v := .bool (homeK m.kind)) pl4 (B28.cell 0 rfl) ?_
     refine Zv _ (fun _ fr => x_not rfl (fr.ev rfl) rfl) ?_
     refine Zm ?_
     refine Zy (!(homeK m.kind)) _ (fun _ fr _ => x_fieldAddr fo36_1 rfl (fr.ev rfl) rfl) ?_
     refine Zy (!(homeK m.kind)) _ (fun _ fr hg => x_load1 pl3 rfl ((fr.ev rfl).trans (onlyIf_t hg)) (B4.cell 1 rfl)) ?_
     refine Zy (!(homeK m.kind)) _ (fun _ fr hg => x_neq rfl ((fr.ev rfl).trans (onlyIf_t hg)) rfl rfl) ?_
     refine Zv (.bool ((!(homeK m.kind)) && (decide (m.src ≠ 4)))) (fun _ fr => x_pick_and rfl (fr.ev rfl) (fun hb => ((fr.ev rfl)).trans (onlyIf_t (by simp_all))) (fun _ => rfl) rfl) ?_
     refine Zm ?_
     refine Zy (!((!(homeK m.kind)) && (decide (m.src ≠ 4)))) _ (fun _ fr _ => x_move rfl (fr.ev rfl)) ?_
     refine Zy (!((!(homeK m.kind)) && (decide (m.src ≠ 4)))) _ (fun _ fr hg => x_lss rfl ((fr.ev rfl).trans (onlyIf_t hg)) rfl rfl) ?_
     refine Zv (.bool (((!(homeK m.kind)) && (decide (m.src ≠ 4))) || (decide (m.dst < 0)))) (fun _ fr => x_pick_or rfl (fr.ev rfl) (fun _ => rfl) (fun hb => ((fr.ev rfl)).trans (onlyIf_t (by simp_all))) rfl) ?_
     refine Zm ?_
     refine Zy (!(((!(homeK m.kind)) && (decide (m.src ≠ 4))) || (decide (m.dst < 0)))) _ (fun _ fr _ => x_move rfl (fr.ev rfl)) ?_
     refine Zy (!(((!(homeK m.kind)) && (decide (m.src ≠ 4))) || (decide (m.dst < 0)))) _ (fun _ fr hg => x_geq rfl ((fr.ev rfl).trans (onlyIf_t hg)) rfl rfl) ?_
     refine Zv (.bool ((((!(homeK m.kind)) && (decide (m.src ≠ 4))) || (decide (m.dst < 0))) || (decide (4 ≤ m.dst)))) (fun _ fr => x_pick_or rfl (fr.ev rfl) (fun _ => rfl) (fun hb => ((fr.ev rfl)).trans (onlyIf_t (by simp_all))) rfl) ?_
     refine Zm ?_
     refine Zy (!((((!(homeK m.kind)) && (decide (m.src ≠ 4))) || (decide (m.dst < 0))) || (decide (4 ≤ m.dst)))) _ (fun _ fr _ => x_fieldAddr fo101_1 rfl (fr.ev rfl) rfl) ?_
     refine Zy (!((((!(homeK m.kind)) && (decide (m.src ≠ 4))) || (decide (m.dst < 0))) || (decide (4 ≤ m.dst)))) _ (fun _ fr hg => x_load1 pl4 rfl ((fr.ev rfl).trans (onlyIf_t hg)) (B28.cell 1 rfl)) ?_
     refine Zy (!((((!(homeK m.kind)) && (decide (m.src ≠ 4))) || (decide (m.dst < 0))) || (decide (4 ≤ m.dst)))) _ (fun _ fr hg => x_not rfl ((fr.ev rfl).trans (onlyIf_t hg)) rfl) ?_
     refine Zy (!((((!(homeK m.kind)) && (decide (m.src ≠ 4))) || (decide (m.dst < 0))) || (decide (4 ≤ m.dst)))) _ (fun _ fr hg => x_move rfl ((fr.ev rfl).trans (onlyIf_t hg))) ?_
     intro a fr
     refine fx_may2 (g := (!((((!(homeK m.kind)) && (decide (m.src ≠ 4))) || (decide (m.dst < 0))) || (decide (4 ≤ m.dst)))) && (!(bytesK m.kind))) (v := .pointer (some ⟨b1, 4, none⟩)) fr rfl rfl rfl (by simp) rfl (by first | decide | simp) (fun hg => x_fieldAddr fo36_4 rfl (fr.ev rfl) rfl) ?_
     clear fr a
     intro a fr
     refine fx_may2 (g := (!((((!(homeK m.kind)) && (decide (m.src ≠ 4))) || (decide (m.dst < 0))) || (decide (4 ≤ m.dst)))) && (!(bytesK m.kind))) (v := .agg (bsE.arr m.bs)) fr rfl rfl rfl (by simp) rfl (by first | decide | simp) (fun hg => x_loadE (E := bsE) ag34 rfl rfl ((fr.ev rfl).trans (onlyIf_t hg)) (B4.part (msg_bs _))) ?_
     clear fr a
     intro a fr
     refine fx_may2 (g := (!((((!(homeK m.kind)) && (decide (m.src ≠ 4))) || (decide (m.dst < 0))) || (decide (4 ≤ m.dst)))) && (!(bytesK m.kind))) (v := .agg (bsE.arr b16z)) fr rfl rfl rfl (by simp) rfl (by first | decide | simp) (fun hg => x_build (cells := bsE.arr b16z) rfl (by kernel_rfl)) ?_
     clear fr a
     intro a fr
     refine fx_may2 (g := (!((((!(homeK m.kind)) && (decide (m.src ≠ 4))) || (decide (m.dst < 0))) || (decide (4 ≤ m.dst)))) && (!(bytesK m.kind))) (v := .bool (!decide (m.bs = b16z))) fr rfl rfl rfl (by simp) rfl (by first | decide | simp) (fun hg => x_neE bsER rfl rfl ((fr.ev rfl).trans (onlyIf_t hg)) ((fr.ev rfl).trans (onlyIf_t hg)) rfl) ?_
     clear fr a
     refine Zy (!((((!(homeK m.kind)) && (decide (m.src ≠ 4))) || (decide (m.dst < 0))) || (decide (4 ≤ m.dst)))) (.bool ((!(bytesK m.kind)) && (!decide (m.bs = b16z)))) (fun _ fr hg => x_pick_and rfl ((fr.ev rfl).trans (onlyIf_t hg)) (fun hb => ((fr.ev rfl)).trans (onlyIf_t (by simp_all))) (fun _ => rfl) rfl) ?_
     refine Zv (.bool (((((!(homeK m.kind)) && (decide (m.src ≠ 4))) || (decide (m.dst < 0))) || (decide (4 ≤ m.dst))) || ((!(bytesK m.kind)) && (!decide (m.bs = b16z))))) (fun _ fr => x_pick_or rfl (fr.ev rfl) (fun _ => rfl) (fun hb => ((fr.ev rfl)).trans (onlyIf_t (by simp_all))) rfl) ?_
     refine Znn ?_
     refine Zcd (fun hc36 => ?_) (fun hc36 => ?_)
     ·have hc36s := hc36
      try simp at hc36s
      refine Zsr ?_
      refine Za ?_
      refine Znn ?_
      refine Zrt ?_
      refine Zr1 ?_
      refine Zr2 ?_
      refine Zr1 ?_
      refine Zre rfl [_] ⟨rfl, trivial⟩ ?_
      replace hF := (hF.trNew hN27).loc hO31 (.inr g_b25)
      exact ⟨_, rfl, congrArg (Value.int .i64) (by have hx := home_not m.kind; have hk := isK_iff m.kind; by_cases e1 : m.dst = 4 <;> by_cases e2 : m.src = 4 <;> simp_all [chk, goodMsg, isCache, bs0] <;> first | omega | (intro p q; rcases ‹(_ ∨ _) ∨ _› with (h | h) | h <;> first | omega | exact h | exact ⟨h.1, decide_eq_false h.2⟩)), hF⟩
     ·have hc36s := hc36
      try simp at hc36s
      refine Zsk ?_
      refine Znx ?_
      refine Zex ?_
      refine Zxx ?_
      refine Znx ?_
      refine Zsr ?_
      refine Za ?_
      refine Znn ?_
      refine Zrt ?_
      refine Zre rfl [_] ⟨rfl, trivial⟩ ?_
      replace hF := (hF.trNew hN27).loc hO31 (.inr g_b25)
      exact ⟨_, rfl, congrArg (Value.int .i64) (by have hx := home_not m.kind; have hk := isK_iff m.kind; by_cases e1 : m.dst = 4 <;> by_cases e2 : m.src = 4 <;> simp_all [chk, goodMsg, isCache, bs0] <;> first | omega | (intro p q; rcases ‹(_ ∨ _) ∨ _› with (h | h) | h <;> first | omega | exact h | exact ⟨h.1, decide_eq_false h.2⟩)), hF⟩
 ·refine Zna (z := zv1) (cs := #[.bool false, .bool false]) (by kernel_rfl) fun b37 w38 hN39 B40 hb41 => ?_
  have ne_b1_b37 : NE b1 b37 := NE.mk (Nat.lt_of_lt_of_le B4.lt hb41)
  replace hF := (hF.trNew hN3).trNew hN7
  have g_b37 := Nat.le_trans hF.size hb41
  replace B4 := B4.new hN39
  refine Zhb ⟨B4, trivial⟩ ?_
  refine Zh1 0 ?_
  refine Zk cf47 (wants_c _) ?_
  rintro v w45 ⟨r42, rfl, hr44, M43, hN46⟩
  replace B4 := B4.new hN46
  refine Zhb ⟨B4, trivial⟩ ?_
  refine Zh1 3 ?_
  refine Zv (.tuple #[.agg (#[.bool (homeK m.kind), .bool (bytesK m.kind)]), .bool (isK m.kind)]) (fun _ fr => x_lookup (k := .i64) (ok := true) (v := .agg (#[.bool (homeK m.kind), .bool (bytesK m.kind)])) (b := (isK m.kind)) Try.underlying103 Try.underlying33 rfl (fr.ev rfl) (fr.ev rfl) M43 (z := .agg (#[.bool false, .bool false])) (by kernel_rfl) (wants_find _)) ?_
  refine Zhb ⟨B4, trivial⟩ ?_
  have hS9 := And.intro B4 trivial
  refine Zhm 4 hS9 ?_
  refine Zhx 5 hS9 ?_
  refine Zhx 6 hS9 ?_
  refine Zh1 8 ?_
  replace B40 := B40.new hN46
  refine ZsS sz101 (by simp [Value.oneCell']) B40 rfl rfl (ho := rfl) (hy := rfl) fun w47 hO48 hBq => ?_
  replace B40 := hBq
  clear hBq
  replace B4 := B4.only hO48 ne_b1_b37
  refine Zhb ⟨B4, trivial⟩ ?_
  refine Zhn ?_
  refine Ztl ?_
  refine Za ?_
  refine Znn ?_
  refine Zsr ?_
  refine Zf fo36_2 ?_
  refine Zd (v := .int .i64 m.dst) pl3 (B4.cell 2 rfl) ?_
  refine Za ?_
  refine Znn ?_
  refine Zsq ?_
  refine Zbl ?_
  refine Zsq ?_
  refine Zbl ?_
  refine Zsq ?_
  refine Zbl ?_
  refine Zsq ?_
  refine Zbl ?_
  refine Zsq ?_
  refine Zsq ?_
  refine Zsr ?_
  refine Zm ?_
  refine Zv _ (fun _ fr => x_not rfl (fr.ev rfl) rfl) ?_
  refine Za ?_
  refine Znn ?_
  refine Zcd (fun hc49 => ?_) (fun hc49 => ?_)
  ·refine Zex ?_
   refine Zxt ?_
   refine Zxt ?_
   refine Zxx ?_
   refine Znx ?_
   refine Zsq ?_
   refine Zsr ?_
   refine Za ?_
   refine Znn ?_
   refine Zrt ?_
   refine Zr1 ?_
   refine Zr2 ?_
   refine Zr1 ?_
   refine Zr2 ?_
   refine Zr1 ?_
   refine Zr2 ?_
   refine Zr1 ?_
   refine Zre rfl [_] ⟨rfl, trivial⟩ ?_
   replace hF := ((hF.trNew hN39).trNew hN46).loc hO48 (.inr g_b37)
   exact ⟨_, rfl, congrArg (Value.int .i64) (by have hx := home_not m.kind; have hk := isK_iff m.kind; by_cases e1 : m.dst = 4 <;> by_cases e2 : m.src = 4 <;> simp_all [chk, goodMsg, isCache, bs0] <;> first | omega | (intro p q; rcases ‹(_ ∨ _) ∨ _› with (h | h) | h <;> first | omega | exact h | exact ⟨h.1, decide_eq_false h.2⟩)), hF⟩
  ·refine Zsk ?_
   refine Znx ?_
   refine Zsr ?_
   refine Zf fo101_0 ?_
   refine Zd (v := .bool (homeK m.kind)) pl4 (B40.cell 0 rfl) ?_
   refine Za ?_
   refine Znn ?_
   refine Zcd (fun hc50 => ?_) (fun hc50 => ?_)
   ·refine Zex ?_
    refine Zxt ?_
    refine Zxb ?_
    refine Zxt ?_
    refine Zxx ?_
    refine Znx ?_
    refine Zsq ?_
    refine Zsr ?_
    refine Zf fo36_2 ?_
    refine Zd (v := .int .i64 m.dst) pl3 (B4.cell 2 rfl) ?_
    refine Zv _ (fun _ fr => x_neq rfl (fr.ev rfl) rfl rfl) ?_
    refine Znn ?_
    refine Zcd (fun hc51 => ?_) (fun hc51 => ?_)
    ·have hc51 := of_decide_eq_true hc51
     refine Zsr ?_
     refine Za ?_
     refine Znn ?_
     refine Zrt ?_
     refine Zr1 ?_
     refine Zr2 ?_
     refine Zr1 ?_
     refine Zr2 ?_
     refine Zr1 ?_
     refine Zre rfl [_] ⟨rfl, trivial⟩ ?_
     replace hF := ((hF.trNew hN39).trNew hN46).loc hO48 (.inr g_b37)
     exact ⟨_, rfl, congrArg (Value.int .i64) (by have hx := home_not m.kind; have hk := isK_iff m.kind; by_cases e1 : m.dst = 4 <;> by_cases e2 : m.src = 4 <;> simp_all [chk, goodMsg, isCache, bs0] <;> first | omega | (intro p q; rcases ‹(_ ∨ _) ∨ _› with (h | h) | h <;> first | omega | exact h | exact ⟨h.1, decide_eq_false h.2⟩)), hF⟩
    ·have hc51 := of_decide_eq_false hc51
     refine Zsk ?_
     refine Znx ?_
     refine Zrg ?_
     refine Zf fo36_1 ?_
     refine Zd (v := .int .i64 m.src) pl3 (B4.cell 1 rfl) ?_
     refine Za ?_
     refine Znl ?_
     refine Zb ?_
     refine Znx ?_
     refine Zsq ?_
     refine Zsr ?_
     refine Zf fo101_0 ?_
     refine Zd (v := .bool (homeK m.kind)) pl4 (B40.cell 0 rfl) ?_
     refine Zv _ (fun _ fr => x_not rfl (fr.ev rfl) rfl) ?_
     refine Zm ?_
     refine Zy (!(homeK m.kind)) _ (fun _ fr _ => x_fieldAddr fo36_1 rfl (fr.ev rfl) rfl) ?_
     refine Zy (!(homeK m.kind)) _ (fun _ fr hg => x_load1 pl3 rfl ((fr.ev rfl).trans (onlyIf_t hg)) (B4.cell 1 rfl)) ?_
     refine Zy (!(homeK m.kind)) _ (fun _ fr hg => x_neq rfl ((fr.ev rfl).trans (onlyIf_t hg)) rfl rfl) ?_
     refine Zv (.bool ((!(homeK m.kind)) && (decide (m.src ≠ 4)))) (fun _ fr => x_pick_and rfl (fr.ev rfl) (fun hb => ((fr.ev rfl)).trans (onlyIf_t (by simp_all))) (fun _ => rfl) rfl) ?_
     refine Zm ?_
     refine Zy (!((!(homeK m.kind)) && (decide (m.src ≠ 4)))) _ (fun _ fr _ => x_move rfl (fr.ev rfl)) ?_
     refine Zy (!((!(homeK m.kind)) && (decide (m.src ≠ 4)))) _ (fun _ fr hg => x_lss rfl ((fr.ev rfl).trans (onlyIf_t hg)) rfl rfl) ?_
     refine Zv (.bool (((!(homeK m.kind)) && (decide (m.src ≠ 4))) || (decide (m.src < 0)))) (fun _ fr => x_pick_or rfl (fr.ev rfl) (fun _ => rfl) (fun hb => ((fr.ev rfl)).trans (onlyIf_t (by simp_all))) rfl) ?_
     refine Zm ?_
     refine Zy (!(((!(homeK m.kind)) && (decide (m.src ≠ 4))) || (decide (m.src < 0)))) _ (fun _ fr _ => x_move rfl (fr.ev rfl)) ?_
     refine Zy (!(((!(homeK m.kind)) && (decide (m.src ≠ 4))) || (decide (m.src < 0)))) _ (fun _ fr hg => x_geq rfl ((fr.ev rfl).trans (onlyIf_t hg)) rfl rfl) ?_
     refine Zv (.bool ((((!(homeK m.kind)) && (decide (m.src ≠ 4))) || (decide (m.src < 0))) || (decide (4 ≤ m.src)))) (fun _ fr => x_pick_or rfl (fr.ev rfl) (fun _ => rfl) (fun hb => ((fr.ev rfl)).trans (onlyIf_t (by simp_all))) rfl) ?_
     refine Zm ?_
     refine Zy (!((((!(homeK m.kind)) && (decide (m.src ≠ 4))) || (decide (m.src < 0))) || (decide (4 ≤ m.src)))) _ (fun _ fr _ => x_fieldAddr fo101_1 rfl (fr.ev rfl) rfl) ?_
     refine Zy (!((((!(homeK m.kind)) && (decide (m.src ≠ 4))) || (decide (m.src < 0))) || (decide (4 ≤ m.src)))) _ (fun _ fr hg => x_load1 pl4 rfl ((fr.ev rfl).trans (onlyIf_t hg)) (B40.cell 1 rfl)) ?_
     refine Zy (!((((!(homeK m.kind)) && (decide (m.src ≠ 4))) || (decide (m.src < 0))) || (decide (4 ≤ m.src)))) _ (fun _ fr hg => x_not rfl ((fr.ev rfl).trans (onlyIf_t hg)) rfl) ?_
     refine Zy (!((((!(homeK m.kind)) && (decide (m.src ≠ 4))) || (decide (m.src < 0))) || (decide (4 ≤ m.src)))) _ (fun _ fr hg => x_move rfl ((fr.ev rfl).trans (onlyIf_t hg))) ?_
     intro a fr
     refine fx_may2 (g := (!((((!(homeK m.kind)) && (decide (m.src ≠ 4))) || (decide (m.src < 0))) || (decide (4 ≤ m.src)))) && (!(bytesK m.kind))) (v := .pointer (some ⟨b1, 4, none⟩)) fr rfl rfl rfl (by simp) rfl (by first | decide | simp) (fun hg => x_fieldAddr fo36_4 rfl (fr.ev rfl) rfl) ?_
     clear fr a
     intro a fr
     refine fx_may2 (g := (!((((!(homeK m.kind)) && (decide (m.src ≠ 4))) || (decide (m.src < 0))) || (decide (4 ≤ m.src)))) && (!(bytesK m.kind))) (v := .agg (bsE.arr m.bs)) fr rfl rfl rfl (by simp) rfl (by first | decide | simp) (fun hg => x_loadE (E := bsE) ag34 rfl rfl ((fr.ev rfl).trans (onlyIf_t hg)) (B4.part (msg_bs _))) ?_
     clear fr a
     intro a fr
     refine fx_may2 (g := (!((((!(homeK m.kind)) && (decide (m.src ≠ 4))) || (decide (m.src < 0))) || (decide (4 ≤ m.src)))) && (!(bytesK m.kind))) (v := .agg (bsE.arr b16z)) fr rfl rfl rfl (by simp) rfl (by first | decide | simp) (fun hg => x_build (cells := bsE.arr b16z) rfl (by kernel_rfl)) ?_
     clear fr a
     intro a fr
     refine fx_may2 (g := (!((((!(homeK m.kind)) && (decide (m.src ≠ 4))) || (decide (m.src < 0))) || (decide (4 ≤ m.src)))) && (!(bytesK m.kind))) (v := .bool (!decide (m.bs = b16z))) fr rfl rfl rfl (by simp) rfl (by first | decide | simp) (fun hg => x_neE bsER rfl rfl ((fr.ev rfl).trans (onlyIf_t hg)) ((fr.ev rfl).trans (onlyIf_t hg)) rfl) ?_
     clear fr a
     refine Zy (!((((!(homeK m.kind)) && (decide (m.src ≠ 4))) || (decide (m.src < 0))) || (decide (4 ≤ m.src)))) (.bool ((!(bytesK m.kind)) && (!decide (m.bs = b16z)))) (fun _ fr hg => x_pick_and rfl ((fr.ev rfl).trans (onlyIf_t hg)) (fun hb => ((fr.ev rfl)).trans (onlyIf_t (by simp_all))) (fun _ => rfl) rfl) ?_
     refine Zv (.bool (((((!(homeK m.kind)) && (decide (m.src ≠ 4))) || (decide (m.src < 0))) || (decide (4 ≤ m.src))) || ((!(bytesK m.kind)) && (!decide (m.bs = b16z))))) (fun _ fr => x_pick_or rfl (fr.ev rfl) (fun _ => rfl) (fun hb => ((fr.ev rfl)).trans (onlyIf_t (by simp_all))) rfl) ?_
     refine Znn ?_
     refine Zcd (fun hc52 => ?_) (fun hc52 => ?_)
     ·have hc52s := hc52
      try simp at hc52s
      refine Zsr ?_
      refine Za ?_
      refine Znn ?_
      refine Zrt ?_
      refine Zr1 ?_
      refine Zr2 ?_
      refine Zr1 ?_
      refine Zre rfl [_] ⟨rfl, trivial⟩ ?_
      replace hF := ((hF.trNew hN39).trNew hN46).loc hO48 (.inr g_b37)
      exact ⟨_, rfl, congrArg (Value.int .i64) (by have hx := home_not m.kind; have hk := isK_iff m.kind; by_cases e1 : m.dst = 4 <;> by_cases e2 : m.src = 4 <;> simp_all [chk, goodMsg, isCache, bs0] <;> first | omega | (intro p q; rcases ‹(_ ∨ _) ∨ _› with (h | h) | h <;> first | omega | exact h | exact ⟨h.1, decide_eq_false h.2⟩)), hF⟩
     ·have hc52s := hc52
      try simp at hc52s
      refine Zsk ?_
      refine Znx ?_
      refine Zex ?_
      refine Zxx ?_
      refine Znx ?_
      refine Zsr ?_
      refine Za ?_
      refine Znn ?_
      refine Zrt ?_
      refine Zre rfl [_] ⟨rfl, trivial⟩ ?_
      replace hF := ((hF.trNew hN39).trNew hN46).loc hO48 (.inr g_b37)
      exact ⟨_, rfl, congrArg (Value.int .i64) (by have hx := home_not m.kind; have hk := isK_iff m.kind; by_cases e1 : m.dst = 4 <;> by_cases e2 : m.src = 4 <;> simp_all [chk, goodMsg, isCache, bs0] <;> first | omega | (intro p q; rcases ‹(_ ∨ _) ∨ _› with (h | h) | h <;> first | omega | exact h | exact ⟨h.1, decide_eq_false h.2⟩)), hF⟩
   ·refine Zsk ?_
    refine Znx ?_
    refine Zex ?_
    refine Zxb ?_
    refine Zxt ?_
    refine Zxb ?_
    refine Zxt ?_
    refine Zxx ?_
    refine Znx ?_
    refine Zsq ?_
    refine Zsr ?_
    refine Zf fo101_0 ?_
    refine Zd (v := .bool (homeK m.kind)) pl4 (B40.cell 0 rfl) ?_
    refine Zv _ (fun _ fr => x_not rfl (fr.ev rfl) rfl) ?_
    refine Zm ?_
    refine Zy (!(homeK m.kind)) _ (fun _ fr _ => x_fieldAddr fo36_1 rfl (fr.ev rfl) rfl) ?_
    refine Zy (!(homeK m.kind)) _ (fun _ fr hg => x_load1 pl3 rfl ((fr.ev rfl).trans (onlyIf_t hg)) (B4.cell 1 rfl)) ?_
    refine Zy (!(homeK m.kind)) _ (fun _ fr hg => x_neq rfl ((fr.ev rfl).trans (onlyIf_t hg)) rfl rfl) ?_
    refine Zv (.bool ((!(homeK m.kind)) && (decide (m.src ≠ 4)))) (fun _ fr => x_pick_and rfl (fr.ev rfl) (fun hb => ((fr.ev rfl)).trans (onlyIf_t (by simp_all))) (fun _ => rfl) rfl) ?_
    refine Zm ?_
    refine Zy (!((!(homeK m.kind)) && (decide (m.src ≠ 4)))) _ (fun _ fr _ => x_move rfl (fr.ev rfl)) ?_
    refine Zy (!((!(homeK m.kind)) && (decide (m.src ≠ 4)))) _ (fun _ fr hg => x_lss rfl ((fr.ev rfl).trans (onlyIf_t hg)) rfl rfl) ?_
    refine Zv (.bool (((!(homeK m.kind)) && (decide (m.src ≠ 4))) || (decide (m.dst < 0)))) (fun _ fr => x_pick_or rfl (fr.ev rfl) (fun _ => rfl) (fun hb => ((fr.ev rfl)).trans (onlyIf_t (by simp_all))) rfl) ?_
    refine Zm ?_
    refine Zy (!(((!(homeK m.kind)) && (decide (m.src ≠ 4))) || (decide (m.dst < 0)))) _ (fun _ fr _ => x_move rfl (fr.ev rfl)) ?_
    refine Zy (!(((!(homeK m.kind)) && (decide (m.src ≠ 4))) || (decide (m.dst < 0)))) _ (fun _ fr hg => x_geq rfl ((fr.ev rfl).trans (onlyIf_t hg)) rfl rfl) ?_
    refine Zv (.bool ((((!(homeK m.kind)) && (decide (m.src ≠ 4))) || (decide (m.dst < 0))) || (decide (4 ≤ m.dst)))) (fun _ fr => x_pick_or rfl (fr.ev rfl) (fun _ => rfl) (fun hb => ((fr.ev rfl)).trans (onlyIf_t (by simp_all))) rfl) ?_
    refine Zm ?_
    refine Zy (!((((!(homeK m.kind)) && (decide (m.src ≠ 4))) || (decide (m.dst < 0))) || (decide (4 ≤ m.dst)))) _ (fun _ fr _ => x_fieldAddr fo101_1 rfl (fr.ev rfl) rfl) ?_
    refine Zy (!((((!(homeK m.kind)) && (decide (m.src ≠ 4))) || (decide (m.dst < 0))) || (decide (4 ≤ m.dst)))) _ (fun _ fr hg => x_load1 pl4 rfl ((fr.ev rfl).trans (onlyIf_t hg)) (B40.cell 1 rfl)) ?_
    refine Zy (!((((!(homeK m.kind)) && (decide (m.src ≠ 4))) || (decide (m.dst < 0))) || (decide (4 ≤ m.dst)))) _ (fun _ fr hg => x_not rfl ((fr.ev rfl).trans (onlyIf_t hg)) rfl) ?_
    refine Zy (!((((!(homeK m.kind)) && (decide (m.src ≠ 4))) || (decide (m.dst < 0))) || (decide (4 ≤ m.dst)))) _ (fun _ fr hg => x_move rfl ((fr.ev rfl).trans (onlyIf_t hg))) ?_
    intro a fr
    refine fx_may2 (g := (!((((!(homeK m.kind)) && (decide (m.src ≠ 4))) || (decide (m.dst < 0))) || (decide (4 ≤ m.dst)))) && (!(bytesK m.kind))) (v := .pointer (some ⟨b1, 4, none⟩)) fr rfl rfl rfl (by simp) rfl (by first | decide | simp) (fun hg => x_fieldAddr fo36_4 rfl (fr.ev rfl) rfl) ?_
    clear fr a
    intro a fr
    refine fx_may2 (g := (!((((!(homeK m.kind)) && (decide (m.src ≠ 4))) || (decide (m.dst < 0))) || (decide (4 ≤ m.dst)))) && (!(bytesK m.kind))) (v := .agg (bsE.arr m.bs)) fr rfl rfl rfl (by simp) rfl (by first | decide | simp) (fun hg => x_loadE (E := bsE) ag34 rfl rfl ((fr.ev rfl).trans (onlyIf_t hg)) (B4.part (msg_bs _))) ?_
    clear fr a
    intro a fr
    refine fx_may2 (g := (!((((!(homeK m.kind)) && (decide (m.src ≠ 4))) || (decide (m.dst < 0))) || (decide (4 ≤ m.dst)))) && (!(bytesK m.kind))) (v := .agg (bsE.arr b16z)) fr rfl rfl rfl (by simp) rfl (by first | decide | simp) (fun hg => x_build (cells := bsE.arr b16z) rfl (by kernel_rfl)) ?_
    clear fr a
    intro a fr
    refine fx_may2 (g := (!((((!(homeK m.kind)) && (decide (m.src ≠ 4))) || (decide (m.dst < 0))) || (decide (4 ≤ m.dst)))) && (!(bytesK m.kind))) (v := .bool (!decide (m.bs = b16z))) fr rfl rfl rfl (by simp) rfl (by first | decide | simp) (fun hg => x_neE bsER rfl rfl ((fr.ev rfl).trans (onlyIf_t hg)) ((fr.ev rfl).trans (onlyIf_t hg)) rfl) ?_
    clear fr a
    refine Zy (!((((!(homeK m.kind)) && (decide (m.src ≠ 4))) || (decide (m.dst < 0))) || (decide (4 ≤ m.dst)))) (.bool ((!(bytesK m.kind)) && (!decide (m.bs = b16z)))) (fun _ fr hg => x_pick_and rfl ((fr.ev rfl).trans (onlyIf_t hg)) (fun hb => ((fr.ev rfl)).trans (onlyIf_t (by simp_all))) (fun _ => rfl) rfl) ?_
    refine Zv (.bool (((((!(homeK m.kind)) && (decide (m.src ≠ 4))) || (decide (m.dst < 0))) || (decide (4 ≤ m.dst))) || ((!(bytesK m.kind)) && (!decide (m.bs = b16z))))) (fun _ fr => x_pick_or rfl (fr.ev rfl) (fun _ => rfl) (fun hb => ((fr.ev rfl)).trans (onlyIf_t (by simp_all))) rfl) ?_
    refine Znn ?_
    refine Zcd (fun hc53 => ?_) (fun hc53 => ?_)
    ·have hc53s := hc53
     try simp at hc53s
     refine Zsr ?_
     refine Za ?_
     refine Znn ?_
     refine Zrt ?_
     refine Zr1 ?_
     refine Zr2 ?_
     refine Zr1 ?_
     refine Zre rfl [_] ⟨rfl, trivial⟩ ?_
     replace hF := ((hF.trNew hN39).trNew hN46).loc hO48 (.inr g_b37)
     exact ⟨_, rfl, congrArg (Value.int .i64) (by have hx := home_not m.kind; have hk := isK_iff m.kind; by_cases e1 : m.dst = 4 <;> by_cases e2 : m.src = 4 <;> simp_all [chk, goodMsg, isCache, bs0] <;> first | omega | (intro p q; rcases ‹(_ ∨ _) ∨ _› with (h | h) | h <;> first | omega | exact h | exact ⟨h.1, decide_eq_false h.2⟩)), hF⟩
    ·have hc53s := hc53
     try simp at hc53s
     refine Zsk ?_
     refine Znx ?_
     refine Zex ?_
     refine Zxx ?_
     refine Znx ?_
     refine Zsr ?_
     refine Za ?_
     refine Znn ?_
     refine Zrt ?_
     refine Zre rfl [_] ⟨rfl, trivial⟩ ?_
     replace hF := ((hF.trNew hN39).trNew hN46).loc hO48 (.inr g_b37)
     exact ⟨_, rfl, congrArg (Value.int .i64) (by have hx := home_not m.kind; have hk := isK_iff m.kind; by_cases e1 : m.dst = 4 <;> by_cases e2 : m.src = 4 <;> simp_all [chk, goodMsg, isCache, bs0] <;> first | omega | (intro p q; rcases ‹(_ ∨ _) ∨ _› with (h | h) | h <;> first | omega | exact h | exact ⟨h.1, decide_eq_false h.2⟩)), hF⟩
end Go.Proofs.Ytdiaemlgghfecaa
namespace Go.Proofs.Ytdiaemlgghfecaa
open Go.RowKit
set_option maxRecDepth 100000 in
set_option maxHeartbeats 4000000 in
theorem must_ok (e : Int) (w : World) : Calls Try.prog 49 #[.bool true, .int .i64 e] w (Ret fun v w' => v = .tuple #[] ∧ w' = w) := by
 refine Zen 9 Try.func49 ?_
 refine Zsr ?_
 refine Zm ?_
 refine Zv (.bool false) (fun _ fr => x_not rfl (fr.ev rfl) rfl) ?_
 refine Znn ?_
 refine Zcf ?_
 refine Zsk ?_
 refine Zee rfl [] trivial ?_
 exact ⟨_, rfl, rfl, rfl⟩
def stopE (why : Int) : List PanicEntry := [{ v := .iface 75 (.agg #[.int .i64 why]), recovered := false }]
set_option maxRecDepth 100000 in
set_option maxHeartbeats 4000000 in
theorem must_no (e : Int) (w : World) : Calls Try.prog 49 #[.bool false, .int .i64 e] w (Pan fun c w' => c = stopE e ∧ w' = w) := by
 refine Zen 9 Try.func49 ?_
 refine Zsr ?_
 refine Zm ?_
 refine Zv (.bool true) (fun _ fr => x_not rfl (fr.ev rfl) rfl) ?_
 refine Znn ?_
 refine Zct ?_
 refine Zrg ?_
 refine Zm ?_
 refine Zv (.agg (#[.int .i64 e])) (fun a fr => x_build (cells := #[.int .i64 e]) rfl (by simp only [List.map_toArray, List.map_cons, List.map_nil, show a.eval (.tmp 6) = .int .i64 e from fr.ev rfl]; kernel_rfl)) ?_
 refine Zv _ (fun _ fr => x_makeInterface rfl (fr.ev rfl) Try.underlying75 rfl) ?_
 intro a fr
 refine fx_panic rfl rfl (fr.ev rfl) ?_
 refine fx_pend fr ?_
 exact ⟨_, rfl, rfl, rfl⟩
theorem must_nob {b : Bool} (hb : b = false) (e : Int) (w : World) : Calls Try.prog 49 #[.bool b, .int .i64 e] w (Pan fun c w' => c = stopE e ∧ w' = w) := by subst hb; exact must_no e w
set_option maxRecDepth 100000 in
set_option maxHeartbeats 4000000 in
theorem leave_c {w : World} {bw be bh : Nat} {A : Option Addr} {n ac : Nat} {line : Int} (hW : Blk w bw 82 #[.slice A n ac, .pointer (some ⟨be, 0, none⟩), .pointer (some ⟨bh, 0, none⟩), .int .u32 line]) {d : Ent} {qv : Value} (hE : Blk w be 42 (entA d qv)) (ne_bw_be : NE bw be) (r : Int) : Calls Try.prog 66 #[.pointer (some ⟨bw, 0, none⟩), .int .i64 r] w (Ret fun v w' => v = .tuple #[] ∧ Blk w' be 42 (entA (leaveF d r) qv) ∧ Only (fun k => k = be) w w') := by
 have hF := Only.refl (fun k => k = be) w
 refine Zen 19 Try.func66 ?_
 refine Zsr ?_
 refine Zm ?_
 refine Zn ?_
 refine Zf fo82_1 ?_
 refine Zd pl78 (hW.cell 1 rfl) ?_
 refine Zn ?_
 refine Zf fo42_0 ?_
 refine Zd (v := .int .i64 d.o) pl3 (hE.cell 0 rfl) ?_
 refine Zm ?_
 refine Zv _ (fun _ fr => x_eql rfl (fr.ev rfl) (fr.ev rfl) rfl) ?_
 refine Znn ?_
 refine Zcd (fun hc1 => ?_) (fun hc1 => ?_)
 ·have hc1 := of_decide_eq_true hc1
  refine Zrg ?_
  refine Zm ?_
  refine Zn ?_
  refine Zf fo82_1 ?_
  refine Zd pl78 (hW.cell 1 rfl) ?_
  refine Zn ?_
  refine Zf fo42_0 ?_
  refine Zs1 (cs' := entA ({ d with o := (-1) }) (qv)) sz3 hE (show 0 < 11 by decide) rfl fun w2 hO3 hBq => ?_
  replace hE := hBq
  clear hBq
  refine Znl ?_
  refine Zee rfl [] trivial ?_
  replace hF := hF.loc hO3 (.inl rfl)
  refine ⟨_, rfl, rfl, ?_, hF⟩
  rw [show leaveF d r = { d with o := -1 } by unfold leaveF; rw [if_pos hc1]]
  exact hE
 ·have hc1 := of_decide_eq_false hc1
  refine Zsk ?_
  refine Zee rfl [] trivial ?_
  refine ⟨_, rfl, rfl, ?_, hF⟩
  rw [show leaveF d r = d by unfold leaveF; rw [if_neg hc1]]
  exact hE
set_option maxRecDepth 100000 in
set_option maxHeartbeats 4000000 in
theorem own_c {w : World} {bw be bh : Nat} {A : Option Addr} {n ac : Nat} {line : Int} (hW : Blk w bw 82 #[.slice A n ac, .pointer (some ⟨be, 0, none⟩), .pointer (some ⟨bh, 0, none⟩), .int .u32 line]) {d : Ent} {qv : Value} (hE : Blk w be 42 (entA d qv)) (ne_bw_be : NE bw be) (r : Int) : Calls Try.prog 52 #[.pointer (some ⟨bw, 0, none⟩), .int .i64 r] w (Ret fun v w' => v = .tuple #[] ∧ Blk w' be 42 (entA (ownF d r) qv) ∧ Only (fun k => k = be) w w') := by
 have hF := Only.refl (fun k => k = be) w
 refine Zen 18 Try.func52 ?_
 refine ZhT (n := 13) 13 (fun w => Blk w bw 82 #[.slice A n ac, .pointer (some ⟨be, 0, none⟩), .pointer (some ⟨bh, 0, none⟩), .int .u32 line] ∧ True) ?_
 intro w1 hN2
 replace hW := hW.new hN2
 have hS9 := And.intro hW trivial
 refine Zhm 0 hS9 ?_
 refine Zhc 1 hS9 ?_
 refine Zhf 2 fo82_1 hS9 ?_
 refine Zhl 3 pl78 hS9 (fun _ ⟨hW, _⟩ => (hW.cell 1 rfl)) ?_
 refine Zhm 4 hS9 ?_
 refine Zhc 5 hS9 ?_
 refine Zhf 6 fo82_1 hS9 ?_
 refine Zhl 7 pl78 hS9 (fun _ ⟨hW, _⟩ => (hW.cell 1 rfl)) ?_
 refine Zhm 8 hS9 ?_
 refine Zht 9 rfl (.agg (#[.bool false, .bool false, .bool false, .bool false])) hS9 (fun _ _ _ _ => x_build (cells := #[.bool false, .bool false, .bool false, .bool false]) rfl (by kernel_rfl)) ?_
 refine Zhc 10 hS9 ?_
 refine Zhf 11 fo42_0 hS9 ?_
 refine Zh1 12 ?_
 replace hE := hE.new hN2
 refine Zs1 (cs' := entA ({ d with o := r }) (qv)) sz3 hE (show 0 < 11 by decide) rfl fun w3 hO4 hBq => ?_
 replace hE := hBq
 clear hBq
 replace hW := hW.only hO4 ne_bw_be
 refine Zhb ⟨hW, trivial⟩ ?_
 refine Zhn ?_
 refine Ztl ?_
 refine Zn ?_
 refine Zf fo42_1 ?_
 intro a fr
 refine fx_storeAt sz40 rfl rfl rfl (fr.ev rfl) (fr.ev rfl) (by simp [Value.oneCell']) hE rfl (show 1 + 4 ≤ 11 by decide) (cs' := entA ({ { d with o := r } with sh := sh0 }) (qv)) rfl fun w5 hO6 hBq => ?_
 revert a
 replace hE := hBq
 clear hBq
 refine Znl ?_
 refine Zee rfl [] trivial ?_
 replace hF := ((hF.trNew hN2).loc hO4 (.inl rfl)).loc hO6 (.inl rfl)
 exact ⟨_, rfl, rfl, hE, hF⟩
set_option maxRecDepth 100000 in
set_option maxHeartbeats 4000000 in
theorem busy_c {w : World} {bw be bh : Nat} {A : Option Addr} {n ac : Nat} {line : Int} (hW : Blk w bw 82 #[.slice A n ac, .pointer (some ⟨be, 0, none⟩), .pointer (some ⟨bh, 0, none⟩), .int .u32 line]) {d : Ent} {qv : Value} (hE : Blk w be 42 (entA d qv)) (ne_bw_be : NE bw be) (m : Msg) (waits : Int) (told : Bool) : Calls Try.prog 67 #[.pointer (some ⟨bw, 0, none⟩), .agg (msgE.arr m), .int .i64 waits, .bool told] w (Ret fun v w' => v = .tuple #[] ∧ Blk w' be 42 (entA (busyF d m waits told) qv) ∧ Only (fun k => k = be) w w') := by
 have hF := Only.refl (fun k => k = be) w
 refine Zen 44 Try.func67 ?_
 refine Zsr ?_
 refine Znb (cs := msgE.arr m) fun b1 w2 hN3 B4 hb5 => ?_
 have ne_be_b1 : NE be b1 := NE.mk (Nat.lt_of_lt_of_le hE.lt hb5)
 refine Znn ?_
 refine ZhT (n := 38) 38 (fun w => Blk w bw 82 #[.slice A n ac, .pointer (some ⟨be, 0, none⟩), .pointer (some ⟨bh, 0, none⟩), .int .u32 line] ∧ Blk w b1 36 (msgE.arr m) ∧ True) ?_
 intro w6 hN7
 replace hW := (hW.new hN3).new hN7
 replace B4 := B4.new hN7
 have hS9 := And.intro hW (And.intro B4 trivial)
 refine Zhm 0 hS9 ?_
 refine Zhc 1 hS9 ?_
 refine Zhf 2 fo82_1 hS9 ?_
 refine Zhl 3 pl78 hS9 (fun _ ⟨hW, _⟩ => (hW.cell 1 rfl)) ?_
 refine Zhm 4 hS9 ?_
 refine Zhc 5 hS9 ?_
 refine Zhf 6 fo82_1 hS9 ?_
 refine Zhl 7 pl78 hS9 (fun _ ⟨hW, _⟩ => (hW.cell 1 rfl)) ?_
 refine Zhm 8 hS9 ?_
 refine Zhc 9 hS9 ?_
 refine Zhf 10 fo82_1 hS9 ?_
 refine Zhl 11 pl78 hS9 (fun _ ⟨hW, _⟩ => (hW.cell 1 rfl)) ?_
 refine Zhm 12 hS9 ?_
 refine Zhc 13 hS9 ?_
 refine Zhf 14 fo82_1 hS9 ?_
 refine Zhl 15 pl78 hS9 (fun _ ⟨hW, _⟩ => (hW.cell 1 rfl)) ?_
 refine Zhm 16 hS9 ?_
 refine Zhc 17 hS9 ?_
 refine Zhf 18 fo82_1 hS9 ?_
 refine Zhl 19 pl78 hS9 (fun _ ⟨hW, _⟩ => (hW.cell 1 rfl)) ?_
 refine Zhf 20 fo36_1 hS9 ?_
 refine Zhl (v := .int .i64 m.src) 21 pl3 hS9 (fun _ ⟨_, B4, _⟩ => (B4.cell 1 rfl)) ?_
 refine Zhf 22 fo36_0 hS9 ?_
 refine Zhl (v := .int .i64 m.kind) 23 pl33 hS9 (fun _ ⟨_, B4, _⟩ => (B4.cell 0 rfl)) ?_
 refine Zhm 24 hS9 ?_
 refine Zhm 25 hS9 ?_
 refine Zhc 26 hS9 ?_
 refine Zhf 27 fo42_2 hS9 ?_
 refine Zh1 28 ?_
 replace hE := (hE.new hN3).new hN7
 refine Zs1 (cs' := entA ({ d with busy := true }) (qv)) sz4 hE (show 5 < 11 by decide) rfl fun w8 hO9 hBq => ?_
 replace hE := hBq
 clear hBq
 replace hW := hW.only hO9 ne_bw_be
 replace B4 := B4.only hO9 ne_be_b1.symm
 refine Zhb ⟨hW, B4, trivial⟩ ?_
 have hS9 := And.intro hW (And.intro B4 trivial)
 refine Zhc 29 hS9 ?_
 refine Zhf 30 fo42_3 hS9 ?_
 refine Zh1 31 ?_
 refine Zs1 (cs' := entA ({ { d with busy := true } with asks := m.src }) (qv)) sz3 hE (show 6 < 11 by decide) rfl fun w10 hO11 hBq => ?_
 replace hE := hBq
 clear hBq
 replace hW := hW.only hO11 ne_bw_be
 replace B4 := B4.only hO11 ne_be_b1.symm
 refine Zhb ⟨hW, B4, trivial⟩ ?_
 have hS9 := And.intro hW (And.intro B4 trivial)
 refine Zhc 32 hS9 ?_
 refine Zhf 33 fo42_4 hS9 ?_
 refine Zh1 34 ?_
 refine Zs1 (cs' := entA ({ { { d with busy := true } with asks := m.src } with kind := m.kind }) (qv)) sz33 hE (show 7 < 11 by decide) rfl fun w12 hO13 hBq => ?_
 replace hE := hBq
 clear hBq
 replace hW := hW.only hO13 ne_bw_be
 replace B4 := B4.only hO13 ne_be_b1.symm
 refine Zhb ⟨hW, B4, trivial⟩ ?_
 have hS9 := And.intro hW (And.intro B4 trivial)
 refine Zhc 35 hS9 ?_
 refine Zhf 36 fo42_5 hS9 ?_
 refine Zh1 37 ?_
 refine Zs1 (cs' := entA ({ { { { d with busy := true } with asks := m.src } with kind := m.kind } with waits := waits }) (qv)) sz3 hE (show 8 < 11 by decide) rfl fun w14 hO15 hBq => ?_
 replace hE := hBq
 clear hBq
 replace hW := hW.only hO15 ne_bw_be
 replace B4 := B4.only hO15 ne_be_b1.symm
 refine Zhb ⟨hW, B4, trivial⟩ ?_
 refine Zhn ?_
 refine Ztl ?_
 refine Zn ?_
 refine Zf fo42_6 ?_
 refine Zs1 (cs' := entA ({ { { { { d with busy := true } with asks := m.src } with kind := m.kind } with waits := waits } with told := told }) (qv)) sz4 hE (show 9 < 11 by decide) rfl fun w16 hO17 hBq => ?_
 replace hE := hBq
 clear hBq
 refine Znl ?_
 refine Zee rfl [] trivial ?_
 replace hF := ((((((hF.trNew hN3).trNew hN7).loc hO9 (.inl rfl)).loc hO11 (.inl rfl)).loc hO13 (.inl rfl)).loc hO15 (.inl rfl)).loc hO17 (.inl rfl)
 exact ⟨_, rfl, rfl, hE, hF⟩
theorem othK_t {sh : Sh} {r : Int} {i : Nat} (h : (sh.get ((i : Nat) : Int) && decide (((i : Nat) : Int) ≠ r)) = true) : othK sh r (i + 1) = othK sh r i ++ [((i : Nat) : Int)] := if_pos h
theorem othK_f {sh : Sh} {r : Int} {i : Nat} (h : (sh.get ((i : Nat) : Int) && decide (((i : Nat) : Int) ≠ r)) = false) : othK sh r (i + 1) = othK sh r i := if_neg (by rw [h]; decide)
set_option maxRecDepth 100000 in
set_option maxHeartbeats 4000000 in
theorem others_c {w : World} {bw be bh : Nat} {A : Option Addr} {n ac : Nat} {line : Int} (hW : Blk w bw 82 #[.slice A n ac, .pointer (some ⟨be, 0, none⟩), .pointer (some ⟨bh, 0, none⟩), .int .u32 line]) {d : Ent} {qv : Value} (hE : Blk w be 42 (entA d qv)) (ne_bw_be : NE bw be) (r : Int) : Calls Try.prog 68 #[.pointer (some ⟨bw, 0, none⟩), .int .i64 r] w (Ret fun v w' => ∃ A' c', v = .slice A' (othersF d.sh r).length c' ∧ Own intE w' A' c' (othersF d.sh r) ∧ (∀ g, inA A' g → w.heap.size ≤ g) ∧ New w w') := by
 have hF := Only.refl (fun _ => False) w
 refine Zen 31 Try.func68 ?_
 refine Zsr ?_
 refine Za ?_
 refine Znn ?_
 refine Zsr ?_
 refine Za ?_
 refine Znn ?_
 refine Zsq ?_
 refine Zsr ?_
 refine Zm ?_
 refine Zn ?_
 refine Zf fo82_1 ?_
 refine Zd pl78 (hW.cell 1 rfl) ?_
 refine Zn ?_
 refine Zf fo42_1 ?_
 refine Zv _ (fun _ fr => x_loadS ag40 rfl (fr.ev rfl) rfl (hE.part (q := 1) (n := 4) rfl)) ?_
 refine Zm ?_
 refine Znn ?_
 refine Zbl ?_
 intro a fr
 refine fx_loop (fun nM a wL => ∃ i : Nat, ∃ A1 : Option Addr, ∃ c1 : Nat, nM = 4 - i ∧ Fr (31, []) [(0, .pointer (some ⟨bw, 0, none⟩)), (1, .int .i64 r), (5, .slice A1 ((othK d.sh r i).length) c1), (14, .agg (#[.bool d.sh.a, .bool d.sh.b, .bool d.sh.c, .bool d.sh.d])), (15, .int .i64 ((i : Nat) : Int))] a ∧ Only (fun _ => False) w wL ∧ Own intE wL A1 c1 (othK d.sh r i) ∧ i ≤ 4 ∧ (∀ g, inA A1 g → (fun _ => False) g ∨ w.heap.size ≤ g)) (n0 := _) ⟨0, none, 0, rfl, fr.sub ⟨rfl, rfl, rfl, rfl, rfl, trivial⟩, hF, Own.nil, by omega, gA_none⟩ ?_
 clear fr a
 rintro n2 a w1 ⟨i, A1, c1, rfl, fr, hF, OL, hp3, gA_A1⟩
 revert a
 have hkl := othK_len d.sh r i
 refine Zsr ?_
 refine Zv _ (fun _ fr => x_lss rfl (fr.ev rfl) rfl rfl) ?_
 refine Znn ?_
 refine Zsq ?_
 refine Zcd (fun hc4 => ?_) (fun hc4 => ?_)
 ·have hc4 := of_decide_eq_true hc4
  refine Zsk ?_
  refine Znx ?_
  refine Zsq ?_
  refine Zbl ?_
  refine Zsr ?_
  refine Zm ?_
  refine Zv (.bool (d.sh.get ((i : Nat) : Int))) (fun _ fr => x_indexSh (s := d.sh) rfl (fr.ev rfl) (fr.ev rfl) (by omega)) ?_
  refine Za ?_
  refine Za ?_
  refine Znn ?_
  refine Zsr ?_
  refine Zm ?_
  refine Zm ?_
  refine Zy (d.sh.get ((i : Nat) : Int)) _ (fun _ fr _ => x_move rfl (fr.ev rfl)) ?_
  refine Zy (d.sh.get ((i : Nat) : Int)) (.int .i64 r) (fun _ fr _ => x_move rfl (fr.ev rfl)) ?_
  refine Zy (d.sh.get ((i : Nat) : Int)) _ (fun _ fr hg => x_neq rfl ((fr.ev rfl).trans (onlyIf_t hg)) ((fr.ev rfl).trans (onlyIf_t hg)) rfl) ?_
  refine Zv (.bool ((d.sh.get ((i : Nat) : Int)) && (decide (((i : Nat) : Int) ≠ r)))) (fun _ fr => x_pick_and rfl (fr.ev rfl) (fun hb => ((fr.ev rfl)).trans (onlyIf_t (by simp_all))) (fun _ => rfl) rfl) ?_
  refine Znn ?_
  refine Zcd (fun hc5 => ?_) (fun hc5 => ?_)
  ·have hc5s := hc5
   try simp at hc5s
   refine Zrg ?_
   refine Zm ?_
   refine Zm ?_
   intro a fr
   refine fx_build1v (E := intE) (p := ((i : Nat) : Int)) elInt (by decide) fr rfl rfl (by decide) rfl (fr.ev rfl) rfl ?_
   clear fr a
   intro A6 w7 hN8 O9 hA10
   intro a fr
   replace OL := OL.new hN8
   refine fx_append (E := intE) (l := othK d.sh r i) (l' := [((i : Nat) : Int)]) elInt fr rfl rfl (by decide) rfl (fr.ev rfl) (fr.ev rfl) (by first | rfl | (simp; done) | (simp; omega)) (by first | rfl | (simp; done) | (simp; omega)) OL O9.view (by simp; omega) (by first | (unfold maxLen; done) | (unfold maxLen; first | omega | (simp only [List.length_append, List.length_cons, List.length_nil]; omega) | (simp; done) | (simp; omega))) ?_
   clear fr a
   intro A11 cap12 w13 O14 hO15 mv16
   replace hF := hF.trNew hN8
   have gA_A11 := gA_moved hF mv16 gA_A1
   clear OL
   refine Za ?_
   refine Znl ?_
   refine Zb ?_
   refine Znx ?_
   refine Zrg ?_
   refine Zv _ (fun _ fr => x_add rfl (fr.ev rfl) rfl (i64w (r := ((i + 1 : Nat) : Int)) (by omega) (by omega))) ?_
   refine Zm ?_
   intro a fr
   refine wpList_nil ?_
   refine fx_next ?_
   have hek := othK_t hc5
   rw [← hek] at fr O14
   replace hF := hF.locA hO15 gA_A1
   exact ⟨_, by omega, (i + 1), A11, cap12, rfl, fr.sub ⟨rfl, rfl, rfl, rfl, rfl, trivial⟩, hF, O14, by omega, gA_A11⟩
  ·have hc5s := hc5
   try simp at hc5s
   refine Zsk ?_
   refine Zb ?_
   refine Znx ?_
   refine Zrg ?_
   refine Zv _ (fun _ fr => x_add rfl (fr.ev rfl) rfl (i64w (r := ((i + 1 : Nat) : Int)) (by omega) (by omega))) ?_
   refine Zm ?_
   intro a fr
   refine wpList_nil ?_
   refine fx_next ?_
   have hek := othK_f hc5
   rw [← hek] at fr OL
   exact ⟨_, by omega, (i + 1), A1, c1, rfl, fr.sub ⟨rfl, rfl, rfl, rfl, rfl, trivial⟩, hF, OL, by omega, gA_A1⟩
 ·have hc4 := of_decide_eq_false hc4
  refine Zex ?_
  refine Zxt ?_
  refine Zxt ?_
  refine Zxx ?_
  refine Znx ?_
  refine Zsr ?_
  refine Zm ?_
  refine Za ?_
  refine Znn ?_
  refine Zrt ?_
  refine Zre rfl [_] ⟨rfl, trivial⟩ ?_
  obtain rfl : i = 4 := by omega
  exact ⟨_, rfl, A1, c1, rfl, OL, fun g hg => (gA_A1 g hg).resolve_left (fun h => h), hF⟩
def zv2 : Value := .agg (#[.int .i64 0, .int .i64 0, .int .i64 0, .int .u32 0, .int .u8 0, .int .u8 0, .int .u8 0, .int .u8 0, .int .u8 0, .int .u8 0, .int .u8 0, .int .u8 0, .int .u8 0, .int .u8 0, .int .u8 0, .int .u8 0, .int .u8 0, .int .u8 0, .int .u8 0, .int .u8 0])
set_option maxRecDepth 100000 in
set_option maxHeartbeats 4000000 in
theorem send_n {w : World} {bw be bh bi ig cap r : Nat} {A : Option Addr} {ac : Nat} {line : Int} {out : List Msg} {bs : List UInt8} (hln : 0 ≤ line ∧ line < 4294967296) (hW : Blk w bw 82 #[.slice A out.length ac, .pointer (some ⟨be, 0, none⟩), .pointer (some ⟨bh, 0, none⟩), .int .u32 line]) (hH : Blk w bh 64 #[.pointer (some ⟨bi, 0, none⟩), .map (some r)]) (hI : Img 0 w bi ig cap bs) (hO : Own msgE w A ac out) (ne_bw_bh : NE bw bh) (ne_bw_bi : NE bw bi) (ne_bw_ig : NE bw ig) (ap_A_bw : Apart A bw) (ap_A_bh : Apart A bh) (ap_A_bi : Apart A bi) (ap_A_ig : Apart A ig) (hlen : out.length ≤ 1000000) (kind dst : Int) : Calls Try.prog 53 #[.pointer (some ⟨bw, 0, none⟩), .int .i64 kind, .int .i64 dst, .bool false] w (Ret fun v w' => v = .tuple #[] ∧ ∃ A' ac', Blk w' bw 82 #[.slice A' (out ++ [(mkM kind 4 dst line b16z hln)]).length ac', .pointer (some ⟨be, 0, none⟩), .pointer (some ⟨bh, 0, none⟩), .int .u32 line] ∧ Own msgE w' A' ac' (out ++ [(mkM kind 4 dst line b16z hln)]) ∧ (∀ k, inA A' k → inA A k ∨ w.heap.size ≤ k) ∧ Only (fun k => k = bw ∨ inA A k) w w') := by
 have gA_A : ∀ g, inA A g → (g = bw ∨ inA A g) ∨ w.heap.size ≤ g := fun g hg => .inl (.inr hg)
 have hF := Only.refl (fun k => k = bw ∨ inA A k) w
 refine Zen 45 Try.func53 ?_
 refine Zsr ?_
 refine Zm ?_
 refine Zm ?_
 refine Zm ?_
 refine Zn ?_
 refine Zf fo82_3 ?_
 refine Zd (v := .int .u32 line) pl24 (hW.cell 3 rfl) ?_
 refine Zv (.agg (msgE.arr (mkM kind 4 dst line b16z hln))) (fun a fr => x_build (cells := msgE.arr (mkM kind 4 dst line b16z hln)) rfl (by simp only [List.map_toArray, List.map_cons, List.map_nil, show a.eval (.tmp 9) = .int .i64 kind from fr.ev rfl, show a.eval (.tmp 10) = .int .i64 dst from fr.ev rfl, show a.eval (.tmp 14) = .int .u32 line from fr.ev rfl]; kernel_rfl)) ?_
 refine Zna (z := zv2) (cs := msgE.arr msg0) (by kernel_rfl) fun b1 w2 hN3 B4 hb5 => ?_
 have ne_bw_b1 : NE bw b1 := NE.mk (Nat.lt_of_lt_of_le hW.lt hb5)
 have ap_A_b1 : Apart A b1 := hO.apart hb5
 have g_b1 := Nat.le_trans hF.size hb5
 refine ZsS sz36 (msgE.all _) B4 (msgE.size _) (msgE.size _) fun w6 hO7 hBq => ?_
 replace B4 := hBq
 clear hBq
 refine Znn ?_
 refine Zsq ?_
 refine Zsr ?_
 refine Zm ?_
 refine Znn ?_
 refine Zcf ?_
 refine Zsk ?_
 refine Znx ?_
 refine ZhT (n := 9) 9 (fun w => Blk w bw 82 #[.slice A out.length ac, .pointer (some ⟨be, 0, none⟩), .pointer (some ⟨bh, 0, none⟩), .int .u32 line] ∧ Blk w b1 36 (msgE.arr (mkM kind 4 dst line b16z hln)) ∧ True) ?_
 intro w8 hN9
 replace hW := ((hW.new hN3).only hO7 ne_bw_b1).new hN9
 replace B4 := B4.new hN9
 have hS9 := And.intro hW (And.intro B4 trivial)
 refine Zhm 0 hS9 ?_
 refine Zhm 1 hS9 ?_
 refine Zhc 2 hS9 ?_
 refine Zhf 3 fo82_0 hS9 ?_
 refine Zhf 4 fo80_0 hS9 ?_
 refine Zhl (v := .slice A out.length ac) 5 pl23 hS9 (fun _ ⟨hW, _⟩ => (hW.cell 0 rfl)) ?_
 refine ZhE 6 msgE ag36 hS9 (fun _ ⟨_, B4, _⟩ => (B4.rangeE msgE)) ?_
 refine Zh1 7 ?_
 intro a fr
 refine fx_build1 (E := msgE) (p := (mkM kind 4 dst line b16z hln)) elMsg (by decide) fr rfl rfl (by decide) rfl (fr.ev rfl) ?_
 clear fr a
 intro A10 w11 hN12 O13 hA14
 replace hW := hW.new hN12
 replace B4 := B4.new hN12
 refine Zhb ⟨hW, B4, trivial⟩ ?_
 refine Zh1 8 ?_
 intro a fr
 replace hO := (((hO.new hN3).only hO7 (Apart.ne1 ap_A_b1)).new hN9).new hN12
 refine fx_append (E := msgE) (l := out) (l' := [(mkM kind 4 dst line b16z hln)]) elMsg fr rfl rfl (by decide) rfl (fr.ev rfl) (fr.ev rfl) (by first | rfl | (simp; done) | (simp; omega)) (by first | rfl | (simp; done) | (simp; omega)) hO O13.view (by first | omega | (simp; omega)) (by first | (unfold maxLen; done) | (unfold maxLen; first | omega | (simp only [List.length_append, List.length_cons, List.length_nil]; omega) | (simp; done) | (simp; omega))) ?_
 clear fr a
 intro A15 cap16 w17 O18 hO19 mv20
 have ap_A15_bw : Apart A15 bw := moved_apart mv20 ap_A_bw hW.lt
 replace hF := (((hF.trNew hN3).loc hO7 (.inr g_b1)).trNew hN9).trNew hN12
 have gA_A15 := gA_moved hF mv20 gA_A
 clear hO
 replace hW := hW.only hO19 ap_A_bw
 replace B4 := B4.only hO19 ap_A_b1
 refine Zhb ⟨hW, B4, trivial⟩ ?_
 refine Zhn ?_
 refine Ztl ?_
 refine Zn ?_
 refine Zf fo82_0 ?_
 refine Zf fo80_0 ?_
 refine Zs1 (cs' := #[.slice A15 ((out ++ ([(mkM kind 4 dst line b16z hln)])).length) cap16, .pointer (some ⟨be, 0, none⟩), .pointer (some ⟨bh, 0, none⟩), .int .u32 line]) sz23 hW (show 0 < 4 by decide) rfl fun w21 hO22 hBq => ?_
 replace hW := hBq
 clear hBq
 refine Znl ?_
 refine Zee rfl [] trivial ?_
 replace hF := (hF.locA hO19 gA_A).loc hO22 (.inl (.inl rfl))
 replace O18 := O18.only hO22 (Apart.ne1 ap_A15_bw)
 exact ⟨_, rfl, rfl, A15, cap16, hW, O18, fun k hk => (gA_A15 k hk).elim (fun h => h.elim (fun e => absurd hk (e ▸ ap_A15_bw)) .inl) .inr, hF⟩
set_option maxRecDepth 100000 in
set_option maxHeartbeats 4000000 in
theorem send_b {w : World} {bw be bh bi ig cap r : Nat} {A : Option Addr} {ac : Nat} {line : Int} {out : List Msg} {bs : List UInt8} (hln : 0 ≤ line ∧ line < 4294967296) (hW : Blk w bw 82 #[.slice A out.length ac, .pointer (some ⟨be, 0, none⟩), .pointer (some ⟨bh, 0, none⟩), .int .u32 line]) (hH : Blk w bh 64 #[.pointer (some ⟨bi, 0, none⟩), .map (some r)]) (hI : Img 0 w bi ig cap bs) (hO : Own msgE w A ac out) (ne_bw_bh : NE bw bh) (ne_bw_bi : NE bw bi) (ne_bw_ig : NE bw ig) (ap_A_bw : Apart A bw) (ap_A_bh : Apart A bh) (ap_A_bi : Apart A bi) (ap_A_ig : Apart A ig) (hlen : out.length ≤ 1000000) (kind dst : Int) : Calls Try.prog 53 #[.pointer (some ⟨bw, 0, none⟩), .int .i64 kind, .int .i64 dst, .bool true] w (Ret fun v w' => v = .tuple #[] ∧ ∃ A' ac', Blk w' bw 82 #[.slice A' (out ++ [(mkM kind 4 dst line (lineB bs line) hln)]).length ac', .pointer (some ⟨be, 0, none⟩), .pointer (some ⟨bh, 0, none⟩), .int .u32 line] ∧ Own msgE w' A' ac' (out ++ [(mkM kind 4 dst line (lineB bs line) hln)]) ∧ (∀ k, inA A' k → inA A k ∨ w.heap.size ≤ k) ∧ Only (fun k => k = bw ∨ inA A k) w w') := by
 have gA_A : ∀ g, inA A g → (g = bw ∨ inA A g) ∨ w.heap.size ≤ g := fun g hg => .inl (.inr hg)
 have hF := Only.refl (fun k => k = bw ∨ inA A k) w
 refine Zen 45 Try.func53 ?_
 refine Zsr ?_
 refine Zm ?_
 refine Zm ?_
 refine Zm ?_
 refine Zn ?_
 refine Zf fo82_3 ?_
 refine Zd (v := .int .u32 line) pl24 (hW.cell 3 rfl) ?_
 refine Zv (.agg (msgE.arr (mkM kind 4 dst line b16z hln))) (fun a fr => x_build (cells := msgE.arr (mkM kind 4 dst line b16z hln)) rfl (by simp only [List.map_toArray, List.map_cons, List.map_nil, show a.eval (.tmp 9) = .int .i64 kind from fr.ev rfl, show a.eval (.tmp 10) = .int .i64 dst from fr.ev rfl, show a.eval (.tmp 14) = .int .u32 line from fr.ev rfl]; kernel_rfl)) ?_
 refine Zna (z := zv2) (cs := msgE.arr msg0) (by kernel_rfl) fun b1 w2 hN3 B4 hb5 => ?_
 have ne_bw_b1 : NE bw b1 := NE.mk (Nat.lt_of_lt_of_le hW.lt hb5)
 have ne_bh_b1 : NE bh b1 := NE.mk (Nat.lt_of_lt_of_le hH.lt hb5)
 have ne_bi_b1 : NE bi b1 := NE.mk (Nat.lt_of_lt_of_le hI.lt.1 hb5)
 have ne_ig_b1 : NE ig b1 := NE.mk (Nat.lt_of_lt_of_le hI.lt.2 hb5)
 have ap_A_b1 : Apart A b1 := hO.apart hb5
 have g_b1 := Nat.le_trans hF.size hb5
 refine ZsS sz36 (msgE.all _) B4 (msgE.size _) (msgE.size _) fun w6 hO7 hBq => ?_
 replace B4 := hBq
 clear hBq
 refine Znn ?_
 refine Zsq ?_
 refine Zsr ?_
 refine Zm ?_
 refine Znn ?_
 refine Zct ?_
 refine Zhd (n := 17) (fun w => Blk w bw 82 #[.slice A out.length ac, .pointer (some ⟨be, 0, none⟩), .pointer (some ⟨bh, 0, none⟩), .int .u32 line] ∧ Blk w bh 64 #[.pointer (some ⟨bi, 0, none⟩), .map (some r)] ∧ True) ?_
 intro w8 hN9
 replace hW := ((hW.new hN3).only hO7 ne_bw_b1).new hN9
 replace hH := ((hH.new hN3).only hO7 ne_bh_b1).new hN9
 have hS9 := And.intro hW (And.intro hH trivial)
 refine Zhm 0 hS9 ?_
 refine Zhc 1 hS9 ?_
 refine Zhf 2 fo82_2 hS9 ?_
 refine Zhl 3 pl25 hS9 (fun _ ⟨hW, _⟩ => (hW.cell 2 rfl)) ?_
 refine Zhc 4 hS9 ?_
 refine Zhf 5 fo64_0 hS9 ?_
 refine Zhl 6 pl61 hS9 (fun _ ⟨_, hH, _⟩ => (hH.cell 0 rfl)) ?_
 refine Zhm 7 hS9 ?_
 refine Zhc 8 hS9 ?_
 refine Zhf 9 fo82_3 hS9 ?_
 refine Zhl (v := .int .u32 line) 10 pl24 hS9 (fun _ ⟨hW, _⟩ => (hW.cell 3 rfl)) ?_
 refine Zh1 11 ?_
 replace hI := ((hI.new hN3).only hO7 ne_bi_b1 ne_ig_b1).new hN9
 refine Zk (args := #[.pointer (some ⟨bi, 0, none⟩), .int .u32 line]) cf65 (hline_c line (by omega) hI) ?_
 rintro v w10 ⟨rfl, hN11⟩
 replace hW := hW.new hN11
 replace hH := hH.new hN11
 refine Zhb ⟨hW, hH, trivial⟩ ?_
 have hS9 := And.intro hW (And.intro hH trivial)
 refine Zhm 12 hS9 ?_
 refine Zhx 13 hS9 ?_
 refine Zhx 14 hS9 ?_
 refine Zhf 15 fo36_4 hS9 ?_
 refine Zh1 16 ?_
 intro a fr
 replace B4 := (B4.new hN9).new hN11
 refine fx_storePart (E := msgE) (E2 := bsE) (q := 4) (m := (mkM kind 4 dst line b16z hln)) (m' := { (mkM kind 4 dst line b16z hln) with bs := (lineB bs line) }) (z := (lineB bs line)) sz34 rfl rfl rfl (fr.ev rfl) (fr.ev rfl) B4 (by decide) (msg_setbs _ _) fun w12 hO13 hBq => ?_
 revert a
 replace B4 := hBq
 clear hBq
 replace hW := hW.only hO13 ne_bw_b1
 replace hH := hH.only hO13 ne_bh_b1
 refine Zhb ⟨hW, hH, trivial⟩ ?_
 refine Zhn ?_
 refine Znx ?_
 refine ZhT (n := 9) 9 (fun w => Blk w bw 82 #[.slice A out.length ac, .pointer (some ⟨be, 0, none⟩), .pointer (some ⟨bh, 0, none⟩), .int .u32 line] ∧ Blk w b1 36 (msgE.arr { (mkM kind 4 dst line b16z hln) with bs := (lineB bs line) }) ∧ True) ?_
 intro w14 hN15
 replace hW := hW.new hN15
 replace B4 := B4.new hN15
 have hS9 := And.intro hW (And.intro B4 trivial)
 refine Zhm 0 hS9 ?_
 refine Zhm 1 hS9 ?_
 refine Zhc 2 hS9 ?_
 refine Zhf 3 fo82_0 hS9 ?_
 refine Zhf 4 fo80_0 hS9 ?_
 refine Zhl (v := .slice A out.length ac) 5 pl23 hS9 (fun _ ⟨hW, _⟩ => (hW.cell 0 rfl)) ?_
 refine ZhE 6 msgE ag36 hS9 (fun _ ⟨_, B4, _⟩ => (B4.rangeE msgE)) ?_
 refine Zh1 7 ?_
 intro a fr
 refine fx_build1 (E := msgE) (p := { (mkM kind 4 dst line b16z hln) with bs := (lineB bs line) }) elMsg (by decide) fr rfl rfl (by decide) rfl (fr.ev rfl) ?_
 clear fr a
 intro A16 w17 hN18 O19 hA20
 replace hW := hW.new hN18
 replace B4 := B4.new hN18
 refine Zhb ⟨hW, B4, trivial⟩ ?_
 refine Zh1 8 ?_
 intro a fr
 replace hO := ((((((hO.new hN3).only hO7 (Apart.ne1 ap_A_b1)).new hN9).new hN11).only hO13 (Apart.ne1 ap_A_b1)).new hN15).new hN18
 refine fx_append (E := msgE) (l := out) (l' := [{ (mkM kind 4 dst line b16z hln) with bs := (lineB bs line) }]) elMsg fr rfl rfl (by decide) rfl (fr.ev rfl) (fr.ev rfl) (by first | rfl | (simp; done) | (simp; omega)) (by first | rfl | (simp; done) | (simp; omega)) hO O19.view (by first | omega | (simp; omega)) (by first | (unfold maxLen; done) | (unfold maxLen; first | omega | (simp only [List.length_append, List.length_cons, List.length_nil]; omega) | (simp; done) | (simp; omega))) ?_
 clear fr a
 intro A21 cap22 w23 O24 hO25 mv26
 have ap_A21_bw : Apart A21 bw := moved_apart mv26 ap_A_bw hW.lt
 replace hF := ((((((hF.trNew hN3).loc hO7 (.inr g_b1)).trNew hN9).trNew hN11).loc hO13 (.inr g_b1)).trNew hN15).trNew hN18
 have gA_A21 := gA_moved hF mv26 gA_A
 clear hO
 replace hW := hW.only hO25 ap_A_bw
 replace B4 := B4.only hO25 ap_A_b1
 refine Zhb ⟨hW, B4, trivial⟩ ?_
 refine Zhn ?_
 refine Ztl ?_
 refine Zn ?_
 refine Zf fo82_0 ?_
 refine Zf fo80_0 ?_
 refine Zs1 (cs' := #[.slice A21 ((out ++ ([{ (mkM kind 4 dst line b16z hln) with bs := (lineB bs line) }])).length) cap22, .pointer (some ⟨be, 0, none⟩), .pointer (some ⟨bh, 0, none⟩), .int .u32 line]) sz23 hW (show 0 < 4 by decide) rfl fun w27 hO28 hBq => ?_
 replace hW := hBq
 clear hBq
 refine Znl ?_
 refine Zee rfl [] trivial ?_
 replace hF := (hF.locA hO25 gA_A).loc hO28 (.inl (.inl rfl))
 replace O24 := O24.only hO28 (Apart.ne1 ap_A21_bw)
 exact ⟨_, rfl, rfl, A21, cap22, hW, O24, fun k hk => (gA_A21 k hk).elim (fun h => h.elim (fun e => absurd hk (e ▸ ap_A21_bw)) .inl) .inr, hF⟩
end Go.Proofs.Ytdiaemlgghfecaa
namespace Go.Proofs.Ytdiaemlgghfecaa
open Go.RowKit
set_option maxRecDepth 100000 in
set_option maxHeartbeats 4000000 in
theorem write_c {w : World} {bw be bh bi ig cap r : Nat} {line : Int} {d : Ent} {Q : Option Addr} {qc : Nat} {A : Option Addr} {ac : Nat} {out : List Msg} {bs : List UInt8} (R : WorkR w bw be bh bi ig cap r line d Q qc A ac out bs) (hln : 0 ≤ line ∧ line < 4294967296) (hlen : out.length + 8 ≤ 1000000)  : Calls Try.prog 51 #[.pointer (some ⟨bw, 0, none⟩)] w (Ret fun v w' => v = .tuple #[] ∧ WRet w w' bw be bh bi ig cap r line Q qc A out ({ ownF d d.asks with told := true }) bs ([mkM 10 4 d.asks line (lineB bs line) hln])) := by
 obtain ⟨hW, hE, hH, hI, hQ, hO, hS⟩ := R
 have ne_bw_be := hS.ne_bw_be
 have ne_bw_bh := hS.ne_bw_bh
 have ne_bw_bi := hS.ne_bw_bi
 have ne_bw_ig := hS.ne_bw_ig
 have ne_be_bh := hS.ne_be_bh
 have ne_be_bi := hS.ne_be_bi
 have ne_be_ig := hS.ne_be_ig
 have ne_bh_bi := hS.ne_bh_bi
 have ne_bh_ig := hS.ne_bh_ig
 have ne_bi_ig := hS.ne_bi_ig
 have ap_Q_bw := hS.ap_Q_bw
 have ap_Q_be := hS.ap_Q_be
 have ap_Q_bh := hS.ap_Q_bh
 have ap_Q_bi := hS.ap_Q_bi
 have ap_Q_ig := hS.ap_Q_ig
 have ap_A_bw := hS.ap_A_bw
 have ap_A_be := hS.ap_A_be
 have ap_A_bh := hS.ap_A_bh
 have ap_A_bi := hS.ap_A_bi
 have ap_A_ig := hS.ap_A_ig
 have ap2_Q_A := hS.ap2_Q_A
 have gA_A : ∀ g, inA A g → (g = bw ∨ g = be ∨ g = ig ∨ inA A g) ∨ w.heap.size ≤ g := fun g hg => .inl (.inr (.inr (.inr hg)))
 have hF := Only.refl (fun k => k = bw ∨ k = be ∨ k = ig ∨ inA A k) w
 refine Zen 26 Try.func51 ?_
 refine Zsr ?_
 refine Zm ?_
 refine Zm ?_
 refine Zn ?_
 refine Zf fo82_1 ?_
 refine Zd pl78 (hW.cell 1 rfl) ?_
 refine Zn ?_
 refine Zf fo42_3 ?_
 refine Zd (v := .int .i64 d.asks) pl3 (hE.cell 6 rfl) ?_
 refine Zk cf52 (own_c hW hE ne_bw_be d.asks) ?_
 rintro v w2 ⟨rfl, hEn1, hN3⟩
 replace hE := hEn1
 clear hEn1
 refine Znn ?_
 refine Zsr ?_
 refine Zm ?_
 refine Zm ?_
 refine Zn ?_
 refine Zf fo82_1 ?_
 replace hW := hW.only hN3 ne_bw_be
 refine Zd pl78 (hW.cell 1 rfl) ?_
 refine Zn ?_
 refine Zf fo42_3 ?_
 refine Zd (v := .int .i64 d.asks) pl3 (hE.cell 6 rfl) ?_
 replace hH := hH.only hN3 ne_be_bh.symm
 replace hI := hI.only hN3 ne_be_bi.symm ne_be_ig.symm
 replace hO := hO.only hN3 (Apart.ne1 ap_A_be)
 refine Zk (args := #[.pointer (some ⟨bw, 0, none⟩), .int .i64 10, .int .i64 d.asks, .bool true]) cf53 (send_b hln hW hH hI hO ne_bw_bh ne_bw_bi ne_bw_ig ap_A_bw ap_A_bh ap_A_bi ap_A_ig (by first | omega | (simp only [List.length_append, List.length_cons, List.length_nil, List.length_map, List.length_take]; omega)) 10 d.asks) ?_
 rintro v w9 ⟨rfl, A4, ac5, hWn6, O7, mv8, hN10⟩
 have ap_A4_bw : Apart A4 bw := moved_apart mv8 ap_A_bw hW.lt
 have ap_A4_bh : Apart A4 bh := moved_apart mv8 ap_A_bh hH.lt
 have ap_A4_bi : Apart A4 bi := moved_apart mv8 ap_A_bi hI.lt.1
 have ap_A4_ig : Apart A4 ig := moved_apart mv8 ap_A_ig hI.lt.2
 replace hQ := hQ.only hN3 (Apart.ne1 ap_Q_be)
 have ap2_A4_Q : Apart2 A4 Q := moved_apart2 mv8 ap2_Q_A.symm fun _ hg => hQ.lt hg
 have ap_A4_be : Apart A4 be := moved_apart mv8 ap_A_be hE.lt
 replace hF := hF.loc hN3 (.inl (.inr (.inl rfl)))
 have gA_A4 := gA_moved hF mv8 gA_A
 clear hW hO
 have hW := hWn6
 clear hWn6
 refine Znn ?_
 refine Zrg ?_
 refine Zm ?_
 refine Zn ?_
 refine Zf fo82_1 ?_
 refine Zd pl78 (hW.cell 1 rfl) ?_
 refine Zn ?_
 refine Zf fo42_6 ?_
 replace hE := hE.only hN10 (fun h => h.elim ne_bw_be.symm ap_A_be)
 refine Zs1 (cs' := entA ({ ownF d d.asks with told := true }) (.slice Q d.q.length qc)) sz4 hE (show 9 < 11 by decide) rfl fun w11 hO12 hBq => ?_
 replace hE := hBq
 clear hBq
 refine Znl ?_
 refine Zee rfl [] trivial ?_
 replace hH := (hH.only hN10 (fun h => h.elim ne_bw_bh.symm ap_A_bh)).only hO12 ne_be_bh.symm
 replace hI := (hI.only hN10 (fun h => h.elim ne_bw_bi.symm ap_A_bi) (fun h => h.elim ne_bw_ig.symm ap_A_ig)).only hO12 ne_be_bi.symm ne_be_ig.symm
 replace hQ := (hQ.only hN10 (fun g hg => (fun h => h.elim ((Apart.ne1 ap_Q_bw) g hg) ((fun g h1 h2 => ap2_Q_A g h1 h2) g hg)))).only hO12 (Apart.ne1 ap_Q_be)
 replace hF := (hF.loc2 hN10 (.inl (.inl rfl)) gA_A).loc hO12 (.inl (.inr (.inl rfl)))
 replace hW := hW.only hO12 ne_bw_be
 replace O7 := O7.only hO12 (Apart.ne1 ap_A4_be)
 exact ⟨_, rfl, rfl, A4, ac5, ⟨hW, hE, hH, hI, hQ, O7, ⟨ne_bw_be, ne_bw_bh, ne_bw_bi, ne_bw_ig, ne_be_bh, ne_be_bi, ne_be_ig, ne_bh_bi, ne_bh_ig, ne_bi_ig, ap_Q_bw, ap_Q_be, ap_Q_bh, ap_Q_bi, ap_Q_ig, ap_A4_bw, ap_A4_be, ap_A4_bh, ap_A4_bi, ap_A4_ig, ap2_A4_Q.symm⟩⟩, wmv gA_A4 ap_A4_bw ap_A4_be ap_A4_ig, hF⟩
set_option maxRecDepth 100000 in
set_option maxHeartbeats 4000000 in
theorem gets_c {w : World} {bw be bh bi ig cap r : Nat} {d : Ent} {Q : Option Addr} {qc : Nat} {A : Option Addr} {ac : Nat} {out : List Msg} {bs : List UInt8} (m : Msg) (R : WorkR w bw be bh bi ig cap r m.line d Q qc A ac out bs) (hlen : out.length + 8 ≤ 1000000) (hsrc : 0 ≤ m.src ∧ m.src < 4) (hk : m.kind = 1) : Calls Try.prog 60 #[.pointer (some ⟨bw, 0, none⟩), .agg (msgE.arr m)] w (Ret fun v w' => v = .tuple #[] ∧ WRet w w' bw be bh bi ig cap r m.line Q qc A out (beginF bs d m).1 (beginF bs d m).2.1 (beginF bs d m).2.2) := by
 obtain ⟨hW, hE, hH, hI, hQ, hO, hS⟩ := R
 have ne_bw_be := hS.ne_bw_be
 have ne_bw_bh := hS.ne_bw_bh
 have ne_bw_bi := hS.ne_bw_bi
 have ne_bw_ig := hS.ne_bw_ig
 have ne_be_bh := hS.ne_be_bh
 have ne_be_bi := hS.ne_be_bi
 have ne_be_ig := hS.ne_be_ig
 have ne_bh_bi := hS.ne_bh_bi
 have ne_bh_ig := hS.ne_bh_ig
 have ne_bi_ig := hS.ne_bi_ig
 have ap_Q_bw := hS.ap_Q_bw
 have ap_Q_be := hS.ap_Q_be
 have ap_Q_bh := hS.ap_Q_bh
 have ap_Q_bi := hS.ap_Q_bi
 have ap_Q_ig := hS.ap_Q_ig
 have ap_A_bw := hS.ap_A_bw
 have ap_A_be := hS.ap_A_be
 have ap_A_bh := hS.ap_A_bh
 have ap_A_bi := hS.ap_A_bi
 have ap_A_ig := hS.ap_A_ig
 have ap2_Q_A := hS.ap2_Q_A
 have gA_A : ∀ g, inA A g → (g = bw ∨ g = be ∨ g = ig ∨ inA A g) ∨ w.heap.size ≤ g := fun g hg => .inl (.inr (.inr (.inr hg)))
 have hmn := m.hn
 have hF := Only.refl (fun k => k = bw ∨ k = be ∨ k = ig ∨ inA A k) w
 refine fx_enter Try.func60 rfl (N := (63, [])) (T := [(0, .pointer (some ⟨bw, 0, none⟩)), (1, .agg (msgE.arr m))]) rfl (show 2 ≤ 63 by decide) ⟨rfl, rfl, trivial⟩ fun a fr => ?_
 refine wp_seq ?_
 refine wp_region_lit ?_
 refine fx_new fr rfl rfl (by decide) (x_box (cs := msgE.arr m) rfl (fr.ev rfl) rfl) ?_
 clear fr a
 intro b1 w2 hN3 B4 hb5 a fr
 have ne_bw_b1 : NE bw b1 := NE.mk (Nat.lt_of_lt_of_le hW.lt hb5)
 have ne_be_b1 : NE be b1 := NE.mk (Nat.lt_of_lt_of_le hE.lt hb5)
 have ne_bh_b1 : NE bh b1 := NE.mk (Nat.lt_of_lt_of_le hH.lt hb5)
 have ne_bi_b1 : NE bi b1 := NE.mk (Nat.lt_of_lt_of_le hI.lt.1 hb5)
 have ne_ig_b1 : NE ig b1 := NE.mk (Nat.lt_of_lt_of_le hI.lt.2 hb5)
 have ap_Q_b1 : Apart Q b1 := hQ.apart hb5
 have ap_A_b1 : Apart A b1 := hO.apart hb5
 have g_b1 := Nat.le_trans hF.size hb5
 replace hW := hW.new hN3
 replace hE := hE.new hN3
 replace hH := hH.new hN3
 replace hI := hI.new hN3
 replace hQ := hQ.new hN3
 replace hO := hO.new hN3
 replace hF := hF.trNew hN3
 refine wpList_nil ?_
 refine fx_next ?_
 refine wp_seq ?_
 refine wp_region_lit ?_
 refine fx_val (v := .pointer (some ⟨bw, 0, none⟩)) fr rfl rfl (by decide) (x_move rfl (fr.ev rfl)) ?_
 clear fr a; intro a fr
 refine fx_val (v := .pointer (some ⟨b1, 1, none⟩)) fr rfl rfl (by decide) (x_fieldAddr fo36_1 rfl (fr.ev rfl) rfl) ?_
 clear fr a; intro a fr
 refine fx_val (v := .int .i64 m.src) fr rfl rfl (by decide) (x_load1 pl3 rfl (fr.ev rfl) (B4.cell 1 rfl)) ?_
 clear fr a; intro a fr
 refine fx_call fr rfl rfl (by decide) (x_call (vs := [.pointer (some ⟨bw, 0, none⟩), .int .i64 m.src]) rfl rfl ⟨(fr.ev rfl), (fr.ev rfl), trivial⟩ Try.func66 nm66 rfl) (leave_c hW hE ne_bw_be m.src) ?_
 clear fr a
 rintro v w7 ⟨rfl, hEn6, hN8⟩ a fr
 replace hW := hW.only hN8 (by first | exact ne_bw_be | exact ne_be_bw.symm | (show ¬ bw = be; omega))
 replace hH := hH.only hN8 (by first | exact ne_bh_be | exact ne_be_bh.symm | (show ¬ bh = be; omega))
 replace hI := hI.only hN8 (by first | exact ne_bi_be | exact ne_be_bi.symm | (show ¬ bi = be; omega)) (by first | exact ne_ig_be | exact ne_be_ig.symm | (show ¬ ig = be; omega))
 replace hQ := hQ.only hN8 (Apart.ne1 ap_Q_be)
 replace hO := hO.only hN8 (Apart.ne1 ap_A_be)
 replace B4 := B4.only hN8 (by first | exact ne_b1_be | exact ne_be_b1.symm | (show ¬ b1 = be; omega))
 replace hF := hF.loc hN8 (.inl (.inr (.inl rfl)))
 replace hE := hEn6
 clear hEn6
 refine wpList_nil ?_
 refine fx_next ?_
 refine wp_block ?_
 refine wp_seq ?_
 refine wp_region_lit ?_
 refine fx_val (v := .pointer (some ⟨bw, 0, none⟩)) fr rfl rfl (by decide) (x_move rfl (fr.ev rfl)) ?_
 clear fr a; intro a fr
 refine fx_val (v := .pointer (some ⟨bw, 0, none⟩)) fr rfl rfl (by decide) (x_nilCheck rfl (fr.ev rfl)) ?_
 clear fr a; intro a fr
 refine fx_val (v := .pointer (some ⟨bw, 1, none⟩)) fr rfl rfl (by decide) (x_fieldAddr fo82_1 rfl (fr.ev rfl) rfl) ?_
 clear fr a; intro a fr
 refine fx_val (v := .pointer (some ⟨be, 0, none⟩)) fr rfl rfl (by decide) (x_load1 pl78 rfl (fr.ev rfl) (hW.cell 1 rfl)) ?_
 clear fr a; intro a fr
 refine fx_val (v := .pointer (some ⟨be, 0, none⟩)) fr rfl rfl (by decide) (x_nilCheck rfl (fr.ev rfl)) ?_
 clear fr a; intro a fr
 refine fx_val (v := .pointer (some ⟨be, 0, none⟩)) fr rfl rfl (by decide) (x_fieldAddr fo42_0 rfl (fr.ev rfl) rfl) ?_
 clear fr a; intro a fr
 refine fx_val (v := .int .i64 ((leaveF d m.src).o)) fr rfl rfl (by decide) (x_load1 pl3 rfl (fr.ev rfl) (hE.cell 0 rfl)) ?_
 clear fr a; intro a fr
 refine fx_val (v := .bool (decide (0 ≤ (leaveF d m.src).o))) fr rfl rfl (by decide) (x_geq rfl (fr.ev rfl) rfl rfl) ?_
 clear fr a; intro a fr
 refine fx_val (v := .bool (decide (0 ≤ (leaveF d m.src).o))) fr rfl rfl (by decide) (x_assign rfl (fr.ev rfl)) ?_
 clear fr a; intro a fr
 refine wpList_nil ?_
 refine fx_next ?_
 refine fx_cond fr rfl (fun hc9 => ?_) (fun hc9 => ?_)
 ·skip
  have hc9 := of_decide_eq_true hc9
  refine wp_seq ?_
  refine wp_region_lit ?_
  refine fx_val (v := .pointer (some ⟨bw, 0, none⟩)) fr rfl rfl (by decide) (x_move rfl (fr.ev rfl)) ?_
  clear fr a; intro a fr
  refine fx_val (v := .pointer (some ⟨bw, 0, none⟩)) fr rfl rfl (by decide) (x_move rfl (fr.ev rfl)) ?_
  clear fr a; intro a fr
  refine fx_val (v := .pointer (some ⟨bw, 0, none⟩)) fr rfl rfl (by decide) (x_nilCheck rfl (fr.ev rfl)) ?_
  clear fr a; intro a fr
  refine fx_val (v := .pointer (some ⟨bw, 1, none⟩)) fr rfl rfl (by decide) (x_fieldAddr fo82_1 rfl (fr.ev rfl) rfl) ?_
  clear fr a; intro a fr
  refine fx_val (v := .pointer (some ⟨be, 0, none⟩)) fr rfl rfl (by decide) (x_load1 pl78 rfl (fr.ev rfl) (hW.cell 1 rfl)) ?_
  clear fr a; intro a fr
  refine fx_val (v := .pointer (some ⟨be, 0, none⟩)) fr rfl rfl (by decide) (x_nilCheck rfl (fr.ev rfl)) ?_
  clear fr a; intro a fr
  refine fx_val (v := .pointer (some ⟨be, 0, none⟩)) fr rfl rfl (by decide) (x_fieldAddr fo42_0 rfl (fr.ev rfl) rfl) ?_
  clear fr a; intro a fr
  refine fx_val (v := .int .i64 ((leaveF d m.src).o)) fr rfl rfl (by decide) (x_load1 pl3 rfl (fr.ev rfl) (hE.cell 0 rfl)) ?_
  clear fr a; intro a fr
  refine fx_call fr rfl rfl (by decide) (x_call (vs := [.pointer (some ⟨bw, 0, none⟩), .int .i64 4, .int .i64 ((leaveF d m.src).o), .bool false]) rfl rfl ⟨(fr.ev rfl), rfl, (fr.ev rfl), rfl, trivial⟩ Try.func53 nm53 rfl) (send_n m.hn hW hH hI hO ne_bw_bh ne_bw_bi ne_bw_ig ap_A_bw ap_A_bh ap_A_bi ap_A_ig (by first | omega | (simp only [List.length_append, List.length_cons, List.length_nil, List.length_map, List.length_take]; omega)) 4 ((leaveF d m.src).o)) ?_
  clear fr a
  rintro v w15 ⟨rfl, A10, ac11, hWn12, O13, mv14, hN16⟩ a fr
  have ap_A10_bw : Apart A10 bw := moved_apart mv14 ap_A_bw hW.lt
  have ap_A10_bh : Apart A10 bh := moved_apart mv14 ap_A_bh hH.lt
  have ap_A10_bi : Apart A10 bi := moved_apart mv14 ap_A_bi hI.lt.1
  have ap_A10_ig : Apart A10 ig := moved_apart mv14 ap_A_ig hI.lt.2
  have ap2_A10_Q : Apart2 A10 Q := moved_apart2 mv14 ap2_Q_A.symm fun _ hg => hQ.lt hg
  have ap_A10_b1 : Apart A10 b1 := moved_apart mv14 ap_A_b1 B4.lt
  have ap_A10_be : Apart A10 be := moved_apart mv14 ap_A_be hE.lt
  have gA_A10 := gA_moved hF mv14 gA_A
  replace hH := hH.only hN16 (fun h => h.elim (by first | exact ne_bh_bw | exact ne_bw_bh.symm | (show ¬ bh = bw; omega)) ap_A_bh)
  replace hI := hI.only hN16 (fun h => h.elim (by first | exact ne_bi_bw | exact ne_bw_bi.symm | (show ¬ bi = bw; omega)) ap_A_bi) (fun h => h.elim (by first | exact ne_ig_bw | exact ne_bw_ig.symm | (show ¬ ig = bw; omega)) ap_A_ig)
  replace hQ := hQ.only hN16 (fun g hg => (fun h => h.elim ((Apart.ne1 ap_Q_bw) g hg) ((fun g h1 h2 => ap2_Q_A g h1 h2) g hg)))
  replace B4 := B4.only hN16 (fun h => h.elim (by first | exact ne_b1_bw | exact ne_bw_b1.symm | (show ¬ b1 = bw; omega)) ap_A_b1)
  replace hE := hE.only hN16 (fun h => h.elim (by first | exact ne_be_bw | exact ne_bw_be.symm | (show ¬ be = bw; omega)) ap_A_be)
  replace hF := hF.loc2 hN16 (.inl (.inl rfl)) gA_A
  clear hW hO
  have hW := hWn12
  clear hWn12
  refine wpList_nil ?_
  refine fx_next ?_
  refine wp_region_lit ?_
  refine fx_val (v := .pointer (some ⟨bw, 0, none⟩)) fr rfl rfl (by decide) (x_move rfl (fr.ev rfl)) ?_
  clear fr a; intro a fr
  refine fx_val (v := .agg (msgE.arr m)) fr rfl rfl (by decide) (x_loadE (E := msgE) ag36 rfl rfl (fr.ev rfl) (B4.rangeE msgE)) ?_
  clear fr a; intro a fr
  refine fx_call fr rfl rfl (by decide) (x_call (vs := [.pointer (some ⟨bw, 0, none⟩), .agg (msgE.arr m), .int .i64 1, .bool false]) rfl rfl ⟨(fr.ev rfl), (fr.ev rfl), rfl, rfl, trivial⟩ Try.func67 nm67 rfl) (busy_c hW hE ne_bw_be m 1 false) ?_
  clear fr a
  rintro v w18 ⟨rfl, hEn17, hN19⟩ a fr
  replace hH := hH.only hN19 (by first | exact ne_bh_be | exact ne_be_bh.symm | (show ¬ bh = be; omega))
  replace hI := hI.only hN19 (by first | exact ne_bi_be | exact ne_be_bi.symm | (show ¬ bi = be; omega)) (by first | exact ne_ig_be | exact ne_be_ig.symm | (show ¬ ig = be; omega))
  replace hQ := hQ.only hN19 (Apart.ne1 ap_Q_be)
  replace B4 := B4.only hN19 (by first | exact ne_b1_be | exact ne_be_b1.symm | (show ¬ b1 = be; omega))
  replace hW := hW.only hN19 (by first | exact ne_bw_be | exact ne_be_bw.symm | (show ¬ bw = be; omega))
  replace O13 := O13.only hN19 (Apart.ne1 ap_A10_be)
  replace hF := hF.loc hN19 (.inl (.inr (.inl rfl)))
  replace hE := hEn17
  clear hEn17
  refine wpList_nil ?_
  refine fx_blk ?_
  refine fx_end fr [] [] rfl trivial rfl ?_
  rw [begin_s1 hk hc9]
  exact ⟨_, rfl, rfl, A10, ac11, ⟨hW, hE, hH, hI, hQ, O13, ⟨ne_bw_be, ne_bw_bh, ne_bw_bi, ne_bw_ig, ne_be_bh, ne_be_bi, ne_be_ig, ne_bh_bi, ne_bh_ig, ne_bi_ig, ap_Q_bw, ap_Q_be, ap_Q_bh, ap_Q_bi, ap_Q_ig, ap_A10_bw, ap_A10_be, ap_A10_bh, ap_A10_bi, ap_A10_ig, ap2_A10_Q.symm⟩⟩, wmv gA_A10 ap_A10_bw ap_A10_be ap_A10_ig, hF⟩
 ·skip
  have hc9 := of_decide_eq_false hc9
  refine wp_seq ?_
  refine wp_region_lit ?_
  refine fx_val (v := .pointer (some ⟨bw, 0, none⟩)) fr rfl rfl (by decide) (x_move rfl (fr.ev rfl)) ?_
  clear fr a; intro a fr
  refine fx_val (v := .pointer (some ⟨b1, 1, none⟩)) fr rfl rfl (by decide) (x_fieldAddr fo36_1 rfl (fr.ev rfl) rfl) ?_
  clear fr a; intro a fr
  refine fx_val (v := .int .i64 m.src) fr rfl rfl (by decide) (x_load1 pl3 rfl (fr.ev rfl) (B4.cell 1 rfl)) ?_
  clear fr a; intro a fr
  refine fx_call fr rfl rfl (by decide) (x_call (vs := [.pointer (some ⟨bw, 0, none⟩), .int .i64 m.src]) rfl rfl ⟨(fr.ev rfl), (fr.ev rfl), trivial⟩ Try.func68 nm68 rfl) (others_c hW hE ne_bw_be m.src) ?_
  clear fr a
  rintro v w25 ⟨A20, c21, rfl, OL22, hA23, hN26⟩ a fr
  have ap_A20_bw : Apart A20 bw := new_apart hA23 hW.lt
  have ap_A20_bh : Apart A20 bh := new_apart hA23 hH.lt
  have ap_A20_bi : Apart A20 bi := new_apart hA23 hI.lt.1
  have ap_A20_ig : Apart A20 ig := new_apart hA23 hI.lt.2
  have ap2_Q_A20 : Apart2 Q A20 := (new_apart2 hA23 fun _ hg => hQ.lt hg).symm
  have ap2_A_A20 : Apart2 A A20 := (new_apart2 hA23 fun _ hg => hO.lt hg).symm
  have ap_A20_b1 : Apart A20 b1 := new_apart hA23 B4.lt
  have ap_A20_be : Apart A20 be := new_apart hA23 hE.lt
  have gA_A20 := gA_new hF hA23
  replace hW := hW.new hN26
  replace hH := hH.new hN26
  replace hI := hI.new hN26
  replace hQ := hQ.new hN26
  replace hO := hO.new hN26
  replace B4 := B4.new hN26
  replace hE := hE.new hN26
  replace hF := hF.trNew hN26
  have hol24 : (othersF d.sh m.src).length ≤ 4 := othK_len _ _ 4
  refine fx_val (v := .int .i64 (((othersF d.sh m.src).length : Nat) : Int)) fr rfl rfl (by decide) (x_len Try.underlying119 rfl (fr.ev rfl)) ?_
  clear fr a; intro a fr
  refine fx_val (v := .bool (decide (0 < (((othersF d.sh m.src).length : Nat) : Int)))) fr rfl rfl (by decide) (x_gtr rfl (fr.ev rfl) rfl rfl) ?_
  clear fr a; intro a fr
  refine fx_val (v := .bool (decide (0 < (((othersF d.sh m.src).length : Nat) : Int)))) fr rfl rfl (by decide) (x_assign rfl (fr.ev rfl)) ?_
  clear fr a; intro a fr
  refine wpList_nil ?_
  refine fx_next ?_
  refine fx_cond fr rfl (fun hc27 => ?_) (fun hc27 => ?_)
  ·skip
   have hc27 := of_decide_eq_true hc27
   refine wp_seq ?_
   refine fx_held (n := 10) (fun w => Blk w bw 82 #[.slice A out.length ac, .pointer (some ⟨be, 0, none⟩), .pointer (some ⟨bh, 0, none⟩), .int .u32 m.line] ∧ Blk w bh 64 #[.pointer (some ⟨bi, 0, none⟩), .map (some r)] ∧ Img 0 w bi ig cap bs ∧ View msgE w Q qc d.q ∧ Own msgE w A ac out ∧ Blk w b1 36 (msgE.arr m) ∧ Own intE w A20 c21 (othersF d.sh m.src) ∧ True) (by kernel_rfl) rfl ?_
   intro w28 hN29
   replace hW := hW.new hN29
   replace hH := hH.new hN29
   replace hI := hI.new hN29
   replace hQ := hQ.new hN29
   replace hO := hO.new hN29
   replace B4 := B4.new hN29
   replace hE := hE.new hN29
   replace OL22 := OL22.new hN29
   replace hF := hF.trNew hN29
   refine fx_take (i := 0) (v := .pointer (some ⟨bw, 0, none⟩)) fr rfl (by kernel_rfl) rfl rfl (by decide) (fun _ _ _ h => h) (fun _ ⟨hW, hH, hI, hQ, hO, B4, OL22, _⟩ => x_move rfl (fr.ev rfl)) ⟨hW, hH, hI, hQ, hO, B4, OL22, trivial⟩ ?_
   clear fr a; intro a fr
   refine fx_take (i := 1) (v := .pointer (some ⟨bw, 0, none⟩)) fr rfl (by kernel_rfl) rfl rfl (by decide) (fun _ _ _ h => h) (fun _ ⟨hW, hH, hI, hQ, hO, B4, OL22, _⟩ => x_nilCheck rfl (fr.ev rfl)) ⟨hW, hH, hI, hQ, hO, B4, OL22, trivial⟩ ?_
   clear fr a; intro a fr
   refine fx_take (i := 2) (v := .pointer (some ⟨bw, 1, none⟩)) fr rfl (by kernel_rfl) rfl rfl (by decide) (fun _ _ _ h => h) (fun _ ⟨hW, hH, hI, hQ, hO, B4, OL22, _⟩ => x_fieldAddr fo82_1 rfl (fr.ev rfl) rfl) ⟨hW, hH, hI, hQ, hO, B4, OL22, trivial⟩ ?_
   clear fr a; intro a fr
   refine fx_take (i := 3) (v := .pointer (some ⟨be, 0, none⟩)) fr rfl (by kernel_rfl) rfl rfl (by decide) (fun _ _ _ h => h) (fun _ ⟨hW, hH, hI, hQ, hO, B4, OL22, _⟩ => x_load1 pl78 rfl (fr.ev rfl) (hW.cell 1 rfl)) ⟨hW, hH, hI, hQ, hO, B4, OL22, trivial⟩ ?_
   clear fr a; intro a fr
   refine fx_take (i := 4) (v := .pointer (some ⟨b1, 1, none⟩)) fr rfl (by kernel_rfl) rfl rfl (by decide) (fun _ _ _ h => h) (fun _ ⟨hW, hH, hI, hQ, hO, B4, OL22, _⟩ => x_fieldAddr fo36_1 rfl (fr.ev rfl) rfl) ⟨hW, hH, hI, hQ, hO, B4, OL22, trivial⟩ ?_
   clear fr a; intro a fr
   refine fx_take (i := 5) (v := .int .i64 m.src) fr rfl (by kernel_rfl) rfl rfl (by decide) (fun _ _ _ h => h) (fun _ ⟨hW, hH, hI, hQ, hO, B4, OL22, _⟩ => x_load1 pl3 rfl (fr.ev rfl) (B4.cell 1 rfl)) ⟨hW, hH, hI, hQ, hO, B4, OL22, trivial⟩ ?_
   clear fr a; intro a fr
   refine fx_take (i := 6) (v := .pointer (some ⟨be, 0, none⟩)) fr rfl (by kernel_rfl) rfl rfl (by decide) (fun _ _ _ h => h) (fun _ ⟨hW, hH, hI, hQ, hO, B4, OL22, _⟩ => x_nilCheck rfl (fr.ev rfl)) ⟨hW, hH, hI, hQ, hO, B4, OL22, trivial⟩ ?_
   clear fr a; intro a fr
   refine fx_take (i := 7) (v := .pointer (some ⟨be, 1, none⟩)) fr rfl (by kernel_rfl) rfl rfl (by decide) (fun _ _ _ h => h) (fun _ ⟨hW, hH, hI, hQ, hO, B4, OL22, _⟩ => x_fieldAddr fo42_1 rfl (fr.ev rfl) rfl) ⟨hW, hH, hI, hQ, hO, B4, OL22, trivial⟩ ?_
   clear fr a; intro a fr
   refine fx_take (i := 8) (v := .pointer (some ⟨be, 1 + m.src.toNat, none⟩)) fr rfl (by kernel_rfl) rfl rfl (by decide) (fun _ _ _ h => h) (fun _ ⟨hW, hH, hI, hQ, hO, B4, OL22, _⟩ => x_indexArr Try.underlying40 sz4 rfl (fr.ev rfl) ((fr.ev rfl).trans (int_nat _ m.src (by omega))) (by omega) (by omega)) ⟨hW, hH, hI, hQ, hO, B4, OL22, trivial⟩ ?_
   clear fr a; intro a fr
   refine fx_one (i := 9) (by kernel_rfl) (fx_op rfl ?_)
   refine fx_store1 sz4 rfl rfl rfl (fr.ev rfl) rfl rfl hE (show 1 + m.src.toNat < 11 by omega) (cs' := entA ({ leaveF d m.src with sh := d.sh.set m.src true }) (.slice Q d.q.length qc)) (ent_setSh _ _ m.src _ (by omega) (by omega)) fun w30 hO31 hBq => ?_
   replace hW := hW.only hO31 (by first | exact ne_bw_be | exact ne_be_bw.symm | (show ¬ bw = be; omega))
   replace hH := hH.only hO31 (by first | exact ne_bh_be | exact ne_be_bh.symm | (show ¬ bh = be; omega))
   replace hI := hI.only hO31 (by first | exact ne_bi_be | exact ne_be_bi.symm | (show ¬ bi = be; omega)) (by first | exact ne_ig_be | exact ne_be_ig.symm | (show ¬ ig = be; omega))
   replace hQ := hQ.only hO31 (Apart.ne1 ap_Q_be)
   replace hO := hO.only hO31 (Apart.ne1 ap_A_be)
   replace B4 := B4.only hO31 (by first | exact ne_b1_be | exact ne_be_b1.symm | (show ¬ b1 = be; omega))
   replace OL22 := OL22.only hO31 (Apart.ne1 ap_A20_be)
   replace hF := hF.loc hO31 (.inl (.inr (.inl rfl)))
   replace hE := hBq
   clear hBq
   refine wpList_nil ?_
   refine ⟨⟨hW, hH, hI, hQ, hO, B4, OL22, trivial⟩, ?_⟩
   refine fx_hdone (by kernel_rfl) ?_
   refine fx_next ?_
   refine wp_seq ?_
   refine wp_region_lit ?_
   refine fx_val (v := .pointer (some ⟨bw, 0, none⟩)) fr rfl rfl (by decide) (x_move rfl (fr.ev rfl)) ?_
   clear fr a; intro a fr
   refine fx_val (v := .pointer (some ⟨b1, 1, none⟩)) fr rfl rfl (by decide) (x_fieldAddr fo36_1 rfl (fr.ev rfl) rfl) ?_
   clear fr a; intro a fr
   refine fx_val (v := .int .i64 m.src) fr rfl rfl (by decide) (x_load1 pl3 rfl (fr.ev rfl) (B4.cell 1 rfl)) ?_
   clear fr a; intro a fr
   refine fx_call fr rfl rfl (by decide) (x_call (vs := [.pointer (some ⟨bw, 0, none⟩), .int .i64 8, .int .i64 m.src, .bool true]) rfl rfl ⟨(fr.ev rfl), rfl, (fr.ev rfl), rfl, trivial⟩ Try.func53 nm53 rfl) (send_b m.hn hW hH hI hO ne_bw_bh ne_bw_bi ne_bw_ig ap_A_bw ap_A_bh ap_A_bi ap_A_ig (by first | omega | (simp only [List.length_append, List.length_cons, List.length_nil, List.length_map, List.length_take]; omega)) 8 m.src) ?_
   clear fr a
   rintro v w37 ⟨rfl, A32, ac33, hWn34, O35, mv36, hN38⟩ a fr
   have ap_A32_bw : Apart A32 bw := moved_apart mv36 ap_A_bw hW.lt
   have ap_A32_bh : Apart A32 bh := moved_apart mv36 ap_A_bh hH.lt
   have ap_A32_bi : Apart A32 bi := moved_apart mv36 ap_A_bi hI.lt.1
   have ap_A32_ig : Apart A32 ig := moved_apart mv36 ap_A_ig hI.lt.2
   have ap2_A32_Q : Apart2 A32 Q := moved_apart2 mv36 ap2_Q_A.symm fun _ hg => hQ.lt hg
   have ap_A32_b1 : Apart A32 b1 := moved_apart mv36 ap_A_b1 B4.lt
   have ap2_A32_A20 : Apart2 A32 A20 := moved_apart2 mv36 ap2_A_A20 fun _ hg => OL22.lt hg
   have ap_A32_be : Apart A32 be := moved_apart mv36 ap_A_be hE.lt
   have gA_A32 := gA_moved hF mv36 gA_A
   replace hH := hH.only hN38 (fun h => h.elim (by first | exact ne_bh_bw | exact ne_bw_bh.symm | (show ¬ bh = bw; omega)) ap_A_bh)
   replace hI := hI.only hN38 (fun h => h.elim (by first | exact ne_bi_bw | exact ne_bw_bi.symm | (show ¬ bi = bw; omega)) ap_A_bi) (fun h => h.elim (by first | exact ne_ig_bw | exact ne_bw_ig.symm | (show ¬ ig = bw; omega)) ap_A_ig)
   replace hQ := hQ.only hN38 (fun g hg => (fun h => h.elim ((Apart.ne1 ap_Q_bw) g hg) ((fun g h1 h2 => ap2_Q_A g h1 h2) g hg)))
   replace B4 := B4.only hN38 (fun h => h.elim (by first | exact ne_b1_bw | exact ne_bw_b1.symm | (show ¬ b1 = bw; omega)) ap_A_b1)
   replace OL22 := OL22.only hN38 (fun g hg => (fun h => h.elim ((Apart.ne1 ap_A20_bw) g hg) ((fun g h1 h2 => ap2_A_A20.symm g h1 h2) g hg)))
   replace hE := hE.only hN38 (fun h => h.elim (by first | exact ne_be_bw | exact ne_bw_be.symm | (show ¬ be = bw; omega)) ap_A_be)
   replace hF := hF.loc2 hN38 (.inl (.inl rfl)) gA_A
   clear hW hO
   have hW := hWn34
   clear hWn34
   refine wpList_nil ?_
   refine fx_next ?_
   refine wp_region_lit ?_
   refine fx_val (v := .pointer (some ⟨bw, 0, none⟩)) fr rfl rfl (by decide) (x_move rfl (fr.ev rfl)) ?_
   clear fr a; intro a fr
   refine fx_val (v := .agg (msgE.arr m)) fr rfl rfl (by decide) (x_loadE (E := msgE) ag36 rfl rfl (fr.ev rfl) (B4.rangeE msgE)) ?_
   clear fr a; intro a fr
   refine fx_call fr rfl rfl (by decide) (x_call (vs := [.pointer (some ⟨bw, 0, none⟩), .agg (msgE.arr m), .int .i64 0, .bool true]) rfl rfl ⟨(fr.ev rfl), (fr.ev rfl), rfl, rfl, trivial⟩ Try.func67 nm67 rfl) (busy_c hW hE ne_bw_be m 0 true) ?_
   clear fr a
   rintro v w40 ⟨rfl, hEn39, hN41⟩ a fr
   replace hH := hH.only hN41 (by first | exact ne_bh_be | exact ne_be_bh.symm | (show ¬ bh = be; omega))
   replace hI := hI.only hN41 (by first | exact ne_bi_be | exact ne_be_bi.symm | (show ¬ bi = be; omega)) (by first | exact ne_ig_be | exact ne_be_ig.symm | (show ¬ ig = be; omega))
   replace hQ := hQ.only hN41 (Apart.ne1 ap_Q_be)
   replace B4 := B4.only hN41 (by first | exact ne_b1_be | exact ne_be_b1.symm | (show ¬ b1 = be; omega))
   replace OL22 := OL22.only hN41 (Apart.ne1 ap_A20_be)
   replace hW := hW.only hN41 (by first | exact ne_bw_be | exact ne_be_bw.symm | (show ¬ bw = be; omega))
   replace O35 := O35.only hN41 (Apart.ne1 ap_A32_be)
   replace hF := hF.loc hN41 (.inl (.inr (.inl rfl)))
   replace hE := hEn39
   clear hEn39
   refine wpList_nil ?_
   refine fx_blk ?_
   refine fx_end fr [] [] rfl trivial rfl ?_
   rw [begin_s2 hk hc9 (show 0 < (othersF (leaveF d m.src).sh m.src).length from by first | exact hc27 | (show 0 < (othersF d.sh m.src).length; omega))]
   exact ⟨_, rfl, rfl, A32, ac33, ⟨hW, hE, hH, hI, hQ, O35, ⟨ne_bw_be, ne_bw_bh, ne_bw_bi, ne_bw_ig, ne_be_bh, ne_be_bi, ne_be_ig, ne_bh_bi, ne_bh_ig, ne_bi_ig, ap_Q_bw, ap_Q_be, ap_Q_bh, ap_Q_bi, ap_Q_ig, ap_A32_bw, ap_A32_be, ap_A32_bh, ap_A32_bi, ap_A32_ig, ap2_A32_Q.symm⟩⟩, wmv gA_A32 ap_A32_bw ap_A32_be ap_A32_ig, hF⟩
  ·skip
   have hc27 := of_decide_eq_false hc27
   refine wp_seq ?_
   refine wp_region_lit ?_
   refine fx_val (v := .pointer (some ⟨bw, 0, none⟩)) fr rfl rfl (by decide) (x_move rfl (fr.ev rfl)) ?_
   clear fr a; intro a fr
   refine fx_val (v := .pointer (some ⟨b1, 1, none⟩)) fr rfl rfl (by decide) (x_fieldAddr fo36_1 rfl (fr.ev rfl) rfl) ?_
   clear fr a; intro a fr
   refine fx_val (v := .int .i64 m.src) fr rfl rfl (by decide) (x_load1 pl3 rfl (fr.ev rfl) (B4.cell 1 rfl)) ?_
   clear fr a; intro a fr
   refine fx_call fr rfl rfl (by decide) (x_call (vs := [.pointer (some ⟨bw, 0, none⟩), .int .i64 m.src]) rfl rfl ⟨(fr.ev rfl), (fr.ev rfl), trivial⟩ Try.func52 nm52 rfl) (own_c hW hE ne_bw_be m.src) ?_
   clear fr a
   rintro v w43 ⟨rfl, hEn42, hN44⟩ a fr
   replace hW := hW.only hN44 (by first | exact ne_bw_be | exact ne_be_bw.symm | (show ¬ bw = be; omega))
   replace hH := hH.only hN44 (by first | exact ne_bh_be | exact ne_be_bh.symm | (show ¬ bh = be; omega))
   replace hI := hI.only hN44 (by first | exact ne_bi_be | exact ne_be_bi.symm | (show ¬ bi = be; omega)) (by first | exact ne_ig_be | exact ne_be_ig.symm | (show ¬ ig = be; omega))
   replace hQ := hQ.only hN44 (Apart.ne1 ap_Q_be)
   replace hO := hO.only hN44 (Apart.ne1 ap_A_be)
   replace B4 := B4.only hN44 (by first | exact ne_b1_be | exact ne_be_b1.symm | (show ¬ b1 = be; omega))
   replace OL22 := OL22.only hN44 (Apart.ne1 ap_A20_be)
   replace hF := hF.loc hN44 (.inl (.inr (.inl rfl)))
   replace hE := hEn42
   clear hEn42
   refine wpList_nil ?_
   refine fx_next ?_
   refine wp_seq ?_
   refine wp_region_lit ?_
   refine fx_val (v := .pointer (some ⟨bw, 0, none⟩)) fr rfl rfl (by decide) (x_move rfl (fr.ev rfl)) ?_
   clear fr a; intro a fr
   refine fx_val (v := .pointer (some ⟨b1, 1, none⟩)) fr rfl rfl (by decide) (x_fieldAddr fo36_1 rfl (fr.ev rfl) rfl) ?_
   clear fr a; intro a fr
   refine fx_val (v := .int .i64 m.src) fr rfl rfl (by decide) (x_load1 pl3 rfl (fr.ev rfl) (B4.cell 1 rfl)) ?_
   clear fr a; intro a fr
   refine fx_call fr rfl rfl (by decide) (x_call (vs := [.pointer (some ⟨bw, 0, none⟩), .int .i64 9, .int .i64 m.src, .bool true]) rfl rfl ⟨(fr.ev rfl), rfl, (fr.ev rfl), rfl, trivial⟩ Try.func53 nm53 rfl) (send_b m.hn hW hH hI hO ne_bw_bh ne_bw_bi ne_bw_ig ap_A_bw ap_A_bh ap_A_bi ap_A_ig (by first | omega | (simp only [List.length_append, List.length_cons, List.length_nil, List.length_map, List.length_take]; omega)) 9 m.src) ?_
   clear fr a
   rintro v w50 ⟨rfl, A45, ac46, hWn47, O48, mv49, hN51⟩ a fr
   have ap_A45_bw : Apart A45 bw := moved_apart mv49 ap_A_bw hW.lt
   have ap_A45_bh : Apart A45 bh := moved_apart mv49 ap_A_bh hH.lt
   have ap_A45_bi : Apart A45 bi := moved_apart mv49 ap_A_bi hI.lt.1
   have ap_A45_ig : Apart A45 ig := moved_apart mv49 ap_A_ig hI.lt.2
   have ap2_A45_Q : Apart2 A45 Q := moved_apart2 mv49 ap2_Q_A.symm fun _ hg => hQ.lt hg
   have ap_A45_b1 : Apart A45 b1 := moved_apart mv49 ap_A_b1 B4.lt
   have ap2_A45_A20 : Apart2 A45 A20 := moved_apart2 mv49 ap2_A_A20 fun _ hg => OL22.lt hg
   have ap_A45_be : Apart A45 be := moved_apart mv49 ap_A_be hE.lt
   have gA_A45 := gA_moved hF mv49 gA_A
   replace hH := hH.only hN51 (fun h => h.elim (by first | exact ne_bh_bw | exact ne_bw_bh.symm | (show ¬ bh = bw; omega)) ap_A_bh)
   replace hI := hI.only hN51 (fun h => h.elim (by first | exact ne_bi_bw | exact ne_bw_bi.symm | (show ¬ bi = bw; omega)) ap_A_bi) (fun h => h.elim (by first | exact ne_ig_bw | exact ne_bw_ig.symm | (show ¬ ig = bw; omega)) ap_A_ig)
   replace hQ := hQ.only hN51 (fun g hg => (fun h => h.elim ((Apart.ne1 ap_Q_bw) g hg) ((fun g h1 h2 => ap2_Q_A g h1 h2) g hg)))
   replace B4 := B4.only hN51 (fun h => h.elim (by first | exact ne_b1_bw | exact ne_bw_b1.symm | (show ¬ b1 = bw; omega)) ap_A_b1)
   replace OL22 := OL22.only hN51 (fun g hg => (fun h => h.elim ((Apart.ne1 ap_A20_bw) g hg) ((fun g h1 h2 => ap2_A_A20.symm g h1 h2) g hg)))
   replace hE := hE.only hN51 (fun h => h.elim (by first | exact ne_be_bw | exact ne_bw_be.symm | (show ¬ be = bw; omega)) ap_A_be)
   replace hF := hF.loc2 hN51 (.inl (.inl rfl)) gA_A
   clear hW hO
   have hW := hWn47
   clear hWn47
   refine wpList_nil ?_
   refine fx_next ?_
   refine wp_region_lit ?_
   refine fx_val (v := .pointer (some ⟨bw, 0, none⟩)) fr rfl rfl (by decide) (x_move rfl (fr.ev rfl)) ?_
   clear fr a; intro a fr
   refine fx_val (v := .agg (msgE.arr m)) fr rfl rfl (by decide) (x_loadE (E := msgE) ag36 rfl rfl (fr.ev rfl) (B4.rangeE msgE)) ?_
   clear fr a; intro a fr
   refine fx_call fr rfl rfl (by decide) (x_call (vs := [.pointer (some ⟨bw, 0, none⟩), .agg (msgE.arr m), .int .i64 0, .bool true]) rfl rfl ⟨(fr.ev rfl), (fr.ev rfl), rfl, rfl, trivial⟩ Try.func67 nm67 rfl) (busy_c hW hE ne_bw_be m 0 true) ?_
   clear fr a
   rintro v w53 ⟨rfl, hEn52, hN54⟩ a fr
   replace hH := hH.only hN54 (by first | exact ne_bh_be | exact ne_be_bh.symm | (show ¬ bh = be; omega))
   replace hI := hI.only hN54 (by first | exact ne_bi_be | exact ne_be_bi.symm | (show ¬ bi = be; omega)) (by first | exact ne_ig_be | exact ne_be_ig.symm | (show ¬ ig = be; omega))
   replace hQ := hQ.only hN54 (Apart.ne1 ap_Q_be)
   replace B4 := B4.only hN54 (by first | exact ne_b1_be | exact ne_be_b1.symm | (show ¬ b1 = be; omega))
   replace OL22 := OL22.only hN54 (Apart.ne1 ap_A20_be)
   replace hW := hW.only hN54 (by first | exact ne_bw_be | exact ne_be_bw.symm | (show ¬ bw = be; omega))
   replace O48 := O48.only hN54 (Apart.ne1 ap_A45_be)
   replace hF := hF.loc hN54 (.inl (.inr (.inl rfl)))
   replace hE := hEn52
   clear hEn52
   refine wpList_nil ?_
   refine fx_blk ?_
   refine fx_end fr [] [] rfl trivial rfl ?_
   rw [begin_s3 hk hc9 (show ¬ 0 < (othersF (leaveF d m.src).sh m.src).length from by first | exact hc27 | (show ¬ 0 < (othersF d.sh m.src).length; omega))]
   exact ⟨_, rfl, rfl, A45, ac46, ⟨hW, hE, hH, hI, hQ, O48, ⟨ne_bw_be, ne_bw_bh, ne_bw_bi, ne_bw_ig, ne_be_bh, ne_be_bi, ne_be_ig, ne_bh_bi, ne_bh_ig, ne_bi_ig, ap_Q_bw, ap_Q_be, ap_Q_bh, ap_Q_bi, ap_Q_ig, ap_A45_bw, ap_A45_be, ap_A45_bh, ap_A45_bi, ap_A45_ig, ap2_A45_Q.symm⟩⟩, wmv gA_A45 ap_A45_bw ap_A45_be ap_A45_ig, hF⟩
set_option maxRecDepth 100000 in
set_option maxHeartbeats 4000000 in
theorem getm_c {w : World} {bw be bh bi ig cap r : Nat} {d : Ent} {Q : Option Addr} {qc : Nat} {A : Option Addr} {ac : Nat} {out : List Msg} {bs : List UInt8} (m : Msg) (R : WorkR w bw be bh bi ig cap r m.line d Q qc A ac out bs) (hlen : out.length + 8 ≤ 1000000) (hsrc : 0 ≤ m.src ∧ m.src < 4) (hk : m.kind = 2) : Calls Try.prog 61 #[.pointer (some ⟨bw, 0, none⟩), .agg (msgE.arr m)] w (Ret fun v w' => v = .tuple #[] ∧ WRet w w' bw be bh bi ig cap r m.line Q qc A out (beginF bs d m).1 (beginF bs d m).2.1 (beginF bs d m).2.2) := by
 obtain ⟨hW, hE, hH, hI, hQ, hO, hS⟩ := R
 have ne_bw_be := hS.ne_bw_be
 have ne_bw_bh := hS.ne_bw_bh
 have ne_bw_bi := hS.ne_bw_bi
 have ne_bw_ig := hS.ne_bw_ig
 have ne_be_bh := hS.ne_be_bh
 have ne_be_bi := hS.ne_be_bi
 have ne_be_ig := hS.ne_be_ig
 have ne_bh_bi := hS.ne_bh_bi
 have ne_bh_ig := hS.ne_bh_ig
 have ne_bi_ig := hS.ne_bi_ig
 have ap_Q_bw := hS.ap_Q_bw
 have ap_Q_be := hS.ap_Q_be
 have ap_Q_bh := hS.ap_Q_bh
 have ap_Q_bi := hS.ap_Q_bi
 have ap_Q_ig := hS.ap_Q_ig
 have ap_A_bw := hS.ap_A_bw
 have ap_A_be := hS.ap_A_be
 have ap_A_bh := hS.ap_A_bh
 have ap_A_bi := hS.ap_A_bi
 have ap_A_ig := hS.ap_A_ig
 have ap2_Q_A := hS.ap2_Q_A
 have gA_A : ∀ g, inA A g → (g = bw ∨ g = be ∨ g = ig ∨ inA A g) ∨ w.heap.size ≤ g := fun g hg => .inl (.inr (.inr (.inr hg)))
 have hmn := m.hn
 have hF := Only.refl (fun k => k = bw ∨ k = be ∨ k = ig ∨ inA A k) w
 refine Zen 55 Try.func61 ?_
 refine Zsr ?_
 refine Znb (cs := msgE.arr m) fun b1 w2 hN3 B4 hb5 => ?_
 have ne_bw_b1 : NE bw b1 := NE.mk (Nat.lt_of_lt_of_le hW.lt hb5)
 have ne_be_b1 : NE be b1 := NE.mk (Nat.lt_of_lt_of_le hE.lt hb5)
 have ap_A_b1 : Apart A b1 := hO.apart hb5
 refine Znn ?_
 refine Zsr ?_
 refine Zm ?_
 refine Zf fo36_1 ?_
 refine Zd (v := .int .i64 m.src) pl3 (B4.cell 1 rfl) ?_
 replace hW := hW.new hN3
 replace hE := hE.new hN3
 refine Zk cf66 (leave_c hW hE ne_bw_be m.src) ?_
 rintro v w7 ⟨rfl, hEn6, hN8⟩
 replace hE := hEn6
 clear hEn6
 refine Znn ?_
 refine Zsq ?_
 refine Zsr ?_
 refine Zm ?_
 refine Zn ?_
 refine Zf fo82_1 ?_
 replace hW := hW.only hN8 ne_bw_be
 refine Zd pl78 (hW.cell 1 rfl) ?_
 refine Zn ?_
 refine Zf fo42_0 ?_
 refine Zd (v := .int .i64 ((leaveF d m.src).o)) pl3 (hE.cell 0 rfl) ?_
 refine Zv _ (fun _ fr => x_geq rfl (fr.ev rfl) rfl rfl) ?_
 refine Znn ?_
 refine Zcd (fun hc9 => ?_) (fun hc9 => ?_)
 ·have hc9 := of_decide_eq_true hc9
  refine Zsr ?_
  refine Zm ?_
  refine Zm ?_
  refine Zn ?_
  refine Zf fo82_1 ?_
  refine Zd pl78 (hW.cell 1 rfl) ?_
  refine Zn ?_
  refine Zf fo42_0 ?_
  refine Zd (v := .int .i64 ((leaveF d m.src).o)) pl3 (hE.cell 0 rfl) ?_
  replace hH := (hH.new hN3).only hN8 ne_be_bh.symm
  replace hI := (hI.new hN3).only hN8 ne_be_bi.symm ne_be_ig.symm
  replace hO := (hO.new hN3).only hN8 (Apart.ne1 ap_A_be)
  refine Zk (args := #[.pointer (some ⟨bw, 0, none⟩), .int .i64 5, .int .i64 ((leaveF d m.src).o), .bool false]) cf53 (send_n m.hn hW hH hI hO ne_bw_bh ne_bw_bi ne_bw_ig ap_A_bw ap_A_bh ap_A_bi ap_A_ig (by first | omega | (simp only [List.length_append, List.length_cons, List.length_nil, List.length_map, List.length_take]; omega)) 5 ((leaveF d m.src).o)) ?_
  rintro v w15 ⟨rfl, A10, ac11, hWn12, O13, mv14, hN16⟩
  have ap_A10_bw : Apart A10 bw := moved_apart mv14 ap_A_bw hW.lt
  have ap_A10_bh : Apart A10 bh := moved_apart mv14 ap_A_bh hH.lt
  have ap_A10_bi : Apart A10 bi := moved_apart mv14 ap_A_bi hI.lt.1
  have ap_A10_ig : Apart A10 ig := moved_apart mv14 ap_A_ig hI.lt.2
  replace hQ := (hQ.new hN3).only hN8 (Apart.ne1 ap_Q_be)
  have ap2_A10_Q : Apart2 A10 Q := moved_apart2 mv14 ap2_Q_A.symm fun _ hg => hQ.lt hg
  have ap_A10_be : Apart A10 be := moved_apart mv14 ap_A_be hE.lt
  replace hF := (hF.trNew hN3).loc hN8 (.inl (.inr (.inl rfl)))
  have gA_A10 := gA_moved hF mv14 gA_A
  clear hW hO
  have hW := hWn12
  clear hWn12
  refine Znn ?_
  refine Zsr ?_
  refine Zm ?_
  replace B4 := (B4.only hN8 ne_be_b1.symm).only hN16 (fun h => h.elim ne_bw_b1.symm ap_A_b1)
  refine ZE msgE ag36 (B4.rangeE msgE) ?_
  replace hE := hE.only hN16 (fun h => h.elim ne_bw_be.symm ap_A_be)
  refine Zk cf67 (busy_c hW hE ne_bw_be m 1 false) ?_
  rintro v w18 ⟨rfl, hEn17, hN19⟩
  replace hE := hEn17
  clear hEn17
  refine Znn ?_
  refine Zrt ?_
  refine Zr1 ?_
  refine Zre rfl [] trivial ?_
  rw [begin_m1 hk hc9]
  replace hH := (hH.only hN16 (fun h => h.elim ne_bw_bh.symm ap_A_bh)).only hN19 ne_be_bh.symm
  replace hI := (hI.only hN16 (fun h => h.elim ne_bw_bi.symm ap_A_bi) (fun h => h.elim ne_bw_ig.symm ap_A_ig)).only hN19 ne_be_bi.symm ne_be_ig.symm
  replace hQ := (hQ.only hN16 (fun g hg => (fun h => h.elim ((Apart.ne1 ap_Q_bw) g hg) ((fun g h1 h2 => ap2_Q_A g h1 h2) g hg)))).only hN19 (Apart.ne1 ap_Q_be)
  replace hF := (hF.loc2 hN16 (.inl (.inl rfl)) gA_A).loc hN19 (.inl (.inr (.inl rfl)))
  replace hW := hW.only hN19 ne_bw_be
  replace O13 := O13.only hN19 (Apart.ne1 ap_A10_be)
  exact ⟨_, rfl, rfl, A10, ac11, ⟨hW, hE, hH, hI, hQ, O13, ⟨ne_bw_be, ne_bw_bh, ne_bw_bi, ne_bw_ig, ne_be_bh, ne_be_bi, ne_be_ig, ne_bh_bi, ne_bh_ig, ne_bi_ig, ap_Q_bw, ap_Q_be, ap_Q_bh, ap_Q_bi, ap_Q_ig, ap_A10_bw, ap_A10_be, ap_A10_bh, ap_A10_bi, ap_A10_ig, ap2_A10_Q.symm⟩⟩, wmv gA_A10 ap_A10_bw ap_A10_be ap_A10_ig, hF⟩
 ·have hc9 := of_decide_eq_false hc9
  refine Zsk ?_
  refine Znx ?_
  refine Zsr ?_
  refine Zm ?_
  refine Zf fo36_1 ?_
  replace B4 := B4.only hN8 ne_be_b1.symm
  refine Zd (v := .int .i64 m.src) pl3 (B4.cell 1 rfl) ?_
  refine Zk cf68 (others_c hW hE ne_bw_be m.src) ?_
  rintro v w25 ⟨A20, c21, rfl, OL22, hA23, hN26⟩
  have ap_A20_bw : Apart A20 bw := new_apart hA23 hW.lt
  replace hO := (hO.new hN3).only hN8 (Apart.ne1 ap_A_be)
  have ap2_A_A20 : Apart2 A A20 := (new_apart2 hA23 fun _ hg => hO.lt hg).symm
  have hol24 : (othersF d.sh m.src).length ≤ 4 := othK_len _ _ 4
  refine Za ?_
  refine Znn ?_
  refine Zsq ?_
  refine Zsr ?_
  refine Zm ?_
  refine Zv _ (fun _ fr => x_len Try.underlying119 rfl (fr.ev rfl)) ?_
  refine Zm ?_
  refine Znn ?_
  refine Zbl ?_
  intro a fr
  replace hH := ((hH.new hN3).only hN8 ne_be_bh.symm).new hN26
  replace hI := ((hI.new hN3).only hN8 ne_be_bi.symm ne_be_ig.symm).new hN26
  replace hQ := ((hQ.new hN3).only hN8 (Apart.ne1 ap_Q_be)).new hN26
  replace hF := ((hF.trNew hN3).loc hN8 (.inl (.inr (.inl rfl)))).trNew hN26
  replace hW := hW.new hN26
  replace hO := hO.new hN26
  replace B4 := B4.new hN26
  replace hE := hE.new hN26
  refine fx_loop (fun nM a wL => ∃ i : Nat, ∃ A1 : Option Addr, ∃ c1 : Nat, nM = (othersF d.sh m.src).length - i ∧ Fr (55, []) [(0, .pointer (some ⟨bw, 0, none⟩)), (3, .pointer (some ⟨b1, 0, none⟩)), (4, .slice A20 ((othersF d.sh m.src).length) c21), (35, .slice A20 ((othersF d.sh m.src).length) c21), (36, .int .i64 (((othersF d.sh m.src).length : Nat) : Int)), (37, .int .i64 ((i : Nat) : Int))] a ∧ Only (fun k => k = bw ∨ k = be ∨ k = ig ∨ inA A k) w wL ∧ Blk wL bw 82 #[.slice A1 ((out ++ ((othersF d.sh m.src).take i).map (sendM m 6)).length) c1, .pointer (some ⟨be, 0, none⟩), .pointer (some ⟨bh, 0, none⟩), .int .u32 m.line] ∧ Blk wL be 42 (entA (leaveF d m.src) (.slice Q d.q.length qc)) ∧ Blk wL bh 64 #[.pointer (some ⟨bi, 0, none⟩), .map (some r)] ∧ Img 0 wL bi ig cap bs ∧ View msgE wL Q qc d.q ∧ Own msgE wL A1 c1 (out ++ ((othersF d.sh m.src).take i).map (sendM m 6)) ∧ Blk wL b1 36 (msgE.arr m) ∧ Own intE wL A20 c21 (othersF d.sh m.src) ∧ i ≤ (othersF d.sh m.src).length ∧ (Apart A1 bw) ∧ (Apart A1 be) ∧ (Apart A1 bh) ∧ (Apart A1 bi) ∧ (Apart A1 ig) ∧ (Apart2 Q A1) ∧ (Apart A1 b1) ∧ (Apart2 A1 A20) ∧ (∀ g, inA A1 g → (fun k => k = bw ∨ k = be ∨ k = ig ∨ inA A k) g ∨ w.heap.size ≤ g)) (n0 := _) ⟨0, A, ac, rfl, fr.sub ⟨rfl, rfl, rfl, rfl, rfl, rfl, trivial⟩, hF, (by rw [List.take_zero, List.map_nil, List.append_nil]; exact hW), hE, hH, hI, hQ, (by rw [List.take_zero, List.map_nil, List.append_nil]; exact hO), B4, OL22, by omega, ap_A_bw, ap_A_be, ap_A_bh, ap_A_bi, ap_A_ig, ap2_Q_A, ap_A_b1, ap2_A_A20, gA_A⟩ ?_
  clear fr a
  rintro n28 a w27 ⟨i, A1, c1, rfl, fr, hF, hW, hE, hH, hI, hQ, O1, B4, OL22, hp29, ap_A1_bw, ap_A1_be, ap_A1_bh, ap_A1_bi, ap_A1_ig, ap2_Q_A1, ap_A1_b1, ap2_A1_A20, gA_A1⟩
  revert a
  have hLT : (((othersF d.sh m.src).take i).map (sendM m 6)).length ≤ 4 := by rw [List.length_map, List.length_take]; omega
  refine Zsr ?_
  refine Zv _ (fun _ fr => x_lss rfl (fr.ev rfl) (fr.ev rfl) rfl) ?_
  refine Znn ?_
  refine Zsq ?_
  refine Zcd (fun hc30 => ?_) (fun hc30 => ?_)
  ·have hc30 := of_decide_eq_true hc30
   refine Zsk ?_
   refine Znx ?_
   refine Zsq ?_
   refine Zbl ?_
   refine Zsr ?_
   obtain ⟨g31, o32, hA33⟩ := (OL22.view).some_ (by first | omega | decide)
   refine Zv (.pointer (some ⟨g31, o32 + i * 1, none⟩)) (fun _ fr => x_indexV Try.underlying119 sz3 rfl (fr.ev rfl) hA33 (fr.ev rfl) (by first | omega | decide) rfl) ?_
   refine Zd (v := .int .i64 ((othersF d.sh m.src).getD i 0)) pl3 (range_cell ((OL22.view).elem hA33 i 0 (by first | omega | decide)) 0 rfl rfl) ?_
   refine Za ?_
   refine Znn ?_
   refine Zrg ?_
   refine Zm ?_
   refine Zm ?_
   refine Zk (args := #[.pointer (some ⟨bw, 0, none⟩), .int .i64 6, .int .i64 ((othersF d.sh m.src).getD i 0), .bool false]) cf53 (send_n m.hn hW hH hI O1 ne_bw_bh ne_bw_bi ne_bw_ig ap_A1_bw ap_A1_bh ap_A1_bi ap_A1_ig (by first | omega | (simp only [List.length_append, List.length_cons, List.length_nil, List.length_map, List.length_take]; omega)) 6 ((othersF d.sh m.src).getD i 0)) ?_
   rintro v w39 ⟨rfl, A34, ac35, hWn36, O37, mv38, hN40⟩
   have ap_A34_bw : Apart A34 bw := moved_apart mv38 ap_A1_bw hW.lt
   have ap_A34_be : Apart A34 be := moved_apart mv38 ap_A1_be hE.lt
   have ap_A34_bh : Apart A34 bh := moved_apart mv38 ap_A1_bh hH.lt
   have ap_A34_bi : Apart A34 bi := moved_apart mv38 ap_A1_bi hI.lt.1
   have ap_A34_ig : Apart A34 ig := moved_apart mv38 ap_A1_ig hI.lt.2
   have ap2_A34_Q : Apart2 A34 Q := moved_apart2 mv38 ap2_Q_A1.symm fun _ hg => hQ.lt hg
   have ap_A34_b1 : Apart A34 b1 := moved_apart mv38 ap_A1_b1 B4.lt
   have ap2_A34_A20 : Apart2 A34 A20 := moved_apart2 mv38 ap2_A1_A20 fun _ hg => OL22.lt hg
   have gA_A34 := gA_moved hF mv38 gA_A1
   clear hW O1
   have hW := hWn36
   clear hWn36
   refine Znl ?_
   refine Zb ?_
   refine Znx ?_
   refine Zrg ?_
   refine Zv _ (fun _ fr => x_add rfl (fr.ev rfl) rfl (i64w (r := ((i + 1 : Nat) : Int)) (by omega) (by omega))) ?_
   refine Zm ?_
   intro a fr
   refine wpList_nil ?_
   refine fx_next ?_
   replace hE := hE.only hN40 (fun h => h.elim ne_bw_be.symm ap_A1_be)
   replace hH := hH.only hN40 (fun h => h.elim ne_bw_bh.symm ap_A1_bh)
   replace hI := hI.only hN40 (fun h => h.elim ne_bw_bi.symm ap_A1_bi) (fun h => h.elim ne_bw_ig.symm ap_A1_ig)
   replace hQ := hQ.only hN40 (fun g hg => (fun h => h.elim ((Apart.ne1 ap_Q_bw) g hg) ((fun g h1 h2 => ap2_Q_A1 g h1 h2) g hg)))
   replace B4 := B4.only hN40 (fun h => h.elim ne_bw_b1.symm ap_A1_b1)
   replace OL22 := OL22.only hN40 (fun g hg => (fun h => h.elim ((Apart.ne1 ap_A20_bw) g hg) ((fun g h1 h2 => ap2_A1_A20.symm g h1 h2) g hg)))
   replace hF := hF.loc2 hN40 (.inl (.inl rfl)) gA_A1
   exact ⟨_, by omega, (i + 1), A34, ac35, rfl, fr.sub ⟨rfl, rfl, rfl, rfl, rfl, rfl, trivial⟩, hF, (by rw [take_map_sn (by omega)]; exact hW), hE, hH, hI, hQ, (by rw [take_map_sn (by omega)]; exact O37), B4, OL22, by omega, ap_A34_bw, ap_A34_be, ap_A34_bh, ap_A34_bi, ap_A34_ig, ap2_A34_Q.symm, ap_A34_b1, ap2_A34_A20, gA_A34⟩
  ·have hc30 := of_decide_eq_false hc30
   refine Zex ?_
   refine Zxt ?_
   refine Zxt ?_
   refine Zxx ?_
   refine Znx ?_
   refine Zsq ?_
   rw [List.take_of_length_le (by omega)] at hW O1
   have hLM : ((othersF d.sh m.src).map (sendM m 6)).length ≤ 4 := by rw [List.length_map]; omega
   refine Zrg ?_
   refine Zm ?_
   refine ZE msgE ag36 (B4.rangeE msgE) ?_
   refine Zm ?_
   refine Zv _ (fun _ fr => x_len Try.underlying119 rfl (fr.ev rfl)) ?_
   refine Zk cf67 (busy_c hW hE ne_bw_be m (((othersF d.sh m.src).length : Nat) : Int) false) ?_
   rintro v w42 ⟨rfl, hEn41, hN43⟩
   replace hE := hEn41
   clear hEn41
   refine Znn ?_
   refine Zsr ?_
   refine Zm ?_
   refine Zv _ (fun _ fr => x_len Try.underlying119 rfl (fr.ev rfl)) ?_
   refine Zv _ (fun _ fr => x_eql rfl (fr.ev rfl) rfl rfl) ?_
   refine Znn ?_
   refine Zcd (fun hc44 => ?_) (fun hc44 => ?_)
   ·have hc44 := of_decide_eq_true hc44
    refine Zrg ?_
    refine Zm ?_
    replace hH := hH.only hN43 ne_be_bh.symm
    replace hI := hI.only hN43 ne_be_bi.symm ne_be_ig.symm
    replace hQ := hQ.only hN43 (Apart.ne1 ap_Q_be)
    replace hW := hW.only hN43 ne_bw_be
    replace O1 := O1.only hN43 (Apart.ne1 ap_A1_be)
    refine Zk (args := #[.pointer (some ⟨bw, 0, none⟩)]) cf51 (write_c ⟨hW, hE, hH, hI, hQ, O1, ⟨ne_bw_be, ne_bw_bh, ne_bw_bi, ne_bw_ig, ne_be_bh, ne_be_bi, ne_be_ig, ne_bh_bi, ne_bh_ig, ne_bi_ig, ap_Q_bw, ap_Q_be, ap_Q_bh, ap_Q_bi, ap_Q_ig, ap_A1_bw, ap_A1_be, ap_A1_bh, ap_A1_bi, ap_A1_ig, ap2_Q_A1⟩⟩ m.hn (by first | omega | (simp only [List.length_append, List.length_cons, List.length_nil, List.length_map, List.length_take]; omega))) ?_
    rintro v w50 ⟨rfl, A45, ac46, R47, mv48, hN51⟩
    replace hF := hF.loc hN43 (.inl (.inr (.inl rfl)))
    have gA_A45 := gA_moved hF mv48 gA_A1
    clear hW hE hH hI hQ O1
    obtain ⟨hW, hE, hH, hI, hQ, O49, hS⟩ := R47
    have ap_A45_bw := hS.ap_A_bw
    have ap_A45_be := hS.ap_A_be
    have ap_A45_bh := hS.ap_A_bh
    have ap_A45_bi := hS.ap_A_bi
    have ap_A45_ig := hS.ap_A_ig
    have ap2_Q_A45 := hS.ap2_Q_A
    refine Znl ?_
    refine Zee rfl [] trivial ?_
    rw [begin_m3 hk hc9 (show (othersF (leaveF d m.src).sh m.src).length = 0 from by first | exact hc44 | (show (othersF d.sh m.src).length = 0; omega))]
    have hL0 : othersF d.sh m.src = [] := List.eq_nil_of_length_eq_zero (by omega)
    simp only [hL0, List.map_nil, List.append_nil, List.length_nil, Int.natCast_zero] at hW hE O49
    replace hF := hF.locS hN51 (fun i => (fun h => h.elim (fun e => by rw [e]; exact (.inl (.inl rfl))) (fun h => h.elim (fun e => by rw [e]; exact (.inl (.inr (.inl rfl)))) (fun h => h.elim (fun e => by rw [e]; exact (.inl (.inr (.inr (.inl rfl))))) (fun h => gA_A1 i h)))))
    exact ⟨_, rfl, rfl, A45, ac46, ⟨hW, hE, hH, hI, hQ, O49, ⟨ne_bw_be, ne_bw_bh, ne_bw_bi, ne_bw_ig, ne_be_bh, ne_be_bi, ne_be_ig, ne_bh_bi, ne_bh_ig, ne_bi_ig, ap_Q_bw, ap_Q_be, ap_Q_bh, ap_Q_bi, ap_Q_ig, ap_A45_bw, ap_A45_be, ap_A45_bh, ap_A45_bi, ap_A45_ig, ap2_Q_A45⟩⟩, wmv gA_A45 ap_A45_bw ap_A45_be ap_A45_ig, hF⟩
   ·have hc44 := of_decide_eq_false hc44
    refine Zsk ?_
    refine Zee rfl [] trivial ?_
    rw [begin_m2 hk hc9 (show ¬ (othersF (leaveF d m.src).sh m.src).length = 0 from by first | exact hc44 | (show ¬ (othersF d.sh m.src).length = 0; omega))]
    replace hH := hH.only hN43 ne_be_bh.symm
    replace hI := hI.only hN43 ne_be_bi.symm ne_be_ig.symm
    replace hQ := hQ.only hN43 (Apart.ne1 ap_Q_be)
    replace hW := hW.only hN43 ne_bw_be
    replace O1 := O1.only hN43 (Apart.ne1 ap_A1_be)
    replace hF := hF.loc hN43 (.inl (.inr (.inl rfl)))
    exact ⟨_, rfl, rfl, A1, c1, ⟨hW, hE, hH, hI, hQ, O1, ⟨ne_bw_be, ne_bw_bh, ne_bw_bi, ne_bw_ig, ne_be_bh, ne_be_bi, ne_be_ig, ne_bh_bi, ne_bh_ig, ne_bi_ig, ap_Q_bw, ap_Q_be, ap_Q_bh, ap_Q_bi, ap_Q_ig, ap_A1_bw, ap_A1_be, ap_A1_bh, ap_A1_bi, ap_A1_ig, ap2_Q_A1⟩⟩, wmv gA_A1 ap_A1_bw ap_A1_be ap_A1_ig, hF⟩
set_option maxRecDepth 100000 in
set_option maxHeartbeats 4000000 in
theorem put_c {w : World} {bw be bh bi ig cap r : Nat} {d : Ent} {Q : Option Addr} {qc : Nat} {A : Option Addr} {ac : Nat} {out : List Msg} {bs : List UInt8} (m : Msg) (R : WorkR w bw be bh bi ig cap r m.line d Q qc A ac out bs) (hlen : out.length + 8 ≤ 1000000) (hsrc : 0 ≤ m.src ∧ m.src < 4) (hk : m.kind = 3) : Calls Try.prog 62 #[.pointer (some ⟨bw, 0, none⟩), .agg (msgE.arr m)] w (Ret fun v w' => v = .tuple #[] ∧ WRet w w' bw be bh bi ig cap r m.line Q qc A out (beginF bs d m).1 (beginF bs d m).2.1 (beginF bs d m).2.2) := by
 obtain ⟨hW, hE, hH, hI, hQ, hO, hS⟩ := R
 have ne_bw_be := hS.ne_bw_be
 have ne_bw_bh := hS.ne_bw_bh
 have ne_bw_bi := hS.ne_bw_bi
 have ne_bw_ig := hS.ne_bw_ig
 have ne_be_bh := hS.ne_be_bh
 have ne_be_bi := hS.ne_be_bi
 have ne_be_ig := hS.ne_be_ig
 have ne_bh_bi := hS.ne_bh_bi
 have ne_bh_ig := hS.ne_bh_ig
 have ne_bi_ig := hS.ne_bi_ig
 have ap_Q_bw := hS.ap_Q_bw
 have ap_Q_be := hS.ap_Q_be
 have ap_Q_bh := hS.ap_Q_bh
 have ap_Q_bi := hS.ap_Q_bi
 have ap_Q_ig := hS.ap_Q_ig
 have ap_A_bw := hS.ap_A_bw
 have ap_A_be := hS.ap_A_be
 have ap_A_bh := hS.ap_A_bh
 have ap_A_bi := hS.ap_A_bi
 have ap_A_ig := hS.ap_A_ig
 have ap2_Q_A := hS.ap2_Q_A
 have gA_A : ∀ g, inA A g → (g = bw ∨ g = be ∨ g = ig ∨ inA A g) ∨ w.heap.size ≤ g := fun g hg => .inl (.inr (.inr (.inr hg)))
 have hmn := m.hn
 have hF := Only.refl (fun k => k = bw ∨ k = be ∨ k = ig ∨ inA A k) w
 refine Zen 38 Try.func62 ?_
 refine Zsr ?_
 refine Znb (cs := msgE.arr m) fun b1 w2 hN3 B4 hb5 => ?_
 have ne_be_b1 : NE be b1 := NE.mk (Nat.lt_of_lt_of_le hE.lt hb5)
 have ne_ig_b1 : NE ig b1 := NE.mk (Nat.lt_of_lt_of_le hI.lt.2 hb5)
 refine Znn ?_
 refine Zsq ?_
 refine Zsq ?_
 refine Zhd (n := 10) (fun w => Blk w bw 82 #[.slice A out.length ac, .pointer (some ⟨be, 0, none⟩), .pointer (some ⟨bh, 0, none⟩), .int .u32 m.line] ∧ Blk w be 42 (entA d (.slice Q d.q.length qc)) ∧ Blk w b1 36 (msgE.arr m) ∧ True) ?_
 intro w6 hN7
 replace hW := (hW.new hN3).new hN7
 replace hE := (hE.new hN3).new hN7
 replace B4 := B4.new hN7
 have hS9 := And.intro hW (And.intro hE (And.intro B4 trivial))
 refine Zhm 0 hS9 ?_
 refine Zhc 1 hS9 ?_
 refine Zhf 2 fo82_1 hS9 ?_
 refine Zhl 3 pl78 hS9 (fun _ ⟨hW, _⟩ => (hW.cell 1 rfl)) ?_
 refine Zhc 4 hS9 ?_
 refine Zhf 5 fo42_0 hS9 ?_
 refine Zhl (v := .int .i64 d.o) 6 pl3 hS9 (fun _ ⟨_, hE, _⟩ => (hE.cell 0 rfl)) ?_
 refine Zhf 7 fo36_1 hS9 ?_
 refine Zhl (v := .int .i64 m.src) 8 pl3 hS9 (fun _ ⟨_, _, B4, _⟩ => (B4.cell 1 rfl)) ?_
 refine Zht 9 rfl _ hS9 (fun _ fr _ _ => x_eql rfl (fr.ev rfl) (fr.ev rfl) rfl) ?_
 refine Zhn ?_
 refine Znx ?_
 refine Zcd (fun hc8 => ?_) (fun hc8 => ?_)
 ·have hc8 := of_decide_eq_true hc8
  refine Zsq ?_
  refine Zhd (n := 14) (fun w => Blk w bw 82 #[.slice A out.length ac, .pointer (some ⟨be, 0, none⟩), .pointer (some ⟨bh, 0, none⟩), .int .u32 m.line] ∧ Blk w bh 64 #[.pointer (some ⟨bi, 0, none⟩), .map (some r)] ∧ Blk w b1 36 (msgE.arr m) ∧ True) ?_
  intro w9 hN10
  replace hH := ((hH.new hN3).new hN7).new hN10
  replace hW := hW.new hN10
  replace B4 := B4.new hN10
  have hS9 := And.intro hW (And.intro hH (And.intro B4 trivial))
  refine Zhm 0 hS9 ?_
  refine Zhc 1 hS9 ?_
  refine Zhf 2 fo82_2 hS9 ?_
  refine Zhl 3 pl25 hS9 (fun _ ⟨hW, _⟩ => (hW.cell 2 rfl)) ?_
  refine Zhc 4 hS9 ?_
  refine Zhf 5 fo64_0 hS9 ?_
  refine Zhl 6 pl61 hS9 (fun _ ⟨_, hH, _⟩ => (hH.cell 0 rfl)) ?_
  refine Zhm 7 hS9 ?_
  refine Zhc 8 hS9 ?_
  refine Zhf 9 fo82_3 hS9 ?_
  refine Zhl (v := .int .u32 m.line) 10 pl24 hS9 (fun _ ⟨hW, _⟩ => (hW.cell 3 rfl)) ?_
  refine Zhf 11 fo36_4 hS9 ?_
  refine ZhE (p := m.bs) 12 bsE ag34 hS9 (fun _ ⟨_, _, B4, _⟩ => (B4.part (msg_bs _))) ?_
  refine Zh1 13 ?_
  replace hI := ((hI.new hN3).new hN7).new hN10
  refine Zk (args := #[.pointer (some ⟨bi, 0, none⟩), .int .u32 m.line, .agg (bsE.arr m.bs)]) cf50 (hset_c m.line m.bs (by omega) hI) ?_
  rintro v w12 ⟨rfl, hIn11, hN13⟩
  replace hI := hIn11
  clear hIn11
  replace hW := hW.only hN13 ne_bw_ig
  replace hH := hH.only hN13 ne_bh_ig
  replace B4 := B4.only hN13 ne_ig_b1.symm
  refine Zhb ⟨hW, hH, B4, trivial⟩ ?_
  refine Zhn ?_
  refine Znx ?_
  refine Zrg ?_
  refine Zm ?_
  refine Zn ?_
  refine Zf fo82_1 ?_
  refine Zd pl78 (hW.cell 1 rfl) ?_
  refine Zn ?_
  refine Zf fo42_0 ?_
  replace hE := (hE.new hN10).only hN13 ne_be_ig
  refine Zs1 (cs' := entA ({ d with o := (-1) }) (.slice Q d.q.length qc)) sz3 hE (show 0 < 11 by decide) rfl fun w14 hO15 hBq => ?_
  replace hE := hBq
  clear hBq
  refine Znn ?_
  refine Zrg ?_
  refine Zm ?_
  refine Zf fo36_1 ?_
  replace B4 := B4.only hO15 ne_be_b1.symm
  refine Zd (v := .int .i64 m.src) pl3 (B4.cell 1 rfl) ?_
  replace hO := ((((hO.new hN3).new hN7).new hN10).only hN13 (Apart.ne1 ap_A_ig)).only hO15 (Apart.ne1 ap_A_be)
  replace hW := hW.only hO15 ne_bw_be
  replace hH := hH.only hO15 ne_be_bh.symm
  replace hI := hI.only hO15 ne_be_bi.symm ne_be_ig.symm
  refine Zk (args := #[.pointer (some ⟨bw, 0, none⟩), .int .i64 7, .int .i64 m.src, .bool false]) cf53 (send_n m.hn hW hH hI hO ne_bw_bh ne_bw_bi ne_bw_ig ap_A_bw ap_A_bh ap_A_bi ap_A_ig (by first | omega | (simp only [List.length_append, List.length_cons, List.length_nil, List.length_map, List.length_take]; omega)) 7 m.src) ?_
  rintro v w21 ⟨rfl, A16, ac17, hWn18, O19, mv20, hN22⟩
  have ap_A16_bw : Apart A16 bw := moved_apart mv20 ap_A_bw hW.lt
  have ap_A16_bh : Apart A16 bh := moved_apart mv20 ap_A_bh hH.lt
  replace hQ := ((((hQ.new hN3).new hN7).new hN10).only hN13 (Apart.ne1 ap_Q_ig)).only hO15 (Apart.ne1 ap_Q_be)
  have ap2_A16_Q : Apart2 A16 Q := moved_apart2 mv20 ap2_Q_A.symm fun _ hg => hQ.lt hg
  have ap_A16_bi : Apart A16 bi := moved_apart mv20 ap_A_bi hI.lt.1
  have ap_A16_ig : Apart A16 ig := moved_apart mv20 ap_A_ig hI.lt.2
  have ap_A16_be : Apart A16 be := moved_apart mv20 ap_A_be hE.lt
  replace hF := ((((hF.trNew hN3).trNew hN7).trNew hN10).loc hN13 (.inl (.inr (.inr (.inl rfl))))).loc hO15 (.inl (.inr (.inl rfl)))
  have gA_A16 := gA_moved hF mv20 gA_A
  clear hW hO
  have hW := hWn18
  clear hWn18
  refine Znl ?_
  refine Zee rfl [] trivial ?_
  rw [begin_put hk]
  rw [if_pos hc8, leave_eq hc8]
  replace hH := hH.only hN22 (fun h => h.elim ne_bw_bh.symm ap_A_bh)
  replace hQ := hQ.only hN22 (fun g hg => (fun h => h.elim ((Apart.ne1 ap_Q_bw) g hg) ((fun g h1 h2 => ap2_Q_A g h1 h2) g hg)))
  replace hI := hI.only hN22 (fun h => h.elim ne_bw_bi.symm ap_A_bi) (fun h => h.elim ne_bw_ig.symm ap_A_ig)
  replace hE := hE.only hN22 (fun h => h.elim ne_bw_be.symm ap_A_be)
  replace hF := hF.loc2 hN22 (.inl (.inl rfl)) gA_A
  exact ⟨_, rfl, rfl, A16, ac17, ⟨hW, hE, hH, hI, hQ, O19, ⟨ne_bw_be, ne_bw_bh, ne_bw_bi, ne_bw_ig, ne_be_bh, ne_be_bi, ne_be_ig, ne_bh_bi, ne_bh_ig, ne_bi_ig, ap_Q_bw, ap_Q_be, ap_Q_bh, ap_Q_bi, ap_Q_ig, ap_A16_bw, ap_A16_be, ap_A16_bh, ap_A16_bi, ap_A16_ig, ap2_A16_Q.symm⟩⟩, wmv gA_A16 ap_A16_bw ap_A16_be ap_A16_ig, hF⟩
 ·have hc8 := of_decide_eq_false hc8
  refine Zsk ?_
  refine Znx ?_
  refine Zrg ?_
  refine Zm ?_
  refine Zf fo36_1 ?_
  refine Zd (v := .int .i64 m.src) pl3 (B4.cell 1 rfl) ?_
  replace hH := (hH.new hN3).new hN7
  replace hI := (hI.new hN3).new hN7
  replace hO := (hO.new hN3).new hN7
  refine Zk (args := #[.pointer (some ⟨bw, 0, none⟩), .int .i64 7, .int .i64 m.src, .bool false]) cf53 (send_n m.hn hW hH hI hO ne_bw_bh ne_bw_bi ne_bw_ig ap_A_bw ap_A_bh ap_A_bi ap_A_ig (by first | omega | (simp only [List.length_append, List.length_cons, List.length_nil, List.length_map, List.length_take]; omega)) 7 m.src) ?_
  rintro v w28 ⟨rfl, A23, ac24, hWn25, O26, mv27, hN29⟩
  have ap_A23_bw : Apart A23 bw := moved_apart mv27 ap_A_bw hW.lt
  have ap_A23_be : Apart A23 be := moved_apart mv27 ap_A_be hE.lt
  have ap_A23_bh : Apart A23 bh := moved_apart mv27 ap_A_bh hH.lt
  have ap_A23_bi : Apart A23 bi := moved_apart mv27 ap_A_bi hI.lt.1
  have ap_A23_ig : Apart A23 ig := moved_apart mv27 ap_A_ig hI.lt.2
  replace hQ := (hQ.new hN3).new hN7
  have ap2_A23_Q : Apart2 A23 Q := moved_apart2 mv27 ap2_Q_A.symm fun _ hg => hQ.lt hg
  replace hF := (hF.trNew hN3).trNew hN7
  have gA_A23 := gA_moved hF mv27 gA_A
  clear hW hO
  have hW := hWn25
  clear hWn25
  refine Znl ?_
  refine Zee rfl [] trivial ?_
  rw [begin_put hk]
  rw [if_neg hc8, leave_ne hc8]
  replace hE := hE.only hN29 (fun h => h.elim ne_bw_be.symm ap_A_be)
  replace hH := hH.only hN29 (fun h => h.elim ne_bw_bh.symm ap_A_bh)
  replace hI := hI.only hN29 (fun h => h.elim ne_bw_bi.symm ap_A_bi) (fun h => h.elim ne_bw_ig.symm ap_A_ig)
  replace hQ := hQ.only hN29 (fun g hg => (fun h => h.elim ((Apart.ne1 ap_Q_bw) g hg) ((fun g h1 h2 => ap2_Q_A g h1 h2) g hg)))
  replace hF := hF.loc2 hN29 (.inl (.inl rfl)) gA_A
  exact ⟨_, rfl, rfl, A23, ac24, ⟨hW, hE, hH, hI, hQ, O26, ⟨ne_bw_be, ne_bw_bh, ne_bw_bi, ne_bw_ig, ne_be_bh, ne_be_bi, ne_be_ig, ne_bh_bi, ne_bh_ig, ne_bi_ig, ap_Q_bw, ap_Q_be, ap_Q_bh, ap_Q_bi, ap_Q_ig, ap_A23_bw, ap_A23_be, ap_A23_bh, ap_A23_bi, ap_A23_ig, ap2_A23_Q.symm⟩⟩, wmv gA_A23 ap_A23_bw ap_A23_be ap_A23_ig, hF⟩
end Go.Proofs.Ytdiaemlgghfecaa
namespace Go.Proofs.Ytdiaemlgghfecaa
open Go.RowKit
set_option maxRecDepth 100000 in
set_option maxHeartbeats 4000000 in
theorem begin_1 {w : World} {bw be bh bi ig cap r : Nat} {d : Ent} {Q : Option Addr} {qc : Nat} {A : Option Addr} {ac : Nat} {out : List Msg} {bs : List UInt8} (m : Msg) (R : WorkR w bw be bh bi ig cap r m.line d Q qc A ac out bs) (hlen : out.length + 8 ≤ 1000000) (hsrc : 0 ≤ m.src ∧ m.src < 4) (hk : m.kind = 1) : Calls Try.prog 48 #[.pointer (some ⟨bw, 0, none⟩), .agg (msgE.arr m)] w (Ret fun v w' => v = .tuple #[] ∧ WRet w w' bw be bh bi ig cap r m.line Q qc A out (beginF bs d m).1 (beginF bs d m).2.1 (beginF bs d m).2.2) := by
 obtain ⟨hW, hE, hH, hI, hQ, hO, hS⟩ := R
 have ne_bw_be := hS.ne_bw_be
 have ne_bw_bh := hS.ne_bw_bh
 have ne_bw_bi := hS.ne_bw_bi
 have ne_bw_ig := hS.ne_bw_ig
 have ne_be_bh := hS.ne_be_bh
 have ne_be_bi := hS.ne_be_bi
 have ne_be_ig := hS.ne_be_ig
 have ne_bh_bi := hS.ne_bh_bi
 have ne_bh_ig := hS.ne_bh_ig
 have ne_bi_ig := hS.ne_bi_ig
 have ap_Q_bw := hS.ap_Q_bw
 have ap_Q_be := hS.ap_Q_be
 have ap_Q_bh := hS.ap_Q_bh
 have ap_Q_bi := hS.ap_Q_bi
 have ap_Q_ig := hS.ap_Q_ig
 have ap_A_bw := hS.ap_A_bw
 have ap_A_be := hS.ap_A_be
 have ap_A_bh := hS.ap_A_bh
 have ap_A_bi := hS.ap_A_bi
 have ap_A_ig := hS.ap_A_ig
 have ap2_Q_A := hS.ap2_Q_A
 have gA_A : ∀ g, inA A g → (g = bw ∨ g = be ∨ g = ig ∨ inA A g) ∨ w.heap.size ≤ g := fun g hg => .inl (.inr (.inr (.inr hg)))
 have hmn := m.hn
 have hF := Only.refl (fun k => k = bw ∨ k = be ∨ k = ig ∨ inA A k) w
 refine Zen 17 Try.func48 ?_
 refine Zsr ?_
 refine Znb (cs := msgE.arr m) fun b1 w2 hN3 B4 hb5 => ?_
 refine Znn ?_
 refine Zrg ?_
 intro a fr
 refine fx_makeMap fr rfl rfl rfl (by first | decide | simp) ?_
 clear fr a
 intro r6 w7 hN8 M9 hb10
 replace hW := hW.new hN3
 have ne_bw_r6 : NE bw r6 := NE.mk (Nat.lt_of_lt_of_le hW.lt hb10)
 replace hE := hE.new hN3
 have ne_be_r6 : NE be r6 := NE.mk (Nat.lt_of_lt_of_le hE.lt hb10)
 replace hH := hH.new hN3
 have ne_bh_r6 : NE bh r6 := NE.mk (Nat.lt_of_lt_of_le hH.lt hb10)
 replace hI := hI.new hN3
 have ne_bi_r6 : NE bi r6 := NE.mk (Nat.lt_of_lt_of_le hI.lt.1 hb10)
 have ne_ig_r6 : NE ig r6 := NE.mk (Nat.lt_of_lt_of_le hI.lt.2 hb10)
 replace hQ := hQ.new hN3
 have ap_Q_r6 : Apart Q r6 := hQ.apart hb10
 replace hO := hO.new hN3
 have ap_A_r6 : Apart A r6 := hO.apart hb10
 have ne_b1_r6 : NE b1 r6 := NE.mk (Nat.lt_of_lt_of_le B4.lt hb10)
 replace hF := hF.trNew hN3
 have g_r6 := Nat.le_trans hF.size hb10
 refine Zm ?_
 refine Zv _ (fun _ fr => x_makeBound rfl (fr.ev rfl)) ?_
 intro a fr
 refine fx_insert (es' := #[⟨.int .i64 1, .func (.func 60) #[.pointer (some ⟨bw, 0, none⟩)] #[], 0⟩]) Try.underlying84 Try.underlying33 rfl rfl rfl (fr.ev rfl) rfl (fr.ev rfl) M9 rfl rfl fun w11 hO12 hBq => ?_
 revert a
 replace M9 := hBq
 clear hBq
 refine Zm ?_
 refine Zv _ (fun _ fr => x_makeBound rfl (fr.ev rfl)) ?_
 intro a fr
 refine fx_insert (es' := #[⟨.int .i64 1, .func (.func 60) #[.pointer (some ⟨bw, 0, none⟩)] #[], 0⟩, ⟨.int .i64 2, .func (.func 61) #[.pointer (some ⟨bw, 0, none⟩)] #[], 1⟩]) Try.underlying84 Try.underlying33 rfl rfl rfl (fr.ev rfl) rfl (fr.ev rfl) M9 rfl rfl fun w13 hO14 hBq => ?_
 revert a
 replace M9 := hBq
 clear hBq
 refine Zm ?_
 refine Zv _ (fun _ fr => x_makeBound rfl (fr.ev rfl)) ?_
 intro a fr
 refine fx_insert (es' := #[⟨.int .i64 1, .func (.func 60) #[.pointer (some ⟨bw, 0, none⟩)] #[], 0⟩, ⟨.int .i64 2, .func (.func 61) #[.pointer (some ⟨bw, 0, none⟩)] #[], 1⟩, ⟨.int .i64 3, .func (.func 62) #[.pointer (some ⟨bw, 0, none⟩)] #[], 2⟩]) Try.underlying84 Try.underlying33 rfl rfl rfl (fr.ev rfl) rfl (fr.ev rfl) M9 rfl rfl fun w15 hO16 hBq => ?_
 revert a
 replace M9 := hBq
 clear hBq
 refine Zm ?_
 refine Zf fo36_0 ?_
 replace B4 := (((B4.new hN8).only hO12 ne_b1_r6).only hO14 ne_b1_r6).only hO16 ne_b1_r6
 refine Zd (v := .int .i64 m.kind) pl33 (B4.cell 0 rfl) ?_
 refine Zv (.func (.func 60) #[.pointer (some ⟨bw, 0, none⟩)] #[]) (fun _ fr => x_lookup (k := .i64) (ok := false) (v := .func (.func 60) #[.pointer (some ⟨bw, 0, none⟩)] #[]) (b := true) Try.underlying84 Try.underlying33 rfl (fr.ev rfl) (fr.ev rfl) M9 (z := .nilFunc) (by kernel_rfl) (by rw [hk]; rfl)) ?_
 refine ZE msgE ag36 (B4.rangeE msgE) ?_
 replace hW := (((hW.new hN8).only hO12 ne_bw_r6).only hO14 ne_bw_r6).only hO16 ne_bw_r6
 replace hE := (((hE.new hN8).only hO12 ne_be_r6).only hO14 ne_be_r6).only hO16 ne_be_r6
 replace hH := (((hH.new hN8).only hO12 ne_bh_r6).only hO14 ne_bh_r6).only hO16 ne_bh_r6
 replace hI := (((hI.new hN8).only hO12 ne_bi_r6 ne_ig_r6).only hO14 ne_bi_r6 ne_ig_r6).only hO16 ne_bi_r6 ne_ig_r6
 replace hQ := (((hQ.new hN8).only hO12 (Apart.ne1 ap_Q_r6)).only hO14 (Apart.ne1 ap_Q_r6)).only hO16 (Apart.ne1 ap_Q_r6)
 replace hO := (((hO.new hN8).only hO12 (Apart.ne1 ap_A_r6)).only hO14 (Apart.ne1 ap_A_r6)).only hO16 (Apart.ne1 ap_A_r6)
 refine Zkx (fun _ fr => x_callb (all := #[.pointer (some ⟨bw, 0, none⟩), .agg (msgE.arr m)]) (vs := [.agg (msgE.arr m)]) rfl (fr.ev rfl) ⟨(fr.ev rfl), trivial⟩ rfl Try.func60 nm60 rfl) (gets_c m ⟨hW, hE, hH, hI, hQ, hO, ⟨ne_bw_be, ne_bw_bh, ne_bw_bi, ne_bw_ig, ne_be_bh, ne_be_bi, ne_be_ig, ne_bh_bi, ne_bh_ig, ne_bi_ig, ap_Q_bw, ap_Q_be, ap_Q_bh, ap_Q_bi, ap_Q_ig, ap_A_bw, ap_A_be, ap_A_bh, ap_A_bi, ap_A_ig, ap2_Q_A⟩⟩ (by first | omega | (simp only [List.length_append, List.length_cons, List.length_nil, List.length_map, List.length_take]; omega)) hsrc hk) ?_
 rintro v w22 ⟨rfl, A17, ac18, R19, mv20, hN23⟩
 replace hF := (((hF.trNew hN8).loc hO12 (.inr g_r6)).loc hO14 (.inr g_r6)).loc hO16 (.inr g_r6)
 have gA_A17 := gA_moved hF mv20 gA_A
 clear hW hE hH hI hQ hO
 obtain ⟨hW, hE, hH, hI, hQ, O21, hS⟩ := R19
 have ap_A17_bw := hS.ap_A_bw
 have ap_A17_be := hS.ap_A_be
 have ap_A17_bh := hS.ap_A_bh
 have ap_A17_bi := hS.ap_A_bi
 have ap_A17_ig := hS.ap_A_ig
 have ap2_Q_A17 := hS.ap2_Q_A
 refine Znl ?_
 refine Zee rfl [] trivial ?_
 replace hF := hF.locS hN23 (fun i => (fun h => h.elim (fun e => by rw [e]; exact (.inl (.inl rfl))) (fun h => h.elim (fun e => by rw [e]; exact (.inl (.inr (.inl rfl)))) (fun h => h.elim (fun e => by rw [e]; exact (.inl (.inr (.inr (.inl rfl))))) (fun h => gA_A i h)))))
 exact ⟨_, rfl, rfl, A17, ac18, ⟨hW, hE, hH, hI, hQ, O21, ⟨ne_bw_be, ne_bw_bh, ne_bw_bi, ne_bw_ig, ne_be_bh, ne_be_bi, ne_be_ig, ne_bh_bi, ne_bh_ig, ne_bi_ig, ap_Q_bw, ap_Q_be, ap_Q_bh, ap_Q_bi, ap_Q_ig, ap_A17_bw, ap_A17_be, ap_A17_bh, ap_A17_bi, ap_A17_ig, ap2_Q_A17⟩⟩, wmv gA_A17 ap_A17_bw ap_A17_be ap_A17_ig, hF⟩
set_option maxRecDepth 100000 in
set_option maxHeartbeats 4000000 in
theorem begin_2 {w : World} {bw be bh bi ig cap r : Nat} {d : Ent} {Q : Option Addr} {qc : Nat} {A : Option Addr} {ac : Nat} {out : List Msg} {bs : List UInt8} (m : Msg) (R : WorkR w bw be bh bi ig cap r m.line d Q qc A ac out bs) (hlen : out.length + 8 ≤ 1000000) (hsrc : 0 ≤ m.src ∧ m.src < 4) (hk : m.kind = 2) : Calls Try.prog 48 #[.pointer (some ⟨bw, 0, none⟩), .agg (msgE.arr m)] w (Ret fun v w' => v = .tuple #[] ∧ WRet w w' bw be bh bi ig cap r m.line Q qc A out (beginF bs d m).1 (beginF bs d m).2.1 (beginF bs d m).2.2) := by
 obtain ⟨hW, hE, hH, hI, hQ, hO, hS⟩ := R
 have ne_bw_be := hS.ne_bw_be
 have ne_bw_bh := hS.ne_bw_bh
 have ne_bw_bi := hS.ne_bw_bi
 have ne_bw_ig := hS.ne_bw_ig
 have ne_be_bh := hS.ne_be_bh
 have ne_be_bi := hS.ne_be_bi
 have ne_be_ig := hS.ne_be_ig
 have ne_bh_bi := hS.ne_bh_bi
 have ne_bh_ig := hS.ne_bh_ig
 have ne_bi_ig := hS.ne_bi_ig
 have ap_Q_bw := hS.ap_Q_bw
 have ap_Q_be := hS.ap_Q_be
 have ap_Q_bh := hS.ap_Q_bh
 have ap_Q_bi := hS.ap_Q_bi
 have ap_Q_ig := hS.ap_Q_ig
 have ap_A_bw := hS.ap_A_bw
 have ap_A_be := hS.ap_A_be
 have ap_A_bh := hS.ap_A_bh
 have ap_A_bi := hS.ap_A_bi
 have ap_A_ig := hS.ap_A_ig
 have ap2_Q_A := hS.ap2_Q_A
 have gA_A : ∀ g, inA A g → (g = bw ∨ g = be ∨ g = ig ∨ inA A g) ∨ w.heap.size ≤ g := fun g hg => .inl (.inr (.inr (.inr hg)))
 have hmn := m.hn
 have hF := Only.refl (fun k => k = bw ∨ k = be ∨ k = ig ∨ inA A k) w
 refine Zen 17 Try.func48 ?_
 refine Zsr ?_
 refine Znb (cs := msgE.arr m) fun b1 w2 hN3 B4 hb5 => ?_
 refine Znn ?_
 refine Zrg ?_
 intro a fr
 refine fx_makeMap fr rfl rfl rfl (by first | decide | simp) ?_
 clear fr a
 intro r6 w7 hN8 M9 hb10
 replace hW := hW.new hN3
 have ne_bw_r6 : NE bw r6 := NE.mk (Nat.lt_of_lt_of_le hW.lt hb10)
 replace hE := hE.new hN3
 have ne_be_r6 : NE be r6 := NE.mk (Nat.lt_of_lt_of_le hE.lt hb10)
 replace hH := hH.new hN3
 have ne_bh_r6 : NE bh r6 := NE.mk (Nat.lt_of_lt_of_le hH.lt hb10)
 replace hI := hI.new hN3
 have ne_bi_r6 : NE bi r6 := NE.mk (Nat.lt_of_lt_of_le hI.lt.1 hb10)
 have ne_ig_r6 : NE ig r6 := NE.mk (Nat.lt_of_lt_of_le hI.lt.2 hb10)
 replace hQ := hQ.new hN3
 have ap_Q_r6 : Apart Q r6 := hQ.apart hb10
 replace hO := hO.new hN3
 have ap_A_r6 : Apart A r6 := hO.apart hb10
 have ne_b1_r6 : NE b1 r6 := NE.mk (Nat.lt_of_lt_of_le B4.lt hb10)
 replace hF := hF.trNew hN3
 have g_r6 := Nat.le_trans hF.size hb10
 refine Zm ?_
 refine Zv _ (fun _ fr => x_makeBound rfl (fr.ev rfl)) ?_
 intro a fr
 refine fx_insert (es' := #[⟨.int .i64 1, .func (.func 60) #[.pointer (some ⟨bw, 0, none⟩)] #[], 0⟩]) Try.underlying84 Try.underlying33 rfl rfl rfl (fr.ev rfl) rfl (fr.ev rfl) M9 rfl rfl fun w11 hO12 hBq => ?_
 revert a
 replace M9 := hBq
 clear hBq
 refine Zm ?_
 refine Zv _ (fun _ fr => x_makeBound rfl (fr.ev rfl)) ?_
 intro a fr
 refine fx_insert (es' := #[⟨.int .i64 1, .func (.func 60) #[.pointer (some ⟨bw, 0, none⟩)] #[], 0⟩, ⟨.int .i64 2, .func (.func 61) #[.pointer (some ⟨bw, 0, none⟩)] #[], 1⟩]) Try.underlying84 Try.underlying33 rfl rfl rfl (fr.ev rfl) rfl (fr.ev rfl) M9 rfl rfl fun w13 hO14 hBq => ?_
 revert a
 replace M9 := hBq
 clear hBq
 refine Zm ?_
 refine Zv _ (fun _ fr => x_makeBound rfl (fr.ev rfl)) ?_
 intro a fr
 refine fx_insert (es' := #[⟨.int .i64 1, .func (.func 60) #[.pointer (some ⟨bw, 0, none⟩)] #[], 0⟩, ⟨.int .i64 2, .func (.func 61) #[.pointer (some ⟨bw, 0, none⟩)] #[], 1⟩, ⟨.int .i64 3, .func (.func 62) #[.pointer (some ⟨bw, 0, none⟩)] #[], 2⟩]) Try.underlying84 Try.underlying33 rfl rfl rfl (fr.ev rfl) rfl (fr.ev rfl) M9 rfl rfl fun w15 hO16 hBq => ?_
 revert a
 replace M9 := hBq
 clear hBq
 refine Zm ?_
 refine Zf fo36_0 ?_
 replace B4 := (((B4.new hN8).only hO12 ne_b1_r6).only hO14 ne_b1_r6).only hO16 ne_b1_r6
 refine Zd (v := .int .i64 m.kind) pl33 (B4.cell 0 rfl) ?_
 refine Zv (.func (.func 61) #[.pointer (some ⟨bw, 0, none⟩)] #[]) (fun _ fr => x_lookup (k := .i64) (ok := false) (v := .func (.func 61) #[.pointer (some ⟨bw, 0, none⟩)] #[]) (b := true) Try.underlying84 Try.underlying33 rfl (fr.ev rfl) (fr.ev rfl) M9 (z := .nilFunc) (by kernel_rfl) (by rw [hk]; rfl)) ?_
 refine ZE msgE ag36 (B4.rangeE msgE) ?_
 replace hW := (((hW.new hN8).only hO12 ne_bw_r6).only hO14 ne_bw_r6).only hO16 ne_bw_r6
 replace hE := (((hE.new hN8).only hO12 ne_be_r6).only hO14 ne_be_r6).only hO16 ne_be_r6
 replace hH := (((hH.new hN8).only hO12 ne_bh_r6).only hO14 ne_bh_r6).only hO16 ne_bh_r6
 replace hI := (((hI.new hN8).only hO12 ne_bi_r6 ne_ig_r6).only hO14 ne_bi_r6 ne_ig_r6).only hO16 ne_bi_r6 ne_ig_r6
 replace hQ := (((hQ.new hN8).only hO12 (Apart.ne1 ap_Q_r6)).only hO14 (Apart.ne1 ap_Q_r6)).only hO16 (Apart.ne1 ap_Q_r6)
 replace hO := (((hO.new hN8).only hO12 (Apart.ne1 ap_A_r6)).only hO14 (Apart.ne1 ap_A_r6)).only hO16 (Apart.ne1 ap_A_r6)
 refine Zkx (fun _ fr => x_callb (all := #[.pointer (some ⟨bw, 0, none⟩), .agg (msgE.arr m)]) (vs := [.agg (msgE.arr m)]) rfl (fr.ev rfl) ⟨(fr.ev rfl), trivial⟩ rfl Try.func61 nm61 rfl) (getm_c m ⟨hW, hE, hH, hI, hQ, hO, ⟨ne_bw_be, ne_bw_bh, ne_bw_bi, ne_bw_ig, ne_be_bh, ne_be_bi, ne_be_ig, ne_bh_bi, ne_bh_ig, ne_bi_ig, ap_Q_bw, ap_Q_be, ap_Q_bh, ap_Q_bi, ap_Q_ig, ap_A_bw, ap_A_be, ap_A_bh, ap_A_bi, ap_A_ig, ap2_Q_A⟩⟩ (by first | omega | (simp only [List.length_append, List.length_cons, List.length_nil, List.length_map, List.length_take]; omega)) hsrc hk) ?_
 rintro v w22 ⟨rfl, A17, ac18, R19, mv20, hN23⟩
 replace hF := (((hF.trNew hN8).loc hO12 (.inr g_r6)).loc hO14 (.inr g_r6)).loc hO16 (.inr g_r6)
 have gA_A17 := gA_moved hF mv20 gA_A
 clear hW hE hH hI hQ hO
 obtain ⟨hW, hE, hH, hI, hQ, O21, hS⟩ := R19
 have ap_A17_bw := hS.ap_A_bw
 have ap_A17_be := hS.ap_A_be
 have ap_A17_bh := hS.ap_A_bh
 have ap_A17_bi := hS.ap_A_bi
 have ap_A17_ig := hS.ap_A_ig
 have ap2_Q_A17 := hS.ap2_Q_A
 refine Znl ?_
 refine Zee rfl [] trivial ?_
 replace hF := hF.locS hN23 (fun i => (fun h => h.elim (fun e => by rw [e]; exact (.inl (.inl rfl))) (fun h => h.elim (fun e => by rw [e]; exact (.inl (.inr (.inl rfl)))) (fun h => h.elim (fun e => by rw [e]; exact (.inl (.inr (.inr (.inl rfl))))) (fun h => gA_A i h)))))
 exact ⟨_, rfl, rfl, A17, ac18, ⟨hW, hE, hH, hI, hQ, O21, ⟨ne_bw_be, ne_bw_bh, ne_bw_bi, ne_bw_ig, ne_be_bh, ne_be_bi, ne_be_ig, ne_bh_bi, ne_bh_ig, ne_bi_ig, ap_Q_bw, ap_Q_be, ap_Q_bh, ap_Q_bi, ap_Q_ig, ap_A17_bw, ap_A17_be, ap_A17_bh, ap_A17_bi, ap_A17_ig, ap2_Q_A17⟩⟩, wmv gA_A17 ap_A17_bw ap_A17_be ap_A17_ig, hF⟩
set_option maxRecDepth 100000 in
set_option maxHeartbeats 4000000 in
theorem begin_3 {w : World} {bw be bh bi ig cap r : Nat} {d : Ent} {Q : Option Addr} {qc : Nat} {A : Option Addr} {ac : Nat} {out : List Msg} {bs : List UInt8} (m : Msg) (R : WorkR w bw be bh bi ig cap r m.line d Q qc A ac out bs) (hlen : out.length + 8 ≤ 1000000) (hsrc : 0 ≤ m.src ∧ m.src < 4) (hk : m.kind = 3) : Calls Try.prog 48 #[.pointer (some ⟨bw, 0, none⟩), .agg (msgE.arr m)] w (Ret fun v w' => v = .tuple #[] ∧ WRet w w' bw be bh bi ig cap r m.line Q qc A out (beginF bs d m).1 (beginF bs d m).2.1 (beginF bs d m).2.2) := by
 obtain ⟨hW, hE, hH, hI, hQ, hO, hS⟩ := R
 have ne_bw_be := hS.ne_bw_be
 have ne_bw_bh := hS.ne_bw_bh
 have ne_bw_bi := hS.ne_bw_bi
 have ne_bw_ig := hS.ne_bw_ig
 have ne_be_bh := hS.ne_be_bh
 have ne_be_bi := hS.ne_be_bi
 have ne_be_ig := hS.ne_be_ig
 have ne_bh_bi := hS.ne_bh_bi
 have ne_bh_ig := hS.ne_bh_ig
 have ne_bi_ig := hS.ne_bi_ig
 have ap_Q_bw := hS.ap_Q_bw
 have ap_Q_be := hS.ap_Q_be
 have ap_Q_bh := hS.ap_Q_bh
 have ap_Q_bi := hS.ap_Q_bi
 have ap_Q_ig := hS.ap_Q_ig
 have ap_A_bw := hS.ap_A_bw
 have ap_A_be := hS.ap_A_be
 have ap_A_bh := hS.ap_A_bh
 have ap_A_bi := hS.ap_A_bi
 have ap_A_ig := hS.ap_A_ig
 have ap2_Q_A := hS.ap2_Q_A
 have gA_A : ∀ g, inA A g → (g = bw ∨ g = be ∨ g = ig ∨ inA A g) ∨ w.heap.size ≤ g := fun g hg => .inl (.inr (.inr (.inr hg)))
 have hmn := m.hn
 have hF := Only.refl (fun k => k = bw ∨ k = be ∨ k = ig ∨ inA A k) w
 refine Zen 17 Try.func48 ?_
 refine Zsr ?_
 refine Znb (cs := msgE.arr m) fun b1 w2 hN3 B4 hb5 => ?_
 refine Znn ?_
 refine Zrg ?_
 intro a fr
 refine fx_makeMap fr rfl rfl rfl (by first | decide | simp) ?_
 clear fr a
 intro r6 w7 hN8 M9 hb10
 replace hW := hW.new hN3
 have ne_bw_r6 : NE bw r6 := NE.mk (Nat.lt_of_lt_of_le hW.lt hb10)
 replace hE := hE.new hN3
 have ne_be_r6 : NE be r6 := NE.mk (Nat.lt_of_lt_of_le hE.lt hb10)
 replace hH := hH.new hN3
 have ne_bh_r6 : NE bh r6 := NE.mk (Nat.lt_of_lt_of_le hH.lt hb10)
 replace hI := hI.new hN3
 have ne_bi_r6 : NE bi r6 := NE.mk (Nat.lt_of_lt_of_le hI.lt.1 hb10)
 have ne_ig_r6 : NE ig r6 := NE.mk (Nat.lt_of_lt_of_le hI.lt.2 hb10)
 replace hQ := hQ.new hN3
 have ap_Q_r6 : Apart Q r6 := hQ.apart hb10
 replace hO := hO.new hN3
 have ap_A_r6 : Apart A r6 := hO.apart hb10
 have ne_b1_r6 : NE b1 r6 := NE.mk (Nat.lt_of_lt_of_le B4.lt hb10)
 replace hF := hF.trNew hN3
 have g_r6 := Nat.le_trans hF.size hb10
 refine Zm ?_
 refine Zv _ (fun _ fr => x_makeBound rfl (fr.ev rfl)) ?_
 intro a fr
 refine fx_insert (es' := #[⟨.int .i64 1, .func (.func 60) #[.pointer (some ⟨bw, 0, none⟩)] #[], 0⟩]) Try.underlying84 Try.underlying33 rfl rfl rfl (fr.ev rfl) rfl (fr.ev rfl) M9 rfl rfl fun w11 hO12 hBq => ?_
 revert a
 replace M9 := hBq
 clear hBq
 refine Zm ?_
 refine Zv _ (fun _ fr => x_makeBound rfl (fr.ev rfl)) ?_
 intro a fr
 refine fx_insert (es' := #[⟨.int .i64 1, .func (.func 60) #[.pointer (some ⟨bw, 0, none⟩)] #[], 0⟩, ⟨.int .i64 2, .func (.func 61) #[.pointer (some ⟨bw, 0, none⟩)] #[], 1⟩]) Try.underlying84 Try.underlying33 rfl rfl rfl (fr.ev rfl) rfl (fr.ev rfl) M9 rfl rfl fun w13 hO14 hBq => ?_
 revert a
 replace M9 := hBq
 clear hBq
 refine Zm ?_
 refine Zv _ (fun _ fr => x_makeBound rfl (fr.ev rfl)) ?_
 intro a fr
 refine fx_insert (es' := #[⟨.int .i64 1, .func (.func 60) #[.pointer (some ⟨bw, 0, none⟩)] #[], 0⟩, ⟨.int .i64 2, .func (.func 61) #[.pointer (some ⟨bw, 0, none⟩)] #[], 1⟩, ⟨.int .i64 3, .func (.func 62) #[.pointer (some ⟨bw, 0, none⟩)] #[], 2⟩]) Try.underlying84 Try.underlying33 rfl rfl rfl (fr.ev rfl) rfl (fr.ev rfl) M9 rfl rfl fun w15 hO16 hBq => ?_
 revert a
 replace M9 := hBq
 clear hBq
 refine Zm ?_
 refine Zf fo36_0 ?_
 replace B4 := (((B4.new hN8).only hO12 ne_b1_r6).only hO14 ne_b1_r6).only hO16 ne_b1_r6
 refine Zd (v := .int .i64 m.kind) pl33 (B4.cell 0 rfl) ?_
 refine Zv (.func (.func 62) #[.pointer (some ⟨bw, 0, none⟩)] #[]) (fun _ fr => x_lookup (k := .i64) (ok := false) (v := .func (.func 62) #[.pointer (some ⟨bw, 0, none⟩)] #[]) (b := true) Try.underlying84 Try.underlying33 rfl (fr.ev rfl) (fr.ev rfl) M9 (z := .nilFunc) (by kernel_rfl) (by rw [hk]; rfl)) ?_
 refine ZE msgE ag36 (B4.rangeE msgE) ?_
 replace hW := (((hW.new hN8).only hO12 ne_bw_r6).only hO14 ne_bw_r6).only hO16 ne_bw_r6
 replace hE := (((hE.new hN8).only hO12 ne_be_r6).only hO14 ne_be_r6).only hO16 ne_be_r6
 replace hH := (((hH.new hN8).only hO12 ne_bh_r6).only hO14 ne_bh_r6).only hO16 ne_bh_r6
 replace hI := (((hI.new hN8).only hO12 ne_bi_r6 ne_ig_r6).only hO14 ne_bi_r6 ne_ig_r6).only hO16 ne_bi_r6 ne_ig_r6
 replace hQ := (((hQ.new hN8).only hO12 (Apart.ne1 ap_Q_r6)).only hO14 (Apart.ne1 ap_Q_r6)).only hO16 (Apart.ne1 ap_Q_r6)
 replace hO := (((hO.new hN8).only hO12 (Apart.ne1 ap_A_r6)).only hO14 (Apart.ne1 ap_A_r6)).only hO16 (Apart.ne1 ap_A_r6)
 refine Zkx (fun _ fr => x_callb (all := #[.pointer (some ⟨bw, 0, none⟩), .agg (msgE.arr m)]) (vs := [.agg (msgE.arr m)]) rfl (fr.ev rfl) ⟨(fr.ev rfl), trivial⟩ rfl Try.func62 nm62 rfl) (put_c m ⟨hW, hE, hH, hI, hQ, hO, ⟨ne_bw_be, ne_bw_bh, ne_bw_bi, ne_bw_ig, ne_be_bh, ne_be_bi, ne_be_ig, ne_bh_bi, ne_bh_ig, ne_bi_ig, ap_Q_bw, ap_Q_be, ap_Q_bh, ap_Q_bi, ap_Q_ig, ap_A_bw, ap_A_be, ap_A_bh, ap_A_bi, ap_A_ig, ap2_Q_A⟩⟩ (by first | omega | (simp only [List.length_append, List.length_cons, List.length_nil, List.length_map, List.length_take]; omega)) hsrc hk) ?_
 rintro v w22 ⟨rfl, A17, ac18, R19, mv20, hN23⟩
 replace hF := (((hF.trNew hN8).loc hO12 (.inr g_r6)).loc hO14 (.inr g_r6)).loc hO16 (.inr g_r6)
 have gA_A17 := gA_moved hF mv20 gA_A
 clear hW hE hH hI hQ hO
 obtain ⟨hW, hE, hH, hI, hQ, O21, hS⟩ := R19
 have ap_A17_bw := hS.ap_A_bw
 have ap_A17_be := hS.ap_A_be
 have ap_A17_bh := hS.ap_A_bh
 have ap_A17_bi := hS.ap_A_bi
 have ap_A17_ig := hS.ap_A_ig
 have ap2_Q_A17 := hS.ap2_Q_A
 refine Znl ?_
 refine Zee rfl [] trivial ?_
 replace hF := hF.locS hN23 (fun i => (fun h => h.elim (fun e => by rw [e]; exact (.inl (.inl rfl))) (fun h => h.elim (fun e => by rw [e]; exact (.inl (.inr (.inl rfl)))) (fun h => h.elim (fun e => by rw [e]; exact (.inl (.inr (.inr (.inl rfl))))) (fun h => gA_A i h)))))
 exact ⟨_, rfl, rfl, A17, ac18, ⟨hW, hE, hH, hI, hQ, O21, ⟨ne_bw_be, ne_bw_bh, ne_bw_bi, ne_bw_ig, ne_be_bh, ne_be_bi, ne_be_ig, ne_bh_bi, ne_bh_ig, ne_bi_ig, ap_Q_bw, ap_Q_be, ap_Q_bh, ap_Q_bi, ap_Q_ig, ap_A17_bw, ap_A17_be, ap_A17_bh, ap_A17_bi, ap_A17_ig, ap2_Q_A17⟩⟩, wmv gA_A17 ap_A17_bw ap_A17_be ap_A17_ig, hF⟩
theorem begin_c {w : World} {bw be bh bi ig cap r : Nat} {d : Ent} {Q : Option Addr} {qc : Nat} {A : Option Addr} {ac : Nat} {out : List Msg} {bs : List UInt8} (m : Msg) (R : WorkR w bw be bh bi ig cap r m.line d Q qc A ac out bs) (hlen : out.length + 8 ≤ 1000000) (hsrc : 0 ≤ m.src ∧ m.src < 4)  (hk : 1 ≤ m.kind ∧ m.kind ≤ 3) : Calls Try.prog 48 #[.pointer (some ⟨bw, 0, none⟩), .agg (msgE.arr m)] w (Ret fun v w' => v = .tuple #[] ∧ WRet w w' bw be bh bi ig cap r m.line Q qc A out (beginF bs d m).1 (beginF bs d m).2.1 (beginF bs d m).2.2) := by
  have h : m.kind = 1 ∨ m.kind = 2 ∨ m.kind = 3 := by omega
  rcases h with h | h | h
  · exact begin_1 m R hlen hsrc h
  · exact begin_2 m R hlen hsrc h
  · exact begin_3 m R hlen hsrc h
theorem begin_l {w : World} {bw be bh bi ig cap r : Nat} {line : Int} {d : Ent} {Q : Option Addr} {qc : Nat} {A : Option Addr} {ac : Nat} {out : List Msg} {bs : List UInt8} (m : Msg) (R : WorkR w bw be bh bi ig cap r line d Q qc A ac out bs) (hlen : out.length + 8 ≤ 1000000) (hsrc : 0 ≤ m.src ∧ m.src < 4)  (hk : 1 ≤ m.kind ∧ m.kind ≤ 3) (hml : m.line = line) : Calls Try.prog 48 #[.pointer (some ⟨bw, 0, none⟩), .agg (msgE.arr m)] w (Ret fun v w' => v = .tuple #[] ∧ WRet w w' bw be bh bi ig cap r line Q qc A out (beginF bs d m).1 (beginF bs d m).2.1 (beginF bs d m).2.2) := by
  subst hml
  exact begin_c m R hlen hsrc hk
end Go.Proofs.Ytdiaemlgghfecaa
namespace Go.Proofs.Ytdiaemlgghfecaa
open Go.RowKit
theorem hmv {n bw be ig : Nat} {A A' Q : Option Addr} (h : ∀ k, inA A' k → (k = bw ∨ k = be ∨ k = ig ∨ inA A k ∨ inA Q k) ∨ n ≤ k) (h1 : Apart A' bw) (h2 : Apart A' be) (h3 : Apart A' ig) : ∀ k, inA A' k → (inA A k ∨ inA Q k) ∨ n ≤ k := fun k hk => by
  rcases h k hk with (rfl | rfl | rfl | h) | h
  · exact absurd hk h1
  · exact absurd hk h2
  · exact absurd hk h3
  · exact .inl h
  · exact .inr h
set_option maxRecDepth 100000 in
set_option maxHeartbeats 4000000 in
theorem req_n {w : World} {bw be bh bi ig cap r : Nat} {o : Int} {sh : Sh} {asks : Int} {kind : Int} {waits : Int} {told : Bool} {q : List Msg} {Q : Option Addr} {qc : Nat} {A : Option Addr} {ac : Nat} {out : List Msg} {bs : List UInt8} (m : Msg) (R : WorkR w bw be bh bi ig cap r m.line (Ent.mk o sh false asks kind waits told q) Q qc A ac out bs) (hlen : out.length + 8 ≤ 1000000) (hsrc : 0 ≤ m.src ∧ m.src < 4) (hk : 1 ≤ m.kind ∧ m.kind ≤ 3) : Calls Try.prog 32 #[.pointer (some ⟨bw, 0, none⟩), .agg (msgE.arr m)] w (Ret fun v w' => v = .tuple #[] ∧ HRet w w' bw be bh bi ig cap r m.line Q A out (beginF bs (Ent.mk o sh false asks kind waits told q) m)) := by
 obtain ⟨hW, hE, hH, hI, hQ, hO, hS⟩ := R
 have ne_bw_be := hS.ne_bw_be
 have ne_bw_bh := hS.ne_bw_bh
 have ne_bw_bi := hS.ne_bw_bi
 have ne_bw_ig := hS.ne_bw_ig
 have ne_be_bh := hS.ne_be_bh
 have ne_be_bi := hS.ne_be_bi
 have ne_be_ig := hS.ne_be_ig
 have ne_bh_bi := hS.ne_bh_bi
 have ne_bh_ig := hS.ne_bh_ig
 have ne_bi_ig := hS.ne_bi_ig
 have ap_Q_bw := hS.ap_Q_bw
 have ap_Q_be := hS.ap_Q_be
 have ap_Q_bh := hS.ap_Q_bh
 have ap_Q_bi := hS.ap_Q_bi
 have ap_Q_ig := hS.ap_Q_ig
 have ap_A_bw := hS.ap_A_bw
 have ap_A_be := hS.ap_A_be
 have ap_A_bh := hS.ap_A_bh
 have ap_A_bi := hS.ap_A_bi
 have ap_A_ig := hS.ap_A_ig
 have ap2_Q_A := hS.ap2_Q_A
 have gA_A : ∀ g, inA A g → (g = bw ∨ g = be ∨ g = ig ∨ inA A g ∨ inA Q g) ∨ w.heap.size ≤ g := fun g hg => .inl (.inr (.inr (.inr (.inl hg))))
 have hmn := m.hn
 have gA_Q : ∀ g, inA Q g → (g = bw ∨ g = be ∨ g = ig ∨ inA A g ∨ inA Q g) ∨ w.heap.size ≤ g := fun g hg => .inl (.inr (.inr (.inr (.inr hg))))
 have hF := Only.refl (fun k => k = bw ∨ k = be ∨ k = ig ∨ inA A k ∨ inA Q k) w
 refine Zen 30 Try.func32 ?_
 refine Zsr ?_
 refine Znb (cs := msgE.arr m) fun b1 w2 hN3 B4 hb5 => ?_
 refine Znn ?_
 refine Zsq ?_
 refine Zsr ?_
 refine Zm ?_
 refine Zn ?_
 refine Zf fo82_1 ?_
 replace hW := hW.new hN3
 refine Zd pl78 (hW.cell 1 rfl) ?_
 refine Zn ?_
 refine Zf fo42_2 ?_
 replace hE := hE.new hN3
 refine Zd (v := .bool false) pl4 (hE.cell 5 rfl) ?_
 refine Znn ?_
 refine Zcf ?_
 refine Zsk ?_
 refine Znx ?_
 refine Zrg ?_
 refine Zm ?_
 refine ZE msgE ag36 (B4.rangeE msgE) ?_
 replace hH := hH.new hN3
 replace hI := hI.new hN3
 replace hQ := hQ.new hN3
 replace hO := hO.new hN3
 refine Zk (args := #[.pointer (some ⟨bw, 0, none⟩), .agg (msgE.arr m)]) cf48 (begin_c m ⟨hW, hE, hH, hI, hQ, hO, ⟨ne_bw_be, ne_bw_bh, ne_bw_bi, ne_bw_ig, ne_be_bh, ne_be_bi, ne_be_ig, ne_bh_bi, ne_bh_ig, ne_bi_ig, ap_Q_bw, ap_Q_be, ap_Q_bh, ap_Q_bi, ap_Q_ig, ap_A_bw, ap_A_be, ap_A_bh, ap_A_bi, ap_A_ig, ap2_Q_A⟩⟩ (by first | omega | (simp only [List.length_append, List.length_cons, List.length_nil, List.length_map, List.length_take]; omega)) hsrc hk) ?_
 rintro v w11 ⟨rfl, A6, ac7, R8, mv9, hN12⟩
 replace hF := hF.trNew hN3
 have gA_A6 := gA_moved hF mv9 gA_A
 clear hW hE hH hI hQ hO
 obtain ⟨hW, hE, hH, hI, hQ, O10, hS⟩ := R8
 have ap_A6_bw := hS.ap_A_bw
 have ap_A6_be := hS.ap_A_be
 have ap_A6_bh := hS.ap_A_bh
 have ap_A6_bi := hS.ap_A_bi
 have ap_A6_ig := hS.ap_A_ig
 have ap2_Q_A6 := hS.ap2_Q_A
 refine Znl ?_
 refine Zee rfl [] trivial ?_
 replace hF := hF.locS hN12 (fun i => (fun h => h.elim (fun e => by rw [e]; exact (.inl (.inl rfl))) (fun h => h.elim (fun e => by rw [e]; exact (.inl (.inr (.inl rfl)))) (fun h => h.elim (fun e => by rw [e]; exact (.inl (.inr (.inr (.inl rfl))))) (fun h => gA_A i h)))))
 exact ⟨_, rfl, rfl, Q, qc, A6, ac7, ⟨hW, hE, hH, hI, hQ, O10, ⟨ne_bw_be, ne_bw_bh, ne_bw_bi, ne_bw_ig, ne_be_bh, ne_be_bi, ne_be_ig, ne_bh_bi, ne_bh_ig, ne_bi_ig, ap_Q_bw, ap_Q_be, ap_Q_bh, ap_Q_bi, ap_Q_ig, ap_A6_bw, ap_A6_be, ap_A6_bh, ap_A6_bi, ap_A6_ig, ap2_Q_A6⟩⟩, hmv gA_A6 ap_A6_bw ap_A6_be ap_A6_ig, hmv gA_Q ap_Q_bw ap_Q_be ap_Q_ig, hF⟩
set_option maxRecDepth 100000 in
set_option maxHeartbeats 4000000 in
theorem req_b {w : World} {bw be bh bi ig cap r : Nat} {o : Int} {sh : Sh} {asks : Int} {kind : Int} {waits : Int} {told : Bool} {q : List Msg} {Q : Option Addr} {qc : Nat} {A : Option Addr} {ac : Nat} {out : List Msg} {bs : List UInt8} (m : Msg) (R : WorkR w bw be bh bi ig cap r m.line (Ent.mk o sh true asks kind waits told q) Q qc A ac out bs) (hlen : out.length + 8 ≤ 1000000) (hsrc : 0 ≤ m.src ∧ m.src < 4) (OQ : Own msgE w Q qc q) (hql : q.length ≤ 1000000) : Calls Try.prog 32 #[.pointer (some ⟨bw, 0, none⟩), .agg (msgE.arr m)] w (Ret fun v w' => v = .tuple #[] ∧ HRet w w' bw be bh bi ig cap r m.line Q A out ({ (Ent.mk o sh true asks kind waits told q) with q := q ++ [m] }, bs, ([] : List Msg))) := by
 obtain ⟨hW, hE, hH, hI, hQ, hO, hS⟩ := R
 have ne_bw_be := hS.ne_bw_be
 have ne_bw_bh := hS.ne_bw_bh
 have ne_bw_bi := hS.ne_bw_bi
 have ne_bw_ig := hS.ne_bw_ig
 have ne_be_bh := hS.ne_be_bh
 have ne_be_bi := hS.ne_be_bi
 have ne_be_ig := hS.ne_be_ig
 have ne_bh_bi := hS.ne_bh_bi
 have ne_bh_ig := hS.ne_bh_ig
 have ne_bi_ig := hS.ne_bi_ig
 have ap_Q_bw := hS.ap_Q_bw
 have ap_Q_be := hS.ap_Q_be
 have ap_Q_bh := hS.ap_Q_bh
 have ap_Q_bi := hS.ap_Q_bi
 have ap_Q_ig := hS.ap_Q_ig
 have ap_A_bw := hS.ap_A_bw
 have ap_A_be := hS.ap_A_be
 have ap_A_bh := hS.ap_A_bh
 have ap_A_bi := hS.ap_A_bi
 have ap_A_ig := hS.ap_A_ig
 have ap2_Q_A := hS.ap2_Q_A
 have hmn := m.hn
 have gA_Q : ∀ g, inA Q g → (g = bw ∨ g = be ∨ g = ig ∨ inA A g ∨ inA Q g) ∨ w.heap.size ≤ g := fun g hg => .inl (.inr (.inr (.inr (.inr hg))))
 clear hQ
 have hF := Only.refl (fun k => k = bw ∨ k = be ∨ k = ig ∨ inA A k ∨ inA Q k) w
 refine Zen 30 Try.func32 ?_
 refine Zsr ?_
 refine Znb (cs := msgE.arr m) fun b1 w2 hN3 B4 hb5 => ?_
 have ap_Q_b1 : Apart Q b1 := OQ.apart hb5
 refine Znn ?_
 refine Zsq ?_
 refine Zsr ?_
 refine Zm ?_
 refine Zn ?_
 refine Zf fo82_1 ?_
 replace hW := hW.new hN3
 refine Zd pl78 (hW.cell 1 rfl) ?_
 refine Zn ?_
 refine Zf fo42_2 ?_
 replace hE := hE.new hN3
 refine Zd (v := .bool true) pl4 (hE.cell 5 rfl) ?_
 refine Znn ?_
 refine Zct ?_
 refine Zsq ?_
 refine ZhT (n := 14) 14 (fun w => Blk w bw 82 #[.slice A out.length ac, .pointer (some ⟨be, 0, none⟩), .pointer (some ⟨bh, 0, none⟩), .int .u32 m.line] ∧ Blk w be 42 (entA (Ent.mk o sh true asks kind waits told q) (.slice Q q.length qc)) ∧ Blk w b1 36 (msgE.arr m) ∧ True) ?_
 intro w6 hN7
 replace hW := hW.new hN7
 replace hE := hE.new hN7
 replace B4 := B4.new hN7
 have hS9 := And.intro hW (And.intro hE (And.intro B4 trivial))
 refine Zhm 0 hS9 ?_
 refine Zhc 1 hS9 ?_
 refine Zhf 2 fo82_1 hS9 ?_
 refine Zhl 3 pl78 hS9 (fun _ ⟨hW, _⟩ => (hW.cell 1 rfl)) ?_
 refine Zhm 4 hS9 ?_
 refine Zhc 5 hS9 ?_
 refine Zhf 6 fo82_1 hS9 ?_
 refine Zhl 7 pl78 hS9 (fun _ ⟨hW, _⟩ => (hW.cell 1 rfl)) ?_
 refine Zhc 8 hS9 ?_
 refine Zhf 9 fo42_7 hS9 ?_
 refine Zhl (v := .slice Q q.length qc) 10 pl23 hS9 (fun _ ⟨_, hE, _⟩ => (hE.cell 10 rfl)) ?_
 refine ZhE 11 msgE ag36 hS9 (fun _ ⟨_, _, B4, _⟩ => (B4.rangeE msgE)) ?_
 refine Zh1 12 ?_
 intro a fr
 refine fx_build1 (E := msgE) (p := m) elMsg (by decide) fr rfl rfl (by decide) rfl (fr.ev rfl) ?_
 clear fr a
 intro A8 w9 hN10 O11 hA12
 replace hW := hW.new hN10
 replace hE := hE.new hN10
 replace B4 := B4.new hN10
 refine Zhb ⟨hW, hE, B4, trivial⟩ ?_
 refine Zh1 13 ?_
 intro a fr
 replace OQ := ((OQ.new hN3).new hN7).new hN10
 refine fx_append (E := msgE) (l := q) (l' := [m]) elMsg fr rfl rfl (by decide) rfl (fr.ev rfl) (fr.ev rfl) (by first | rfl | (simp; done) | (simp; omega)) (by first | rfl | (simp; done) | (simp; omega)) OQ O11.view (by first | omega | (simp only [List.length_append, List.length_cons, List.length_nil]; omega)) (by first | (unfold maxLen; done) | (unfold maxLen; first | omega | (simp only [List.length_append, List.length_cons, List.length_nil]; omega) | (simp; done) | (simp; omega))) ?_
 clear fr a
 intro A13 cap14 w15 O16 hO17 mv18
 have ap_A13_bw : Apart A13 bw := moved_apart mv18 ap_Q_bw hW.lt
 have ap_A13_be : Apart A13 be := moved_apart mv18 ap_Q_be hE.lt
 replace hH := ((hH.new hN3).new hN7).new hN10
 have ap_A13_bh : Apart A13 bh := moved_apart mv18 ap_Q_bh hH.lt
 replace hI := ((hI.new hN3).new hN7).new hN10
 have ap_A13_bi : Apart A13 bi := moved_apart mv18 ap_Q_bi hI.lt.1
 have ap_A13_ig : Apart A13 ig := moved_apart mv18 ap_Q_ig hI.lt.2
 replace hO := ((hO.new hN3).new hN7).new hN10
 have ap2_A13_A : Apart2 A13 A := moved_apart2 mv18 ap2_Q_A fun _ hg => hO.lt hg
 replace hF := ((hF.trNew hN3).trNew hN7).trNew hN10
 have gA_A13 := gA_moved hF mv18 gA_Q
 clear OQ
 replace hW := hW.only hO17 ap_Q_bw
 replace hE := hE.only hO17 ap_Q_be
 replace B4 := B4.only hO17 ap_Q_b1
 refine Zhb ⟨hW, hE, B4, trivial⟩ ?_
 refine Zhn ?_
 refine Ztl ?_
 refine Zn ?_
 refine Zf fo42_7 ?_
 refine Zs1 (cs' := entA ({ (Ent.mk o sh true asks kind waits told q) with q := q ++ ([m]) }) (.slice A13 ((q ++ ([m])).length) cap14)) sz23 hE (show 10 < 11 by decide) rfl fun w19 hO20 hBq => ?_
 replace hE := hBq
 clear hBq
 refine Znn ?_
 refine Zrt ?_
 refine Zr1 ?_
 refine Zre rfl [] trivial ?_
 refine ⟨_, rfl, rfl, ?_⟩
 unfold HRet
 rw [List.append_nil]
 replace hH := (hH.only hO17 ap_Q_bh).only hO20 ne_be_bh.symm
 replace hI := (hI.only hO17 ap_Q_bi ap_Q_ig).only hO20 ne_be_bi.symm ne_be_ig.symm
 replace hO := (hO.only hO17 (fun g h1 h2 => ap2_Q_A.symm g h1 h2)).only hO20 (Apart.ne1 ap_A_be)
 replace hF := (hF.locA hO17 gA_Q).loc hO20 (.inl (.inr (.inl rfl)))
 replace hW := hW.only hO20 ne_bw_be
 replace O16 := O16.only hO20 (Apart.ne1 ap_A13_be)
 exact ⟨A13, cap14, A, ac, ⟨hW, hE, hH, hI, O16.view, hO, ⟨ne_bw_be, ne_bw_bh, ne_bw_bi, ne_bw_ig, ne_be_bh, ne_be_bi, ne_be_ig, ne_bh_bi, ne_bh_ig, ne_bi_ig, ap_A13_bw, ap_A13_be, ap_A13_bh, ap_A13_bi, ap_A13_ig, ap_A_bw, ap_A_be, ap_A_bh, ap_A_bi, ap_A_ig, ap2_A13_A⟩⟩, fun _ hk => .inl (.inl hk), hmv gA_A13 ap_A13_bw ap_A13_be ap_A13_ig, hF⟩
set_option maxRecDepth 100000 in
set_option maxHeartbeats 4000000 in
theorem back_ok {w : World} {bw be bh bi ig cap r : Nat} {o : Int} {sh : Sh} {asks : Int} {kind : Int} {waits : Int} {told : Bool} {q : List Msg} {Q : Option Addr} {qc : Nat} {A : Option Addr} {ac : Nat} {out : List Msg} {bs : List UInt8} (m : Msg) (R : WorkR w bw be bh bi ig cap r m.line (Ent.mk o sh true asks kind waits told q) Q qc A ac out bs) (hlen : out.length + 8 ≤ 1000000) (hsrc : 0 ≤ m.src ∧ m.src < 4) (hask : 0 ≤ asks ∧ asks < 4) (hk : m.kind = 11) (hw : 0 < waits) (ho : o = m.src) (hkk : kind = 1 ∨ kind = 2) : Calls Try.prog 33 #[.pointer (some ⟨bw, 0, none⟩), .agg (msgE.arr m)] w (Ret fun v w' => v = .tuple #[] ∧ HRet w w' bw be bh bi ig cap r m.line Q A out (otherF bs (Ent.mk o sh true asks kind waits told q) m)) := by
 obtain ⟨hW, hE, hH, hI, hQ, hO, hS⟩ := R
 have ne_bw_be := hS.ne_bw_be
 have ne_bw_bh := hS.ne_bw_bh
 have ne_bw_bi := hS.ne_bw_bi
 have ne_bw_ig := hS.ne_bw_ig
 have ne_be_bh := hS.ne_be_bh
 have ne_be_bi := hS.ne_be_bi
 have ne_be_ig := hS.ne_be_ig
 have ne_bh_bi := hS.ne_bh_bi
 have ne_bh_ig := hS.ne_bh_ig
 have ne_bi_ig := hS.ne_bi_ig
 have ap_Q_bw := hS.ap_Q_bw
 have ap_Q_be := hS.ap_Q_be
 have ap_Q_bh := hS.ap_Q_bh
 have ap_Q_bi := hS.ap_Q_bi
 have ap_Q_ig := hS.ap_Q_ig
 have ap_A_bw := hS.ap_A_bw
 have ap_A_be := hS.ap_A_be
 have ap_A_bh := hS.ap_A_bh
 have ap_A_bi := hS.ap_A_bi
 have ap_A_ig := hS.ap_A_ig
 have ap2_Q_A := hS.ap2_Q_A
 have gA_A : ∀ g, inA A g → (g = bw ∨ g = be ∨ g = ig ∨ inA A g ∨ inA Q g) ∨ w.heap.size ≤ g := fun g hg => .inl (.inr (.inr (.inr (.inl hg))))
 have hmn := m.hn
 have gA_Q : ∀ g, inA Q g → (g = bw ∨ g = be ∨ g = ig ∨ inA A g ∨ inA Q g) ∨ w.heap.size ≤ g := fun g hg => .inl (.inr (.inr (.inr (.inr hg))))
 have hF := Only.refl (fun k => k = bw ∨ k = be ∨ k = ig ∨ inA A k ∨ inA Q k) w
 refine Zen 104 Try.func33 ?_
 refine Zsr ?_
 refine Znb (cs := msgE.arr m) fun b1 w2 hN3 B4 hb5 => ?_
 have ne_be_b1 : NE be b1 := NE.mk (Nat.lt_of_lt_of_le hE.lt hb5)
 have ne_ig_b1 : NE ig b1 := NE.mk (Nat.lt_of_lt_of_le hI.lt.2 hb5)
 refine Znn ?_
 refine Zsq ?_
 refine Zhd (n := 30) (fun w => Blk w bw 82 #[.slice A out.length ac, .pointer (some ⟨be, 0, none⟩), .pointer (some ⟨bh, 0, none⟩), .int .u32 m.line] ∧ Blk w be 42 (entA (Ent.mk o sh true asks kind waits told q) (.slice Q q.length qc)) ∧ Blk w b1 36 (msgE.arr m) ∧ True) ?_
 intro w6 hN7
 replace hW := (hW.new hN3).new hN7
 replace hE := (hE.new hN3).new hN7
 replace B4 := B4.new hN7
 have hS9 := And.intro hW (And.intro hE (And.intro B4 trivial))
 refine Zhm 0 hS9 ?_
 refine Zhc 1 hS9 ?_
 refine Zhf 2 fo82_1 hS9 ?_
 refine Zhl 3 pl78 hS9 (fun _ ⟨hW, _⟩ => (hW.cell 1 rfl)) ?_
 refine Zhc 4 hS9 ?_
 refine Zhf 5 fo42_2 hS9 ?_
 refine Zhl (v := .bool true) 6 pl4 hS9 (fun _ ⟨_, hE, _⟩ => (hE.cell 5 rfl)) ?_
 refine Zhm 7 hS9 ?_
 refine Zhm 8 hS9 ?_
 refine Zhc 9 hS9 ?_
 refine Zhf 10 fo82_1 hS9 ?_
 refine Zhl 11 pl78 hS9 (fun _ ⟨hW, _⟩ => (hW.cell 1 rfl)) ?_
 refine Zhc 12 hS9 ?_
 refine Zhf 13 fo42_5 hS9 ?_
 refine Zhl (v := .int .i64 waits) 14 pl3 hS9 (fun _ ⟨_, hE, _⟩ => (hE.cell 8 rfl)) ?_
 refine Zht 15 rfl (.bool true) hS9 (fun _ fr _ _ => x_gtr rfl (fr.ev rfl) rfl (decide_eq_true hw)) ?_
 refine Zht 16 rfl (.bool true) hS9 (fun _ fr _ _ => x_pick_t rfl (fr.ev rfl) (fr.ev rfl)) ?_
 refine Zhm 17 hS9 ?_
 refine Zhm 18 hS9 ?_
 refine Zhc 19 hS9 ?_
 refine Zhf 20 fo82_1 hS9 ?_
 refine Zhl 21 pl78 hS9 (fun _ ⟨hW, _⟩ => (hW.cell 1 rfl)) ?_
 refine Zhc 22 hS9 ?_
 refine Zhf 23 fo42_0 hS9 ?_
 refine Zhl (v := .int .i64 o) 24 pl3 hS9 (fun _ ⟨_, hE, _⟩ => (hE.cell 0 rfl)) ?_
 refine Zhf 25 fo36_1 hS9 ?_
 refine Zhl (v := .int .i64 m.src) 26 pl3 hS9 (fun _ ⟨_, _, B4, _⟩ => (B4.cell 1 rfl)) ?_
 refine Zht 27 rfl (.bool true) hS9 (fun _ fr _ _ => x_eql rfl (fr.ev rfl) (fr.ev rfl) (decide_eq_true ho)) ?_
 refine Zht 28 rfl (.bool true) hS9 (fun _ fr _ _ => x_pick_t rfl (fr.ev rfl) (fr.ev rfl)) ?_
 refine Zh1 29 ?_
 refine Zk cf49 (must_ok 220 _) ?_
 rintro v w9 ⟨rfl, hw9⟩
 obtain rfl := hw9.symm
 refine Zhb ⟨hW, hE, B4, trivial⟩ ?_
 refine Zhn ?_
 refine Znx ?_
 refine Zsq ?_
 refine Zhd (n := 14) (fun w => Blk w bw 82 #[.slice A out.length ac, .pointer (some ⟨be, 0, none⟩), .pointer (some ⟨bh, 0, none⟩), .int .u32 m.line] ∧ Blk w bh 64 #[.pointer (some ⟨bi, 0, none⟩), .map (some r)] ∧ Blk w b1 36 (msgE.arr m) ∧ True) ?_
 intro w10 hN11
 replace hH := ((hH.new hN3).new hN7).new hN11
 replace hW := hW.new hN11
 replace B4 := B4.new hN11
 have hS9 := And.intro hW (And.intro hH (And.intro B4 trivial))
 refine Zhm 0 hS9 ?_
 refine Zhc 1 hS9 ?_
 refine Zhf 2 fo82_2 hS9 ?_
 refine Zhl 3 pl25 hS9 (fun _ ⟨hW, _⟩ => (hW.cell 2 rfl)) ?_
 refine Zhc 4 hS9 ?_
 refine Zhf 5 fo64_0 hS9 ?_
 refine Zhl 6 pl61 hS9 (fun _ ⟨_, hH, _⟩ => (hH.cell 0 rfl)) ?_
 refine Zhm 7 hS9 ?_
 refine Zhc 8 hS9 ?_
 refine Zhf 9 fo82_3 hS9 ?_
 refine Zhl (v := .int .u32 m.line) 10 pl24 hS9 (fun _ ⟨hW, _⟩ => (hW.cell 3 rfl)) ?_
 refine Zhf 11 fo36_4 hS9 ?_
 refine ZhE (p := m.bs) 12 bsE ag34 hS9 (fun _ ⟨_, _, B4, _⟩ => (B4.part (msg_bs _))) ?_
 refine Zh1 13 ?_
 replace hI := ((hI.new hN3).new hN7).new hN11
 refine Zk (args := #[.pointer (some ⟨bi, 0, none⟩), .int .u32 m.line, .agg (bsE.arr m.bs)]) cf50 (hset_c m.line m.bs (by omega) hI) ?_
 rintro v w13 ⟨rfl, hIn12, hN14⟩
 replace hI := hIn12
 clear hIn12
 replace hW := hW.only hN14 ne_bw_ig
 replace hH := hH.only hN14 ne_bh_ig
 replace B4 := B4.only hN14 ne_ig_b1.symm
 refine Zhb ⟨hW, hH, B4, trivial⟩ ?_
 refine Zhn ?_
 refine Znx ?_
 refine Zsr ?_
 refine Zm ?_
 refine Zn ?_
 refine Zf fo82_1 ?_
 refine Zd pl78 (hW.cell 1 rfl) ?_
 refine Zn ?_
 refine Zf fo42_5 ?_
 replace hE := (hE.new hN11).only hN14 ne_be_ig
 refine Zs1 (cs' := entA ({ (Ent.mk o sh true asks kind waits told q) with waits := 0 }) (.slice Q q.length qc)) sz3 hE (show 8 < 11 by decide) rfl fun w15 hO16 hBq => ?_
 replace hE := hBq
 clear hBq
 refine Znn ?_
 refine Zsq ?_
 refine Zsr ?_
 refine Zm ?_
 refine Zn ?_
 refine Zf fo82_1 ?_
 replace hW := hW.only hO16 ne_bw_be
 refine Zd pl78 (hW.cell 1 rfl) ?_
 refine Zn ?_
 refine Zf fo42_4 ?_
 refine Zd (v := .int .i64 kind) pl33 (hE.cell 7 rfl) ?_
 refine Zv _ (fun _ fr => x_eql rfl (fr.ev rfl) rfl rfl) ?_
 refine Znn ?_
 refine Zcd (fun hc17 => ?_) (fun hc17 => ?_)
 ·have hc17 := of_decide_eq_true hc17
  refine Zsr ?_
  refine Zm ?_
  replace hQ := ((((hQ.new hN3).new hN7).new hN11).only hN14 (Apart.ne1 ap_Q_ig)).only hO16 (Apart.ne1 ap_Q_be)
  replace hO := ((((hO.new hN3).new hN7).new hN11).only hN14 (Apart.ne1 ap_A_ig)).only hO16 (Apart.ne1 ap_A_be)
  replace hH := hH.only hO16 ne_be_bh.symm
  replace hI := hI.only hO16 ne_be_bi.symm ne_be_ig.symm
  refine Zk (args := #[.pointer (some ⟨bw, 0, none⟩)]) cf51 (write_c ⟨hW, hE, hH, hI, hQ, hO, ⟨ne_bw_be, ne_bw_bh, ne_bw_bi, ne_bw_ig, ne_be_bh, ne_be_bi, ne_be_ig, ne_bh_bi, ne_bh_ig, ne_bi_ig, ap_Q_bw, ap_Q_be, ap_Q_bh, ap_Q_bi, ap_Q_ig, ap_A_bw, ap_A_be, ap_A_bh, ap_A_bi, ap_A_ig, ap2_Q_A⟩⟩ m.hn (by first | omega | (simp only [List.length_append, List.length_cons, List.length_nil, List.length_map, List.length_take]; omega))) ?_
  rintro v w23 ⟨rfl, A18, ac19, R20, mv21, hN24⟩
  replace hF := ((((hF.trNew hN3).trNew hN7).trNew hN11).loc hN14 (.inl (.inr (.inr (.inl rfl))))).loc hO16 (.inl (.inr (.inl rfl)))
  have gA_A18 := gA_moved hF mv21 gA_A
  clear hW hE hH hI hQ hO
  obtain ⟨hW, hE, hH, hI, hQ, O22, hS⟩ := R20
  have ap_A18_bw := hS.ap_A_bw
  have ap_A18_be := hS.ap_A_be
  have ap_A18_bh := hS.ap_A_bh
  have ap_A18_bi := hS.ap_A_bi
  have ap_A18_ig := hS.ap_A_ig
  have ap2_Q_A18 := hS.ap2_Q_A
  refine Znn ?_
  refine Zrt ?_
  refine Zr1 ?_
  refine Zre rfl [] trivial ?_
  rw [other_b2 hk (show ¬ kind = 1 by omega)]
  replace hF := hF.locS hN24 (fun i => (fun h => h.elim (fun e => by rw [e]; exact (.inl (.inl rfl))) (fun h => h.elim (fun e => by rw [e]; exact (.inl (.inr (.inl rfl)))) (fun h => h.elim (fun e => by rw [e]; exact (.inl (.inr (.inr (.inl rfl))))) (fun h => gA_A i h)))))
  exact ⟨_, rfl, rfl, Q, qc, A18, ac19, ⟨hW, hE, hH, hI, hQ, O22, ⟨ne_bw_be, ne_bw_bh, ne_bw_bi, ne_bw_ig, ne_be_bh, ne_be_bi, ne_be_ig, ne_bh_bi, ne_bh_ig, ne_bi_ig, ap_Q_bw, ap_Q_be, ap_Q_bh, ap_Q_bi, ap_Q_ig, ap_A18_bw, ap_A18_be, ap_A18_bh, ap_A18_bi, ap_A18_ig, ap2_Q_A18⟩⟩, hmv gA_A18 ap_A18_bw ap_A18_be ap_A18_ig, hmv gA_Q ap_Q_bw ap_Q_be ap_Q_ig, hF⟩
 ·have hc17 := of_decide_eq_false hc17
  refine Zsk ?_
  refine Znx ?_
  refine Zsr ?_
  refine Zm ?_
  refine Zk cf52 (own_c hW hE ne_bw_be (-1)) ?_
  rintro v w26 ⟨rfl, hEn25, hN27⟩
  replace hE := hEn25
  clear hEn25
  refine Znn ?_
  refine Zsq ?_
  refine Zhd (n := 25) (fun w => Blk w bw 82 #[.slice A out.length ac, .pointer (some ⟨be, 0, none⟩), .pointer (some ⟨bh, 0, none⟩), .int .u32 m.line] ∧ Blk w b1 36 (msgE.arr m) ∧ True) ?_
  intro w28 hN29
  replace B4 := ((B4.only hO16 ne_be_b1.symm).only hN27 ne_be_b1.symm).new hN29
  replace hW := (hW.only hN27 ne_bw_be).new hN29
  have hS9 := And.intro hW (And.intro B4 trivial)
  refine Zhm 0 hS9 ?_
  refine Zhc 1 hS9 ?_
  refine Zhf 2 fo82_1 hS9 ?_
  refine Zhl 3 pl78 hS9 (fun _ ⟨hW, _⟩ => (hW.cell 1 rfl)) ?_
  refine Zhf 4 fo36_1 hS9 ?_
  refine Zhl (v := .int .i64 m.src) 5 pl3 hS9 (fun _ ⟨_, B4, _⟩ => (B4.cell 1 rfl)) ?_
  refine Zhm 6 hS9 ?_
  refine Zhc 7 hS9 ?_
  refine Zhf 8 fo82_1 hS9 ?_
  refine Zhl 9 pl78 hS9 (fun _ ⟨hW, _⟩ => (hW.cell 1 rfl)) ?_
  refine Zhm 10 hS9 ?_
  refine Zhc 11 hS9 ?_
  refine Zhf 12 fo82_1 hS9 ?_
  refine Zhl 13 pl78 hS9 (fun _ ⟨hW, _⟩ => (hW.cell 1 rfl)) ?_
  refine Zhc 14 hS9 ?_
  refine Zhf 15 fo42_3 hS9 ?_
  refine Zhc 17 hS9 ?_
  refine Zhf 18 fo42_1 hS9 ?_
  refine Zhc 21 hS9 ?_
  refine Zhf 22 fo42_1 hS9 ?_
  refine Zh1 16 ?_
  replace hE := hE.new hN29
  refine Zd (v := .int .i64 asks) pl3 (hE.cell 6 rfl) ?_
  refine Zhb ⟨hW, B4, trivial⟩ ?_
  have hS9 := And.intro hW (And.intro B4 trivial)
  refine Zht 19 rfl (.pointer (some ⟨be, 1 + m.src.toNat, none⟩)) hS9 (fun _ fr _ _ => x_indexArr Try.underlying40 sz4 rfl (fr.ev rfl) ((fr.ev rfl).trans (int_nat _ m.src (by omega))) (by omega) (by omega)) ?_
  refine Zh1 20 ?_
  refine Zs1 (cs' := entA ({ ownF ({ (Ent.mk o sh true asks kind waits told q) with waits := 0 }) (-1) with sh := sh0.set m.src true }) (.slice Q q.length qc)) sz4 hE (show 1 + m.src.toNat < 11 by omega) (ent_setSh _ _ m.src _ (by omega) (by omega)) fun w30 hO31 hBq => ?_
  replace hE := hBq
  clear hBq
  replace hW := hW.only hO31 ne_bw_be
  replace B4 := B4.only hO31 ne_be_b1.symm
  refine Zhb ⟨hW, B4, trivial⟩ ?_
  have hS9 := And.intro hW (And.intro B4 trivial)
  refine Zht 23 rfl (.pointer (some ⟨be, 1 + asks.toNat, none⟩)) hS9 (fun _ fr _ _ => x_indexArr Try.underlying40 sz4 rfl (fr.ev rfl) ((fr.ev rfl).trans (int_nat _ asks (by omega))) (by omega) (by omega)) ?_
  refine Zh1 24 ?_
  refine Zs1 (cs' := entA ({ { ownF ({ (Ent.mk o sh true asks kind waits told q) with waits := 0 }) (-1) with sh := sh0.set m.src true } with sh := (sh0.set m.src true).set asks true }) (.slice Q q.length qc)) sz4 hE (show 1 + asks.toNat < 11 by omega) (ent_setSh _ _ asks _ (by omega) (by omega)) fun w32 hO33 hBq => ?_
  replace hE := hBq
  clear hBq
  replace hW := hW.only hO33 ne_bw_be
  replace B4 := B4.only hO33 ne_be_b1.symm
  refine Zhb ⟨hW, B4, trivial⟩ ?_
  refine Zhn ?_
  refine Znx ?_
  refine Zsr ?_
  refine Zm ?_
  refine Zm ?_
  refine Zn ?_
  refine Zf fo82_1 ?_
  refine Zd pl78 (hW.cell 1 rfl) ?_
  refine Zn ?_
  refine Zf fo42_3 ?_
  refine Zd (v := .int .i64 asks) pl3 (hE.cell 6 rfl) ?_
  replace hO := ((((((((hO.new hN3).new hN7).new hN11).only hN14 (Apart.ne1 ap_A_ig)).only hO16 (Apart.ne1 ap_A_be)).only hN27 (Apart.ne1 ap_A_be)).new hN29).only hO31 (Apart.ne1 ap_A_be)).only hO33 (Apart.ne1 ap_A_be)
  replace hH := ((((hH.only hO16 ne_be_bh.symm).only hN27 ne_be_bh.symm).new hN29).only hO31 ne_be_bh.symm).only hO33 ne_be_bh.symm
  replace hI := ((((hI.only hO16 ne_be_bi.symm ne_be_ig.symm).only hN27 ne_be_bi.symm ne_be_ig.symm).new hN29).only hO31 ne_be_bi.symm ne_be_ig.symm).only hO33 ne_be_bi.symm ne_be_ig.symm
  refine Zk (args := #[.pointer (some ⟨bw, 0, none⟩), .int .i64 8, .int .i64 asks, .bool true]) cf53 (send_b m.hn hW hH hI hO ne_bw_bh ne_bw_bi ne_bw_ig ap_A_bw ap_A_bh ap_A_bi ap_A_ig (by first | omega | (simp only [List.length_append, List.length_cons, List.length_nil, List.length_map, List.length_take]; omega)) 8 asks) ?_
  rintro v w39 ⟨rfl, A34, ac35, hWn36, O37, mv38, hN40⟩
  have ap_A34_bw : Apart A34 bw := moved_apart mv38 ap_A_bw hW.lt
  have ap_A34_bh : Apart A34 bh := moved_apart mv38 ap_A_bh hH.lt
  replace hQ := ((((((((hQ.new hN3).new hN7).new hN11).only hN14 (Apart.ne1 ap_Q_ig)).only hO16 (Apart.ne1 ap_Q_be)).only hN27 (Apart.ne1 ap_Q_be)).new hN29).only hO31 (Apart.ne1 ap_Q_be)).only hO33 (Apart.ne1 ap_Q_be)
  have ap2_A34_Q : Apart2 A34 Q := moved_apart2 mv38 ap2_Q_A.symm fun _ hg => hQ.lt hg
  have ap_A34_bi : Apart A34 bi := moved_apart mv38 ap_A_bi hI.lt.1
  have ap_A34_ig : Apart A34 ig := moved_apart mv38 ap_A_ig hI.lt.2
  have ap_A34_be : Apart A34 be := moved_apart mv38 ap_A_be hE.lt
  replace hF := ((((((((hF.trNew hN3).trNew hN7).trNew hN11).loc hN14 (.inl (.inr (.inr (.inl rfl))))).loc hO16 (.inl (.inr (.inl rfl)))).loc hN27 (.inl (.inr (.inl rfl)))).trNew hN29).loc hO31 (.inl (.inr (.inl rfl)))).loc hO33 (.inl (.inr (.inl rfl)))
  have gA_A34 := gA_moved hF mv38 gA_A
  clear hW hO
  have hW := hWn36
  clear hWn36
  refine Znn ?_
  refine Zrg ?_
  refine Zm ?_
  refine Zn ?_
  refine Zf fo82_1 ?_
  refine Zd pl78 (hW.cell 1 rfl) ?_
  refine Zn ?_
  refine Zf fo42_6 ?_
  replace hE := hE.only hN40 (fun h => h.elim ne_bw_be.symm ap_A_be)
  refine Zs1 (cs' := entA ({ { { ownF ({ (Ent.mk o sh true asks kind waits told q) with waits := 0 }) (-1) with sh := sh0.set m.src true } with sh := (sh0.set m.src true).set asks true } with told := true }) (.slice Q q.length qc)) sz4 hE (show 9 < 11 by decide) rfl fun w41 hO42 hBq => ?_
  replace hE := hBq
  clear hBq
  refine Znl ?_
  refine Zee rfl [] trivial ?_
  rw [other_b1 hk (show kind = 1 by omega)]
  replace hH := (hH.only hN40 (fun h => h.elim ne_bw_bh.symm ap_A_bh)).only hO42 ne_be_bh.symm
  replace hQ := (hQ.only hN40 (fun g hg => (fun h => h.elim ((Apart.ne1 ap_Q_bw) g hg) ((fun g h1 h2 => ap2_Q_A g h1 h2) g hg)))).only hO42 (Apart.ne1 ap_Q_be)
  replace hI := (hI.only hN40 (fun h => h.elim ne_bw_bi.symm ap_A_bi) (fun h => h.elim ne_bw_ig.symm ap_A_ig)).only hO42 ne_be_bi.symm ne_be_ig.symm
  replace hF := (hF.loc2 hN40 (.inl (.inl rfl)) gA_A).loc hO42 (.inl (.inr (.inl rfl)))
  replace hW := hW.only hO42 ne_bw_be
  replace O37 := O37.only hO42 (Apart.ne1 ap_A34_be)
  exact ⟨_, rfl, rfl, Q, qc, A34, ac35, ⟨hW, hE, hH, hI, hQ, O37, ⟨ne_bw_be, ne_bw_bh, ne_bw_bi, ne_bw_ig, ne_be_bh, ne_be_bi, ne_be_ig, ne_bh_bi, ne_bh_ig, ne_bi_ig, ap_Q_bw, ap_Q_be, ap_Q_bh, ap_Q_bi, ap_Q_ig, ap_A34_bw, ap_A34_be, ap_A34_bh, ap_A34_bi, ap_A34_ig, ap2_A34_Q.symm⟩⟩, hmv gA_A34 ap_A34_bw ap_A34_be ap_A34_ig, hmv gA_Q ap_Q_bw ap_Q_be ap_Q_ig, hF⟩
set_option maxRecDepth 100000 in
set_option maxHeartbeats 4000000 in
theorem ack_ok {w : World} {bw be bh bi ig cap r : Nat} {o : Int} {sh : Sh} {asks : Int} {kind : Int} {waits : Int} {told : Bool} {q : List Msg} {Q : Option Addr} {qc : Nat} {A : Option Addr} {ac : Nat} {out : List Msg} {bs : List UInt8} (m : Msg) (R : WorkR w bw be bh bi ig cap r m.line (Ent.mk o sh true asks kind waits told q) Q qc A ac out bs) (hlen : out.length + 8 ≤ 1000000) (hsrc : 0 ≤ m.src ∧ m.src < 4) (hask : 0 ≤ asks ∧ asks < 4) (hk : m.kind = 12) (hw : 0 < waits ∧ waits ≤ 4) (ho : o < 0) (hg : sh.get m.src = true) (hne : m.src ≠ asks) : Calls Try.prog 34 #[.pointer (some ⟨bw, 0, none⟩), .agg (msgE.arr m)] w (Ret fun v w' => v = .tuple #[] ∧ HRet w w' bw be bh bi ig cap r m.line Q A out (otherF bs (Ent.mk o sh true asks kind waits told q) m)) := by
 obtain ⟨hW, hE, hH, hI, hQ, hO, hS⟩ := R
 have ne_bw_be := hS.ne_bw_be
 have ne_bw_bh := hS.ne_bw_bh
 have ne_bw_bi := hS.ne_bw_bi
 have ne_bw_ig := hS.ne_bw_ig
 have ne_be_bh := hS.ne_be_bh
 have ne_be_bi := hS.ne_be_bi
 have ne_be_ig := hS.ne_be_ig
 have ne_bh_bi := hS.ne_bh_bi
 have ne_bh_ig := hS.ne_bh_ig
 have ne_bi_ig := hS.ne_bi_ig
 have ap_Q_bw := hS.ap_Q_bw
 have ap_Q_be := hS.ap_Q_be
 have ap_Q_bh := hS.ap_Q_bh
 have ap_Q_bi := hS.ap_Q_bi
 have ap_Q_ig := hS.ap_Q_ig
 have ap_A_bw := hS.ap_A_bw
 have ap_A_be := hS.ap_A_be
 have ap_A_bh := hS.ap_A_bh
 have ap_A_bi := hS.ap_A_bi
 have ap_A_ig := hS.ap_A_ig
 have ap2_Q_A := hS.ap2_Q_A
 have gA_A : ∀ g, inA A g → (g = bw ∨ g = be ∨ g = ig ∨ inA A g ∨ inA Q g) ∨ w.heap.size ≤ g := fun g hg => .inl (.inr (.inr (.inr (.inl hg))))
 have hmn := m.hn
 have gA_Q : ∀ g, inA Q g → (g = bw ∨ g = be ∨ g = ig ∨ inA A g ∨ inA Q g) ∨ w.heap.size ≤ g := fun g hg => .inl (.inr (.inr (.inr (.inr hg))))
 have hF := Only.refl (fun k => k = bw ∨ k = be ∨ k = ig ∨ inA A k ∨ inA Q k) w
 refine Zen 85 Try.func34 ?_
 refine Zsr ?_
 refine Znb (cs := msgE.arr m) fun b1 w2 hN3 B4 hb5 => ?_
 have ne_be_b1 : NE be b1 := NE.mk (Nat.lt_of_lt_of_le hE.lt hb5)
 refine Znn ?_
 refine Zsq ?_
 refine Zhd (n := 52) (fun w => Blk w bw 82 #[.slice A out.length ac, .pointer (some ⟨be, 0, none⟩), .pointer (some ⟨bh, 0, none⟩), .int .u32 m.line] ∧ Blk w be 42 (entA (Ent.mk o sh true asks kind waits told q) (.slice Q q.length qc)) ∧ Blk w b1 36 (msgE.arr m) ∧ True) ?_
 intro w6 hN7
 replace hW := (hW.new hN3).new hN7
 replace hE := (hE.new hN3).new hN7
 replace B4 := B4.new hN7
 have hS9 := And.intro hW (And.intro hE (And.intro B4 trivial))
 refine Zhm 0 hS9 ?_
 refine Zhc 1 hS9 ?_
 refine Zhf 2 fo82_1 hS9 ?_
 refine Zhl 3 pl78 hS9 (fun _ ⟨hW, _⟩ => (hW.cell 1 rfl)) ?_
 refine Zhc 4 hS9 ?_
 refine Zhf 5 fo42_2 hS9 ?_
 refine Zhl (v := .bool true) 6 pl4 hS9 (fun _ ⟨_, hE, _⟩ => (hE.cell 5 rfl)) ?_
 refine Zhm 7 hS9 ?_
 refine Zhm 8 hS9 ?_
 refine Zhc 9 hS9 ?_
 refine Zhf 10 fo82_1 hS9 ?_
 refine Zhl 11 pl78 hS9 (fun _ ⟨hW, _⟩ => (hW.cell 1 rfl)) ?_
 refine Zhc 12 hS9 ?_
 refine Zhf 13 fo42_5 hS9 ?_
 refine Zhl (v := .int .i64 waits) 14 pl3 hS9 (fun _ ⟨_, hE, _⟩ => (hE.cell 8 rfl)) ?_
 refine Zht 15 rfl (.bool true) hS9 (fun _ fr _ _ => x_gtr rfl (fr.ev rfl) rfl (decide_eq_true hw.1)) ?_
 refine Zht 16 rfl (.bool true) hS9 (fun _ fr _ _ => x_pick_t rfl (fr.ev rfl) (fr.ev rfl)) ?_
 refine Zhm 17 hS9 ?_
 refine Zhm 18 hS9 ?_
 refine Zhc 19 hS9 ?_
 refine Zhf 20 fo82_1 hS9 ?_
 refine Zhl 21 pl78 hS9 (fun _ ⟨hW, _⟩ => (hW.cell 1 rfl)) ?_
 refine Zhc 22 hS9 ?_
 refine Zhf 23 fo42_0 hS9 ?_
 refine Zhl (v := .int .i64 o) 24 pl3 hS9 (fun _ ⟨_, hE, _⟩ => (hE.cell 0 rfl)) ?_
 refine Zht 25 rfl (.bool true) hS9 (fun _ fr _ _ => x_lss rfl (fr.ev rfl) rfl (decide_eq_true ho)) ?_
 refine Zht 26 rfl (.bool true) hS9 (fun _ fr _ _ => x_pick_t rfl (fr.ev rfl) (fr.ev rfl)) ?_
 refine Zhm 27 hS9 ?_
 refine Zhm 28 hS9 ?_
 refine Zhc 29 hS9 ?_
 refine Zhf 30 fo82_1 hS9 ?_
 refine Zhl 31 pl78 hS9 (fun _ ⟨hW, _⟩ => (hW.cell 1 rfl)) ?_
 refine Zhf 32 fo36_1 hS9 ?_
 refine Zhl (v := .int .i64 m.src) 33 pl3 hS9 (fun _ ⟨_, _, B4, _⟩ => (B4.cell 1 rfl)) ?_
 refine Zhc 34 hS9 ?_
 refine Zhf 35 fo42_1 hS9 ?_
 refine Zht 36 rfl (.pointer (some ⟨be, 1 + m.src.toNat, none⟩)) hS9 (fun _ fr _ _ => x_indexArr Try.underlying40 sz4 rfl (fr.ev rfl) ((fr.ev rfl).trans (int_nat _ m.src (by omega))) (by omega) (by omega)) ?_
 refine Zhl (v := .bool true) 37 pl4 hS9 (fun _ ⟨_, hE, _⟩ => ((hE.cell _ (ent_sh _ _ m.src (by omega) (by omega))).trans (by rw [hg]))) ?_
 refine Zht 38 rfl (.bool true) hS9 (fun _ fr _ _ => x_pick_t rfl (fr.ev rfl) (fr.ev rfl)) ?_
 refine Zhm 39 hS9 ?_
 refine Zhf 40 fo36_1 hS9 ?_
 refine Zhl (v := .int .i64 m.src) 41 pl3 hS9 (fun _ ⟨_, _, B4, _⟩ => (B4.cell 1 rfl)) ?_
 refine Zhm 42 hS9 ?_
 refine Zhc 43 hS9 ?_
 refine Zhf 44 fo82_1 hS9 ?_
 refine Zhl 45 pl78 hS9 (fun _ ⟨hW, _⟩ => (hW.cell 1 rfl)) ?_
 refine Zhc 46 hS9 ?_
 refine Zhf 47 fo42_3 hS9 ?_
 refine Zhl (v := .int .i64 asks) 48 pl3 hS9 (fun _ ⟨_, hE, _⟩ => (hE.cell 6 rfl)) ?_
 refine Zht 49 rfl (.bool true) hS9 (fun _ fr _ _ => x_neq rfl (fr.ev rfl) (fr.ev rfl) (decide_eq_true hne)) ?_
 refine Zht 50 rfl (.bool true) hS9 (fun _ fr _ _ => x_pick_t rfl (fr.ev rfl) (fr.ev rfl)) ?_
 refine Zh1 51 ?_
 refine Zk cf49 (must_ok 220 _) ?_
 rintro v w9 ⟨rfl, hw9⟩
 obtain rfl := hw9.symm
 refine Zhb ⟨hW, hE, B4, trivial⟩ ?_
 refine Zhn ?_
 refine Znx ?_
 refine Zsq ?_
 refine Zhd (n := 10) (fun w => Blk w bw 82 #[.slice A out.length ac, .pointer (some ⟨be, 0, none⟩), .pointer (some ⟨bh, 0, none⟩), .int .u32 m.line] ∧ Blk w b1 36 (msgE.arr m) ∧ True) ?_
 intro w10 hN11
 replace hW := hW.new hN11
 replace B4 := B4.new hN11
 have hS9 := And.intro hW (And.intro B4 trivial)
 refine Zhm 0 hS9 ?_
 refine Zhc 1 hS9 ?_
 refine Zhf 2 fo82_1 hS9 ?_
 refine Zhl 3 pl78 hS9 (fun _ ⟨hW, _⟩ => (hW.cell 1 rfl)) ?_
 refine Zhf 4 fo36_1 hS9 ?_
 refine Zhl (v := .int .i64 m.src) 5 pl3 hS9 (fun _ ⟨_, B4, _⟩ => (B4.cell 1 rfl)) ?_
 refine Zhc 6 hS9 ?_
 refine Zhf 7 fo42_1 hS9 ?_
 refine Zht 8 rfl (.pointer (some ⟨be, 1 + m.src.toNat, none⟩)) hS9 (fun _ fr _ _ => x_indexArr Try.underlying40 sz4 rfl (fr.ev rfl) ((fr.ev rfl).trans (int_nat _ m.src (by omega))) (by omega) (by omega)) ?_
 refine Zh1 9 ?_
 replace hE := hE.new hN11
 refine Zs1 (cs' := entA ({ (Ent.mk o sh true asks kind waits told q) with sh := sh.set m.src false }) (.slice Q q.length qc)) sz4 hE (show 1 + m.src.toNat < 11 by omega) (ent_setSh _ _ m.src _ (by omega) (by omega)) fun w12 hO13 hBq => ?_
 replace hE := hBq
 clear hBq
 replace hW := hW.only hO13 ne_bw_be
 replace B4 := B4.only hO13 ne_be_b1.symm
 refine Zhb ⟨hW, B4, trivial⟩ ?_
 refine Zhn ?_
 refine Znx ?_
 refine Zsr ?_
 refine Zm ?_
 refine Zn ?_
 refine Zf fo82_1 ?_
 refine Zd pl78 (hW.cell 1 rfl) ?_
 refine Zn ?_
 refine Zf fo42_5 ?_
 refine Zd (v := .int .i64 waits) pl3 (hE.cell 8 rfl) ?_
 refine Zv _ (fun _ fr => x_sub rfl (fr.ev rfl) rfl (i64w (r := waits - 1) (by omega) (by omega))) ?_
 refine Zn ?_
 refine Zf fo42_5 ?_
 refine Zs1 (cs' := entA ({ { (Ent.mk o sh true asks kind waits told q) with sh := sh.set m.src false } with waits := waits - 1 }) (.slice Q q.length qc)) sz3 hE (show 8 < 11 by decide) rfl fun w14 hO15 hBq => ?_
 replace hE := hBq
 clear hBq
 refine Znn ?_
 refine Zsr ?_
 refine Zm ?_
 refine Zn ?_
 refine Zf fo82_1 ?_
 replace hW := hW.only hO15 ne_bw_be
 refine Zd pl78 (hW.cell 1 rfl) ?_
 refine Zn ?_
 refine Zf fo42_5 ?_
 refine Zd (v := .int .i64 (waits - 1)) pl3 (hE.cell 8 rfl) ?_
 refine Zv _ (fun _ fr => x_eql rfl (fr.ev rfl) rfl rfl) ?_
 refine Znn ?_
 refine Zcd (fun hc16 => ?_) (fun hc16 => ?_)
 ·have hc16 := of_decide_eq_true hc16
  refine Zrg ?_
  refine Zm ?_
  replace hH := ((((hH.new hN3).new hN7).new hN11).only hO13 ne_be_bh.symm).only hO15 ne_be_bh.symm
  replace hI := ((((hI.new hN3).new hN7).new hN11).only hO13 ne_be_bi.symm ne_be_ig.symm).only hO15 ne_be_bi.symm ne_be_ig.symm
  replace hQ := ((((hQ.new hN3).new hN7).new hN11).only hO13 (Apart.ne1 ap_Q_be)).only hO15 (Apart.ne1 ap_Q_be)
  replace hO := ((((hO.new hN3).new hN7).new hN11).only hO13 (Apart.ne1 ap_A_be)).only hO15 (Apart.ne1 ap_A_be)
  refine Zk (args := #[.pointer (some ⟨bw, 0, none⟩)]) cf51 (write_c ⟨hW, hE, hH, hI, hQ, hO, ⟨ne_bw_be, ne_bw_bh, ne_bw_bi, ne_bw_ig, ne_be_bh, ne_be_bi, ne_be_ig, ne_bh_bi, ne_bh_ig, ne_bi_ig, ap_Q_bw, ap_Q_be, ap_Q_bh, ap_Q_bi, ap_Q_ig, ap_A_bw, ap_A_be, ap_A_bh, ap_A_bi, ap_A_ig, ap2_Q_A⟩⟩ m.hn (by first | omega | (simp only [List.length_append, List.length_cons, List.length_nil, List.length_map, List.length_take]; omega))) ?_
  rintro v w22 ⟨rfl, A17, ac18, R19, mv20, hN23⟩
  replace hF := ((((hF.trNew hN3).trNew hN7).trNew hN11).loc hO13 (.inl (.inr (.inl rfl)))).loc hO15 (.inl (.inr (.inl rfl)))
  have gA_A17 := gA_moved hF mv20 gA_A
  clear hW hE hH hI hQ hO
  obtain ⟨hW, hE, hH, hI, hQ, O21, hS⟩ := R19
  have ap_A17_bw := hS.ap_A_bw
  have ap_A17_be := hS.ap_A_be
  have ap_A17_bh := hS.ap_A_bh
  have ap_A17_bi := hS.ap_A_bi
  have ap_A17_ig := hS.ap_A_ig
  have ap2_Q_A17 := hS.ap2_Q_A
  refine Znl ?_
  refine Zee rfl [] trivial ?_
  rw [other_a1 hk (show waits = 1 by omega)]
  rw [show waits - 1 = 0 from hc16] at hE
  replace hF := hF.locS hN23 (fun i => (fun h => h.elim (fun e => by rw [e]; exact (.inl (.inl rfl))) (fun h => h.elim (fun e => by rw [e]; exact (.inl (.inr (.inl rfl)))) (fun h => h.elim (fun e => by rw [e]; exact (.inl (.inr (.inr (.inl rfl))))) (fun h => gA_A i h)))))
  exact ⟨_, rfl, rfl, Q, qc, A17, ac18, ⟨hW, hE, hH, hI, hQ, O21, ⟨ne_bw_be, ne_bw_bh, ne_bw_bi, ne_bw_ig, ne_be_bh, ne_be_bi, ne_be_ig, ne_bh_bi, ne_bh_ig, ne_bi_ig, ap_Q_bw, ap_Q_be, ap_Q_bh, ap_Q_bi, ap_Q_ig, ap_A17_bw, ap_A17_be, ap_A17_bh, ap_A17_bi, ap_A17_ig, ap2_Q_A17⟩⟩, hmv gA_A17 ap_A17_bw ap_A17_be ap_A17_ig, hmv gA_Q ap_Q_bw ap_Q_be ap_Q_ig, hF⟩
 ·have hc16 := of_decide_eq_false hc16
  refine Zsk ?_
  refine Zee rfl [] trivial ?_
  rw [other_a2 hk (show ¬ waits = 1 by omega)]
  refine ⟨_, rfl, rfl, ?_⟩
  unfold HRet
  rw [List.append_nil]
  replace hH := ((((hH.new hN3).new hN7).new hN11).only hO13 ne_be_bh.symm).only hO15 ne_be_bh.symm
  replace hI := ((((hI.new hN3).new hN7).new hN11).only hO13 ne_be_bi.symm ne_be_ig.symm).only hO15 ne_be_bi.symm ne_be_ig.symm
  replace hQ := ((((hQ.new hN3).new hN7).new hN11).only hO13 (Apart.ne1 ap_Q_be)).only hO15 (Apart.ne1 ap_Q_be)
  replace hO := ((((hO.new hN3).new hN7).new hN11).only hO13 (Apart.ne1 ap_A_be)).only hO15 (Apart.ne1 ap_A_be)
  replace hF := ((((hF.trNew hN3).trNew hN7).trNew hN11).loc hO13 (.inl (.inr (.inl rfl)))).loc hO15 (.inl (.inr (.inl rfl)))
  exact ⟨Q, qc, A, ac, ⟨hW, hE, hH, hI, hQ, hO, ⟨ne_bw_be, ne_bw_bh, ne_bw_bi, ne_bw_ig, ne_be_bh, ne_be_bi, ne_be_ig, ne_bh_bi, ne_bh_ig, ne_bi_ig, ap_Q_bw, ap_Q_be, ap_Q_bh, ap_Q_bi, ap_Q_ig, ap_A_bw, ap_A_be, ap_A_bh, ap_A_bi, ap_A_ig, ap2_Q_A⟩⟩, hmv gA_A ap_A_bw ap_A_be ap_A_ig, hmv gA_Q ap_Q_bw ap_Q_be ap_Q_ig, hF⟩
set_option maxRecDepth 100000 in
set_option maxHeartbeats 4000000 in
theorem back_no {w : World} {bw be bh bi ig cap r : Nat} {d : Ent} {Q : Option Addr} {qc : Nat} {A : Option Addr} {ac : Nat} {out : List Msg} {bs : List UInt8} (m : Msg) (R : WorkR w bw be bh bi ig cap r m.line d Q qc A ac out bs) (hlen : out.length + 8 ≤ 1000000) (hsrc : 0 ≤ m.src ∧ m.src < 4) (hk : m.kind = 11) (hs : strayF d m = true) : Calls Try.prog 33 #[.pointer (some ⟨bw, 0, none⟩), .agg (msgE.arr m)] w (Pan fun c w' => c = stopE 220 ∧ New w w') := by
 obtain ⟨hW, hE, hH, hI, hQ, hO, hS⟩ := R
 have hmn := m.hn
 have hF := Only.refl (fun _ => False) w
 refine Zen 104 Try.func33 ?_
 refine Zsr ?_
 refine Znb (cs := msgE.arr m) fun b1 w2 hN3 B4 hb5 => ?_
 refine Znn ?_
 refine Zsq ?_
 refine Zhd (n := 30) (fun w => Blk w bw 82 #[.slice A out.length ac, .pointer (some ⟨be, 0, none⟩), .pointer (some ⟨bh, 0, none⟩), .int .u32 m.line] ∧ Blk w be 42 (entA d (.slice Q d.q.length qc)) ∧ Blk w b1 36 (msgE.arr m) ∧ True) ?_
 intro w6 hN7
 replace hW := (hW.new hN3).new hN7
 replace hE := (hE.new hN3).new hN7
 replace B4 := B4.new hN7
 have hS9 := And.intro hW (And.intro hE (And.intro B4 trivial))
 refine Zhm 0 hS9 ?_
 refine Zhc 1 hS9 ?_
 refine Zhf 2 fo82_1 hS9 ?_
 refine Zhl 3 pl78 hS9 (fun _ ⟨hW, _⟩ => (hW.cell 1 rfl)) ?_
 refine Zhc 4 hS9 ?_
 refine Zhf 5 fo42_2 hS9 ?_
 refine Zhl (v := .bool d.busy) 6 pl4 hS9 (fun _ ⟨_, hE, _⟩ => (hE.cell 5 rfl)) ?_
 refine Zhm 7 hS9 ?_
 refine Zhy 8 rfl d.busy (.pointer (some ⟨bw, 0, none⟩)) hS9 (fun _ fr _ _ _ => x_move rfl (fr.ev rfl)) ?_
 refine Zhy 9 rfl d.busy (.pointer (some ⟨bw, 0, none⟩)) hS9 (fun _ fr hg _ _ => x_nilCheck rfl ((fr.ev rfl).trans (onlyIf_t hg))) ?_
 refine Zhy 10 rfl d.busy (.pointer (some ⟨bw, 1, none⟩)) hS9 (fun _ fr hg _ _ => x_fieldAddr fo82_1 rfl ((fr.ev rfl).trans (onlyIf_t hg)) rfl) ?_
 refine Zhy 11 rfl d.busy (.pointer (some ⟨be, 0, none⟩)) hS9 (fun _ fr hg _ ⟨hW, _⟩ => x_load1 pl78 rfl ((fr.ev rfl).trans (onlyIf_t hg)) (hW.cell 1 rfl)) ?_
 refine Zhy 12 rfl d.busy (.pointer (some ⟨be, 0, none⟩)) hS9 (fun _ fr hg _ _ => x_nilCheck rfl ((fr.ev rfl).trans (onlyIf_t hg))) ?_
 refine Zhy 13 rfl d.busy (.pointer (some ⟨be, 8, none⟩)) hS9 (fun _ fr hg _ _ => x_fieldAddr fo42_5 rfl ((fr.ev rfl).trans (onlyIf_t hg)) rfl) ?_
 refine Zhy 14 rfl d.busy (.int .i64 d.waits) hS9 (fun _ fr hg _ ⟨_, hE, _⟩ => x_load1 pl3 rfl ((fr.ev rfl).trans (onlyIf_t hg)) (hE.cell 8 rfl)) ?_
 refine Zhy 15 rfl d.busy (.bool (decide (0 < d.waits))) hS9 (fun _ fr hg _ _ => x_gtr rfl ((fr.ev rfl).trans (onlyIf_t hg)) rfl rfl) ?_
 refine Zht 16 rfl (.bool (d.busy && (decide (0 < d.waits)))) hS9 (fun _ fr _ _ => x_pick_and rfl (fr.ev rfl) (fun hb => ((fr.ev rfl)).trans (onlyIf_t (by simp_all))) (fun _ => rfl) rfl) ?_
 refine Zhm 17 hS9 ?_
 refine Zhy 18 rfl (d.busy && (decide (0 < d.waits))) (.pointer (some ⟨bw, 0, none⟩)) hS9 (fun _ fr _ _ _ => x_move rfl (fr.ev rfl)) ?_
 refine Zhy 19 rfl (d.busy && (decide (0 < d.waits))) (.pointer (some ⟨bw, 0, none⟩)) hS9 (fun _ fr hg _ _ => x_nilCheck rfl ((fr.ev rfl).trans (onlyIf_t hg))) ?_
 refine Zhy 20 rfl (d.busy && (decide (0 < d.waits))) (.pointer (some ⟨bw, 1, none⟩)) hS9 (fun _ fr hg _ _ => x_fieldAddr fo82_1 rfl ((fr.ev rfl).trans (onlyIf_t hg)) rfl) ?_
 refine Zhy 21 rfl (d.busy && (decide (0 < d.waits))) (.pointer (some ⟨be, 0, none⟩)) hS9 (fun _ fr hg _ ⟨hW, _⟩ => x_load1 pl78 rfl ((fr.ev rfl).trans (onlyIf_t hg)) (hW.cell 1 rfl)) ?_
 refine Zhy 22 rfl (d.busy && (decide (0 < d.waits))) (.pointer (some ⟨be, 0, none⟩)) hS9 (fun _ fr hg _ _ => x_nilCheck rfl ((fr.ev rfl).trans (onlyIf_t hg))) ?_
 refine Zhy 23 rfl (d.busy && (decide (0 < d.waits))) (.pointer (some ⟨be, 0, none⟩)) hS9 (fun _ fr hg _ _ => x_fieldAddr fo42_0 rfl ((fr.ev rfl).trans (onlyIf_t hg)) rfl) ?_
 refine Zhy 24 rfl (d.busy && (decide (0 < d.waits))) (.int .i64 d.o) hS9 (fun _ fr hg _ ⟨_, hE, _⟩ => x_load1 pl3 rfl ((fr.ev rfl).trans (onlyIf_t hg)) (hE.cell 0 rfl)) ?_
 refine Zhy 25 rfl (d.busy && (decide (0 < d.waits))) (.pointer (some ⟨b1, 1, none⟩)) hS9 (fun _ fr _ _ _ => x_fieldAddr fo36_1 rfl (fr.ev rfl) rfl) ?_
 refine Zhy 26 rfl (d.busy && (decide (0 < d.waits))) (.int .i64 m.src) hS9 (fun _ fr hg _ ⟨_, _, B4, _⟩ => x_load1 pl3 rfl ((fr.ev rfl).trans (onlyIf_t hg)) (B4.cell 1 rfl)) ?_
 refine Zhy 27 rfl (d.busy && (decide (0 < d.waits))) (.bool (decide (d.o = m.src))) hS9 (fun _ fr hg _ _ => x_eql rfl ((fr.ev rfl).trans (onlyIf_t hg)) ((fr.ev rfl).trans (onlyIf_t hg)) rfl) ?_
 refine Zht 28 rfl (.bool ((d.busy && (decide (0 < d.waits))) && (decide (d.o = m.src)))) hS9 (fun _ fr _ _ => x_pick_and rfl (fr.ev rfl) (fun hb => ((fr.ev rfl)).trans (onlyIf_t (by simp_all))) (fun _ => rfl) rfl) ?_
 refine Zh1 29 ?_
 intro a fr
 refine fx_callp rfl (x_call (vs := [.bool ((d.busy && (decide (0 < d.waits))) && (decide (d.o = m.src))), .int .i64 220]) rfl rfl ⟨(fr.ev rfl), rfl, trivial⟩ Try.func49 nm49 rfl) (must_nob (back_nob hk hs) 220 _) ?_
 rintro _ _ ⟨rfl, rfl⟩
 refine Zhp ?_
 refine fx_pt ?_
 refine fx_pend fr ?_
 replace hF := (hF.trNew hN3).trNew hN7
 exact ⟨_, rfl, rfl, hF⟩
set_option maxRecDepth 100000 in
set_option maxHeartbeats 4000000 in
theorem ack_no {w : World} {bw be bh bi ig cap r : Nat} {d : Ent} {Q : Option Addr} {qc : Nat} {A : Option Addr} {ac : Nat} {out : List Msg} {bs : List UInt8} (m : Msg) (R : WorkR w bw be bh bi ig cap r m.line d Q qc A ac out bs) (hlen : out.length + 8 ≤ 1000000) (hsrc : 0 ≤ m.src ∧ m.src < 4) (hk : m.kind = 12) (hs : strayF d m = true) : Calls Try.prog 34 #[.pointer (some ⟨bw, 0, none⟩), .agg (msgE.arr m)] w (Pan fun c w' => c = stopE 220 ∧ New w w') := by
 obtain ⟨hW, hE, hH, hI, hQ, hO, hS⟩ := R
 have hmn := m.hn
 have hF := Only.refl (fun _ => False) w
 refine Zen 85 Try.func34 ?_
 refine Zsr ?_
 refine Znb (cs := msgE.arr m) fun b1 w2 hN3 B4 hb5 => ?_
 refine Znn ?_
 refine Zsq ?_
 refine Zhd (n := 52) (fun w => Blk w bw 82 #[.slice A out.length ac, .pointer (some ⟨be, 0, none⟩), .pointer (some ⟨bh, 0, none⟩), .int .u32 m.line] ∧ Blk w be 42 (entA d (.slice Q d.q.length qc)) ∧ Blk w b1 36 (msgE.arr m) ∧ True) ?_
 intro w6 hN7
 replace hW := (hW.new hN3).new hN7
 replace hE := (hE.new hN3).new hN7
 replace B4 := B4.new hN7
 have hS9 := And.intro hW (And.intro hE (And.intro B4 trivial))
 refine Zhm 0 hS9 ?_
 refine Zhc 1 hS9 ?_
 refine Zhf 2 fo82_1 hS9 ?_
 refine Zhl 3 pl78 hS9 (fun _ ⟨hW, _⟩ => (hW.cell 1 rfl)) ?_
 refine Zhc 4 hS9 ?_
 refine Zhf 5 fo42_2 hS9 ?_
 refine Zhl (v := .bool d.busy) 6 pl4 hS9 (fun _ ⟨_, hE, _⟩ => (hE.cell 5 rfl)) ?_
 refine Zhm 7 hS9 ?_
 refine Zhy 8 rfl d.busy (.pointer (some ⟨bw, 0, none⟩)) hS9 (fun _ fr _ _ _ => x_move rfl (fr.ev rfl)) ?_
 refine Zhy 9 rfl d.busy (.pointer (some ⟨bw, 0, none⟩)) hS9 (fun _ fr hg _ _ => x_nilCheck rfl ((fr.ev rfl).trans (onlyIf_t hg))) ?_
 refine Zhy 10 rfl d.busy (.pointer (some ⟨bw, 1, none⟩)) hS9 (fun _ fr hg _ _ => x_fieldAddr fo82_1 rfl ((fr.ev rfl).trans (onlyIf_t hg)) rfl) ?_
 refine Zhy 11 rfl d.busy (.pointer (some ⟨be, 0, none⟩)) hS9 (fun _ fr hg _ ⟨hW, _⟩ => x_load1 pl78 rfl ((fr.ev rfl).trans (onlyIf_t hg)) (hW.cell 1 rfl)) ?_
 refine Zhy 12 rfl d.busy (.pointer (some ⟨be, 0, none⟩)) hS9 (fun _ fr hg _ _ => x_nilCheck rfl ((fr.ev rfl).trans (onlyIf_t hg))) ?_
 refine Zhy 13 rfl d.busy (.pointer (some ⟨be, 8, none⟩)) hS9 (fun _ fr hg _ _ => x_fieldAddr fo42_5 rfl ((fr.ev rfl).trans (onlyIf_t hg)) rfl) ?_
 refine Zhy 14 rfl d.busy (.int .i64 d.waits) hS9 (fun _ fr hg _ ⟨_, hE, _⟩ => x_load1 pl3 rfl ((fr.ev rfl).trans (onlyIf_t hg)) (hE.cell 8 rfl)) ?_
 refine Zhy 15 rfl d.busy (.bool (decide (0 < d.waits))) hS9 (fun _ fr hg _ _ => x_gtr rfl ((fr.ev rfl).trans (onlyIf_t hg)) rfl rfl) ?_
 refine Zht 16 rfl (.bool (d.busy && (decide (0 < d.waits)))) hS9 (fun _ fr _ _ => x_pick_and rfl (fr.ev rfl) (fun hb => ((fr.ev rfl)).trans (onlyIf_t (by simp_all))) (fun _ => rfl) rfl) ?_
 refine Zhm 17 hS9 ?_
 refine Zhy 18 rfl (d.busy && (decide (0 < d.waits))) (.pointer (some ⟨bw, 0, none⟩)) hS9 (fun _ fr _ _ _ => x_move rfl (fr.ev rfl)) ?_
 refine Zhy 19 rfl (d.busy && (decide (0 < d.waits))) (.pointer (some ⟨bw, 0, none⟩)) hS9 (fun _ fr hg _ _ => x_nilCheck rfl ((fr.ev rfl).trans (onlyIf_t hg))) ?_
 refine Zhy 20 rfl (d.busy && (decide (0 < d.waits))) (.pointer (some ⟨bw, 1, none⟩)) hS9 (fun _ fr hg _ _ => x_fieldAddr fo82_1 rfl ((fr.ev rfl).trans (onlyIf_t hg)) rfl) ?_
 refine Zhy 21 rfl (d.busy && (decide (0 < d.waits))) (.pointer (some ⟨be, 0, none⟩)) hS9 (fun _ fr hg _ ⟨hW, _⟩ => x_load1 pl78 rfl ((fr.ev rfl).trans (onlyIf_t hg)) (hW.cell 1 rfl)) ?_
 refine Zhy 22 rfl (d.busy && (decide (0 < d.waits))) (.pointer (some ⟨be, 0, none⟩)) hS9 (fun _ fr hg _ _ => x_nilCheck rfl ((fr.ev rfl).trans (onlyIf_t hg))) ?_
 refine Zhy 23 rfl (d.busy && (decide (0 < d.waits))) (.pointer (some ⟨be, 0, none⟩)) hS9 (fun _ fr hg _ _ => x_fieldAddr fo42_0 rfl ((fr.ev rfl).trans (onlyIf_t hg)) rfl) ?_
 refine Zhy 24 rfl (d.busy && (decide (0 < d.waits))) (.int .i64 d.o) hS9 (fun _ fr hg _ ⟨_, hE, _⟩ => x_load1 pl3 rfl ((fr.ev rfl).trans (onlyIf_t hg)) (hE.cell 0 rfl)) ?_
 refine Zhy 25 rfl (d.busy && (decide (0 < d.waits))) (.bool (decide (d.o < 0))) hS9 (fun _ fr hg _ _ => x_lss rfl ((fr.ev rfl).trans (onlyIf_t hg)) rfl rfl) ?_
 refine Zht 26 rfl (.bool ((d.busy && (decide (0 < d.waits))) && (decide (d.o < 0)))) hS9 (fun _ fr _ _ => x_pick_and rfl (fr.ev rfl) (fun hb => ((fr.ev rfl)).trans (onlyIf_t (by simp_all))) (fun _ => rfl) rfl) ?_
 refine Zhm 27 hS9 ?_
 refine Zhy 28 rfl ((d.busy && (decide (0 < d.waits))) && (decide (d.o < 0))) (.pointer (some ⟨bw, 0, none⟩)) hS9 (fun _ fr _ _ _ => x_move rfl (fr.ev rfl)) ?_
 refine Zhy 29 rfl ((d.busy && (decide (0 < d.waits))) && (decide (d.o < 0))) (.pointer (some ⟨bw, 0, none⟩)) hS9 (fun _ fr hg _ _ => x_nilCheck rfl ((fr.ev rfl).trans (onlyIf_t hg))) ?_
 refine Zhy 30 rfl ((d.busy && (decide (0 < d.waits))) && (decide (d.o < 0))) (.pointer (some ⟨bw, 1, none⟩)) hS9 (fun _ fr hg _ _ => x_fieldAddr fo82_1 rfl ((fr.ev rfl).trans (onlyIf_t hg)) rfl) ?_
 refine Zhy 31 rfl ((d.busy && (decide (0 < d.waits))) && (decide (d.o < 0))) (.pointer (some ⟨be, 0, none⟩)) hS9 (fun _ fr hg _ ⟨hW, _⟩ => x_load1 pl78 rfl ((fr.ev rfl).trans (onlyIf_t hg)) (hW.cell 1 rfl)) ?_
 refine Zhy 32 rfl ((d.busy && (decide (0 < d.waits))) && (decide (d.o < 0))) (.pointer (some ⟨b1, 1, none⟩)) hS9 (fun _ fr _ _ _ => x_fieldAddr fo36_1 rfl (fr.ev rfl) rfl) ?_
 refine Zhy 33 rfl ((d.busy && (decide (0 < d.waits))) && (decide (d.o < 0))) (.int .i64 m.src) hS9 (fun _ fr hg _ ⟨_, _, B4, _⟩ => x_load1 pl3 rfl ((fr.ev rfl).trans (onlyIf_t hg)) (B4.cell 1 rfl)) ?_
 refine Zhy 34 rfl ((d.busy && (decide (0 < d.waits))) && (decide (d.o < 0))) (.pointer (some ⟨be, 0, none⟩)) hS9 (fun _ fr hg _ _ => x_nilCheck rfl ((fr.ev rfl).trans (onlyIf_t hg))) ?_
 refine Zhy 35 rfl ((d.busy && (decide (0 < d.waits))) && (decide (d.o < 0))) (.pointer (some ⟨be, 1, none⟩)) hS9 (fun _ fr hg _ _ => x_fieldAddr fo42_1 rfl ((fr.ev rfl).trans (onlyIf_t hg)) rfl) ?_
 refine Zhy 36 rfl ((d.busy && (decide (0 < d.waits))) && (decide (d.o < 0))) (.pointer (some ⟨be, 1 + m.src.toNat, none⟩)) hS9 (fun _ fr hg _ _ => x_indexArr Try.underlying40 sz4 rfl ((fr.ev rfl).trans (onlyIf_t hg)) (((fr.ev rfl).trans (onlyIf_t hg)).trans (int_nat _ m.src (by omega))) (by omega) (by omega)) ?_
 refine Zhy 37 rfl ((d.busy && (decide (0 < d.waits))) && (decide (d.o < 0))) (.bool (d.sh.get m.src)) hS9 (fun _ fr hg _ ⟨_, hE, _⟩ => x_load1 pl4 rfl ((fr.ev rfl).trans (onlyIf_t hg)) (hE.cell _ (ent_sh _ _ m.src (by omega) (by omega)))) ?_
 refine Zht 38 rfl (.bool (((d.busy && (decide (0 < d.waits))) && (decide (d.o < 0))) && (d.sh.get m.src))) hS9 (fun _ fr _ _ => x_pick_and rfl (fr.ev rfl) (fun hb => ((fr.ev rfl)).trans (onlyIf_t (by simp_all))) (fun _ => rfl) rfl) ?_
 refine Zhm 39 hS9 ?_
 refine Zhy 40 rfl (((d.busy && (decide (0 < d.waits))) && (decide (d.o < 0))) && (d.sh.get m.src)) (.pointer (some ⟨b1, 1, none⟩)) hS9 (fun _ fr _ _ _ => x_fieldAddr fo36_1 rfl (fr.ev rfl) rfl) ?_
 refine Zhy 41 rfl (((d.busy && (decide (0 < d.waits))) && (decide (d.o < 0))) && (d.sh.get m.src)) (.int .i64 m.src) hS9 (fun _ fr hg _ ⟨_, _, B4, _⟩ => x_load1 pl3 rfl ((fr.ev rfl).trans (onlyIf_t hg)) (B4.cell 1 rfl)) ?_
 refine Zhy 42 rfl (((d.busy && (decide (0 < d.waits))) && (decide (d.o < 0))) && (d.sh.get m.src)) (.pointer (some ⟨bw, 0, none⟩)) hS9 (fun _ fr _ _ _ => x_move rfl (fr.ev rfl)) ?_
 refine Zhy 43 rfl (((d.busy && (decide (0 < d.waits))) && (decide (d.o < 0))) && (d.sh.get m.src)) (.pointer (some ⟨bw, 0, none⟩)) hS9 (fun _ fr hg _ _ => x_nilCheck rfl ((fr.ev rfl).trans (onlyIf_t hg))) ?_
 refine Zhy 44 rfl (((d.busy && (decide (0 < d.waits))) && (decide (d.o < 0))) && (d.sh.get m.src)) (.pointer (some ⟨bw, 1, none⟩)) hS9 (fun _ fr hg _ _ => x_fieldAddr fo82_1 rfl ((fr.ev rfl).trans (onlyIf_t hg)) rfl) ?_
 refine Zhy 45 rfl (((d.busy && (decide (0 < d.waits))) && (decide (d.o < 0))) && (d.sh.get m.src)) (.pointer (some ⟨be, 0, none⟩)) hS9 (fun _ fr hg _ ⟨hW, _⟩ => x_load1 pl78 rfl ((fr.ev rfl).trans (onlyIf_t hg)) (hW.cell 1 rfl)) ?_
 refine Zhy 46 rfl (((d.busy && (decide (0 < d.waits))) && (decide (d.o < 0))) && (d.sh.get m.src)) (.pointer (some ⟨be, 0, none⟩)) hS9 (fun _ fr hg _ _ => x_nilCheck rfl ((fr.ev rfl).trans (onlyIf_t hg))) ?_
 refine Zhy 47 rfl (((d.busy && (decide (0 < d.waits))) && (decide (d.o < 0))) && (d.sh.get m.src)) (.pointer (some ⟨be, 6, none⟩)) hS9 (fun _ fr hg _ _ => x_fieldAddr fo42_3 rfl ((fr.ev rfl).trans (onlyIf_t hg)) rfl) ?_
 refine Zhy 48 rfl (((d.busy && (decide (0 < d.waits))) && (decide (d.o < 0))) && (d.sh.get m.src)) (.int .i64 d.asks) hS9 (fun _ fr hg _ ⟨_, hE, _⟩ => x_load1 pl3 rfl ((fr.ev rfl).trans (onlyIf_t hg)) (hE.cell 6 rfl)) ?_
 refine Zhy 49 rfl (((d.busy && (decide (0 < d.waits))) && (decide (d.o < 0))) && (d.sh.get m.src)) (.bool (decide (m.src ≠ d.asks))) hS9 (fun _ fr hg _ _ => x_neq rfl ((fr.ev rfl).trans (onlyIf_t hg)) ((fr.ev rfl).trans (onlyIf_t hg)) rfl) ?_
 refine Zht 50 rfl (.bool ((((d.busy && (decide (0 < d.waits))) && (decide (d.o < 0))) && (d.sh.get m.src)) && (decide (m.src ≠ d.asks)))) hS9 (fun _ fr _ _ => x_pick_and rfl (fr.ev rfl) (fun hb => ((fr.ev rfl)).trans (onlyIf_t (by simp_all))) (fun _ => rfl) rfl) ?_
 refine Zh1 51 ?_
 intro a fr
 refine fx_callp rfl (x_call (vs := [.bool ((((d.busy && (decide (0 < d.waits))) && (decide (d.o < 0))) && (d.sh.get m.src)) && (decide (m.src ≠ d.asks))), .int .i64 220]) rfl rfl ⟨(fr.ev rfl), rfl, trivial⟩ Try.func49 nm49 rfl) (must_nob (ack_nob hk hs) 220 _) ?_
 rintro _ _ ⟨rfl, rfl⟩
 refine Zhp ?_
 refine fx_pt ?_
 refine fx_pend fr ?_
 replace hF := (hF.trNew hN3).trNew hN7
 exact ⟨_, rfl, rfl, hF⟩
set_option maxRecDepth 100000 in
set_option maxHeartbeats 4000000 in
theorem done_no {w : World} {bw be bh bi ig cap r : Nat} {d : Ent} {Q : Option Addr} {qc : Nat} {A : Option Addr} {ac : Nat} {out : List Msg} {bs : List UInt8} (m : Msg) (R : WorkR w bw be bh bi ig cap r m.line d Q qc A ac out bs) (hlen : out.length + 8 ≤ 1000000) (hsrc : 0 ≤ m.src ∧ m.src < 4) (hk : m.kind = 13) (hs : strayF d m = true) : Calls Try.prog 35 #[.pointer (some ⟨bw, 0, none⟩), .agg (msgE.arr m)] w (Pan fun c w' => c = stopE 220 ∧ New w w') := by
 obtain ⟨hW, hE, hH, hI, hQ, hO, hS⟩ := R
 have hmn := m.hn
 have hF := Only.refl (fun _ => False) w
 refine Zen 103 Try.func35 ?_
 refine Zsr ?_
 refine Znb (cs := msgE.arr m) fun b1 w2 hN3 B4 hb5 => ?_
 refine Znn ?_
 refine Zsq ?_
 refine Zhd (n := 29) (fun w => Blk w bw 82 #[.slice A out.length ac, .pointer (some ⟨be, 0, none⟩), .pointer (some ⟨bh, 0, none⟩), .int .u32 m.line] ∧ Blk w be 42 (entA d (.slice Q d.q.length qc)) ∧ Blk w b1 36 (msgE.arr m) ∧ True) ?_
 intro w6 hN7
 replace hW := (hW.new hN3).new hN7
 replace hE := (hE.new hN3).new hN7
 replace B4 := B4.new hN7
 have hS9 := And.intro hW (And.intro hE (And.intro B4 trivial))
 refine Zhm 0 hS9 ?_
 refine Zhc 1 hS9 ?_
 refine Zhf 2 fo82_1 hS9 ?_
 refine Zhl 3 pl78 hS9 (fun _ ⟨hW, _⟩ => (hW.cell 1 rfl)) ?_
 refine Zhc 4 hS9 ?_
 refine Zhf 5 fo42_2 hS9 ?_
 refine Zhl (v := .bool d.busy) 6 pl4 hS9 (fun _ ⟨_, hE, _⟩ => (hE.cell 5 rfl)) ?_
 refine Zhm 7 hS9 ?_
 refine Zhy 8 rfl d.busy (.pointer (some ⟨bw, 0, none⟩)) hS9 (fun _ fr _ _ _ => x_move rfl (fr.ev rfl)) ?_
 refine Zhy 9 rfl d.busy (.pointer (some ⟨bw, 0, none⟩)) hS9 (fun _ fr hg _ _ => x_nilCheck rfl ((fr.ev rfl).trans (onlyIf_t hg))) ?_
 refine Zhy 10 rfl d.busy (.pointer (some ⟨bw, 1, none⟩)) hS9 (fun _ fr hg _ _ => x_fieldAddr fo82_1 rfl ((fr.ev rfl).trans (onlyIf_t hg)) rfl) ?_
 refine Zhy 11 rfl d.busy (.pointer (some ⟨be, 0, none⟩)) hS9 (fun _ fr hg _ ⟨hW, _⟩ => x_load1 pl78 rfl ((fr.ev rfl).trans (onlyIf_t hg)) (hW.cell 1 rfl)) ?_
 refine Zhy 12 rfl d.busy (.pointer (some ⟨be, 0, none⟩)) hS9 (fun _ fr hg _ _ => x_nilCheck rfl ((fr.ev rfl).trans (onlyIf_t hg))) ?_
 refine Zhy 13 rfl d.busy (.pointer (some ⟨be, 9, none⟩)) hS9 (fun _ fr hg _ _ => x_fieldAddr fo42_6 rfl ((fr.ev rfl).trans (onlyIf_t hg)) rfl) ?_
 refine Zhy 14 rfl d.busy (.bool d.told) hS9 (fun _ fr hg _ ⟨_, hE, _⟩ => x_load1 pl4 rfl ((fr.ev rfl).trans (onlyIf_t hg)) (hE.cell 9 rfl)) ?_
 refine Zht 15 rfl (.bool (d.busy && d.told)) hS9 (fun _ fr _ _ => x_pick_and rfl (fr.ev rfl) (fun hb => ((fr.ev rfl)).trans (onlyIf_t (by simp_all))) (fun _ => rfl) rfl) ?_
 refine Zhm 16 hS9 ?_
 refine Zhy 17 rfl (d.busy && d.told) (.pointer (some ⟨bw, 0, none⟩)) hS9 (fun _ fr _ _ _ => x_move rfl (fr.ev rfl)) ?_
 refine Zhy 18 rfl (d.busy && d.told) (.pointer (some ⟨bw, 0, none⟩)) hS9 (fun _ fr hg _ _ => x_nilCheck rfl ((fr.ev rfl).trans (onlyIf_t hg))) ?_
 refine Zhy 19 rfl (d.busy && d.told) (.pointer (some ⟨bw, 1, none⟩)) hS9 (fun _ fr hg _ _ => x_fieldAddr fo82_1 rfl ((fr.ev rfl).trans (onlyIf_t hg)) rfl) ?_
 refine Zhy 20 rfl (d.busy && d.told) (.pointer (some ⟨be, 0, none⟩)) hS9 (fun _ fr hg _ ⟨hW, _⟩ => x_load1 pl78 rfl ((fr.ev rfl).trans (onlyIf_t hg)) (hW.cell 1 rfl)) ?_
 refine Zhy 21 rfl (d.busy && d.told) (.pointer (some ⟨be, 0, none⟩)) hS9 (fun _ fr hg _ _ => x_nilCheck rfl ((fr.ev rfl).trans (onlyIf_t hg))) ?_
 refine Zhy 22 rfl (d.busy && d.told) (.pointer (some ⟨be, 6, none⟩)) hS9 (fun _ fr hg _ _ => x_fieldAddr fo42_3 rfl ((fr.ev rfl).trans (onlyIf_t hg)) rfl) ?_
 refine Zhy 23 rfl (d.busy && d.told) (.int .i64 d.asks) hS9 (fun _ fr hg _ ⟨_, hE, _⟩ => x_load1 pl3 rfl ((fr.ev rfl).trans (onlyIf_t hg)) (hE.cell 6 rfl)) ?_
 refine Zhy 24 rfl (d.busy && d.told) (.pointer (some ⟨b1, 1, none⟩)) hS9 (fun _ fr _ _ _ => x_fieldAddr fo36_1 rfl (fr.ev rfl) rfl) ?_
 refine Zhy 25 rfl (d.busy && d.told) (.int .i64 m.src) hS9 (fun _ fr hg _ ⟨_, _, B4, _⟩ => x_load1 pl3 rfl ((fr.ev rfl).trans (onlyIf_t hg)) (B4.cell 1 rfl)) ?_
 refine Zhy 26 rfl (d.busy && d.told) (.bool (decide (d.asks = m.src))) hS9 (fun _ fr hg _ _ => x_eql rfl ((fr.ev rfl).trans (onlyIf_t hg)) ((fr.ev rfl).trans (onlyIf_t hg)) rfl) ?_
 refine Zht 27 rfl (.bool ((d.busy && d.told) && (decide (d.asks = m.src)))) hS9 (fun _ fr _ _ => x_pick_and rfl (fr.ev rfl) (fun hb => ((fr.ev rfl)).trans (onlyIf_t (by simp_all))) (fun _ => rfl) rfl) ?_
 refine Zh1 28 ?_
 intro a fr
 refine fx_callp rfl (x_call (vs := [.bool ((d.busy && d.told) && (decide (d.asks = m.src))), .int .i64 220]) rfl rfl ⟨(fr.ev rfl), rfl, trivial⟩ Try.func49 nm49 rfl) (must_nob (done_nob hk hs) 220 _) ?_
 rintro _ _ ⟨rfl, rfl⟩
 refine Zhp ?_
 refine fx_pt ?_
 refine fx_pend fr ?_
 replace hF := (hF.trNew hN3).trNew hN7
 exact ⟨_, rfl, rfl, hF⟩
end Go.Proofs.Ytdiaemlgghfecaa
namespace Go.Proofs.Ytdiaemlgghfecaa
open Go.RowKit
def QOk (n : Int) (x : Msg) : Prop := 1 ≤ x.kind ∧ x.kind ≤ 3 ∧ (0 ≤ x.src ∧ x.src < 4) ∧ x.line = n
theorem drain_stop {b : Bool} {l : List Msg} (h : (!b && decide (0 < ((l.length : Nat) : Int))) = false) : b = true ∨ l = [] := by
  cases b
  · right
    cases l with
    | nil => rfl
    | cons x r => simp at h
  · exact .inl rfl
theorem drain_go {b : Bool} {l : List Msg} (h : (!b && decide (0 < ((l.length : Nat) : Int))) = true) : b = false ∧ 0 < l.length := by
  cases b
  · simp at h
    exact ⟨rfl, by omega⟩
  · simp at h
theorem getD_in {l : List Msg} {i : Nat} (h : i < l.length) : l.getD i msg0 ∈ l := by
  simp [List.getD, h]
theorem begin_ql {bs : List UInt8} {d : Ent} {m x : Msg} (h : x ∈ (beginF bs { d with q := d.q.drop 1 } m).1.q) : x ∈ d.q := by
  rw [begin_q] at h
  exact List.mem_of_mem_drop h
theorem begin_qn {bs : List UInt8} {d : Ent} {m : Msg} : (beginF bs { d with q := d.q.drop 1 } m).1.q.length = d.q.length - 1 := by
  rw [begin_q]
  simp
set_option maxRecDepth 100000 in
set_option maxHeartbeats 4000000 in
theorem done_ok {w : World} {bw be bh bi ig cap r : Nat} {o : Int} {sh : Sh} {asks : Int} {kind : Int} {q : List Msg} {Q : Option Addr} {qc : Nat} {A : Option Addr} {ac : Nat} {out : List Msg} {bs : List UInt8} (m : Msg) (R : WorkR w bw be bh bi ig cap r m.line (Ent.mk o sh true asks kind 0 true q) Q qc A ac out bs) (hlen : out.length + 8 ≤ 1000000) (hsrc : 0 ≤ m.src ∧ m.src < 4) (hk : m.kind = 13) (ha : asks = m.src) (hq : ∀ x ∈ q, QOk m.line x) (hlen5 : out.length + 8 + 5 * q.length ≤ 1000000) : Calls Try.prog 35 #[.pointer (some ⟨bw, 0, none⟩), .agg (msgE.arr m)] w (Ret fun v w' => v = .tuple #[] ∧ HRet w w' bw be bh bi ig cap r m.line Q A out (otherF bs (Ent.mk o sh true asks kind 0 true q) m)) := by
 obtain ⟨hW, hE, hH, hI, hQ, hO, hS⟩ := R
 have ne_bw_be := hS.ne_bw_be
 have ne_bw_bh := hS.ne_bw_bh
 have ne_bw_bi := hS.ne_bw_bi
 have ne_bw_ig := hS.ne_bw_ig
 have ne_be_bh := hS.ne_be_bh
 have ne_be_bi := hS.ne_be_bi
 have ne_be_ig := hS.ne_be_ig
 have ne_bh_bi := hS.ne_bh_bi
 have ne_bh_ig := hS.ne_bh_ig
 have ne_bi_ig := hS.ne_bi_ig
 have ap_Q_bw := hS.ap_Q_bw
 have ap_Q_be := hS.ap_Q_be
 have ap_Q_bh := hS.ap_Q_bh
 have ap_Q_bi := hS.ap_Q_bi
 have ap_Q_ig := hS.ap_Q_ig
 have ap_A_bw := hS.ap_A_bw
 have ap_A_be := hS.ap_A_be
 have ap_A_bh := hS.ap_A_bh
 have ap_A_bi := hS.ap_A_bi
 have ap_A_ig := hS.ap_A_ig
 have ap2_Q_A := hS.ap2_Q_A
 have gA_A : ∀ g, inA A g → (g = bw ∨ g = be ∨ g = ig ∨ inA A g ∨ inA Q g) ∨ w.heap.size ≤ g := fun g hg => .inl (.inr (.inr (.inr (.inl hg))))
 have hmn := m.hn
 have gA_Q : ∀ g, inA Q g → (g = bw ∨ g = be ∨ g = ig ∨ inA A g ∨ inA Q g) ∨ w.heap.size ≤ g := fun g hg => .inl (.inr (.inr (.inr (.inr hg))))
 have hF := Only.refl (fun k => k = bw ∨ k = be ∨ k = ig ∨ inA A k ∨ inA Q k) w
 refine fx_enter Try.func35 rfl (N := (103, [])) (T := [(0, .pointer (some ⟨bw, 0, none⟩)), (1, .agg (msgE.arr m))]) rfl (show 2 ≤ 103 by decide) ⟨rfl, rfl, trivial⟩ fun a fr => ?_
 refine wp_seq ?_
 refine wp_region_lit ?_
 refine fx_new fr rfl rfl (by decide) (x_box (cs := msgE.arr m) rfl (fr.ev rfl) rfl) ?_
 clear fr a
 intro b1 w2 hN3 B4 hb5 a fr
 have ne_bw_b1 : NE bw b1 := NE.mk (Nat.lt_of_lt_of_le hW.lt hb5)
 have ne_be_b1 : NE be b1 := NE.mk (Nat.lt_of_lt_of_le hE.lt hb5)
 have ne_bh_b1 : NE bh b1 := NE.mk (Nat.lt_of_lt_of_le hH.lt hb5)
 have ne_bi_b1 : NE bi b1 := NE.mk (Nat.lt_of_lt_of_le hI.lt.1 hb5)
 have ne_ig_b1 : NE ig b1 := NE.mk (Nat.lt_of_lt_of_le hI.lt.2 hb5)
 have ap_Q_b1 : Apart Q b1 := hQ.apart hb5
 have ap_A_b1 : Apart A b1 := hO.apart hb5
 have g_b1 := Nat.le_trans hF.size hb5
 replace hW := hW.new hN3
 replace hE := hE.new hN3
 replace hH := hH.new hN3
 replace hI := hI.new hN3
 replace hQ := hQ.new hN3
 replace hO := hO.new hN3
 replace hF := hF.trNew hN3
 refine wpList_nil ?_
 refine fx_next ?_
 refine wp_seq ?_
 refine fx_held (n := 29) (fun w => Blk w bw 82 #[.slice A out.length ac, .pointer (some ⟨be, 0, none⟩), .pointer (some ⟨bh, 0, none⟩), .int .u32 m.line] ∧ Blk w be 42 (entA (Ent.mk o sh true asks kind 0 true q) (.slice Q q.length qc)) ∧ Blk w bh 64 #[.pointer (some ⟨bi, 0, none⟩), .map (some r)] ∧ Img 0 w bi ig cap bs ∧ View msgE w Q qc q ∧ Own msgE w A ac out ∧ Blk w b1 36 (msgE.arr m) ∧ True) (by kernel_rfl) rfl ?_
 intro w6 hN7
 replace hW := hW.new hN7
 replace hE := hE.new hN7
 replace hH := hH.new hN7
 replace hI := hI.new hN7
 replace hQ := hQ.new hN7
 replace hO := hO.new hN7
 replace B4 := B4.new hN7
 replace hF := hF.trNew hN7
 refine fx_take (i := 0) (v := .pointer (some ⟨bw, 0, none⟩)) fr rfl (by kernel_rfl) rfl rfl (by decide) (fun _ _ _ h => h) (fun _ ⟨hW, hE, hH, hI, hQ, hO, B4, _⟩ => x_move rfl (fr.ev rfl)) ⟨hW, hE, hH, hI, hQ, hO, B4, trivial⟩ ?_
 clear fr a; intro a fr
 refine fx_take (i := 1) (v := .pointer (some ⟨bw, 0, none⟩)) fr rfl (by kernel_rfl) rfl rfl (by decide) (fun _ _ _ h => h) (fun _ ⟨hW, hE, hH, hI, hQ, hO, B4, _⟩ => x_nilCheck rfl (fr.ev rfl)) ⟨hW, hE, hH, hI, hQ, hO, B4, trivial⟩ ?_
 clear fr a; intro a fr
 refine fx_take (i := 2) (v := .pointer (some ⟨bw, 1, none⟩)) fr rfl (by kernel_rfl) rfl rfl (by decide) (fun _ _ _ h => h) (fun _ ⟨hW, hE, hH, hI, hQ, hO, B4, _⟩ => x_fieldAddr fo82_1 rfl (fr.ev rfl) rfl) ⟨hW, hE, hH, hI, hQ, hO, B4, trivial⟩ ?_
 clear fr a; intro a fr
 refine fx_take (i := 3) (v := .pointer (some ⟨be, 0, none⟩)) fr rfl (by kernel_rfl) rfl rfl (by decide) (fun _ _ _ h => h) (fun _ ⟨hW, hE, hH, hI, hQ, hO, B4, _⟩ => x_load1 pl78 rfl (fr.ev rfl) (hW.cell 1 rfl)) ⟨hW, hE, hH, hI, hQ, hO, B4, trivial⟩ ?_
 clear fr a; intro a fr
 refine fx_take (i := 4) (v := .pointer (some ⟨be, 0, none⟩)) fr rfl (by kernel_rfl) rfl rfl (by decide) (fun _ _ _ h => h) (fun _ ⟨hW, hE, hH, hI, hQ, hO, B4, _⟩ => x_nilCheck rfl (fr.ev rfl)) ⟨hW, hE, hH, hI, hQ, hO, B4, trivial⟩ ?_
 clear fr a; intro a fr
 refine fx_take (i := 5) (v := .pointer (some ⟨be, 5, none⟩)) fr rfl (by kernel_rfl) rfl rfl (by decide) (fun _ _ _ h => h) (fun _ ⟨hW, hE, hH, hI, hQ, hO, B4, _⟩ => x_fieldAddr fo42_2 rfl (fr.ev rfl) rfl) ⟨hW, hE, hH, hI, hQ, hO, B4, trivial⟩ ?_
 clear fr a; intro a fr
 refine fx_take (i := 6) (v := .bool true) fr rfl (by kernel_rfl) rfl rfl (by decide) (fun _ _ _ h => h) (fun _ ⟨hW, hE, hH, hI, hQ, hO, B4, _⟩ => x_load1 pl4 rfl (fr.ev rfl) (hE.cell 5 rfl)) ⟨hW, hE, hH, hI, hQ, hO, B4, trivial⟩ ?_
 clear fr a; intro a fr
 refine fx_take (i := 7) (v := .bool true) fr rfl (by kernel_rfl) rfl rfl (by decide) (fun _ _ _ h => h) (fun _ ⟨hW, hE, hH, hI, hQ, hO, B4, _⟩ => x_move rfl (fr.ev rfl)) ⟨hW, hE, hH, hI, hQ, hO, B4, trivial⟩ ?_
 clear fr a; intro a fr
 refine fx_take (i := 8) (v := .pointer (some ⟨bw, 0, none⟩)) fr rfl (by kernel_rfl) (fr.want rfl rfl rfl) rfl (by decide) (fun _ _ _ h => h) (fun _ ⟨hW, hE, hH, hI, hQ, hO, B4, _⟩ => x_move rfl (fr.ev rfl)) ⟨hW, hE, hH, hI, hQ, hO, B4, trivial⟩ ?_
 clear fr a; intro a fr
 refine fx_take (i := 9) (v := .pointer (some ⟨bw, 0, none⟩)) fr rfl (by kernel_rfl) (fr.want rfl rfl rfl) rfl (by decide) (fun _ _ _ h => h) (fun _ ⟨hW, hE, hH, hI, hQ, hO, B4, _⟩ => x_nilCheck rfl (fr.ev rfl)) ⟨hW, hE, hH, hI, hQ, hO, B4, trivial⟩ ?_
 clear fr a; intro a fr
 refine fx_take (i := 10) (v := .pointer (some ⟨bw, 1, none⟩)) fr rfl (by kernel_rfl) (fr.want rfl rfl rfl) rfl (by decide) (fun _ _ _ h => h) (fun _ ⟨hW, hE, hH, hI, hQ, hO, B4, _⟩ => x_fieldAddr fo82_1 rfl (fr.ev rfl) rfl) ⟨hW, hE, hH, hI, hQ, hO, B4, trivial⟩ ?_
 clear fr a; intro a fr
 refine fx_take (i := 11) (v := .pointer (some ⟨be, 0, none⟩)) fr rfl (by kernel_rfl) (fr.want rfl rfl rfl) rfl (by decide) (fun _ _ _ h => h) (fun _ ⟨hW, hE, hH, hI, hQ, hO, B4, _⟩ => x_load1 pl78 rfl (fr.ev rfl) (hW.cell 1 rfl)) ⟨hW, hE, hH, hI, hQ, hO, B4, trivial⟩ ?_
 clear fr a; intro a fr
 refine fx_take (i := 12) (v := .pointer (some ⟨be, 0, none⟩)) fr rfl (by kernel_rfl) (fr.want rfl rfl rfl) rfl (by decide) (fun _ _ _ h => h) (fun _ ⟨hW, hE, hH, hI, hQ, hO, B4, _⟩ => x_nilCheck rfl (fr.ev rfl)) ⟨hW, hE, hH, hI, hQ, hO, B4, trivial⟩ ?_
 clear fr a; intro a fr
 refine fx_take (i := 13) (v := .pointer (some ⟨be, 9, none⟩)) fr rfl (by kernel_rfl) (fr.want rfl rfl rfl) rfl (by decide) (fun _ _ _ h => h) (fun _ ⟨hW, hE, hH, hI, hQ, hO, B4, _⟩ => x_fieldAddr fo42_6 rfl (fr.ev rfl) rfl) ⟨hW, hE, hH, hI, hQ, hO, B4, trivial⟩ ?_
 clear fr a; intro a fr
 refine fx_take (i := 14) (v := .bool true) fr rfl (by kernel_rfl) (fr.want rfl rfl rfl) rfl (by decide) (fun _ _ _ h => h) (fun _ ⟨hW, hE, hH, hI, hQ, hO, B4, _⟩ => x_load1 pl4 rfl (fr.ev rfl) (hE.cell 9 rfl)) ⟨hW, hE, hH, hI, hQ, hO, B4, trivial⟩ ?_
 clear fr a; intro a fr
 refine fx_take (i := 15) (v := .bool true) fr rfl (by kernel_rfl) rfl rfl (by decide) (fun _ _ _ h => h) (fun _ ⟨hW, hE, hH, hI, hQ, hO, B4, _⟩ => x_pick_t rfl (fr.ev rfl) (fr.ev rfl)) ⟨hW, hE, hH, hI, hQ, hO, B4, trivial⟩ ?_
 clear fr a; intro a fr
 refine fx_take (i := 16) (v := .bool true) fr rfl (by kernel_rfl) rfl rfl (by decide) (fun _ _ _ h => h) (fun _ ⟨hW, hE, hH, hI, hQ, hO, B4, _⟩ => x_move rfl (fr.ev rfl)) ⟨hW, hE, hH, hI, hQ, hO, B4, trivial⟩ ?_
 clear fr a; intro a fr
 refine fx_take (i := 17) (v := .pointer (some ⟨bw, 0, none⟩)) fr rfl (by kernel_rfl) (fr.want rfl rfl rfl) rfl (by decide) (fun _ _ _ h => h) (fun _ ⟨hW, hE, hH, hI, hQ, hO, B4, _⟩ => x_move rfl (fr.ev rfl)) ⟨hW, hE, hH, hI, hQ, hO, B4, trivial⟩ ?_
 clear fr a; intro a fr
 refine fx_take (i := 18) (v := .pointer (some ⟨bw, 0, none⟩)) fr rfl (by kernel_rfl) (fr.want rfl rfl rfl) rfl (by decide) (fun _ _ _ h => h) (fun _ ⟨hW, hE, hH, hI, hQ, hO, B4, _⟩ => x_nilCheck rfl (fr.ev rfl)) ⟨hW, hE, hH, hI, hQ, hO, B4, trivial⟩ ?_
 clear fr a; intro a fr
 refine fx_take (i := 19) (v := .pointer (some ⟨bw, 1, none⟩)) fr rfl (by kernel_rfl) (fr.want rfl rfl rfl) rfl (by decide) (fun _ _ _ h => h) (fun _ ⟨hW, hE, hH, hI, hQ, hO, B4, _⟩ => x_fieldAddr fo82_1 rfl (fr.ev rfl) rfl) ⟨hW, hE, hH, hI, hQ, hO, B4, trivial⟩ ?_
 clear fr a; intro a fr
 refine fx_take (i := 20) (v := .pointer (some ⟨be, 0, none⟩)) fr rfl (by kernel_rfl) (fr.want rfl rfl rfl) rfl (by decide) (fun _ _ _ h => h) (fun _ ⟨hW, hE, hH, hI, hQ, hO, B4, _⟩ => x_load1 pl78 rfl (fr.ev rfl) (hW.cell 1 rfl)) ⟨hW, hE, hH, hI, hQ, hO, B4, trivial⟩ ?_
 clear fr a; intro a fr
 refine fx_take (i := 21) (v := .pointer (some ⟨be, 0, none⟩)) fr rfl (by kernel_rfl) (fr.want rfl rfl rfl) rfl (by decide) (fun _ _ _ h => h) (fun _ ⟨hW, hE, hH, hI, hQ, hO, B4, _⟩ => x_nilCheck rfl (fr.ev rfl)) ⟨hW, hE, hH, hI, hQ, hO, B4, trivial⟩ ?_
 clear fr a; intro a fr
 refine fx_take (i := 22) (v := .pointer (some ⟨be, 6, none⟩)) fr rfl (by kernel_rfl) (fr.want rfl rfl rfl) rfl (by decide) (fun _ _ _ h => h) (fun _ ⟨hW, hE, hH, hI, hQ, hO, B4, _⟩ => x_fieldAddr fo42_3 rfl (fr.ev rfl) rfl) ⟨hW, hE, hH, hI, hQ, hO, B4, trivial⟩ ?_
 clear fr a; intro a fr
 refine fx_take (i := 23) (v := .int .i64 asks) fr rfl (by kernel_rfl) (fr.want rfl rfl rfl) rfl (by decide) (fun _ _ _ h => h) (fun _ ⟨hW, hE, hH, hI, hQ, hO, B4, _⟩ => x_load1 pl3 rfl (fr.ev rfl) (hE.cell 6 rfl)) ⟨hW, hE, hH, hI, hQ, hO, B4, trivial⟩ ?_
 clear fr a; intro a fr
 refine fx_take (i := 24) (v := .pointer (some ⟨b1, 1, none⟩)) fr rfl (by kernel_rfl) (fr.want rfl rfl rfl) rfl (by decide) (fun _ _ _ h => h) (fun _ ⟨hW, hE, hH, hI, hQ, hO, B4, _⟩ => x_fieldAddr fo36_1 rfl (fr.ev rfl) rfl) ⟨hW, hE, hH, hI, hQ, hO, B4, trivial⟩ ?_
 clear fr a; intro a fr
 refine fx_take (i := 25) (v := .int .i64 m.src) fr rfl (by kernel_rfl) (fr.want rfl rfl rfl) rfl (by decide) (fun _ _ _ h => h) (fun _ ⟨hW, hE, hH, hI, hQ, hO, B4, _⟩ => x_load1 pl3 rfl (fr.ev rfl) (B4.cell 1 rfl)) ⟨hW, hE, hH, hI, hQ, hO, B4, trivial⟩ ?_
 clear fr a; intro a fr
 refine fx_take (i := 26) (v := .bool true) fr rfl (by kernel_rfl) (fr.want rfl rfl rfl) rfl (by decide) (fun _ _ _ h => h) (fun _ ⟨hW, hE, hH, hI, hQ, hO, B4, _⟩ => x_eql rfl (fr.ev rfl) (fr.ev rfl) (decide_eq_true ha)) ⟨hW, hE, hH, hI, hQ, hO, B4, trivial⟩ ?_
 clear fr a; intro a fr
 refine fx_take (i := 27) (v := .bool true) fr rfl (by kernel_rfl) rfl rfl (by decide) (fun _ _ _ h => h) (fun _ ⟨hW, hE, hH, hI, hQ, hO, B4, _⟩ => x_pick_t rfl (fr.ev rfl) (fr.ev rfl)) ⟨hW, hE, hH, hI, hQ, hO, B4, trivial⟩ ?_
 clear fr a; intro a fr
 refine fx_one (i := 28) (by kernel_rfl) (fx_op rfl ?_)
 refine fx_call fr rfl rfl (by decide) (x_call (vs := [.bool true, .int .i64 220]) rfl rfl ⟨(fr.ev rfl), rfl, trivial⟩ Try.func49 nm49 rfl) (must_ok 220 _) ?_
 clear fr a
 rintro v w9 ⟨rfl, hw9⟩ a fr
 obtain rfl := hw9.symm
 refine wpList_nil ?_
 refine ⟨⟨hW, hE, hH, hI, hQ, hO, B4, trivial⟩, ?_⟩
 refine fx_hdone (by kernel_rfl) ?_
 refine fx_next ?_
 refine wp_seq ?_
 refine fx_heldT (n := 25) (k := 25) (fun w => Blk w bw 82 #[.slice A out.length ac, .pointer (some ⟨be, 0, none⟩), .pointer (some ⟨bh, 0, none⟩), .int .u32 m.line] ∧ Blk w bh 64 #[.pointer (some ⟨bi, 0, none⟩), .map (some r)] ∧ Img 0 w bi ig cap bs ∧ View msgE w Q qc q ∧ Own msgE w A ac out ∧ Blk w b1 36 (msgE.arr m) ∧ True) (by kernel_rfl) (by kernel_rfl) rfl ?_
 intro w10 hN11
 replace hW := hW.new hN11
 replace hE := hE.new hN11
 replace hH := hH.new hN11
 replace hI := hI.new hN11
 replace hQ := hQ.new hN11
 replace hO := hO.new hN11
 replace B4 := B4.new hN11
 replace hF := hF.trNew hN11
 refine fx_take (i := 0) (v := .pointer (some ⟨bw, 0, none⟩)) fr rfl (by kernel_rfl) rfl rfl (by decide) (fun _ _ _ h => h) (fun _ ⟨hW, hH, hI, hQ, hO, B4, _⟩ => x_move rfl (fr.ev rfl)) ⟨hW, hH, hI, hQ, hO, B4, trivial⟩ ?_
 clear fr a; intro a fr
 refine fx_take (i := 1) (v := .pointer (some ⟨bw, 0, none⟩)) fr rfl (by kernel_rfl) rfl rfl (by decide) (fun _ _ _ h => h) (fun _ ⟨hW, hH, hI, hQ, hO, B4, _⟩ => x_nilCheck rfl (fr.ev rfl)) ⟨hW, hH, hI, hQ, hO, B4, trivial⟩ ?_
 clear fr a; intro a fr
 refine fx_take (i := 2) (v := .pointer (some ⟨bw, 1, none⟩)) fr rfl (by kernel_rfl) rfl rfl (by decide) (fun _ _ _ h => h) (fun _ ⟨hW, hH, hI, hQ, hO, B4, _⟩ => x_fieldAddr fo82_1 rfl (fr.ev rfl) rfl) ⟨hW, hH, hI, hQ, hO, B4, trivial⟩ ?_
 clear fr a; intro a fr
 refine fx_take (i := 3) (v := .pointer (some ⟨be, 0, none⟩)) fr rfl (by kernel_rfl) rfl rfl (by decide) (fun _ _ _ h => h) (fun _ ⟨hW, hH, hI, hQ, hO, B4, _⟩ => x_load1 pl78 rfl (fr.ev rfl) (hW.cell 1 rfl)) ⟨hW, hH, hI, hQ, hO, B4, trivial⟩ ?_
 clear fr a; intro a fr
 refine fx_take (i := 4) (v := .pointer (some ⟨bw, 0, none⟩)) fr rfl (by kernel_rfl) rfl rfl (by decide) (fun _ _ _ h => h) (fun _ ⟨hW, hH, hI, hQ, hO, B4, _⟩ => x_move rfl (fr.ev rfl)) ⟨hW, hH, hI, hQ, hO, B4, trivial⟩ ?_
 clear fr a; intro a fr
 refine fx_take (i := 5) (v := .pointer (some ⟨bw, 0, none⟩)) fr rfl (by kernel_rfl) rfl rfl (by decide) (fun _ _ _ h => h) (fun _ ⟨hW, hH, hI, hQ, hO, B4, _⟩ => x_nilCheck rfl (fr.ev rfl)) ⟨hW, hH, hI, hQ, hO, B4, trivial⟩ ?_
 clear fr a; intro a fr
 refine fx_take (i := 6) (v := .pointer (some ⟨bw, 1, none⟩)) fr rfl (by kernel_rfl) rfl rfl (by decide) (fun _ _ _ h => h) (fun _ ⟨hW, hH, hI, hQ, hO, B4, _⟩ => x_fieldAddr fo82_1 rfl (fr.ev rfl) rfl) ⟨hW, hH, hI, hQ, hO, B4, trivial⟩ ?_
 clear fr a; intro a fr
 refine fx_take (i := 7) (v := .pointer (some ⟨be, 0, none⟩)) fr rfl (by kernel_rfl) rfl rfl (by decide) (fun _ _ _ h => h) (fun _ ⟨hW, hH, hI, hQ, hO, B4, _⟩ => x_load1 pl78 rfl (fr.ev rfl) (hW.cell 1 rfl)) ⟨hW, hH, hI, hQ, hO, B4, trivial⟩ ?_
 clear fr a; intro a fr
 refine fx_take (i := 8) (v := .pointer (some ⟨bw, 0, none⟩)) fr rfl (by kernel_rfl) rfl rfl (by decide) (fun _ _ _ h => h) (fun _ ⟨hW, hH, hI, hQ, hO, B4, _⟩ => x_move rfl (fr.ev rfl)) ⟨hW, hH, hI, hQ, hO, B4, trivial⟩ ?_
 clear fr a; intro a fr
 refine fx_take (i := 9) (v := .pointer (some ⟨bw, 0, none⟩)) fr rfl (by kernel_rfl) rfl rfl (by decide) (fun _ _ _ h => h) (fun _ ⟨hW, hH, hI, hQ, hO, B4, _⟩ => x_nilCheck rfl (fr.ev rfl)) ⟨hW, hH, hI, hQ, hO, B4, trivial⟩ ?_
 clear fr a; intro a fr
 refine fx_take (i := 10) (v := .pointer (some ⟨bw, 1, none⟩)) fr rfl (by kernel_rfl) rfl rfl (by decide) (fun _ _ _ h => h) (fun _ ⟨hW, hH, hI, hQ, hO, B4, _⟩ => x_fieldAddr fo82_1 rfl (fr.ev rfl) rfl) ⟨hW, hH, hI, hQ, hO, B4, trivial⟩ ?_
 clear fr a; intro a fr
 refine fx_take (i := 11) (v := .pointer (some ⟨be, 0, none⟩)) fr rfl (by kernel_rfl) rfl rfl (by decide) (fun _ _ _ h => h) (fun _ ⟨hW, hH, hI, hQ, hO, B4, _⟩ => x_load1 pl78 rfl (fr.ev rfl) (hW.cell 1 rfl)) ⟨hW, hH, hI, hQ, hO, B4, trivial⟩ ?_
 clear fr a; intro a fr
 refine fx_take (i := 12) (v := .pointer (some ⟨bw, 0, none⟩)) fr rfl (by kernel_rfl) rfl rfl (by decide) (fun _ _ _ h => h) (fun _ ⟨hW, hH, hI, hQ, hO, B4, _⟩ => x_move rfl (fr.ev rfl)) ⟨hW, hH, hI, hQ, hO, B4, trivial⟩ ?_
 clear fr a; intro a fr
 refine fx_take (i := 13) (v := .pointer (some ⟨bw, 0, none⟩)) fr rfl (by kernel_rfl) rfl rfl (by decide) (fun _ _ _ h => h) (fun _ ⟨hW, hH, hI, hQ, hO, B4, _⟩ => x_nilCheck rfl (fr.ev rfl)) ⟨hW, hH, hI, hQ, hO, B4, trivial⟩ ?_
 clear fr a; intro a fr
 refine fx_take (i := 14) (v := .pointer (some ⟨bw, 1, none⟩)) fr rfl (by kernel_rfl) rfl rfl (by decide) (fun _ _ _ h => h) (fun _ ⟨hW, hH, hI, hQ, hO, B4, _⟩ => x_fieldAddr fo82_1 rfl (fr.ev rfl) rfl) ⟨hW, hH, hI, hQ, hO, B4, trivial⟩ ?_
 clear fr a; intro a fr
 refine fx_take (i := 15) (v := .pointer (some ⟨be, 0, none⟩)) fr rfl (by kernel_rfl) rfl rfl (by decide) (fun _ _ _ h => h) (fun _ ⟨hW, hH, hI, hQ, hO, B4, _⟩ => x_load1 pl78 rfl (fr.ev rfl) (hW.cell 1 rfl)) ⟨hW, hH, hI, hQ, hO, B4, trivial⟩ ?_
 clear fr a; intro a fr
 refine fx_take (i := 16) (v := .pointer (some ⟨be, 0, none⟩)) fr rfl (by kernel_rfl) rfl rfl (by decide) (fun _ _ _ h => h) (fun _ ⟨hW, hH, hI, hQ, hO, B4, _⟩ => x_nilCheck rfl (fr.ev rfl)) ⟨hW, hH, hI, hQ, hO, B4, trivial⟩ ?_
 clear fr a; intro a fr
 refine fx_take (i := 17) (v := .pointer (some ⟨be, 5, none⟩)) fr rfl (by kernel_rfl) rfl rfl (by decide) (fun _ _ _ h => h) (fun _ ⟨hW, hH, hI, hQ, hO, B4, _⟩ => x_fieldAddr fo42_2 rfl (fr.ev rfl) rfl) ⟨hW, hH, hI, hQ, hO, B4, trivial⟩ ?_
 clear fr a; intro a fr
 refine fx_one (i := 18) (by kernel_rfl) (fx_op rfl ?_)
 refine fx_store1 sz4 rfl rfl rfl (fr.ev rfl) rfl rfl hE (show 5 < 11 by decide) (cs' := entA ({ (Ent.mk o sh true asks kind 0 true q) with busy := false }) (.slice Q q.length qc)) rfl fun w12 hO13 hBq => ?_
 replace hW := hW.only hO13 (by first | exact ne_bw_be | exact ne_be_bw.symm | (show ¬ bw = be; omega))
 replace hH := hH.only hO13 (by first | exact ne_bh_be | exact ne_be_bh.symm | (show ¬ bh = be; omega))
 replace hI := hI.only hO13 (by first | exact ne_bi_be | exact ne_be_bi.symm | (show ¬ bi = be; omega)) (by first | exact ne_ig_be | exact ne_be_ig.symm | (show ¬ ig = be; omega))
 replace hQ := hQ.only hO13 (Apart.ne1 ap_Q_be)
 replace hO := hO.only hO13 (Apart.ne1 ap_A_be)
 replace B4 := B4.only hO13 (by first | exact ne_b1_be | exact ne_be_b1.symm | (show ¬ b1 = be; omega))
 replace hF := hF.loc hO13 (.inl (.inr (.inl rfl)))
 replace hE := hBq
 clear hBq
 refine wpList_nil ?_
 refine ⟨⟨hW, hH, hI, hQ, hO, B4, trivial⟩, ?_⟩
 refine fx_take (i := 19) (v := .pointer (some ⟨be, 0, none⟩)) fr rfl (by kernel_rfl) rfl rfl (by decide) (fun _ _ _ h => h) (fun _ ⟨hW, hH, hI, hQ, hO, B4, _⟩ => x_nilCheck rfl (fr.ev rfl)) ⟨hW, hH, hI, hQ, hO, B4, trivial⟩ ?_
 clear fr a; intro a fr
 refine fx_take (i := 20) (v := .pointer (some ⟨be, 6, none⟩)) fr rfl (by kernel_rfl) rfl rfl (by decide) (fun _ _ _ h => h) (fun _ ⟨hW, hH, hI, hQ, hO, B4, _⟩ => x_fieldAddr fo42_3 rfl (fr.ev rfl) rfl) ⟨hW, hH, hI, hQ, hO, B4, trivial⟩ ?_
 clear fr a; intro a fr
 refine fx_one (i := 21) (by kernel_rfl) (fx_op rfl ?_)
 refine fx_store1 sz3 rfl rfl rfl (fr.ev rfl) rfl rfl hE (show 6 < 11 by decide) (cs' := entA ({ { (Ent.mk o sh true asks kind 0 true q) with busy := false } with asks := 0 }) (.slice Q q.length qc)) rfl fun w14 hO15 hBq => ?_
 replace hW := hW.only hO15 (by first | exact ne_bw_be | exact ne_be_bw.symm | (show ¬ bw = be; omega))
 replace hH := hH.only hO15 (by first | exact ne_bh_be | exact ne_be_bh.symm | (show ¬ bh = be; omega))
 replace hI := hI.only hO15 (by first | exact ne_bi_be | exact ne_be_bi.symm | (show ¬ bi = be; omega)) (by first | exact ne_ig_be | exact ne_be_ig.symm | (show ¬ ig = be; omega))
 replace hQ := hQ.only hO15 (Apart.ne1 ap_Q_be)
 replace hO := hO.only hO15 (Apart.ne1 ap_A_be)
 replace B4 := B4.only hO15 (by first | exact ne_b1_be | exact ne_be_b1.symm | (show ¬ b1 = be; omega))
 replace hF := hF.loc hO15 (.inl (.inr (.inl rfl)))
 replace hE := hBq
 clear hBq
 refine wpList_nil ?_
 refine ⟨⟨hW, hH, hI, hQ, hO, B4, trivial⟩, ?_⟩
 refine fx_take (i := 22) (v := .pointer (some ⟨be, 0, none⟩)) fr rfl (by kernel_rfl) rfl rfl (by decide) (fun _ _ _ h => h) (fun _ ⟨hW, hH, hI, hQ, hO, B4, _⟩ => x_nilCheck rfl (fr.ev rfl)) ⟨hW, hH, hI, hQ, hO, B4, trivial⟩ ?_
 clear fr a; intro a fr
 refine fx_take (i := 23) (v := .pointer (some ⟨be, 7, none⟩)) fr rfl (by kernel_rfl) rfl rfl (by decide) (fun _ _ _ h => h) (fun _ ⟨hW, hH, hI, hQ, hO, B4, _⟩ => x_fieldAddr fo42_4 rfl (fr.ev rfl) rfl) ⟨hW, hH, hI, hQ, hO, B4, trivial⟩ ?_
 clear fr a; intro a fr
 refine fx_one (i := 24) (by kernel_rfl) (fx_op rfl ?_)
 refine fx_store1 sz33 rfl rfl rfl (fr.ev rfl) rfl rfl hE (show 7 < 11 by decide) (cs' := entA ({ { { (Ent.mk o sh true asks kind 0 true q) with busy := false } with asks := 0 } with kind := 0 }) (.slice Q q.length qc)) rfl fun w16 hO17 hBq => ?_
 replace hW := hW.only hO17 (by first | exact ne_bw_be | exact ne_be_bw.symm | (show ¬ bw = be; omega))
 replace hH := hH.only hO17 (by first | exact ne_bh_be | exact ne_be_bh.symm | (show ¬ bh = be; omega))
 replace hI := hI.only hO17 (by first | exact ne_bi_be | exact ne_be_bi.symm | (show ¬ bi = be; omega)) (by first | exact ne_ig_be | exact ne_be_ig.symm | (show ¬ ig = be; omega))
 replace hQ := hQ.only hO17 (Apart.ne1 ap_Q_be)
 replace hO := hO.only hO17 (Apart.ne1 ap_A_be)
 replace B4 := B4.only hO17 (by first | exact ne_b1_be | exact ne_be_b1.symm | (show ¬ b1 = be; omega))
 replace hF := hF.loc hO17 (.inl (.inr (.inl rfl)))
 replace hE := hBq
 clear hBq
 refine wpList_nil ?_
 refine ⟨⟨hW, hH, hI, hQ, hO, B4, trivial⟩, ?_⟩
 refine fx_hdone (by kernel_rfl) ?_
 refine fx_tail ?_
 refine fx_val (v := .pointer (some ⟨be, 0, none⟩)) fr rfl rfl (by decide) (x_nilCheck rfl (fr.ev rfl)) ?_
 clear fr a; intro a fr
 refine fx_val (v := .pointer (some ⟨be, 9, none⟩)) fr rfl rfl (by decide) (x_fieldAddr fo42_6 rfl (fr.ev rfl) rfl) ?_
 clear fr a; intro a fr
 refine fx_store1 sz4 rfl rfl rfl (fr.ev rfl) rfl rfl hE (show 9 < 11 by decide) (cs' := entA ({ { { { (Ent.mk o sh true asks kind 0 true q) with busy := false } with asks := 0 } with kind := 0 } with told := false }) (.slice Q q.length qc)) rfl fun w18 hO19 hBq => ?_
 replace hW := hW.only hO19 (by first | exact ne_bw_be | exact ne_be_bw.symm | (show ¬ bw = be; omega))
 replace hH := hH.only hO19 (by first | exact ne_bh_be | exact ne_be_bh.symm | (show ¬ bh = be; omega))
 replace hI := hI.only hO19 (by first | exact ne_bi_be | exact ne_be_bi.symm | (show ¬ bi = be; omega)) (by first | exact ne_ig_be | exact ne_be_ig.symm | (show ¬ ig = be; omega))
 replace hQ := hQ.only hO19 (Apart.ne1 ap_Q_be)
 replace hO := hO.only hO19 (Apart.ne1 ap_A_be)
 replace B4 := B4.only hO19 (by first | exact ne_b1_be | exact ne_be_b1.symm | (show ¬ b1 = be; omega))
 replace hF := hF.loc hO19 (.inl (.inr (.inl rfl)))
 replace hE := hBq
 clear hBq
 refine wpList_nil ?_
 refine fx_next ?_
 refine wp_block ?_
 refine fx_loop (fun nM a wL => ∃ d1 : Ent, ∃ bs1 : List UInt8, ∃ Q1 : Option Addr, ∃ qc1 : Nat, ∃ A1 : Option Addr, ∃ c1 : Nat, ∃ out1 : List Msg, nM = d1.q.length ∧ Fr (103, []) [(0, .pointer (some ⟨bw, 0, none⟩))] a ∧ Only (fun k => k = bw ∨ k = be ∨ k = ig ∨ inA A k ∨ inA Q k) w wL ∧ Blk wL bw 82 #[.slice A1 out1.length c1, .pointer (some ⟨be, 0, none⟩), .pointer (some ⟨bh, 0, none⟩), .int .u32 m.line] ∧ Blk wL be 42 (entA d1 (.slice Q1 d1.q.length qc1)) ∧ Blk wL bh 64 #[.pointer (some ⟨bi, 0, none⟩), .map (some r)] ∧ Img 0 wL bi ig cap bs1 ∧ View msgE wL Q1 qc1 d1.q ∧ Own msgE wL A1 c1 out1 ∧ addF out1 (drainF d1.q bs1 d1) = addF out (drainF q bs { { { { (Ent.mk o sh true asks kind 0 true q) with busy := false } with asks := 0 } with kind := 0 } with told := false }) ∧ (∀ x ∈ d1.q, QOk m.line x) ∧ out1.length + 8 + 5 * d1.q.length ≤ 1000000 ∧ (Apart Q1 bw) ∧ (Apart A1 bw) ∧ (Apart Q1 be) ∧ (Apart A1 be) ∧ (Apart Q1 bh) ∧ (Apart A1 bh) ∧ (Apart Q1 bi) ∧ (Apart Q1 ig) ∧ (Apart A1 bi) ∧ (Apart A1 ig) ∧ (Apart2 Q1 A1) ∧ (∀ g, inA Q1 g → (fun k => k = bw ∨ k = be ∨ k = ig ∨ inA A k ∨ inA Q k) g ∨ w.heap.size ≤ g) ∧ (∀ g, inA A1 g → (fun k => k = bw ∨ k = be ∨ k = ig ∨ inA A k ∨ inA Q k) g ∨ w.heap.size ≤ g)) (n0 := _) ⟨{ { { { (Ent.mk o sh true asks kind 0 true q) with busy := false } with asks := 0 } with kind := 0 } with told := false }, bs, Q, qc, A, ac, out, rfl, fr.sub ⟨rfl, trivial⟩, hF, hW, hE, hH, hI, hQ, hO, rfl, hq, hlen5, ap_Q_bw, ap_A_bw, ap_Q_be, ap_A_be, ap_Q_bh, ap_A_bh, ap_Q_bi, ap_Q_ig, ap_A_bi, ap_A_ig, ap2_Q_A, gA_Q, gA_A⟩ ?_
 rintro n21 a w20 ⟨d1, bs1, Q1, qc1, A1, c1, out1, rfl, fr, hF, hW, hE, hH, hI, hQ, O1, hp0, hp1, hp2, ap_Q1_bw, ap_A1_bw, ap_Q1_be, ap_A1_be, ap_Q1_bh, ap_A1_bh, ap_Q1_bi, ap_Q1_ig, ap_A1_bi, ap_A1_ig, ap2_Q1_A1, gA_Q1, gA_A1⟩
 refine wp_seq ?_
 refine wp_seq ?_
 refine wp_region_lit ?_
 refine fx_val (v := .pointer (some ⟨bw, 0, none⟩)) fr rfl rfl (by decide) (x_move rfl (fr.ev rfl)) ?_
 clear fr a; intro a fr
 refine fx_val (v := .pointer (some ⟨bw, 0, none⟩)) fr rfl rfl (by decide) (x_nilCheck rfl (fr.ev rfl)) ?_
 clear fr a; intro a fr
 refine fx_val (v := .pointer (some ⟨bw, 1, none⟩)) fr rfl rfl (by decide) (x_fieldAddr fo82_1 rfl (fr.ev rfl) rfl) ?_
 clear fr a; intro a fr
 refine fx_val (v := .pointer (some ⟨be, 0, none⟩)) fr rfl rfl (by decide) (x_load1 pl78 rfl (fr.ev rfl) (hW.cell 1 rfl)) ?_
 clear fr a; intro a fr
 refine fx_val (v := .pointer (some ⟨be, 0, none⟩)) fr rfl rfl (by decide) (x_nilCheck rfl (fr.ev rfl)) ?_
 clear fr a; intro a fr
 refine fx_val (v := .pointer (some ⟨be, 5, none⟩)) fr rfl rfl (by decide) (x_fieldAddr fo42_2 rfl (fr.ev rfl) rfl) ?_
 clear fr a; intro a fr
 refine fx_val (v := .bool d1.busy) fr rfl rfl (by decide) (x_load1 pl4 rfl (fr.ev rfl) (hE.cell 5 rfl)) ?_
 clear fr a; intro a fr
 refine fx_val (v := .bool (!d1.busy)) fr rfl rfl (by decide) (x_not rfl (fr.ev rfl) rfl) ?_
 clear fr a; intro a fr
 refine fx_val (v := .bool (!d1.busy)) fr rfl rfl (by decide) (x_move rfl (fr.ev rfl)) ?_
 clear fr a; intro a fr
 refine fx_may (g := (!d1.busy)) (v := .pointer (some ⟨bw, 0, none⟩)) fr rfl rfl rfl (by simp) rfl (by decide) (fun hg => x_move rfl (fr.ev rfl)) ?_
 clear fr a; intro a fr
 refine fx_may (g := (!d1.busy)) (v := .pointer (some ⟨bw, 0, none⟩)) fr rfl rfl rfl (by simp) rfl (by decide) (fun hg => x_nilCheck rfl ((fr.ev rfl).trans (onlyIf_t hg))) ?_
 clear fr a; intro a fr
 refine fx_may (g := (!d1.busy)) (v := .pointer (some ⟨bw, 1, none⟩)) fr rfl rfl rfl (by simp) rfl (by decide) (fun hg => x_fieldAddr fo82_1 rfl ((fr.ev rfl).trans (onlyIf_t hg)) rfl) ?_
 clear fr a; intro a fr
 refine fx_may (g := (!d1.busy)) (v := .pointer (some ⟨be, 0, none⟩)) fr rfl rfl rfl (by simp) rfl (by decide) (fun hg => x_load1 pl78 rfl ((fr.ev rfl).trans (onlyIf_t hg)) (hW.cell 1 rfl)) ?_
 clear fr a; intro a fr
 refine fx_may (g := (!d1.busy)) (v := .pointer (some ⟨be, 0, none⟩)) fr rfl rfl rfl (by simp) rfl (by decide) (fun hg => x_nilCheck rfl ((fr.ev rfl).trans (onlyIf_t hg))) ?_
 clear fr a; intro a fr
 refine fx_may (g := (!d1.busy)) (v := .pointer (some ⟨be, 10, none⟩)) fr rfl rfl rfl (by simp) rfl (by decide) (fun hg => x_fieldAddr fo42_7 rfl ((fr.ev rfl).trans (onlyIf_t hg)) rfl) ?_
 clear fr a; intro a fr
 refine fx_may (g := (!d1.busy)) (v := .slice Q1 d1.q.length qc1) fr rfl rfl rfl (by simp) rfl (by decide) (fun hg => x_load1 pl23 rfl ((fr.ev rfl).trans (onlyIf_t hg)) (hE.cell 10 rfl)) ?_
 clear fr a; intro a fr
 refine fx_may (g := (!d1.busy)) (v := .int .i64 ((d1.q.length : Nat) : Int)) fr rfl rfl rfl (by simp) rfl (by decide) (fun hg => x_len Try.underlying23 rfl ((fr.ev rfl).trans (onlyIf_t hg))) ?_
 clear fr a; intro a fr
 refine fx_may (g := (!d1.busy)) (v := .bool (decide (0 < ((d1.q.length : Nat) : Int)))) fr rfl rfl rfl (by simp) rfl (by decide) (fun hg => x_gtr rfl ((fr.ev rfl).trans (onlyIf_t hg)) rfl rfl) ?_
 clear fr a; intro a fr
 refine fx_val (v := .bool ((!d1.busy) && (decide (0 < ((d1.q.length : Nat) : Int))))) fr rfl rfl (by decide) (x_pick_and rfl (fr.ev rfl) (fun hb => ((fr.ev rfl)).trans (onlyIf_t (by simp_all))) (fun _ => rfl) rfl) ?_
 clear fr a; intro a fr
 refine wpList_nil ?_
 refine fx_next ?_
 refine fx_cond fr rfl (fun hc22 => ?_) (fun hc22 => ?_)
 ·skip
  have hc22s := hc22
  try simp at hc22s
  refine wp_skip ?_
  refine fx_next ?_
  refine wp_block ?_
  refine wp_seq ?_
  have hgo := drain_go hc22
  have hgo2 := hgo.2
  have hq1 := hp1 _ (getD_in hgo2)
  refine wp_region_lit ?_
  refine fx_val (v := .pointer (some ⟨bw, 0, none⟩)) fr rfl rfl (by decide) (x_move rfl (fr.ev rfl)) ?_
  clear fr a; intro a fr
  refine fx_val (v := .pointer (some ⟨bw, 0, none⟩)) fr rfl rfl (by decide) (x_nilCheck rfl (fr.ev rfl)) ?_
  clear fr a; intro a fr
  refine fx_val (v := .pointer (some ⟨bw, 1, none⟩)) fr rfl rfl (by decide) (x_fieldAddr fo82_1 rfl (fr.ev rfl) rfl) ?_
  clear fr a; intro a fr
  refine fx_val (v := .pointer (some ⟨be, 0, none⟩)) fr rfl rfl (by decide) (x_load1 pl78 rfl (fr.ev rfl) (hW.cell 1 rfl)) ?_
  clear fr a; intro a fr
  refine fx_val (v := .pointer (some ⟨be, 0, none⟩)) fr rfl rfl (by decide) (x_nilCheck rfl (fr.ev rfl)) ?_
  clear fr a; intro a fr
  refine fx_val (v := .pointer (some ⟨be, 10, none⟩)) fr rfl rfl (by decide) (x_fieldAddr fo42_7 rfl (fr.ev rfl) rfl) ?_
  clear fr a; intro a fr
  refine fx_val (v := .slice Q1 d1.q.length qc1) fr rfl rfl (by decide) (x_load1 pl23 rfl (fr.ev rfl) (hE.cell 10 rfl)) ?_
  clear fr a; intro a fr
  obtain ⟨g23, o24, hA25⟩ := (hQ).some_ (by first | omega | decide)
  refine fx_val (v := .pointer (some ⟨g23, o24 + 0 * 20, none⟩)) fr rfl rfl (by decide) (x_indexV Try.underlying23 sz36 rfl (fr.ev rfl) hA25 rfl (by first | omega | decide) rfl) ?_
  clear fr a; intro a fr
  refine fx_val (v := .agg (msgE.arr (d1.q.getD 0 msg0))) fr rfl rfl (by decide) (x_loadE (E := msgE) ag36 rfl rfl (fr.ev rfl) ((hQ).elem hA25 0 msg0 (by omega))) ?_
  clear fr a; intro a fr
  refine fx_new fr rfl rfl (by decide) (x_alloc (z := .agg (#[.int .i64 0, .int .i64 0, .int .i64 0, .int .u32 0, .int .u8 0, .int .u8 0, .int .u8 0, .int .u8 0, .int .u8 0, .int .u8 0, .int .u8 0, .int .u8 0, .int .u8 0, .int .u8 0, .int .u8 0, .int .u8 0, .int .u8 0, .int .u8 0, .int .u8 0, .int .u8 0])) (cs := msgE.arr msg0) rfl (by kernel_rfl) rfl) ?_
  clear fr a
  intro b26 w27 hN28 B29 hb30 a fr
  have ne_bw_b26 : NE bw b26 := NE.mk (Nat.lt_of_lt_of_le hW.lt hb30)
  have ne_be_b26 : NE be b26 := NE.mk (Nat.lt_of_lt_of_le hE.lt hb30)
  have ne_bh_b26 : NE bh b26 := NE.mk (Nat.lt_of_lt_of_le hH.lt hb30)
  have ne_bi_b26 : NE bi b26 := NE.mk (Nat.lt_of_lt_of_le hI.lt.1 hb30)
  have ne_ig_b26 : NE ig b26 := NE.mk (Nat.lt_of_lt_of_le hI.lt.2 hb30)
  have ap_Q1_b26 : Apart Q1 b26 := hQ.apart hb30
  have ap_A1_b26 : Apart A1 b26 := O1.apart hb30
  have g_b26 := Nat.le_trans hF.size hb30
  replace hW := hW.new hN28
  replace hE := hE.new hN28
  replace hH := hH.new hN28
  replace hI := hI.new hN28
  replace hQ := hQ.new hN28
  replace O1 := O1.new hN28
  replace hF := hF.trNew hN28
  refine fx_storeS sz36 rfl rfl rfl (fr.ev rfl) (fr.ev rfl) (msgE.all _) B29 (msgE.size _) (msgE.size _) fun w31 hO32 hBq => ?_
  replace hW := hW.only hO32 (by first | exact ne_bw_b26 | exact ne_b26_bw.symm | (show ¬ bw = b26; omega))
  replace hE := hE.only hO32 (by first | exact ne_be_b26 | exact ne_b26_be.symm | (show ¬ be = b26; omega))
  replace hH := hH.only hO32 (by first | exact ne_bh_b26 | exact ne_b26_bh.symm | (show ¬ bh = b26; omega))
  replace hI := hI.only hO32 (by first | exact ne_bi_b26 | exact ne_b26_bi.symm | (show ¬ bi = b26; omega)) (by first | exact ne_ig_b26 | exact ne_b26_ig.symm | (show ¬ ig = b26; omega))
  replace hQ := hQ.only hO32 (Apart.ne1 ap_Q1_b26)
  replace O1 := O1.only hO32 (Apart.ne1 ap_A1_b26)
  replace hF := hF.loc hO32 (.inr g_b26)
  replace B29 := hBq
  clear hBq
  refine wpList_nil ?_
  refine fx_next ?_
  refine wp_seq ?_
  refine fx_heldT (n := 12) (k := 12) (fun w => Blk w bw 82 #[.slice A1 out1.length c1, .pointer (some ⟨be, 0, none⟩), .pointer (some ⟨bh, 0, none⟩), .int .u32 m.line] ∧ Blk w be 42 (entA d1 (.slice Q1 d1.q.length qc1)) ∧ Blk w bh 64 #[.pointer (some ⟨bi, 0, none⟩), .map (some r)] ∧ Img 0 w bi ig cap bs1 ∧ View msgE w Q1 qc1 d1.q ∧ Own msgE w A1 c1 out1 ∧ Blk w b26 36 (msgE.arr (d1.q.getD 0 msg0)) ∧ True) (by kernel_rfl) (by kernel_rfl) rfl ?_
  intro w33 hN34
  replace hW := hW.new hN34
  replace hE := hE.new hN34
  replace hH := hH.new hN34
  replace hI := hI.new hN34
  replace hQ := hQ.new hN34
  replace O1 := O1.new hN34
  replace B29 := B29.new hN34
  replace hF := hF.trNew hN34
  refine fx_take (i := 0) (v := .pointer (some ⟨bw, 0, none⟩)) fr rfl (by kernel_rfl) rfl rfl (by decide) (fun _ _ _ h => h) (fun _ ⟨hW, hE, hH, hI, hQ, O1, B29, _⟩ => x_move rfl (fr.ev rfl)) ⟨hW, hE, hH, hI, hQ, O1, B29, trivial⟩ ?_
  clear fr a; intro a fr
  refine fx_take (i := 1) (v := .pointer (some ⟨bw, 0, none⟩)) fr rfl (by kernel_rfl) rfl rfl (by decide) (fun _ _ _ h => h) (fun _ ⟨hW, hE, hH, hI, hQ, O1, B29, _⟩ => x_nilCheck rfl (fr.ev rfl)) ⟨hW, hE, hH, hI, hQ, O1, B29, trivial⟩ ?_
  clear fr a; intro a fr
  refine fx_take (i := 2) (v := .pointer (some ⟨bw, 1, none⟩)) fr rfl (by kernel_rfl) rfl rfl (by decide) (fun _ _ _ h => h) (fun _ ⟨hW, hE, hH, hI, hQ, O1, B29, _⟩ => x_fieldAddr fo82_1 rfl (fr.ev rfl) rfl) ⟨hW, hE, hH, hI, hQ, O1, B29, trivial⟩ ?_
  clear fr a; intro a fr
  refine fx_take (i := 3) (v := .pointer (some ⟨be, 0, none⟩)) fr rfl (by kernel_rfl) rfl rfl (by decide) (fun _ _ _ h => h) (fun _ ⟨hW, hE, hH, hI, hQ, O1, B29, _⟩ => x_load1 pl78 rfl (fr.ev rfl) (hW.cell 1 rfl)) ⟨hW, hE, hH, hI, hQ, O1, B29, trivial⟩ ?_
  clear fr a; intro a fr
  refine fx_take (i := 4) (v := .pointer (some ⟨bw, 0, none⟩)) fr rfl (by kernel_rfl) rfl rfl (by decide) (fun _ _ _ h => h) (fun _ ⟨hW, hE, hH, hI, hQ, O1, B29, _⟩ => x_move rfl (fr.ev rfl)) ⟨hW, hE, hH, hI, hQ, O1, B29, trivial⟩ ?_
  clear fr a; intro a fr
  refine fx_take (i := 5) (v := .pointer (some ⟨bw, 0, none⟩)) fr rfl (by kernel_rfl) rfl rfl (by decide) (fun _ _ _ h => h) (fun _ ⟨hW, hE, hH, hI, hQ, O1, B29, _⟩ => x_nilCheck rfl (fr.ev rfl)) ⟨hW, hE, hH, hI, hQ, O1, B29, trivial⟩ ?_
  clear fr a; intro a fr
  refine fx_take (i := 6) (v := .pointer (some ⟨bw, 1, none⟩)) fr rfl (by kernel_rfl) rfl rfl (by decide) (fun _ _ _ h => h) (fun _ ⟨hW, hE, hH, hI, hQ, O1, B29, _⟩ => x_fieldAddr fo82_1 rfl (fr.ev rfl) rfl) ⟨hW, hE, hH, hI, hQ, O1, B29, trivial⟩ ?_
  clear fr a; intro a fr
  refine fx_take (i := 7) (v := .pointer (some ⟨be, 0, none⟩)) fr rfl (by kernel_rfl) rfl rfl (by decide) (fun _ _ _ h => h) (fun _ ⟨hW, hE, hH, hI, hQ, O1, B29, _⟩ => x_load1 pl78 rfl (fr.ev rfl) (hW.cell 1 rfl)) ⟨hW, hE, hH, hI, hQ, O1, B29, trivial⟩ ?_
  clear fr a; intro a fr
  refine fx_take (i := 8) (v := .pointer (some ⟨be, 0, none⟩)) fr rfl (by kernel_rfl) rfl rfl (by decide) (fun _ _ _ h => h) (fun _ ⟨hW, hE, hH, hI, hQ, O1, B29, _⟩ => x_nilCheck rfl (fr.ev rfl)) ⟨hW, hE, hH, hI, hQ, O1, B29, trivial⟩ ?_
  clear fr a; intro a fr
  refine fx_take (i := 9) (v := .pointer (some ⟨be, 10, none⟩)) fr rfl (by kernel_rfl) rfl rfl (by decide) (fun _ _ _ h => h) (fun _ ⟨hW, hE, hH, hI, hQ, O1, B29, _⟩ => x_fieldAddr fo42_7 rfl (fr.ev rfl) rfl) ⟨hW, hE, hH, hI, hQ, O1, B29, trivial⟩ ?_
  clear fr a; intro a fr
  refine fx_take (i := 10) (v := .slice Q1 d1.q.length qc1) fr rfl (by kernel_rfl) rfl rfl (by decide) (fun _ _ _ h => h) (fun _ ⟨hW, hE, hH, hI, hQ, O1, B29, _⟩ => x_load1 pl23 rfl (fr.ev rfl) (hE.cell 10 rfl)) ⟨hW, hE, hH, hI, hQ, O1, B29, trivial⟩ ?_
  clear fr a; intro a fr
  refine fx_take (i := 11) (v := .slice (cutA Q1 qc1 1 20) (d1.q.length - 1) (qc1 - 1)) fr rfl (by kernel_rfl) rfl rfl (by decide) (fun _ _ _ h => h) (fun _ ⟨hW, hE, hH, hI, hQ, O1, B29, _⟩ => x_slice_from Try.underlying23 sz36 rfl (fr.ev rfl) rfl (by omega)) ⟨hW, hE, hH, hI, hQ, O1, B29, trivial⟩ ?_
  clear fr a; intro a fr
  refine fx_hdone (by kernel_rfl) ?_
  refine fx_tail ?_
  refine fx_val (v := .pointer (some ⟨be, 0, none⟩)) fr rfl rfl (by decide) (x_nilCheck rfl (fr.ev rfl)) ?_
  clear fr a; intro a fr
  refine fx_val (v := .pointer (some ⟨be, 10, none⟩)) fr rfl rfl (by decide) (x_fieldAddr fo42_7 rfl (fr.ev rfl) rfl) ?_
  clear fr a; intro a fr
  refine fx_store1 sz23 rfl rfl rfl (fr.ev rfl) (fr.ev rfl) rfl hE (show 10 < 11 by decide) (cs' := entA ({ d1 with q := d1.q.drop 1 }) (.slice (cutA Q1 qc1 1 20) (d1.q.length - 1) (qc1 - 1))) rfl fun w35 hO36 hBq => ?_
  replace hW := hW.only hO36 (by first | exact ne_bw_be | exact ne_be_bw.symm | (show ¬ bw = be; omega))
  replace hH := hH.only hO36 (by first | exact ne_bh_be | exact ne_be_bh.symm | (show ¬ bh = be; omega))
  replace hI := hI.only hO36 (by first | exact ne_bi_be | exact ne_be_bi.symm | (show ¬ bi = be; omega)) (by first | exact ne_ig_be | exact ne_be_ig.symm | (show ¬ ig = be; omega))
  replace hQ := hQ.only hO36 (Apart.ne1 ap_Q1_be)
  replace O1 := O1.only hO36 (Apart.ne1 ap_A1_be)
  replace B29 := B29.only hO36 (by first | exact ne_b26_be | exact ne_be_b26.symm | (show ¬ b26 = be; omega))
  replace hF := hF.loc hO36 (.inl (.inr (.inl rfl)))
  replace hE := hBq
  clear hBq
  refine wpList_nil ?_
  refine fx_next ?_
  have hQ2v := hQ.drop 1 (by omega)
  have hcut : ∀ g, inA (cutA Q1 qc1 1 20) g → inA Q1 g := fun g hg => cut_in hQ hg
  have hE2 : Blk w35 be 42 (entA { d1 with q := d1.q.drop 1 } (.slice (cutA Q1 qc1 1 20) (d1.q.drop 1).length (qc1 - 1))) := by rw [List.length_drop]; exact hE
  clear hE
  change View msgE w35 (cutA Q1 qc1 1 20) (qc1 - 1) _ at hQ2v
  have ap_Q2_bw : Apart (cutA Q1 qc1 1 20) bw := fun h => ap_Q1_bw (hcut _ h)
  have ap_Q2_be : Apart (cutA Q1 qc1 1 20) be := fun h => ap_Q1_be (hcut _ h)
  have ap_Q2_bh : Apart (cutA Q1 qc1 1 20) bh := fun h => ap_Q1_bh (hcut _ h)
  have ap_Q2_bi : Apart (cutA Q1 qc1 1 20) bi := fun h => ap_Q1_bi (hcut _ h)
  have ap_Q2_ig : Apart (cutA Q1 qc1 1 20) ig := fun h => ap_Q1_ig (hcut _ h)
  have ap_Q2_b26 : Apart (cutA Q1 qc1 1 20) b26 := fun h => ap_Q1_b26 (hcut _ h)
  have ap2_Q2_A1 : Apart2 (cutA Q1 qc1 1 20) A1 := fun k h1 h2 => ap2_Q1_A1 k (hcut k h1) h2
  have gA_Q2 : ∀ g, inA (cutA Q1 qc1 1 20) g → _ := fun g hg => gA_Q1 g (hcut g hg)
  clear hQ hcut
  generalize cutA Q1 qc1 1 20 = Q2 at fr hE2 hQ2v ap_Q2_bw ap_Q2_be ap_Q2_bh ap_Q2_bi ap_Q2_ig ap_Q2_b26 ap2_Q2_A1 gA_Q2
  have hE := hE2
  have hQ := hQ2v
  clear hE2 hQ2v
  replace fr := fr.sub (T' := [(0, .pointer (some ⟨bw, 0, none⟩)), (4, .pointer (some ⟨b26, 0, none⟩))]) ⟨rfl, rfl, trivial⟩
  refine wp_region_lit ?_
  refine fx_val (v := .pointer (some ⟨bw, 0, none⟩)) fr rfl rfl (by decide) (x_move rfl (fr.ev rfl)) ?_
  clear fr a; intro a fr
  refine fx_val (v := .agg (msgE.arr (d1.q.getD 0 msg0))) fr rfl rfl (by decide) (x_loadE (E := msgE) ag36 rfl rfl (fr.ev rfl) (B29.rangeE msgE)) ?_
  clear fr a; intro a fr
  refine fx_call fr rfl rfl (by decide) (x_call (vs := [.pointer (some ⟨bw, 0, none⟩), .agg (msgE.arr (d1.q.getD 0 msg0))]) rfl rfl ⟨(fr.ev rfl), (fr.ev rfl), trivial⟩ Try.func48 nm48 rfl) (begin_l (d1.q.getD 0 msg0) ⟨hW, hE, hH, hI, hQ, O1, ⟨ne_bw_be, ne_bw_bh, ne_bw_bi, ne_bw_ig, ne_be_bh, ne_be_bi, ne_be_ig, ne_bh_bi, ne_bh_ig, ne_bi_ig, ap_Q2_bw, ap_Q2_be, ap_Q2_bh, ap_Q2_bi, ap_Q2_ig, ap_A1_bw, ap_A1_be, ap_A1_bh, ap_A1_bi, ap_A1_ig, ap2_Q2_A1⟩⟩ (by first | omega | (simp only [List.length_append, List.length_cons, List.length_nil, List.length_map, List.length_take]; omega)) hq1.2.2.1 ⟨hq1.1, hq1.2.1⟩ hq1.2.2.2) ?_
  clear fr a
  rintro v w42 ⟨rfl, A37, ac38, R39, mv40, hN43⟩ a fr
  have ap_A37_b26 : Apart A37 b26 := moved_apart mv40 ap_A1_b26 B29.lt
  have gA_A37 := gA_moved hF mv40 gA_A1
  replace B29 := B29.only hN43 (fun h => h.elim (by first | exact ne_b26_bw | exact ne_bw_b26.symm | (show ¬ b26 = bw; omega)) (fun h => h.elim (by first | exact ne_b26_be | exact ne_be_b26.symm | (show ¬ b26 = be; omega)) (fun h => h.elim (by first | exact ne_b26_ig | exact ne_ig_b26.symm | (show ¬ b26 = ig; omega)) ap_A1_b26)))
  replace hF := hF.locS hN43 (fun i => (fun h => h.elim (fun e => by rw [e]; exact (.inl (.inl rfl))) (fun h => h.elim (fun e => by rw [e]; exact (.inl (.inr (.inl rfl)))) (fun h => h.elim (fun e => by rw [e]; exact (.inl (.inr (.inr (.inl rfl))))) (fun h => gA_A1 i h)))))
  clear hW hE hH hI hQ O1
  obtain ⟨hW, hE, hH, hI, hQ, O41, hS⟩ := R39
  have ap_A37_bw := hS.ap_A_bw
  have ap_A37_be := hS.ap_A_be
  have ap_A37_bh := hS.ap_A_bh
  have ap_A37_bi := hS.ap_A_bi
  have ap_A37_ig := hS.ap_A_ig
  have ap2_Q2_A37 := hS.ap2_Q_A
  have ap_Q2_bw := hS.ap_Q_bw
  have ap_Q2_be := hS.ap_Q_be
  have ap_Q2_bh := hS.ap_Q_bh
  have ap_Q2_bi := hS.ap_Q_bi
  have ap_Q2_ig := hS.ap_Q_ig
  refine wpList_nil ?_
  refine fx_blk ?_
  refine fx_next ?_
  have hbl := begin_len (bs := bs1) (d := { d1 with q := d1.q.drop 1 }) (m := d1.q.getD 0 msg0)
  have hbq := begin_qn (bs := bs1) (d := d1) (m := d1.q.getD 0 msg0)
  exact ⟨_, (by rw [hbq]; omega), (beginF bs1 { d1 with q := d1.q.drop 1 } (d1.q.getD 0 msg0)).1, (beginF bs1 { d1 with q := d1.q.drop 1 } (d1.q.getD 0 msg0)).2.1, Q2, (qc1 - 1), A37, ac38, (out1 ++ (beginF bs1 { d1 with q := d1.q.drop 1 } (d1.q.getD 0 msg0)).2.2), rfl, fr.sub ⟨rfl, trivial⟩, hF, hW, hE, hH, hI, hQ, O41, (drain_step hgo.1 hgo.2 _).trans hp0, fun x hx => hp1 x (begin_ql hx), (by rw [List.length_append, hbq]; omega), ap_Q2_bw, ap_A37_bw, ap_Q2_be, ap_A37_be, ap_Q2_bh, ap_A37_bh, ap_Q2_bi, ap_Q2_ig, ap_A37_bi, ap_A37_ig, ap2_Q2_A37, gA_Q2, gA_A37⟩
 ·skip
  have hc22s := hc22
  try simp at hc22s
  refine wp_exit ?_
  refine fx_xt ?_
  refine fx_xt ?_
  refine fx_xx ?_
  refine fx_end fr [] [] rfl trivial rfl ?_
  have e0 := hp0
  rw [drain_end (drain_stop hc22)] at e0
  simp only [addF, Prod.mk.injEq] at e0
  obtain ⟨rfl, rfl, rfl⟩ := e0
  rw [other_d hk]
  exact ⟨_, rfl, rfl, Q1, qc1, A1, c1, ⟨hW, hE, hH, hI, hQ, O1, ⟨ne_bw_be, ne_bw_bh, ne_bw_bi, ne_bw_ig, ne_be_bh, ne_be_bi, ne_be_ig, ne_bh_bi, ne_bh_ig, ne_bi_ig, ap_Q1_bw, ap_Q1_be, ap_Q1_bh, ap_Q1_bi, ap_Q1_ig, ap_A1_bw, ap_A1_be, ap_A1_bh, ap_A1_bi, ap_A1_ig, ap2_Q1_A1⟩⟩, hmv gA_A1 ap_A1_bw ap_A1_be ap_A1_ig, hmv gA_Q1 ap_Q1_bw ap_Q1_be ap_Q1_ig, hF⟩
end Go.Proofs.Ytdiaemlgghfecaa
