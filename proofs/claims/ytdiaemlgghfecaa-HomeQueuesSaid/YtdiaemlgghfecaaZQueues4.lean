/-
  Part 4 of what the claim stands on: walks through the code, plain laws.
-/
import Derived.Test.YtdiaemlgghfecaaZQueues3
namespace Go.Proofs.Ytdiaemlgghfecaa
open Go.RowKit
set_option maxRecDepth 100000 in
set_option maxHeartbeats 4000000 in
theorem msgs_c {w : World} {A B : Option Addr} {ca cb : Nat} {la lb : List Msg} (hV : View msgE w A ca la) (hW : View msgE w B cb lb) : Calls Try.prog 20 #[.slice A la.length ca, .slice B lb.length cb] w (Ret fun v w' => v = .bool (decide (la = lb)) ∧ New w w') := by
 have hVl := hV.len
 have hWl := hW.len
 unfold maxLen at hVl hWl
 have hF := Only.refl (fun _ => False) w
 refine Zen 26 Try.func20 ?_
 refine Zsr ?_
 refine Za ?_
 refine Znn ?_
 refine Zsq ?_
 refine Zsr ?_
 refine Zm ?_
 refine Zv _ (fun _ fr => x_len Try.underlying23 rfl (fr.ev rfl)) ?_
 refine Zm ?_
 refine Zv _ (fun _ fr => x_len Try.underlying23 rfl (fr.ev rfl)) ?_
 refine Zv _ (fun _ fr => x_neq rfl (fr.ev rfl) (fr.ev rfl) rfl) ?_
 refine Znn ?_
 refine Zcd (fun hc1 => ?_) (fun hc1 => ?_)
 ·have hc1 := of_decide_eq_true hc1
  refine Zsr ?_
  refine Za ?_
  refine Znn ?_
  refine Zrt ?_
  refine Zr1 ?_
  refine Zre rfl [_] ⟨rfl, trivial⟩ ?_
  exact ⟨_, rfl, congrArg Value.bool (decide_eq_false fun he => hc1 (by rw [he])).symm, hF⟩
 ·have hc1 := of_decide_eq_false hc1
  refine Zsk ?_
  refine Znx ?_
  refine Zsq ?_
  refine Zsr ?_
  refine Za ?_
  refine Znn ?_
  refine Zbl ?_
  intro a fr
  refine fx_loop (fun nM a wL => ∃ i : Nat, nM = la.length - i ∧ Fr (26, []) [(0, .slice A la.length ca), (1, .slice B lb.length cb), (5, .int .i64 ((i : Nat) : Int)), (4, .bool false)] a ∧ Only (fun _ => False) w wL ∧ View msgE wL A ca la ∧ View msgE wL B cb lb ∧ i ≤ la.length ∧ (∀ j, j < i → la.getD j msg0 = lb.getD j msg0)) (n0 := _) ⟨0, rfl, fr.sub ⟨rfl, rfl, rfl, rfl, trivial⟩, hF, hV, hW, by omega, (fun j hj => absurd hj (by omega))⟩ ?_
  clear fr a
  rintro n3 a w2 ⟨i, rfl, fr, hF, hV, hW, hi, hall⟩
  revert a
  refine Zsq ?_
  refine Zsr ?_
  refine Zm ?_
  refine Zm ?_
  refine Zv _ (fun _ fr => x_len Try.underlying23 rfl (fr.ev rfl)) ?_
  refine Zv _ (fun _ fr => x_lss rfl (fr.ev rfl) (fr.ev rfl) rfl) ?_
  refine Znn ?_
  refine Zcd (fun hc4 => ?_) (fun hc4 => ?_)
  ·have hc4 := of_decide_eq_true hc4
   refine Zsk ?_
   refine Znx ?_
   refine Zsq ?_
   refine Zbl ?_
   refine Zsq ?_
   refine Zhd (n := 9) (fun w => View msgE w A ca la ∧ View msgE w B cb lb ∧ True) ?_
   intro w5 hN6
   replace hV := hV.new hN6
   replace hW := hW.new hN6
   have hS9 := And.intro hV (And.intro hW trivial)
   refine Zhm 0 hS9 ?_
   refine Zhm 1 hS9 ?_
   obtain ⟨g7, o8, hA9⟩ := (hV).some_ (by first | omega | decide)
   have hS9 := And.intro hV (And.intro hW trivial)
   refine Zht 2 rfl (.pointer (some ⟨g7, o8 + i * 20, none⟩)) hS9 (fun _ fr _ _ => x_indexV Try.underlying23 sz36 rfl (fr.ev rfl) hA9 (fr.ev rfl) (by first | omega | decide) rfl) ?_
   refine ZhE 3 msgE ag36 hS9 (fun _ ⟨hV, _⟩ => ((hV).elem hA9 i msg0 (by omega))) ?_
   refine Zhm 4 hS9 ?_
   refine Zhm 5 hS9 ?_
   obtain ⟨g10, o11, hA12⟩ := (hW).some_ (by first | omega | decide)
   have hS9 := And.intro hV (And.intro hW trivial)
   refine Zht 6 rfl (.pointer (some ⟨g10, o11 + i * 20, none⟩)) hS9 (fun _ fr _ _ => x_indexV Try.underlying23 sz36 rfl (fr.ev rfl) hA12 (fr.ev rfl) (by first | omega | decide) rfl) ?_
   refine ZhE 7 msgE ag36 hS9 (fun _ ⟨_, hW, _⟩ => ((hW).elem hA12 i msg0 (by omega))) ?_
   refine Zht 8 rfl _ hS9 (fun _ fr _ _ => x_neE msgER rfl rfl (fr.ev rfl) (fr.ev rfl) rfl) ?_
   refine Zhn ?_
   refine Znx ?_
   refine Zcd (fun hc13 => ?_) (fun hc13 => ?_)
   ·refine Zsr ?_
    refine Za ?_
    refine Znn ?_
    refine Zrt ?_
    refine Zr2 ?_
    refine Zr1 ?_
    refine Zr1 ?_
    refine Zr2 ?_
    refine Zr1 ?_
    refine Zre rfl [_] ⟨rfl, trivial⟩ ?_
    replace hF := hF.trNew hN6
    exact ⟨_, rfl, congrArg Value.bool (decide_eq_false fun he => by rw [he] at hc13; simp at hc13).symm, hF⟩
   ·refine Zsk ?_
    refine Zb ?_
    refine Znx ?_
    refine Zrg ?_
    refine Zm ?_
    refine Zv _ (fun _ fr => x_add rfl (fr.ev rfl) rfl (i64w (r := ((i + 1 : Nat) : Int)) (by omega) (by omega))) ?_
    refine Za ?_
    intro a fr
    refine wpList_nil ?_
    refine fx_next ?_
    replace hF := hF.trNew hN6
    exact ⟨_, by omega, (i + 1), rfl, fr.sub ⟨rfl, rfl, rfl, rfl, trivial⟩, hF, hV, hW, by omega, fun j hj => by rcases Nat.lt_succ_iff_lt_or_eq.1 hj with h | rfl; exact hall j h; simpa using hc13⟩
  ·have hc4 := of_decide_eq_false hc4
   refine Zex ?_
   refine Zxt ?_
   refine Zxt ?_
   refine Zxx ?_
   refine Znx ?_
   refine Zsr ?_
   refine Za ?_
   refine Znn ?_
   refine Zrt ?_
   refine Zre rfl [_] ⟨rfl, trivial⟩ ?_
   exact ⟨_, rfl, congrArg Value.bool (decide_eq_true (ext_getD msg0 (by omega) fun j hj => hall j (by omega))).symm, hF⟩
theorem sament_t {d e : Ent} (h : ((((((decide (d.o = e.o) && decide (d.sh = e.sh)) && (d.busy == e.busy)) && decide (d.asks = e.asks)) && decide (d.kind = e.kind)) && decide (d.waits = e.waits)) && (d.told == e.told)) = true) : decide (d.q = e.q) = decide (d = e) := by
  simp only [Bool.and_eq_true, decide_eq_true_eq, beq_iff_eq] at h
  obtain ⟨⟨⟨⟨⟨⟨h1, h2⟩, h3⟩, h4⟩, h5⟩, h6⟩, h7⟩ := h
  by_cases hq : d.q = e.q
  · rw [decide_eq_true hq, decide_eq_true ((Ent.eq_iff d e).2 ⟨h1, h2, h3, h4, h5, h6, h7, hq⟩)]
  · rw [decide_eq_false hq, decide_eq_false fun h => hq (by rw [h])]
theorem sament_f {d e : Ent} (h : ((((((decide (d.o = e.o) && decide (d.sh = e.sh)) && (d.busy == e.busy)) && decide (d.asks = e.asks)) && decide (d.kind = e.kind)) && decide (d.waits = e.waits)) && (d.told == e.told)) = false) : false = decide (d = e) := by
  refine (decide_eq_false fun hde => ?_).symm
  subst hde
  simp at h
set_option maxRecDepth 100000 in
set_option maxHeartbeats 4000000 in
theorem sament_c {w : World} {Q R : Option Addr} {qc rc : Nat} {d e : Ent} (hQ : View msgE w Q qc d.q) (hR : View msgE w R rc e.q) : Calls Try.prog 14 #[.agg (entA d (.slice Q d.q.length qc)), .agg (entA e (.slice R e.q.length rc))] w (Ret fun v w' => v = .bool (decide (d = e)) ∧ New w w') := by
 have hF := Only.refl (fun _ => False) w
 refine Zen 59 Try.func14 ?_
 refine Zsr ?_
 refine Znb (cs := entA d (.slice Q d.q.length qc)) fun b1 w2 hN3 B4 hb5 => ?_
 refine Znb (cs := entA e (.slice R e.q.length rc)) fun b6 w7 hN8 B9 hb10 => ?_
 refine Za ?_
 refine Znn ?_
 refine Zsr ?_
 refine Zf fo42_0 ?_
 replace B4 := B4.new hN8
 refine Zd (v := .int .i64 d.o) pl3 (B4.cell 0 rfl) ?_
 refine Zf fo42_0 ?_
 refine Zd (v := .int .i64 e.o) pl3 (B9.cell 0 rfl) ?_
 refine Zv _ (fun _ fr => x_eql rfl (fr.ev rfl) (fr.ev rfl) rfl) ?_
 refine Zm ?_
 refine Zy (decide (d.o = e.o)) _ (fun _ fr _ => x_fieldAddr fo42_1 rfl (fr.ev rfl) rfl) ?_
 refine Zy (decide (d.o = e.o)) _ (fun _ fr hg => x_loadS ag40 rfl ((fr.ev rfl).trans (onlyIf_t hg)) rfl (B4.part (q := 1) (n := 4) rfl)) ?_
 refine Zy (decide (d.o = e.o)) _ (fun _ fr _ => x_fieldAddr fo42_1 rfl (fr.ev rfl) rfl) ?_
 refine Zy (decide (d.o = e.o)) _ (fun _ fr hg => x_loadS ag40 rfl ((fr.ev rfl).trans (onlyIf_t hg)) rfl (B9.part (q := 1) (n := 4) rfl)) ?_
 refine Zy (decide (d.o = e.o)) _ (fun _ fr hg => x_eqSh (s := d.sh) (s' := e.sh) rfl ((fr.ev rfl).trans (onlyIf_t hg)) ((fr.ev rfl).trans (onlyIf_t hg)) rfl) ?_
 refine Zv (.bool ((decide (d.o = e.o)) && (decide (d.sh = e.sh)))) (fun _ fr => x_pick_and rfl (fr.ev rfl) (fun hb => ((fr.ev rfl)).trans (onlyIf_t (by simp_all))) (fun _ => rfl) rfl) ?_
 refine Zm ?_
 refine Zy ((decide (d.o = e.o)) && (decide (d.sh = e.sh))) _ (fun _ fr _ => x_fieldAddr fo42_2 rfl (fr.ev rfl) rfl) ?_
 refine Zy ((decide (d.o = e.o)) && (decide (d.sh = e.sh))) (.bool d.busy) (fun _ fr hg => x_load1 pl4 rfl ((fr.ev rfl).trans (onlyIf_t hg)) (B4.cell 5 rfl)) ?_
 refine Zy ((decide (d.o = e.o)) && (decide (d.sh = e.sh))) _ (fun _ fr _ => x_fieldAddr fo42_2 rfl (fr.ev rfl) rfl) ?_
 refine Zy ((decide (d.o = e.o)) && (decide (d.sh = e.sh))) (.bool e.busy) (fun _ fr hg => x_load1 pl4 rfl ((fr.ev rfl).trans (onlyIf_t hg)) (B9.cell 5 rfl)) ?_
 refine Zy ((decide (d.o = e.o)) && (decide (d.sh = e.sh))) _ (fun _ fr hg => x_beql Try.underlying4 rfl ((fr.ev rfl).trans (onlyIf_t hg)) ((fr.ev rfl).trans (onlyIf_t hg)) rfl) ?_
 refine Zv (.bool (((decide (d.o = e.o)) && (decide (d.sh = e.sh))) && (d.busy == e.busy))) (fun _ fr => x_pick_and rfl (fr.ev rfl) (fun hb => ((fr.ev rfl)).trans (onlyIf_t (by simp_all))) (fun _ => rfl) rfl) ?_
 refine Zm ?_
 refine Zy (((decide (d.o = e.o)) && (decide (d.sh = e.sh))) && (d.busy == e.busy)) _ (fun _ fr _ => x_fieldAddr fo42_3 rfl (fr.ev rfl) rfl) ?_
 refine Zy (((decide (d.o = e.o)) && (decide (d.sh = e.sh))) && (d.busy == e.busy)) _ (fun _ fr hg => x_load1 pl3 rfl ((fr.ev rfl).trans (onlyIf_t hg)) (B4.cell 6 rfl)) ?_
 refine Zy (((decide (d.o = e.o)) && (decide (d.sh = e.sh))) && (d.busy == e.busy)) _ (fun _ fr _ => x_fieldAddr fo42_3 rfl (fr.ev rfl) rfl) ?_
 refine Zy (((decide (d.o = e.o)) && (decide (d.sh = e.sh))) && (d.busy == e.busy)) _ (fun _ fr hg => x_load1 pl3 rfl ((fr.ev rfl).trans (onlyIf_t hg)) (B9.cell 6 rfl)) ?_
 refine Zy (((decide (d.o = e.o)) && (decide (d.sh = e.sh))) && (d.busy == e.busy)) _ (fun _ fr hg => x_eql rfl ((fr.ev rfl).trans (onlyIf_t hg)) ((fr.ev rfl).trans (onlyIf_t hg)) rfl) ?_
 refine Zv (.bool ((((decide (d.o = e.o)) && (decide (d.sh = e.sh))) && (d.busy == e.busy)) && (decide (d.asks = e.asks)))) (fun _ fr => x_pick_and rfl (fr.ev rfl) (fun hb => ((fr.ev rfl)).trans (onlyIf_t (by simp_all))) (fun _ => rfl) rfl) ?_
 refine Zm ?_
 refine Zy ((((decide (d.o = e.o)) && (decide (d.sh = e.sh))) && (d.busy == e.busy)) && (decide (d.asks = e.asks))) _ (fun _ fr _ => x_fieldAddr fo42_4 rfl (fr.ev rfl) rfl) ?_
 refine Zy ((((decide (d.o = e.o)) && (decide (d.sh = e.sh))) && (d.busy == e.busy)) && (decide (d.asks = e.asks))) _ (fun _ fr hg => x_load1 pl33 rfl ((fr.ev rfl).trans (onlyIf_t hg)) (B4.cell 7 rfl)) ?_
 refine Zy ((((decide (d.o = e.o)) && (decide (d.sh = e.sh))) && (d.busy == e.busy)) && (decide (d.asks = e.asks))) _ (fun _ fr _ => x_fieldAddr fo42_4 rfl (fr.ev rfl) rfl) ?_
 refine Zy ((((decide (d.o = e.o)) && (decide (d.sh = e.sh))) && (d.busy == e.busy)) && (decide (d.asks = e.asks))) _ (fun _ fr hg => x_load1 pl33 rfl ((fr.ev rfl).trans (onlyIf_t hg)) (B9.cell 7 rfl)) ?_
 refine Zy ((((decide (d.o = e.o)) && (decide (d.sh = e.sh))) && (d.busy == e.busy)) && (decide (d.asks = e.asks))) _ (fun _ fr hg => x_eql rfl ((fr.ev rfl).trans (onlyIf_t hg)) ((fr.ev rfl).trans (onlyIf_t hg)) rfl) ?_
 refine Zv (.bool (((((decide (d.o = e.o)) && (decide (d.sh = e.sh))) && (d.busy == e.busy)) && (decide (d.asks = e.asks))) && (decide (d.kind = e.kind)))) (fun _ fr => x_pick_and rfl (fr.ev rfl) (fun hb => ((fr.ev rfl)).trans (onlyIf_t (by simp_all))) (fun _ => rfl) rfl) ?_
 refine Zm ?_
 refine Zy (((((decide (d.o = e.o)) && (decide (d.sh = e.sh))) && (d.busy == e.busy)) && (decide (d.asks = e.asks))) && (decide (d.kind = e.kind))) _ (fun _ fr _ => x_fieldAddr fo42_5 rfl (fr.ev rfl) rfl) ?_
 refine Zy (((((decide (d.o = e.o)) && (decide (d.sh = e.sh))) && (d.busy == e.busy)) && (decide (d.asks = e.asks))) && (decide (d.kind = e.kind))) _ (fun _ fr hg => x_load1 pl3 rfl ((fr.ev rfl).trans (onlyIf_t hg)) (B4.cell 8 rfl)) ?_
 refine Zy (((((decide (d.o = e.o)) && (decide (d.sh = e.sh))) && (d.busy == e.busy)) && (decide (d.asks = e.asks))) && (decide (d.kind = e.kind))) _ (fun _ fr _ => x_fieldAddr fo42_5 rfl (fr.ev rfl) rfl) ?_
 refine Zy (((((decide (d.o = e.o)) && (decide (d.sh = e.sh))) && (d.busy == e.busy)) && (decide (d.asks = e.asks))) && (decide (d.kind = e.kind))) _ (fun _ fr hg => x_load1 pl3 rfl ((fr.ev rfl).trans (onlyIf_t hg)) (B9.cell 8 rfl)) ?_
 refine Zy (((((decide (d.o = e.o)) && (decide (d.sh = e.sh))) && (d.busy == e.busy)) && (decide (d.asks = e.asks))) && (decide (d.kind = e.kind))) _ (fun _ fr hg => x_eql rfl ((fr.ev rfl).trans (onlyIf_t hg)) ((fr.ev rfl).trans (onlyIf_t hg)) rfl) ?_
 refine Zv (.bool ((((((decide (d.o = e.o)) && (decide (d.sh = e.sh))) && (d.busy == e.busy)) && (decide (d.asks = e.asks))) && (decide (d.kind = e.kind))) && (decide (d.waits = e.waits)))) (fun _ fr => x_pick_and rfl (fr.ev rfl) (fun hb => ((fr.ev rfl)).trans (onlyIf_t (by simp_all))) (fun _ => rfl) rfl) ?_
 refine Zm ?_
 refine Zy ((((((decide (d.o = e.o)) && (decide (d.sh = e.sh))) && (d.busy == e.busy)) && (decide (d.asks = e.asks))) && (decide (d.kind = e.kind))) && (decide (d.waits = e.waits))) _ (fun _ fr _ => x_fieldAddr fo42_6 rfl (fr.ev rfl) rfl) ?_
 refine Zy ((((((decide (d.o = e.o)) && (decide (d.sh = e.sh))) && (d.busy == e.busy)) && (decide (d.asks = e.asks))) && (decide (d.kind = e.kind))) && (decide (d.waits = e.waits))) (.bool d.told) (fun _ fr hg => x_load1 pl4 rfl ((fr.ev rfl).trans (onlyIf_t hg)) (B4.cell 9 rfl)) ?_
 refine Zy ((((((decide (d.o = e.o)) && (decide (d.sh = e.sh))) && (d.busy == e.busy)) && (decide (d.asks = e.asks))) && (decide (d.kind = e.kind))) && (decide (d.waits = e.waits))) _ (fun _ fr _ => x_fieldAddr fo42_6 rfl (fr.ev rfl) rfl) ?_
 refine Zy ((((((decide (d.o = e.o)) && (decide (d.sh = e.sh))) && (d.busy == e.busy)) && (decide (d.asks = e.asks))) && (decide (d.kind = e.kind))) && (decide (d.waits = e.waits))) (.bool e.told) (fun _ fr hg => x_load1 pl4 rfl ((fr.ev rfl).trans (onlyIf_t hg)) (B9.cell 9 rfl)) ?_
 refine Zy ((((((decide (d.o = e.o)) && (decide (d.sh = e.sh))) && (d.busy == e.busy)) && (decide (d.asks = e.asks))) && (decide (d.kind = e.kind))) && (decide (d.waits = e.waits))) _ (fun _ fr hg => x_beql Try.underlying4 rfl ((fr.ev rfl).trans (onlyIf_t hg)) ((fr.ev rfl).trans (onlyIf_t hg)) rfl) ?_
 refine Zv (.bool (((((((decide (d.o = e.o)) && (decide (d.sh = e.sh))) && (d.busy == e.busy)) && (decide (d.asks = e.asks))) && (decide (d.kind = e.kind))) && (decide (d.waits = e.waits))) && (d.told == e.told))) (fun _ fr => x_pick_and rfl (fr.ev rfl) (fun hb => ((fr.ev rfl)).trans (onlyIf_t (by simp_all))) (fun _ => rfl) rfl) ?_
 refine Zm ?_
 refine Zy (((((((decide (d.o = e.o)) && (decide (d.sh = e.sh))) && (d.busy == e.busy)) && (decide (d.asks = e.asks))) && (decide (d.kind = e.kind))) && (decide (d.waits = e.waits))) && (d.told == e.told)) _ (fun _ fr _ => x_fieldAddr fo42_7 rfl (fr.ev rfl) rfl) ?_
 refine Zy (((((((decide (d.o = e.o)) && (decide (d.sh = e.sh))) && (d.busy == e.busy)) && (decide (d.asks = e.asks))) && (decide (d.kind = e.kind))) && (decide (d.waits = e.waits))) && (d.told == e.told)) _ (fun _ fr hg => x_load1 pl23 rfl ((fr.ev rfl).trans (onlyIf_t hg)) (B4.cell 10 rfl)) ?_
 refine Zy (((((((decide (d.o = e.o)) && (decide (d.sh = e.sh))) && (d.busy == e.busy)) && (decide (d.asks = e.asks))) && (decide (d.kind = e.kind))) && (decide (d.waits = e.waits))) && (d.told == e.told)) _ (fun _ fr _ => x_fieldAddr fo42_7 rfl (fr.ev rfl) rfl) ?_
 refine Zy (((((((decide (d.o = e.o)) && (decide (d.sh = e.sh))) && (d.busy == e.busy)) && (decide (d.asks = e.asks))) && (decide (d.kind = e.kind))) && (decide (d.waits = e.waits))) && (d.told == e.told)) _ (fun _ fr hg => x_load1 pl23 rfl ((fr.ev rfl).trans (onlyIf_t hg)) (B9.cell 10 rfl)) ?_
 rcases Bool.eq_false_or_eq_true (((((((decide (d.o = e.o)) && (decide (d.sh = e.sh))) && (d.busy == e.busy)) && (decide (d.asks = e.asks))) && (decide (d.kind = e.kind))) && (decide (d.waits = e.waits))) && (d.told == e.told)) with hc11 | hc11
 ·intro a fr
  rw [hc11] at fr
  revert a
  have hc11s := hc11
  try simp at hc11s
  replace hQ := (hQ.new hN3).new hN8
  replace hR := (hR.new hN3).new hN8
  refine Zkx (fun _ fr => x_call (vs := [.slice Q d.q.length qc, .slice R e.q.length rc]) rfl rfl ⟨((fr.ev rfl).trans (onlyIf_t rfl)), ((fr.ev rfl).trans (onlyIf_t rfl)), trivial⟩ Try.func20 nm20 rfl) (msgs_c (la := d.q) (lb := e.q) (hQ) (hR)) ?_
  rintro v w12 ⟨rfl, hN13⟩
  refine Zpt ?_
  refine Za ?_
  refine Znn ?_
  refine Zrt ?_
  refine Zre rfl [_] ⟨rfl, trivial⟩ ?_
  replace hF := ((hF.trNew hN3).trNew hN8).trNew hN13
  exact ⟨_, rfl, congrArg Value.bool (sament_t hc11), hF⟩
 ·intro a fr
  rw [hc11] at fr
  revert a
  have hc11s := hc11
  try simp at hc11s
  refine Zs ?_
  refine Zpf ?_
  refine Za ?_
  refine Znn ?_
  refine Zrt ?_
  refine Zre rfl [_] ⟨rfl, trivial⟩ ?_
  replace hF := (hF.trNew hN3).trNew hN8
  exact ⟨_, rfl, congrArg Value.bool (sament_f hc11), hF⟩
set_option maxRecDepth 100000 in
set_option maxHeartbeats 4000000 in
theorem mod_p (p : Int) (n : Nat) (h1 : 1 ≤ n) (hn : n ≤ 1000000) (w : World) : Calls Try.prog 15 #[.int .i64 p, .int .i64 ((n : Nat) : Int)] w (Ret fun v w' => v = .int .i64 (modF p ((n : Nat) : Int)) ∧ w' = w) := by
 have hbd := tmod_bd p n h1
 have h1n : ¬ ((n : Nat) : Int) < 1 := by omega
 refine Zen 17 Try.func15 ?_
 refine Zsr ?_
 refine Za ?_
 refine Znn ?_
 refine Zsq ?_
 refine Zsr ?_
 refine Zm ?_
 refine Zv (.bool false) (fun _ fr => x_lss rfl (fr.ev rfl) rfl (decide_eq_false h1n)) ?_
 refine Znn ?_
 refine Zcf ?_
 refine Zsk ?_
 refine Znx ?_
 refine Zsr ?_
 refine Zm ?_
 refine Zm ?_
 refine Zv (.int .i64 (Int.tmod p ((n : Nat) : Int))) (fun _ fr => x_rem rfl (fr.ev rfl) (fr.ev rfl) (by omega) rfl) ?_
 refine Za ?_
 refine Znn ?_
 refine Zsq ?_
 refine Zsr ?_
 refine Zm ?_
 refine Zv _ (fun _ fr => x_lss rfl (fr.ev rfl) rfl rfl) ?_
 refine Znn ?_
 refine Zcd (fun hc1 => ?_) (fun hc1 => ?_)
 ·have hc1 := of_decide_eq_true hc1
  refine Zrg ?_
  refine Zm ?_
  refine Zm ?_
  refine Zv _ (fun _ fr => x_add rfl (fr.ev rfl) (fr.ev rfl) (i64w (r := Int.tmod p ((n : Nat) : Int) + ((n : Nat) : Int)) (by omega) (by omega))) ?_
  refine Za ?_
  refine Znn ?_
  refine Zsr ?_
  refine Zm ?_
  refine Za ?_
  refine Znn ?_
  refine Zrt ?_
  refine Zre rfl [_] ⟨rfl, trivial⟩ ?_
  exact ⟨_, rfl, congrArg (Value.int .i64) (by rw [modF, if_neg (by omega), Int.toNat_natCast]; exact pick_neg (by omega) hc1), rfl⟩
 ·have hc1 := of_decide_eq_false hc1
  refine Zsk ?_
  refine Znx ?_
  refine Zsr ?_
  refine Zm ?_
  refine Za ?_
  refine Znn ?_
  refine Zrt ?_
  refine Zre rfl [_] ⟨rfl, trivial⟩ ?_
  exact ⟨_, rfl, congrArg (Value.int .i64) (by rw [modF, if_neg (by omega), Int.toNat_natCast]; exact pick_pos (by omega) hc1), rfl⟩
set_option maxRecDepth 100000 in
set_option maxHeartbeats 4000000 in
theorem answer_c (m : Msg) (b : Int) (hb : 0 ≤ b ∧ b < 256) (w : World) : Calls Try.prog 16 #[.agg (msgE.arr m), .int .u8 b] w (Ret fun v w' => v = .tuple #[.agg (msgE.arr (ansF m b hb).1), .bool (ansF m b hb).2] ∧ New w w') := by
 have hmn := m.hn
 have hF := Only.refl (fun _ => False) w
 refine fx_enter Try.func16 rfl (N := (37, [])) (T := [(0, .agg (msgE.arr m)), (1, .int .u8 b)]) rfl (show 2 ≤ 37 by decide) ⟨rfl, rfl, trivial⟩ fun a fr => ?_
 refine wp_seq ?_
 refine wp_region_lit ?_
 refine fx_new fr rfl rfl (by decide) (x_box (cs := msgE.arr m) rfl (fr.ev rfl) rfl) ?_
 clear fr a
 intro b1 w2 hN3 B4 hb5 a fr
 have g_b1 := Nat.le_trans hF.size hb5
 replace hF := hF.trNew hN3
 refine fx_new fr rfl rfl (by decide) (x_alloc (z := .agg (#[.int .i64 0, .int .i64 0, .int .i64 0, .int .u32 0, .int .u8 0, .int .u8 0, .int .u8 0, .int .u8 0, .int .u8 0, .int .u8 0, .int .u8 0, .int .u8 0, .int .u8 0, .int .u8 0, .int .u8 0, .int .u8 0, .int .u8 0, .int .u8 0, .int .u8 0, .int .u8 0])) (cs := msgE.arr msg0) rfl (by kernel_rfl) rfl) ?_
 clear fr a
 intro b6 w7 hN8 B9 hb10 a fr
 have ne_b1_b6 : NE b1 b6 := NE.mk (Nat.lt_of_lt_of_le B4.lt hb10)
 have g_b6 := Nat.le_trans hF.size hb10
 replace B4 := B4.new hN8
 replace hF := hF.trNew hN8
 refine fx_val (v := .bool false) fr rfl rfl (by decide) (x_assign rfl rfl) ?_
 clear fr a; intro a fr
 refine wpList_nil ?_
 refine fx_next ?_
 refine wp_seq ?_
 refine wp_region_lit ?_
 refine fx_val (v := .pointer (some ⟨b1, 2, none⟩)) fr rfl rfl (by decide) (x_fieldAddr fo36_2 rfl (fr.ev rfl) rfl) ?_
 clear fr a; intro a fr
 refine fx_val (v := .int .i64 m.dst) fr rfl rfl (by decide) (x_load1 pl3 rfl (fr.ev rfl) (B4.cell 2 rfl)) ?_
 clear fr a; intro a fr
 refine fx_val (v := .pointer (some ⟨b1, 3, none⟩)) fr rfl rfl (by decide) (x_fieldAddr fo36_3 rfl (fr.ev rfl) rfl) ?_
 clear fr a; intro a fr
 refine fx_val (v := .int .u32 m.line) fr rfl rfl (by decide) (x_load1 pl24 rfl (fr.ev rfl) (B4.cell 3 rfl)) ?_
 clear fr a; intro a fr
 refine fx_val (v := .agg (msgE.arr (Msg.mk 0 m.dst 4 m.line b16z m.hn))) fr rfl rfl (by decide) (x_build (cells := msgE.arr (Msg.mk 0 m.dst 4 m.line b16z m.hn)) rfl (by simp only [List.map_toArray, List.map_cons, List.map_nil, show a.eval (.tmp 9) = .int .i64 m.dst from fr.ev rfl, show a.eval (.tmp 11) = .int .u32 m.line from fr.ev rfl]; kernel_rfl)) ?_
 clear fr a; intro a fr
 refine fx_new fr rfl rfl (by decide) (x_alloc (z := .agg (#[.int .i64 0, .int .i64 0, .int .i64 0, .int .u32 0, .int .u8 0, .int .u8 0, .int .u8 0, .int .u8 0, .int .u8 0, .int .u8 0, .int .u8 0, .int .u8 0, .int .u8 0, .int .u8 0, .int .u8 0, .int .u8 0, .int .u8 0, .int .u8 0, .int .u8 0, .int .u8 0])) (cs := msgE.arr msg0) rfl (by kernel_rfl) rfl) ?_
 clear fr a
 intro b11 w12 hN13 B14 hb15 a fr
 have ne_b1_b11 : NE b1 b11 := NE.mk (Nat.lt_of_lt_of_le B4.lt hb15)
 have ne_b6_b11 : NE b6 b11 := NE.mk (Nat.lt_of_lt_of_le B9.lt hb15)
 have g_b11 := Nat.le_trans hF.size hb15
 replace B4 := B4.new hN13
 replace B9 := B9.new hN13
 replace hF := hF.trNew hN13
 refine fx_storeS sz36 rfl rfl rfl (fr.ev rfl) (fr.ev rfl) (msgE.all _) B14 (msgE.size _) (msgE.size _) fun w16 hO17 hBq => ?_
 replace B4 := B4.only hO17 (by first | exact ne_b1_b11 | exact ne_b11_b1.symm | (show ¬ b1 = b11; omega))
 replace B9 := B9.only hO17 (by first | exact ne_b6_b11 | exact ne_b11_b6.symm | (show ¬ b6 = b11; omega))
 replace hF := hF.loc hO17 (.inr g_b11)
 replace B14 := hBq
 clear hBq
 refine wpList_nil ?_
 refine fx_next ?_
 refine wp_seq ?_
 refine wp_seq ?_
 refine wp_region_lit ?_
 refine fx_val (v := .pointer (some ⟨b1, 0, none⟩)) fr rfl rfl (by decide) (x_fieldAddr fo36_0 rfl (fr.ev rfl) rfl) ?_
 clear fr a; intro a fr
 refine fx_val (v := .int .i64 m.kind) fr rfl rfl (by decide) (x_load1 pl33 rfl (fr.ev rfl) (B4.cell 0 rfl)) ?_
 clear fr a; intro a fr
 refine wpList_nil ?_
 refine fx_next ?_
 refine wp_block ?_
 refine wp_seq ?_
 refine wp_seq ?_
 refine wp_region_lit ?_
 refine fx_val (v := .bool (decide (m.kind = 4))) fr rfl rfl (by decide) (x_eql rfl (fr.ev rfl) rfl rfl) ?_
 clear fr a; intro a fr
 refine fx_val (v := .bool (decide (m.kind = 4))) fr rfl rfl (by decide) (x_assign rfl (fr.ev rfl)) ?_
 clear fr a; intro a fr
 refine wpList_nil ?_
 refine fx_next ?_
 refine fx_cond fr rfl (fun hc18 => ?_) (fun hc18 => ?_)
 ·skip
  have hc18 := of_decide_eq_true hc18
  refine wp_skip ?_
  refine fx_next ?_
  refine fx_cond fr rfl (fun hc19 => ?_) (fun hc19 => ?_)
  ·skip
   have hc19 := of_decide_eq_true hc19
   refine wp_seq ?_
   refine wp_region_lit ?_
   refine fx_val (v := .pointer (some ⟨b11, 0, none⟩)) fr rfl rfl (by decide) (x_fieldAddr fo36_0 rfl (fr.ev rfl) rfl) ?_
   clear fr a; intro a fr
   refine fx_store1 sz33 rfl rfl rfl (fr.ev rfl) rfl rfl B14 (by rw [msgE.size]; decide) (cs' := msgE.arr { (Msg.mk 0 m.dst 4 m.line b16z m.hn) with kind := 11 }) rfl fun w20 hO21 hBq => ?_
   replace B4 := B4.only hO21 (by first | exact ne_b1_b11 | exact ne_b11_b1.symm | (show ¬ b1 = b11; omega))
   replace B9 := B9.only hO21 (by first | exact ne_b6_b11 | exact ne_b11_b6.symm | (show ¬ b6 = b11; omega))
   replace hF := hF.loc hO21 (.inr g_b11)
   replace B14 := hBq
   clear hBq
   refine wpList_nil ?_
   refine fx_next ?_
   refine wp_seq ?_
   refine wp_region_lit ?_
   refine fx_val (v := .int .i64 0) fr rfl rfl (by decide) (x_assign rfl rfl) ?_
   clear fr a; intro a fr
   refine wpList_nil ?_
   refine fx_next ?_
   refine wp_block ?_
   refine fx_loop (fun nM a wL => ∃ i : Nat, ∃ BB : B16, nM = 16 - i ∧ Fr (37, []) [(1, .int .u8 b), (4, .pointer (some ⟨b6, 0, none⟩)), (5, .bool false), (6, .pointer (some ⟨b11, 0, none⟩)), (7, .int .i64 ((i : Nat) : Int))] a ∧ Only (fun _ => False) w wL ∧ Blk wL b1 36 (msgE.arr m) ∧ Blk wL b6 36 (msgE.arr msg0) ∧ Blk wL b11 36 (msgE.arr (Msg.mk 11 m.dst 4 m.line BB m.hn)) ∧ i ≤ 16 ∧ (∀ j, j < i → BB.1.getD j 0 = b)) (n0 := _) ⟨0, b16z, rfl, fr.sub ⟨rfl, rfl, rfl, rfl, rfl, trivial⟩, hF, B4, B9, B14, by omega, (fun j hj => absurd hj (by omega))⟩ ?_
   rintro n23 a w22 ⟨i, BB, rfl, fr, hF, B4, B9, B14, hi, hall⟩
   refine wp_seq ?_
   refine wp_seq ?_
   refine wp_region_lit ?_
   refine fx_val (v := .int .i64 ((i : Nat) : Int)) fr rfl rfl (by decide) (x_move rfl (fr.ev rfl)) ?_
   clear fr a; intro a fr
   refine fx_val (v := .bool (decide (((i : Nat) : Int) < 16))) fr rfl rfl (by decide) (x_lss rfl (fr.ev rfl) rfl rfl) ?_
   clear fr a; intro a fr
   refine wpList_nil ?_
   refine fx_next ?_
   refine fx_cond fr rfl (fun hc24 => ?_) (fun hc24 => ?_)
   ·skip
    have hc24 := of_decide_eq_true hc24
    refine wp_skip ?_
    refine fx_next ?_
    refine wp_seq ?_
    refine wp_block ?_
    refine wp_region_lit ?_
    refine fx_val (v := .int .i64 ((i : Nat) : Int)) fr rfl rfl (by decide) (x_move rfl (fr.ev rfl)) ?_
    clear fr a; intro a fr
    refine fx_val (v := .int .u8 b) fr rfl rfl (by decide) (x_move rfl (fr.ev rfl)) ?_
    clear fr a; intro a fr
    refine fx_val (v := .pointer (some ⟨b11, 4, none⟩)) fr rfl rfl (by decide) (x_fieldAddr fo36_4 rfl (fr.ev rfl) rfl) ?_
    clear fr a; intro a fr
    refine fx_val (v := .pointer (some ⟨b11, 4 + i, none⟩)) fr rfl rfl (by decide) (x_indexArr Try.underlying34 sz16 rfl (fr.ev rfl) (fr.ev rfl) (by omega) (by omega)) ?_
    clear fr a; intro a fr
    refine fx_store1 sz5 rfl rfl rfl (fr.ev rfl) (fr.ev rfl) rfl B14 (by rw [msgE.size]; show 4 + i < 20; omega) (cs' := msgE.arr { (Msg.mk 11 m.dst 4 m.line BB m.hn) with bs := (Msg.mk 11 m.dst 4 m.line BB m.hn).bs.put i b hb }) (msg_put _ _ _ _) fun w25 hO26 hBq => ?_
    replace B4 := B4.only hO26 (by first | exact ne_b1_b11 | exact ne_b11_b1.symm | (show ¬ b1 = b11; omega))
    replace B9 := B9.only hO26 (by first | exact ne_b6_b11 | exact ne_b11_b6.symm | (show ¬ b6 = b11; omega))
    replace hF := hF.loc hO26 (.inr g_b11)
    replace B14 := hBq
    clear hBq
    refine wpList_nil ?_
    refine fx_blk ?_
    refine fx_next ?_
    refine wp_region_lit ?_
    refine fx_val (v := .int .i64 ((i : Nat) : Int)) fr rfl rfl (by decide) (x_move rfl (fr.ev rfl)) ?_
    clear fr a; intro a fr
    refine fx_val (v := .int .i64 ((i + 1 : Nat) : Int)) fr rfl rfl (by decide) (x_add rfl (fr.ev rfl) rfl (i64w (r := ((i + 1 : Nat) : Int)) (by omega) (by omega))) ?_
    clear fr a; intro a fr
    refine fx_val (v := .int .i64 ((i + 1 : Nat) : Int)) fr rfl rfl (by decide) (x_assign rfl (fr.ev rfl)) ?_
    clear fr a; intro a fr
    refine wpList_nil ?_
    refine fx_next ?_
    exact ⟨_, by omega, (i + 1), (BB.put i b hb), rfl, fr.sub ⟨rfl, rfl, rfl, rfl, rfl, trivial⟩, hF, B4, B9, B14, by omega, fun j hj => by rw [put_get _ _ _ _ _ (by omega)]; split; rfl; exact hall j (by omega)⟩
   ·skip
    have hc24 := of_decide_eq_false hc24
    refine wp_exit ?_
    refine fx_xt ?_
    refine fx_xt ?_
    refine fx_xx ?_
    refine fx_blk ?_
    refine fx_next ?_
    refine wp_seq ?_
    refine wp_region_lit ?_
    refine fx_val (v := .agg (msgE.arr (Msg.mk 11 m.dst 4 m.line BB m.hn))) fr rfl rfl (by decide) (x_loadE (E := msgE) ag36 rfl rfl (fr.ev rfl) (B14.rangeE msgE)) ?_
    clear fr a; intro a fr
    refine fx_storeS sz36 rfl rfl rfl (fr.ev rfl) (fr.ev rfl) (msgE.all _) B9 (msgE.size _) (msgE.size _) fun w27 hO28 hBq => ?_
    replace B4 := B4.only hO28 (by first | exact ne_b1_b6 | exact ne_b6_b1.symm | (show ¬ b1 = b6; omega))
    replace B14 := B14.only hO28 (by first | exact ne_b11_b6 | exact ne_b6_b11.symm | (show ¬ b11 = b6; omega))
    replace hF := hF.loc hO28 (.inr g_b6)
    replace B9 := hBq
    clear hBq
    refine fx_val (v := .bool true) fr rfl rfl (by decide) (x_assign rfl rfl) ?_
    clear fr a; intro a fr
    refine wpList_nil ?_
    refine fx_next ?_
    refine wp_ret ?_
    refine fx_ret fr [.cell 4 36, .tmp 5] [.agg (msgE.arr (Msg.mk 11 m.dst 4 m.line BB m.hn)), .bool true] rfl ⟨⟨_, rfl, loadV_E (E := msgE) ag36 rfl (B9.rangeE msgE)⟩, rfl, trivial⟩ rfl ?_
    obtain rfl : i = 16 := by omega
    obtain rfl := fill_eq (hb := hb) hall
    exact ⟨_, rfl, (by unfold ansF; rw [if_pos (by omega)]; first | done | rfl), hF⟩
  ·skip
   have hc19 := of_decide_eq_false hc19
   refine wp_seq ?_
   refine wp_region_lit ?_
   refine fx_val (v := .bool (decide (m.kind = 6))) fr rfl rfl (by decide) (x_eql rfl (fr.ev rfl) rfl rfl) ?_
   clear fr a; intro a fr
   refine fx_val (v := .bool (decide (m.kind = 6))) fr rfl rfl (by decide) (x_assign rfl (fr.ev rfl)) ?_
   clear fr a; intro a fr
   refine wpList_nil ?_
   refine fx_next ?_
   refine fx_cond fr rfl (fun hc29 => ?_) (fun hc29 => ?_)
   ·skip
    have hc29 := of_decide_eq_true hc29
    refine wp_region_lit ?_
    refine fx_val (v := .pointer (some ⟨b11, 0, none⟩)) fr rfl rfl (by decide) (x_fieldAddr fo36_0 rfl (fr.ev rfl) rfl) ?_
    clear fr a; intro a fr
    refine fx_store1 sz33 rfl rfl rfl (fr.ev rfl) rfl rfl B14 (by rw [msgE.size]; decide) (cs' := msgE.arr { (Msg.mk 0 m.dst 4 m.line b16z m.hn) with kind := 12 }) rfl fun w30 hO31 hBq => ?_
    replace B4 := B4.only hO31 (by first | exact ne_b1_b11 | exact ne_b11_b1.symm | (show ¬ b1 = b11; omega))
    replace B9 := B9.only hO31 (by first | exact ne_b6_b11 | exact ne_b11_b6.symm | (show ¬ b6 = b11; omega))
    replace hF := hF.loc hO31 (.inr g_b11)
    replace B14 := hBq
    clear hBq
    refine wpList_nil ?_
    refine fx_blk ?_
    refine fx_next ?_
    refine wp_seq ?_
    refine wp_region_lit ?_
    refine fx_val (v := .agg (msgE.arr { (Msg.mk 0 m.dst 4 m.line b16z m.hn) with kind := 12 })) fr rfl rfl (by decide) (x_loadE (E := msgE) ag36 rfl rfl (fr.ev rfl) (B14.rangeE msgE)) ?_
    clear fr a; intro a fr
    refine fx_storeS sz36 rfl rfl rfl (fr.ev rfl) (fr.ev rfl) (msgE.all _) B9 (msgE.size _) (msgE.size _) fun w32 hO33 hBq => ?_
    replace B4 := B4.only hO33 (by first | exact ne_b1_b6 | exact ne_b6_b1.symm | (show ¬ b1 = b6; omega))
    replace B14 := B14.only hO33 (by first | exact ne_b11_b6 | exact ne_b6_b11.symm | (show ¬ b11 = b6; omega))
    replace hF := hF.loc hO33 (.inr g_b6)
    replace B9 := hBq
    clear hBq
    refine fx_val (v := .bool true) fr rfl rfl (by decide) (x_assign rfl rfl) ?_
    clear fr a; intro a fr
    refine wpList_nil ?_
    refine fx_next ?_
    refine wp_ret ?_
    refine fx_ret fr [.cell 4 36, .tmp 5] [.agg (msgE.arr { (Msg.mk 0 m.dst 4 m.line b16z m.hn) with kind := 12 }), .bool true] rfl ⟨⟨_, rfl, loadV_E (E := msgE) ag36 rfl (B9.rangeE msgE)⟩, rfl, trivial⟩ rfl ?_
    exact ⟨_, rfl, (by unfold ansF; rw [if_neg (by omega), if_pos (by omega)]; first | done | rfl), hF⟩
   ·skip
    have hc29 := of_decide_eq_false hc29
    refine wp_seq ?_
    refine wp_seq ?_
    refine wp_region_lit ?_
    refine fx_val (v := .bool (decide (m.kind = 8))) fr rfl rfl (by decide) (x_eql rfl (fr.ev rfl) rfl rfl) ?_
    clear fr a; intro a fr
    refine fx_val (v := .bool (decide (m.kind = 8))) fr rfl rfl (by decide) (x_assign rfl (fr.ev rfl)) ?_
    clear fr a; intro a fr
    refine wpList_nil ?_
    refine fx_next ?_
    refine fx_cond fr rfl (fun hc34 => ?_) (fun hc34 => ?_)
    ·skip
     have hc34 := of_decide_eq_true hc34
     refine wp_skip ?_
     refine fx_next ?_
     refine fx_cond fr rfl (fun hc35 => ?_) (fun hc35 => ?_)
     ·skip
      have hc35 := of_decide_eq_true hc35
      refine wp_region_lit ?_
      refine fx_val (v := .pointer (some ⟨b11, 0, none⟩)) fr rfl rfl (by decide) (x_fieldAddr fo36_0 rfl (fr.ev rfl) rfl) ?_
      clear fr a; intro a fr
      refine fx_store1 sz33 rfl rfl rfl (fr.ev rfl) rfl rfl B14 (by rw [msgE.size]; decide) (cs' := msgE.arr { (Msg.mk 0 m.dst 4 m.line b16z m.hn) with kind := 13 }) rfl fun w36 hO37 hBq => ?_
      replace B4 := B4.only hO37 (by first | exact ne_b1_b11 | exact ne_b11_b1.symm | (show ¬ b1 = b11; omega))
      replace B9 := B9.only hO37 (by first | exact ne_b6_b11 | exact ne_b11_b6.symm | (show ¬ b6 = b11; omega))
      replace hF := hF.loc hO37 (.inr g_b11)
      replace B14 := hBq
      clear hBq
      refine wpList_nil ?_
      refine fx_blk ?_
      refine fx_next ?_
      refine wp_seq ?_
      refine wp_region_lit ?_
      refine fx_val (v := .agg (msgE.arr { (Msg.mk 0 m.dst 4 m.line b16z m.hn) with kind := 13 })) fr rfl rfl (by decide) (x_loadE (E := msgE) ag36 rfl rfl (fr.ev rfl) (B14.rangeE msgE)) ?_
      clear fr a; intro a fr
      refine fx_storeS sz36 rfl rfl rfl (fr.ev rfl) (fr.ev rfl) (msgE.all _) B9 (msgE.size _) (msgE.size _) fun w38 hO39 hBq => ?_
      replace B4 := B4.only hO39 (by first | exact ne_b1_b6 | exact ne_b6_b1.symm | (show ¬ b1 = b6; omega))
      replace B14 := B14.only hO39 (by first | exact ne_b11_b6 | exact ne_b6_b11.symm | (show ¬ b11 = b6; omega))
      replace hF := hF.loc hO39 (.inr g_b6)
      replace B9 := hBq
      clear hBq
      refine fx_val (v := .bool true) fr rfl rfl (by decide) (x_assign rfl rfl) ?_
      clear fr a; intro a fr
      refine wpList_nil ?_
      refine fx_next ?_
      refine wp_ret ?_
      refine fx_ret fr [.cell 4 36, .tmp 5] [.agg (msgE.arr { (Msg.mk 0 m.dst 4 m.line b16z m.hn) with kind := 13 }), .bool true] rfl ⟨⟨_, rfl, loadV_E (E := msgE) ag36 rfl (B9.rangeE msgE)⟩, rfl, trivial⟩ rfl ?_
      exact ⟨_, rfl, (by unfold ansF; rw [if_neg (by omega), if_neg (by omega), if_pos (by omega)]; first | done | rfl), hF⟩
     ·skip
      have hc35 := of_decide_eq_false hc35
      refine wp_seq ?_
      refine wp_region_lit ?_
      refine fx_val (v := .agg (msgE.arr msg0)) fr rfl rfl (by decide) (x_build (cells := msgE.arr msg0) rfl (by kernel_rfl)) ?_
      clear fr a; intro a fr
      refine fx_storeS sz36 rfl rfl rfl (fr.ev rfl) (fr.ev rfl) (msgE.all _) B9 (msgE.size _) (msgE.size _) fun w40 hO41 hBq => ?_
      replace B4 := B4.only hO41 (by first | exact ne_b1_b6 | exact ne_b6_b1.symm | (show ¬ b1 = b6; omega))
      replace B14 := B14.only hO41 (by first | exact ne_b11_b6 | exact ne_b6_b11.symm | (show ¬ b11 = b6; omega))
      replace hF := hF.loc hO41 (.inr g_b6)
      replace B9 := hBq
      clear hBq
      refine fx_val (v := .bool false) fr rfl rfl (by decide) (x_assign rfl rfl) ?_
      clear fr a; intro a fr
      refine wpList_nil ?_
      refine fx_next ?_
      refine wp_ret ?_
      refine fx_rb ?_
      refine fx_rt ?_
      refine fx_ret fr [.cell 4 36, .tmp 5] [.agg (msgE.arr msg0), .bool false] rfl ⟨⟨_, rfl, loadV_E (E := msgE) ag36 rfl (B9.rangeE msgE)⟩, rfl, trivial⟩ rfl ?_
      exact ⟨_, rfl, (by unfold ansF; rw [if_neg (by omega), if_neg (by omega), if_neg (by omega)]; first | done | rfl), hF⟩
    ·skip
     have hc34 := of_decide_eq_false hc34
     refine wp_seq ?_
     refine wp_region_lit ?_
     refine fx_val (v := .bool (decide (m.kind = 9))) fr rfl rfl (by decide) (x_eql rfl (fr.ev rfl) rfl rfl) ?_
     clear fr a; intro a fr
     refine fx_val (v := .bool (decide (m.kind = 9))) fr rfl rfl (by decide) (x_assign rfl (fr.ev rfl)) ?_
     clear fr a; intro a fr
     refine wpList_nil ?_
     refine fx_next ?_
     refine fx_cond fr rfl (fun hc42 => ?_) (fun hc42 => ?_)
     ·skip
      have hc42 := of_decide_eq_true hc42
      refine wp_skip ?_
      refine fx_next ?_
      refine fx_cond fr rfl (fun hc43 => ?_) (fun hc43 => ?_)
      ·skip
       have hc43 := of_decide_eq_true hc43
       refine wp_region_lit ?_
       refine fx_val (v := .pointer (some ⟨b11, 0, none⟩)) fr rfl rfl (by decide) (x_fieldAddr fo36_0 rfl (fr.ev rfl) rfl) ?_
       clear fr a; intro a fr
       refine fx_store1 sz33 rfl rfl rfl (fr.ev rfl) rfl rfl B14 (by rw [msgE.size]; decide) (cs' := msgE.arr { (Msg.mk 0 m.dst 4 m.line b16z m.hn) with kind := 13 }) rfl fun w44 hO45 hBq => ?_
       replace B4 := B4.only hO45 (by first | exact ne_b1_b11 | exact ne_b11_b1.symm | (show ¬ b1 = b11; omega))
       replace B9 := B9.only hO45 (by first | exact ne_b6_b11 | exact ne_b11_b6.symm | (show ¬ b6 = b11; omega))
       replace hF := hF.loc hO45 (.inr g_b11)
       replace B14 := hBq
       clear hBq
       refine wpList_nil ?_
       refine fx_blk ?_
       refine fx_next ?_
       refine wp_seq ?_
       refine wp_region_lit ?_
       refine fx_val (v := .agg (msgE.arr { (Msg.mk 0 m.dst 4 m.line b16z m.hn) with kind := 13 })) fr rfl rfl (by decide) (x_loadE (E := msgE) ag36 rfl rfl (fr.ev rfl) (B14.rangeE msgE)) ?_
       clear fr a; intro a fr
       refine fx_storeS sz36 rfl rfl rfl (fr.ev rfl) (fr.ev rfl) (msgE.all _) B9 (msgE.size _) (msgE.size _) fun w46 hO47 hBq => ?_
       replace B4 := B4.only hO47 (by first | exact ne_b1_b6 | exact ne_b6_b1.symm | (show ¬ b1 = b6; omega))
       replace B14 := B14.only hO47 (by first | exact ne_b11_b6 | exact ne_b6_b11.symm | (show ¬ b11 = b6; omega))
       replace hF := hF.loc hO47 (.inr g_b6)
       replace B9 := hBq
       clear hBq
       refine fx_val (v := .bool true) fr rfl rfl (by decide) (x_assign rfl rfl) ?_
       clear fr a; intro a fr
       refine wpList_nil ?_
       refine fx_next ?_
       refine wp_ret ?_
       refine fx_ret fr [.cell 4 36, .tmp 5] [.agg (msgE.arr { (Msg.mk 0 m.dst 4 m.line b16z m.hn) with kind := 13 }), .bool true] rfl ⟨⟨_, rfl, loadV_E (E := msgE) ag36 rfl (B9.rangeE msgE)⟩, rfl, trivial⟩ rfl ?_
       exact ⟨_, rfl, (by unfold ansF; rw [if_neg (by omega), if_neg (by omega), if_pos (by omega)]; first | done | rfl), hF⟩
      ·skip
       have hc43 := of_decide_eq_false hc43
       refine wp_seq ?_
       refine wp_region_lit ?_
       refine fx_val (v := .agg (msgE.arr msg0)) fr rfl rfl (by decide) (x_build (cells := msgE.arr msg0) rfl (by kernel_rfl)) ?_
       clear fr a; intro a fr
       refine fx_storeS sz36 rfl rfl rfl (fr.ev rfl) (fr.ev rfl) (msgE.all _) B9 (msgE.size _) (msgE.size _) fun w48 hO49 hBq => ?_
       replace B4 := B4.only hO49 (by first | exact ne_b1_b6 | exact ne_b6_b1.symm | (show ¬ b1 = b6; omega))
       replace B14 := B14.only hO49 (by first | exact ne_b11_b6 | exact ne_b6_b11.symm | (show ¬ b11 = b6; omega))
       replace hF := hF.loc hO49 (.inr g_b6)
       replace B9 := hBq
       clear hBq
       refine fx_val (v := .bool false) fr rfl rfl (by decide) (x_assign rfl rfl) ?_
       clear fr a; intro a fr
       refine wpList_nil ?_
       refine fx_next ?_
       refine wp_ret ?_
       refine fx_rb ?_
       refine fx_rt ?_
       refine fx_ret fr [.cell 4 36, .tmp 5] [.agg (msgE.arr msg0), .bool false] rfl ⟨⟨_, rfl, loadV_E (E := msgE) ag36 rfl (B9.rangeE msgE)⟩, rfl, trivial⟩ rfl ?_
       exact ⟨_, rfl, (by unfold ansF; rw [if_neg (by omega), if_neg (by omega), if_neg (by omega)]; first | done | rfl), hF⟩
     ·skip
      have hc42 := of_decide_eq_false hc42
      refine wp_region_lit ?_
      refine fx_val (v := .bool (decide (m.kind = 10))) fr rfl rfl (by decide) (x_eql rfl (fr.ev rfl) rfl rfl) ?_
      clear fr a; intro a fr
      refine fx_val (v := .bool (decide (m.kind = 10))) fr rfl rfl (by decide) (x_assign rfl (fr.ev rfl)) ?_
      clear fr a; intro a fr
      refine wpList_nil ?_
      refine fx_next ?_
      refine fx_cond fr rfl (fun hc50 => ?_) (fun hc50 => ?_)
      ·skip
       have hc50 := of_decide_eq_true hc50
       refine wp_region_lit ?_
       refine fx_val (v := .pointer (some ⟨b11, 0, none⟩)) fr rfl rfl (by decide) (x_fieldAddr fo36_0 rfl (fr.ev rfl) rfl) ?_
       clear fr a; intro a fr
       refine fx_store1 sz33 rfl rfl rfl (fr.ev rfl) rfl rfl B14 (by rw [msgE.size]; decide) (cs' := msgE.arr { (Msg.mk 0 m.dst 4 m.line b16z m.hn) with kind := 13 }) rfl fun w51 hO52 hBq => ?_
       replace B4 := B4.only hO52 (by first | exact ne_b1_b11 | exact ne_b11_b1.symm | (show ¬ b1 = b11; omega))
       replace B9 := B9.only hO52 (by first | exact ne_b6_b11 | exact ne_b11_b6.symm | (show ¬ b6 = b11; omega))
       replace hF := hF.loc hO52 (.inr g_b11)
       replace B14 := hBq
       clear hBq
       refine wpList_nil ?_
       refine fx_blk ?_
       refine fx_next ?_
       refine wp_seq ?_
       refine wp_region_lit ?_
       refine fx_val (v := .agg (msgE.arr { (Msg.mk 0 m.dst 4 m.line b16z m.hn) with kind := 13 })) fr rfl rfl (by decide) (x_loadE (E := msgE) ag36 rfl rfl (fr.ev rfl) (B14.rangeE msgE)) ?_
       clear fr a; intro a fr
       refine fx_storeS sz36 rfl rfl rfl (fr.ev rfl) (fr.ev rfl) (msgE.all _) B9 (msgE.size _) (msgE.size _) fun w53 hO54 hBq => ?_
       replace B4 := B4.only hO54 (by first | exact ne_b1_b6 | exact ne_b6_b1.symm | (show ¬ b1 = b6; omega))
       replace B14 := B14.only hO54 (by first | exact ne_b11_b6 | exact ne_b6_b11.symm | (show ¬ b11 = b6; omega))
       replace hF := hF.loc hO54 (.inr g_b6)
       replace B9 := hBq
       clear hBq
       refine fx_val (v := .bool true) fr rfl rfl (by decide) (x_assign rfl rfl) ?_
       clear fr a; intro a fr
       refine wpList_nil ?_
       refine fx_next ?_
       refine wp_ret ?_
       refine fx_ret fr [.cell 4 36, .tmp 5] [.agg (msgE.arr { (Msg.mk 0 m.dst 4 m.line b16z m.hn) with kind := 13 }), .bool true] rfl ⟨⟨_, rfl, loadV_E (E := msgE) ag36 rfl (B9.rangeE msgE)⟩, rfl, trivial⟩ rfl ?_
       exact ⟨_, rfl, (by unfold ansF; rw [if_neg (by omega), if_neg (by omega), if_pos (by omega)]; first | done | rfl), hF⟩
      ·skip
       have hc50 := of_decide_eq_false hc50
       refine wp_seq ?_
       refine wp_region_lit ?_
       refine fx_val (v := .agg (msgE.arr msg0)) fr rfl rfl (by decide) (x_build (cells := msgE.arr msg0) rfl (by kernel_rfl)) ?_
       clear fr a; intro a fr
       refine fx_storeS sz36 rfl rfl rfl (fr.ev rfl) (fr.ev rfl) (msgE.all _) B9 (msgE.size _) (msgE.size _) fun w55 hO56 hBq => ?_
       replace B4 := B4.only hO56 (by first | exact ne_b1_b6 | exact ne_b6_b1.symm | (show ¬ b1 = b6; omega))
       replace B14 := B14.only hO56 (by first | exact ne_b11_b6 | exact ne_b6_b11.symm | (show ¬ b11 = b6; omega))
       replace hF := hF.loc hO56 (.inr g_b6)
       replace B9 := hBq
       clear hBq
       refine fx_val (v := .bool false) fr rfl rfl (by decide) (x_assign rfl rfl) ?_
       clear fr a; intro a fr
       refine wpList_nil ?_
       refine fx_next ?_
       refine wp_ret ?_
       refine fx_rb ?_
       refine fx_rt ?_
       refine fx_ret fr [.cell 4 36, .tmp 5] [.agg (msgE.arr msg0), .bool false] rfl ⟨⟨_, rfl, loadV_E (E := msgE) ag36 rfl (B9.rangeE msgE)⟩, rfl, trivial⟩ rfl ?_
       exact ⟨_, rfl, (by unfold ansF; rw [if_neg (by omega), if_neg (by omega), if_neg (by omega)]; first | done | rfl), hF⟩
 ·skip
  have hc18 := of_decide_eq_false hc18
  refine wp_region_lit ?_
  refine fx_val (v := .bool (decide (m.kind = 5))) fr rfl rfl (by decide) (x_eql rfl (fr.ev rfl) rfl rfl) ?_
  clear fr a; intro a fr
  refine fx_val (v := .bool (decide (m.kind = 5))) fr rfl rfl (by decide) (x_assign rfl (fr.ev rfl)) ?_
  clear fr a; intro a fr
  refine wpList_nil ?_
  refine fx_next ?_
  refine fx_cond fr rfl (fun hc57 => ?_) (fun hc57 => ?_)
  ·skip
   have hc57 := of_decide_eq_true hc57
   refine wp_seq ?_
   refine wp_region_lit ?_
   refine fx_val (v := .pointer (some ⟨b11, 0, none⟩)) fr rfl rfl (by decide) (x_fieldAddr fo36_0 rfl (fr.ev rfl) rfl) ?_
   clear fr a; intro a fr
   refine fx_store1 sz33 rfl rfl rfl (fr.ev rfl) rfl rfl B14 (by rw [msgE.size]; decide) (cs' := msgE.arr { (Msg.mk 0 m.dst 4 m.line b16z m.hn) with kind := 11 }) rfl fun w58 hO59 hBq => ?_
   replace B4 := B4.only hO59 (by first | exact ne_b1_b11 | exact ne_b11_b1.symm | (show ¬ b1 = b11; omega))
   replace B9 := B9.only hO59 (by first | exact ne_b6_b11 | exact ne_b11_b6.symm | (show ¬ b6 = b11; omega))
   replace hF := hF.loc hO59 (.inr g_b11)
   replace B14 := hBq
   clear hBq
   refine wpList_nil ?_
   refine fx_next ?_
   refine wp_seq ?_
   refine wp_region_lit ?_
   refine fx_val (v := .int .i64 0) fr rfl rfl (by decide) (x_assign rfl rfl) ?_
   clear fr a; intro a fr
   refine wpList_nil ?_
   refine fx_next ?_
   refine wp_block ?_
   refine fx_loop (fun nM a wL => ∃ i : Nat, ∃ BB : B16, nM = 16 - i ∧ Fr (37, []) [(1, .int .u8 b), (4, .pointer (some ⟨b6, 0, none⟩)), (5, .bool false), (6, .pointer (some ⟨b11, 0, none⟩)), (7, .int .i64 ((i : Nat) : Int))] a ∧ Only (fun _ => False) w wL ∧ Blk wL b1 36 (msgE.arr m) ∧ Blk wL b6 36 (msgE.arr msg0) ∧ Blk wL b11 36 (msgE.arr (Msg.mk 11 m.dst 4 m.line BB m.hn)) ∧ i ≤ 16 ∧ (∀ j, j < i → BB.1.getD j 0 = b)) (n0 := _) ⟨0, b16z, rfl, fr.sub ⟨rfl, rfl, rfl, rfl, rfl, trivial⟩, hF, B4, B9, B14, by omega, (fun j hj => absurd hj (by omega))⟩ ?_
   rintro n61 a w60 ⟨i, BB, rfl, fr, hF, B4, B9, B14, hi, hall⟩
   refine wp_seq ?_
   refine wp_seq ?_
   refine wp_region_lit ?_
   refine fx_val (v := .int .i64 ((i : Nat) : Int)) fr rfl rfl (by decide) (x_move rfl (fr.ev rfl)) ?_
   clear fr a; intro a fr
   refine fx_val (v := .bool (decide (((i : Nat) : Int) < 16))) fr rfl rfl (by decide) (x_lss rfl (fr.ev rfl) rfl rfl) ?_
   clear fr a; intro a fr
   refine wpList_nil ?_
   refine fx_next ?_
   refine fx_cond fr rfl (fun hc62 => ?_) (fun hc62 => ?_)
   ·skip
    have hc62 := of_decide_eq_true hc62
    refine wp_skip ?_
    refine fx_next ?_
    refine wp_seq ?_
    refine wp_block ?_
    refine wp_region_lit ?_
    refine fx_val (v := .int .i64 ((i : Nat) : Int)) fr rfl rfl (by decide) (x_move rfl (fr.ev rfl)) ?_
    clear fr a; intro a fr
    refine fx_val (v := .int .u8 b) fr rfl rfl (by decide) (x_move rfl (fr.ev rfl)) ?_
    clear fr a; intro a fr
    refine fx_val (v := .pointer (some ⟨b11, 4, none⟩)) fr rfl rfl (by decide) (x_fieldAddr fo36_4 rfl (fr.ev rfl) rfl) ?_
    clear fr a; intro a fr
    refine fx_val (v := .pointer (some ⟨b11, 4 + i, none⟩)) fr rfl rfl (by decide) (x_indexArr Try.underlying34 sz16 rfl (fr.ev rfl) (fr.ev rfl) (by omega) (by omega)) ?_
    clear fr a; intro a fr
    refine fx_store1 sz5 rfl rfl rfl (fr.ev rfl) (fr.ev rfl) rfl B14 (by rw [msgE.size]; show 4 + i < 20; omega) (cs' := msgE.arr { (Msg.mk 11 m.dst 4 m.line BB m.hn) with bs := (Msg.mk 11 m.dst 4 m.line BB m.hn).bs.put i b hb }) (msg_put _ _ _ _) fun w63 hO64 hBq => ?_
    replace B4 := B4.only hO64 (by first | exact ne_b1_b11 | exact ne_b11_b1.symm | (show ¬ b1 = b11; omega))
    replace B9 := B9.only hO64 (by first | exact ne_b6_b11 | exact ne_b11_b6.symm | (show ¬ b6 = b11; omega))
    replace hF := hF.loc hO64 (.inr g_b11)
    replace B14 := hBq
    clear hBq
    refine wpList_nil ?_
    refine fx_blk ?_
    refine fx_next ?_
    refine wp_region_lit ?_
    refine fx_val (v := .int .i64 ((i : Nat) : Int)) fr rfl rfl (by decide) (x_move rfl (fr.ev rfl)) ?_
    clear fr a; intro a fr
    refine fx_val (v := .int .i64 ((i + 1 : Nat) : Int)) fr rfl rfl (by decide) (x_add rfl (fr.ev rfl) rfl (i64w (r := ((i + 1 : Nat) : Int)) (by omega) (by omega))) ?_
    clear fr a; intro a fr
    refine fx_val (v := .int .i64 ((i + 1 : Nat) : Int)) fr rfl rfl (by decide) (x_assign rfl (fr.ev rfl)) ?_
    clear fr a; intro a fr
    refine wpList_nil ?_
    refine fx_next ?_
    exact ⟨_, by omega, (i + 1), (BB.put i b hb), rfl, fr.sub ⟨rfl, rfl, rfl, rfl, rfl, trivial⟩, hF, B4, B9, B14, by omega, fun j hj => by rw [put_get _ _ _ _ _ (by omega)]; split; rfl; exact hall j (by omega)⟩
   ·skip
    have hc62 := of_decide_eq_false hc62
    refine wp_exit ?_
    refine fx_xt ?_
    refine fx_xt ?_
    refine fx_xx ?_
    refine fx_blk ?_
    refine fx_next ?_
    refine wp_seq ?_
    refine wp_region_lit ?_
    refine fx_val (v := .agg (msgE.arr (Msg.mk 11 m.dst 4 m.line BB m.hn))) fr rfl rfl (by decide) (x_loadE (E := msgE) ag36 rfl rfl (fr.ev rfl) (B14.rangeE msgE)) ?_
    clear fr a; intro a fr
    refine fx_storeS sz36 rfl rfl rfl (fr.ev rfl) (fr.ev rfl) (msgE.all _) B9 (msgE.size _) (msgE.size _) fun w65 hO66 hBq => ?_
    replace B4 := B4.only hO66 (by first | exact ne_b1_b6 | exact ne_b6_b1.symm | (show ¬ b1 = b6; omega))
    replace B14 := B14.only hO66 (by first | exact ne_b11_b6 | exact ne_b6_b11.symm | (show ¬ b11 = b6; omega))
    replace hF := hF.loc hO66 (.inr g_b6)
    replace B9 := hBq
    clear hBq
    refine fx_val (v := .bool true) fr rfl rfl (by decide) (x_assign rfl rfl) ?_
    clear fr a; intro a fr
    refine wpList_nil ?_
    refine fx_next ?_
    refine wp_ret ?_
    refine fx_ret fr [.cell 4 36, .tmp 5] [.agg (msgE.arr (Msg.mk 11 m.dst 4 m.line BB m.hn)), .bool true] rfl ⟨⟨_, rfl, loadV_E (E := msgE) ag36 rfl (B9.rangeE msgE)⟩, rfl, trivial⟩ rfl ?_
    obtain rfl : i = 16 := by omega
    obtain rfl := fill_eq (hb := hb) hall
    exact ⟨_, rfl, (by unfold ansF; rw [if_pos (by omega)]; first | done | rfl), hF⟩
  ·skip
   have hc57 := of_decide_eq_false hc57
   refine wp_seq ?_
   refine wp_region_lit ?_
   refine fx_val (v := .bool (decide (m.kind = 6))) fr rfl rfl (by decide) (x_eql rfl (fr.ev rfl) rfl rfl) ?_
   clear fr a; intro a fr
   refine fx_val (v := .bool (decide (m.kind = 6))) fr rfl rfl (by decide) (x_assign rfl (fr.ev rfl)) ?_
   clear fr a; intro a fr
   refine wpList_nil ?_
   refine fx_next ?_
   refine fx_cond fr rfl (fun hc67 => ?_) (fun hc67 => ?_)
   ·skip
    have hc67 := of_decide_eq_true hc67
    refine wp_region_lit ?_
    refine fx_val (v := .pointer (some ⟨b11, 0, none⟩)) fr rfl rfl (by decide) (x_fieldAddr fo36_0 rfl (fr.ev rfl) rfl) ?_
    clear fr a; intro a fr
    refine fx_store1 sz33 rfl rfl rfl (fr.ev rfl) rfl rfl B14 (by rw [msgE.size]; decide) (cs' := msgE.arr { (Msg.mk 0 m.dst 4 m.line b16z m.hn) with kind := 12 }) rfl fun w68 hO69 hBq => ?_
    replace B4 := B4.only hO69 (by first | exact ne_b1_b11 | exact ne_b11_b1.symm | (show ¬ b1 = b11; omega))
    replace B9 := B9.only hO69 (by first | exact ne_b6_b11 | exact ne_b11_b6.symm | (show ¬ b6 = b11; omega))
    replace hF := hF.loc hO69 (.inr g_b11)
    replace B14 := hBq
    clear hBq
    refine wpList_nil ?_
    refine fx_blk ?_
    refine fx_next ?_
    refine wp_seq ?_
    refine wp_region_lit ?_
    refine fx_val (v := .agg (msgE.arr { (Msg.mk 0 m.dst 4 m.line b16z m.hn) with kind := 12 })) fr rfl rfl (by decide) (x_loadE (E := msgE) ag36 rfl rfl (fr.ev rfl) (B14.rangeE msgE)) ?_
    clear fr a; intro a fr
    refine fx_storeS sz36 rfl rfl rfl (fr.ev rfl) (fr.ev rfl) (msgE.all _) B9 (msgE.size _) (msgE.size _) fun w70 hO71 hBq => ?_
    replace B4 := B4.only hO71 (by first | exact ne_b1_b6 | exact ne_b6_b1.symm | (show ¬ b1 = b6; omega))
    replace B14 := B14.only hO71 (by first | exact ne_b11_b6 | exact ne_b6_b11.symm | (show ¬ b11 = b6; omega))
    replace hF := hF.loc hO71 (.inr g_b6)
    replace B9 := hBq
    clear hBq
    refine fx_val (v := .bool true) fr rfl rfl (by decide) (x_assign rfl rfl) ?_
    clear fr a; intro a fr
    refine wpList_nil ?_
    refine fx_next ?_
    refine wp_ret ?_
    refine fx_ret fr [.cell 4 36, .tmp 5] [.agg (msgE.arr { (Msg.mk 0 m.dst 4 m.line b16z m.hn) with kind := 12 }), .bool true] rfl ⟨⟨_, rfl, loadV_E (E := msgE) ag36 rfl (B9.rangeE msgE)⟩, rfl, trivial⟩ rfl ?_
    exact ⟨_, rfl, (by unfold ansF; rw [if_neg (by omega), if_pos (by omega)]; first | done | rfl), hF⟩
   ·skip
    have hc67 := of_decide_eq_false hc67
    refine wp_seq ?_
    refine wp_seq ?_
    refine wp_region_lit ?_
    refine fx_val (v := .bool (decide (m.kind = 8))) fr rfl rfl (by decide) (x_eql rfl (fr.ev rfl) rfl rfl) ?_
    clear fr a; intro a fr
    refine fx_val (v := .bool (decide (m.kind = 8))) fr rfl rfl (by decide) (x_assign rfl (fr.ev rfl)) ?_
    clear fr a; intro a fr
    refine wpList_nil ?_
    refine fx_next ?_
    refine fx_cond fr rfl (fun hc72 => ?_) (fun hc72 => ?_)
    ·skip
     have hc72 := of_decide_eq_true hc72
     refine wp_skip ?_
     refine fx_next ?_
     refine fx_cond fr rfl (fun hc73 => ?_) (fun hc73 => ?_)
     ·skip
      have hc73 := of_decide_eq_true hc73
      refine wp_region_lit ?_
      refine fx_val (v := .pointer (some ⟨b11, 0, none⟩)) fr rfl rfl (by decide) (x_fieldAddr fo36_0 rfl (fr.ev rfl) rfl) ?_
      clear fr a; intro a fr
      refine fx_store1 sz33 rfl rfl rfl (fr.ev rfl) rfl rfl B14 (by rw [msgE.size]; decide) (cs' := msgE.arr { (Msg.mk 0 m.dst 4 m.line b16z m.hn) with kind := 13 }) rfl fun w74 hO75 hBq => ?_
      replace B4 := B4.only hO75 (by first | exact ne_b1_b11 | exact ne_b11_b1.symm | (show ¬ b1 = b11; omega))
      replace B9 := B9.only hO75 (by first | exact ne_b6_b11 | exact ne_b11_b6.symm | (show ¬ b6 = b11; omega))
      replace hF := hF.loc hO75 (.inr g_b11)
      replace B14 := hBq
      clear hBq
      refine wpList_nil ?_
      refine fx_blk ?_
      refine fx_next ?_
      refine wp_seq ?_
      refine wp_region_lit ?_
      refine fx_val (v := .agg (msgE.arr { (Msg.mk 0 m.dst 4 m.line b16z m.hn) with kind := 13 })) fr rfl rfl (by decide) (x_loadE (E := msgE) ag36 rfl rfl (fr.ev rfl) (B14.rangeE msgE)) ?_
      clear fr a; intro a fr
      refine fx_storeS sz36 rfl rfl rfl (fr.ev rfl) (fr.ev rfl) (msgE.all _) B9 (msgE.size _) (msgE.size _) fun w76 hO77 hBq => ?_
      replace B4 := B4.only hO77 (by first | exact ne_b1_b6 | exact ne_b6_b1.symm | (show ¬ b1 = b6; omega))
      replace B14 := B14.only hO77 (by first | exact ne_b11_b6 | exact ne_b6_b11.symm | (show ¬ b11 = b6; omega))
      replace hF := hF.loc hO77 (.inr g_b6)
      replace B9 := hBq
      clear hBq
      refine fx_val (v := .bool true) fr rfl rfl (by decide) (x_assign rfl rfl) ?_
      clear fr a; intro a fr
      refine wpList_nil ?_
      refine fx_next ?_
      refine wp_ret ?_
      refine fx_ret fr [.cell 4 36, .tmp 5] [.agg (msgE.arr { (Msg.mk 0 m.dst 4 m.line b16z m.hn) with kind := 13 }), .bool true] rfl ⟨⟨_, rfl, loadV_E (E := msgE) ag36 rfl (B9.rangeE msgE)⟩, rfl, trivial⟩ rfl ?_
      exact ⟨_, rfl, (by unfold ansF; rw [if_neg (by omega), if_neg (by omega), if_pos (by omega)]; first | done | rfl), hF⟩
     ·skip
      have hc73 := of_decide_eq_false hc73
      refine wp_seq ?_
      refine wp_region_lit ?_
      refine fx_val (v := .agg (msgE.arr msg0)) fr rfl rfl (by decide) (x_build (cells := msgE.arr msg0) rfl (by kernel_rfl)) ?_
      clear fr a; intro a fr
      refine fx_storeS sz36 rfl rfl rfl (fr.ev rfl) (fr.ev rfl) (msgE.all _) B9 (msgE.size _) (msgE.size _) fun w78 hO79 hBq => ?_
      replace B4 := B4.only hO79 (by first | exact ne_b1_b6 | exact ne_b6_b1.symm | (show ¬ b1 = b6; omega))
      replace B14 := B14.only hO79 (by first | exact ne_b11_b6 | exact ne_b6_b11.symm | (show ¬ b11 = b6; omega))
      replace hF := hF.loc hO79 (.inr g_b6)
      replace B9 := hBq
      clear hBq
      refine fx_val (v := .bool false) fr rfl rfl (by decide) (x_assign rfl rfl) ?_
      clear fr a; intro a fr
      refine wpList_nil ?_
      refine fx_next ?_
      refine wp_ret ?_
      refine fx_rb ?_
      refine fx_rt ?_
      refine fx_ret fr [.cell 4 36, .tmp 5] [.agg (msgE.arr msg0), .bool false] rfl ⟨⟨_, rfl, loadV_E (E := msgE) ag36 rfl (B9.rangeE msgE)⟩, rfl, trivial⟩ rfl ?_
      exact ⟨_, rfl, (by unfold ansF; rw [if_neg (by omega), if_neg (by omega), if_neg (by omega)]; first | done | rfl), hF⟩
    ·skip
     have hc72 := of_decide_eq_false hc72
     refine wp_seq ?_
     refine wp_region_lit ?_
     refine fx_val (v := .bool (decide (m.kind = 9))) fr rfl rfl (by decide) (x_eql rfl (fr.ev rfl) rfl rfl) ?_
     clear fr a; intro a fr
     refine fx_val (v := .bool (decide (m.kind = 9))) fr rfl rfl (by decide) (x_assign rfl (fr.ev rfl)) ?_
     clear fr a; intro a fr
     refine wpList_nil ?_
     refine fx_next ?_
     refine fx_cond fr rfl (fun hc80 => ?_) (fun hc80 => ?_)
     ·skip
      have hc80 := of_decide_eq_true hc80
      refine wp_skip ?_
      refine fx_next ?_
      refine fx_cond fr rfl (fun hc81 => ?_) (fun hc81 => ?_)
      ·skip
       have hc81 := of_decide_eq_true hc81
       refine wp_region_lit ?_
       refine fx_val (v := .pointer (some ⟨b11, 0, none⟩)) fr rfl rfl (by decide) (x_fieldAddr fo36_0 rfl (fr.ev rfl) rfl) ?_
       clear fr a; intro a fr
       refine fx_store1 sz33 rfl rfl rfl (fr.ev rfl) rfl rfl B14 (by rw [msgE.size]; decide) (cs' := msgE.arr { (Msg.mk 0 m.dst 4 m.line b16z m.hn) with kind := 13 }) rfl fun w82 hO83 hBq => ?_
       replace B4 := B4.only hO83 (by first | exact ne_b1_b11 | exact ne_b11_b1.symm | (show ¬ b1 = b11; omega))
       replace B9 := B9.only hO83 (by first | exact ne_b6_b11 | exact ne_b11_b6.symm | (show ¬ b6 = b11; omega))
       replace hF := hF.loc hO83 (.inr g_b11)
       replace B14 := hBq
       clear hBq
       refine wpList_nil ?_
       refine fx_blk ?_
       refine fx_next ?_
       refine wp_seq ?_
       refine wp_region_lit ?_
       refine fx_val (v := .agg (msgE.arr { (Msg.mk 0 m.dst 4 m.line b16z m.hn) with kind := 13 })) fr rfl rfl (by decide) (x_loadE (E := msgE) ag36 rfl rfl (fr.ev rfl) (B14.rangeE msgE)) ?_
       clear fr a; intro a fr
       refine fx_storeS sz36 rfl rfl rfl (fr.ev rfl) (fr.ev rfl) (msgE.all _) B9 (msgE.size _) (msgE.size _) fun w84 hO85 hBq => ?_
       replace B4 := B4.only hO85 (by first | exact ne_b1_b6 | exact ne_b6_b1.symm | (show ¬ b1 = b6; omega))
       replace B14 := B14.only hO85 (by first | exact ne_b11_b6 | exact ne_b6_b11.symm | (show ¬ b11 = b6; omega))
       replace hF := hF.loc hO85 (.inr g_b6)
       replace B9 := hBq
       clear hBq
       refine fx_val (v := .bool true) fr rfl rfl (by decide) (x_assign rfl rfl) ?_
       clear fr a; intro a fr
       refine wpList_nil ?_
       refine fx_next ?_
       refine wp_ret ?_
       refine fx_ret fr [.cell 4 36, .tmp 5] [.agg (msgE.arr { (Msg.mk 0 m.dst 4 m.line b16z m.hn) with kind := 13 }), .bool true] rfl ⟨⟨_, rfl, loadV_E (E := msgE) ag36 rfl (B9.rangeE msgE)⟩, rfl, trivial⟩ rfl ?_
       exact ⟨_, rfl, (by unfold ansF; rw [if_neg (by omega), if_neg (by omega), if_pos (by omega)]; first | done | rfl), hF⟩
      ·skip
       have hc81 := of_decide_eq_false hc81
       refine wp_seq ?_
       refine wp_region_lit ?_
       refine fx_val (v := .agg (msgE.arr msg0)) fr rfl rfl (by decide) (x_build (cells := msgE.arr msg0) rfl (by kernel_rfl)) ?_
       clear fr a; intro a fr
       refine fx_storeS sz36 rfl rfl rfl (fr.ev rfl) (fr.ev rfl) (msgE.all _) B9 (msgE.size _) (msgE.size _) fun w86 hO87 hBq => ?_
       replace B4 := B4.only hO87 (by first | exact ne_b1_b6 | exact ne_b6_b1.symm | (show ¬ b1 = b6; omega))
       replace B14 := B14.only hO87 (by first | exact ne_b11_b6 | exact ne_b6_b11.symm | (show ¬ b11 = b6; omega))
       replace hF := hF.loc hO87 (.inr g_b6)
       replace B9 := hBq
       clear hBq
       refine fx_val (v := .bool false) fr rfl rfl (by decide) (x_assign rfl rfl) ?_
       clear fr a; intro a fr
       refine wpList_nil ?_
       refine fx_next ?_
       refine wp_ret ?_
       refine fx_rb ?_
       refine fx_rt ?_
       refine fx_ret fr [.cell 4 36, .tmp 5] [.agg (msgE.arr msg0), .bool false] rfl ⟨⟨_, rfl, loadV_E (E := msgE) ag36 rfl (B9.rangeE msgE)⟩, rfl, trivial⟩ rfl ?_
       exact ⟨_, rfl, (by unfold ansF; rw [if_neg (by omega), if_neg (by omega), if_neg (by omega)]; first | done | rfl), hF⟩
     ·skip
      have hc80 := of_decide_eq_false hc80
      refine wp_region_lit ?_
      refine fx_val (v := .bool (decide (m.kind = 10))) fr rfl rfl (by decide) (x_eql rfl (fr.ev rfl) rfl rfl) ?_
      clear fr a; intro a fr
      refine fx_val (v := .bool (decide (m.kind = 10))) fr rfl rfl (by decide) (x_assign rfl (fr.ev rfl)) ?_
      clear fr a; intro a fr
      refine wpList_nil ?_
      refine fx_next ?_
      refine fx_cond fr rfl (fun hc88 => ?_) (fun hc88 => ?_)
      ·skip
       have hc88 := of_decide_eq_true hc88
       refine wp_region_lit ?_
       refine fx_val (v := .pointer (some ⟨b11, 0, none⟩)) fr rfl rfl (by decide) (x_fieldAddr fo36_0 rfl (fr.ev rfl) rfl) ?_
       clear fr a; intro a fr
       refine fx_store1 sz33 rfl rfl rfl (fr.ev rfl) rfl rfl B14 (by rw [msgE.size]; decide) (cs' := msgE.arr { (Msg.mk 0 m.dst 4 m.line b16z m.hn) with kind := 13 }) rfl fun w89 hO90 hBq => ?_
       replace B4 := B4.only hO90 (by first | exact ne_b1_b11 | exact ne_b11_b1.symm | (show ¬ b1 = b11; omega))
       replace B9 := B9.only hO90 (by first | exact ne_b6_b11 | exact ne_b11_b6.symm | (show ¬ b6 = b11; omega))
       replace hF := hF.loc hO90 (.inr g_b11)
       replace B14 := hBq
       clear hBq
       refine wpList_nil ?_
       refine fx_blk ?_
       refine fx_next ?_
       refine wp_seq ?_
       refine wp_region_lit ?_
       refine fx_val (v := .agg (msgE.arr { (Msg.mk 0 m.dst 4 m.line b16z m.hn) with kind := 13 })) fr rfl rfl (by decide) (x_loadE (E := msgE) ag36 rfl rfl (fr.ev rfl) (B14.rangeE msgE)) ?_
       clear fr a; intro a fr
       refine fx_storeS sz36 rfl rfl rfl (fr.ev rfl) (fr.ev rfl) (msgE.all _) B9 (msgE.size _) (msgE.size _) fun w91 hO92 hBq => ?_
       replace B4 := B4.only hO92 (by first | exact ne_b1_b6 | exact ne_b6_b1.symm | (show ¬ b1 = b6; omega))
       replace B14 := B14.only hO92 (by first | exact ne_b11_b6 | exact ne_b6_b11.symm | (show ¬ b11 = b6; omega))
       replace hF := hF.loc hO92 (.inr g_b6)
       replace B9 := hBq
       clear hBq
       refine fx_val (v := .bool true) fr rfl rfl (by decide) (x_assign rfl rfl) ?_
       clear fr a; intro a fr
       refine wpList_nil ?_
       refine fx_next ?_
       refine wp_ret ?_
       refine fx_ret fr [.cell 4 36, .tmp 5] [.agg (msgE.arr { (Msg.mk 0 m.dst 4 m.line b16z m.hn) with kind := 13 }), .bool true] rfl ⟨⟨_, rfl, loadV_E (E := msgE) ag36 rfl (B9.rangeE msgE)⟩, rfl, trivial⟩ rfl ?_
       exact ⟨_, rfl, (by unfold ansF; rw [if_neg (by omega), if_neg (by omega), if_pos (by omega)]; first | done | rfl), hF⟩
      ·skip
       have hc88 := of_decide_eq_false hc88
       refine wp_seq ?_
       refine wp_region_lit ?_
       refine fx_val (v := .agg (msgE.arr msg0)) fr rfl rfl (by decide) (x_build (cells := msgE.arr msg0) rfl (by kernel_rfl)) ?_
       clear fr a; intro a fr
       refine fx_storeS sz36 rfl rfl rfl (fr.ev rfl) (fr.ev rfl) (msgE.all _) B9 (msgE.size _) (msgE.size _) fun w93 hO94 hBq => ?_
       replace B4 := B4.only hO94 (by first | exact ne_b1_b6 | exact ne_b6_b1.symm | (show ¬ b1 = b6; omega))
       replace B14 := B14.only hO94 (by first | exact ne_b11_b6 | exact ne_b6_b11.symm | (show ¬ b11 = b6; omega))
       replace hF := hF.loc hO94 (.inr g_b6)
       replace B9 := hBq
       clear hBq
       refine fx_val (v := .bool false) fr rfl rfl (by decide) (x_assign rfl rfl) ?_
       clear fr a; intro a fr
       refine wpList_nil ?_
       refine fx_next ?_
       refine wp_ret ?_
       refine fx_rb ?_
       refine fx_rt ?_
       refine fx_ret fr [.cell 4 36, .tmp 5] [.agg (msgE.arr msg0), .bool false] rfl ⟨⟨_, rfl, loadV_E (E := msgE) ag36 rfl (B9.rangeE msgE)⟩, rfl, trivial⟩ rfl ?_
       exact ⟨_, rfl, (by unfold ansF; rw [if_neg (by omega), if_neg (by omega), if_neg (by omega)]; first | done | rfl), hF⟩
def zv4 : Value := .agg (#[.slice none 0 0, .slice none 0 0])
set_option maxRecDepth 100000 in
set_option maxHeartbeats 4000000 in
theorem rnew_c {w : World} {A : Option Addr} {cap : Nat} {bs : List UInt8} (hV : View byE w A cap bs) (hl : bs.length ≤ 4096) : Calls Try.prog 26 #[.slice A bs.length cap] w (Ret fun v w' => ∃ A' c' B' cb', v = .agg #[.slice A' bs.length c', .slice B' (bs.length / 16) cb'] ∧ View byE w' A' c' bs ∧ View ecE w' B' cb' (List.replicate (bs.length / 16) ec0) ∧ (∀ g, inA A' g → w.heap.size ≤ g) ∧ (∀ g, inA B' g → w.heap.size ≤ g) ∧ New w w') := by
 have hF := Only.refl (fun _ => False) w
 refine Zen 22 Try.func26 ?_
 refine Zsr ?_
 refine Zna (z := zv4) (cs := #[.slice none 0 0, .slice none 0 0]) (by kernel_rfl) fun b1 w2 hN3 B4 hb5 => ?_
 have g_b1 := Nat.le_trans hF.size hb5
 refine Znn ?_
 refine Zsr ?_
 refine Zm ?_
 intro a fr
 replace hV := hV.new hN3
 refine fx_append (E := byE) (l := []) (l' := bs) elBy fr rfl rfl (by decide) rfl rfl (fr.ev rfl) (by first | rfl | (simp; done) | (simp; omega)) (by first | rfl | (simp; done) | (simp; omega)) Own.nil hV (by first | omega | (simp only [List.length_replicate, List.length_cons, List.length_nil]; omega) | (simp; omega)) (by first | (unfold maxLen; done) | (unfold maxLen; first | omega | (simp only [List.length_append, List.length_cons, List.length_nil]; omega) | (simp; done) | (simp; omega))) ?_
 clear fr a
 intro A6 cap7 w8 O9 hO10 mv11
 have ap_A6_b1 : Apart A6 b1 := moved_apart mv11 (apart_none b1) B4.lt
 replace hF := hF.trNew hN3
 have gN_A6 := fun g (hg : inA A6 g) => (mv11 g hg).elim (fun h => absurd h (apart_none g)) (fun h => Nat.le_trans hF.size h)
 replace hO10 := only_none hO10
 intro a fr
 simp only [List.nil_append] at fr O9
 revert a
 refine Zv (.agg (#[.slice A6 bs.length cap7, .slice none 0 0])) (fun a fr => x_build (cells := #[.slice A6 bs.length cap7, .slice none 0 0]) rfl (by simp only [List.map_toArray, List.map_cons, List.map_nil, show a.eval (.tmp 6) = .slice A6 bs.length cap7 from fr.ev rfl]; kernel_rfl)) ?_
 refine Zna (z := zv4) (cs := #[.slice none 0 0, .slice none 0 0]) (by kernel_rfl) fun b12 w13 hN14 B15 hb16 => ?_
 replace hV := hV.new hO10
 have ap_A_b12 : Apart A b12 := hV.apart hb16
 replace B4 := B4.new hO10
 have ne_b1_b12 : NE b1 b12 := NE.mk (Nat.lt_of_lt_of_le B4.lt hb16)
 have ap_A6_b12 : Apart A6 b12 := O9.apart hb16
 replace hF := hF.trNew hO10
 have g_b12 := Nat.le_trans hF.size hb16
 refine ZsS sz28 (by simp [Value.oneCell']) B15 rfl rfl (ho := rfl) (hy := rfl) fun w17 hO18 hBq => ?_
 replace B15 := hBq
 clear hBq
 refine Znn ?_
 refine Zsq ?_
 refine Zsr ?_
 refine Za ?_
 refine Znn ?_
 refine Zbl ?_
 intro a fr
 replace hV := (hV.new hN14).only hO18 (Apart.ne1 ap_A_b12)
 replace B4 := (B4.new hN14).only hO18 ne_b1_b12
 replace O9 := (O9.new hN14).only hO18 (Apart.ne1 ap_A6_b12)
 replace hF := (hF.trNew hN14).loc hO18 (.inr g_b12)
 refine fx_loop (fun nM a wL => ∃ i : Nat, ∃ Bq : Option Addr, ∃ cbq : Nat, nM = bs.length / 16 - i ∧ Fr (22, []) [(0, .slice A bs.length cap), (2, .pointer (some ⟨b1, 0, none⟩)), (3, .pointer (some ⟨b12, 0, none⟩)), (4, .int .i64 ((i : Nat) : Int))] a ∧ Only (fun _ => False) w wL ∧ View byE wL A cap bs ∧ Blk wL b1 28 (#[.slice none 0 0, .slice none 0 0]) ∧ Own byE wL A6 cap7 bs ∧ Blk wL b12 28 (#[.slice A6 bs.length cap7, .slice Bq i cbq]) ∧ Own ecE wL Bq cbq (List.replicate i ec0) ∧ i ≤ bs.length / 16 ∧ (Apart2 A Bq) ∧ (Apart Bq b1) ∧ (Apart2 A6 Bq) ∧ (Apart Bq b12) ∧ (∀ g, inA Bq g → (fun _ => False) g ∨ w.heap.size ≤ g)) (n0 := _) ⟨0, none, 0, rfl, fr.sub ⟨rfl, rfl, rfl, rfl, trivial⟩, hF, hV, B4, O9, B15, Own.nil, by omega, (fun k _ h => apart_none k h), (apart_none b1), (fun k _ h => apart_none k h), (apart_none b12), gA_none⟩ ?_
 clear fr a
 rintro n20 a w19 ⟨i, Bq, cbq, rfl, fr, hF, hV, B4, O9, B15, OE, hi, ap2_A_Bq, ap_Bq_b1, ap2_A6_Bq, ap_Bq_b12, gA_Bq⟩
 revert a
 refine Zsq ?_
 refine Zsr ?_
 refine Zm ?_
 refine Zm ?_
 refine Zv _ (fun _ fr => x_len Try.underlying22 rfl (fr.ev rfl)) ?_
 refine Zv (.int .i64 ((bs.length / 16 : Nat) : Int)) (fun _ fr => x_quo rfl (fr.ev rfl) rfl (by decide) (quo_nat _ _ (by omega))) ?_
 refine Zv _ (fun _ fr => x_lss rfl (fr.ev rfl) (fr.ev rfl) rfl) ?_
 refine Znn ?_
 refine Zcd (fun hc21 => ?_) (fun hc21 => ?_)
 ·have hc21 := of_decide_eq_true hc21
  refine Zsk ?_
  refine Znx ?_
  refine Zsq ?_
  refine Zbl ?_
  refine Zrg ?_
  refine Zf fo28_1 ?_
  refine Zd (v := .slice Bq i cbq) pl26 (B15.cell 1 rfl) ?_
  refine Zv (.agg (#[.int .i64 (-1), .bool false, .bool false, .bool false, .bool false, .bool false, .int .i64 0, .int .i64 0, .int .i64 0, .bool false, .slice none 0 0])) (fun _ _ => x_build (cells := #[.int .i64 (-1), .bool false, .bool false, .bool false, .bool false, .bool false, .int .i64 0, .int .i64 0, .int .i64 0, .bool false, .slice none 0 0]) rfl (by kernel_rfl)) ?_
  intro a fr
  refine fx_build1 (E := ecE) (p := ec0) elEc (by decide) fr rfl rfl (by decide) rfl (fr.ev rfl) ?_
  clear fr a
  intro A22 w23 hN24 O25 hA26
  intro a fr
  replace OE := OE.new hN24
  refine fx_append (E := ecE) (l := (List.replicate i ec0)) (l' := [ec0]) elEc fr rfl rfl (by decide) rfl (fr.ev rfl) (fr.ev rfl) (by first | rfl | (simp; done) | (simp; omega)) (by first | rfl | (simp; done) | (simp; omega)) OE O25.view (by first | omega | (simp only [List.length_replicate, List.length_cons, List.length_nil]; omega) | (simp; omega)) (by first | (unfold maxLen; done) | (unfold maxLen; first | omega | (simp only [List.length_append, List.length_cons, List.length_nil]; omega) | (simp; done) | (simp; omega))) ?_
  clear fr a
  intro A27 cap28 w29 O30 hO31 mv32
  replace hV := hV.new hN24
  have ap2_A27_A : Apart2 A27 A := moved_apart2 mv32 ap2_A_Bq.symm fun _ hg => hV.lt hg
  replace B4 := B4.new hN24
  have ap_A27_b1 : Apart A27 b1 := moved_apart mv32 ap_Bq_b1 B4.lt
  replace O9 := O9.new hN24
  have ap2_A27_A6 : Apart2 A27 A6 := moved_apart2 mv32 ap2_A6_Bq.symm fun _ hg => O9.lt hg
  replace B15 := B15.new hN24
  have ap_A27_b12 : Apart A27 b12 := moved_apart mv32 ap_Bq_b12 B15.lt
  replace hF := hF.trNew hN24
  have gA_A27 := gA_moved hF mv32 gA_Bq
  clear OE
  refine Zf fo28_1 ?_
  replace B15 := B15.only hO31 ap_Bq_b12
  refine Zs1 (cs' := #[.slice A6 bs.length cap7, .slice A27 (((List.replicate i ec0) ++ ([ec0])).length) cap28]) sz26 B15 (show 1 < 2 by decide) rfl fun w33 hO34 hBq => ?_
  replace B15 := hBq
  clear hBq
  refine Znl ?_
  refine Zb ?_
  refine Znx ?_
  refine Zrg ?_
  refine Zm ?_
  refine Zv _ (fun _ fr => x_add rfl (fr.ev rfl) rfl (i64w (r := ((i + 1 : Nat) : Int)) (by omega) (by omega))) ?_
  refine Za ?_
  intro a fr
  refine wpList_nil ?_
  refine fx_next ?_
  replace hV := (hV.only hO31 (fun g h1 h2 => ap2_A_Bq g h1 h2)).only hO34 (Apart.ne1 ap_A_b12)
  replace B4 := (B4.only hO31 ap_Bq_b1).only hO34 ne_b1_b12
  replace O9 := (O9.only hO31 (fun g h1 h2 => ap2_A6_Bq g h1 h2)).only hO34 (Apart.ne1 ap_A6_b12)
  replace hF := (hF.locA hO31 gA_Bq).loc hO34 (.inr g_b12)
  replace O30 := O30.only hO34 (Apart.ne1 ap_A27_b12)
  exact ⟨_, by omega, (i + 1), A27, cap28, rfl, fr.sub ⟨rfl, rfl, rfl, rfl, trivial⟩, hF, hV, B4, O9, (by have h9 := B15; rw [List.length_append, List.length_replicate] at h9; exact h9), (by have h9 := O30; rw [← List.replicate_succ'] at h9; exact h9), by omega, ap2_A27_A.symm, ap_A27_b1, ap2_A27_A6.symm, ap_A27_b12, gA_A27⟩
 ·have hc21 := of_decide_eq_false hc21
  refine Zex ?_
  refine Zxt ?_
  refine Zxt ?_
  refine Zxx ?_
  refine Znx ?_
  refine Zsr ?_
  refine Zv _ (fun _ fr => x_loadS ag28 rfl (fr.ev rfl) rfl B15.range) ?_
  refine ZsS sz28 (by simp [Value.oneCell']) B4 rfl rfl (ho := rfl) (hy := rfl) fun w35 hO36 hBq => ?_
  replace B4 := hBq
  clear hBq
  refine Znn ?_
  refine Zrt ?_
  refine Zre rfl [_] ⟨⟨_, rfl, x_loadV ag28 rfl B4.range⟩, trivial⟩ ?_
  obtain rfl : i = bs.length / 16 := by omega
  replace O9 := O9.only hO36 (Apart.ne1 ap_A6_b1)
  replace OE := OE.only hO36 (Apart.ne1 ap_Bq_b1)
  replace hF := hF.loc hO36 (.inr g_b1)
  exact ⟨_, rfl, A6, cap7, Bq, cbq, rfl, O9.view, OE.view, gN_A6, fun g hg => (gA_Bq g hg).resolve_left (fun h => h), hF⟩
end Go.Proofs.Ytdiaemlgghfecaa
namespace Go.Proofs.Ytdiaemlgghfecaa
open Go.RowKit
set_option maxRecDepth 100000 in
set_option maxHeartbeats 4000000 in
theorem made_1 {w : World} {A : Option Addr} {cap : Nat} {bs : List UInt8} (hV : View byE w A cap bs) (hok : okSize (bs.length : Int) = true) (h128 : ¬ 128 < ((bs.length : Nat) : Int)) : Calls Try.prog 9 #[.slice A bs.length cap] w (Ret fun v w' => ∃ b Fp A1 c1 B1 cb1 FR, v = .tuple #[.pointer (some ⟨b, 0, none⟩), .agg #[.slice A1 bs.length c1, .slice B1 (bs.length / 16) cb1], .bool true] ∧ HomeAt w' Fp b (home0 bs) ∧ RefH w' FR A1 c1 B1 cb1 (home0 bs) ∧ (∀ g, Fp g → w.heap.size ≤ g) ∧ (∀ g, FR g → w.heap.size ≤ g) ∧ (∀ k, Fp k → FR k → False) ∧ New w w') := by
 have hF := Only.refl (fun _ => False) w
 refine Zen 36 Try.func9 ?_
 refine Zsr ?_
 refine Za ?_
 refine Zna (z := zv4) (cs := #[.slice none 0 0, .slice none 0 0]) (by kernel_rfl) fun b1 w2 hN3 B4 hb5 => ?_
 have g_b1 := Nat.le_trans hF.size hb5
 refine Za ?_
 refine Znn ?_
 refine Zsr ?_
 refine Zm ?_
 replace hV := hV.new hN3
 refine Zk cf25 (imgof_yes hV hok) ?_
 rintro v w13 ⟨bi6, ig7, cap8, rfl, hI9, hb10, hg11, hne12, hN14⟩
 refine Zm ?_
 refine Zt ?_
 refine Zt ?_
 refine Za ?_
 refine Za ?_
 refine Znn ?_
 refine Zsq ?_
 refine Zsr ?_
 refine Zm ?_
 refine Zv (.bool false) (fun _ fr => x_neq rfl (fr.ev rfl) rfl rfl) ?_
 refine Zm ?_
 refine Zm ?_
 refine Zv _ (fun _ fr => x_len Try.underlying22 rfl (fr.ev rfl)) ?_
 refine Zv (.bool false) (fun _ fr => x_gtr rfl (fr.ev rfl) rfl (decide_eq_false h128)) ?_
 refine Zpf ?_
 refine Znn ?_
 refine Zcf ?_
 refine Zsk ?_
 refine Znx ?_
 refine Zsr ?_
 refine Zm ?_
 refine Zk cf22 (hnew_c hI9) ?_
 rintro v w19 ⟨hb15, Fp16, rfl, H17, hf18, hN20⟩
 replace B4 := B4.new hN14
 have ap_Fp16_b1 : ¬ Fp16 b1 := new_apartP hf18 B4.lt
 replace hF := (hF.trNew hN3).trNew hN14
 have gN_Fp16 := fun g (hg : Fp16 g) => Nat.le_trans hF.size (hf18 g hg)
 refine Zm ?_
 refine Zt ?_
 refine Zt ?_
 refine Za ?_
 refine Za ?_
 refine Znn ?_
 refine Zsr ?_
 refine Zm ?_
 refine Zm ?_
 replace hV := (hV.new hN14).new hN20
 refine Zk (args := #[.slice A bs.length cap]) cf26 (rnew_c hV (by omega)) ?_
 rintro v w29 ⟨A21, cap22, B23, cb24, rfl, V25, V26, hA27, hB28, hN30⟩
 replace B4 := B4.new hN20
 have ap_A21_b1 : Apart A21 b1 := new_apart hA27 B4.lt
 have ap2_Fp16_A21 : ∀ k, Fp16 k → inA A21 k → False := symP (new_apart2P hA27 fun _ hg => H17.lt hg)
 replace hF := hF.trNew hN20
 have gN_A21 := fun g (hg : inA A21 g) => Nat.le_trans hF.size (hA27 g hg)
 have ap_B23_b1 : Apart B23 b1 := new_apart hB28 B4.lt
 have ap2_Fp16_B23 : ∀ k, Fp16 k → inA B23 k → False := symP (new_apart2P hB28 fun _ hg => H17.lt hg)
 have gN_B23 := fun g (hg : inA B23 g) => Nat.le_trans hF.size (hB28 g hg)
 refine Zm ?_
 refine Zv (.bool true) (fun _ fr => x_eql rfl (fr.ev rfl) rfl rfl) ?_
 refine Zm ?_
 refine Zm ?_
 refine Zv (.bool true) (fun _ fr => x_pneq Try.underlying25 rfl (fr.ev rfl) rfl rfl) ?_
 refine Zpt ?_
 refine Za ?_
 replace B4 := B4.new hN30
 refine ZsS sz28 (by simp [Value.oneCell']) B4 rfl rfl (ho := rfl) (hy := rfl) fun w31 hO32 hBq => ?_
 replace B4 := hBq
 clear hBq
 refine Za ?_
 refine Znn ?_
 refine Zrt ?_
 refine Zre rfl [_, _, _] ⟨rfl, ⟨_, rfl, x_loadV ag28 rfl B4.range⟩, rfl, trivial⟩ ?_
 replace H17 := (H17.new hN30).only hO32 (ne1P ap_Fp16_b1)
 replace hF := (hF.trNew hN30).loc hO32 (.inr g_b1)
 replace V25 := V25.only hO32 (Apart.ne1 ap_A21_b1)
 replace V26 := V26.only hO32 (Apart.ne1 ap_B23_b1)
 exact ⟨_, rfl, hb15, Fp16, A21, cap22, B23, cb24, _, rfl, H17, ref_new V25 V26, gN_Fp16, fun g hg => hg.elim (gN_A21 g) (gN_B23 g), fun k h1 h2 => h2.elim (ap2_Fp16_A21 k h1) (ap2_Fp16_B23 k h1), hF⟩
set_option maxRecDepth 100000 in
set_option maxHeartbeats 4000000 in
theorem made_2 {w : World} {A : Option Addr} {cap : Nat} {bs : List UInt8} (hV : View byE w A cap bs) (hok : okSize (bs.length : Int) = true) (h128 : 128 < ((bs.length : Nat) : Int)) : Calls Try.prog 9 #[.slice A bs.length cap] w (Ret fun v w' => v = .tuple #[.pointer none, .agg #[.slice none 0 0, .slice none 0 0], .bool false] ∧ New w w') := by
 have hF := Only.refl (fun _ => False) w
 refine Zen 36 Try.func9 ?_
 refine Zsr ?_
 refine Za ?_
 refine Zna (z := zv4) (cs := #[.slice none 0 0, .slice none 0 0]) (by kernel_rfl) fun b1 w2 hN3 B4 hb5 => ?_
 have g_b1 := Nat.le_trans hF.size hb5
 refine Za ?_
 refine Znn ?_
 refine Zsr ?_
 refine Zm ?_
 replace hV := hV.new hN3
 refine Zk cf25 (imgof_yes hV hok) ?_
 rintro v w13 ⟨bi6, ig7, cap8, rfl, hI9, hb10, hg11, hne12, hN14⟩
 refine Zm ?_
 refine Zt ?_
 refine Zt ?_
 refine Za ?_
 refine Za ?_
 refine Znn ?_
 refine Zsq ?_
 refine Zsr ?_
 refine Zm ?_
 refine Zv (.bool false) (fun _ fr => x_neq rfl (fr.ev rfl) rfl rfl) ?_
 refine Zm ?_
 refine Zm ?_
 refine Zv _ (fun _ fr => x_len Try.underlying22 rfl (fr.ev rfl)) ?_
 refine Zv (.bool true) (fun _ fr => x_gtr rfl (fr.ev rfl) rfl (decide_eq_true h128)) ?_
 refine Zpf ?_
 refine Znn ?_
 refine Zct ?_
 refine Zsr ?_
 refine Zv (.agg (#[.slice none 0 0, .slice none 0 0])) (fun _ _ => x_build (cells := #[.slice none 0 0, .slice none 0 0]) rfl (by kernel_rfl)) ?_
 refine Za ?_
 replace B4 := B4.new hN14
 refine ZsS sz28 (by simp [Value.oneCell']) B4 rfl rfl (ho := rfl) (hy := rfl) fun w15 hO16 hBq => ?_
 replace B4 := hBq
 clear hBq
 refine Za ?_
 refine Znn ?_
 refine Zrt ?_
 refine Zr1 ?_
 refine Zre rfl [_, _, _] ⟨rfl, ⟨_, rfl, x_loadV ag28 rfl B4.range⟩, rfl, trivial⟩ ?_
 replace hF := ((hF.trNew hN3).trNew hN14).loc hO16 (.inr g_b1)
 exact ⟨_, rfl, rfl, hF⟩
set_option maxRecDepth 100000 in
set_option maxHeartbeats 4000000 in
theorem made_3 {w : World} {A : Option Addr} {cap : Nat} {bs : List UInt8} (hV : View byE w A cap bs) (hok : okSize (bs.length : Int) = false) : Calls Try.prog 9 #[.slice A bs.length cap] w (Ret fun v w' => v = .tuple #[.pointer none, .agg #[.slice none 0 0, .slice none 0 0], .bool false] ∧ New w w') := by
 have hF := Only.refl (fun _ => False) w
 refine Zen 36 Try.func9 ?_
 refine Zsr ?_
 refine Za ?_
 refine Zna (z := zv4) (cs := #[.slice none 0 0, .slice none 0 0]) (by kernel_rfl) fun b1 w2 hN3 B4 hb5 => ?_
 have g_b1 := Nat.le_trans hF.size hb5
 refine Za ?_
 refine Znn ?_
 refine Zsr ?_
 refine Zm ?_
 refine Zk cf25 (imgof_no hok _) ?_
 rintro v w9 ⟨rfl, hw9⟩
 obtain rfl := hw9.symm
 refine Zm ?_
 refine Zt ?_
 refine Zt ?_
 refine Za ?_
 refine Za ?_
 refine Znn ?_
 refine Zsq ?_
 refine Zsr ?_
 refine Zm ?_
 refine Zv (.bool true) (fun _ fr => x_neq rfl (fr.ev rfl) rfl rfl) ?_
 refine Zm ?_
 refine Zs ?_
 refine Zs ?_
 refine Zs ?_
 refine Zpt ?_
 refine Znn ?_
 refine Zct ?_
 refine Zsr ?_
 refine Zv (.agg (#[.slice none 0 0, .slice none 0 0])) (fun _ _ => x_build (cells := #[.slice none 0 0, .slice none 0 0]) rfl (by kernel_rfl)) ?_
 refine Za ?_
 refine ZsS sz28 (by simp [Value.oneCell']) B4 rfl rfl (ho := rfl) (hy := rfl) fun w8 hO9 hBq => ?_
 replace B4 := hBq
 clear hBq
 refine Za ?_
 refine Znn ?_
 refine Zrt ?_
 refine Zr1 ?_
 refine Zre rfl [_, _, _] ⟨rfl, ⟨_, rfl, x_loadV ag28 rfl B4.range⟩, rfl, trivial⟩ ?_
 replace hF := (hF.trNew hN3).loc hO9 (.inr g_b1)
 exact ⟨_, rfl, rfl, hF⟩
theorem made_yes {w : World} {A : Option Addr} {cap : Nat} {bs : List UInt8} (hV : View byE w A cap bs) (hs : sizeB bs = true) : Calls Try.prog 9 #[.slice A bs.length cap] w (Ret fun v w' => ∃ b Fp A1 c1 B1 cb1 FR, v = .tuple #[.pointer (some ⟨b, 0, none⟩), .agg #[.slice A1 bs.length c1, .slice B1 (bs.length / 16) cb1], .bool true] ∧ HomeAt w' Fp b (home0 bs) ∧ RefH w' FR A1 c1 B1 cb1 (home0 bs) ∧ (∀ g, Fp g → w.heap.size ≤ g) ∧ (∀ g, FR g → w.heap.size ≤ g) ∧ (∀ k, Fp k → FR k → False) ∧ New w w') := by
  simp only [sizeB, Bool.and_eq_true, decide_eq_true_eq] at hs
  exact made_1 hV hs.1 (by omega)
theorem made_no {w : World} {A : Option Addr} {cap : Nat} {bs : List UInt8} (hV : View byE w A cap bs) (hs : sizeB bs = false) : Calls Try.prog 9 #[.slice A bs.length cap] w (Ret fun v w' => v = .tuple #[.pointer none, .agg #[.slice none 0 0, .slice none 0 0], .bool false] ∧ New w w') := by
  cases hok : okSize (bs.length : Int) with
  | false => exact made_3 hV hok
  | true =>
    refine made_2 hV hok ?_
    simp only [sizeB, hok, Bool.true_and, decide_eq_false_iff_not] at hs
    omega
end Go.Proofs.Ytdiaemlgghfecaa
namespace Go.Proofs.Ytdiaemlgghfecaa
open Go.RowKit
theorem u8n (b : UInt8) : 0 ≤ ((b.toNat : Nat) : Int) ∧ ((b.toNat : Nat) : Int) < 256 := by have := b.toNat_lt; omega
theorem bs_put (B : B16) (i : Nat) (b : Int) (hb : 0 ≤ b ∧ b < 256) : (bsE.arr B).setIfInBounds i (.int .u8 b) = bsE.arr (B.put i b hb) := by
  apply Array.ext'
  simp only [Enc.arr, Array.toList_setIfInBounds]
  show (B.1.map (Value.int .u8)).set i _ = (B.1.set i b).map (Value.int .u8)
  rw [List.map_set]
theorem b8_byte (B : B16) (i : Nat) (h : i < 16) : (bsE.arr B)[i]? = some (.int .u8 ((((b8 B).getD i 0).toNat : Nat) : Int)) := by
  show (B.1.map (Value.int .u8)).toArray[i]? = _
  have hl := B.2.1
  simp only [List.getElem?_toArray, List.getElem?_map]
  have hm := B.2.2 (B.1[i]'(by omega)) (List.getElem_mem _)
  simp [b8, List.getD, hl, h]
  omega
theorem line_eq {B : B16} {bs : List UInt8} {k : Nat} (hk : k < bs.length / 16) (h : ∀ j, j < 16 → B.1.getD j 0 = (((bs.getD (16 * k + j) 0).toNat : Nat) : Int)) : B = lineB bs ((k : Nat) : Int) := by
  apply Subtype.ext
  refine ext_getD 0 (by rw [B.2.1, (lineB bs _).2.1]) fun j hj => ?_
  rw [B.2.1] at hj
  rw [h j hj, lineB_get bs _ (by rw [Int.toNat_natCast]; exact hk) j hj, Int.toNat_natCast]
theorem setLn_get {bs : List UInt8} {k : Nat} {b : B16} (hk : k < bs.length / 16) (j : Nat) : (setLn bs ((k : Nat) : Int) b).getD j 0 = if 16 * k ≤ j ∧ j < 16 * k + 16 then (b8 b).getD (j - 16 * k) 0 else bs.getD j 0 := by
  unfold setLn setSpec
  rw [Int.toNat_natCast, if_neg (by omega)]
  have hl := b8_length b
  have h1 : (bs.take (16 * k)).length = 16 * k := by rw [List.length_take]; omega
  simp only [List.getD]
  by_cases a : j < 16 * k
  · rw [List.getElem?_append_left (by omega), List.getElem?_take, if_pos a, if_neg (by omega)]
  · rw [List.getElem?_append_right (by omega), h1]
    by_cases c : j < 16 * k + 16
    · rw [List.getElem?_append_left (by omega), if_pos (by omega)]
    · rw [List.getElem?_append_right (by omega), hl, List.getElem?_drop, if_neg (by omega), show 16 * k + 16 + (j - 16 * k - 16) = j by omega]
theorem set_eq {cur bs : List UInt8} {k : Nat} {b : B16} (hk : k < bs.length / 16) (hl : cur.length = bs.length) (h : ∀ j, cur.getD j 0 = if 16 * k ≤ j ∧ j < 16 * k + 16 then (b8 b).getD (j - 16 * k) 0 else bs.getD j 0) : cur = setLn bs ((k : Nat) : Int) b := by
  refine ext_getD 0 (by rw [hl, setLn_length]) fun j _ => ?_
  rw [h j, setLn_get hk]
theorem set_step {cur bs : List UInt8} {k i : Nat} {b : B16} (hi : 16 * k + i < cur.length) (h : ∀ j, cur.getD j 0 = if 16 * k ≤ j ∧ j < 16 * k + i then (b8 b).getD (j - 16 * k) 0 else bs.getD j 0) : ∀ j, (cur.set (16 * k + i) ((b8 b).getD i 0)).getD j 0 = if 16 * k ≤ j ∧ j < 16 * k + (i + 1) then (b8 b).getD (j - 16 * k) 0 else bs.getD j 0 := fun j => by
  by_cases e : j = 16 * k + i
  · subst e
    rw [if_pos (by omega)]
    simp [List.getD, hi]
  · have h1 : (cur.set (16 * k + i) ((b8 b).getD i 0)).getD j 0 = cur.getD j 0 := by
      simp [List.getD, List.getElem?_set, Ne.symm e]
    rw [h1, h j]
    by_cases a : 16 * k ≤ j ∧ j < 16 * k + i
    · rw [if_pos a, if_pos (by omega)]
    · rw [if_neg a, if_neg (by omega)]
theorem Own.drop {P : Program} {α : Type} [DecidableEq α] {E : Enc P α} {w : World} {A : Option Addr} {cap : Nat} {l : List α} (h : Own E w A cap l) (k : Nat) (hk : k ≤ l.length) : Own E w (cutA A cap k E.n) (cap - k) (l.drop k) := by
  obtain ⟨h1, h2, ⟨rfl, h3⟩ | ⟨g, o, cs, rfl, hB, hs, ht⟩⟩ := h
  · refine ⟨by rw [List.length_drop]; omega, by omega, .inl ⟨?_, by omega⟩⟩
    unfold cutA; split <;> rfl
  · refine ⟨by rw [List.length_drop]; omega, by omega, .inr ?_⟩
    unfold cutA
    split
    · rename_i hc
      have : l.drop k = [] := List.drop_eq_nil_of_le (by omega)
      refine ⟨g, o, cs, rfl, hB, ?_, by rw [this]; simp⟩
      rw [hc]; simp only [Nat.sub_self, Nat.zero_mul]; omega
    · refine ⟨g, o + k * E.n, cs, by simp [Addr.add_mid], hB, ?_, ?_⟩
      · have : k * E.n + (cap - k) * E.n = cap * E.n := by rw [← Nat.add_mul]; congr 1; omega
        omega
      · have e : ((l.take k).flatMap E.cells).length = k * E.n := by rw [flat_len, List.length_take, Nat.min_eq_left hk]
        have h3 : l.flatMap E.cells = (l.take k).flatMap E.cells ++ (l.drop k).flatMap E.cells := by rw [← List.flatMap_append, List.take_append_drop]
        rw [h3] at ht
        have h4 : (l.drop k).length * E.n = l.length * E.n - k * E.n := by rw [List.length_drop, Nat.sub_mul]
        rw [h4, ← List.drop_drop, ← List.drop_take, ht, ← e, List.drop_left]
theorem cut_inO {P : Program} {α : Type} [DecidableEq α] {E : Enc P α} {w : World} {l : List α} {A : Option Addr} {cap c k n g : Nat} (hv : Own E w A cap l) (h : inA (cutA A c k n) g) : inA A g := cut_in hv.view h
def str (bs : List UInt8) : ByteArray := ⟨bs.toArray⟩
set_option maxRecDepth 100000 in
theorem conv_bytes (w : World) (b o n c : Nat) (bs : List UInt8) (hn : n = bs.length) (hcell : ∀ j u, (bs.map u8v)[j]? = some u → w.cell? ⟨b, o + j, none⟩ = some u) :
    (convert 22 9 (.slice (some ⟨b, o, none⟩) n c)).run Try.prog w = .ok (.string (str bs)) w := by
  have h := run_convert_bytes_arg (P := Try.prog) w 22 5 Try.underlying22 Try.underlying5 b o n c (bs.map fun x => (x.toNat : Int)) (by simp [hn]) (fun i hi => by
    rw [hcell i (u8v (bs[i]'(by omega))) (by rw [List.getElem?_map, List.getElem?_eq_getElem (by omega)]; rfl)]
    simp [u8v, List.getD, List.getElem?_eq_getElem (show i < bs.length by omega)]) 9 Try.underlying9
  rw [h]
  congr 2
  simp [strOfNums, str, Function.comp_def]
section
variable {w : World} {ev : Operand → Value} {o : Oper} {x y : Operand}
theorem x_convStr {A : Option Addr} {c : Nat} {bs : List UInt8} (ho : o.op = .convert 22 9 x) (hx : ev x = .slice A bs.length c) (hV : View byE w A c bs) (h0 : 0 < bs.length) : (execOp ev o).run Try.prog w = .ok (.value (.string (str bs))) w := by
  obtain ⟨b, o', rfl, hc⟩ := hV.addr h0
  rw [by_flat] at hc
  simp only [execOp, ho, hx, Sem.run_bind, conv_bytes w b o' bs.length c bs rfl hc, Result.andThen_ok, Sem.run_pure]
theorem x_neqStr {s : ByteArray} {T' : TypeId} (ho : o.op = .binOp .neq 9 x y T') (hx : ev x = .string s) (hy : ev y = .string s) : (execOp ev o).run Try.prog w = .ok (.value (.bool false)) w := by
  have hT : Try.prog.underlying 9 = some .string := Try.underlying9
  simp [go_sem, execOp, ho, hx, hy, eqGuard, binOp, Op.equal, Op.maxDepth, hT, Op.stringOp]
end
theorem hbytes_c {w : World} {bi ig cap : Nat} {bs : List UInt8} (hI : Img 0 w bi ig cap bs) : Calls Try.prog 46 #[.pointer (some ⟨bi, 0, none⟩)] w (Ret fun v w' => ∃ A c, v = .slice A bs.length c ∧ View byE w' A c bs ∧ (∀ g, inA A g → w.heap.size ≤ g) ∧ New w w') := by
  have hp := hI.pos
  refine (bytes_some hI).mono ?_
  rintro e w' ⟨v, rfl, hr, hn⟩
  obtain ⟨g, c, rfl⟩ := row_some hr (by omega)
  obtain ⟨cur, hg, h1, h2, h3, h4⟩ := row_at hr
  have hlt := row_lt hr
  refine ⟨_, rfl, _, c, rfl, ⟨h1, h2, .inr ⟨g, 0, rfl, hlt.2, ?_⟩⟩, ?_, hn⟩
  · rw [by_flat]
    intro j u hj
    have hjl : j < bs.length := by
      have := (List.getElem?_eq_some_iff.1 hj).1
      simpa using this
    rw [Nat.zero_add, row_cell hr (by omega), hj]
  · rintro k ⟨o, ho⟩
    simp only [Option.some.injEq, Addr.mk.injEq] at ho
    omega
section
variable {w : World} {F : Nat → Prop} {A B : Option Addr} {cap cb : Nat} {h : HD} {X : List EC}
theorem RefAt.with_ (H : RefAt w F A cap B cb h X) {k : Nat} {d : Ent} {Q : Option Addr} {qc : Nat} {B' : Option Addr} {cb' : Nat} (hE : View ecE w B' cb' (X.set k (ecOf d Q qc))) (hQ : View msgE w Q qc d.q) :
    RefAt w (fun g => F g ∨ inA B' g ∨ inA Q g) A cap B' cb' ⟨h.bs, h.E.set k d⟩ (X.set k (ecOf d Q qc)) := by
  refine ⟨H.vb, hE, ?_, fun i hi => ?_, fun g hg => .inl (H.fa g hg), fun g hg => .inr (.inl hg), fun hg => ?_⟩
  · show (X.set k (ecOf d Q qc)).length = (h.E.set k d).length
    rw [List.length_set, List.length_set, H.len]
  · rw [List.length_set] at hi
    show ∃ Q' qc', (X.set k (ecOf d Q qc)).getD i ec0 = ecOf (entOf (h.E.set k d) i) Q' qc' ∧ View msgE w Q' qc' (entOf (h.E.set k d) i).q ∧ _
    by_cases e : i = k
    · subst e
      refine ⟨Q, qc, ?_, ?_, fun g hg => .inr (.inr hg)⟩
      · rw [entOf_set (by rw [← H.len]; exact hi), if_pos rfl]; simp [List.getD, hi]
      · rw [entOf_set (by rw [← H.len]; exact hi), if_pos rfl]; exact hQ
    · obtain ⟨Q', qc', h1, h2, h3⟩ := H.at_ i hi
      have he : entOf (h.E.set k d) i = entOf h.E i := by
        unfold entOf; simp [List.getD, List.getElem?_set, Ne.symm e]
      refine ⟨Q', qc', ?_, ?_, fun g hg => .inl (h3 g hg)⟩
      · rw [he, ← h1]; simp [List.getD, List.getElem?_set, Ne.symm e]
      · rw [he]; exact h2
  · rcases hg with hg | hg | hg
    · exact H.lt hg
    · exact hE.lt hg
    · exact hQ.lt hg
theorem RefAt.set_ (H : RefAt w F A cap B cb h X) {A' : Option Addr} {c' : Nat} {bs' : List UInt8} (hV : View byE w A' c' bs') : RefAt w (fun g => F g ∨ inA A' g) A' c' B cb ⟨bs', h.E⟩ X :=
  ⟨hV, H.ve, H.len, fun i hi => by
    obtain ⟨Q', qc', h1, h2, h3⟩ := H.at_ i hi
    exact ⟨Q', qc', h1, h2, fun g hg => .inl (h3 g hg)⟩, fun g hg => .inr hg, fun g hg => .inl (H.fb g hg), fun hg => hg.elim (fun h => H.lt h) (fun h => hV.lt h)⟩
theorem RefAt.cell (H : RefAt w F A cap B cb h X) {k : Nat} {d : Ent} {Q : Option Addr} {qc : Nat} (hat : X.getD k ec0 = ecOf d Q qc) (hk : k < X.length) {g o : Nat} (hB : B = some ⟨g, o, none⟩) : w.rangeAt g (o + k * 11) (ecE.cells (ecOf d Q qc)) := by
  rw [← hat]
  exact H.ve.elem hB k ec0 hk
end
end Go.Proofs.Ytdiaemlgghfecaa
namespace Go.Proofs.Ytdiaemlgghfecaa
open Go.RowKit
def zv5 : Value := .agg (#[.int .u8 0, .int .u8 0, .int .u8 0, .int .u8 0, .int .u8 0, .int .u8 0, .int .u8 0, .int .u8 0, .int .u8 0, .int .u8 0, .int .u8 0, .int .u8 0, .int .u8 0, .int .u8 0, .int .u8 0, .int .u8 0])
set_option maxRecDepth 100000 in
set_option maxHeartbeats 4000000 in
theorem rline_c (n : Int) (hn : 0 ≤ n ∧ n < 4294967296) {w : World} {A : Option Addr} {cap : Nat} {bs : List UInt8} (hV : View byE w A cap bs) (hk : n.toNat < bs.length / 16) (hb4 : bs.length ≤ 4096) {B : Option Addr} {mB cb : Nat} : Calls Try.prog 58 #[.agg (#[.slice A bs.length cap, .slice B mB cb]), .int .u32 n] w (Ret fun v w' => v = .agg (bsE.arr (lineB bs n)) ∧ New w w') := by
 have hVl := hV.len
 unfold maxLen at hVl
 have hF := Only.refl (fun _ => False) w
 refine Zen 23 Try.func58 ?_
 refine Zsr ?_
 refine Znb (cs := #[.slice A bs.length cap, .slice B mB cb]) fun b1 w2 hN3 B4 hb5 => ?_
 refine Zna (z := zv5) (cs := bsE.arr b16z) (by kernel_rfl) fun b6 w7 hN8 B9 hb10 => ?_
 replace hF := hF.trNew hN3
 have g_b6 := Nat.le_trans hF.size hb10
 refine Znn ?_
 refine Zsr ?_
 refine Zna (z := zv5) (cs := bsE.arr b16z) (by kernel_rfl) fun b11 w12 hN13 B14 hb15 => ?_
 replace hV := (hV.new hN3).new hN8
 have ap_A_b11 : Apart A b11 := hV.apart hb15
 replace B4 := B4.new hN8
 have ne_b1_b11 : NE b1 b11 := NE.mk (Nat.lt_of_lt_of_le B4.lt hb15)
 have ne_b6_b11 : NE b6 b11 := NE.mk (Nat.lt_of_lt_of_le B9.lt hb15)
 replace hF := hF.trNew hN8
 have g_b11 := Nat.le_trans hF.size hb15
 refine Znn ?_
 refine Zsq ?_
 refine Zsr ?_
 refine Za ?_
 refine Znn ?_
 refine Zbl ?_
 intro a fr
 replace hV := hV.new hN13
 replace B4 := B4.new hN13
 replace B9 := B9.new hN13
 replace hF := hF.trNew hN13
 refine fx_loop (fun nM a wL => ∃ i : Nat, ∃ BB : B16, nM = 16 - i ∧ Fr (23, []) [(1, .int .u32 n), (2, .pointer (some ⟨b1, 0, none⟩)), (4, .pointer (some ⟨b6, 0, none⟩)), (5, .pointer (some ⟨b11, 0, none⟩)), (6, .int .i64 ((i : Nat) : Int))] a ∧ Only (fun _ => False) w wL ∧ View byE wL A cap bs ∧ Blk wL b1 28 (#[.slice A bs.length cap, .slice B mB cb]) ∧ Blk wL b6 34 (bsE.arr b16z) ∧ Blk wL b11 34 (bsE.arr BB) ∧ i ≤ 16 ∧ (∀ j, j < i → BB.1.getD j 0 = (((bs.getD (16 * n.toNat + j) 0).toNat : Nat) : Int))) (n0 := _) ⟨0, b16z, rfl, fr.sub ⟨rfl, rfl, rfl, rfl, rfl, trivial⟩, hF, hV, B4, B9, B14, by omega, (fun j hj => absurd hj (by omega))⟩ ?_
 clear fr a
 rintro n17 a w16 ⟨i, BB, rfl, fr, hF, hV, B4, B9, B14, hi, hall⟩
 revert a
 refine Zsq ?_
 refine Zsr ?_
 refine Zm ?_
 refine Zv _ (fun _ fr => x_lss rfl (fr.ev rfl) rfl rfl) ?_
 refine Znn ?_
 refine Zcd (fun hc18 => ?_) (fun hc18 => ?_)
 ·have hc18 := of_decide_eq_true hc18
  refine Zsk ?_
  refine Znx ?_
  refine Zsq ?_
  refine Zbl ?_
  refine Zrg ?_
  refine Zm ?_
  refine Zf fo28_0 ?_
  refine Zd (v := .slice A bs.length cap) pl22 (B4.cell 0 rfl) ?_
  refine Zm ?_
  refine Zv _ (fun _ fr => x_convert Try.underlying24 Try.underlying3 rfl (fr.ev rfl) (i64w (r := ((n.toNat : Nat) : Int)) (by omega) (by omega))) ?_
  refine Zv _ (fun _ fr => x_mul rfl rfl (fr.ev rfl) (i64w (r := ((16 * n.toNat : Nat) : Int)) (by omega) (by omega))) ?_
  refine Zm ?_
  refine Zv _ (fun _ fr => x_add rfl (fr.ev rfl) (fr.ev rfl) (i64w (r := (((16 * n.toNat) + i : Nat) : Int)) (by omega) (by omega))) ?_
  obtain ⟨g19, o20, hA21⟩ := (hV).some_ (by first | omega | decide)
  refine Zv (.pointer (some ⟨g19, o20 + ((16 * n.toNat) + i) * 1, none⟩)) (fun _ fr => x_indexV Try.underlying22 sz5 rfl (fr.ev rfl) hA21 (fr.ev rfl) (by first | omega | decide) rfl) ?_
  refine Zd (v := .int .u8 (((bs.getD ((16 * n.toNat) + i) 0).toNat : Nat) : Int)) pl5 (range_cell ((hV).elem hA21 ((16 * n.toNat) + i) 0 (by first | omega | decide)) 0 rfl rfl) ?_
  refine Zv (.pointer (some ⟨b11, i, none⟩)) (fun _ fr => x_indexArr Try.underlying34 sz16 rfl (fr.ev rfl) (fr.ev rfl) (by omega) (by omega)) ?_
  refine Zs1 (cs' := bsE.arr (BB.put i (((bs.getD ((16 * n.toNat) + i) 0).toNat : Nat) : Int) (u8n _))) sz5 B14 (by rw [bsE.size]; show i < 16; omega) (bs_put _ _ _ _) fun w22 hO23 hBq => ?_
  replace B14 := hBq
  clear hBq
  refine Znl ?_
  refine Zb ?_
  refine Znx ?_
  refine Zrg ?_
  refine Zm ?_
  refine Zv _ (fun _ fr => x_add rfl (fr.ev rfl) rfl (i64w (r := ((i + 1 : Nat) : Int)) (by omega) (by omega))) ?_
  refine Za ?_
  intro a fr
  refine wpList_nil ?_
  refine fx_next ?_
  replace hV := hV.only hO23 (Apart.ne1 ap_A_b11)
  replace B4 := B4.only hO23 ne_b1_b11
  replace B9 := B9.only hO23 ne_b6_b11
  replace hF := hF.loc hO23 (.inr g_b11)
  exact ⟨_, by omega, (i + 1), (BB.put i (((bs.getD (16 * n.toNat + i) 0).toNat : Nat) : Int) (u8n _)), rfl, fr.sub ⟨rfl, rfl, rfl, rfl, rfl, trivial⟩, hF, hV, B4, B9, B14, by omega, fun j hj => by rw [put_get _ _ _ _ _ (by omega)]; split; (rename_i he; rw [he]); exact hall j (by omega)⟩
 ·have hc18 := of_decide_eq_false hc18
  refine Zex ?_
  refine Zxt ?_
  refine Zxt ?_
  refine Zxx ?_
  refine Znx ?_
  refine Zsr ?_
  refine ZE bsE ag34 (B14.rangeE bsE) ?_
  refine ZsS sz34 (bsE.all _) B9 (bsE.size _) (bsE.size _) fun w24 hO25 hBq => ?_
  replace B9 := hBq
  clear hBq
  refine Znn ?_
  refine Zrt ?_
  refine Zre rfl [_] ⟨⟨_, rfl, loadV_E (E := bsE) ag34 rfl (B9.rangeE bsE)⟩, trivial⟩ ?_
  obtain rfl : i = 16 := by omega
  have hBB := line_eq (k := n.toNat) (by omega) hall
  rw [Int.toNat_of_nonneg hn.1] at hBB
  replace hF := hF.loc hO25 (.inr g_b6)
  exact ⟨_, rfl, congrArg (fun z => Value.agg (bsE.arr z)) hBB, hF⟩
set_option maxRecDepth 100000 in
set_option maxHeartbeats 4000000 in
theorem rset_c (n : Int) (hn : 0 ≤ n ∧ n < 4294967296) (b : B16) {w : World} {A : Option Addr} {cap : Nat} {bs : List UInt8} (hV : View byE w A cap bs) (hk : n.toNat < bs.length / 16) (hb4 : bs.length ≤ 4096) {B : Option Addr} {mB cb : Nat} : Calls Try.prog 43 #[.agg (#[.slice A bs.length cap, .slice B mB cb]), .int .u32 n, .agg (bsE.arr b)] w (Ret fun v w' => ∃ A' c', v = .agg #[.slice A' (setLn bs n b).length c', .slice B mB cb] ∧ View byE w' A' c' (setLn bs n b) ∧ (∀ g, inA A' g → w.heap.size ≤ g) ∧ New w w') := by
 have hVl := hV.len
 unfold maxLen at hVl
 have hF := Only.refl (fun _ => False) w
 refine Zen 29 Try.func43 ?_
 refine Zsr ?_
 refine Znb (cs := #[.slice A bs.length cap, .slice B mB cb]) fun b1 w2 hN3 B4 hb5 => ?_
 have g_b1 := Nat.le_trans hF.size hb5
 refine Znb (cs := bsE.arr b) fun b6 w7 hN8 B9 hb10 => ?_
 refine Zna (z := zv4) (cs := #[.slice none 0 0, .slice none 0 0]) (by kernel_rfl) fun b11 w12 hN13 B14 hb15 => ?_
 replace B4 := B4.new hN8
 have ne_b1_b11 : NE b1 b11 := NE.mk (Nat.lt_of_lt_of_le B4.lt hb15)
 replace hF := (hF.trNew hN3).trNew hN8
 have g_b11 := Nat.le_trans hF.size hb15
 refine Znn ?_
 refine Zsr ?_
 refine Zf fo28_0 ?_
 replace B4 := B4.new hN13
 refine Zd (v := .slice A bs.length cap) pl22 (B4.cell 0 rfl) ?_
 intro a fr
 replace hV := ((hV.new hN3).new hN8).new hN13
 refine fx_append (E := byE) (l := []) (l' := bs) elBy fr rfl rfl (by decide) rfl rfl (fr.ev rfl) (by first | rfl | (simp; done) | (simp; omega)) (by first | rfl | (simp; done) | (simp; omega)) Own.nil hV (by first | omega | (simp only [List.length_append, List.length_cons, List.length_nil, List.length_drop, List.length_map]; omega) | (simp; omega)) (by first | (unfold maxLen; done) | (unfold maxLen; first | omega | (simp only [List.length_append, List.length_cons, List.length_nil]; omega) | (simp; done) | (simp; omega))) ?_
 clear fr a
 intro A16 cap17 w18 O19 hO20 mv21
 have ap2_A16_A : Apart2 A16 A := moved_apart2 mv21 (fun k h _ => apart_none k h) fun _ hg => hV.lt hg
 have ap_A16_b1 : Apart A16 b1 := moved_apart mv21 (apart_none b1) B4.lt
 replace B9 := B9.new hN13
 have ap_A16_b6 : Apart A16 b6 := moved_apart mv21 (apart_none b6) B9.lt
 have ap_A16_b11 : Apart A16 b11 := moved_apart mv21 (apart_none b11) B14.lt
 replace hF := hF.trNew hN13
 have gA_A16 := gA_moved hF mv21 gA_none
 have gN_A16 := fun g (hg : inA A16 g) => (mv21 g hg).elim (fun h => absurd h (apart_none g)) (fun h => Nat.le_trans hF.size h)
 replace hO20 := only_none hO20
 intro a fr
 simp only [List.nil_append] at fr O19
 revert a
 refine Za ?_
 refine Znn ?_
 refine Zsq ?_
 refine Zsr ?_
 refine Za ?_
 refine Znn ?_
 refine Zbl ?_
 intro a fr
 replace hV := hV.new hO20
 replace B4 := B4.new hO20
 replace B9 := B9.new hO20
 replace B14 := B14.new hO20
 replace hF := hF.trNew hO20
 refine fx_loop (fun nM a wL => ∃ i : Nat, ∃ cur : List UInt8, nM = 16 - i ∧ Fr (29, []) [(1, .int .u32 n), (3, .pointer (some ⟨b1, 0, none⟩)), (5, .pointer (some ⟨b6, 0, none⟩)), (6, .pointer (some ⟨b11, 0, none⟩)), (7, .slice A16 bs.length cap17), (8, .int .i64 ((i : Nat) : Int))] a ∧ Only (fun _ => False) w wL ∧ View byE wL A cap bs ∧ Blk wL b1 28 (#[.slice A bs.length cap, .slice B mB cb]) ∧ Blk wL b6 34 (bsE.arr b) ∧ Blk wL b11 28 (#[.slice none 0 0, .slice none 0 0]) ∧ Own byE wL A16 cap17 cur ∧ i ≤ 16 ∧ cur.length = bs.length ∧ (∀ j, cur.getD j 0 = if 16 * n.toNat ≤ j ∧ j < 16 * n.toNat + i then (b8 b).getD (j - 16 * n.toNat) 0 else bs.getD j 0)) (n0 := _) ⟨0, bs, rfl, fr.sub ⟨rfl, rfl, rfl, rfl, rfl, rfl, trivial⟩, hF, hV, B4, B9, B14, O19, by omega, rfl, (fun j => by rw [if_neg (by omega)])⟩ ?_
 clear fr a
 rintro n23 a w22 ⟨i, cur, rfl, fr, hF, hV, B4, B9, B14, O19, hi, hcl, hall⟩
 revert a
 refine Zsq ?_
 refine Zsr ?_
 refine Zm ?_
 refine Zv _ (fun _ fr => x_lss rfl (fr.ev rfl) rfl rfl) ?_
 refine Znn ?_
 refine Zcd (fun hc24 => ?_) (fun hc24 => ?_)
 ·have hc24 := of_decide_eq_true hc24
  refine Zsk ?_
  refine Znx ?_
  refine Zsq ?_
  refine Zbl ?_
  refine Zrg ?_
  refine Zm ?_
  refine Zm ?_
  refine Zv _ (fun _ fr => x_convert Try.underlying24 Try.underlying3 rfl (fr.ev rfl) (i64w (r := ((n.toNat : Nat) : Int)) (by omega) (by omega))) ?_
  refine Zv _ (fun _ fr => x_mul rfl rfl (fr.ev rfl) (i64w (r := ((16 * n.toNat : Nat) : Int)) (by omega) (by omega))) ?_
  refine Zm ?_
  refine Zv _ (fun _ fr => x_add rfl (fr.ev rfl) (fr.ev rfl) (i64w (r := (((16 * n.toNat) + i : Nat) : Int)) (by omega) (by omega))) ?_
  refine Zm ?_
  refine Zv (.pointer (some ⟨b6, i, none⟩)) (fun _ fr => x_indexArr Try.underlying34 sz16 rfl (fr.ev rfl) (fr.ev rfl) (by omega) (by omega)) ?_
  refine Zd (v := .int .u8 ((((b8 b).getD i 0).toNat : Nat) : Int)) pl5 (B9.cell _ (b8_byte b i (by omega))) ?_
  obtain ⟨g25, o26, hA27⟩ := (O19.view).some_ (by first | omega | decide)
  refine Zv (.pointer (some ⟨g25, o26 + ((16 * n.toNat) + i) * 1, none⟩)) (fun _ fr => x_indexV Try.underlying22 sz5 rfl (fr.ev rfl) hA27 (fr.ev rfl) (by first | omega | decide) rfl) ?_
  intro a fr
  refine fx_storeEl (E := byE) (d := 0) (q := 0) (x' := ((b8 b).getD i 0)) sz5 rfl rfl rfl hA27 O19 (by omega) (by decide) (fr.ev rfl) rfl (fr.ev rfl) rfl rfl fun w28 hO29 hBq => ?_
  revert a
  replace O19 := hBq
  clear hBq
  have hls30 : (cur.set ((16 * n.toNat) + i) ((b8 b).getD i 0)).length = (cur).length := List.length_set
  refine Znl ?_
  refine Zb ?_
  refine Znx ?_
  refine Zrg ?_
  refine Zm ?_
  refine Zv _ (fun _ fr => x_add rfl (fr.ev rfl) rfl (i64w (r := ((i + 1 : Nat) : Int)) (by omega) (by omega))) ?_
  refine Za ?_
  intro a fr
  refine wpList_nil ?_
  refine fx_next ?_
  replace hV := hV.only hO29 (fun g h1 h2 => ap2_A16_A.symm g h1 h2)
  replace B4 := B4.only hO29 ap_A16_b1
  replace B9 := B9.only hO29 ap_A16_b6
  replace B14 := B14.only hO29 ap_A16_b11
  replace hF := hF.locA hO29 gA_A16
  exact ⟨_, by omega, (i + 1), (cur.set (16 * n.toNat + i) ((b8 b).getD i 0)), rfl, fr.sub ⟨rfl, rfl, rfl, rfl, rfl, rfl, trivial⟩, hF, hV, B4, B9, B14, O19, by omega, (by rw [List.length_set]; exact hcl), set_step (by omega) hall⟩
 ·have hc24 := of_decide_eq_false hc24
  refine Zex ?_
  refine Zxt ?_
  refine Zxt ?_
  refine Zxx ?_
  refine Znx ?_
  refine Zsr ?_
  refine Zm ?_
  refine Zf fo28_0 ?_
  refine Zs1 (cs' := #[.slice A16 bs.length cap17, .slice B mB cb]) sz22 B4 (show 0 < 2 by decide) rfl fun w31 hO32 hBq => ?_
  replace B4 := hBq
  clear hBq
  refine Znn ?_
  refine Zsr ?_
  refine Zv _ (fun _ fr => x_loadS ag28 rfl (fr.ev rfl) rfl B4.range) ?_
  replace B14 := B14.only hO32 ne_b1_b11.symm
  refine ZsS sz28 (by simp [Value.oneCell']) B14 rfl rfl (ho := rfl) (hy := rfl) fun w33 hO34 hBq => ?_
  replace B14 := hBq
  clear hBq
  refine Znn ?_
  refine Zrt ?_
  refine Zre rfl [_] ⟨⟨_, rfl, x_loadV ag28 rfl B14.range⟩, trivial⟩ ?_
  obtain rfl : i = 16 := by omega
  have hcur := set_eq (by omega) hcl hall
  rw [Int.toNat_of_nonneg hn.1] at hcur
  subst hcur
  replace O19 := (O19.only hO32 (Apart.ne1 ap_A16_b1)).only hO34 (Apart.ne1 ap_A16_b11)
  replace hF := (hF.loc hO32 (.inr g_b1)).loc hO34 (.inr g_b11)
  exact ⟨_, rfl, A16, cap17, congrArg (fun z => Value.agg #[Value.slice A16 z cap17, .slice B mB cb]) (setLn_length bs n b).symm, O19.view, gN_A16, hF⟩
theorem rset_r (n : Int) (hn : 0 ≤ n ∧ n < 4294967296) (b : B16) {w : World} {FpR : Nat → Prop} {A : Option Addr} {cap : Nat} {B : Option Addr} {cb : Nat} {bs : List UInt8} {E : List Ent} {X : List EC} (H : RefAt w FpR A cap B cb ⟨bs, E⟩ X) (hk : n.toNat < bs.length / 16) (hb4 : bs.length ≤ 4096) : Calls Try.prog 43 #[.agg #[.slice A bs.length cap, .slice B E.length cb], .int .u32 n, .agg (bsE.arr b)] w (Ret fun v w' => ∃ A' c' F', v = .agg #[.slice A' (setLn bs n b).length c', .slice B E.length cb] ∧ RefAt w' F' A' c' B cb ⟨setLn bs n b, E⟩ X ∧ (∀ g, F' g → FpR g ∨ w.heap.size ≤ g) ∧ New w w') := by
  refine (rset_c n hn b H.vb hk hb4).mono ?_
  rintro e w' ⟨v, rfl, A', c', rfl, hV, hA, hN⟩
  exact ⟨_, rfl, A', c', _, rfl, (H.new hN).set_ hV, fun g hg => hg.imp id (hA g), hN⟩
set_option maxRecDepth 100000 in
set_option maxHeartbeats 4000000 in
theorem rwith_c (n : Int) (hn : 0 ≤ n ∧ n < 4294967296) (d : Ent) (Q : Option Addr) (qc : Nat) {w : World} {B : Option Addr} {cb : Nat} {X : List EC} (hE : View ecE w B cb X) (hk : n.toNat < X.length) (hX : X.length ≤ 256) {A : Option Addr} {mA cap : Nat} : Calls Try.prog 40 #[.agg (#[.slice A mA cap, .slice B X.length cb]), .int .u32 n, .agg (entA d (.slice Q d.q.length qc))] w (Ret fun v w' => ∃ B' c', v = .agg #[.slice A mA cap, .slice B' X.length c'] ∧ View ecE w' B' c' (X.set n.toNat (ecOf d Q qc)) ∧ (∀ g, inA B' g → w.heap.size ≤ g) ∧ New w w') := by
 have hEl := hE.len
 unfold maxLen at hEl
 have hF := Only.refl (fun _ => False) w
 refine Zen 19 Try.func40 ?_
 refine Zsr ?_
 refine Znb (cs := #[.slice A mA cap, .slice B X.length cb]) fun b1 w2 hN3 B4 hb5 => ?_
 have g_b1 := Nat.le_trans hF.size hb5
 refine Znb (cs := entA d (.slice Q d.q.length qc)) fun b6 w7 hN8 B9 hb10 => ?_
 refine Zna (z := zv4) (cs := #[.slice none 0 0, .slice none 0 0]) (by kernel_rfl) fun b11 w12 hN13 B14 hb15 => ?_
 replace B4 := B4.new hN8
 have ne_b1_b11 : NE b1 b11 := NE.mk (Nat.lt_of_lt_of_le B4.lt hb15)
 replace hF := (hF.trNew hN3).trNew hN8
 have g_b11 := Nat.le_trans hF.size hb15
 refine Znn ?_
 refine Zsr ?_
 refine Zf fo28_1 ?_
 replace B4 := B4.new hN13
 refine Zd (v := .slice B X.length cb) pl26 (B4.cell 1 rfl) ?_
 intro a fr
 replace hE := ((hE.new hN3).new hN8).new hN13
 refine fx_append (E := ecE) (l := []) (l' := X) elEc fr rfl rfl (by decide) rfl rfl (fr.ev rfl) (by first | rfl | (simp; done) | (simp; omega)) (by first | rfl | (simp; done) | (simp; omega)) Own.nil hE (by first | omega | (simp only [List.length_append, List.length_cons, List.length_nil, List.length_drop, List.length_map]; omega) | (simp; omega)) (by first | (unfold maxLen; done) | (unfold maxLen; first | omega | (simp only [List.length_append, List.length_cons, List.length_nil]; omega) | (simp; done) | (simp; omega))) ?_
 clear fr a
 intro A16 cap17 w18 O19 hO20 mv21
 have ap_A16_b1 : Apart A16 b1 := moved_apart mv21 (apart_none b1) B4.lt
 have ap_A16_b11 : Apart A16 b11 := moved_apart mv21 (apart_none b11) B14.lt
 replace hF := hF.trNew hN13
 have gA_A16 := gA_moved hF mv21 gA_none
 have gN_A16 := fun g (hg : inA A16 g) => (mv21 g hg).elim (fun h => absurd h (apart_none g)) (fun h => Nat.le_trans hF.size h)
 replace hO20 := only_none hO20
 intro a fr
 simp only [List.nil_append] at fr O19
 revert a
 refine Za ?_
 refine Znn ?_
 refine Zsr ?_
 refine Zm ?_
 refine Zm ?_
 refine Zv _ (fun _ fr => x_convert Try.underlying24 Try.underlying3 rfl (fr.ev rfl) (i64w (r := ((n.toNat : Nat) : Int)) (by omega) (by omega))) ?_
 replace B9 := (B9.new hN13).new hO20
 refine Zv _ (fun _ fr => x_loadS ag42 rfl (fr.ev rfl) rfl B9.range) ?_
 obtain ⟨g22, o23, hA24⟩ := (O19.view).some_ (by first | omega | decide)
 refine Zv (.pointer (some ⟨g22, o23 + n.toNat * 11, none⟩)) (fun _ fr => x_indexV Try.underlying26 sz42 rfl (fr.ev rfl) hA24 (fr.ev rfl) (by first | omega | decide) rfl) ?_
 intro a fr
 refine fx_storeRec (E := ecE) (x' := (ecOf d Q qc)) sz42 rfl rfl rfl hA24 O19 (by first | omega | (simp only [List.length_set]; omega)) (fr.ev rfl) rfl (fr.ev rfl) fun w25 hO26 hBq => ?_
 revert a
 replace O19 := hBq
 clear hBq
 have hls27 : (X.set n.toNat (ecOf d Q qc)).length = X.length := List.length_set
 refine Znn ?_
 refine Zsr ?_
 refine Zm ?_
 refine Zf fo28_1 ?_
 replace B4 := (B4.new hO20).only hO26 ap_A16_b1
 refine Zs1 (cs' := #[.slice A mA cap, .slice A16 X.length cap17]) sz26 B4 (show 1 < 2 by decide) rfl fun w28 hO29 hBq => ?_
 replace B4 := hBq
 clear hBq
 refine Znn ?_
 refine Zsr ?_
 refine Zv _ (fun _ fr => x_loadS ag28 rfl (fr.ev rfl) rfl B4.range) ?_
 replace B14 := ((B14.new hO20).only hO26 ap_A16_b11).only hO29 ne_b1_b11.symm
 refine ZsS sz28 (by simp [Value.oneCell']) B14 rfl rfl (ho := rfl) (hy := rfl) fun w30 hO31 hBq => ?_
 replace B14 := hBq
 clear hBq
 refine Znn ?_
 refine Zrt ?_
 refine Zre rfl [_] ⟨⟨_, rfl, x_loadV ag28 rfl B14.range⟩, trivial⟩ ?_
 replace hF := (((hF.trNew hO20).locA hO26 gA_A16).loc hO29 (.inr g_b1)).loc hO31 (.inr g_b11)
 replace O19 := (O19.only hO29 (Apart.ne1 ap_A16_b1)).only hO31 (Apart.ne1 ap_A16_b11)
 exact ⟨_, rfl, A16, cap17, rfl, O19.view, gN_A16, hF⟩
theorem rwith_r (n : Int) (hn : 0 ≤ n ∧ n < 4294967296) (d : Ent) (Q : Option Addr) (qc : Nat) {w : World} {FpR : Nat → Prop} {A : Option Addr} {cap : Nat} {B : Option Addr} {cb : Nat} {bs : List UInt8} {E : List Ent} {X : List EC} (H : RefAt w FpR A cap B cb ⟨bs, E⟩ X) (hk : n.toNat < E.length) (hX : E.length ≤ 256) (hQ : View msgE w Q qc d.q) : Calls Try.prog 40 #[.agg #[.slice A bs.length cap, .slice B E.length cb], .int .u32 n, .agg (entA d (.slice Q d.q.length qc))] w (Ret fun v w' => ∃ B' c' F', v = .agg #[.slice A bs.length cap, .slice B' (E.set n.toNat d).length c'] ∧ RefAt w' F' A cap B' c' ⟨bs, E.set n.toNat d⟩ (X.set n.toNat (ecOf d Q qc)) ∧ (∀ g, F' g → (FpR g ∨ inA Q g) ∨ w.heap.size ≤ g) ∧ New w w') := by
  have hl : X.length = E.length := H.len
  rw [← hl] at hk hX
  have h := rwith_c n hn d Q qc H.ve hk hX (A := A) (mA := bs.length) (cap := cap)
  rw [hl] at h
  refine h.mono ?_
  rintro e w' ⟨v, rfl, B', c', rfl, hV, hB, hN⟩
  refine ⟨_, rfl, B', c', _, congrArg (fun z => Value.agg #[Value.slice A bs.length cap, .slice B' z c']) List.length_set.symm, (H.new hN).with_ hV (hQ.new hN), fun g hg => ?_, hN⟩
  rcases hg with hg | hg | hg
  · exact .inl (.inl hg)
  · exact .inr (hB g hg)
  · exact .inl (.inr hg)
set_option maxRecDepth 100000 in
set_option maxHeartbeats 4000000 in
theorem rsend_n (n : Int) (hn : 0 ≤ n ∧ n < 4294967296) (kind dst : Int) {w : World} {A : Option Addr} {cap : Nat} {bs : List UInt8} (hV : View byE w A cap bs) (hk : n.toNat < bs.length / 16) (hb4 : bs.length ≤ 4096) {B : Option Addr} {mB cb : Nat} (hs : ¬ (8 ≤ kind ∧ kind ≤ 10)) : Calls Try.prog 45 #[.agg (#[.slice A bs.length cap, .slice B mB cb]), .int .i64 kind, .int .i64 dst, .int .u32 n] w (Ret fun v w' => v = .agg (msgE.arr (mkM kind 4 dst n b16z hn)) ∧ New w w') := by
 have hVl := hV.len
 unfold maxLen at hVl
 have hF := Only.refl (fun _ => False) w
 refine Zen 25 Try.func45 ?_
 refine Zsr ?_
 refine Znb (cs := #[.slice A bs.length cap, .slice B mB cb]) fun b1 w2 hN3 B4 hb5 => ?_
 refine Zna (z := zv2) (cs := msgE.arr msg0) (by kernel_rfl) fun b6 w7 hN8 B9 hb10 => ?_
 replace hF := hF.trNew hN3
 have g_b6 := Nat.le_trans hF.size hb10
 refine Znn ?_
 refine Zsr ?_
 refine Zm ?_
 refine Zm ?_
 refine Zm ?_
 refine Zv (.agg (msgE.arr (mkM kind 4 dst n b16z hn))) (fun a fr => x_build (cells := msgE.arr (mkM kind 4 dst n b16z hn)) rfl (by simp only [List.map_toArray, List.map_cons, List.map_nil, show a.eval (.tmp 10) = .int .i64 kind from fr.ev rfl, show a.eval (.tmp 11) = .int .i64 dst from fr.ev rfl, show a.eval (.tmp 12) = .int .u32 n from fr.ev rfl]; kernel_rfl)) ?_
 refine Zna (z := zv2) (cs := msgE.arr msg0) (by kernel_rfl) fun b11 w12 hN13 B14 hb15 => ?_
 have ne_b6_b11 : NE b6 b11 := NE.mk (Nat.lt_of_lt_of_le B9.lt hb15)
 replace hF := hF.trNew hN8
 have g_b11 := Nat.le_trans hF.size hb15
 refine ZsS sz36 (msgE.all _) B14 (msgE.size _) (msgE.size _) fun w16 hO17 hBq => ?_
 replace B14 := hBq
 clear hBq
 refine Znn ?_
 refine Zsq ?_
 refine Zsq ?_
 rcases (show ¬ 8 ≤ kind ∨ (8 ≤ kind ∧ ¬ kind ≤ 10) by omega) with h8 | ⟨h8, h10⟩
 ·refine Zrg ?_
  refine Zm ?_
  refine Zv (.bool false) (fun _ fr => x_geq rfl (fr.ev rfl) rfl (decide_eq_false h8)) ?_
  refine Zm ?_
  refine Zs ?_
  refine Zs ?_
  refine Zpf ?_
  refine Znn ?_
  refine Zcf ?_
  refine Zsk ?_
  refine Znx ?_
  refine Zsr ?_
  refine ZE msgE ag36 (B14.rangeE msgE) ?_
  replace B9 := (B9.new hN13).only hO17 ne_b6_b11
  refine ZsS sz36 (msgE.all _) B9 (msgE.size _) (msgE.size _) fun w18 hO19 hBq => ?_
  replace B9 := hBq
  clear hBq
  refine Znn ?_
  refine Zrt ?_
  refine Zre rfl [_] ⟨⟨_, rfl, loadV_E (E := msgE) ag36 rfl (B9.rangeE msgE)⟩, trivial⟩ ?_
  replace hF := ((hF.trNew hN13).loc hO17 (.inr g_b11)).loc hO19 (.inr g_b6)
  exact ⟨_, rfl, rfl, hF⟩
 ·refine Zrg ?_
  refine Zm ?_
  refine Zv (.bool true) (fun _ fr => x_geq rfl (fr.ev rfl) rfl (decide_eq_true h8)) ?_
  refine Zm ?_
  refine Zm ?_
  refine Zv (.bool false) (fun _ fr => x_leq rfl (fr.ev rfl) rfl (decide_eq_false h10)) ?_
  refine Zpt ?_
  refine Znn ?_
  refine Zcf ?_
  refine Zsk ?_
  refine Znx ?_
  refine Zsr ?_
  refine ZE msgE ag36 (B14.rangeE msgE) ?_
  replace B9 := (B9.new hN13).only hO17 ne_b6_b11
  refine ZsS sz36 (msgE.all _) B9 (msgE.size _) (msgE.size _) fun w20 hO21 hBq => ?_
  replace B9 := hBq
  clear hBq
  refine Znn ?_
  refine Zrt ?_
  refine Zre rfl [_] ⟨⟨_, rfl, loadV_E (E := msgE) ag36 rfl (B9.rangeE msgE)⟩, trivial⟩ ?_
  replace hF := ((hF.trNew hN13).loc hO17 (.inr g_b11)).loc hO21 (.inr g_b6)
  exact ⟨_, rfl, rfl, hF⟩
set_option maxRecDepth 100000 in
set_option maxHeartbeats 4000000 in
theorem rsend_b (n : Int) (hn : 0 ≤ n ∧ n < 4294967296) (kind dst : Int) {w : World} {A : Option Addr} {cap : Nat} {bs : List UInt8} (hV : View byE w A cap bs) (hk : n.toNat < bs.length / 16) (hb4 : bs.length ≤ 4096) {B : Option Addr} {mB cb : Nat} (hs : 8 ≤ kind ∧ kind ≤ 10) : Calls Try.prog 45 #[.agg (#[.slice A bs.length cap, .slice B mB cb]), .int .i64 kind, .int .i64 dst, .int .u32 n] w (Ret fun v w' => v = .agg (msgE.arr (mkM kind 4 dst n (lineB bs n) hn)) ∧ New w w') := by
 have hVl := hV.len
 unfold maxLen at hVl
 have hF := Only.refl (fun _ => False) w
 refine Zen 25 Try.func45 ?_
 refine Zsr ?_
 refine Znb (cs := #[.slice A bs.length cap, .slice B mB cb]) fun b1 w2 hN3 B4 hb5 => ?_
 refine Zna (z := zv2) (cs := msgE.arr msg0) (by kernel_rfl) fun b6 w7 hN8 B9 hb10 => ?_
 replace hF := hF.trNew hN3
 have g_b6 := Nat.le_trans hF.size hb10
 refine Znn ?_
 refine Zsr ?_
 refine Zm ?_
 refine Zm ?_
 refine Zm ?_
 refine Zv (.agg (msgE.arr (mkM kind 4 dst n b16z hn))) (fun a fr => x_build (cells := msgE.arr (mkM kind 4 dst n b16z hn)) rfl (by simp only [List.map_toArray, List.map_cons, List.map_nil, show a.eval (.tmp 10) = .int .i64 kind from fr.ev rfl, show a.eval (.tmp 11) = .int .i64 dst from fr.ev rfl, show a.eval (.tmp 12) = .int .u32 n from fr.ev rfl]; kernel_rfl)) ?_
 refine Zna (z := zv2) (cs := msgE.arr msg0) (by kernel_rfl) fun b11 w12 hN13 B14 hb15 => ?_
 replace hV := (hV.new hN3).new hN8
 have ap_A_b11 : Apart A b11 := hV.apart hb15
 replace B4 := B4.new hN8
 have ne_b1_b11 : NE b1 b11 := NE.mk (Nat.lt_of_lt_of_le B4.lt hb15)
 have ne_b6_b11 : NE b6 b11 := NE.mk (Nat.lt_of_lt_of_le B9.lt hb15)
 replace hF := hF.trNew hN8
 have g_b11 := Nat.le_trans hF.size hb15
 refine ZsS sz36 (msgE.all _) B14 (msgE.size _) (msgE.size _) fun w16 hO17 hBq => ?_
 replace B14 := hBq
 clear hBq
 refine Znn ?_
 refine Zsq ?_
 refine Zsr ?_
 refine Zm ?_
 refine Zv (.bool true) (fun _ fr => x_geq rfl (fr.ev rfl) rfl (decide_eq_true hs.1)) ?_
 refine Zm ?_
 refine Zm ?_
 refine Zv (.bool true) (fun _ fr => x_leq rfl (fr.ev rfl) rfl (decide_eq_true hs.2)) ?_
 refine Zpt ?_
 refine Znn ?_
 refine Zct ?_
 refine Zrg ?_
 replace B4 := (B4.new hN13).only hO17 ne_b1_b11
 refine Zv _ (fun _ fr => x_loadS ag28 rfl (fr.ev rfl) rfl B4.range) ?_
 refine Zm ?_
 replace hV := (hV.new hN13).only hO17 (Apart.ne1 ap_A_b11)
 refine Zk (args := #[.agg (#[.slice A bs.length cap, .slice B mB cb]), .int .u32 n]) cf58 (rline_c n hn hV (by omega) (by omega)) ?_
 rintro v w18 ⟨rfl, hN19⟩
 refine Zf fo36_4 ?_
 intro a fr
 replace B14 := B14.new hN19
 refine fx_storePart (E := msgE) (E2 := bsE) (q := 4) (m := (mkM kind 4 dst n b16z hn)) (m' := { (mkM kind 4 dst n b16z hn) with bs := (lineB bs n) }) (z := (lineB bs n)) sz34 rfl rfl rfl (fr.ev rfl) (fr.ev rfl) B14 (by decide) (msg_setbs _ _) fun w20 hO21 hBq => ?_
 revert a
 replace B14 := hBq
 clear hBq
 refine Znn ?_
 refine Zsr ?_
 refine ZE msgE ag36 (B14.rangeE msgE) ?_
 replace B9 := (((B9.new hN13).only hO17 ne_b6_b11).new hN19).only hO21 ne_b6_b11
 refine ZsS sz36 (msgE.all _) B9 (msgE.size _) (msgE.size _) fun w22 hO23 hBq => ?_
 replace B9 := hBq
 clear hBq
 refine Znn ?_
 refine Zrt ?_
 refine Zre rfl [_] ⟨⟨_, rfl, loadV_E (E := msgE) ag36 rfl (B9.rangeE msgE)⟩, trivial⟩ ?_
 replace hF := ((((hF.trNew hN13).loc hO17 (.inr g_b11)).trNew hN19).loc hO21 (.inr g_b11)).loc hO23 (.inr g_b6)
 exact ⟨_, rfl, rfl, hF⟩
set_option maxRecDepth 100000 in
set_option maxHeartbeats 4000000 in
theorem rown_c (d : Ent) (Q : Option Addr) (nq qc : Nat) (r : Int) (w : World) : Calls Try.prog 44 #[.agg (entA d (.slice Q nq qc)), .int .i64 r] w (Ret fun v w' => v = .agg (entA (ownF d r) (.slice Q nq qc)) ∧ New w w') := by
 have hF := Only.refl (fun _ => False) w
 refine Zen 10 Try.func44 ?_
 refine Zsr ?_
 refine Znb (cs := entA d (.slice Q nq qc)) fun b1 w2 hN3 B4 hb5 => ?_
 have g_b1 := Nat.le_trans hF.size hb5
 refine Zna (z := zv3) (cs := #[.int .i64 0, .bool false, .bool false, .bool false, .bool false, .bool false, .int .i64 0, .int .i64 0, .int .i64 0, .bool false, .slice none 0 0]) (by kernel_rfl) fun b6 w7 hN8 B9 hb10 => ?_
 have ne_b1_b6 : NE b1 b6 := NE.mk (Nat.lt_of_lt_of_le B4.lt hb10)
 replace hF := hF.trNew hN3
 have g_b6 := Nat.le_trans hF.size hb10
 refine Znn ?_
 refine Zsr ?_
 refine Zm ?_
 refine Zf fo42_0 ?_
 replace B4 := B4.new hN8
 refine Zs1 (cs' := entA ({ d with o := r }) (.slice Q nq qc)) sz3 B4 (show 0 < 11 by decide) rfl fun w11 hO12 hBq => ?_
 replace B4 := hBq
 clear hBq
 refine Znn ?_
 refine Zsr ?_
 refine Zv (.agg (#[.bool false, .bool false, .bool false, .bool false])) (fun _ _ => x_build (cells := #[.bool false, .bool false, .bool false, .bool false]) rfl (by kernel_rfl)) ?_
 refine Zf fo42_1 ?_
 intro a fr
 refine fx_storeAt sz40 rfl rfl rfl (fr.ev rfl) (fr.ev rfl) (by simp [Value.oneCell']) B4 rfl (show 1 + 4 ≤ 11 by decide) (cs' := entA ({ { d with o := r } with sh := sh0 }) (.slice Q nq qc)) rfl fun w13 hO14 hBq => ?_
 revert a
 replace B4 := hBq
 clear hBq
 refine Znn ?_
 refine Zsr ?_
 refine Zv _ (fun _ fr => x_loadS ag42 rfl (fr.ev rfl) rfl B4.range) ?_
 replace B9 := (B9.only hO12 ne_b1_b6.symm).only hO14 ne_b1_b6.symm
 refine ZsS sz42 (ent_all _ _ _ _) B9 rfl rfl fun w15 hO16 hBq => ?_
 replace B9 := hBq
 clear hBq
 refine Znn ?_
 refine Zrt ?_
 refine Zre rfl [_] ⟨⟨_, rfl, x_loadV ag42 rfl B9.range⟩, trivial⟩ ?_
 replace hF := (((hF.trNew hN8).loc hO12 (.inr g_b1)).loc hO14 (.inr g_b1)).loc hO16 (.inr g_b6)
 exact ⟨_, rfl, rfl, hF⟩
end Go.Proofs.Ytdiaemlgghfecaa
namespace Go.Proofs.Ytdiaemlgghfecaa
open Go.RowKit
theorem begin_o {bs : List UInt8} {d : Ent} {m : Msg} (hk : 1 ≤ m.kind ∧ m.kind ≤ 2) (h1 : 0 ≤ (leaveF d m.src).o) : beginF bs d m = (busyF (leaveF d m.src) m 1 false, bs, [sendM m (3 + m.kind) (leaveF d m.src).o]) := by
  rcases (show m.kind = 1 ∨ m.kind = 2 by omega) with h | h
  · rw [begin_s1 h h1, h]; rfl
  · rw [begin_m1 h h1, h]; rfl
set_option maxRecDepth 100000 in
set_option maxHeartbeats 4000000 in
theorem rbegin_3 (m : Msg) {w : World} {FpR : Nat → Prop} {A : Option Addr} {cap : Nat} {B : Option Addr} {cb : Nat} {bs : List UInt8} {E : List Ent} {X : List EC} (H : RefAt w FpR A cap B cb ⟨bs, E⟩ X) (hk : m.line.toNat < E.length) (hEb : E.length = bs.length / 16) (hb4 : bs.length ≤ 4096) (hsrc : 0 ≤ m.src ∧ m.src < 4) (hk3 : m.kind = 3) : Calls Try.prog 41 #[.agg (#[.slice A bs.length cap, .slice B E.length cb]), .agg (msgE.arr m)] w (Ret fun v w' => ∃ A' c' B' cb' F' M mc, v = .tuple #[.agg #[.slice A' (beginF bs (entOf E m.line.toNat) m).2.1.length c', .slice B' (E.set m.line.toNat (beginF bs (entOf E m.line.toNat) m).1).length cb'], .slice M (beginF bs (entOf E m.line.toNat) m).2.2.length mc] ∧ RefH w' F' A' c' B' cb' ⟨(beginF bs (entOf E m.line.toNat) m).2.1, E.set m.line.toNat (beginF bs (entOf E m.line.toNat) m).1⟩ ∧ Own msgE w' M mc (beginF bs (entOf E m.line.toNat) m).2.2 ∧ (∀ g, F' g → FpR g ∨ w.heap.size ≤ g) ∧ (∀ g, inA M g → w.heap.size ≤ g) ∧ (∀ g, F' g → inA M g → False) ∧ New w w') := by
 have hmn := m.hn
 have hXl : X.length = E.length := H.len
 have mF_FpR : ∀ g, FpR g → FpR g ∨ w.heap.size ≤ g := fun g h => .inl h
 have hF := Only.refl (fun _ => False) w
 refine fx_enter Try.func41 rfl (N := (151, [])) (T := [(0, .agg (#[.slice A bs.length cap, .slice B E.length cb])), (1, .agg (msgE.arr m))]) rfl (show 2 ≤ 151 by decide) ⟨rfl, rfl, trivial⟩ fun a fr => ?_
 refine wp_seq ?_
 refine wp_region_lit ?_
 refine fx_new fr rfl rfl (by decide) (x_box (cs := #[.slice A bs.length cap, .slice B E.length cb]) rfl (fr.ev rfl) rfl) ?_
 clear fr a
 intro b1 w2 hN3 B4 hb5 a fr
 have ap_FpR_b1 : ¬ FpR b1 := H.apart hb5
 have g_b1 := Nat.le_trans hF.size hb5
 replace H := H.new hN3
 replace hF := hF.trNew hN3
 refine fx_new fr rfl rfl (by decide) (x_box (cs := msgE.arr m) rfl (fr.ev rfl) rfl) ?_
 clear fr a
 intro b6 w7 hN8 B9 hb10 a fr
 have ap_FpR_b6 : ¬ FpR b6 := H.apart hb10
 have ne_b1_b6 : NE b1 b6 := NE.mk (Nat.lt_of_lt_of_le B4.lt hb10)
 have g_b6 := Nat.le_trans hF.size hb10
 replace H := H.new hN8
 replace B4 := B4.new hN8
 replace hF := hF.trNew hN8
 refine fx_new fr rfl rfl (by decide) (x_alloc (z := .agg (#[.slice none 0 0, .slice none 0 0])) (cs := #[.slice none 0 0, .slice none 0 0]) rfl (by kernel_rfl) rfl) ?_
 clear fr a
 intro b11 w12 hN13 B14 hb15 a fr
 have ap_FpR_b11 : ¬ FpR b11 := H.apart hb15
 have ne_b1_b11 : NE b1 b11 := NE.mk (Nat.lt_of_lt_of_le B4.lt hb15)
 have ne_b6_b11 : NE b6 b11 := NE.mk (Nat.lt_of_lt_of_le B9.lt hb15)
 have g_b11 := Nat.le_trans hF.size hb15
 replace H := H.new hN13
 replace B4 := B4.new hN13
 replace B9 := B9.new hN13
 replace hF := hF.trNew hN13
 refine fx_val (v := .slice none 0 0) fr rfl rfl (by decide) (x_assign rfl rfl) ?_
 clear fr a; intro a fr
 refine wpList_nil ?_
 refine fx_next ?_
 refine wp_seq ?_
 refine fx_heldT (n := 5) (k := 5) (fun w => RefAt w FpR A cap B cb (HD.mk bs E) X ∧ Blk w b1 28 (#[.slice A bs.length cap, .slice B E.length cb]) ∧ Blk w b6 36 (msgE.arr m) ∧ Blk w b11 28 (#[.slice none 0 0, .slice none 0 0]) ∧ True) (by kernel_rfl) (by kernel_rfl) rfl ?_
 intro w16 hN17
 replace H := H.new hN17
 replace B4 := B4.new hN17
 replace B9 := B9.new hN17
 replace B14 := B14.new hN17
 replace hF := hF.trNew hN17
 refine fx_take (i := 0) (v := .pointer (some ⟨b6, 3, none⟩)) fr rfl (by kernel_rfl) rfl rfl (by decide) (fun _ _ _ h => h) (fun _ ⟨H, B4, B9, B14, _⟩ => x_fieldAddr fo36_3 rfl (fr.ev rfl) rfl) ⟨H, B4, B9, B14, trivial⟩ ?_
 clear fr a; intro a fr
 refine fx_take (i := 1) (v := .int .u32 m.line) fr rfl (by kernel_rfl) rfl rfl (by decide) (fun _ _ _ h => h) (fun _ ⟨H, B4, B9, B14, _⟩ => x_load1 pl24 rfl (fr.ev rfl) (B9.cell 3 rfl)) ⟨H, B4, B9, B14, trivial⟩ ?_
 clear fr a; intro a fr
 refine fx_take (i := 2) (v := .pointer (some ⟨b6, 1, none⟩)) fr rfl (by kernel_rfl) rfl rfl (by decide) (fun _ _ _ h => h) (fun _ ⟨H, B4, B9, B14, _⟩ => x_fieldAddr fo36_1 rfl (fr.ev rfl) rfl) ⟨H, B4, B9, B14, trivial⟩ ?_
 clear fr a; intro a fr
 refine fx_take (i := 3) (v := .int .i64 m.src) fr rfl (by kernel_rfl) rfl rfl (by decide) (fun _ _ _ h => h) (fun _ ⟨H, B4, B9, B14, _⟩ => x_load1 pl3 rfl (fr.ev rfl) (B9.cell 1 rfl)) ⟨H, B4, B9, B14, trivial⟩ ?_
 clear fr a; intro a fr
 refine fx_take (i := 4) (v := .int .u32 m.line) fr rfl (by kernel_rfl) rfl rfl (by decide) (fun _ _ _ h => h) (fun _ ⟨H, B4, B9, B14, _⟩ => x_assign rfl (fr.ev rfl)) ⟨H, B4, B9, B14, trivial⟩ ?_
 clear fr a; intro a fr
 refine fx_hdone (by kernel_rfl) ?_
 refine fx_tail ?_
 refine fx_val (v := .int .i64 m.src) fr rfl rfl (by decide) (x_assign rfl (fr.ev rfl)) ?_
 clear fr a; intro a fr
 refine wpList_nil ?_
 refine fx_next ?_
 refine wp_seq ?_
 refine wp_region_lit ?_
 refine fx_val (v := .pointer (some ⟨b1, 1, none⟩)) fr rfl rfl (by decide) (x_fieldAddr fo28_1 rfl (fr.ev rfl) rfl) ?_
 clear fr a; intro a fr
 refine fx_val (v := .slice B E.length cb) fr rfl rfl (by decide) (x_load1 pl26 rfl (fr.ev rfl) (B4.cell 1 rfl)) ?_
 clear fr a; intro a fr
 refine fx_val (v := .int .u32 m.line) fr rfl rfl (by decide) (x_move rfl (fr.ev rfl)) ?_
 clear fr a; intro a fr
 refine fx_val (v := .int .i64 ((m.line.toNat : Nat) : Int)) fr rfl rfl (by decide) (x_convert Try.underlying24 Try.underlying3 rfl (fr.ev rfl) (i64w (r := ((m.line.toNat : Nat) : Int)) (by omega) (by omega))) ?_
 clear fr a; intro a fr
 obtain ⟨g18, o19, hA20⟩ := (H.ve).some_ (by first | omega | decide)
 refine fx_val (v := .pointer (some ⟨g18, o19 + m.line.toNat * 11, none⟩)) fr rfl rfl (by decide) (x_indexV Try.underlying26 sz42 rfl (fr.ev rfl) hA20 (fr.ev rfl) (by first | omega | decide) rfl) ?_
 clear fr a; intro a fr
 obtain ⟨Q21, qc22, hat23, hQ24, hQF25⟩ := H.at_ m.line.toNat (by omega)
 dsimp only at hat23 hQ24
 have mQ_Q21 := fun g (hg : inA Q21 g) => mF_FpR g (hQF25 g hg)
 have ap_Q21_b1 : Apart Q21 b1 := fun h => ap_FpR_b1 (hQF25 _ h)
 have ap_Q21_b6 : Apart Q21 b6 := fun h => ap_FpR_b6 (hQF25 _ h)
 have ap_Q21_b11 : Apart Q21 b11 := fun h => ap_FpR_b11 (hQF25 _ h)
 refine fx_val (v := .agg (entA (entOf E m.line.toNat) (.slice Q21 ((entOf E m.line.toNat).q.length) qc22))) fr rfl rfl (by decide) (x_loadE (E := ecE) (p := ecOf (entOf E m.line.toNat) Q21 qc22) ag42 rfl rfl (fr.ev rfl) (H.cell hat23 (by omega) hA20)) ?_
 clear fr a; intro a fr
 refine fx_new fr rfl rfl (by decide) (x_alloc (z := .agg (#[.int .i64 0, .bool false, .bool false, .bool false, .bool false, .bool false, .int .i64 0, .int .i64 0, .int .i64 0, .bool false, .slice none 0 0])) (cs := #[.int .i64 0, .bool false, .bool false, .bool false, .bool false, .bool false, .int .i64 0, .int .i64 0, .int .i64 0, .bool false, .slice none 0 0]) rfl (by kernel_rfl) rfl) ?_
 clear fr a
 intro b26 w27 hN28 B29 hb30 a fr
 have ap_FpR_b26 : ¬ FpR b26 := H.apart hb30
 have ne_b1_b26 : NE b1 b26 := NE.mk (Nat.lt_of_lt_of_le B4.lt hb30)
 have ne_b6_b26 : NE b6 b26 := NE.mk (Nat.lt_of_lt_of_le B9.lt hb30)
 have ne_b11_b26 : NE b11 b26 := NE.mk (Nat.lt_of_lt_of_le B14.lt hb30)
 have ap_Q21_b26 : Apart Q21 b26 := hQ24.apart hb30
 have g_b26 := Nat.le_trans hF.size hb30
 replace H := H.new hN28
 replace B4 := B4.new hN28
 replace B9 := B9.new hN28
 replace B14 := B14.new hN28
 replace hQ24 := hQ24.new hN28
 replace hF := hF.trNew hN28
 refine fx_storeS sz42 rfl rfl rfl (fr.ev rfl) (fr.ev rfl) (ent_all _ _ _ _) B29 rfl rfl fun w31 hO32 hBq => ?_
 replace H := H.only hO32 (ne1P ap_FpR_b26)
 replace B4 := B4.only hO32 (by first | exact ne_b1_b26 | exact ne_b26_b1.symm | (show ¬ b1 = b26; omega))
 replace B9 := B9.only hO32 (by first | exact ne_b6_b26 | exact ne_b26_b6.symm | (show ¬ b6 = b26; omega))
 replace B14 := B14.only hO32 (by first | exact ne_b11_b26 | exact ne_b26_b11.symm | (show ¬ b11 = b26; omega))
 replace hQ24 := hQ24.only hO32 (Apart.ne1 ap_Q21_b26)
 replace hF := hF.loc hO32 (.inr g_b26)
 replace B29 := hBq
 clear hBq
 refine wpList_nil ?_
 refine fx_next ?_
 refine wp_seq ?_
 refine wp_region_lit ?_
 refine fx_val (v := .pointer (some ⟨b6, 0, none⟩)) fr rfl rfl (by decide) (x_fieldAddr fo36_0 rfl (fr.ev rfl) rfl) ?_
 clear fr a; intro a fr
 refine fx_val (v := .int .i64 m.kind) fr rfl rfl (by decide) (x_load1 pl33 rfl (fr.ev rfl) (B9.cell 0 rfl)) ?_
 clear fr a; intro a fr
 refine fx_val (v := .int .i64 m.kind) fr rfl rfl (by decide) (x_assign rfl (fr.ev rfl)) ?_
 clear fr a; intro a fr
 refine wpList_nil ?_
 refine fx_next ?_
 refine wp_seq ?_
 refine wp_seq ?_
 refine wp_region_lit ?_
 refine fx_val (v := .int .i64 m.kind) fr rfl rfl (by decide) (x_move rfl (fr.ev rfl)) ?_
 clear fr a; intro a fr
 refine fx_val (v := .bool true) fr rfl rfl (by decide) (x_eql rfl (fr.ev rfl) rfl (decide_eq_true (by omega))) ?_
 clear fr a; intro a fr
 refine wpList_nil ?_
 refine fx_next ?_
 refine fx_cond_t fr rfl ?_
 refine wp_seq ?_
 refine wp_seq ?_
 refine wp_region_lit ?_
 refine fx_val (v := .pointer (some ⟨b26, 0, none⟩)) fr rfl rfl (by decide) (x_fieldAddr fo42_0 rfl (fr.ev rfl) rfl) ?_
 clear fr a; intro a fr
 refine fx_val (v := .int .i64 ((entOf E m.line.toNat).o)) fr rfl rfl (by decide) (x_load1 pl3 rfl (fr.ev rfl) (B29.cell 0 rfl)) ?_
 clear fr a; intro a fr
 refine fx_val (v := .int .i64 m.src) fr rfl rfl (by decide) (x_move rfl (fr.ev rfl)) ?_
 clear fr a; intro a fr
 refine fx_val (v := .bool (decide ((entOf E m.line.toNat).o = m.src))) fr rfl rfl (by decide) (x_eql rfl (fr.ev rfl) (fr.ev rfl) rfl) ?_
 clear fr a; intro a fr
 refine wpList_nil ?_
 refine fx_next ?_
 refine fx_cond fr rfl (fun hc33 => ?_) (fun hc33 => ?_)
 ·skip
  have hc33 := of_decide_eq_true hc33
  refine wp_seq ?_
  refine wp_region_lit ?_
  refine fx_val (v := .agg (#[.slice A bs.length cap, .slice B E.length cb])) fr rfl rfl (by decide) (x_loadS ag28 rfl (fr.ev rfl) rfl B4.range) ?_
  clear fr a; intro a fr
  refine fx_val (v := .int .u32 m.line) fr rfl rfl (by decide) (x_move rfl (fr.ev rfl)) ?_
  clear fr a; intro a fr
  refine fx_val (v := .pointer (some ⟨b6, 4, none⟩)) fr rfl rfl (by decide) (x_fieldAddr fo36_4 rfl (fr.ev rfl) rfl) ?_
  clear fr a; intro a fr
  refine fx_val (v := .agg (bsE.arr m.bs)) fr rfl rfl (by decide) (x_loadE (E := bsE) ag34 rfl rfl (fr.ev rfl) (B9.part (msg_bs _))) ?_
  clear fr a; intro a fr
  refine fx_call fr rfl rfl (by decide) (x_call (vs := [.agg (#[.slice A bs.length cap, .slice B E.length cb]), .int .u32 m.line, .agg (bsE.arr m.bs)]) rfl rfl ⟨(fr.ev rfl), (fr.ev rfl), (fr.ev rfl), trivial⟩ Try.func43 nm43 rfl) (rset_r m.line m.hn m.bs H (by omega) (by omega)) ?_
  clear fr a
  rintro v w39 ⟨A34, cap35, FpR36, rfl, H37, mv38, hN40⟩ a fr
  have ap_FpR36_b1 : ¬ FpR36 b1 := moved_apartP mv38 ap_FpR_b1 B4.lt
  have ap_FpR36_b6 : ¬ FpR36 b6 := moved_apartP mv38 ap_FpR_b6 B9.lt
  have ap_FpR36_b11 : ¬ FpR36 b11 := moved_apartP mv38 ap_FpR_b11 B14.lt
  have ap_FpR36_b26 : ¬ FpR36 b26 := moved_apartP mv38 ap_FpR_b26 B29.lt
  have mF_FpR36 : ∀ g, FpR36 g → FpR g ∨ w.heap.size ≤ g := fun g hg => (mv38 g hg).elim (mF_FpR g) (fun h => .inr (Nat.le_trans hF.size h))
  replace H := H.new hN40
  replace B4 := B4.new hN40
  replace B9 := B9.new hN40
  replace B14 := B14.new hN40
  replace hQ24 := hQ24.new hN40
  replace B29 := B29.new hN40
  replace hF := hF.trNew hN40
  have hsl41 : (setLn bs m.line m.bs).length = bs.length := setLn_length _ _ _
  refine fx_storeS sz28 rfl rfl rfl (fr.ev rfl) (fr.ev rfl) (by simp [Value.oneCell']) B4 rfl rfl fun w42 hO43 hBq => ?_
  replace H := H.only hO43 (ne1P ap_FpR_b1)
  replace B9 := B9.only hO43 (by first | exact ne_b6_b1 | exact ne_b1_b6.symm | (show ¬ b6 = b1; omega))
  replace B14 := B14.only hO43 (by first | exact ne_b11_b1 | exact ne_b1_b11.symm | (show ¬ b11 = b1; omega))
  replace hQ24 := hQ24.only hO43 (Apart.ne1 ap_Q21_b1)
  replace B29 := B29.only hO43 (by first | exact ne_b26_b1 | exact ne_b1_b26.symm | (show ¬ b26 = b1; omega))
  replace H37 := H37.only hO43 (ne1P ap_FpR36_b1)
  replace hF := hF.loc hO43 (.inr g_b1)
  replace B4 := hBq
  clear hBq
  refine wpList_nil ?_
  refine fx_next ?_
  refine wp_region_lit ?_
  refine fx_val (v := .pointer (some ⟨b26, 0, none⟩)) fr rfl rfl (by decide) (x_fieldAddr fo42_0 rfl (fr.ev rfl) rfl) ?_
  clear fr a; intro a fr
  refine fx_store1 sz3 rfl rfl rfl (fr.ev rfl) rfl rfl B29 (show 0 < 11 by decide) (cs' := entA (Ent.mk (-1) ((entOf E m.line.toNat).sh) ((entOf E m.line.toNat).busy) ((entOf E m.line.toNat).asks) ((entOf E m.line.toNat).kind) ((entOf E m.line.toNat).waits) ((entOf E m.line.toNat).told) ((entOf E m.line.toNat).q)) (.slice Q21 ((entOf E m.line.toNat).q.length) qc22)) rfl fun w44 hO45 hBq => ?_
  replace H := H.only hO45 (ne1P ap_FpR_b26)
  replace B9 := B9.only hO45 (by first | exact ne_b6_b26 | exact ne_b26_b6.symm | (show ¬ b6 = b26; omega))
  replace B14 := B14.only hO45 (by first | exact ne_b11_b26 | exact ne_b26_b11.symm | (show ¬ b11 = b26; omega))
  replace hQ24 := hQ24.only hO45 (Apart.ne1 ap_Q21_b26)
  replace H37 := H37.only hO45 (ne1P ap_FpR36_b26)
  replace B4 := B4.only hO45 (by first | exact ne_b1_b26 | exact ne_b26_b1.symm | (show ¬ b1 = b26; omega))
  replace hF := hF.loc hO45 (.inr g_b26)
  replace B29 := hBq
  clear hBq
  refine wpList_nil ?_
  refine fx_next ?_
  refine wp_seq ?_
  refine fx_heldT (n := 10) (k := 10) (fun w => RefAt w FpR A cap B cb (HD.mk bs E) X ∧ Blk w b6 36 (msgE.arr m) ∧ View msgE w Q21 qc22 ((entOf E m.line.toNat).q) ∧ RefAt w FpR36 A34 cap35 B cb (HD.mk (setLn bs m.line m.bs) E) X ∧ Blk w b1 28 (#[.slice A34 ((setLn bs m.line m.bs).length) cap35, .slice B E.length cb]) ∧ Blk w b26 42 (entA (Ent.mk (-1) ((entOf E m.line.toNat).sh) ((entOf E m.line.toNat).busy) ((entOf E m.line.toNat).asks) ((entOf E m.line.toNat).kind) ((entOf E m.line.toNat).waits) ((entOf E m.line.toNat).told) ((entOf E m.line.toNat).q)) (.slice Q21 ((entOf E m.line.toNat).q.length) qc22)) ∧ True) (by kernel_rfl) (by kernel_rfl) rfl ?_
  intro w46 hN47
  replace H := H.new hN47
  replace B9 := B9.new hN47
  replace B14 := B14.new hN47
  replace hQ24 := hQ24.new hN47
  replace H37 := H37.new hN47
  replace B4 := B4.new hN47
  replace B29 := B29.new hN47
  replace hF := hF.trNew hN47
  refine fx_take (i := 0) (v := .agg (#[.slice A34 ((setLn bs m.line m.bs).length) cap35, .slice B E.length cb])) fr rfl (by kernel_rfl) rfl rfl (by decide) (fun _ _ _ h => h) (fun _ ⟨H, B9, hQ24, H37, B4, B29, _⟩ => x_loadS ag28 rfl (fr.ev rfl) rfl B4.range) ⟨H, B9, hQ24, H37, B4, B29, trivial⟩ ?_
  clear fr a; intro a fr
  refine fx_take (i := 1) (v := .int .u32 m.line) fr rfl (by kernel_rfl) rfl rfl (by decide) (fun _ _ _ h => h) (fun _ ⟨H, B9, hQ24, H37, B4, B29, _⟩ => x_move rfl (fr.ev rfl)) ⟨H, B9, hQ24, H37, B4, B29, trivial⟩ ?_
  clear fr a; intro a fr
  refine fx_take (i := 2) (v := .agg (entA (Ent.mk (-1) ((entOf E m.line.toNat).sh) ((entOf E m.line.toNat).busy) ((entOf E m.line.toNat).asks) ((entOf E m.line.toNat).kind) ((entOf E m.line.toNat).waits) ((entOf E m.line.toNat).told) ((entOf E m.line.toNat).q)) (.slice Q21 ((entOf E m.line.toNat).q.length) qc22))) fr rfl (by kernel_rfl) rfl rfl (by decide) (fun _ _ _ h => h) (fun _ ⟨H, B9, hQ24, H37, B4, B29, _⟩ => x_loadS ag42 rfl (fr.ev rfl) rfl B29.range) ⟨H, B9, hQ24, H37, B4, B29, trivial⟩ ?_
  clear fr a; intro a fr
  refine fx_take (i := 4) (v := .agg (#[.slice A34 ((setLn bs m.line m.bs).length) cap35, .slice B E.length cb])) fr rfl (by kernel_rfl) rfl rfl (by decide) (fun _ _ _ h => h) (fun _ ⟨H, B9, hQ24, H37, B4, B29, _⟩ => x_loadS ag28 rfl (fr.ev rfl) rfl B4.range) ⟨H, B9, hQ24, H37, B4, B29, trivial⟩ ?_
  clear fr a; intro a fr
  refine fx_take (i := 5) (v := .int .i64 m.src) fr rfl (by kernel_rfl) rfl rfl (by decide) (fun _ _ _ h => h) (fun _ ⟨H, B9, hQ24, H37, B4, B29, _⟩ => x_move rfl (fr.ev rfl)) ⟨H, B9, hQ24, H37, B4, B29, trivial⟩ ?_
  clear fr a; intro a fr
  refine fx_take (i := 6) (v := .int .u32 m.line) fr rfl (by kernel_rfl) rfl rfl (by decide) (fun _ _ _ h => h) (fun _ ⟨H, B9, hQ24, H37, B4, B29, _⟩ => x_move rfl (fr.ev rfl)) ⟨H, B9, hQ24, H37, B4, B29, trivial⟩ ?_
  clear fr a; intro a fr
  refine fx_one (i := 3) (by kernel_rfl) (fx_op rfl ?_)
  refine fx_call fr rfl rfl (by decide) (x_call (vs := [.agg (#[.slice A34 ((setLn bs m.line m.bs).length) cap35, .slice B E.length cb]), .int .u32 m.line, .agg (entA (Ent.mk (-1) ((entOf E m.line.toNat).sh) ((entOf E m.line.toNat).busy) ((entOf E m.line.toNat).asks) ((entOf E m.line.toNat).kind) ((entOf E m.line.toNat).waits) ((entOf E m.line.toNat).told) ((entOf E m.line.toNat).q)) (.slice Q21 ((entOf E m.line.toNat).q.length) qc22))]) rfl rfl ⟨(fr.ev rfl), (fr.ev rfl), (fr.ev rfl), trivial⟩ Try.func40 nm40 rfl) (rwith_r m.line m.hn (Ent.mk (-1) ((entOf E m.line.toNat).sh) ((entOf E m.line.toNat).busy) ((entOf E m.line.toNat).asks) ((entOf E m.line.toNat).kind) ((entOf E m.line.toNat).waits) ((entOf E m.line.toNat).told) ((entOf E m.line.toNat).q)) Q21 qc22 H37 (by omega) (by omega) hQ24) ?_
  clear fr a
  rintro v w53 ⟨B48, cb49, FpR50, rfl, H51, mv52, hN54⟩ a fr
  have ap_FpR50_b6 : ¬ FpR50 b6 := moved_apartP mv52 (fun h => h.elim ap_FpR36_b6 ap_Q21_b6) B9.lt
  have ap_FpR50_b11 : ¬ FpR50 b11 := moved_apartP mv52 (fun h => h.elim ap_FpR36_b11 ap_Q21_b11) B14.lt
  have ap_FpR50_b1 : ¬ FpR50 b1 := moved_apartP mv52 (fun h => h.elim ap_FpR36_b1 ap_Q21_b1) B4.lt
  have ap_FpR50_b26 : ¬ FpR50 b26 := moved_apartP mv52 (fun h => h.elim ap_FpR36_b26 ap_Q21_b26) B29.lt
  have mF_FpR50 : ∀ g, FpR50 g → FpR g ∨ w.heap.size ≤ g := fun g hg => (mv52 g hg).elim (fun h => h.elim (mF_FpR36 g) (mQ_Q21 g)) (fun h => .inr (Nat.le_trans hF.size h))
  replace H := H.new hN54
  replace B9 := B9.new hN54
  replace B14 := B14.new hN54
  replace hQ24 := hQ24.new hN54
  replace H37 := H37.new hN54
  replace B4 := B4.new hN54
  replace B29 := B29.new hN54
  replace hF := hF.trNew hN54
  have hel55 : (E.set m.line.toNat (Ent.mk (-1) ((entOf E m.line.toNat).sh) ((entOf E m.line.toNat).busy) ((entOf E m.line.toNat).asks) ((entOf E m.line.toNat).kind) ((entOf E m.line.toNat).waits) ((entOf E m.line.toNat).told) ((entOf E m.line.toNat).q))).length = E.length := List.length_set
  have hxl56 := H51.len
  simp only [List.length_set] at hxl56
  refine wpList_nil ?_
  refine ⟨⟨H, B9, hQ24, H37, B4, B29, trivial⟩, ?_⟩
  refine fx_one (i := 7) (by kernel_rfl) (fx_op rfl ?_)
  refine fx_call fr rfl rfl (by decide) (x_call (vs := [.agg (#[.slice A34 ((setLn bs m.line m.bs).length) cap35, .slice B E.length cb]), .int .i64 7, .int .i64 m.src, .int .u32 m.line]) rfl rfl ⟨(fr.ev rfl), rfl, (fr.ev rfl), (fr.ev rfl), trivial⟩ Try.func45 nm45 rfl) (rsend_n m.line m.hn 7 m.src (bs := setLn bs m.line m.bs) H37.vb (by omega) (by omega) (by omega)) ?_
  clear fr a
  rintro v w57 ⟨rfl, hN58⟩ a fr
  replace H := H.new hN58
  replace B9 := B9.new hN58
  replace B14 := B14.new hN58
  replace hQ24 := hQ24.new hN58
  replace H37 := H37.new hN58
  replace B4 := B4.new hN58
  replace B29 := B29.new hN58
  replace H51 := H51.new hN58
  replace hF := hF.trNew hN58
  refine wpList_nil ?_
  refine ⟨⟨H, B9, hQ24, H37, B4, B29, trivial⟩, ?_⟩
  refine fx_two (i := 8) (j := 9) (by kernel_rfl) (fx_op rfl ?_) (fx_op rfl ?_)
  ·skip
   refine fx_build1 (E := msgE) (p := (mkM 7 4 m.src m.line b16z m.hn)) elMsg (by decide) fr rfl rfl (by decide) rfl (fr.ev rfl) ?_
   clear fr a
   intro A59 w60 hN61 O62 hA63 a fr
   have ap2_FpR_A59 : ∀ k, FpR k → inA A59 k → False := symP (new_apart2P hA63 fun _ hg => H.lt hg)
   have ap_A59_b6 : Apart A59 b6 := new_apart hA63 B9.lt
   have ap_A59_b11 : Apart A59 b11 := new_apart hA63 B14.lt
   have ap2_Q21_A59 : Apart2 Q21 A59 := (new_apart2 hA63 fun _ hg => hQ24.lt hg).symm
   have ap2_FpR36_A59 : ∀ k, FpR36 k → inA A59 k → False := symP (new_apart2P hA63 fun _ hg => H37.lt hg)
   have ap_A59_b1 : Apart A59 b1 := new_apart hA63 B4.lt
   have ap_A59_b26 : Apart A59 b26 := new_apart hA63 B29.lt
   have ap2_FpR50_A59 : ∀ k, FpR50 k → inA A59 k → False := symP (new_apart2P hA63 fun _ hg => H51.lt hg)
   have gA_A59 := gA_new hF hA63
   have gN_A59 := fun g (hg : inA A59 g) => Nat.le_trans hF.size (hA63 g hg)
   replace H := H.new hN61
   replace B9 := B9.new hN61
   replace B14 := B14.new hN61
   replace hQ24 := hQ24.new hN61
   replace H37 := H37.new hN61
   replace B4 := B4.new hN61
   replace B29 := B29.new hN61
   replace H51 := H51.new hN61
   replace hF := hF.trNew hN61
   refine wpList_nil ?_
   refine ⟨⟨H, B9, hQ24, H37, B4, B29, trivial⟩, ?_⟩
   refine fx_one (i := 9) (by kernel_rfl) (fx_op rfl ?_)
   refine fx_storeS sz28 rfl rfl rfl (fr.ev rfl) (fr.ev rfl) (by simp [Value.oneCell']) B14 rfl rfl fun w64 hO65 hBq => ?_
   replace H := H.only hO65 (ne1P ap_FpR_b11)
   replace B9 := B9.only hO65 (by first | exact ne_b6_b11 | exact ne_b11_b6.symm | (show ¬ b6 = b11; omega))
   replace hQ24 := hQ24.only hO65 (Apart.ne1 ap_Q21_b11)
   replace H37 := H37.only hO65 (ne1P ap_FpR36_b11)
   replace B4 := B4.only hO65 (by first | exact ne_b1_b11 | exact ne_b11_b1.symm | (show ¬ b1 = b11; omega))
   replace B29 := B29.only hO65 (by first | exact ne_b26_b11 | exact ne_b11_b26.symm | (show ¬ b26 = b11; omega))
   replace H51 := H51.only hO65 (ne1P ap_FpR50_b11)
   replace O62 := O62.only hO65 (Apart.ne1 ap_A59_b11)
   replace hF := hF.loc hO65 (.inr g_b11)
   replace B14 := hBq
   clear hBq
   refine wpList_nil ?_
   refine ⟨⟨H, B9, hQ24, H37, B4, B29, trivial⟩, ?_⟩
   refine fx_hdone (by kernel_rfl) ?_
   refine fx_tail ?_
   refine fx_val (v := .slice A59 1 1) fr rfl rfl (by decide) (x_assign rfl (fr.ev rfl)) ?_
   clear fr a; intro a fr
   refine wpList_nil ?_
   refine fx_next ?_
   refine wp_ret ?_
   refine fx_rt ?_
   refine fx_ret fr [.cell 4 28, .tmp 5] [.agg (#[.slice A34 ((setLn bs m.line m.bs).length) cap35, .slice B48 ((E.set m.line.toNat (Ent.mk (-1) ((entOf E m.line.toNat).sh) ((entOf E m.line.toNat).busy) ((entOf E m.line.toNat).asks) ((entOf E m.line.toNat).kind) ((entOf E m.line.toNat).waits) ((entOf E m.line.toNat).told) ((entOf E m.line.toNat).q))).length) cb49]), .slice A59 1 1] rfl ⟨⟨_, rfl, x_loadV ag28 rfl B14.range⟩, rfl, trivial⟩ rfl ?_
   rw [begin_put hk3, if_pos hc33, leave_eq hc33]
   exact ⟨_, rfl, A34, cap35, B48, cb49, FpR50, A59, 1, rfl, ⟨_, H51⟩, O62, mF_FpR50, gN_A59, ap2_FpR50_A59, hF⟩
  ·skip
   refine fx_storeS sz28 rfl rfl rfl (fr.ev rfl) (fr.ev rfl) (by simp [Value.oneCell']) B14 rfl rfl fun w66 hO67 hBq => ?_
   replace H := H.only hO67 (ne1P ap_FpR_b11)
   replace B9 := B9.only hO67 (by first | exact ne_b6_b11 | exact ne_b11_b6.symm | (show ¬ b6 = b11; omega))
   replace hQ24 := hQ24.only hO67 (Apart.ne1 ap_Q21_b11)
   replace H37 := H37.only hO67 (ne1P ap_FpR36_b11)
   replace B4 := B4.only hO67 (by first | exact ne_b1_b11 | exact ne_b11_b1.symm | (show ¬ b1 = b11; omega))
   replace B29 := B29.only hO67 (by first | exact ne_b26_b11 | exact ne_b11_b26.symm | (show ¬ b26 = b11; omega))
   replace H51 := H51.only hO67 (ne1P ap_FpR50_b11)
   replace hF := hF.loc hO67 (.inr g_b11)
   replace B14 := hBq
   clear hBq
   refine wpList_nil ?_
   refine ⟨⟨H, B9, hQ24, H37, B4, B29, trivial⟩, ?_⟩
   refine fx_one (i := 8) (by kernel_rfl) (fx_op rfl ?_)
   refine fx_build1 (E := msgE) (p := (mkM 7 4 m.src m.line b16z m.hn)) elMsg (by decide) fr rfl rfl (by decide) rfl (fr.ev rfl) ?_
   clear fr a
   intro A68 w69 hN70 O71 hA72 a fr
   have ap2_FpR_A68 : ∀ k, FpR k → inA A68 k → False := symP (new_apart2P hA72 fun _ hg => H.lt hg)
   have ap_A68_b6 : Apart A68 b6 := new_apart hA72 B9.lt
   have ap2_Q21_A68 : Apart2 Q21 A68 := (new_apart2 hA72 fun _ hg => hQ24.lt hg).symm
   have ap2_FpR36_A68 : ∀ k, FpR36 k → inA A68 k → False := symP (new_apart2P hA72 fun _ hg => H37.lt hg)
   have ap_A68_b1 : Apart A68 b1 := new_apart hA72 B4.lt
   have ap_A68_b26 : Apart A68 b26 := new_apart hA72 B29.lt
   have ap2_FpR50_A68 : ∀ k, FpR50 k → inA A68 k → False := symP (new_apart2P hA72 fun _ hg => H51.lt hg)
   have ap_A68_b11 : Apart A68 b11 := new_apart hA72 B14.lt
   have gA_A68 := gA_new hF hA72
   have gN_A68 := fun g (hg : inA A68 g) => Nat.le_trans hF.size (hA72 g hg)
   replace H := H.new hN70
   replace B9 := B9.new hN70
   replace hQ24 := hQ24.new hN70
   replace H37 := H37.new hN70
   replace B4 := B4.new hN70
   replace B29 := B29.new hN70
   replace H51 := H51.new hN70
   replace B14 := B14.new hN70
   replace hF := hF.trNew hN70
   refine wpList_nil ?_
   refine ⟨⟨H, B9, hQ24, H37, B4, B29, trivial⟩, ?_⟩
   refine fx_hdone (by kernel_rfl) ?_
   refine fx_tail ?_
   refine fx_val (v := .slice A68 1 1) fr rfl rfl (by decide) (x_assign rfl (fr.ev rfl)) ?_
   clear fr a; intro a fr
   refine wpList_nil ?_
   refine fx_next ?_
   refine wp_ret ?_
   refine fx_rt ?_
   refine fx_ret fr [.cell 4 28, .tmp 5] [.agg (#[.slice A34 ((setLn bs m.line m.bs).length) cap35, .slice B48 ((E.set m.line.toNat (Ent.mk (-1) ((entOf E m.line.toNat).sh) ((entOf E m.line.toNat).busy) ((entOf E m.line.toNat).asks) ((entOf E m.line.toNat).kind) ((entOf E m.line.toNat).waits) ((entOf E m.line.toNat).told) ((entOf E m.line.toNat).q))).length) cb49]), .slice A68 1 1] rfl ⟨⟨_, rfl, x_loadV ag28 rfl B14.range⟩, rfl, trivial⟩ rfl ?_
   rw [begin_put hk3, if_pos hc33, leave_eq hc33]
   exact ⟨_, rfl, A34, cap35, B48, cb49, FpR50, A68, 1, rfl, ⟨_, H51⟩, O71, mF_FpR50, gN_A68, ap2_FpR50_A68, hF⟩
 ·skip
  have hc33 := of_decide_eq_false hc33
  refine wp_skip ?_
  refine fx_next ?_
  refine wp_seq ?_
  refine fx_heldT (n := 10) (k := 10) (fun w => RefAt w FpR A cap B cb (HD.mk bs E) X ∧ Blk w b1 28 (#[.slice A bs.length cap, .slice B E.length cb]) ∧ Blk w b6 36 (msgE.arr m) ∧ View msgE w Q21 qc22 ((entOf E m.line.toNat).q) ∧ Blk w b26 42 (entA (entOf E m.line.toNat) (.slice Q21 ((entOf E m.line.toNat).q.length) qc22)) ∧ True) (by kernel_rfl) (by kernel_rfl) rfl ?_
  intro w73 hN74
  replace H := H.new hN74
  replace B4 := B4.new hN74
  replace B9 := B9.new hN74
  replace B14 := B14.new hN74
  replace hQ24 := hQ24.new hN74
  replace B29 := B29.new hN74
  replace hF := hF.trNew hN74
  refine fx_take (i := 0) (v := .agg (#[.slice A bs.length cap, .slice B E.length cb])) fr rfl (by kernel_rfl) rfl rfl (by decide) (fun _ _ _ h => h) (fun _ ⟨H, B4, B9, hQ24, B29, _⟩ => x_loadS ag28 rfl (fr.ev rfl) rfl B4.range) ⟨H, B4, B9, hQ24, B29, trivial⟩ ?_
  clear fr a; intro a fr
  refine fx_take (i := 1) (v := .int .u32 m.line) fr rfl (by kernel_rfl) rfl rfl (by decide) (fun _ _ _ h => h) (fun _ ⟨H, B4, B9, hQ24, B29, _⟩ => x_move rfl (fr.ev rfl)) ⟨H, B4, B9, hQ24, B29, trivial⟩ ?_
  clear fr a; intro a fr
  refine fx_take (i := 2) (v := .agg (entA (entOf E m.line.toNat) (.slice Q21 ((entOf E m.line.toNat).q.length) qc22))) fr rfl (by kernel_rfl) rfl rfl (by decide) (fun _ _ _ h => h) (fun _ ⟨H, B4, B9, hQ24, B29, _⟩ => x_loadS ag42 rfl (fr.ev rfl) rfl B29.range) ⟨H, B4, B9, hQ24, B29, trivial⟩ ?_
  clear fr a; intro a fr
  refine fx_take (i := 4) (v := .agg (#[.slice A bs.length cap, .slice B E.length cb])) fr rfl (by kernel_rfl) rfl rfl (by decide) (fun _ _ _ h => h) (fun _ ⟨H, B4, B9, hQ24, B29, _⟩ => x_loadS ag28 rfl (fr.ev rfl) rfl B4.range) ⟨H, B4, B9, hQ24, B29, trivial⟩ ?_
  clear fr a; intro a fr
  refine fx_take (i := 5) (v := .int .i64 m.src) fr rfl (by kernel_rfl) rfl rfl (by decide) (fun _ _ _ h => h) (fun _ ⟨H, B4, B9, hQ24, B29, _⟩ => x_move rfl (fr.ev rfl)) ⟨H, B4, B9, hQ24, B29, trivial⟩ ?_
  clear fr a; intro a fr
  refine fx_take (i := 6) (v := .int .u32 m.line) fr rfl (by kernel_rfl) rfl rfl (by decide) (fun _ _ _ h => h) (fun _ ⟨H, B4, B9, hQ24, B29, _⟩ => x_move rfl (fr.ev rfl)) ⟨H, B4, B9, hQ24, B29, trivial⟩ ?_
  clear fr a; intro a fr
  refine fx_one (i := 3) (by kernel_rfl) (fx_op rfl ?_)
  refine fx_call fr rfl rfl (by decide) (x_call (vs := [.agg (#[.slice A bs.length cap, .slice B E.length cb]), .int .u32 m.line, .agg (entA (entOf E m.line.toNat) (.slice Q21 ((entOf E m.line.toNat).q.length) qc22))]) rfl rfl ⟨(fr.ev rfl), (fr.ev rfl), (fr.ev rfl), trivial⟩ Try.func40 nm40 rfl) (rwith_r m.line m.hn (entOf E m.line.toNat) Q21 qc22 H (by omega) (by omega) hQ24) ?_
  clear fr a
  rintro v w80 ⟨B75, cb76, FpR77, rfl, H78, mv79, hN81⟩ a fr
  have ap_FpR77_b1 : ¬ FpR77 b1 := moved_apartP mv79 (fun h => h.elim ap_FpR_b1 ap_Q21_b1) B4.lt
  have ap_FpR77_b6 : ¬ FpR77 b6 := moved_apartP mv79 (fun h => h.elim ap_FpR_b6 ap_Q21_b6) B9.lt
  have ap_FpR77_b11 : ¬ FpR77 b11 := moved_apartP mv79 (fun h => h.elim ap_FpR_b11 ap_Q21_b11) B14.lt
  have ap_FpR77_b26 : ¬ FpR77 b26 := moved_apartP mv79 (fun h => h.elim ap_FpR_b26 ap_Q21_b26) B29.lt
  have mF_FpR77 : ∀ g, FpR77 g → FpR g ∨ w.heap.size ≤ g := fun g hg => (mv79 g hg).elim (fun h => h.elim (mF_FpR g) (mQ_Q21 g)) (fun h => .inr (Nat.le_trans hF.size h))
  replace H := H.new hN81
  replace B4 := B4.new hN81
  replace B9 := B9.new hN81
  replace B14 := B14.new hN81
  replace hQ24 := hQ24.new hN81
  replace B29 := B29.new hN81
  replace hF := hF.trNew hN81
  have hel82 : (E.set m.line.toNat (entOf E m.line.toNat)).length = E.length := List.length_set
  have hxl83 := H78.len
  simp only [List.length_set] at hxl83
  refine wpList_nil ?_
  refine ⟨⟨H, B4, B9, hQ24, B29, trivial⟩, ?_⟩
  refine fx_one (i := 7) (by kernel_rfl) (fx_op rfl ?_)
  refine fx_call fr rfl rfl (by decide) (x_call (vs := [.agg (#[.slice A bs.length cap, .slice B E.length cb]), .int .i64 7, .int .i64 m.src, .int .u32 m.line]) rfl rfl ⟨(fr.ev rfl), rfl, (fr.ev rfl), (fr.ev rfl), trivial⟩ Try.func45 nm45 rfl) (rsend_n m.line m.hn 7 m.src (bs := bs) H.vb (by omega) (by omega) (by omega)) ?_
  clear fr a
  rintro v w84 ⟨rfl, hN85⟩ a fr
  replace H := H.new hN85
  replace B4 := B4.new hN85
  replace B9 := B9.new hN85
  replace B14 := B14.new hN85
  replace hQ24 := hQ24.new hN85
  replace B29 := B29.new hN85
  replace H78 := H78.new hN85
  replace hF := hF.trNew hN85
  refine wpList_nil ?_
  refine ⟨⟨H, B4, B9, hQ24, B29, trivial⟩, ?_⟩
  refine fx_two (i := 8) (j := 9) (by kernel_rfl) (fx_op rfl ?_) (fx_op rfl ?_)
  ·skip
   refine fx_build1 (E := msgE) (p := (mkM 7 4 m.src m.line b16z m.hn)) elMsg (by decide) fr rfl rfl (by decide) rfl (fr.ev rfl) ?_
   clear fr a
   intro A86 w87 hN88 O89 hA90 a fr
   have ap2_FpR_A86 : ∀ k, FpR k → inA A86 k → False := symP (new_apart2P hA90 fun _ hg => H.lt hg)
   have ap_A86_b1 : Apart A86 b1 := new_apart hA90 B4.lt
   have ap_A86_b6 : Apart A86 b6 := new_apart hA90 B9.lt
   have ap_A86_b11 : Apart A86 b11 := new_apart hA90 B14.lt
   have ap2_Q21_A86 : Apart2 Q21 A86 := (new_apart2 hA90 fun _ hg => hQ24.lt hg).symm
   have ap_A86_b26 : Apart A86 b26 := new_apart hA90 B29.lt
   have ap2_FpR77_A86 : ∀ k, FpR77 k → inA A86 k → False := symP (new_apart2P hA90 fun _ hg => H78.lt hg)
   have gA_A86 := gA_new hF hA90
   have gN_A86 := fun g (hg : inA A86 g) => Nat.le_trans hF.size (hA90 g hg)
   replace H := H.new hN88
   replace B4 := B4.new hN88
   replace B9 := B9.new hN88
   replace B14 := B14.new hN88
   replace hQ24 := hQ24.new hN88
   replace B29 := B29.new hN88
   replace H78 := H78.new hN88
   replace hF := hF.trNew hN88
   refine wpList_nil ?_
   refine ⟨⟨H, B4, B9, hQ24, B29, trivial⟩, ?_⟩
   refine fx_one (i := 9) (by kernel_rfl) (fx_op rfl ?_)
   refine fx_storeS sz28 rfl rfl rfl (fr.ev rfl) (fr.ev rfl) (by simp [Value.oneCell']) B14 rfl rfl fun w91 hO92 hBq => ?_
   replace H := H.only hO92 (ne1P ap_FpR_b11)
   replace B4 := B4.only hO92 (by first | exact ne_b1_b11 | exact ne_b11_b1.symm | (show ¬ b1 = b11; omega))
   replace B9 := B9.only hO92 (by first | exact ne_b6_b11 | exact ne_b11_b6.symm | (show ¬ b6 = b11; omega))
   replace hQ24 := hQ24.only hO92 (Apart.ne1 ap_Q21_b11)
   replace B29 := B29.only hO92 (by first | exact ne_b26_b11 | exact ne_b11_b26.symm | (show ¬ b26 = b11; omega))
   replace H78 := H78.only hO92 (ne1P ap_FpR77_b11)
   replace O89 := O89.only hO92 (Apart.ne1 ap_A86_b11)
   replace hF := hF.loc hO92 (.inr g_b11)
   replace B14 := hBq
   clear hBq
   refine wpList_nil ?_
   refine ⟨⟨H, B4, B9, hQ24, B29, trivial⟩, ?_⟩
   refine fx_hdone (by kernel_rfl) ?_
   refine fx_tail ?_
   refine fx_val (v := .slice A86 1 1) fr rfl rfl (by decide) (x_assign rfl (fr.ev rfl)) ?_
   clear fr a; intro a fr
   refine wpList_nil ?_
   refine fx_next ?_
   refine wp_ret ?_
   refine fx_rt ?_
   refine fx_ret fr [.cell 4 28, .tmp 5] [.agg (#[.slice A bs.length cap, .slice B75 ((E.set m.line.toNat (entOf E m.line.toNat)).length) cb76]), .slice A86 1 1] rfl ⟨⟨_, rfl, x_loadV ag28 rfl B14.range⟩, rfl, trivial⟩ rfl ?_
   rw [begin_put hk3, if_neg hc33, leave_ne hc33]
   exact ⟨_, rfl, A, cap, B75, cb76, FpR77, A86, 1, rfl, ⟨_, H78⟩, O89, mF_FpR77, gN_A86, ap2_FpR77_A86, hF⟩
  ·skip
   refine fx_storeS sz28 rfl rfl rfl (fr.ev rfl) (fr.ev rfl) (by simp [Value.oneCell']) B14 rfl rfl fun w93 hO94 hBq => ?_
   replace H := H.only hO94 (ne1P ap_FpR_b11)
   replace B4 := B4.only hO94 (by first | exact ne_b1_b11 | exact ne_b11_b1.symm | (show ¬ b1 = b11; omega))
   replace B9 := B9.only hO94 (by first | exact ne_b6_b11 | exact ne_b11_b6.symm | (show ¬ b6 = b11; omega))
   replace hQ24 := hQ24.only hO94 (Apart.ne1 ap_Q21_b11)
   replace B29 := B29.only hO94 (by first | exact ne_b26_b11 | exact ne_b11_b26.symm | (show ¬ b26 = b11; omega))
   replace H78 := H78.only hO94 (ne1P ap_FpR77_b11)
   replace hF := hF.loc hO94 (.inr g_b11)
   replace B14 := hBq
   clear hBq
   refine wpList_nil ?_
   refine ⟨⟨H, B4, B9, hQ24, B29, trivial⟩, ?_⟩
   refine fx_one (i := 8) (by kernel_rfl) (fx_op rfl ?_)
   refine fx_build1 (E := msgE) (p := (mkM 7 4 m.src m.line b16z m.hn)) elMsg (by decide) fr rfl rfl (by decide) rfl (fr.ev rfl) ?_
   clear fr a
   intro A95 w96 hN97 O98 hA99 a fr
   have ap2_FpR_A95 : ∀ k, FpR k → inA A95 k → False := symP (new_apart2P hA99 fun _ hg => H.lt hg)
   have ap_A95_b1 : Apart A95 b1 := new_apart hA99 B4.lt
   have ap_A95_b6 : Apart A95 b6 := new_apart hA99 B9.lt
   have ap2_Q21_A95 : Apart2 Q21 A95 := (new_apart2 hA99 fun _ hg => hQ24.lt hg).symm
   have ap_A95_b26 : Apart A95 b26 := new_apart hA99 B29.lt
   have ap2_FpR77_A95 : ∀ k, FpR77 k → inA A95 k → False := symP (new_apart2P hA99 fun _ hg => H78.lt hg)
   have ap_A95_b11 : Apart A95 b11 := new_apart hA99 B14.lt
   have gA_A95 := gA_new hF hA99
   have gN_A95 := fun g (hg : inA A95 g) => Nat.le_trans hF.size (hA99 g hg)
   replace H := H.new hN97
   replace B4 := B4.new hN97
   replace B9 := B9.new hN97
   replace hQ24 := hQ24.new hN97
   replace B29 := B29.new hN97
   replace H78 := H78.new hN97
   replace B14 := B14.new hN97
   replace hF := hF.trNew hN97
   refine wpList_nil ?_
   refine ⟨⟨H, B4, B9, hQ24, B29, trivial⟩, ?_⟩
   refine fx_hdone (by kernel_rfl) ?_
   refine fx_tail ?_
   refine fx_val (v := .slice A95 1 1) fr rfl rfl (by decide) (x_assign rfl (fr.ev rfl)) ?_
   clear fr a; intro a fr
   refine wpList_nil ?_
   refine fx_next ?_
   refine wp_ret ?_
   refine fx_rt ?_
   refine fx_ret fr [.cell 4 28, .tmp 5] [.agg (#[.slice A bs.length cap, .slice B75 ((E.set m.line.toNat (entOf E m.line.toNat)).length) cb76]), .slice A95 1 1] rfl ⟨⟨_, rfl, x_loadV ag28 rfl B14.range⟩, rfl, trivial⟩ rfl ?_
   rw [begin_put hk3, if_neg hc33, leave_ne hc33]
   exact ⟨_, rfl, A, cap, B75, cb76, FpR77, A95, 1, rfl, ⟨_, H78⟩, O98, mF_FpR77, gN_A95, ap2_FpR77_A95, hF⟩
set_option maxRecDepth 100000 in
set_option maxHeartbeats 4000000 in
theorem rbegin_12 (m : Msg) {w : World} {FpR : Nat → Prop} {A : Option Addr} {cap : Nat} {B : Option Addr} {cb : Nat} {bs : List UInt8} {E : List Ent} {X : List EC} (H : RefAt w FpR A cap B cb ⟨bs, E⟩ X) (hk : m.line.toNat < E.length) (hEb : E.length = bs.length / 16) (hb4 : bs.length ≤ 4096) (hsrc : 0 ≤ m.src ∧ m.src < 4) (hk12 : 1 ≤ m.kind ∧ m.kind ≤ 2) : Calls Try.prog 41 #[.agg (#[.slice A bs.length cap, .slice B E.length cb]), .agg (msgE.arr m)] w (Ret fun v w' => ∃ A' c' B' cb' F' M mc, v = .tuple #[.agg #[.slice A' (beginF bs (entOf E m.line.toNat) m).2.1.length c', .slice B' (E.set m.line.toNat (beginF bs (entOf E m.line.toNat) m).1).length cb'], .slice M (beginF bs (entOf E m.line.toNat) m).2.2.length mc] ∧ RefH w' F' A' c' B' cb' ⟨(beginF bs (entOf E m.line.toNat) m).2.1, E.set m.line.toNat (beginF bs (entOf E m.line.toNat) m).1⟩ ∧ Own msgE w' M mc (beginF bs (entOf E m.line.toNat) m).2.2 ∧ (∀ g, F' g → FpR g ∨ w.heap.size ≤ g) ∧ (∀ g, inA M g → w.heap.size ≤ g) ∧ (∀ g, F' g → inA M g → False) ∧ New w w') := by
 have hmn := m.hn
 have hXl : X.length = E.length := H.len
 have mF_FpR : ∀ g, FpR g → FpR g ∨ w.heap.size ≤ g := fun g h => .inl h
 have hk3 : ¬ m.kind = 3 := by omega
 have hF := Only.refl (fun _ => False) w
 refine fx_enter Try.func41 rfl (N := (151, [])) (T := [(0, .agg (#[.slice A bs.length cap, .slice B E.length cb])), (1, .agg (msgE.arr m))]) rfl (show 2 ≤ 151 by decide) ⟨rfl, rfl, trivial⟩ fun a fr => ?_
 refine wp_seq ?_
 refine wp_region_lit ?_
 refine fx_new fr rfl rfl (by decide) (x_box (cs := #[.slice A bs.length cap, .slice B E.length cb]) rfl (fr.ev rfl) rfl) ?_
 clear fr a
 intro b1 w2 hN3 B4 hb5 a fr
 have ap_FpR_b1 : ¬ FpR b1 := H.apart hb5
 have g_b1 := Nat.le_trans hF.size hb5
 replace H := H.new hN3
 replace hF := hF.trNew hN3
 refine fx_new fr rfl rfl (by decide) (x_box (cs := msgE.arr m) rfl (fr.ev rfl) rfl) ?_
 clear fr a
 intro b6 w7 hN8 B9 hb10 a fr
 have ap_FpR_b6 : ¬ FpR b6 := H.apart hb10
 have ne_b1_b6 : NE b1 b6 := NE.mk (Nat.lt_of_lt_of_le B4.lt hb10)
 have g_b6 := Nat.le_trans hF.size hb10
 replace H := H.new hN8
 replace B4 := B4.new hN8
 replace hF := hF.trNew hN8
 refine fx_new fr rfl rfl (by decide) (x_alloc (z := .agg (#[.slice none 0 0, .slice none 0 0])) (cs := #[.slice none 0 0, .slice none 0 0]) rfl (by kernel_rfl) rfl) ?_
 clear fr a
 intro b11 w12 hN13 B14 hb15 a fr
 have ap_FpR_b11 : ¬ FpR b11 := H.apart hb15
 have ne_b1_b11 : NE b1 b11 := NE.mk (Nat.lt_of_lt_of_le B4.lt hb15)
 have ne_b6_b11 : NE b6 b11 := NE.mk (Nat.lt_of_lt_of_le B9.lt hb15)
 have g_b11 := Nat.le_trans hF.size hb15
 replace H := H.new hN13
 replace B4 := B4.new hN13
 replace B9 := B9.new hN13
 replace hF := hF.trNew hN13
 refine fx_val (v := .slice none 0 0) fr rfl rfl (by decide) (x_assign rfl rfl) ?_
 clear fr a; intro a fr
 refine wpList_nil ?_
 refine fx_next ?_
 refine wp_seq ?_
 refine fx_heldT (n := 5) (k := 5) (fun w => RefAt w FpR A cap B cb (HD.mk bs E) X ∧ Blk w b1 28 (#[.slice A bs.length cap, .slice B E.length cb]) ∧ Blk w b6 36 (msgE.arr m) ∧ Blk w b11 28 (#[.slice none 0 0, .slice none 0 0]) ∧ True) (by kernel_rfl) (by kernel_rfl) rfl ?_
 intro w16 hN17
 replace H := H.new hN17
 replace B4 := B4.new hN17
 replace B9 := B9.new hN17
 replace B14 := B14.new hN17
 replace hF := hF.trNew hN17
 refine fx_take (i := 0) (v := .pointer (some ⟨b6, 3, none⟩)) fr rfl (by kernel_rfl) rfl rfl (by decide) (fun _ _ _ h => h) (fun _ ⟨H, B4, B9, B14, _⟩ => x_fieldAddr fo36_3 rfl (fr.ev rfl) rfl) ⟨H, B4, B9, B14, trivial⟩ ?_
 clear fr a; intro a fr
 refine fx_take (i := 1) (v := .int .u32 m.line) fr rfl (by kernel_rfl) rfl rfl (by decide) (fun _ _ _ h => h) (fun _ ⟨H, B4, B9, B14, _⟩ => x_load1 pl24 rfl (fr.ev rfl) (B9.cell 3 rfl)) ⟨H, B4, B9, B14, trivial⟩ ?_
 clear fr a; intro a fr
 refine fx_take (i := 2) (v := .pointer (some ⟨b6, 1, none⟩)) fr rfl (by kernel_rfl) rfl rfl (by decide) (fun _ _ _ h => h) (fun _ ⟨H, B4, B9, B14, _⟩ => x_fieldAddr fo36_1 rfl (fr.ev rfl) rfl) ⟨H, B4, B9, B14, trivial⟩ ?_
 clear fr a; intro a fr
 refine fx_take (i := 3) (v := .int .i64 m.src) fr rfl (by kernel_rfl) rfl rfl (by decide) (fun _ _ _ h => h) (fun _ ⟨H, B4, B9, B14, _⟩ => x_load1 pl3 rfl (fr.ev rfl) (B9.cell 1 rfl)) ⟨H, B4, B9, B14, trivial⟩ ?_
 clear fr a; intro a fr
 refine fx_take (i := 4) (v := .int .u32 m.line) fr rfl (by kernel_rfl) rfl rfl (by decide) (fun _ _ _ h => h) (fun _ ⟨H, B4, B9, B14, _⟩ => x_assign rfl (fr.ev rfl)) ⟨H, B4, B9, B14, trivial⟩ ?_
 clear fr a; intro a fr
 refine fx_hdone (by kernel_rfl) ?_
 refine fx_tail ?_
 refine fx_val (v := .int .i64 m.src) fr rfl rfl (by decide) (x_assign rfl (fr.ev rfl)) ?_
 clear fr a; intro a fr
 refine wpList_nil ?_
 refine fx_next ?_
 refine wp_seq ?_
 refine wp_region_lit ?_
 refine fx_val (v := .pointer (some ⟨b1, 1, none⟩)) fr rfl rfl (by decide) (x_fieldAddr fo28_1 rfl (fr.ev rfl) rfl) ?_
 clear fr a; intro a fr
 refine fx_val (v := .slice B E.length cb) fr rfl rfl (by decide) (x_load1 pl26 rfl (fr.ev rfl) (B4.cell 1 rfl)) ?_
 clear fr a; intro a fr
 refine fx_val (v := .int .u32 m.line) fr rfl rfl (by decide) (x_move rfl (fr.ev rfl)) ?_
 clear fr a; intro a fr
 refine fx_val (v := .int .i64 ((m.line.toNat : Nat) : Int)) fr rfl rfl (by decide) (x_convert Try.underlying24 Try.underlying3 rfl (fr.ev rfl) (i64w (r := ((m.line.toNat : Nat) : Int)) (by omega) (by omega))) ?_
 clear fr a; intro a fr
 obtain ⟨g18, o19, hA20⟩ := (H.ve).some_ (by first | omega | decide)
 refine fx_val (v := .pointer (some ⟨g18, o19 + m.line.toNat * 11, none⟩)) fr rfl rfl (by decide) (x_indexV Try.underlying26 sz42 rfl (fr.ev rfl) hA20 (fr.ev rfl) (by first | omega | decide) rfl) ?_
 clear fr a; intro a fr
 obtain ⟨Q21, qc22, hat23, hQ24, hQF25⟩ := H.at_ m.line.toNat (by omega)
 dsimp only at hat23 hQ24
 have mQ_Q21 := fun g (hg : inA Q21 g) => mF_FpR g (hQF25 g hg)
 have ap_Q21_b1 : Apart Q21 b1 := fun h => ap_FpR_b1 (hQF25 _ h)
 have ap_Q21_b6 : Apart Q21 b6 := fun h => ap_FpR_b6 (hQF25 _ h)
 have ap_Q21_b11 : Apart Q21 b11 := fun h => ap_FpR_b11 (hQF25 _ h)
 refine fx_val (v := .agg (entA (entOf E m.line.toNat) (.slice Q21 ((entOf E m.line.toNat).q.length) qc22))) fr rfl rfl (by decide) (x_loadE (E := ecE) (p := ecOf (entOf E m.line.toNat) Q21 qc22) ag42 rfl rfl (fr.ev rfl) (H.cell hat23 (by omega) hA20)) ?_
 clear fr a; intro a fr
 refine fx_new fr rfl rfl (by decide) (x_alloc (z := .agg (#[.int .i64 0, .bool false, .bool false, .bool false, .bool false, .bool false, .int .i64 0, .int .i64 0, .int .i64 0, .bool false, .slice none 0 0])) (cs := #[.int .i64 0, .bool false, .bool false, .bool false, .bool false, .bool false, .int .i64 0, .int .i64 0, .int .i64 0, .bool false, .slice none 0 0]) rfl (by kernel_rfl) rfl) ?_
 clear fr a
 intro b26 w27 hN28 B29 hb30 a fr
 have ap_FpR_b26 : ¬ FpR b26 := H.apart hb30
 have ne_b1_b26 : NE b1 b26 := NE.mk (Nat.lt_of_lt_of_le B4.lt hb30)
 have ne_b6_b26 : NE b6 b26 := NE.mk (Nat.lt_of_lt_of_le B9.lt hb30)
 have ne_b11_b26 : NE b11 b26 := NE.mk (Nat.lt_of_lt_of_le B14.lt hb30)
 have ap_Q21_b26 : Apart Q21 b26 := hQ24.apart hb30
 have g_b26 := Nat.le_trans hF.size hb30
 replace H := H.new hN28
 replace B4 := B4.new hN28
 replace B9 := B9.new hN28
 replace B14 := B14.new hN28
 replace hQ24 := hQ24.new hN28
 replace hF := hF.trNew hN28
 refine fx_storeS sz42 rfl rfl rfl (fr.ev rfl) (fr.ev rfl) (ent_all _ _ _ _) B29 rfl rfl fun w31 hO32 hBq => ?_
 replace H := H.only hO32 (ne1P ap_FpR_b26)
 replace B4 := B4.only hO32 (by first | exact ne_b1_b26 | exact ne_b26_b1.symm | (show ¬ b1 = b26; omega))
 replace B9 := B9.only hO32 (by first | exact ne_b6_b26 | exact ne_b26_b6.symm | (show ¬ b6 = b26; omega))
 replace B14 := B14.only hO32 (by first | exact ne_b11_b26 | exact ne_b26_b11.symm | (show ¬ b11 = b26; omega))
 replace hQ24 := hQ24.only hO32 (Apart.ne1 ap_Q21_b26)
 replace hF := hF.loc hO32 (.inr g_b26)
 replace B29 := hBq
 clear hBq
 refine wpList_nil ?_
 refine fx_next ?_
 refine wp_seq ?_
 refine wp_region_lit ?_
 refine fx_val (v := .pointer (some ⟨b6, 0, none⟩)) fr rfl rfl (by decide) (x_fieldAddr fo36_0 rfl (fr.ev rfl) rfl) ?_
 clear fr a; intro a fr
 refine fx_val (v := .int .i64 m.kind) fr rfl rfl (by decide) (x_load1 pl33 rfl (fr.ev rfl) (B9.cell 0 rfl)) ?_
 clear fr a; intro a fr
 refine fx_val (v := .int .i64 m.kind) fr rfl rfl (by decide) (x_assign rfl (fr.ev rfl)) ?_
 clear fr a; intro a fr
 refine wpList_nil ?_
 refine fx_next ?_
 refine wp_seq ?_
 refine wp_seq ?_
 refine wp_region_lit ?_
 refine fx_val (v := .int .i64 m.kind) fr rfl rfl (by decide) (x_move rfl (fr.ev rfl)) ?_
 clear fr a; intro a fr
 refine fx_val (v := .bool false) fr rfl rfl (by decide) (x_eql rfl (fr.ev rfl) rfl (decide_eq_false hk3)) ?_
 clear fr a; intro a fr
 refine wpList_nil ?_
 refine fx_next ?_
 refine fx_cond_f fr rfl ?_
 refine wp_skip ?_
 refine fx_next ?_
 refine fx_join (fun a w9 => Only (fun k => k = b26) w31 w9 ∧ Blk w9 b26 42 (entA (leaveF (entOf E m.line.toNat) m.src) (.slice Q21 ((entOf E m.line.toNat).q.length) qc22)) ∧ Fr (151, []) [(0, .agg (#[.slice A bs.length cap, .slice B E.length cb])), (1, .agg (msgE.arr m)), (2, .pointer (some ⟨b1, 0, none⟩)), (3, .pointer (some ⟨b6, 0, none⟩)), (4, .pointer (some ⟨b11, 0, none⟩)), (5, .slice none 0 0), (6, .int .u32 m.line), (7, .int .i64 m.src), (8, .pointer (some ⟨b26, 0, none⟩)), (9, .int .i64 m.kind)] a) ?_ ?_
 ·skip
  refine wp_seq ?_
  refine wp_region_lit ?_
  refine fx_val (v := .pointer (some ⟨b26, 0, none⟩)) fr rfl rfl (by decide) (x_fieldAddr fo42_0 rfl (fr.ev rfl) rfl) ?_
  clear fr a; intro a fr
  refine fx_val (v := .int .i64 ((entOf E m.line.toNat).o)) fr rfl rfl (by decide) (x_load1 pl3 rfl (fr.ev rfl) (B29.cell 0 rfl)) ?_
  clear fr a; intro a fr
  refine fx_val (v := .int .i64 m.src) fr rfl rfl (by decide) (x_move rfl (fr.ev rfl)) ?_
  clear fr a; intro a fr
  refine fx_val (v := .bool (decide ((entOf E m.line.toNat).o = m.src))) fr rfl rfl (by decide) (x_eql rfl (fr.ev rfl) (fr.ev rfl) rfl) ?_
  clear fr a; intro a fr
  refine wpList_nil ?_
  refine fx_next ?_
  refine fx_cond fr rfl (fun hc33 => ?_) (fun hc33 => ?_)
  ·skip
   have hc33 := of_decide_eq_true hc33
   refine wp_region_lit ?_
   refine fx_val (v := .pointer (some ⟨b26, 0, none⟩)) fr rfl rfl (by decide) (x_fieldAddr fo42_0 rfl (fr.ev rfl) rfl) ?_
   clear fr a; intro a fr
   refine fx_store1 sz3 rfl rfl rfl (fr.ev rfl) rfl rfl B29 (show 0 < 11 by decide) (cs' := entA (Ent.mk (-1) ((entOf E m.line.toNat).sh) ((entOf E m.line.toNat).busy) ((entOf E m.line.toNat).asks) ((entOf E m.line.toNat).kind) ((entOf E m.line.toNat).waits) ((entOf E m.line.toNat).told) ((entOf E m.line.toNat).q)) (.slice Q21 ((entOf E m.line.toNat).q.length) qc22)) rfl fun w34 hO35 hBq => ?_
   replace H := H.only hO35 (ne1P ap_FpR_b26)
   replace B4 := B4.only hO35 (by first | exact ne_b1_b26 | exact ne_b26_b1.symm | (show ¬ b1 = b26; omega))
   replace B9 := B9.only hO35 (by first | exact ne_b6_b26 | exact ne_b26_b6.symm | (show ¬ b6 = b26; omega))
   replace B14 := B14.only hO35 (by first | exact ne_b11_b26 | exact ne_b26_b11.symm | (show ¬ b11 = b26; omega))
   replace hQ24 := hQ24.only hO35 (Apart.ne1 ap_Q21_b26)
   replace hF := hF.loc hO35 (.inr g_b26)
   replace B29 := hBq
   clear hBq
   refine wpList_nil ?_
   refine fx_next ?_
   exact ⟨hO35, (by rw [show leaveF (entOf E m.line.toNat) m.src = _ from leave_eq hc33]; exact B29), fr.sub ⟨rfl, rfl, rfl, rfl, rfl, rfl, rfl, rfl, rfl, rfl, trivial⟩⟩
  ·skip
   have hc33 := of_decide_eq_false hc33
   refine wp_skip ?_
   refine fx_next ?_
   exact ⟨Only.refl _ _, (by rw [show leaveF (entOf E m.line.toNat) m.src = _ from leave_ne hc33]; exact B29), fr.sub ⟨rfl, rfl, rfl, rfl, rfl, rfl, rfl, rfl, rfl, rfl, trivial⟩⟩
 clear fr a
 rintro a w36 ⟨hO37, hBj38, fr⟩
 replace H := H.only hO37 (ne1P ap_FpR_b26)
 replace B4 := B4.only hO37 (by first | exact ne_b1_b26 | exact ne_b26_b1.symm | (show ¬ b1 = b26; omega))
 replace B9 := B9.only hO37 (by first | exact ne_b6_b26 | exact ne_b26_b6.symm | (show ¬ b6 = b26; omega))
 replace B14 := B14.only hO37 (by first | exact ne_b11_b26 | exact ne_b26_b11.symm | (show ¬ b11 = b26; omega))
 replace hQ24 := hQ24.only hO37 (Apart.ne1 ap_Q21_b26)
 replace hF := hF.loc hO37 (.inr g_b26)
 replace B29 := hBj38
 clear hBj38
 refine wp_seq ?_
 refine fx_heldT (n := 7) (k := 7) (fun w => RefAt w FpR A cap B cb (HD.mk bs E) X ∧ Blk w b1 28 (#[.slice A bs.length cap, .slice B E.length cb]) ∧ Blk w b6 36 (msgE.arr m) ∧ Blk w b11 28 (#[.slice none 0 0, .slice none 0 0]) ∧ View msgE w Q21 qc22 ((entOf E m.line.toNat).q) ∧ True) (by kernel_rfl) (by kernel_rfl) rfl ?_
 intro w39 hN40
 replace H := H.new hN40
 replace B4 := B4.new hN40
 replace B9 := B9.new hN40
 replace B14 := B14.new hN40
 replace hQ24 := hQ24.new hN40
 replace B29 := B29.new hN40
 replace hF := hF.trNew hN40
 refine fx_take (i := 0) (v := .int .i64 m.src) fr rfl (by kernel_rfl) rfl rfl (by decide) (fun _ _ _ h => h) (fun _ ⟨H, B4, B9, B14, hQ24, _⟩ => x_move rfl (fr.ev rfl)) ⟨H, B4, B9, B14, hQ24, trivial⟩ ?_
 clear fr a; intro a fr
 refine fx_take (i := 1) (v := .pointer (some ⟨b6, 0, none⟩)) fr rfl (by kernel_rfl) rfl rfl (by decide) (fun _ _ _ h => h) (fun _ ⟨H, B4, B9, B14, hQ24, _⟩ => x_fieldAddr fo36_0 rfl (fr.ev rfl) rfl) ⟨H, B4, B9, B14, hQ24, trivial⟩ ?_
 clear fr a; intro a fr
 refine fx_take (i := 2) (v := .int .i64 m.kind) fr rfl (by kernel_rfl) rfl rfl (by decide) (fun _ _ _ h => h) (fun _ ⟨H, B4, B9, B14, hQ24, _⟩ => x_load1 pl33 rfl (fr.ev rfl) (B9.cell 0 rfl)) ⟨H, B4, B9, B14, hQ24, trivial⟩ ?_
 clear fr a; intro a fr
 refine fx_take (i := 3) (v := .pointer (some ⟨b26, 5, none⟩)) fr rfl (by kernel_rfl) rfl rfl (by decide) (fun _ _ _ h => h) (fun _ ⟨H, B4, B9, B14, hQ24, _⟩ => x_fieldAddr fo42_2 rfl (fr.ev rfl) rfl) ⟨H, B4, B9, B14, hQ24, trivial⟩ ?_
 clear fr a; intro a fr
 refine fx_one (i := 4) (by kernel_rfl) (fx_op rfl ?_)
 refine fx_store1 sz4 rfl rfl rfl (fr.ev rfl) rfl rfl B29 (show 5 < 11 by decide) (cs' := entA (Ent.mk ((leaveF (entOf E m.line.toNat) m.src).o) ((entOf E m.line.toNat).sh) true ((entOf E m.line.toNat).asks) ((entOf E m.line.toNat).kind) ((entOf E m.line.toNat).waits) ((entOf E m.line.toNat).told) ((entOf E m.line.toNat).q)) (.slice Q21 ((entOf E m.line.toNat).q.length) qc22)) rfl fun w41 hO42 hBq => ?_
 replace H := H.only hO42 (ne1P ap_FpR_b26)
 replace B4 := B4.only hO42 (by first | exact ne_b1_b26 | exact ne_b26_b1.symm | (show ¬ b1 = b26; omega))
 replace B9 := B9.only hO42 (by first | exact ne_b6_b26 | exact ne_b26_b6.symm | (show ¬ b6 = b26; omega))
 replace B14 := B14.only hO42 (by first | exact ne_b11_b26 | exact ne_b26_b11.symm | (show ¬ b11 = b26; omega))
 replace hQ24 := hQ24.only hO42 (Apart.ne1 ap_Q21_b26)
 replace hF := hF.loc hO42 (.inr g_b26)
 replace B29 := hBq
 clear hBq
 refine wpList_nil ?_
 refine ⟨⟨H, B4, B9, B14, hQ24, trivial⟩, ?_⟩
 refine fx_take (i := 5) (v := .pointer (some ⟨b26, 6, none⟩)) fr rfl (by kernel_rfl) rfl rfl (by decide) (fun _ _ _ h => h) (fun _ ⟨H, B4, B9, B14, hQ24, _⟩ => x_fieldAddr fo42_3 rfl (fr.ev rfl) rfl) ⟨H, B4, B9, B14, hQ24, trivial⟩ ?_
 clear fr a; intro a fr
 refine fx_one (i := 6) (by kernel_rfl) (fx_op rfl ?_)
 refine fx_store1 sz3 rfl rfl rfl (fr.ev rfl) (fr.ev rfl) rfl B29 (show 6 < 11 by decide) (cs' := entA (Ent.mk ((leaveF (entOf E m.line.toNat) m.src).o) ((entOf E m.line.toNat).sh) true m.src ((entOf E m.line.toNat).kind) ((entOf E m.line.toNat).waits) ((entOf E m.line.toNat).told) ((entOf E m.line.toNat).q)) (.slice Q21 ((entOf E m.line.toNat).q.length) qc22)) rfl fun w43 hO44 hBq => ?_
 replace H := H.only hO44 (ne1P ap_FpR_b26)
 replace B4 := B4.only hO44 (by first | exact ne_b1_b26 | exact ne_b26_b1.symm | (show ¬ b1 = b26; omega))
 replace B9 := B9.only hO44 (by first | exact ne_b6_b26 | exact ne_b26_b6.symm | (show ¬ b6 = b26; omega))
 replace B14 := B14.only hO44 (by first | exact ne_b11_b26 | exact ne_b26_b11.symm | (show ¬ b11 = b26; omega))
 replace hQ24 := hQ24.only hO44 (Apart.ne1 ap_Q21_b26)
 replace hF := hF.loc hO44 (.inr g_b26)
 replace B29 := hBq
 clear hBq
 refine wpList_nil ?_
 refine ⟨⟨H, B4, B9, B14, hQ24, trivial⟩, ?_⟩
 refine fx_hdone (by kernel_rfl) ?_
 refine fx_tail ?_
 refine fx_val (v := .pointer (some ⟨b26, 7, none⟩)) fr rfl rfl (by decide) (x_fieldAddr fo42_4 rfl (fr.ev rfl) rfl) ?_
 clear fr a; intro a fr
 refine fx_store1 sz33 rfl rfl rfl (fr.ev rfl) (fr.ev rfl) rfl B29 (show 7 < 11 by decide) (cs' := entA (Ent.mk ((leaveF (entOf E m.line.toNat) m.src).o) ((entOf E m.line.toNat).sh) true m.src m.kind ((entOf E m.line.toNat).waits) ((entOf E m.line.toNat).told) ((entOf E m.line.toNat).q)) (.slice Q21 ((entOf E m.line.toNat).q.length) qc22)) rfl fun w45 hO46 hBq => ?_
 replace H := H.only hO46 (ne1P ap_FpR_b26)
 replace B4 := B4.only hO46 (by first | exact ne_b1_b26 | exact ne_b26_b1.symm | (show ¬ b1 = b26; omega))
 replace B9 := B9.only hO46 (by first | exact ne_b6_b26 | exact ne_b26_b6.symm | (show ¬ b6 = b26; omega))
 replace B14 := B14.only hO46 (by first | exact ne_b11_b26 | exact ne_b26_b11.symm | (show ¬ b11 = b26; omega))
 replace hQ24 := hQ24.only hO46 (Apart.ne1 ap_Q21_b26)
 replace hF := hF.loc hO46 (.inr g_b26)
 replace B29 := hBq
 clear hBq
 refine fx_val (v := .pointer (some ⟨b26, 8, none⟩)) fr rfl rfl (by decide) (x_fieldAddr fo42_5 rfl (fr.ev rfl) rfl) ?_
 clear fr a; intro a fr
 refine fx_store1 sz3 rfl rfl rfl (fr.ev rfl) rfl rfl B29 (show 8 < 11 by decide) (cs' := entA (Ent.mk ((leaveF (entOf E m.line.toNat) m.src).o) ((entOf E m.line.toNat).sh) true m.src m.kind 0 ((entOf E m.line.toNat).told) ((entOf E m.line.toNat).q)) (.slice Q21 ((entOf E m.line.toNat).q.length) qc22)) rfl fun w47 hO48 hBq => ?_
 replace H := H.only hO48 (ne1P ap_FpR_b26)
 replace B4 := B4.only hO48 (by first | exact ne_b1_b26 | exact ne_b26_b1.symm | (show ¬ b1 = b26; omega))
 replace B9 := B9.only hO48 (by first | exact ne_b6_b26 | exact ne_b26_b6.symm | (show ¬ b6 = b26; omega))
 replace B14 := B14.only hO48 (by first | exact ne_b11_b26 | exact ne_b26_b11.symm | (show ¬ b11 = b26; omega))
 replace hQ24 := hQ24.only hO48 (Apart.ne1 ap_Q21_b26)
 replace hF := hF.loc hO48 (.inr g_b26)
 replace B29 := hBq
 clear hBq
 refine fx_val (v := .pointer (some ⟨b26, 9, none⟩)) fr rfl rfl (by decide) (x_fieldAddr fo42_6 rfl (fr.ev rfl) rfl) ?_
 clear fr a; intro a fr
 refine fx_store1 sz4 rfl rfl rfl (fr.ev rfl) rfl rfl B29 (show 9 < 11 by decide) (cs' := entA (Ent.mk ((leaveF (entOf E m.line.toNat) m.src).o) ((entOf E m.line.toNat).sh) true m.src m.kind 0 false ((entOf E m.line.toNat).q)) (.slice Q21 ((entOf E m.line.toNat).q.length) qc22)) rfl fun w49 hO50 hBq => ?_
 replace H := H.only hO50 (ne1P ap_FpR_b26)
 replace B4 := B4.only hO50 (by first | exact ne_b1_b26 | exact ne_b26_b1.symm | (show ¬ b1 = b26; omega))
 replace B9 := B9.only hO50 (by first | exact ne_b6_b26 | exact ne_b26_b6.symm | (show ¬ b6 = b26; omega))
 replace B14 := B14.only hO50 (by first | exact ne_b11_b26 | exact ne_b26_b11.symm | (show ¬ b11 = b26; omega))
 replace hQ24 := hQ24.only hO50 (Apart.ne1 ap_Q21_b26)
 replace hF := hF.loc hO50 (.inr g_b26)
 replace B29 := hBq
 clear hBq
 refine wpList_nil ?_
 refine fx_next ?_
 refine wp_seq ?_
 refine wp_seq ?_
 refine wp_region_lit ?_
 refine fx_val (v := .pointer (some ⟨b26, 0, none⟩)) fr rfl rfl (by decide) (x_fieldAddr fo42_0 rfl (fr.ev rfl) rfl) ?_
 clear fr a; intro a fr
 refine fx_val (v := .int .i64 ((leaveF (entOf E m.line.toNat) m.src).o)) fr rfl rfl (by decide) (x_load1 pl3 rfl (fr.ev rfl) (B29.cell 0 rfl)) ?_
 clear fr a; intro a fr
 refine fx_val (v := .bool (decide (0 ≤ (leaveF (entOf E m.line.toNat) m.src).o))) fr rfl rfl (by decide) (x_geq rfl (fr.ev rfl) rfl rfl) ?_
 clear fr a; intro a fr
 refine wpList_nil ?_
 refine fx_next ?_
 refine fx_cond fr rfl (fun hc51 => ?_) (fun hc51 => ?_)
 ·skip
  have hc51 := of_decide_eq_true hc51
  refine wp_seq ?_
  refine wp_region_lit ?_
  refine fx_val (v := .pointer (some ⟨b26, 8, none⟩)) fr rfl rfl (by decide) (x_fieldAddr fo42_5 rfl (fr.ev rfl) rfl) ?_
  clear fr a; intro a fr
  refine fx_store1 sz3 rfl rfl rfl (fr.ev rfl) rfl rfl B29 (show 8 < 11 by decide) (cs' := entA (Ent.mk ((leaveF (entOf E m.line.toNat) m.src).o) ((entOf E m.line.toNat).sh) true m.src m.kind 1 false ((entOf E m.line.toNat).q)) (.slice Q21 ((entOf E m.line.toNat).q.length) qc22)) rfl fun w52 hO53 hBq => ?_
  replace H := H.only hO53 (ne1P ap_FpR_b26)
  replace B4 := B4.only hO53 (by first | exact ne_b1_b26 | exact ne_b26_b1.symm | (show ¬ b1 = b26; omega))
  replace B9 := B9.only hO53 (by first | exact ne_b6_b26 | exact ne_b26_b6.symm | (show ¬ b6 = b26; omega))
  replace B14 := B14.only hO53 (by first | exact ne_b11_b26 | exact ne_b26_b11.symm | (show ¬ b11 = b26; omega))
  replace hQ24 := hQ24.only hO53 (Apart.ne1 ap_Q21_b26)
  replace hF := hF.loc hO53 (.inr g_b26)
  replace B29 := hBq
  clear hBq
  refine wpList_nil ?_
  refine fx_next ?_
  refine wp_seq ?_
  refine fx_heldT (n := 13) (k := 13) (fun w => RefAt w FpR A cap B cb (HD.mk bs E) X ∧ Blk w b1 28 (#[.slice A bs.length cap, .slice B E.length cb]) ∧ Blk w b6 36 (msgE.arr m) ∧ View msgE w Q21 qc22 ((entOf E m.line.toNat).q) ∧ Blk w b26 42 (entA (Ent.mk ((leaveF (entOf E m.line.toNat) m.src).o) ((entOf E m.line.toNat).sh) true m.src m.kind 1 false ((entOf E m.line.toNat).q)) (.slice Q21 ((entOf E m.line.toNat).q.length) qc22)) ∧ True) (by kernel_rfl) (by kernel_rfl) rfl ?_
  intro w54 hN55
  replace H := H.new hN55
  replace B4 := B4.new hN55
  replace B9 := B9.new hN55
  replace B14 := B14.new hN55
  replace hQ24 := hQ24.new hN55
  replace B29 := B29.new hN55
  replace hF := hF.trNew hN55
  refine fx_take (i := 0) (v := .agg (#[.slice A bs.length cap, .slice B E.length cb])) fr rfl (by kernel_rfl) rfl rfl (by decide) (fun _ _ _ h => h) (fun _ ⟨H, B4, B9, hQ24, B29, _⟩ => x_loadS ag28 rfl (fr.ev rfl) rfl B4.range) ⟨H, B4, B9, hQ24, B29, trivial⟩ ?_
  clear fr a; intro a fr
  refine fx_take (i := 1) (v := .int .u32 m.line) fr rfl (by kernel_rfl) rfl rfl (by decide) (fun _ _ _ h => h) (fun _ ⟨H, B4, B9, hQ24, B29, _⟩ => x_move rfl (fr.ev rfl)) ⟨H, B4, B9, hQ24, B29, trivial⟩ ?_
  clear fr a; intro a fr
  refine fx_take (i := 2) (v := .agg (entA (Ent.mk ((leaveF (entOf E m.line.toNat) m.src).o) ((entOf E m.line.toNat).sh) true m.src m.kind 1 false ((entOf E m.line.toNat).q)) (.slice Q21 ((entOf E m.line.toNat).q.length) qc22))) fr rfl (by kernel_rfl) rfl rfl (by decide) (fun _ _ _ h => h) (fun _ ⟨H, B4, B9, hQ24, B29, _⟩ => x_loadS ag42 rfl (fr.ev rfl) rfl B29.range) ⟨H, B4, B9, hQ24, B29, trivial⟩ ?_
  clear fr a; intro a fr
  refine fx_take (i := 4) (v := .agg (#[.slice A bs.length cap, .slice B E.length cb])) fr rfl (by kernel_rfl) rfl rfl (by decide) (fun _ _ _ h => h) (fun _ ⟨H, B4, B9, hQ24, B29, _⟩ => x_loadS ag28 rfl (fr.ev rfl) rfl B4.range) ⟨H, B4, B9, hQ24, B29, trivial⟩ ?_
  clear fr a; intro a fr
  refine fx_take (i := 5) (v := .int .i64 m.kind) fr rfl (by kernel_rfl) rfl rfl (by decide) (fun _ _ _ h => h) (fun _ ⟨H, B4, B9, hQ24, B29, _⟩ => x_move rfl (fr.ev rfl)) ⟨H, B4, B9, hQ24, B29, trivial⟩ ?_
  clear fr a; intro a fr
  refine fx_take (i := 6) (v := .int .i64 (3 + m.kind)) fr rfl (by kernel_rfl) rfl rfl (by decide) (fun _ _ _ h => h) (fun _ ⟨H, B4, B9, hQ24, B29, _⟩ => x_add rfl rfl (fr.ev rfl) (i64w (r := 3 + m.kind) (by omega) (by omega))) ⟨H, B4, B9, hQ24, B29, trivial⟩ ?_
  clear fr a; intro a fr
  refine fx_take (i := 7) (v := .pointer (some ⟨b26, 0, none⟩)) fr rfl (by kernel_rfl) rfl rfl (by decide) (fun _ _ _ h => h) (fun _ ⟨H, B4, B9, hQ24, B29, _⟩ => x_fieldAddr fo42_0 rfl (fr.ev rfl) rfl) ⟨H, B4, B9, hQ24, B29, trivial⟩ ?_
  clear fr a; intro a fr
  refine fx_take (i := 8) (v := .int .i64 ((leaveF (entOf E m.line.toNat) m.src).o)) fr rfl (by kernel_rfl) rfl rfl (by decide) (fun _ _ _ h => h) (fun _ ⟨H, B4, B9, hQ24, B29, _⟩ => x_load1 pl3 rfl (fr.ev rfl) (B29.cell 0 rfl)) ⟨H, B4, B9, hQ24, B29, trivial⟩ ?_
  clear fr a; intro a fr
  refine fx_take (i := 9) (v := .int .u32 m.line) fr rfl (by kernel_rfl) rfl rfl (by decide) (fun _ _ _ h => h) (fun _ ⟨H, B4, B9, hQ24, B29, _⟩ => x_move rfl (fr.ev rfl)) ⟨H, B4, B9, hQ24, B29, trivial⟩ ?_
  clear fr a; intro a fr
  refine fx_one (i := 3) (by kernel_rfl) (fx_op rfl ?_)
  refine fx_call fr rfl rfl (by decide) (x_call (vs := [.agg (#[.slice A bs.length cap, .slice B E.length cb]), .int .u32 m.line, .agg (entA (Ent.mk ((leaveF (entOf E m.line.toNat) m.src).o) ((entOf E m.line.toNat).sh) true m.src m.kind 1 false ((entOf E m.line.toNat).q)) (.slice Q21 ((entOf E m.line.toNat).q.length) qc22))]) rfl rfl ⟨(fr.ev rfl), (fr.ev rfl), (fr.ev rfl), trivial⟩ Try.func40 nm40 rfl) (rwith_r m.line m.hn (Ent.mk ((leaveF (entOf E m.line.toNat) m.src).o) ((entOf E m.line.toNat).sh) true m.src m.kind 1 false ((entOf E m.line.toNat).q)) Q21 qc22 H (by omega) (by omega) hQ24) ?_
  clear fr a
  rintro v w61 ⟨B56, cb57, FpR58, rfl, H59, mv60, hN62⟩ a fr
  have ap_FpR58_b1 : ¬ FpR58 b1 := moved_apartP mv60 (fun h => h.elim ap_FpR_b1 ap_Q21_b1) B4.lt
  have ap_FpR58_b6 : ¬ FpR58 b6 := moved_apartP mv60 (fun h => h.elim ap_FpR_b6 ap_Q21_b6) B9.lt
  have ap_FpR58_b11 : ¬ FpR58 b11 := moved_apartP mv60 (fun h => h.elim ap_FpR_b11 ap_Q21_b11) B14.lt
  have ap_FpR58_b26 : ¬ FpR58 b26 := moved_apartP mv60 (fun h => h.elim ap_FpR_b26 ap_Q21_b26) B29.lt
  have mF_FpR58 : ∀ g, FpR58 g → FpR g ∨ w.heap.size ≤ g := fun g hg => (mv60 g hg).elim (fun h => h.elim (mF_FpR g) (mQ_Q21 g)) (fun h => .inr (Nat.le_trans hF.size h))
  replace H := H.new hN62
  replace B4 := B4.new hN62
  replace B9 := B9.new hN62
  replace B14 := B14.new hN62
  replace hQ24 := hQ24.new hN62
  replace B29 := B29.new hN62
  replace hF := hF.trNew hN62
  have hel63 : (E.set m.line.toNat (Ent.mk ((leaveF (entOf E m.line.toNat) m.src).o) ((entOf E m.line.toNat).sh) true m.src m.kind 1 false ((entOf E m.line.toNat).q))).length = E.length := List.length_set
  have hxl64 := H59.len
  simp only [List.length_set] at hxl64
  refine wpList_nil ?_
  refine ⟨⟨H, B4, B9, hQ24, B29, trivial⟩, ?_⟩
  refine fx_one (i := 10) (by kernel_rfl) (fx_op rfl ?_)
  refine fx_call fr rfl rfl (by decide) (x_call (vs := [.agg (#[.slice A bs.length cap, .slice B E.length cb]), .int .i64 (3 + m.kind), .int .i64 ((leaveF (entOf E m.line.toNat) m.src).o), .int .u32 m.line]) rfl rfl ⟨(fr.ev rfl), (fr.ev rfl), (fr.ev rfl), (fr.ev rfl), trivial⟩ Try.func45 nm45 rfl) (rsend_n m.line m.hn (3 + m.kind) ((leaveF (entOf E m.line.toNat) m.src).o) (bs := bs) H.vb (by omega) (by omega) (by omega)) ?_
  clear fr a
  rintro v w65 ⟨rfl, hN66⟩ a fr
  replace H := H.new hN66
  replace B4 := B4.new hN66
  replace B9 := B9.new hN66
  replace B14 := B14.new hN66
  replace hQ24 := hQ24.new hN66
  replace B29 := B29.new hN66
  replace H59 := H59.new hN66
  replace hF := hF.trNew hN66
  refine wpList_nil ?_
  refine ⟨⟨H, B4, B9, hQ24, B29, trivial⟩, ?_⟩
  refine fx_two (i := 11) (j := 12) (by kernel_rfl) (fx_op rfl ?_) (fx_op rfl ?_)
  ·skip
   refine fx_build1 (E := msgE) (p := (mkM (3 + m.kind) 4 ((leaveF (entOf E m.line.toNat) m.src).o) m.line b16z m.hn)) elMsg (by decide) fr rfl rfl (by decide) rfl (fr.ev rfl) ?_
   clear fr a
   intro A67 w68 hN69 O70 hA71 a fr
   have ap2_FpR_A67 : ∀ k, FpR k → inA A67 k → False := symP (new_apart2P hA71 fun _ hg => H.lt hg)
   have ap_A67_b1 : Apart A67 b1 := new_apart hA71 B4.lt
   have ap_A67_b6 : Apart A67 b6 := new_apart hA71 B9.lt
   have ap_A67_b11 : Apart A67 b11 := new_apart hA71 B14.lt
   have ap2_Q21_A67 : Apart2 Q21 A67 := (new_apart2 hA71 fun _ hg => hQ24.lt hg).symm
   have ap_A67_b26 : Apart A67 b26 := new_apart hA71 B29.lt
   have ap2_FpR58_A67 : ∀ k, FpR58 k → inA A67 k → False := symP (new_apart2P hA71 fun _ hg => H59.lt hg)
   have gA_A67 := gA_new hF hA71
   have gN_A67 := fun g (hg : inA A67 g) => Nat.le_trans hF.size (hA71 g hg)
   replace H := H.new hN69
   replace B4 := B4.new hN69
   replace B9 := B9.new hN69
   replace B14 := B14.new hN69
   replace hQ24 := hQ24.new hN69
   replace B29 := B29.new hN69
   replace H59 := H59.new hN69
   replace hF := hF.trNew hN69
   refine wpList_nil ?_
   refine ⟨⟨H, B4, B9, hQ24, B29, trivial⟩, ?_⟩
   refine fx_one (i := 12) (by kernel_rfl) (fx_op rfl ?_)
   refine fx_storeS sz28 rfl rfl rfl (fr.ev rfl) (fr.ev rfl) (by simp [Value.oneCell']) B14 rfl rfl fun w72 hO73 hBq => ?_
   replace H := H.only hO73 (ne1P ap_FpR_b11)
   replace B4 := B4.only hO73 (by first | exact ne_b1_b11 | exact ne_b11_b1.symm | (show ¬ b1 = b11; omega))
   replace B9 := B9.only hO73 (by first | exact ne_b6_b11 | exact ne_b11_b6.symm | (show ¬ b6 = b11; omega))
   replace hQ24 := hQ24.only hO73 (Apart.ne1 ap_Q21_b11)
   replace B29 := B29.only hO73 (by first | exact ne_b26_b11 | exact ne_b11_b26.symm | (show ¬ b26 = b11; omega))
   replace H59 := H59.only hO73 (ne1P ap_FpR58_b11)
   replace O70 := O70.only hO73 (Apart.ne1 ap_A67_b11)
   replace hF := hF.loc hO73 (.inr g_b11)
   replace B14 := hBq
   clear hBq
   refine wpList_nil ?_
   refine ⟨⟨H, B4, B9, hQ24, B29, trivial⟩, ?_⟩
   refine fx_hdone (by kernel_rfl) ?_
   refine fx_tail ?_
   refine fx_val (v := .slice A67 1 1) fr rfl rfl (by decide) (x_assign rfl (fr.ev rfl)) ?_
   clear fr a; intro a fr
   refine wpList_nil ?_
   refine fx_next ?_
   refine wp_ret ?_
   refine fx_rt ?_
   refine fx_ret fr [.cell 4 28, .tmp 5] [.agg (#[.slice A bs.length cap, .slice B56 ((E.set m.line.toNat (Ent.mk ((leaveF (entOf E m.line.toNat) m.src).o) ((entOf E m.line.toNat).sh) true m.src m.kind 1 false ((entOf E m.line.toNat).q))).length) cb57]), .slice A67 1 1] rfl ⟨⟨_, rfl, x_loadV ag28 rfl B14.range⟩, rfl, trivial⟩ rfl ?_
   rw [begin_o hk12 hc51]
   exact ⟨_, rfl, A, cap, B56, cb57, FpR58, A67, 1, rfl, ⟨_, H59⟩, O70, mF_FpR58, gN_A67, ap2_FpR58_A67, hF⟩
  ·skip
   refine fx_storeS sz28 rfl rfl rfl (fr.ev rfl) (fr.ev rfl) (by simp [Value.oneCell']) B14 rfl rfl fun w74 hO75 hBq => ?_
   replace H := H.only hO75 (ne1P ap_FpR_b11)
   replace B4 := B4.only hO75 (by first | exact ne_b1_b11 | exact ne_b11_b1.symm | (show ¬ b1 = b11; omega))
   replace B9 := B9.only hO75 (by first | exact ne_b6_b11 | exact ne_b11_b6.symm | (show ¬ b6 = b11; omega))
   replace hQ24 := hQ24.only hO75 (Apart.ne1 ap_Q21_b11)
   replace B29 := B29.only hO75 (by first | exact ne_b26_b11 | exact ne_b11_b26.symm | (show ¬ b26 = b11; omega))
   replace H59 := H59.only hO75 (ne1P ap_FpR58_b11)
   replace hF := hF.loc hO75 (.inr g_b11)
   replace B14 := hBq
   clear hBq
   refine wpList_nil ?_
   refine ⟨⟨H, B4, B9, hQ24, B29, trivial⟩, ?_⟩
   refine fx_one (i := 11) (by kernel_rfl) (fx_op rfl ?_)
   refine fx_build1 (E := msgE) (p := (mkM (3 + m.kind) 4 ((leaveF (entOf E m.line.toNat) m.src).o) m.line b16z m.hn)) elMsg (by decide) fr rfl rfl (by decide) rfl (fr.ev rfl) ?_
   clear fr a
   intro A76 w77 hN78 O79 hA80 a fr
   have ap2_FpR_A76 : ∀ k, FpR k → inA A76 k → False := symP (new_apart2P hA80 fun _ hg => H.lt hg)
   have ap_A76_b1 : Apart A76 b1 := new_apart hA80 B4.lt
   have ap_A76_b6 : Apart A76 b6 := new_apart hA80 B9.lt
   have ap2_Q21_A76 : Apart2 Q21 A76 := (new_apart2 hA80 fun _ hg => hQ24.lt hg).symm
   have ap_A76_b26 : Apart A76 b26 := new_apart hA80 B29.lt
   have ap2_FpR58_A76 : ∀ k, FpR58 k → inA A76 k → False := symP (new_apart2P hA80 fun _ hg => H59.lt hg)
   have ap_A76_b11 : Apart A76 b11 := new_apart hA80 B14.lt
   have gA_A76 := gA_new hF hA80
   have gN_A76 := fun g (hg : inA A76 g) => Nat.le_trans hF.size (hA80 g hg)
   replace H := H.new hN78
   replace B4 := B4.new hN78
   replace B9 := B9.new hN78
   replace hQ24 := hQ24.new hN78
   replace B29 := B29.new hN78
   replace H59 := H59.new hN78
   replace B14 := B14.new hN78
   replace hF := hF.trNew hN78
   refine wpList_nil ?_
   refine ⟨⟨H, B4, B9, hQ24, B29, trivial⟩, ?_⟩
   refine fx_hdone (by kernel_rfl) ?_
   refine fx_tail ?_
   refine fx_val (v := .slice A76 1 1) fr rfl rfl (by decide) (x_assign rfl (fr.ev rfl)) ?_
   clear fr a; intro a fr
   refine wpList_nil ?_
   refine fx_next ?_
   refine wp_ret ?_
   refine fx_rt ?_
   refine fx_ret fr [.cell 4 28, .tmp 5] [.agg (#[.slice A bs.length cap, .slice B56 ((E.set m.line.toNat (Ent.mk ((leaveF (entOf E m.line.toNat) m.src).o) ((entOf E m.line.toNat).sh) true m.src m.kind 1 false ((entOf E m.line.toNat).q))).length) cb57]), .slice A76 1 1] rfl ⟨⟨_, rfl, x_loadV ag28 rfl B14.range⟩, rfl, trivial⟩ rfl ?_
   rw [begin_o hk12 hc51]
   exact ⟨_, rfl, A, cap, B56, cb57, FpR58, A76, 1, rfl, ⟨_, H59⟩, O79, mF_FpR58, gN_A76, ap2_FpR58_A76, hF⟩
 ·skip
  have hc51 := of_decide_eq_false hc51
  refine wp_skip ?_
  refine fx_next ?_
  refine wp_seq ?_
  refine wp_region_lit ?_
  refine fx_val (v := .slice none 0 0) fr rfl rfl (by decide) (x_assign rfl rfl) ?_
  clear fr a; intro a fr
  refine wpList_nil ?_
  refine fx_next ?_
  refine wp_seq ?_
  refine wp_seq ?_
  refine wp_region_lit ?_
  refine fx_val (v := .int .i64 0) fr rfl rfl (by decide) (x_assign rfl rfl) ?_
  clear fr a; intro a fr
  refine wpList_nil ?_
  refine fx_next ?_
  refine wp_block ?_
  refine fx_loop (fun nM a wL => ∃ i9 : Nat, ∃ M9 : Option Addr, ∃ mc9 : Nat, nM = 4 - i9 ∧ Fr (151, []) [(2, .pointer (some ⟨b1, 0, none⟩)), (3, .pointer (some ⟨b6, 0, none⟩)), (4, .pointer (some ⟨b11, 0, none⟩)), (6, .int .u32 m.line), (7, .int .i64 m.src), (8, .pointer (some ⟨b26, 0, none⟩)), (9, .int .i64 m.kind), (10, .slice M9 (((othK (entOf E m.line.toNat).sh m.src i9).map (sendM m 6)).length) mc9), (11, .int .i64 ((i9 : Nat) : Int))] a ∧ Only (fun _ => False) w wL ∧ RefAt wL FpR A cap B cb (HD.mk bs E) X ∧ Blk wL b1 28 (#[.slice A bs.length cap, .slice B E.length cb]) ∧ Blk wL b6 36 (msgE.arr m) ∧ Blk wL b11 28 (#[.slice none 0 0, .slice none 0 0]) ∧ View msgE wL Q21 qc22 ((entOf E m.line.toNat).q) ∧ Blk wL b26 42 (entA (Ent.mk ((leaveF (entOf E m.line.toNat) m.src).o) ((entOf E m.line.toNat).sh) true m.src m.kind 0 false ((entOf E m.line.toNat).q)) (.slice Q21 ((entOf E m.line.toNat).q.length) qc22)) ∧ Own msgE wL M9 mc9 ((othK (entOf E m.line.toNat).sh m.src i9).map (sendM m 6)) ∧ i9 ≤ 4 ∧ (∀ k, FpR k → inA M9 k → False) ∧ (Apart M9 b1) ∧ (Apart M9 b6) ∧ (Apart M9 b11) ∧ (Apart2 Q21 M9) ∧ (Apart M9 b26) ∧ (∀ g, inA M9 g → (fun _ => False) g ∨ w.heap.size ≤ g)) (n0 := _) ⟨0, none, 0, rfl, fr.sub ⟨rfl, rfl, rfl, rfl, rfl, rfl, rfl, rfl, rfl, trivial⟩, hF, H, B4, B9, B14, hQ24, B29, Own.nil, by omega, (fun k _ h => apart_none k h), (apart_none b1), (apart_none b6), (apart_none b11), (fun k _ h => apart_none k h), (apart_none b26), gA_none⟩ ?_
  rintro n82 a w81 ⟨i9, M9, mc9, rfl, fr, hF, H, B4, B9, B14, hQ24, B29, OL, hp83, ap2_FpR_M9, ap_M9_b1, ap_M9_b6, ap_M9_b11, ap2_Q21_M9, ap_M9_b26, gA_M9⟩
  have hkl := othK_len (entOf E m.line.toNat).sh m.src i9
  have hml : ((othK (entOf E m.line.toNat).sh m.src i9).map (sendM m 6)).length ≤ i9 := by rw [List.length_map]; exact hkl
  refine wp_seq ?_
  refine wp_seq ?_
  refine wp_region_lit ?_
  refine fx_val (v := .int .i64 ((i9 : Nat) : Int)) fr rfl rfl (by decide) (x_move rfl (fr.ev rfl)) ?_
  clear fr a; intro a fr
  refine fx_val (v := .bool (decide (((i9 : Nat) : Int) < 4))) fr rfl rfl (by decide) (x_lss rfl (fr.ev rfl) rfl rfl) ?_
  clear fr a; intro a fr
  refine wpList_nil ?_
  refine fx_next ?_
  refine fx_cond fr rfl (fun hc84 => ?_) (fun hc84 => ?_)
  ·skip
   have hc84 := of_decide_eq_true hc84
   refine wp_skip ?_
   refine fx_next ?_
   refine wp_seq ?_
   refine wp_block ?_
   refine wp_seq ?_
   refine wp_region_lit ?_
   refine fx_val (v := .int .i64 ((i9 : Nat) : Int)) fr rfl rfl (by decide) (x_move rfl (fr.ev rfl)) ?_
   clear fr a; intro a fr
   refine fx_val (v := .pointer (some ⟨b26, 1, none⟩)) fr rfl rfl (by decide) (x_fieldAddr fo42_1 rfl (fr.ev rfl) rfl) ?_
   clear fr a; intro a fr
   refine fx_val (v := .pointer (some ⟨b26, 1 + ((i9 : Nat) : Int).toNat, none⟩)) fr rfl rfl (by decide) (x_indexArr Try.underlying40 sz4 rfl (fr.ev rfl) ((fr.ev rfl).trans (int_nat _ ((i9 : Nat) : Int) (by omega))) (by omega) (by omega)) ?_
   clear fr a; intro a fr
   refine fx_val (v := .bool (((entOf E m.line.toNat).sh).get ((i9 : Nat) : Int))) fr rfl rfl (by decide) (x_load1 pl4 rfl (fr.ev rfl) (B29.cell _ (ent_sh _ _ ((i9 : Nat) : Int) (by omega) (by omega)))) ?_
   clear fr a; intro a fr
   refine fx_val (v := .bool (((entOf E m.line.toNat).sh).get ((i9 : Nat) : Int))) fr rfl rfl (by decide) (x_move rfl (fr.ev rfl)) ?_
   clear fr a; intro a fr
   refine fx_may (g := (((entOf E m.line.toNat).sh).get ((i9 : Nat) : Int))) (v := .int .i64 ((i9 : Nat) : Int)) fr rfl rfl rfl (by simp) rfl (by decide) (fun hg => x_move rfl (fr.ev rfl)) ?_
   clear fr a; intro a fr
   refine fx_may (g := (((entOf E m.line.toNat).sh).get ((i9 : Nat) : Int))) (v := .int .i64 m.src) fr rfl rfl rfl (by simp) rfl (by decide) (fun hg => x_move rfl (fr.ev rfl)) ?_
   clear fr a; intro a fr
   refine fx_may (g := (((entOf E m.line.toNat).sh).get ((i9 : Nat) : Int))) (v := .bool (decide (((i9 : Nat) : Int) ≠ m.src))) fr rfl rfl rfl (by simp) rfl (by decide) (fun hg => x_neq rfl ((fr.ev rfl).trans (onlyIf_t hg)) ((fr.ev rfl).trans (onlyIf_t hg)) rfl) ?_
   clear fr a; intro a fr
   refine fx_val (v := .bool ((((entOf E m.line.toNat).sh).get ((i9 : Nat) : Int)) && (decide (((i9 : Nat) : Int) ≠ m.src)))) fr rfl rfl (by decide) (x_pick_and rfl (fr.ev rfl) (fun hb => ((fr.ev rfl)).trans (onlyIf_t (by simp_all))) (fun _ => rfl) rfl) ?_
   clear fr a; intro a fr
   refine wpList_nil ?_
   refine fx_next ?_
   refine fx_cond fr rfl (fun hc85 => ?_) (fun hc85 => ?_)
   ·skip
    have hc85s := hc85
    try simp at hc85s
    refine wp_region_lit ?_
    refine fx_val (v := .slice M9 (((othK (entOf E m.line.toNat).sh m.src i9).map (sendM m 6)).length) mc9) fr rfl rfl (by decide) (x_move rfl (fr.ev rfl)) ?_
    clear fr a; intro a fr
    refine fx_val (v := .agg (#[.slice A bs.length cap, .slice B E.length cb])) fr rfl rfl (by decide) (x_loadS ag28 rfl (fr.ev rfl) rfl B4.range) ?_
    clear fr a; intro a fr
    refine fx_val (v := .int .i64 ((i9 : Nat) : Int)) fr rfl rfl (by decide) (x_move rfl (fr.ev rfl)) ?_
    clear fr a; intro a fr
    refine fx_val (v := .int .u32 m.line) fr rfl rfl (by decide) (x_move rfl (fr.ev rfl)) ?_
    clear fr a; intro a fr
    refine fx_call fr rfl rfl (by decide) (x_call (vs := [.agg (#[.slice A bs.length cap, .slice B E.length cb]), .int .i64 6, .int .i64 ((i9 : Nat) : Int), .int .u32 m.line]) rfl rfl ⟨(fr.ev rfl), rfl, (fr.ev rfl), (fr.ev rfl), trivial⟩ Try.func45 nm45 rfl) (rsend_n m.line m.hn 6 ((i9 : Nat) : Int) (bs := bs) H.vb (by omega) (by omega) (by omega)) ?_
    clear fr a
    rintro v w86 ⟨rfl, hN87⟩ a fr
    replace H := H.new hN87
    replace B4 := B4.new hN87
    replace B9 := B9.new hN87
    replace B14 := B14.new hN87
    replace hQ24 := hQ24.new hN87
    replace B29 := B29.new hN87
    replace OL := OL.new hN87
    replace hF := hF.trNew hN87
    refine fx_build1 (E := msgE) (p := (mkM 6 4 ((i9 : Nat) : Int) m.line b16z m.hn)) elMsg (by decide) fr rfl rfl (by decide) rfl (fr.ev rfl) ?_
    clear fr a
    intro A88 w89 hN90 O91 hA92 a fr
    have ap2_FpR_A88 : ∀ k, FpR k → inA A88 k → False := symP (new_apart2P hA92 fun _ hg => H.lt hg)
    have ap_A88_b1 : Apart A88 b1 := new_apart hA92 B4.lt
    have ap_A88_b6 : Apart A88 b6 := new_apart hA92 B9.lt
    have ap_A88_b11 : Apart A88 b11 := new_apart hA92 B14.lt
    have ap2_Q21_A88 : Apart2 Q21 A88 := (new_apart2 hA92 fun _ hg => hQ24.lt hg).symm
    have ap_A88_b26 : Apart A88 b26 := new_apart hA92 B29.lt
    have ap2_M9_A88 : Apart2 M9 A88 := (new_apart2 hA92 fun _ hg => OL.lt hg).symm
    have gA_A88 := gA_new hF hA92
    have gN_A88 := fun g (hg : inA A88 g) => Nat.le_trans hF.size (hA92 g hg)
    replace H := H.new hN90
    replace B4 := B4.new hN90
    replace B9 := B9.new hN90
    replace B14 := B14.new hN90
    replace hQ24 := hQ24.new hN90
    replace B29 := B29.new hN90
    replace OL := OL.new hN90
    replace hF := hF.trNew hN90
    refine fx_append (E := msgE) (l := (othK (entOf E m.line.toNat).sh m.src i9).map (sendM m 6)) (l' := [(mkM 6 4 ((i9 : Nat) : Int) m.line b16z m.hn)]) elMsg fr rfl rfl (by decide) rfl (fr.ev rfl) (fr.ev rfl) (by first | rfl | (simp; done) | (simp; omega)) (by first | rfl | (simp; done) | (simp; omega)) OL O91.view (by first | omega | (simp only [List.length_append, List.length_cons, List.length_nil, List.length_drop, List.length_map]; omega) | (simp; omega)) (by first | (unfold maxLen; done) | (unfold maxLen; first | omega | (simp only [List.length_append, List.length_cons, List.length_nil]; omega) | (simp; done) | (simp; omega))) ?_
    clear fr a
    intro A93 cap94 w95 O96 hO97 mv98 a fr
    have ap2_A93_FpR : ∀ k, inA A93 k → FpR k → False := moved_apart2P mv98 (symP ap2_FpR_M9) fun _ hg => H.lt hg
    have ap_A93_b1 : Apart A93 b1 := moved_apart mv98 ap_M9_b1 B4.lt
    have ap_A93_b6 : Apart A93 b6 := moved_apart mv98 ap_M9_b6 B9.lt
    have ap_A93_b11 : Apart A93 b11 := moved_apart mv98 ap_M9_b11 B14.lt
    have ap2_A93_Q21 : Apart2 A93 Q21 := moved_apart2 mv98 ap2_Q21_M9.symm fun _ hg => hQ24.lt hg
    have ap_A93_b26 : Apart A93 b26 := moved_apart mv98 ap_M9_b26 B29.lt
    have ap2_A93_A88 : Apart2 A93 A88 := moved_apart2 mv98 ap2_M9_A88 fun _ hg => O91.lt hg
    have gA_A93 := gA_moved hF mv98 gA_M9
    replace H := H.only hO97 (fun g h1 h2 => ap2_FpR_M9 g h1 h2)
    replace B4 := B4.only hO97 ap_M9_b1
    replace B9 := B9.only hO97 ap_M9_b6
    replace B14 := B14.only hO97 ap_M9_b11
    replace hQ24 := hQ24.only hO97 (fun g h1 h2 => ap2_Q21_M9 g h1 h2)
    replace B29 := B29.only hO97 ap_M9_b26
    replace O91 := O91.only hO97 (fun g h1 h2 => ap2_M9_A88.symm g h1 h2)
    replace hF := hF.locA hO97 gA_M9
    clear OL
    refine fx_val (v := .slice A93 ((((othK (entOf E m.line.toNat).sh m.src i9).map (sendM m 6)) ++ ([(mkM 6 4 ((i9 : Nat) : Int) m.line b16z m.hn)])).length) cap94) fr rfl rfl (by decide) (x_assign rfl (fr.ev rfl)) ?_
    clear fr a; intro a fr
    refine wpList_nil ?_
    refine fx_blk ?_
    refine fx_next ?_
    refine wp_region_lit ?_
    refine fx_val (v := .int .i64 ((i9 : Nat) : Int)) fr rfl rfl (by decide) (x_move rfl (fr.ev rfl)) ?_
    clear fr a; intro a fr
    refine fx_val (v := .int .i64 ((i9 + 1 : Nat) : Int)) fr rfl rfl (by decide) (x_add rfl (fr.ev rfl) rfl (i64w (r := ((i9 + 1 : Nat) : Int)) (by omega) (by omega))) ?_
    clear fr a; intro a fr
    refine fx_val (v := .int .i64 ((i9 + 1 : Nat) : Int)) fr rfl rfl (by decide) (x_assign rfl (fr.ev rfl)) ?_
    clear fr a; intro a fr
    refine wpList_nil ?_
    refine fx_next ?_
    have hek : (othK (entOf E m.line.toNat).sh m.src (i9 + 1)).map (sendM m 6) = ((othK (entOf E m.line.toNat).sh m.src i9).map (sendM m 6)) ++ ([(mkM 6 4 ((i9 : Nat) : Int) m.line b16z m.hn)]) := by rw [othK_t hc85, List.map_append]; rfl
    rw [← hek] at fr O96
    exact ⟨_, by omega, (i9 + 1), A93, cap94, rfl, fr.sub ⟨rfl, rfl, rfl, rfl, rfl, rfl, rfl, rfl, rfl, trivial⟩, hF, H, B4, B9, B14, hQ24, B29, O96, by omega, (symP ap2_A93_FpR), ap_A93_b1, ap_A93_b6, ap_A93_b11, ap2_A93_Q21.symm, ap_A93_b26, gA_A93⟩
   ·skip
    have hc85s := hc85
    try simp at hc85s
    refine wp_skip ?_
    refine fx_blk ?_
    refine fx_next ?_
    refine wp_region_lit ?_
    refine fx_val (v := .int .i64 ((i9 : Nat) : Int)) fr rfl rfl (by decide) (x_move rfl (fr.ev rfl)) ?_
    clear fr a; intro a fr
    refine fx_val (v := .int .i64 ((i9 + 1 : Nat) : Int)) fr rfl rfl (by decide) (x_add rfl (fr.ev rfl) rfl (i64w (r := ((i9 + 1 : Nat) : Int)) (by omega) (by omega))) ?_
    clear fr a; intro a fr
    refine fx_val (v := .int .i64 ((i9 + 1 : Nat) : Int)) fr rfl rfl (by decide) (x_assign rfl (fr.ev rfl)) ?_
    clear fr a; intro a fr
    refine wpList_nil ?_
    refine fx_next ?_
    have hek : (othK (entOf E m.line.toNat).sh m.src (i9 + 1)).map (sendM m 6) = (othK (entOf E m.line.toNat).sh m.src i9).map (sendM m 6) := by rw [othK_f hc85]
    rw [← hek] at fr OL
    exact ⟨_, by omega, (i9 + 1), M9, mc9, rfl, fr.sub ⟨rfl, rfl, rfl, rfl, rfl, rfl, rfl, rfl, rfl, trivial⟩, hF, H, B4, B9, B14, hQ24, B29, OL, by omega, ap2_FpR_M9, ap_M9_b1, ap_M9_b6, ap_M9_b11, ap2_Q21_M9, ap_M9_b26, gA_M9⟩
  ·skip
   have hc84 := of_decide_eq_false hc84
   refine wp_exit ?_
   refine fx_xt ?_
   refine fx_xt ?_
   refine fx_xx ?_
   refine fx_next ?_
   refine wp_seq ?_
   refine wp_seq ?_
   obtain rfl : i9 = 4 := by omega
   have hlm : ((othK (entOf E m.line.toNat).sh m.src 4).map (sendM m 6)).length = (othersF (leaveF (entOf E m.line.toNat) m.src).sh m.src).length := List.length_map ..
   rw [hlm] at fr
   refine wp_region_lit ?_
   refine fx_val (v := .int .i64 m.kind) fr rfl rfl (by decide) (x_move rfl (fr.ev rfl)) ?_
   clear fr a; intro a fr
   refine fx_val (v := .bool (decide (m.kind = 2))) fr rfl rfl (by decide) (x_eql rfl (fr.ev rfl) rfl rfl) ?_
   clear fr a; intro a fr
   refine fx_val (v := .bool (decide (m.kind = 2))) fr rfl rfl (by decide) (x_move rfl (fr.ev rfl)) ?_
   clear fr a; intro a fr
   refine fx_may (g := (decide (m.kind = 2))) (v := .slice M9 ((othersF (leaveF (entOf E m.line.toNat) m.src).sh m.src).length) mc9) fr rfl rfl rfl (by simp) rfl (by decide) (fun hg => x_move rfl (fr.ev rfl)) ?_
   clear fr a; intro a fr
   refine fx_may (g := (decide (m.kind = 2))) (v := .int .i64 (((othersF (leaveF (entOf E m.line.toNat) m.src).sh m.src).length : Nat) : Int)) fr rfl rfl rfl (by simp) rfl (by decide) (fun hg => x_len Try.underlying23 rfl ((fr.ev rfl).trans (onlyIf_t hg))) ?_
   clear fr a; intro a fr
   refine fx_may (g := (decide (m.kind = 2))) (v := .bool (decide (0 < (((othersF (leaveF (entOf E m.line.toNat) m.src).sh m.src).length : Nat) : Int)))) fr rfl rfl rfl (by simp) rfl (by decide) (fun hg => x_gtr rfl ((fr.ev rfl).trans (onlyIf_t hg)) rfl rfl) ?_
   clear fr a; intro a fr
   refine fx_val (v := .bool ((decide (m.kind = 2)) && (decide (0 < (((othersF (leaveF (entOf E m.line.toNat) m.src).sh m.src).length : Nat) : Int))))) fr rfl rfl (by decide) (x_pick_and rfl (fr.ev rfl) (fun hb => ((fr.ev rfl)).trans (onlyIf_t (by simp_all))) (fun _ => rfl) rfl) ?_
   clear fr a; intro a fr
   refine wpList_nil ?_
   refine fx_next ?_
   refine fx_cond fr rfl (fun hc99 => ?_) (fun hc99 => ?_)
   ·skip
    have hc99s := hc99
    try simp at hc99s
    refine wp_seq ?_
    refine wp_region_lit ?_
    refine fx_val (v := .slice M9 ((othersF (leaveF (entOf E m.line.toNat) m.src).sh m.src).length) mc9) fr rfl rfl (by decide) (x_move rfl (fr.ev rfl)) ?_
    clear fr a; intro a fr
    refine fx_val (v := .int .i64 (((othersF (leaveF (entOf E m.line.toNat) m.src).sh m.src).length : Nat) : Int)) fr rfl rfl (by decide) (x_len Try.underlying23 rfl (fr.ev rfl)) ?_
    clear fr a; intro a fr
    refine fx_val (v := .pointer (some ⟨b26, 8, none⟩)) fr rfl rfl (by decide) (x_fieldAddr fo42_5 rfl (fr.ev rfl) rfl) ?_
    clear fr a; intro a fr
    refine fx_store1 sz3 rfl rfl rfl (fr.ev rfl) (fr.ev rfl) rfl B29 (show 8 < 11 by decide) (cs' := entA (Ent.mk ((leaveF (entOf E m.line.toNat) m.src).o) ((entOf E m.line.toNat).sh) true m.src m.kind (((othersF (leaveF (entOf E m.line.toNat) m.src).sh m.src).length : Nat) : Int) false ((entOf E m.line.toNat).q)) (.slice Q21 ((entOf E m.line.toNat).q.length) qc22)) rfl fun w100 hO101 hBq => ?_
    replace H := H.only hO101 (ne1P ap_FpR_b26)
    replace B4 := B4.only hO101 (by first | exact ne_b1_b26 | exact ne_b26_b1.symm | (show ¬ b1 = b26; omega))
    replace B9 := B9.only hO101 (by first | exact ne_b6_b26 | exact ne_b26_b6.symm | (show ¬ b6 = b26; omega))
    replace B14 := B14.only hO101 (by first | exact ne_b11_b26 | exact ne_b26_b11.symm | (show ¬ b11 = b26; omega))
    replace hQ24 := hQ24.only hO101 (Apart.ne1 ap_Q21_b26)
    replace OL := OL.only hO101 (Apart.ne1 ap_M9_b26)
    replace hF := hF.loc hO101 (.inr g_b26)
    replace B29 := hBq
    clear hBq
    refine wpList_nil ?_
    refine fx_next ?_
    refine wp_seq ?_
    refine wp_region_lit ?_
    refine fx_val (v := .agg (#[.slice A bs.length cap, .slice B E.length cb])) fr rfl rfl (by decide) (x_loadS ag28 rfl (fr.ev rfl) rfl B4.range) ?_
    clear fr a; intro a fr
    refine fx_val (v := .int .u32 m.line) fr rfl rfl (by decide) (x_move rfl (fr.ev rfl)) ?_
    clear fr a; intro a fr
    refine fx_val (v := .agg (entA (Ent.mk ((leaveF (entOf E m.line.toNat) m.src).o) ((entOf E m.line.toNat).sh) true m.src m.kind (((othersF (leaveF (entOf E m.line.toNat) m.src).sh m.src).length : Nat) : Int) false ((entOf E m.line.toNat).q)) (.slice Q21 ((entOf E m.line.toNat).q.length) qc22))) fr rfl rfl (by decide) (x_loadS ag42 rfl (fr.ev rfl) rfl B29.range) ?_
    clear fr a; intro a fr
    refine fx_call fr rfl rfl (by decide) (x_call (vs := [.agg (#[.slice A bs.length cap, .slice B E.length cb]), .int .u32 m.line, .agg (entA (Ent.mk ((leaveF (entOf E m.line.toNat) m.src).o) ((entOf E m.line.toNat).sh) true m.src m.kind (((othersF (leaveF (entOf E m.line.toNat) m.src).sh m.src).length : Nat) : Int) false ((entOf E m.line.toNat).q)) (.slice Q21 ((entOf E m.line.toNat).q.length) qc22))]) rfl rfl ⟨(fr.ev rfl), (fr.ev rfl), (fr.ev rfl), trivial⟩ Try.func40 nm40 rfl) (rwith_r m.line m.hn (Ent.mk ((leaveF (entOf E m.line.toNat) m.src).o) ((entOf E m.line.toNat).sh) true m.src m.kind (((othersF (leaveF (entOf E m.line.toNat) m.src).sh m.src).length : Nat) : Int) false ((entOf E m.line.toNat).q)) Q21 qc22 H (by omega) (by omega) hQ24) ?_
    clear fr a
    rintro v w107 ⟨B102, cb103, FpR104, rfl, H105, mv106, hN108⟩ a fr
    have ap_FpR104_b1 : ¬ FpR104 b1 := moved_apartP mv106 (fun h => h.elim ap_FpR_b1 ap_Q21_b1) B4.lt
    have ap_FpR104_b6 : ¬ FpR104 b6 := moved_apartP mv106 (fun h => h.elim ap_FpR_b6 ap_Q21_b6) B9.lt
    have ap_FpR104_b11 : ¬ FpR104 b11 := moved_apartP mv106 (fun h => h.elim ap_FpR_b11 ap_Q21_b11) B14.lt
    have ap2_FpR104_M9 : ∀ k, FpR104 k → inA M9 k → False := moved_apart2P mv106 (fun k hk => (fun h => h.elim (ap2_FpR_M9 k) (ap2_Q21_M9 k)) hk) fun _ hg => OL.lt hg
    have ap_FpR104_b26 : ¬ FpR104 b26 := moved_apartP mv106 (fun h => h.elim ap_FpR_b26 ap_Q21_b26) B29.lt
    have mF_FpR104 : ∀ g, FpR104 g → FpR g ∨ w.heap.size ≤ g := fun g hg => (mv106 g hg).elim (fun h => h.elim (mF_FpR g) (mQ_Q21 g)) (fun h => .inr (Nat.le_trans hF.size h))
    replace H := H.new hN108
    replace B4 := B4.new hN108
    replace B9 := B9.new hN108
    replace B14 := B14.new hN108
    replace hQ24 := hQ24.new hN108
    replace OL := OL.new hN108
    replace B29 := B29.new hN108
    replace hF := hF.trNew hN108
    have hel109 : (E.set m.line.toNat (Ent.mk ((leaveF (entOf E m.line.toNat) m.src).o) ((entOf E m.line.toNat).sh) true m.src m.kind (((othersF (leaveF (entOf E m.line.toNat) m.src).sh m.src).length : Nat) : Int) false ((entOf E m.line.toNat).q))).length = E.length := List.length_set
    have hxl110 := H105.len
    simp only [List.length_set] at hxl110
    refine fx_val (v := .slice M9 ((othersF (leaveF (entOf E m.line.toNat) m.src).sh m.src).length) mc9) fr rfl rfl (by decide) (x_move rfl (fr.ev rfl)) ?_
    clear fr a; intro a fr
    refine fx_storeS sz28 rfl rfl rfl (fr.ev rfl) (fr.ev rfl) (by simp [Value.oneCell']) B14 rfl rfl fun w111 hO112 hBq => ?_
    replace H := H.only hO112 (ne1P ap_FpR_b11)
    replace B4 := B4.only hO112 (by first | exact ne_b1_b11 | exact ne_b11_b1.symm | (show ¬ b1 = b11; omega))
    replace B9 := B9.only hO112 (by first | exact ne_b6_b11 | exact ne_b11_b6.symm | (show ¬ b6 = b11; omega))
    replace hQ24 := hQ24.only hO112 (Apart.ne1 ap_Q21_b11)
    replace OL := OL.only hO112 (Apart.ne1 ap_M9_b11)
    replace B29 := B29.only hO112 (by first | exact ne_b26_b11 | exact ne_b11_b26.symm | (show ¬ b26 = b11; omega))
    replace H105 := H105.only hO112 (ne1P ap_FpR104_b11)
    replace hF := hF.loc hO112 (.inr g_b11)
    replace B14 := hBq
    clear hBq
    refine fx_val (v := .slice M9 ((othersF (leaveF (entOf E m.line.toNat) m.src).sh m.src).length) mc9) fr rfl rfl (by decide) (x_assign rfl (fr.ev rfl)) ?_
    clear fr a; intro a fr
    refine wpList_nil ?_
    refine fx_next ?_
    refine wp_ret ?_
    refine fx_rt ?_
    refine fx_ret fr [.cell 4 28, .tmp 5] [.agg (#[.slice A bs.length cap, .slice B102 ((E.set m.line.toNat (Ent.mk ((leaveF (entOf E m.line.toNat) m.src).o) ((entOf E m.line.toNat).sh) true m.src m.kind (((othersF (leaveF (entOf E m.line.toNat) m.src).sh m.src).length : Nat) : Int) false ((entOf E m.line.toNat).q))).length) cb103]), .slice M9 ((othersF (leaveF (entOf E m.line.toNat) m.src).sh m.src).length) mc9] rfl ⟨⟨_, rfl, x_loadV ag28 rfl B14.range⟩, rfl, trivial⟩ rfl ?_
    have h9 := hc99
    simp only [Bool.and_eq_true, decide_eq_true_eq] at h9
    rw [begin_m2 h9.1 hc51 (by omega)]
    exact ⟨_, rfl, A, cap, B102, cb103, FpR104, M9, mc9, (by rw [List.length_map]; first | done | rfl), ⟨_, H105⟩, OL, mF_FpR104, (fun g hg => (gA_M9 g hg).resolve_left (fun h => h)), ap2_FpR104_M9, hF⟩
   ·skip
    have hc99s := hc99
    try simp at hc99s
    refine wp_skip ?_
    refine fx_next ?_
    refine wp_seq ?_
    refine wp_region_lit ?_
    refine fx_val (v := .pointer (some ⟨b26, 9, none⟩)) fr rfl rfl (by decide) (x_fieldAddr fo42_6 rfl (fr.ev rfl) rfl) ?_
    clear fr a; intro a fr
    refine fx_store1 sz4 rfl rfl rfl (fr.ev rfl) rfl rfl B29 (show 9 < 11 by decide) (cs' := entA (Ent.mk ((leaveF (entOf E m.line.toNat) m.src).o) ((entOf E m.line.toNat).sh) true m.src m.kind 0 true ((entOf E m.line.toNat).q)) (.slice Q21 ((entOf E m.line.toNat).q.length) qc22)) rfl fun w113 hO114 hBq => ?_
    replace H := H.only hO114 (ne1P ap_FpR_b26)
    replace B4 := B4.only hO114 (by first | exact ne_b1_b26 | exact ne_b26_b1.symm | (show ¬ b1 = b26; omega))
    replace B9 := B9.only hO114 (by first | exact ne_b6_b26 | exact ne_b26_b6.symm | (show ¬ b6 = b26; omega))
    replace B14 := B14.only hO114 (by first | exact ne_b11_b26 | exact ne_b26_b11.symm | (show ¬ b11 = b26; omega))
    replace hQ24 := hQ24.only hO114 (Apart.ne1 ap_Q21_b26)
    replace OL := OL.only hO114 (Apart.ne1 ap_M9_b26)
    replace hF := hF.loc hO114 (.inr g_b26)
    replace B29 := hBq
    clear hBq
    refine wpList_nil ?_
    refine fx_next ?_
    refine wp_seq ?_
    refine wp_seq ?_
    refine wp_region_lit ?_
    refine fx_val (v := .int .i64 m.kind) fr rfl rfl (by decide) (x_move rfl (fr.ev rfl)) ?_
    clear fr a; intro a fr
    refine fx_val (v := .bool (decide (m.kind = 2))) fr rfl rfl (by decide) (x_eql rfl (fr.ev rfl) rfl rfl) ?_
    clear fr a; intro a fr
    refine wpList_nil ?_
    refine fx_next ?_
    refine fx_cond fr rfl (fun hc115 => ?_) (fun hc115 => ?_)
    ·skip
     have hc115 := of_decide_eq_true hc115
     refine wp_seq ?_
     refine wp_region_lit ?_
     refine fx_val (v := .agg (entA (Ent.mk ((leaveF (entOf E m.line.toNat) m.src).o) ((entOf E m.line.toNat).sh) true m.src m.kind 0 true ((entOf E m.line.toNat).q)) (.slice Q21 ((entOf E m.line.toNat).q.length) qc22))) fr rfl rfl (by decide) (x_loadS ag42 rfl (fr.ev rfl) rfl B29.range) ?_
     clear fr a; intro a fr
     refine fx_val (v := .int .i64 m.src) fr rfl rfl (by decide) (x_move rfl (fr.ev rfl)) ?_
     clear fr a; intro a fr
     refine fx_call fr rfl rfl (by decide) (x_call (vs := [.agg (entA (Ent.mk ((leaveF (entOf E m.line.toNat) m.src).o) ((entOf E m.line.toNat).sh) true m.src m.kind 0 true ((entOf E m.line.toNat).q)) (.slice Q21 ((entOf E m.line.toNat).q.length) qc22)), .int .i64 m.src]) rfl rfl ⟨(fr.ev rfl), (fr.ev rfl), trivial⟩ Try.func44 nm44 rfl) (rown_c (Ent.mk ((leaveF (entOf E m.line.toNat) m.src).o) ((entOf E m.line.toNat).sh) true m.src m.kind 0 true ((entOf E m.line.toNat).q)) Q21 ((entOf E m.line.toNat).q.length) qc22 m.src _) ?_
     clear fr a
     rintro v w116 ⟨rfl, hN117⟩ a fr
     replace H := H.new hN117
     replace B4 := B4.new hN117
     replace B9 := B9.new hN117
     replace B14 := B14.new hN117
     replace hQ24 := hQ24.new hN117
     replace OL := OL.new hN117
     replace B29 := B29.new hN117
     replace hF := hF.trNew hN117
     refine fx_storeS sz42 rfl rfl rfl (fr.ev rfl) (fr.ev rfl) (ent_all _ _ _ _) B29 rfl rfl fun w118 hO119 hBq => ?_
     replace H := H.only hO119 (ne1P ap_FpR_b26)
     replace B4 := B4.only hO119 (by first | exact ne_b1_b26 | exact ne_b26_b1.symm | (show ¬ b1 = b26; omega))
     replace B9 := B9.only hO119 (by first | exact ne_b6_b26 | exact ne_b26_b6.symm | (show ¬ b6 = b26; omega))
     replace B14 := B14.only hO119 (by first | exact ne_b11_b26 | exact ne_b26_b11.symm | (show ¬ b11 = b26; omega))
     replace hQ24 := hQ24.only hO119 (Apart.ne1 ap_Q21_b26)
     replace OL := OL.only hO119 (Apart.ne1 ap_M9_b26)
     replace hF := hF.loc hO119 (.inr g_b26)
     replace B29 := hBq
     clear hBq
     refine wpList_nil ?_
     refine fx_next ?_
     refine wp_seq ?_
     refine fx_heldT (n := 10) (k := 10) (fun w => RefAt w FpR A cap B cb (HD.mk bs E) X ∧ Blk w b1 28 (#[.slice A bs.length cap, .slice B E.length cb]) ∧ Blk w b6 36 (msgE.arr m) ∧ View msgE w Q21 qc22 ((entOf E m.line.toNat).q) ∧ Own msgE w M9 mc9 ((othK (entOf E m.line.toNat).sh m.src 4).map (sendM m 6)) ∧ Blk w b26 42 (entA (ownF (Ent.mk ((leaveF (entOf E m.line.toNat) m.src).o) ((entOf E m.line.toNat).sh) true m.src m.kind 0 true ((entOf E m.line.toNat).q)) m.src) (.slice Q21 ((entOf E m.line.toNat).q.length) qc22)) ∧ True) (by kernel_rfl) (by kernel_rfl) rfl ?_
     intro w120 hN121
     replace H := H.new hN121
     replace B4 := B4.new hN121
     replace B9 := B9.new hN121
     replace B14 := B14.new hN121
     replace hQ24 := hQ24.new hN121
     replace OL := OL.new hN121
     replace B29 := B29.new hN121
     replace hF := hF.trNew hN121
     refine fx_take (i := 0) (v := .agg (#[.slice A bs.length cap, .slice B E.length cb])) fr rfl (by kernel_rfl) rfl rfl (by decide) (fun _ _ _ h => h) (fun _ ⟨H, B4, B9, hQ24, OL, B29, _⟩ => x_loadS ag28 rfl (fr.ev rfl) rfl B4.range) ⟨H, B4, B9, hQ24, OL, B29, trivial⟩ ?_
     clear fr a; intro a fr
     refine fx_take (i := 1) (v := .int .u32 m.line) fr rfl (by kernel_rfl) rfl rfl (by decide) (fun _ _ _ h => h) (fun _ ⟨H, B4, B9, hQ24, OL, B29, _⟩ => x_move rfl (fr.ev rfl)) ⟨H, B4, B9, hQ24, OL, B29, trivial⟩ ?_
     clear fr a; intro a fr
     refine fx_take (i := 2) (v := .agg (entA (ownF (Ent.mk ((leaveF (entOf E m.line.toNat) m.src).o) ((entOf E m.line.toNat).sh) true m.src m.kind 0 true ((entOf E m.line.toNat).q)) m.src) (.slice Q21 ((entOf E m.line.toNat).q.length) qc22))) fr rfl (by kernel_rfl) rfl rfl (by decide) (fun _ _ _ h => h) (fun _ ⟨H, B4, B9, hQ24, OL, B29, _⟩ => x_loadS ag42 rfl (fr.ev rfl) rfl B29.range) ⟨H, B4, B9, hQ24, OL, B29, trivial⟩ ?_
     clear fr a; intro a fr
     refine fx_take (i := 4) (v := .agg (#[.slice A bs.length cap, .slice B E.length cb])) fr rfl (by kernel_rfl) rfl rfl (by decide) (fun _ _ _ h => h) (fun _ ⟨H, B4, B9, hQ24, OL, B29, _⟩ => x_loadS ag28 rfl (fr.ev rfl) rfl B4.range) ⟨H, B4, B9, hQ24, OL, B29, trivial⟩ ?_
     clear fr a; intro a fr
     refine fx_take (i := 5) (v := .int .i64 m.src) fr rfl (by kernel_rfl) rfl rfl (by decide) (fun _ _ _ h => h) (fun _ ⟨H, B4, B9, hQ24, OL, B29, _⟩ => x_move rfl (fr.ev rfl)) ⟨H, B4, B9, hQ24, OL, B29, trivial⟩ ?_
     clear fr a; intro a fr
     refine fx_take (i := 6) (v := .int .u32 m.line) fr rfl (by kernel_rfl) rfl rfl (by decide) (fun _ _ _ h => h) (fun _ ⟨H, B4, B9, hQ24, OL, B29, _⟩ => x_move rfl (fr.ev rfl)) ⟨H, B4, B9, hQ24, OL, B29, trivial⟩ ?_
     clear fr a; intro a fr
     refine fx_one (i := 3) (by kernel_rfl) (fx_op rfl ?_)
     refine fx_call fr rfl rfl (by decide) (x_call (vs := [.agg (#[.slice A bs.length cap, .slice B E.length cb]), .int .u32 m.line, .agg (entA (ownF (Ent.mk ((leaveF (entOf E m.line.toNat) m.src).o) ((entOf E m.line.toNat).sh) true m.src m.kind 0 true ((entOf E m.line.toNat).q)) m.src) (.slice Q21 ((entOf E m.line.toNat).q.length) qc22))]) rfl rfl ⟨(fr.ev rfl), (fr.ev rfl), (fr.ev rfl), trivial⟩ Try.func40 nm40 rfl) (rwith_r m.line m.hn (ownF (Ent.mk ((leaveF (entOf E m.line.toNat) m.src).o) ((entOf E m.line.toNat).sh) true m.src m.kind 0 true ((entOf E m.line.toNat).q)) m.src) Q21 qc22 H (by omega) (by omega) hQ24) ?_
     clear fr a
     rintro v w127 ⟨B122, cb123, FpR124, rfl, H125, mv126, hN128⟩ a fr
     have ap_FpR124_b1 : ¬ FpR124 b1 := moved_apartP mv126 (fun h => h.elim ap_FpR_b1 ap_Q21_b1) B4.lt
     have ap_FpR124_b6 : ¬ FpR124 b6 := moved_apartP mv126 (fun h => h.elim ap_FpR_b6 ap_Q21_b6) B9.lt
     have ap_FpR124_b11 : ¬ FpR124 b11 := moved_apartP mv126 (fun h => h.elim ap_FpR_b11 ap_Q21_b11) B14.lt
     have ap2_FpR124_M9 : ∀ k, FpR124 k → inA M9 k → False := moved_apart2P mv126 (fun k hk => (fun h => h.elim (ap2_FpR_M9 k) (ap2_Q21_M9 k)) hk) fun _ hg => OL.lt hg
     have ap_FpR124_b26 : ¬ FpR124 b26 := moved_apartP mv126 (fun h => h.elim ap_FpR_b26 ap_Q21_b26) B29.lt
     have mF_FpR124 : ∀ g, FpR124 g → FpR g ∨ w.heap.size ≤ g := fun g hg => (mv126 g hg).elim (fun h => h.elim (mF_FpR g) (mQ_Q21 g)) (fun h => .inr (Nat.le_trans hF.size h))
     replace H := H.new hN128
     replace B4 := B4.new hN128
     replace B9 := B9.new hN128
     replace B14 := B14.new hN128
     replace hQ24 := hQ24.new hN128
     replace OL := OL.new hN128
     replace B29 := B29.new hN128
     replace hF := hF.trNew hN128
     have hel129 : (E.set m.line.toNat (ownF (Ent.mk ((leaveF (entOf E m.line.toNat) m.src).o) ((entOf E m.line.toNat).sh) true m.src m.kind 0 true ((entOf E m.line.toNat).q)) m.src)).length = E.length := List.length_set
     have hxl130 := H125.len
     simp only [List.length_set] at hxl130
     refine wpList_nil ?_
     refine ⟨⟨H, B4, B9, hQ24, OL, B29, trivial⟩, ?_⟩
     refine fx_one (i := 7) (by kernel_rfl) (fx_op rfl ?_)
     refine fx_call fr rfl rfl (by decide) (x_call (vs := [.agg (#[.slice A bs.length cap, .slice B E.length cb]), .int .i64 10, .int .i64 m.src, .int .u32 m.line]) rfl rfl ⟨(fr.ev rfl), rfl, (fr.ev rfl), (fr.ev rfl), trivial⟩ Try.func45 nm45 rfl) (rsend_b m.line m.hn 10 m.src (bs := bs) H.vb (by omega) (by omega) (by omega)) ?_
     clear fr a
     rintro v w131 ⟨rfl, hN132⟩ a fr
     replace H := H.new hN132
     replace B4 := B4.new hN132
     replace B9 := B9.new hN132
     replace B14 := B14.new hN132
     replace hQ24 := hQ24.new hN132
     replace OL := OL.new hN132
     replace B29 := B29.new hN132
     replace H125 := H125.new hN132
     replace hF := hF.trNew hN132
     refine wpList_nil ?_
     refine ⟨⟨H, B4, B9, hQ24, OL, B29, trivial⟩, ?_⟩
     refine fx_two (i := 8) (j := 9) (by kernel_rfl) (fx_op rfl ?_) (fx_op rfl ?_)
     ·skip
      refine fx_build1 (E := msgE) (p := (mkM 10 4 m.src m.line (lineB bs m.line) m.hn)) elMsg (by decide) fr rfl rfl (by decide) rfl (fr.ev rfl) ?_
      clear fr a
      intro A133 w134 hN135 O136 hA137 a fr
      have ap2_FpR_A133 : ∀ k, FpR k → inA A133 k → False := symP (new_apart2P hA137 fun _ hg => H.lt hg)
      have ap_A133_b1 : Apart A133 b1 := new_apart hA137 B4.lt
      have ap_A133_b6 : Apart A133 b6 := new_apart hA137 B9.lt
      have ap_A133_b11 : Apart A133 b11 := new_apart hA137 B14.lt
      have ap2_Q21_A133 : Apart2 Q21 A133 := (new_apart2 hA137 fun _ hg => hQ24.lt hg).symm
      have ap2_M9_A133 : Apart2 M9 A133 := (new_apart2 hA137 fun _ hg => OL.lt hg).symm
      have ap_A133_b26 : Apart A133 b26 := new_apart hA137 B29.lt
      have ap2_FpR124_A133 : ∀ k, FpR124 k → inA A133 k → False := symP (new_apart2P hA137 fun _ hg => H125.lt hg)
      have gA_A133 := gA_new hF hA137
      have gN_A133 := fun g (hg : inA A133 g) => Nat.le_trans hF.size (hA137 g hg)
      replace H := H.new hN135
      replace B4 := B4.new hN135
      replace B9 := B9.new hN135
      replace B14 := B14.new hN135
      replace hQ24 := hQ24.new hN135
      replace OL := OL.new hN135
      replace B29 := B29.new hN135
      replace H125 := H125.new hN135
      replace hF := hF.trNew hN135
      refine wpList_nil ?_
      refine ⟨⟨H, B4, B9, hQ24, OL, B29, trivial⟩, ?_⟩
      refine fx_one (i := 9) (by kernel_rfl) (fx_op rfl ?_)
      refine fx_storeS sz28 rfl rfl rfl (fr.ev rfl) (fr.ev rfl) (by simp [Value.oneCell']) B14 rfl rfl fun w138 hO139 hBq => ?_
      replace H := H.only hO139 (ne1P ap_FpR_b11)
      replace B4 := B4.only hO139 (by first | exact ne_b1_b11 | exact ne_b11_b1.symm | (show ¬ b1 = b11; omega))
      replace B9 := B9.only hO139 (by first | exact ne_b6_b11 | exact ne_b11_b6.symm | (show ¬ b6 = b11; omega))
      replace hQ24 := hQ24.only hO139 (Apart.ne1 ap_Q21_b11)
      replace OL := OL.only hO139 (Apart.ne1 ap_M9_b11)
      replace B29 := B29.only hO139 (by first | exact ne_b26_b11 | exact ne_b11_b26.symm | (show ¬ b26 = b11; omega))
      replace H125 := H125.only hO139 (ne1P ap_FpR124_b11)
      replace O136 := O136.only hO139 (Apart.ne1 ap_A133_b11)
      replace hF := hF.loc hO139 (.inr g_b11)
      replace B14 := hBq
      clear hBq
      refine wpList_nil ?_
      refine ⟨⟨H, B4, B9, hQ24, OL, B29, trivial⟩, ?_⟩
      refine fx_hdone (by kernel_rfl) ?_
      refine fx_tail ?_
      refine fx_val (v := .slice A133 1 1) fr rfl rfl (by decide) (x_assign rfl (fr.ev rfl)) ?_
      clear fr a; intro a fr
      refine wpList_nil ?_
      refine fx_next ?_
      refine wp_ret ?_
      refine fx_rt ?_
      refine fx_ret fr [.cell 4 28, .tmp 5] [.agg (#[.slice A bs.length cap, .slice B122 ((E.set m.line.toNat (ownF (Ent.mk ((leaveF (entOf E m.line.toNat) m.src).o) ((entOf E m.line.toNat).sh) true m.src m.kind 0 true ((entOf E m.line.toNat).q)) m.src)).length) cb123]), .slice A133 1 1] rfl ⟨⟨_, rfl, x_loadV ag28 rfl B14.range⟩, rfl, trivial⟩ rfl ?_
      have h9 := hc99
      simp only [Bool.and_eq_false_iff, decide_eq_false_iff_not] at h9
      rw [begin_m3 hc115 hc51 (by omega)]
      exact ⟨_, rfl, A, cap, B122, cb123, FpR124, A133, 1, rfl, ⟨_, H125⟩, O136, mF_FpR124, gN_A133, ap2_FpR124_A133, hF⟩
     ·skip
      refine fx_storeS sz28 rfl rfl rfl (fr.ev rfl) (fr.ev rfl) (by simp [Value.oneCell']) B14 rfl rfl fun w140 hO141 hBq => ?_
      replace H := H.only hO141 (ne1P ap_FpR_b11)
      replace B4 := B4.only hO141 (by first | exact ne_b1_b11 | exact ne_b11_b1.symm | (show ¬ b1 = b11; omega))
      replace B9 := B9.only hO141 (by first | exact ne_b6_b11 | exact ne_b11_b6.symm | (show ¬ b6 = b11; omega))
      replace hQ24 := hQ24.only hO141 (Apart.ne1 ap_Q21_b11)
      replace OL := OL.only hO141 (Apart.ne1 ap_M9_b11)
      replace B29 := B29.only hO141 (by first | exact ne_b26_b11 | exact ne_b11_b26.symm | (show ¬ b26 = b11; omega))
      replace H125 := H125.only hO141 (ne1P ap_FpR124_b11)
      replace hF := hF.loc hO141 (.inr g_b11)
      replace B14 := hBq
      clear hBq
      refine wpList_nil ?_
      refine ⟨⟨H, B4, B9, hQ24, OL, B29, trivial⟩, ?_⟩
      refine fx_one (i := 8) (by kernel_rfl) (fx_op rfl ?_)
      refine fx_build1 (E := msgE) (p := (mkM 10 4 m.src m.line (lineB bs m.line) m.hn)) elMsg (by decide) fr rfl rfl (by decide) rfl (fr.ev rfl) ?_
      clear fr a
      intro A142 w143 hN144 O145 hA146 a fr
      have ap2_FpR_A142 : ∀ k, FpR k → inA A142 k → False := symP (new_apart2P hA146 fun _ hg => H.lt hg)
      have ap_A142_b1 : Apart A142 b1 := new_apart hA146 B4.lt
      have ap_A142_b6 : Apart A142 b6 := new_apart hA146 B9.lt
      have ap2_Q21_A142 : Apart2 Q21 A142 := (new_apart2 hA146 fun _ hg => hQ24.lt hg).symm
      have ap2_M9_A142 : Apart2 M9 A142 := (new_apart2 hA146 fun _ hg => OL.lt hg).symm
      have ap_A142_b26 : Apart A142 b26 := new_apart hA146 B29.lt
      have ap2_FpR124_A142 : ∀ k, FpR124 k → inA A142 k → False := symP (new_apart2P hA146 fun _ hg => H125.lt hg)
      have ap_A142_b11 : Apart A142 b11 := new_apart hA146 B14.lt
      have gA_A142 := gA_new hF hA146
      have gN_A142 := fun g (hg : inA A142 g) => Nat.le_trans hF.size (hA146 g hg)
      replace H := H.new hN144
      replace B4 := B4.new hN144
      replace B9 := B9.new hN144
      replace hQ24 := hQ24.new hN144
      replace OL := OL.new hN144
      replace B29 := B29.new hN144
      replace H125 := H125.new hN144
      replace B14 := B14.new hN144
      replace hF := hF.trNew hN144
      refine wpList_nil ?_
      refine ⟨⟨H, B4, B9, hQ24, OL, B29, trivial⟩, ?_⟩
      refine fx_hdone (by kernel_rfl) ?_
      refine fx_tail ?_
      refine fx_val (v := .slice A142 1 1) fr rfl rfl (by decide) (x_assign rfl (fr.ev rfl)) ?_
      clear fr a; intro a fr
      refine wpList_nil ?_
      refine fx_next ?_
      refine wp_ret ?_
      refine fx_rt ?_
      refine fx_ret fr [.cell 4 28, .tmp 5] [.agg (#[.slice A bs.length cap, .slice B122 ((E.set m.line.toNat (ownF (Ent.mk ((leaveF (entOf E m.line.toNat) m.src).o) ((entOf E m.line.toNat).sh) true m.src m.kind 0 true ((entOf E m.line.toNat).q)) m.src)).length) cb123]), .slice A142 1 1] rfl ⟨⟨_, rfl, x_loadV ag28 rfl B14.range⟩, rfl, trivial⟩ rfl ?_
      have h9 := hc99
      simp only [Bool.and_eq_false_iff, decide_eq_false_iff_not] at h9
      rw [begin_m3 hc115 hc51 (by omega)]
      exact ⟨_, rfl, A, cap, B122, cb123, FpR124, A142, 1, rfl, ⟨_, H125⟩, O145, mF_FpR124, gN_A142, ap2_FpR124_A142, hF⟩
    ·skip
     have hc115 := of_decide_eq_false hc115
     refine wp_skip ?_
     refine fx_next ?_
     refine wp_seq ?_
     refine wp_seq ?_
     refine wp_region_lit ?_
     refine fx_val (v := .slice M9 ((othersF (leaveF (entOf E m.line.toNat) m.src).sh m.src).length) mc9) fr rfl rfl (by decide) (x_move rfl (fr.ev rfl)) ?_
     clear fr a; intro a fr
     refine fx_val (v := .int .i64 (((othersF (leaveF (entOf E m.line.toNat) m.src).sh m.src).length : Nat) : Int)) fr rfl rfl (by decide) (x_len Try.underlying23 rfl (fr.ev rfl)) ?_
     clear fr a; intro a fr
     refine fx_val (v := .bool (decide (0 < (((othersF (leaveF (entOf E m.line.toNat) m.src).sh m.src).length : Nat) : Int)))) fr rfl rfl (by decide) (x_gtr rfl (fr.ev rfl) rfl rfl) ?_
     clear fr a; intro a fr
     refine wpList_nil ?_
     refine fx_next ?_
     refine fx_cond fr rfl (fun hc147 => ?_) (fun hc147 => ?_)
     ·skip
      have hc147 := of_decide_eq_true hc147
      refine wp_seq ?_
      refine wp_region_lit ?_
      refine fx_val (v := .int .i64 m.src) fr rfl rfl (by decide) (x_move rfl (fr.ev rfl)) ?_
      clear fr a; intro a fr
      refine fx_val (v := .pointer (some ⟨b26, 1, none⟩)) fr rfl rfl (by decide) (x_fieldAddr fo42_1 rfl (fr.ev rfl) rfl) ?_
      clear fr a; intro a fr
      refine fx_val (v := .pointer (some ⟨b26, 1 + m.src.toNat, none⟩)) fr rfl rfl (by decide) (x_indexArr Try.underlying40 sz4 rfl (fr.ev rfl) ((fr.ev rfl).trans (int_nat _ m.src (by omega))) (by omega) (by omega)) ?_
      clear fr a; intro a fr
      refine fx_store1 sz4 rfl rfl rfl (fr.ev rfl) rfl rfl B29 (show 1 + m.src.toNat < 11 by omega) (cs' := entA (Ent.mk ((leaveF (entOf E m.line.toNat) m.src).o) (((entOf E m.line.toNat).sh).set m.src true) true m.src m.kind 0 true ((entOf E m.line.toNat).q)) (.slice Q21 ((entOf E m.line.toNat).q.length) qc22)) (ent_setSh _ _ m.src _ (by omega) (by omega)) fun w148 hO149 hBq => ?_
      replace H := H.only hO149 (ne1P ap_FpR_b26)
      replace B4 := B4.only hO149 (by first | exact ne_b1_b26 | exact ne_b26_b1.symm | (show ¬ b1 = b26; omega))
      replace B9 := B9.only hO149 (by first | exact ne_b6_b26 | exact ne_b26_b6.symm | (show ¬ b6 = b26; omega))
      replace B14 := B14.only hO149 (by first | exact ne_b11_b26 | exact ne_b26_b11.symm | (show ¬ b11 = b26; omega))
      replace hQ24 := hQ24.only hO149 (Apart.ne1 ap_Q21_b26)
      replace OL := OL.only hO149 (Apart.ne1 ap_M9_b26)
      replace hF := hF.loc hO149 (.inr g_b26)
      replace B29 := hBq
      clear hBq
      refine wpList_nil ?_
      refine fx_next ?_
      refine wp_seq ?_
      refine fx_heldT (n := 10) (k := 10) (fun w => RefAt w FpR A cap B cb (HD.mk bs E) X ∧ Blk w b1 28 (#[.slice A bs.length cap, .slice B E.length cb]) ∧ Blk w b6 36 (msgE.arr m) ∧ View msgE w Q21 qc22 ((entOf E m.line.toNat).q) ∧ Own msgE w M9 mc9 ((othK (entOf E m.line.toNat).sh m.src 4).map (sendM m 6)) ∧ Blk w b26 42 (entA (Ent.mk ((leaveF (entOf E m.line.toNat) m.src).o) (((entOf E m.line.toNat).sh).set m.src true) true m.src m.kind 0 true ((entOf E m.line.toNat).q)) (.slice Q21 ((entOf E m.line.toNat).q.length) qc22)) ∧ True) (by kernel_rfl) (by kernel_rfl) rfl ?_
      intro w150 hN151
      replace H := H.new hN151
      replace B4 := B4.new hN151
      replace B9 := B9.new hN151
      replace B14 := B14.new hN151
      replace hQ24 := hQ24.new hN151
      replace OL := OL.new hN151
      replace B29 := B29.new hN151
      replace hF := hF.trNew hN151
      refine fx_take (i := 0) (v := .agg (#[.slice A bs.length cap, .slice B E.length cb])) fr rfl (by kernel_rfl) rfl rfl (by decide) (fun _ _ _ h => h) (fun _ ⟨H, B4, B9, hQ24, OL, B29, _⟩ => x_loadS ag28 rfl (fr.ev rfl) rfl B4.range) ⟨H, B4, B9, hQ24, OL, B29, trivial⟩ ?_
      clear fr a; intro a fr
      refine fx_take (i := 1) (v := .int .u32 m.line) fr rfl (by kernel_rfl) rfl rfl (by decide) (fun _ _ _ h => h) (fun _ ⟨H, B4, B9, hQ24, OL, B29, _⟩ => x_move rfl (fr.ev rfl)) ⟨H, B4, B9, hQ24, OL, B29, trivial⟩ ?_
      clear fr a; intro a fr
      refine fx_take (i := 2) (v := .agg (entA (Ent.mk ((leaveF (entOf E m.line.toNat) m.src).o) (((entOf E m.line.toNat).sh).set m.src true) true m.src m.kind 0 true ((entOf E m.line.toNat).q)) (.slice Q21 ((entOf E m.line.toNat).q.length) qc22))) fr rfl (by kernel_rfl) rfl rfl (by decide) (fun _ _ _ h => h) (fun _ ⟨H, B4, B9, hQ24, OL, B29, _⟩ => x_loadS ag42 rfl (fr.ev rfl) rfl B29.range) ⟨H, B4, B9, hQ24, OL, B29, trivial⟩ ?_
      clear fr a; intro a fr
      refine fx_take (i := 4) (v := .agg (#[.slice A bs.length cap, .slice B E.length cb])) fr rfl (by kernel_rfl) rfl rfl (by decide) (fun _ _ _ h => h) (fun _ ⟨H, B4, B9, hQ24, OL, B29, _⟩ => x_loadS ag28 rfl (fr.ev rfl) rfl B4.range) ⟨H, B4, B9, hQ24, OL, B29, trivial⟩ ?_
      clear fr a; intro a fr
      refine fx_take (i := 5) (v := .int .i64 m.src) fr rfl (by kernel_rfl) rfl rfl (by decide) (fun _ _ _ h => h) (fun _ ⟨H, B4, B9, hQ24, OL, B29, _⟩ => x_move rfl (fr.ev rfl)) ⟨H, B4, B9, hQ24, OL, B29, trivial⟩ ?_
      clear fr a; intro a fr
      refine fx_take (i := 6) (v := .int .u32 m.line) fr rfl (by kernel_rfl) rfl rfl (by decide) (fun _ _ _ h => h) (fun _ ⟨H, B4, B9, hQ24, OL, B29, _⟩ => x_move rfl (fr.ev rfl)) ⟨H, B4, B9, hQ24, OL, B29, trivial⟩ ?_
      clear fr a; intro a fr
      refine fx_one (i := 3) (by kernel_rfl) (fx_op rfl ?_)
      refine fx_call fr rfl rfl (by decide) (x_call (vs := [.agg (#[.slice A bs.length cap, .slice B E.length cb]), .int .u32 m.line, .agg (entA (Ent.mk ((leaveF (entOf E m.line.toNat) m.src).o) (((entOf E m.line.toNat).sh).set m.src true) true m.src m.kind 0 true ((entOf E m.line.toNat).q)) (.slice Q21 ((entOf E m.line.toNat).q.length) qc22))]) rfl rfl ⟨(fr.ev rfl), (fr.ev rfl), (fr.ev rfl), trivial⟩ Try.func40 nm40 rfl) (rwith_r m.line m.hn (Ent.mk ((leaveF (entOf E m.line.toNat) m.src).o) (((entOf E m.line.toNat).sh).set m.src true) true m.src m.kind 0 true ((entOf E m.line.toNat).q)) Q21 qc22 H (by omega) (by omega) hQ24) ?_
      clear fr a
      rintro v w157 ⟨B152, cb153, FpR154, rfl, H155, mv156, hN158⟩ a fr
      have ap_FpR154_b1 : ¬ FpR154 b1 := moved_apartP mv156 (fun h => h.elim ap_FpR_b1 ap_Q21_b1) B4.lt
      have ap_FpR154_b6 : ¬ FpR154 b6 := moved_apartP mv156 (fun h => h.elim ap_FpR_b6 ap_Q21_b6) B9.lt
      have ap_FpR154_b11 : ¬ FpR154 b11 := moved_apartP mv156 (fun h => h.elim ap_FpR_b11 ap_Q21_b11) B14.lt
      have ap2_FpR154_M9 : ∀ k, FpR154 k → inA M9 k → False := moved_apart2P mv156 (fun k hk => (fun h => h.elim (ap2_FpR_M9 k) (ap2_Q21_M9 k)) hk) fun _ hg => OL.lt hg
      have ap_FpR154_b26 : ¬ FpR154 b26 := moved_apartP mv156 (fun h => h.elim ap_FpR_b26 ap_Q21_b26) B29.lt
      have mF_FpR154 : ∀ g, FpR154 g → FpR g ∨ w.heap.size ≤ g := fun g hg => (mv156 g hg).elim (fun h => h.elim (mF_FpR g) (mQ_Q21 g)) (fun h => .inr (Nat.le_trans hF.size h))
      replace H := H.new hN158
      replace B4 := B4.new hN158
      replace B9 := B9.new hN158
      replace B14 := B14.new hN158
      replace hQ24 := hQ24.new hN158
      replace OL := OL.new hN158
      replace B29 := B29.new hN158
      replace hF := hF.trNew hN158
      have hel159 : (E.set m.line.toNat (Ent.mk ((leaveF (entOf E m.line.toNat) m.src).o) (((entOf E m.line.toNat).sh).set m.src true) true m.src m.kind 0 true ((entOf E m.line.toNat).q))).length = E.length := List.length_set
      have hxl160 := H155.len
      simp only [List.length_set] at hxl160
      refine wpList_nil ?_
      refine ⟨⟨H, B4, B9, hQ24, OL, B29, trivial⟩, ?_⟩
      refine fx_one (i := 7) (by kernel_rfl) (fx_op rfl ?_)
      refine fx_call fr rfl rfl (by decide) (x_call (vs := [.agg (#[.slice A bs.length cap, .slice B E.length cb]), .int .i64 8, .int .i64 m.src, .int .u32 m.line]) rfl rfl ⟨(fr.ev rfl), rfl, (fr.ev rfl), (fr.ev rfl), trivial⟩ Try.func45 nm45 rfl) (rsend_b m.line m.hn 8 m.src (bs := bs) H.vb (by omega) (by omega) (by omega)) ?_
      clear fr a
      rintro v w161 ⟨rfl, hN162⟩ a fr
      replace H := H.new hN162
      replace B4 := B4.new hN162
      replace B9 := B9.new hN162
      replace B14 := B14.new hN162
      replace hQ24 := hQ24.new hN162
      replace OL := OL.new hN162
      replace B29 := B29.new hN162
      replace H155 := H155.new hN162
      replace hF := hF.trNew hN162
      refine wpList_nil ?_
      refine ⟨⟨H, B4, B9, hQ24, OL, B29, trivial⟩, ?_⟩
      refine fx_two (i := 8) (j := 9) (by kernel_rfl) (fx_op rfl ?_) (fx_op rfl ?_)
      ·skip
       refine fx_build1 (E := msgE) (p := (mkM 8 4 m.src m.line (lineB bs m.line) m.hn)) elMsg (by decide) fr rfl rfl (by decide) rfl (fr.ev rfl) ?_
       clear fr a
       intro A163 w164 hN165 O166 hA167 a fr
       have ap2_FpR_A163 : ∀ k, FpR k → inA A163 k → False := symP (new_apart2P hA167 fun _ hg => H.lt hg)
       have ap_A163_b1 : Apart A163 b1 := new_apart hA167 B4.lt
       have ap_A163_b6 : Apart A163 b6 := new_apart hA167 B9.lt
       have ap_A163_b11 : Apart A163 b11 := new_apart hA167 B14.lt
       have ap2_Q21_A163 : Apart2 Q21 A163 := (new_apart2 hA167 fun _ hg => hQ24.lt hg).symm
       have ap2_M9_A163 : Apart2 M9 A163 := (new_apart2 hA167 fun _ hg => OL.lt hg).symm
       have ap_A163_b26 : Apart A163 b26 := new_apart hA167 B29.lt
       have ap2_FpR154_A163 : ∀ k, FpR154 k → inA A163 k → False := symP (new_apart2P hA167 fun _ hg => H155.lt hg)
       have gA_A163 := gA_new hF hA167
       have gN_A163 := fun g (hg : inA A163 g) => Nat.le_trans hF.size (hA167 g hg)
       replace H := H.new hN165
       replace B4 := B4.new hN165
       replace B9 := B9.new hN165
       replace B14 := B14.new hN165
       replace hQ24 := hQ24.new hN165
       replace OL := OL.new hN165
       replace B29 := B29.new hN165
       replace H155 := H155.new hN165
       replace hF := hF.trNew hN165
       refine wpList_nil ?_
       refine ⟨⟨H, B4, B9, hQ24, OL, B29, trivial⟩, ?_⟩
       refine fx_one (i := 9) (by kernel_rfl) (fx_op rfl ?_)
       refine fx_storeS sz28 rfl rfl rfl (fr.ev rfl) (fr.ev rfl) (by simp [Value.oneCell']) B14 rfl rfl fun w168 hO169 hBq => ?_
       replace H := H.only hO169 (ne1P ap_FpR_b11)
       replace B4 := B4.only hO169 (by first | exact ne_b1_b11 | exact ne_b11_b1.symm | (show ¬ b1 = b11; omega))
       replace B9 := B9.only hO169 (by first | exact ne_b6_b11 | exact ne_b11_b6.symm | (show ¬ b6 = b11; omega))
       replace hQ24 := hQ24.only hO169 (Apart.ne1 ap_Q21_b11)
       replace OL := OL.only hO169 (Apart.ne1 ap_M9_b11)
       replace B29 := B29.only hO169 (by first | exact ne_b26_b11 | exact ne_b11_b26.symm | (show ¬ b26 = b11; omega))
       replace H155 := H155.only hO169 (ne1P ap_FpR154_b11)
       replace O166 := O166.only hO169 (Apart.ne1 ap_A163_b11)
       replace hF := hF.loc hO169 (.inr g_b11)
       replace B14 := hBq
       clear hBq
       refine wpList_nil ?_
       refine ⟨⟨H, B4, B9, hQ24, OL, B29, trivial⟩, ?_⟩
       refine fx_hdone (by kernel_rfl) ?_
       refine fx_tail ?_
       refine fx_val (v := .slice A163 1 1) fr rfl rfl (by decide) (x_assign rfl (fr.ev rfl)) ?_
       clear fr a; intro a fr
       refine wpList_nil ?_
       refine fx_next ?_
       refine wp_ret ?_
       refine fx_rt ?_
       refine fx_ret fr [.cell 4 28, .tmp 5] [.agg (#[.slice A bs.length cap, .slice B152 ((E.set m.line.toNat (Ent.mk ((leaveF (entOf E m.line.toNat) m.src).o) (((entOf E m.line.toNat).sh).set m.src true) true m.src m.kind 0 true ((entOf E m.line.toNat).q))).length) cb153]), .slice A163 1 1] rfl ⟨⟨_, rfl, x_loadV ag28 rfl B14.range⟩, rfl, trivial⟩ rfl ?_
       rw [begin_s2 (by omega) hc51 (by omega)]
       exact ⟨_, rfl, A, cap, B152, cb153, FpR154, A163, 1, rfl, ⟨_, H155⟩, O166, mF_FpR154, gN_A163, ap2_FpR154_A163, hF⟩
      ·skip
       refine fx_storeS sz28 rfl rfl rfl (fr.ev rfl) (fr.ev rfl) (by simp [Value.oneCell']) B14 rfl rfl fun w170 hO171 hBq => ?_
       replace H := H.only hO171 (ne1P ap_FpR_b11)
       replace B4 := B4.only hO171 (by first | exact ne_b1_b11 | exact ne_b11_b1.symm | (show ¬ b1 = b11; omega))
       replace B9 := B9.only hO171 (by first | exact ne_b6_b11 | exact ne_b11_b6.symm | (show ¬ b6 = b11; omega))
       replace hQ24 := hQ24.only hO171 (Apart.ne1 ap_Q21_b11)
       replace OL := OL.only hO171 (Apart.ne1 ap_M9_b11)
       replace B29 := B29.only hO171 (by first | exact ne_b26_b11 | exact ne_b11_b26.symm | (show ¬ b26 = b11; omega))
       replace H155 := H155.only hO171 (ne1P ap_FpR154_b11)
       replace hF := hF.loc hO171 (.inr g_b11)
       replace B14 := hBq
       clear hBq
       refine wpList_nil ?_
       refine ⟨⟨H, B4, B9, hQ24, OL, B29, trivial⟩, ?_⟩
       refine fx_one (i := 8) (by kernel_rfl) (fx_op rfl ?_)
       refine fx_build1 (E := msgE) (p := (mkM 8 4 m.src m.line (lineB bs m.line) m.hn)) elMsg (by decide) fr rfl rfl (by decide) rfl (fr.ev rfl) ?_
       clear fr a
       intro A172 w173 hN174 O175 hA176 a fr
       have ap2_FpR_A172 : ∀ k, FpR k → inA A172 k → False := symP (new_apart2P hA176 fun _ hg => H.lt hg)
       have ap_A172_b1 : Apart A172 b1 := new_apart hA176 B4.lt
       have ap_A172_b6 : Apart A172 b6 := new_apart hA176 B9.lt
       have ap2_Q21_A172 : Apart2 Q21 A172 := (new_apart2 hA176 fun _ hg => hQ24.lt hg).symm
       have ap2_M9_A172 : Apart2 M9 A172 := (new_apart2 hA176 fun _ hg => OL.lt hg).symm
       have ap_A172_b26 : Apart A172 b26 := new_apart hA176 B29.lt
       have ap2_FpR154_A172 : ∀ k, FpR154 k → inA A172 k → False := symP (new_apart2P hA176 fun _ hg => H155.lt hg)
       have ap_A172_b11 : Apart A172 b11 := new_apart hA176 B14.lt
       have gA_A172 := gA_new hF hA176
       have gN_A172 := fun g (hg : inA A172 g) => Nat.le_trans hF.size (hA176 g hg)
       replace H := H.new hN174
       replace B4 := B4.new hN174
       replace B9 := B9.new hN174
       replace hQ24 := hQ24.new hN174
       replace OL := OL.new hN174
       replace B29 := B29.new hN174
       replace H155 := H155.new hN174
       replace B14 := B14.new hN174
       replace hF := hF.trNew hN174
       refine wpList_nil ?_
       refine ⟨⟨H, B4, B9, hQ24, OL, B29, trivial⟩, ?_⟩
       refine fx_hdone (by kernel_rfl) ?_
       refine fx_tail ?_
       refine fx_val (v := .slice A172 1 1) fr rfl rfl (by decide) (x_assign rfl (fr.ev rfl)) ?_
       clear fr a; intro a fr
       refine wpList_nil ?_
       refine fx_next ?_
       refine wp_ret ?_
       refine fx_rt ?_
       refine fx_ret fr [.cell 4 28, .tmp 5] [.agg (#[.slice A bs.length cap, .slice B152 ((E.set m.line.toNat (Ent.mk ((leaveF (entOf E m.line.toNat) m.src).o) (((entOf E m.line.toNat).sh).set m.src true) true m.src m.kind 0 true ((entOf E m.line.toNat).q))).length) cb153]), .slice A172 1 1] rfl ⟨⟨_, rfl, x_loadV ag28 rfl B14.range⟩, rfl, trivial⟩ rfl ?_
       rw [begin_s2 (by omega) hc51 (by omega)]
       exact ⟨_, rfl, A, cap, B152, cb153, FpR154, A172, 1, rfl, ⟨_, H155⟩, O175, mF_FpR154, gN_A172, ap2_FpR154_A172, hF⟩
     ·skip
      have hc147 := of_decide_eq_false hc147
      refine wp_skip ?_
      refine fx_next ?_
      refine wp_seq ?_
      refine wp_region_lit ?_
      refine fx_val (v := .agg (entA (Ent.mk ((leaveF (entOf E m.line.toNat) m.src).o) ((entOf E m.line.toNat).sh) true m.src m.kind 0 true ((entOf E m.line.toNat).q)) (.slice Q21 ((entOf E m.line.toNat).q.length) qc22))) fr rfl rfl (by decide) (x_loadS ag42 rfl (fr.ev rfl) rfl B29.range) ?_
      clear fr a; intro a fr
      refine fx_val (v := .int .i64 m.src) fr rfl rfl (by decide) (x_move rfl (fr.ev rfl)) ?_
      clear fr a; intro a fr
      refine fx_call fr rfl rfl (by decide) (x_call (vs := [.agg (entA (Ent.mk ((leaveF (entOf E m.line.toNat) m.src).o) ((entOf E m.line.toNat).sh) true m.src m.kind 0 true ((entOf E m.line.toNat).q)) (.slice Q21 ((entOf E m.line.toNat).q.length) qc22)), .int .i64 m.src]) rfl rfl ⟨(fr.ev rfl), (fr.ev rfl), trivial⟩ Try.func44 nm44 rfl) (rown_c (Ent.mk ((leaveF (entOf E m.line.toNat) m.src).o) ((entOf E m.line.toNat).sh) true m.src m.kind 0 true ((entOf E m.line.toNat).q)) Q21 ((entOf E m.line.toNat).q.length) qc22 m.src _) ?_
      clear fr a
      rintro v w177 ⟨rfl, hN178⟩ a fr
      replace H := H.new hN178
      replace B4 := B4.new hN178
      replace B9 := B9.new hN178
      replace B14 := B14.new hN178
      replace hQ24 := hQ24.new hN178
      replace OL := OL.new hN178
      replace B29 := B29.new hN178
      replace hF := hF.trNew hN178
      refine fx_storeS sz42 rfl rfl rfl (fr.ev rfl) (fr.ev rfl) (ent_all _ _ _ _) B29 rfl rfl fun w179 hO180 hBq => ?_
      replace H := H.only hO180 (ne1P ap_FpR_b26)
      replace B4 := B4.only hO180 (by first | exact ne_b1_b26 | exact ne_b26_b1.symm | (show ¬ b1 = b26; omega))
      replace B9 := B9.only hO180 (by first | exact ne_b6_b26 | exact ne_b26_b6.symm | (show ¬ b6 = b26; omega))
      replace B14 := B14.only hO180 (by first | exact ne_b11_b26 | exact ne_b26_b11.symm | (show ¬ b11 = b26; omega))
      replace hQ24 := hQ24.only hO180 (Apart.ne1 ap_Q21_b26)
      replace OL := OL.only hO180 (Apart.ne1 ap_M9_b26)
      replace hF := hF.loc hO180 (.inr g_b26)
      replace B29 := hBq
      clear hBq
      refine wpList_nil ?_
      refine fx_next ?_
      refine wp_seq ?_
      refine fx_heldT (n := 10) (k := 10) (fun w => RefAt w FpR A cap B cb (HD.mk bs E) X ∧ Blk w b1 28 (#[.slice A bs.length cap, .slice B E.length cb]) ∧ Blk w b6 36 (msgE.arr m) ∧ View msgE w Q21 qc22 ((entOf E m.line.toNat).q) ∧ Own msgE w M9 mc9 ((othK (entOf E m.line.toNat).sh m.src 4).map (sendM m 6)) ∧ Blk w b26 42 (entA (ownF (Ent.mk ((leaveF (entOf E m.line.toNat) m.src).o) ((entOf E m.line.toNat).sh) true m.src m.kind 0 true ((entOf E m.line.toNat).q)) m.src) (.slice Q21 ((entOf E m.line.toNat).q.length) qc22)) ∧ True) (by kernel_rfl) (by kernel_rfl) rfl ?_
      intro w181 hN182
      replace H := H.new hN182
      replace B4 := B4.new hN182
      replace B9 := B9.new hN182
      replace B14 := B14.new hN182
      replace hQ24 := hQ24.new hN182
      replace OL := OL.new hN182
      replace B29 := B29.new hN182
      replace hF := hF.trNew hN182
      refine fx_take (i := 0) (v := .agg (#[.slice A bs.length cap, .slice B E.length cb])) fr rfl (by kernel_rfl) rfl rfl (by decide) (fun _ _ _ h => h) (fun _ ⟨H, B4, B9, hQ24, OL, B29, _⟩ => x_loadS ag28 rfl (fr.ev rfl) rfl B4.range) ⟨H, B4, B9, hQ24, OL, B29, trivial⟩ ?_
      clear fr a; intro a fr
      refine fx_take (i := 1) (v := .int .u32 m.line) fr rfl (by kernel_rfl) rfl rfl (by decide) (fun _ _ _ h => h) (fun _ ⟨H, B4, B9, hQ24, OL, B29, _⟩ => x_move rfl (fr.ev rfl)) ⟨H, B4, B9, hQ24, OL, B29, trivial⟩ ?_
      clear fr a; intro a fr
      refine fx_take (i := 2) (v := .agg (entA (ownF (Ent.mk ((leaveF (entOf E m.line.toNat) m.src).o) ((entOf E m.line.toNat).sh) true m.src m.kind 0 true ((entOf E m.line.toNat).q)) m.src) (.slice Q21 ((entOf E m.line.toNat).q.length) qc22))) fr rfl (by kernel_rfl) rfl rfl (by decide) (fun _ _ _ h => h) (fun _ ⟨H, B4, B9, hQ24, OL, B29, _⟩ => x_loadS ag42 rfl (fr.ev rfl) rfl B29.range) ⟨H, B4, B9, hQ24, OL, B29, trivial⟩ ?_
      clear fr a; intro a fr
      refine fx_take (i := 4) (v := .agg (#[.slice A bs.length cap, .slice B E.length cb])) fr rfl (by kernel_rfl) rfl rfl (by decide) (fun _ _ _ h => h) (fun _ ⟨H, B4, B9, hQ24, OL, B29, _⟩ => x_loadS ag28 rfl (fr.ev rfl) rfl B4.range) ⟨H, B4, B9, hQ24, OL, B29, trivial⟩ ?_
      clear fr a; intro a fr
      refine fx_take (i := 5) (v := .int .i64 m.src) fr rfl (by kernel_rfl) rfl rfl (by decide) (fun _ _ _ h => h) (fun _ ⟨H, B4, B9, hQ24, OL, B29, _⟩ => x_move rfl (fr.ev rfl)) ⟨H, B4, B9, hQ24, OL, B29, trivial⟩ ?_
      clear fr a; intro a fr
      refine fx_take (i := 6) (v := .int .u32 m.line) fr rfl (by kernel_rfl) rfl rfl (by decide) (fun _ _ _ h => h) (fun _ ⟨H, B4, B9, hQ24, OL, B29, _⟩ => x_move rfl (fr.ev rfl)) ⟨H, B4, B9, hQ24, OL, B29, trivial⟩ ?_
      clear fr a; intro a fr
      refine fx_one (i := 3) (by kernel_rfl) (fx_op rfl ?_)
      refine fx_call fr rfl rfl (by decide) (x_call (vs := [.agg (#[.slice A bs.length cap, .slice B E.length cb]), .int .u32 m.line, .agg (entA (ownF (Ent.mk ((leaveF (entOf E m.line.toNat) m.src).o) ((entOf E m.line.toNat).sh) true m.src m.kind 0 true ((entOf E m.line.toNat).q)) m.src) (.slice Q21 ((entOf E m.line.toNat).q.length) qc22))]) rfl rfl ⟨(fr.ev rfl), (fr.ev rfl), (fr.ev rfl), trivial⟩ Try.func40 nm40 rfl) (rwith_r m.line m.hn (ownF (Ent.mk ((leaveF (entOf E m.line.toNat) m.src).o) ((entOf E m.line.toNat).sh) true m.src m.kind 0 true ((entOf E m.line.toNat).q)) m.src) Q21 qc22 H (by omega) (by omega) hQ24) ?_
      clear fr a
      rintro v w188 ⟨B183, cb184, FpR185, rfl, H186, mv187, hN189⟩ a fr
      have ap_FpR185_b1 : ¬ FpR185 b1 := moved_apartP mv187 (fun h => h.elim ap_FpR_b1 ap_Q21_b1) B4.lt
      have ap_FpR185_b6 : ¬ FpR185 b6 := moved_apartP mv187 (fun h => h.elim ap_FpR_b6 ap_Q21_b6) B9.lt
      have ap_FpR185_b11 : ¬ FpR185 b11 := moved_apartP mv187 (fun h => h.elim ap_FpR_b11 ap_Q21_b11) B14.lt
      have ap2_FpR185_M9 : ∀ k, FpR185 k → inA M9 k → False := moved_apart2P mv187 (fun k hk => (fun h => h.elim (ap2_FpR_M9 k) (ap2_Q21_M9 k)) hk) fun _ hg => OL.lt hg
      have ap_FpR185_b26 : ¬ FpR185 b26 := moved_apartP mv187 (fun h => h.elim ap_FpR_b26 ap_Q21_b26) B29.lt
      have mF_FpR185 : ∀ g, FpR185 g → FpR g ∨ w.heap.size ≤ g := fun g hg => (mv187 g hg).elim (fun h => h.elim (mF_FpR g) (mQ_Q21 g)) (fun h => .inr (Nat.le_trans hF.size h))
      replace H := H.new hN189
      replace B4 := B4.new hN189
      replace B9 := B9.new hN189
      replace B14 := B14.new hN189
      replace hQ24 := hQ24.new hN189
      replace OL := OL.new hN189
      replace B29 := B29.new hN189
      replace hF := hF.trNew hN189
      have hel190 : (E.set m.line.toNat (ownF (Ent.mk ((leaveF (entOf E m.line.toNat) m.src).o) ((entOf E m.line.toNat).sh) true m.src m.kind 0 true ((entOf E m.line.toNat).q)) m.src)).length = E.length := List.length_set
      have hxl191 := H186.len
      simp only [List.length_set] at hxl191
      refine wpList_nil ?_
      refine ⟨⟨H, B4, B9, hQ24, OL, B29, trivial⟩, ?_⟩
      refine fx_one (i := 7) (by kernel_rfl) (fx_op rfl ?_)
      refine fx_call fr rfl rfl (by decide) (x_call (vs := [.agg (#[.slice A bs.length cap, .slice B E.length cb]), .int .i64 9, .int .i64 m.src, .int .u32 m.line]) rfl rfl ⟨(fr.ev rfl), rfl, (fr.ev rfl), (fr.ev rfl), trivial⟩ Try.func45 nm45 rfl) (rsend_b m.line m.hn 9 m.src (bs := bs) H.vb (by omega) (by omega) (by omega)) ?_
      clear fr a
      rintro v w192 ⟨rfl, hN193⟩ a fr
      replace H := H.new hN193
      replace B4 := B4.new hN193
      replace B9 := B9.new hN193
      replace B14 := B14.new hN193
      replace hQ24 := hQ24.new hN193
      replace OL := OL.new hN193
      replace B29 := B29.new hN193
      replace H186 := H186.new hN193
      replace hF := hF.trNew hN193
      refine wpList_nil ?_
      refine ⟨⟨H, B4, B9, hQ24, OL, B29, trivial⟩, ?_⟩
      refine fx_two (i := 8) (j := 9) (by kernel_rfl) (fx_op rfl ?_) (fx_op rfl ?_)
      ·skip
       refine fx_build1 (E := msgE) (p := (mkM 9 4 m.src m.line (lineB bs m.line) m.hn)) elMsg (by decide) fr rfl rfl (by decide) rfl (fr.ev rfl) ?_
       clear fr a
       intro A194 w195 hN196 O197 hA198 a fr
       have ap2_FpR_A194 : ∀ k, FpR k → inA A194 k → False := symP (new_apart2P hA198 fun _ hg => H.lt hg)
       have ap_A194_b1 : Apart A194 b1 := new_apart hA198 B4.lt
       have ap_A194_b6 : Apart A194 b6 := new_apart hA198 B9.lt
       have ap_A194_b11 : Apart A194 b11 := new_apart hA198 B14.lt
       have ap2_Q21_A194 : Apart2 Q21 A194 := (new_apart2 hA198 fun _ hg => hQ24.lt hg).symm
       have ap2_M9_A194 : Apart2 M9 A194 := (new_apart2 hA198 fun _ hg => OL.lt hg).symm
       have ap_A194_b26 : Apart A194 b26 := new_apart hA198 B29.lt
       have ap2_FpR185_A194 : ∀ k, FpR185 k → inA A194 k → False := symP (new_apart2P hA198 fun _ hg => H186.lt hg)
       have gA_A194 := gA_new hF hA198
       have gN_A194 := fun g (hg : inA A194 g) => Nat.le_trans hF.size (hA198 g hg)
       replace H := H.new hN196
       replace B4 := B4.new hN196
       replace B9 := B9.new hN196
       replace B14 := B14.new hN196
       replace hQ24 := hQ24.new hN196
       replace OL := OL.new hN196
       replace B29 := B29.new hN196
       replace H186 := H186.new hN196
       replace hF := hF.trNew hN196
       refine wpList_nil ?_
       refine ⟨⟨H, B4, B9, hQ24, OL, B29, trivial⟩, ?_⟩
       refine fx_one (i := 9) (by kernel_rfl) (fx_op rfl ?_)
       refine fx_storeS sz28 rfl rfl rfl (fr.ev rfl) (fr.ev rfl) (by simp [Value.oneCell']) B14 rfl rfl fun w199 hO200 hBq => ?_
       replace H := H.only hO200 (ne1P ap_FpR_b11)
       replace B4 := B4.only hO200 (by first | exact ne_b1_b11 | exact ne_b11_b1.symm | (show ¬ b1 = b11; omega))
       replace B9 := B9.only hO200 (by first | exact ne_b6_b11 | exact ne_b11_b6.symm | (show ¬ b6 = b11; omega))
       replace hQ24 := hQ24.only hO200 (Apart.ne1 ap_Q21_b11)
       replace OL := OL.only hO200 (Apart.ne1 ap_M9_b11)
       replace B29 := B29.only hO200 (by first | exact ne_b26_b11 | exact ne_b11_b26.symm | (show ¬ b26 = b11; omega))
       replace H186 := H186.only hO200 (ne1P ap_FpR185_b11)
       replace O197 := O197.only hO200 (Apart.ne1 ap_A194_b11)
       replace hF := hF.loc hO200 (.inr g_b11)
       replace B14 := hBq
       clear hBq
       refine wpList_nil ?_
       refine ⟨⟨H, B4, B9, hQ24, OL, B29, trivial⟩, ?_⟩
       refine fx_hdone (by kernel_rfl) ?_
       refine fx_tail ?_
       refine fx_val (v := .slice A194 1 1) fr rfl rfl (by decide) (x_assign rfl (fr.ev rfl)) ?_
       clear fr a; intro a fr
       refine wpList_nil ?_
       refine fx_next ?_
       refine wp_ret ?_
       refine fx_ret fr [.cell 4 28, .tmp 5] [.agg (#[.slice A bs.length cap, .slice B183 ((E.set m.line.toNat (ownF (Ent.mk ((leaveF (entOf E m.line.toNat) m.src).o) ((entOf E m.line.toNat).sh) true m.src m.kind 0 true ((entOf E m.line.toNat).q)) m.src)).length) cb184]), .slice A194 1 1] rfl ⟨⟨_, rfl, x_loadV ag28 rfl B14.range⟩, rfl, trivial⟩ rfl ?_
       rw [begin_s3 (by omega) hc51 (by omega)]
       exact ⟨_, rfl, A, cap, B183, cb184, FpR185, A194, 1, rfl, ⟨_, H186⟩, O197, mF_FpR185, gN_A194, ap2_FpR185_A194, hF⟩
      ·skip
       refine fx_storeS sz28 rfl rfl rfl (fr.ev rfl) (fr.ev rfl) (by simp [Value.oneCell']) B14 rfl rfl fun w201 hO202 hBq => ?_
       replace H := H.only hO202 (ne1P ap_FpR_b11)
       replace B4 := B4.only hO202 (by first | exact ne_b1_b11 | exact ne_b11_b1.symm | (show ¬ b1 = b11; omega))
       replace B9 := B9.only hO202 (by first | exact ne_b6_b11 | exact ne_b11_b6.symm | (show ¬ b6 = b11; omega))
       replace hQ24 := hQ24.only hO202 (Apart.ne1 ap_Q21_b11)
       replace OL := OL.only hO202 (Apart.ne1 ap_M9_b11)
       replace B29 := B29.only hO202 (by first | exact ne_b26_b11 | exact ne_b11_b26.symm | (show ¬ b26 = b11; omega))
       replace H186 := H186.only hO202 (ne1P ap_FpR185_b11)
       replace hF := hF.loc hO202 (.inr g_b11)
       replace B14 := hBq
       clear hBq
       refine wpList_nil ?_
       refine ⟨⟨H, B4, B9, hQ24, OL, B29, trivial⟩, ?_⟩
       refine fx_one (i := 8) (by kernel_rfl) (fx_op rfl ?_)
       refine fx_build1 (E := msgE) (p := (mkM 9 4 m.src m.line (lineB bs m.line) m.hn)) elMsg (by decide) fr rfl rfl (by decide) rfl (fr.ev rfl) ?_
       clear fr a
       intro A203 w204 hN205 O206 hA207 a fr
       have ap2_FpR_A203 : ∀ k, FpR k → inA A203 k → False := symP (new_apart2P hA207 fun _ hg => H.lt hg)
       have ap_A203_b1 : Apart A203 b1 := new_apart hA207 B4.lt
       have ap_A203_b6 : Apart A203 b6 := new_apart hA207 B9.lt
       have ap2_Q21_A203 : Apart2 Q21 A203 := (new_apart2 hA207 fun _ hg => hQ24.lt hg).symm
       have ap2_M9_A203 : Apart2 M9 A203 := (new_apart2 hA207 fun _ hg => OL.lt hg).symm
       have ap_A203_b26 : Apart A203 b26 := new_apart hA207 B29.lt
       have ap2_FpR185_A203 : ∀ k, FpR185 k → inA A203 k → False := symP (new_apart2P hA207 fun _ hg => H186.lt hg)
       have ap_A203_b11 : Apart A203 b11 := new_apart hA207 B14.lt
       have gA_A203 := gA_new hF hA207
       have gN_A203 := fun g (hg : inA A203 g) => Nat.le_trans hF.size (hA207 g hg)
       replace H := H.new hN205
       replace B4 := B4.new hN205
       replace B9 := B9.new hN205
       replace hQ24 := hQ24.new hN205
       replace OL := OL.new hN205
       replace B29 := B29.new hN205
       replace H186 := H186.new hN205
       replace B14 := B14.new hN205
       replace hF := hF.trNew hN205
       refine wpList_nil ?_
       refine ⟨⟨H, B4, B9, hQ24, OL, B29, trivial⟩, ?_⟩
       refine fx_hdone (by kernel_rfl) ?_
       refine fx_tail ?_
       refine fx_val (v := .slice A203 1 1) fr rfl rfl (by decide) (x_assign rfl (fr.ev rfl)) ?_
       clear fr a; intro a fr
       refine wpList_nil ?_
       refine fx_next ?_
       refine wp_ret ?_
       refine fx_ret fr [.cell 4 28, .tmp 5] [.agg (#[.slice A bs.length cap, .slice B183 ((E.set m.line.toNat (ownF (Ent.mk ((leaveF (entOf E m.line.toNat) m.src).o) ((entOf E m.line.toNat).sh) true m.src m.kind 0 true ((entOf E m.line.toNat).q)) m.src)).length) cb184]), .slice A203 1 1] rfl ⟨⟨_, rfl, x_loadV ag28 rfl B14.range⟩, rfl, trivial⟩ rfl ?_
       rw [begin_s3 (by omega) hc51 (by omega)]
       exact ⟨_, rfl, A, cap, B183, cb184, FpR185, A203, 1, rfl, ⟨_, H186⟩, O206, mF_FpR185, gN_A203, ap2_FpR185_A203, hF⟩
theorem rbegin_c (m : Msg) {w : World} {FpR : Nat → Prop} {A : Option Addr} {cap : Nat} {B : Option Addr} {cb : Nat} {bs : List UInt8} {E : List Ent} {X : List EC} (H : RefAt w FpR A cap B cb ⟨bs, E⟩ X) (hk : m.line.toNat < E.length) (hEb : E.length = bs.length / 16) (hb4 : bs.length ≤ 4096) (hsrc : 0 ≤ m.src ∧ m.src < 4) (hkd : 1 ≤ m.kind ∧ m.kind ≤ 3) : Calls Try.prog 41 #[.agg #[.slice A bs.length cap, .slice B E.length cb], .agg (msgE.arr m)] w (Ret fun v w' => ∃ A' c' B' cb' F' M mc, v = .tuple #[.agg #[.slice A' (beginF bs (entOf E m.line.toNat) m).2.1.length c', .slice B' (E.set m.line.toNat (beginF bs (entOf E m.line.toNat) m).1).length cb'], .slice M (beginF bs (entOf E m.line.toNat) m).2.2.length mc] ∧ RefH w' F' A' c' B' cb' ⟨(beginF bs (entOf E m.line.toNat) m).2.1, E.set m.line.toNat (beginF bs (entOf E m.line.toNat) m).1⟩ ∧ Own msgE w' M mc (beginF bs (entOf E m.line.toNat) m).2.2 ∧ (∀ g, F' g → FpR g ∨ w.heap.size ≤ g) ∧ (∀ g, inA M g → w.heap.size ≤ g) ∧ (∀ g, F' g → inA M g → False) ∧ New w w') := by
  by_cases h : m.kind = 3
  · exact rbegin_3 m H hk hEb hb4 hsrc h
  · exact rbegin_12 m H hk hEb hb4 hsrc ⟨hkd.1, by omega⟩
theorem rbegin_l (m : Msg) (n : Int) {w : World} {FpR : Nat → Prop} {A : Option Addr} {cap : Nat} {B : Option Addr} {cb : Nat} {bs : List UInt8} {E : List Ent} {X : List EC} (H : RefAt w FpR A cap B cb ⟨bs, E⟩ X) (hml : m.line = n) (hk : n.toNat < E.length) (hEb : E.length = bs.length / 16) (hb4 : bs.length ≤ 4096) (hsrc : 0 ≤ m.src ∧ m.src < 4) (hkd : 1 ≤ m.kind ∧ m.kind ≤ 3) : Calls Try.prog 41 #[.agg #[.slice A bs.length cap, .slice B E.length cb], .agg (msgE.arr m)] w (Ret fun v w' => ∃ A' c' B' cb' F' M mc, v = .tuple #[.agg #[.slice A' (beginF bs (entOf E n.toNat) m).2.1.length c', .slice B' (E.set n.toNat (beginF bs (entOf E n.toNat) m).1).length cb'], .slice M (beginF bs (entOf E n.toNat) m).2.2.length mc] ∧ RefH w' F' A' c' B' cb' ⟨(beginF bs (entOf E n.toNat) m).2.1, E.set n.toNat (beginF bs (entOf E n.toNat) m).1⟩ ∧ Own msgE w' M mc (beginF bs (entOf E n.toNat) m).2.2 ∧ (∀ g, F' g → FpR g ∨ w.heap.size ≤ g) ∧ (∀ g, inA M g → w.heap.size ≤ g) ∧ (∀ g, F' g → inA M g → False) ∧ New w w') := by
  subst hml
  exact rbegin_c m H hk hEb hb4 hsrc hkd
end Go.Proofs.Ytdiaemlgghfecaa
