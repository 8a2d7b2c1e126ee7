/-
  Part 5 of what the claim stands on: walks through the code, plain laws.
-/
import Derived.Test.YtflnlmibkbojcaaZAsks4
namespace Go.Proofs.Ytflnlmibkbojcaa
open Go.RowKit
set_option maxRecDepth 100000 in
set_option maxHeartbeats 4000000 in
theorem rctake_a1 (m : Msg) {w : World} {id : Int} {n : Nat} {ways : Int} {A : Option Addr} {cap : Nat} {L : List Ln} {ak : Bool} {al : Int} {aw gv : Bool} {gx : Ln} (hV : View lnE w A cap L) (hn : 0 < n ∧ n ≤ 64) (hl : L.length ≤ 1000) (hx : chk m ≠ 0) : Calls Try.prog 27 #[.agg (rcE.arr (RC.mk id ((n : Nat) : Int) ways A L.length cap (ak) al (aw) (gv) gx)), .agg (msgE.arr m)] w (Ret fun v w' => RefR w A (rTakeF (RD.mk id n ways L ak al aw gv gx) m) v w') := by
 have hVl := hV.len
 unfold maxLen at hVl
 have hmn := m.hn
 have hF := Only.refl (fun _ => False) w
 refine Zen 139 Try.func27 ?_
 refine Zsr ?_
 refine Znb (cs := rcE.arr (RC.mk id ((n : Nat) : Int) ways A L.length cap (ak) al (aw) (gv) gx)) fun b1 w2 hN3 B4 hb5 => ?_
 refine Znb (cs := msgE.arr m) fun b6 w7 hN8 B9 hb10 => ?_
 refine Zna (z := zv4) (cs := rcE.arr rc0) (by kernel_rfl) fun b11 w12 hN13 B14 hb15 => ?_
 replace hV := (hV.new hN3).new hN8
 have ap_A_b11 : Apart A b11 := hV.apart hb15
 replace hF := (hF.trNew hN3).trNew hN8
 have g_b11 := Nat.le_trans hF.size hb15
 refine Za ?_
 refine Za ?_
 refine Znn ?_
 refine Zsq ?_
 refine Zsr ?_
 replace B9 := B9.new hN13
 refine ZE msgE ag35 (B9.rangeE msgE) ?_
 refine Zk cf65 (refchk_c m _) ?_
 rintro v w16 ⟨rfl, hN17⟩
 refine Zv (.bool true) (fun _ fr => x_neq rfl (fr.ev rfl) rfl (decide_eq_true hx)) ?_
 refine Zm ?_
 refine Zs ?_
 refine Zs ?_
 refine Zs ?_
 refine Zs ?_
 refine Zs ?_
 refine Zpt ?_
 refine Znn ?_
 refine Zct ?_
 refine Zsr ?_
 replace B4 := ((B4.new hN8).new hN13).new hN17
 refine ZE rcE ag42 (B4.rangeE rcE) ?_
 replace B14 := B14.new hN17
 refine ZsS sz42 (rcE.all _) B14 (rcE.size _) (rcE.size _) fun w18 hO19 hBq => ?_
 replace B14 := hBq
 clear hBq
 refine Za ?_
 refine Za ?_
 refine Znn ?_
 refine Zrt ?_
 refine Zr1 ?_
 refine Zre rfl [_, _, _] ⟨⟨_, rfl, loadV_E (E := rcE) ag42 rfl (B14.rangeE rcE)⟩, rfl, rfl, trivial⟩ ?_
 have hq : rTakeF (RD.mk id n ways L ak al aw gv gx) m = ((RD.mk id n ways L (ak) al (aw) (gv) gx), ([] : List Msg), 2) := by unfold rTakeF; exact if_pos (.inl hx)
 replace hV := ((hV.new hN13).new hN17).only hO19 (Apart.ne1 ap_A_b11)
 replace hF := ((hF.trNew hN13).trNew hN17).loc hO19 (.inr g_b11)
 exact ⟨_, rfl, refR_mk (r' := (RD.mk id n ways L (ak) al (aw) (gv) gx)) (A' := A) (cap' := cap) (B := none) (cB := 0) (l := ([] : List Msg)) hq hV View.nil (fun g hg => .inl hg) (fun g hg => absurd hg (apart_none g)) hF⟩
set_option maxRecDepth 100000 in
set_option maxHeartbeats 4000000 in
theorem rctake_a2 (m : Msg) {w : World} {id : Int} {n : Nat} {ways : Int} {A : Option Addr} {cap : Nat} {L : List Ln} {ak : Bool} {al : Int} {aw gv : Bool} {gx : Ln} (hV : View lnE w A cap L) (hn : 0 < n ∧ n ≤ 64) (hl : L.length ≤ 1000) (hc : ¬ chk m ≠ 0) (hx : m.dst ≠ id) : Calls Try.prog 27 #[.agg (rcE.arr (RC.mk id ((n : Nat) : Int) ways A L.length cap (ak) al (aw) (gv) gx)), .agg (msgE.arr m)] w (Ret fun v w' => RefR w A (rTakeF (RD.mk id n ways L ak al aw gv gx) m) v w') := by
 have hVl := hV.len
 unfold maxLen at hVl
 have hmn := m.hn
 have hF := Only.refl (fun _ => False) w
 refine Zen 139 Try.func27 ?_
 refine Zsr ?_
 refine Znb (cs := rcE.arr (RC.mk id ((n : Nat) : Int) ways A L.length cap (ak) al (aw) (gv) gx)) fun b1 w2 hN3 B4 hb5 => ?_
 refine Znb (cs := msgE.arr m) fun b6 w7 hN8 B9 hb10 => ?_
 refine Zna (z := zv4) (cs := rcE.arr rc0) (by kernel_rfl) fun b11 w12 hN13 B14 hb15 => ?_
 replace hV := (hV.new hN3).new hN8
 have ap_A_b11 : Apart A b11 := hV.apart hb15
 replace hF := (hF.trNew hN3).trNew hN8
 have g_b11 := Nat.le_trans hF.size hb15
 refine Za ?_
 refine Za ?_
 refine Znn ?_
 refine Zsq ?_
 refine Zsr ?_
 replace B9 := B9.new hN13
 refine ZE msgE ag35 (B9.rangeE msgE) ?_
 refine Zk cf65 (refchk_c m _) ?_
 rintro v w16 ⟨rfl, hN17⟩
 refine Zv (.bool false) (fun _ fr => x_neq rfl (fr.ev rfl) rfl (decide_eq_false hc)) ?_
 refine Zm ?_
 refine Zf fo35_2 ?_
 replace B9 := B9.new hN17
 refine Zd (v := .int .i64 m.dst) pl3 (B9.cell 2 rfl) ?_
 refine Zf fo42_0 ?_
 replace B4 := ((B4.new hN8).new hN13).new hN17
 refine Zd (v := .int .i64 id) pl3 (B4.cell 0 rfl) ?_
 refine Zv (.bool true) (fun _ fr => x_neq rfl (fr.ev rfl) (fr.ev rfl) (decide_eq_true hx)) ?_
 refine Zpf ?_
 refine Znn ?_
 refine Zct ?_
 refine Zsr ?_
 refine ZE rcE ag42 (B4.rangeE rcE) ?_
 replace B14 := B14.new hN17
 refine ZsS sz42 (rcE.all _) B14 (rcE.size _) (rcE.size _) fun w18 hO19 hBq => ?_
 replace B14 := hBq
 clear hBq
 refine Za ?_
 refine Za ?_
 refine Znn ?_
 refine Zrt ?_
 refine Zr1 ?_
 refine Zre rfl [_, _, _] ⟨⟨_, rfl, loadV_E (E := rcE) ag42 rfl (B14.rangeE rcE)⟩, rfl, rfl, trivial⟩ ?_
 have hq : rTakeF (RD.mk id n ways L ak al aw gv gx) m = ((RD.mk id n ways L (ak) al (aw) (gv) gx), ([] : List Msg), 2) := by unfold rTakeF; exact if_pos (.inr hx)
 replace hV := ((hV.new hN13).new hN17).only hO19 (Apart.ne1 ap_A_b11)
 replace hF := ((hF.trNew hN13).trNew hN17).loc hO19 (.inr g_b11)
 exact ⟨_, rfl, refR_mk (r' := (RD.mk id n ways L (ak) al (aw) (gv) gx)) (A' := A) (cap' := cap) (B := none) (cB := 0) (l := ([] : List Msg)) hq hV View.nil (fun g hg => .inl hg) (fun g hg => absurd hg (apart_none g)) hF⟩
set_option maxRecDepth 100000 in
set_option maxHeartbeats 4000000 in
theorem rctake_8 (m : Msg) {w : World} {id : Int} {n : Nat} {ways : Int} {A : Option Addr} {cap : Nat} {L : List Ln} {ak : Bool} {al : Int} {aw gv : Bool} {gx : Ln} (hV : View lnE w A cap L) (hn : 0 < n ∧ n ≤ 64) (hl : L.length ≤ 1000) (hck : chk m = 0) (hdn : m.dst = id) (hk : m.kind = 8)  : Calls Try.prog 27 #[.agg (rcE.arr (RC.mk id ((n : Nat) : Int) ways A L.length cap (ak) al (aw) (gv) gx)), .agg (msgE.arr m)] w (Ret fun v w' => RefR w A (rTakeF (RD.mk id n ways L ak al aw gv gx) m) v w') := by
 have hVl := hV.len
 unfold maxLen at hVl
 have hmn := m.hn
 have hF := Only.refl (fun _ => False) w
 refine Zen 139 Try.func27 ?_
 refine Zsr ?_
 refine Znb (cs := rcE.arr (RC.mk id ((n : Nat) : Int) ways A L.length cap (ak) al (aw) (gv) gx)) fun b1 w2 hN3 B4 hb5 => ?_
 have ap_A_b1 : Apart A b1 := hV.apart hb5
 have g_b1 := Nat.le_trans hF.size hb5
 refine Znb (cs := msgE.arr m) fun b6 w7 hN8 B9 hb10 => ?_
 refine Zna (z := zv4) (cs := rcE.arr rc0) (by kernel_rfl) fun b11 w12 hN13 B14 hb15 => ?_
 replace hV := (hV.new hN3).new hN8
 have ap_A_b11 : Apart A b11 := hV.apart hb15
 replace B4 := B4.new hN8
 have ne_b1_b11 : NE b1 b11 := NE.mk (Nat.lt_of_lt_of_le B4.lt hb15)
 replace hF := (hF.trNew hN3).trNew hN8
 have g_b11 := Nat.le_trans hF.size hb15
 refine Za ?_
 refine Za ?_
 refine Znn ?_
 refine Zsq ?_
 refine Zsq ?_
 have hck2 : ¬ chk m ≠ 0 := fun h => h hck
 have hdn2 : ¬ m.dst ≠ id := fun h => h hdn
 refine Zrg ?_
 replace B9 := B9.new hN13
 refine ZE msgE ag35 (B9.rangeE msgE) ?_
 refine Zk cf65 (refchk_c m _) ?_
 rintro v w16 ⟨rfl, hN17⟩
 refine Zv (.bool false) (fun _ fr => x_neq rfl (fr.ev rfl) rfl (decide_eq_false hck2)) ?_
 refine Zm ?_
 refine Zf fo35_2 ?_
 replace B9 := B9.new hN17
 refine Zd (v := .int .i64 m.dst) pl3 (B9.cell 2 rfl) ?_
 refine Zf fo42_0 ?_
 replace B4 := (B4.new hN13).new hN17
 refine Zd (v := .int .i64 id) pl3 (B4.cell 0 rfl) ?_
 refine Zv (.bool false) (fun _ fr => x_neq rfl (fr.ev rfl) (fr.ev rfl) (decide_eq_false hdn2)) ?_
 refine Zpf ?_
 refine Znn ?_
 refine Zcf ?_
 refine Zsk ?_
 refine Znx ?_
 refine Zsq ?_
 refine ZhT (n := 5) 5 (fun w => Blk w b6 35 (msgE.arr m) ∧ True) ?_
 intro w18 hN19
 replace B9 := B9.new hN19
 have hS9 := And.intro B9 trivial
 refine Zhf 0 fo35_3 hS9 ?_
 refine Zhl (v := .int .u32 m.line) 1 pl32 hS9 (fun _ ⟨B9, _⟩ => (B9.cell 3 rfl)) ?_
 refine Zhf 2 fo35_0 hS9 ?_
 refine Zhl (v := .int .i64 m.kind) 3 pl33 hS9 (fun _ ⟨B9, _⟩ => (B9.cell 0 rfl)) ?_
 refine Zha 4 hS9 ?_
 refine Zhn ?_
 refine Ztl ?_
 refine Za ?_
 refine Znn ?_
 refine Zsr ?_
 replace B4 := B4.new hN19
 refine ZE rcE ag42 (B4.rangeE rcE) ?_
 refine Zm ?_
 replace hV := ((hV.new hN13).new hN17).new hN19
 refine Zk cf60 (rcstate_c m.line (hV)) ?_
 rintro v w20 ⟨rfl, hN21⟩
 refine Za ?_
 refine Znn ?_
 refine Zsr ?_
 refine Zf fo42_7 ?_
 replace B4 := B4.new hN21
 refine Zd (v := .bool (gv)) pl4 (B4.cell 7 rfl) ?_
 refine Zm ?_
 refine Zy (gv) _ (fun _ fr _ => x_fieldAddr fo42_8 rfl (fr.ev rfl) rfl) ?_
 refine Zy (gv) _ (fun _ fr hg => x_fieldAddr fo39_0 rfl ((fr.ev rfl).trans (onlyIf_t hg)) rfl) ?_
 refine Zy (gv) _ (fun _ fr hg => x_load1 pl32 rfl ((fr.ev rfl).trans (onlyIf_t hg)) (B4.cell 8 rfl)) ?_
 refine Zy (gv) _ (fun _ fr _ => x_move rfl (fr.ev rfl)) ?_
 refine Zy (gv) _ (fun _ fr hg => x_eql rfl ((fr.ev rfl).trans (onlyIf_t hg)) ((fr.ev rfl).trans (onlyIf_t hg)) rfl) ?_
 refine Zv (.bool ((gv) && (decide (gx.num = m.line)))) (fun _ fr => x_pick_and rfl (fr.ev rfl) (fun hb => ((fr.ev rfl)).trans (onlyIf_t (by simp_all))) (fun _ => rfl) rfl) ?_
 refine Za ?_
 refine Znn ?_
 refine Zsq ?_
 refine Zsr ?_
 refine Zm ?_
 refine Znn ?_
 refine Zbl ?_
 refine Zsq ?_
 refine Zsr ?_
 refine Zv (.bool true) (fun _ fr => x_eql rfl (fr.ev rfl) rfl (decide_eq_true (by omega))) ?_
 refine Za ?_
 refine Znn ?_
 refine Zct ?_
 refine Zsk ?_
 refine Znx ?_
 refine Zct ?_
 refine Zsq ?_
 refine Zsr ?_
 refine Zf fo42_4 ?_
 refine Zd (v := .bool (ak)) pl4 (B4.cell 4 rfl) ?_
 refine Zv (.bool (!(ak))) (fun _ fr => x_not rfl (fr.ev rfl) rfl) ?_
 refine Zm ?_
 refine Zy (!(!(ak))) _ (fun _ fr _ => x_fieldAddr fo42_5 rfl (fr.ev rfl) rfl) ?_
 refine Zy (!(!(ak))) (.int .u32 al) (fun _ fr hg => x_load1 pl32 rfl ((fr.ev rfl).trans (onlyIf_t hg)) (B4.cell 5 rfl)) ?_
 refine Zy (!(!(ak))) _ (fun _ fr _ => x_move rfl (fr.ev rfl)) ?_
 refine Zy (!(!(ak))) _ (fun _ fr hg => x_neq rfl ((fr.ev rfl).trans (onlyIf_t hg)) ((fr.ev rfl).trans (onlyIf_t hg)) rfl) ?_
 refine Zv (.bool ((!(ak)) || (decide (al ≠ m.line)))) (fun _ fr => x_pick_or rfl (fr.ev rfl) (fun _ => rfl) (fun hb => ((fr.ev rfl)).trans (onlyIf_t (by simp_all))) rfl) ?_
 refine Zm ?_
 refine Zy (!((!(ak)) || (decide (al ≠ m.line)))) _ (fun _ fr _ => x_fieldAddr fo42_6 rfl (fr.ev rfl) rfl) ?_
 refine Zy (!((!(ak)) || (decide (al ≠ m.line)))) (.bool (aw)) (fun _ fr hg => x_load1 pl4 rfl ((fr.ev rfl).trans (onlyIf_t hg)) (B4.cell 6 rfl)) ?_
 refine Zy (!((!(ak)) || (decide (al ≠ m.line)))) _ (fun _ fr _ => x_move rfl (fr.ev rfl)) ?_
 refine Zy (!((!(ak)) || (decide (al ≠ m.line)))) (.bool false) (fun _ fr hg => x_eql rfl ((fr.ev rfl).trans (onlyIf_t hg)) rfl (decide_eq_false (by omega))) ?_
 refine Zy (!((!(ak)) || (decide (al ≠ m.line)))) _ (fun _ fr hg => x_bneq Try.underlying4 rfl ((fr.ev rfl).trans (onlyIf_t hg)) ((fr.ev rfl).trans (onlyIf_t hg)) rfl) ?_
 refine Zv (.bool (((!(ak)) || (decide (al ≠ m.line))) || ((aw) != false))) (fun _ fr => x_pick_or rfl (fr.ev rfl) (fun _ => rfl) (fun hb => ((fr.ev rfl)).trans (onlyIf_t (by simp_all))) rfl) ?_
 refine Znn ?_
 refine Zcd (fun hc22 => ?_) (fun hc22 => ?_)
 ·have hc22s := hc22
  try simp at hc22s
  refine Zsr ?_
  refine ZE rcE ag42 (B4.rangeE rcE) ?_
  replace B14 := ((B14.new hN17).new hN19).new hN21
  refine ZsS sz42 (rcE.all _) B14 (rcE.size _) (rcE.size _) fun w23 hO24 hBq => ?_
  replace B14 := hBq
  clear hBq
  refine Za ?_
  refine Za ?_
  refine Znn ?_
  refine Zrt ?_
  refine Zr1 ?_
  refine Zr2 ?_
  refine Zr1 ?_
  refine Zre rfl [_, _, _] ⟨⟨_, rfl, loadV_E (E := rcE) ag42 rfl (B14.rangeE rcE)⟩, rfl, rfl, trivial⟩ ?_
  have hkd : decide (m.kind = 10) = false := decide_eq_false (by omega)
  have hd : rDataOk (RD.mk id n ways L ak al aw gv gx) m = false := by have h9 := hc22; rw [data_txt] at h9; unfold rDataOk; rw [hkd]; simpa only [Bool.not_eq_true', Bool.not_eq_false'] using h9
  have hq : rTakeF (RD.mk id n ways L ak al aw gv gx) m = ((RD.mk id n ways L (ak) al (aw) (gv) gx), ([] : List Msg), 220) := by unfold rTakeF; rw [if_neg (show ¬ (chk m ≠ 0 ∨ m.dst ≠ id) by rintro (h | h); exact h hck; exact h hdn), if_pos (show m.kind = 8 ∨ m.kind = 9 ∨ m.kind = 10 by omega), if_neg (show ¬ rDataOk (RD.mk id n ways L ak al aw gv gx) m = true by rw [hd]; decide)]
  replace hF := ((((hF.trNew hN13).trNew hN17).trNew hN19).trNew hN21).loc hO24 (.inr g_b11)
  replace hV := (hV.new hN21).only hO24 (Apart.ne1 ap_A_b11)
  exact ⟨_, rfl, refR_mk (r' := (RD.mk id n ways L (ak) al (aw) (gv) gx)) (A' := A) (cap' := cap) (B := none) (cB := 0) (l := ([] : List Msg)) hq hV View.nil (fun g hg => .inl hg) (fun g hg => absurd hg (apart_none g)) hF⟩
 ·have hc22s := hc22
  try simp at hc22s
  refine Zsk ?_
  refine Znx ?_
  refine Zsr ?_
  refine Zm ?_
  refine Zf fo35_4 ?_
  replace B9 := B9.new hN21
  refine ZE (p := m.bs) bsE ag22 (B9.part (msg_bs _)) ?_
  refine Zv (.agg (lnE.arr (mkL m.line 2 m.bs))) (fun a fr => x_build (cells := lnE.arr (mkL m.line 2 m.bs)) rfl (by simp only [List.map_toArray, List.map_cons, List.map_nil, show a.eval (.tmp 63) = .int .u32 m.line from fr.ev rfl, show a.eval (.tmp 65) = .agg (bsE.arr m.bs) from fr.ev rfl]; exact built_ln _ _ _ _)) ?_
  refine Zna (z := zv1) (cs := lnE.arr ln0) (by kernel_rfl) fun b25 w26 hN27 B28 hb29 => ?_
  replace hV := hV.new hN21
  have ap_A_b25 : Apart A b25 := hV.apart hb29
  have ne_b1_b25 : NE b1 b25 := NE.mk (Nat.lt_of_lt_of_le B4.lt hb29)
  replace B14 := ((B14.new hN17).new hN19).new hN21
  have ne_b11_b25 : NE b11 b25 := NE.mk (Nat.lt_of_lt_of_le B14.lt hb29)
  replace hF := (((hF.trNew hN13).trNew hN17).trNew hN19).trNew hN21
  have g_b25 := Nat.le_trans hF.size hb29
  refine ZsS sz39 (lnE.all _) B28 (lnE.size _) (lnE.size _) fun w30 hO31 hBq => ?_
  replace B28 := hBq
  clear hBq
  refine Znn ?_
  refine Zsq ?_
  refine Zsr ?_
  refine Zm ?_
  refine Zv (.bool true) (fun _ fr => x_eql rfl (fr.ev rfl) rfl (decide_eq_true (by omega))) ?_
  refine Znn ?_
  refine Zct ?_
  refine Zrg ?_
  refine Zf fo39_1 ?_
  refine Zs1 (cs' := lnE.arr { (mkL m.line 2 m.bs) with state := 1 }) sz36 B28 (by rw [lnE.size]; decide) (ln_setstate _ _) fun w32 hO33 hBq => ?_
  replace B28 := hBq
  clear hBq
  refine Znn ?_
  refine Zsr ?_
  refine Zf fo42_4 ?_
  replace B4 := ((B4.new hN27).only hO31 ne_b1_b25).only hO33 ne_b1_b25
  refine Zs1 (cs' := rcE.arr (RC.mk id ((n : Nat) : Int) ways A L.length cap false al (aw) (gv) gx)) sz4 B4 (by rw [rcE.size]; decide) (rc_set4 _ _) fun w34 hO35 hBq => ?_
  replace B4 := hBq
  clear hBq
  refine Zf fo42_5 ?_
  refine Zs1 (cs' := rcE.arr (RC.mk id ((n : Nat) : Int) ways A L.length cap false 0 (aw) (gv) gx)) sz32 B4 (by rw [rcE.size]; decide) (rc_set5 _ _) fun w36 hO37 hBq => ?_
  replace B4 := hBq
  clear hBq
  refine Zf fo42_6 ?_
  refine Zs1 (cs' := rcE.arr (RC.mk id ((n : Nat) : Int) ways A L.length cap false 0 false (gv) gx)) sz4 B4 (by rw [rcE.size]; decide) (rc_set6 _ _) fun w38 hO39 hBq => ?_
  replace B4 := hBq
  clear hBq
  refine Znn ?_
  refine Zsq ?_
  refine ZhT (n := 8) 8 (fun w => Blk w b25 39 (lnE.arr { (mkL m.line 2 m.bs) with state := 1 }) ∧ Blk w b1 42 (rcE.arr (RC.mk id ((n : Nat) : Int) ways A L.length cap false 0 false (gv) gx)) ∧ True) ?_
  intro w40 hN41
  replace B28 := (((B28.only hO35 ne_b1_b25.symm).only hO37 ne_b1_b25.symm).only hO39 ne_b1_b25.symm).new hN41
  replace B4 := B4.new hN41
  have hS9 := And.intro B28 (And.intro B4 trivial)
  refine ZhE 0 rcE ag42 hS9 (fun _ ⟨_, B4, _⟩ => (B4.rangeE rcE)) ?_
  refine ZhE 1 lnE ag39 hS9 (fun _ ⟨B28, _⟩ => (B28.rangeE lnE)) ?_
  refine ZhE 3 rcE ag42 hS9 (fun _ ⟨_, B4, _⟩ => (B4.rangeE rcE)) ?_
  refine Zhm 4 hS9 ?_
  refine Zh1 2 ?_
  replace hV := ((((((hV.new hN27).only hO31 (Apart.ne1 ap_A_b25)).only hO33 (Apart.ne1 ap_A_b25)).only hO35 (Apart.ne1 ap_A_b1)).only hO37 (Apart.ne1 ap_A_b1)).only hO39 (Apart.ne1 ap_A_b1)).new hN41
  refine Zk (args := #[.agg (rcE.arr (RC.mk id ((n : Nat) : Int) ways A L.length cap false 0 false (gv) gx)), .agg (lnE.arr { (mkL m.line 2 m.bs) with state := 1 })]) cf59 (rcwith_c ({ (mkL m.line 2 m.bs) with state := 1 }) (hV) (by omega) (by omega)) ?_
  rintro v w46 ⟨A42, cap43, rfl, V44, hA45, hN47⟩
  replace B14 := ((((((B14.new hN27).only hO31 ne_b11_b25).only hO33 ne_b11_b25).only hO35 ne_b1_b11.symm).only hO37 ne_b1_b11.symm).only hO39 ne_b1_b11.symm).new hN41
  have ap_A42_b11 : Apart A42 b11 := new_apart hA45 B14.lt
  replace hF := ((((((hF.trNew hN27).loc hO31 (.inr g_b25)).loc hO33 (.inr g_b25)).loc hO35 (.inr g_b1)).loc hO37 (.inr g_b1)).loc hO39 (.inr g_b1)).trNew hN41
  have gA_A42 := gA_new hF hA45
  replace B28 := B28.new hN47
  replace B4 := B4.new hN47
  refine Zhb ⟨B28, B4, trivial⟩ ?_
  refine Zh1 5 ?_
  refine Zk (args := #[.agg (rcE.arr (RC.mk id ((n : Nat) : Int) ways A L.length cap false 0 false (gv) gx)), .int .i64 13, .int .u32 m.line]) cf64 (rcmsg_c 13 m.line (by omega) _) ?_
  rintro v w48 ⟨rfl, hN49⟩
  replace B28 := B28.new hN49
  replace B4 := B4.new hN49
  refine Zhb ⟨B28, B4, trivial⟩ ?_
  refine Zh2 6 7 ?_ ?_
  ·intro a fr
   refine fx_build1 (E := msgE) (p := (mkM 13 id 4 m.line)) elMsg (by decide) fr rfl rfl (by decide) rfl (fr.ev rfl) ?_
   clear fr a
   intro A50 w51 hN52 O53 hA54
   replace B14 := (B14.new hN47).new hN49
   have ap_A50_b11 : Apart A50 b11 := new_apart hA54 B14.lt
   replace hF := (hF.trNew hN47).trNew hN49
   have gA_A50 := gA_new hF hA54
   replace B28 := B28.new hN52
   replace B4 := B4.new hN52
   refine Zhb ⟨B28, B4, trivial⟩ ?_
   refine Zh1 7 ?_
   replace B14 := B14.new hN52
   refine ZsS sz42 (rcE.all _) B14 (rcE.size _) (rcE.size _) fun w55 hO56 hBq => ?_
   replace B14 := hBq
   clear hBq
   replace B28 := B28.only hO56 ne_b11_b25.symm
   replace B4 := B4.only hO56 ne_b1_b11
   refine Zhb ⟨B28, B4, trivial⟩ ?_
   refine Zhn ?_
   refine Ztl ?_
   refine Za ?_
   refine Za ?_
   refine Znn ?_
   refine Zrt ?_
   refine Zr2 ?_
   refine Zr1 ?_
   refine Zre rfl [_, _, _] ⟨⟨_, rfl, loadV_E (E := rcE) ag42 rfl (B14.rangeE rcE)⟩, rfl, rfl, trivial⟩ ?_
   have hkd : decide (m.kind = 10) = false := decide_eq_false (by omega)
   have hd : rDataOk (RD.mk id n ways L ak al aw gv gx) m = true := by have h9 := hc22; rw [data_txt] at h9; unfold rDataOk; rw [hkd]; simpa only [Bool.not_eq_true', Bool.not_eq_false'] using h9
   have hdl : dataLn m = mkL m.line 1 m.bs m.hn := by unfold dataLn; rw [if_pos (by omega)]
   have hq : rTakeF (RD.mk id n ways L ak al aw gv gx) m = ((RD.mk id n ways (withF n L ({ (mkL m.line 2 m.bs) with state := 1 })) false 0 false (gv) gx), [(mkM 13 id 4 m.line)], 0) := by unfold rTakeF; rw [if_neg (show ¬ (chk m ≠ 0 ∨ m.dst ≠ id) by rintro (h | h); exact h hck; exact h hdn), if_pos (show m.kind = 8 ∨ m.kind = 9 ∨ m.kind = 10 by omega), if_pos hd, hdl]; try rfl
   replace V44 := ((V44.new hN49).new hN52).only hO56 (Apart.ne1 ap_A42_b11)
   replace hF := (hF.trNew hN52).loc hO56 (.inr g_b11)
   replace O53 := O53.only hO56 (Apart.ne1 ap_A50_b11)
   exact ⟨_, rfl, refR_mk (r' := (RD.mk id n ways (withF n L ({ (mkL m.line 2 m.bs) with state := 1 })) false 0 false (gv) gx)) (A' := A42) (cap' := cap43) (B := A50) (cB := 1) (l := [(mkM 13 id 4 m.line)]) hq V44 (O53).view (fun g hg => .inr ((gA_A42 g hg).resolve_left (fun h => h))) (fun g hg => (gA_A50 g hg).resolve_left (fun h => h)) hF⟩
  ·replace B14 := (B14.new hN47).new hN49
   refine ZsS sz42 (rcE.all _) B14 (rcE.size _) (rcE.size _) fun w57 hO58 hBq => ?_
   replace B14 := hBq
   clear hBq
   replace B28 := B28.only hO58 ne_b11_b25.symm
   replace B4 := B4.only hO58 ne_b1_b11
   refine Zhb ⟨B28, B4, trivial⟩ ?_
   refine Zh1 6 ?_
   intro a fr
   refine fx_build1 (E := msgE) (p := (mkM 13 id 4 m.line)) elMsg (by decide) fr rfl rfl (by decide) rfl (fr.ev rfl) ?_
   clear fr a
   intro A59 w60 hN61 O62 hA63
   replace hF := ((hF.trNew hN47).trNew hN49).loc hO58 (.inr g_b11)
   have gA_A59 := gA_new hF hA63
   replace B28 := B28.new hN61
   replace B4 := B4.new hN61
   refine Zhb ⟨B28, B4, trivial⟩ ?_
   refine Zhn ?_
   refine Ztl ?_
   refine Za ?_
   refine Za ?_
   refine Znn ?_
   refine Zrt ?_
   refine Zr2 ?_
   refine Zr1 ?_
   replace B14 := B14.new hN61
   refine Zre rfl [_, _, _] ⟨⟨_, rfl, loadV_E (E := rcE) ag42 rfl (B14.rangeE rcE)⟩, rfl, rfl, trivial⟩ ?_
   have hkd : decide (m.kind = 10) = false := decide_eq_false (by omega)
   have hd : rDataOk (RD.mk id n ways L ak al aw gv gx) m = true := by have h9 := hc22; rw [data_txt] at h9; unfold rDataOk; rw [hkd]; simpa only [Bool.not_eq_true', Bool.not_eq_false'] using h9
   have hdl : dataLn m = mkL m.line 1 m.bs m.hn := by unfold dataLn; rw [if_pos (by omega)]
   have hq : rTakeF (RD.mk id n ways L ak al aw gv gx) m = ((RD.mk id n ways (withF n L ({ (mkL m.line 2 m.bs) with state := 1 })) false 0 false (gv) gx), [(mkM 13 id 4 m.line)], 0) := by unfold rTakeF; rw [if_neg (show ¬ (chk m ≠ 0 ∨ m.dst ≠ id) by rintro (h | h); exact h hck; exact h hdn), if_pos (show m.kind = 8 ∨ m.kind = 9 ∨ m.kind = 10 by omega), if_pos hd, hdl]; try rfl
   replace V44 := ((V44.new hN49).only hO58 (Apart.ne1 ap_A42_b11)).new hN61
   replace hF := hF.trNew hN61
   exact ⟨_, rfl, refR_mk (r' := (RD.mk id n ways (withF n L ({ (mkL m.line 2 m.bs) with state := 1 })) false 0 false (gv) gx)) (A' := A42) (cap' := cap43) (B := A59) (cB := 1) (l := [(mkM 13 id 4 m.line)]) hq V44 (O62).view (fun g hg => .inr ((gA_A42 g hg).resolve_left (fun h => h))) (fun g hg => (gA_A59 g hg).resolve_left (fun h => h)) hF⟩
set_option maxRecDepth 100000 in
set_option maxHeartbeats 4000000 in
theorem rctake_9 (m : Msg) {w : World} {id : Int} {n : Nat} {ways : Int} {A : Option Addr} {cap : Nat} {L : List Ln} {ak : Bool} {al : Int} {aw gv : Bool} {gx : Ln} (hV : View lnE w A cap L) (hn : 0 < n ∧ n ≤ 64) (hl : L.length ≤ 1000) (hck : chk m = 0) (hdn : m.dst = id) (hk : m.kind = 9)  : Calls Try.prog 27 #[.agg (rcE.arr (RC.mk id ((n : Nat) : Int) ways A L.length cap (ak) al (aw) (gv) gx)), .agg (msgE.arr m)] w (Ret fun v w' => RefR w A (rTakeF (RD.mk id n ways L ak al aw gv gx) m) v w') := by
 have hVl := hV.len
 unfold maxLen at hVl
 have hmn := m.hn
 have hF := Only.refl (fun _ => False) w
 refine Zen 139 Try.func27 ?_
 refine Zsr ?_
 refine Znb (cs := rcE.arr (RC.mk id ((n : Nat) : Int) ways A L.length cap (ak) al (aw) (gv) gx)) fun b1 w2 hN3 B4 hb5 => ?_
 have ap_A_b1 : Apart A b1 := hV.apart hb5
 have g_b1 := Nat.le_trans hF.size hb5
 refine Znb (cs := msgE.arr m) fun b6 w7 hN8 B9 hb10 => ?_
 refine Zna (z := zv4) (cs := rcE.arr rc0) (by kernel_rfl) fun b11 w12 hN13 B14 hb15 => ?_
 replace hV := (hV.new hN3).new hN8
 have ap_A_b11 : Apart A b11 := hV.apart hb15
 replace B4 := B4.new hN8
 have ne_b1_b11 : NE b1 b11 := NE.mk (Nat.lt_of_lt_of_le B4.lt hb15)
 replace hF := (hF.trNew hN3).trNew hN8
 have g_b11 := Nat.le_trans hF.size hb15
 refine Za ?_
 refine Za ?_
 refine Znn ?_
 refine Zsq ?_
 refine Zsq ?_
 have hck2 : ¬ chk m ≠ 0 := fun h => h hck
 have hdn2 : ¬ m.dst ≠ id := fun h => h hdn
 refine Zrg ?_
 replace B9 := B9.new hN13
 refine ZE msgE ag35 (B9.rangeE msgE) ?_
 refine Zk cf65 (refchk_c m _) ?_
 rintro v w16 ⟨rfl, hN17⟩
 refine Zv (.bool false) (fun _ fr => x_neq rfl (fr.ev rfl) rfl (decide_eq_false hck2)) ?_
 refine Zm ?_
 refine Zf fo35_2 ?_
 replace B9 := B9.new hN17
 refine Zd (v := .int .i64 m.dst) pl3 (B9.cell 2 rfl) ?_
 refine Zf fo42_0 ?_
 replace B4 := (B4.new hN13).new hN17
 refine Zd (v := .int .i64 id) pl3 (B4.cell 0 rfl) ?_
 refine Zv (.bool false) (fun _ fr => x_neq rfl (fr.ev rfl) (fr.ev rfl) (decide_eq_false hdn2)) ?_
 refine Zpf ?_
 refine Znn ?_
 refine Zcf ?_
 refine Zsk ?_
 refine Znx ?_
 refine Zsq ?_
 refine ZhT (n := 5) 5 (fun w => Blk w b6 35 (msgE.arr m) ∧ True) ?_
 intro w18 hN19
 replace B9 := B9.new hN19
 have hS9 := And.intro B9 trivial
 refine Zhf 0 fo35_3 hS9 ?_
 refine Zhl (v := .int .u32 m.line) 1 pl32 hS9 (fun _ ⟨B9, _⟩ => (B9.cell 3 rfl)) ?_
 refine Zhf 2 fo35_0 hS9 ?_
 refine Zhl (v := .int .i64 m.kind) 3 pl33 hS9 (fun _ ⟨B9, _⟩ => (B9.cell 0 rfl)) ?_
 refine Zha 4 hS9 ?_
 refine Zhn ?_
 refine Ztl ?_
 refine Za ?_
 refine Znn ?_
 refine Zsr ?_
 replace B4 := B4.new hN19
 refine ZE rcE ag42 (B4.rangeE rcE) ?_
 refine Zm ?_
 replace hV := ((hV.new hN13).new hN17).new hN19
 refine Zk cf60 (rcstate_c m.line (hV)) ?_
 rintro v w20 ⟨rfl, hN21⟩
 refine Za ?_
 refine Znn ?_
 refine Zsr ?_
 refine Zf fo42_7 ?_
 replace B4 := B4.new hN21
 refine Zd (v := .bool (gv)) pl4 (B4.cell 7 rfl) ?_
 refine Zm ?_
 refine Zy (gv) _ (fun _ fr _ => x_fieldAddr fo42_8 rfl (fr.ev rfl) rfl) ?_
 refine Zy (gv) _ (fun _ fr hg => x_fieldAddr fo39_0 rfl ((fr.ev rfl).trans (onlyIf_t hg)) rfl) ?_
 refine Zy (gv) _ (fun _ fr hg => x_load1 pl32 rfl ((fr.ev rfl).trans (onlyIf_t hg)) (B4.cell 8 rfl)) ?_
 refine Zy (gv) _ (fun _ fr _ => x_move rfl (fr.ev rfl)) ?_
 refine Zy (gv) _ (fun _ fr hg => x_eql rfl ((fr.ev rfl).trans (onlyIf_t hg)) ((fr.ev rfl).trans (onlyIf_t hg)) rfl) ?_
 refine Zv (.bool ((gv) && (decide (gx.num = m.line)))) (fun _ fr => x_pick_and rfl (fr.ev rfl) (fun hb => ((fr.ev rfl)).trans (onlyIf_t (by simp_all))) (fun _ => rfl) rfl) ?_
 refine Za ?_
 refine Znn ?_
 refine Zsq ?_
 refine Zsr ?_
 refine Zm ?_
 refine Znn ?_
 refine Zbl ?_
 refine Zsq ?_
 refine Zsr ?_
 refine Zv (.bool false) (fun _ fr => x_eql rfl (fr.ev rfl) rfl (decide_eq_false (by omega))) ?_
 refine Za ?_
 refine Znn ?_
 refine Zcf ?_
 refine Zsr ?_
 refine Zv (.bool true) (fun _ fr => x_eql rfl (fr.ev rfl) rfl (decide_eq_true (by omega))) ?_
 refine Za ?_
 refine Znn ?_
 refine Zct ?_
 refine Zsk ?_
 refine Znx ?_
 refine Zct ?_
 refine Zsq ?_
 refine Zsr ?_
 refine Zf fo42_4 ?_
 refine Zd (v := .bool (ak)) pl4 (B4.cell 4 rfl) ?_
 refine Zv (.bool (!(ak))) (fun _ fr => x_not rfl (fr.ev rfl) rfl) ?_
 refine Zm ?_
 refine Zy (!(!(ak))) _ (fun _ fr _ => x_fieldAddr fo42_5 rfl (fr.ev rfl) rfl) ?_
 refine Zy (!(!(ak))) (.int .u32 al) (fun _ fr hg => x_load1 pl32 rfl ((fr.ev rfl).trans (onlyIf_t hg)) (B4.cell 5 rfl)) ?_
 refine Zy (!(!(ak))) _ (fun _ fr _ => x_move rfl (fr.ev rfl)) ?_
 refine Zy (!(!(ak))) _ (fun _ fr hg => x_neq rfl ((fr.ev rfl).trans (onlyIf_t hg)) ((fr.ev rfl).trans (onlyIf_t hg)) rfl) ?_
 refine Zv (.bool ((!(ak)) || (decide (al ≠ m.line)))) (fun _ fr => x_pick_or rfl (fr.ev rfl) (fun _ => rfl) (fun hb => ((fr.ev rfl)).trans (onlyIf_t (by simp_all))) rfl) ?_
 refine Zm ?_
 refine Zy (!((!(ak)) || (decide (al ≠ m.line)))) _ (fun _ fr _ => x_fieldAddr fo42_6 rfl (fr.ev rfl) rfl) ?_
 refine Zy (!((!(ak)) || (decide (al ≠ m.line)))) (.bool (aw)) (fun _ fr hg => x_load1 pl4 rfl ((fr.ev rfl).trans (onlyIf_t hg)) (B4.cell 6 rfl)) ?_
 refine Zy (!((!(ak)) || (decide (al ≠ m.line)))) _ (fun _ fr _ => x_move rfl (fr.ev rfl)) ?_
 refine Zy (!((!(ak)) || (decide (al ≠ m.line)))) (.bool false) (fun _ fr hg => x_eql rfl ((fr.ev rfl).trans (onlyIf_t hg)) rfl (decide_eq_false (by omega))) ?_
 refine Zy (!((!(ak)) || (decide (al ≠ m.line)))) _ (fun _ fr hg => x_bneq Try.underlying4 rfl ((fr.ev rfl).trans (onlyIf_t hg)) ((fr.ev rfl).trans (onlyIf_t hg)) rfl) ?_
 refine Zv (.bool (((!(ak)) || (decide (al ≠ m.line))) || ((aw) != false))) (fun _ fr => x_pick_or rfl (fr.ev rfl) (fun _ => rfl) (fun hb => ((fr.ev rfl)).trans (onlyIf_t (by simp_all))) rfl) ?_
 refine Znn ?_
 refine Zcd (fun hc22 => ?_) (fun hc22 => ?_)
 ·have hc22s := hc22
  try simp at hc22s
  refine Zsr ?_
  refine ZE rcE ag42 (B4.rangeE rcE) ?_
  replace B14 := ((B14.new hN17).new hN19).new hN21
  refine ZsS sz42 (rcE.all _) B14 (rcE.size _) (rcE.size _) fun w23 hO24 hBq => ?_
  replace B14 := hBq
  clear hBq
  refine Za ?_
  refine Za ?_
  refine Znn ?_
  refine Zrt ?_
  refine Zr1 ?_
  refine Zr2 ?_
  refine Zr1 ?_
  refine Zre rfl [_, _, _] ⟨⟨_, rfl, loadV_E (E := rcE) ag42 rfl (B14.rangeE rcE)⟩, rfl, rfl, trivial⟩ ?_
  have hkd : decide (m.kind = 10) = false := decide_eq_false (by omega)
  have hd : rDataOk (RD.mk id n ways L ak al aw gv gx) m = false := by have h9 := hc22; rw [data_txt] at h9; unfold rDataOk; rw [hkd]; simpa only [Bool.not_eq_true', Bool.not_eq_false'] using h9
  have hq : rTakeF (RD.mk id n ways L ak al aw gv gx) m = ((RD.mk id n ways L (ak) al (aw) (gv) gx), ([] : List Msg), 220) := by unfold rTakeF; rw [if_neg (show ¬ (chk m ≠ 0 ∨ m.dst ≠ id) by rintro (h | h); exact h hck; exact h hdn), if_pos (show m.kind = 8 ∨ m.kind = 9 ∨ m.kind = 10 by omega), if_neg (show ¬ rDataOk (RD.mk id n ways L ak al aw gv gx) m = true by rw [hd]; decide)]
  replace hF := ((((hF.trNew hN13).trNew hN17).trNew hN19).trNew hN21).loc hO24 (.inr g_b11)
  replace hV := (hV.new hN21).only hO24 (Apart.ne1 ap_A_b11)
  exact ⟨_, rfl, refR_mk (r' := (RD.mk id n ways L (ak) al (aw) (gv) gx)) (A' := A) (cap' := cap) (B := none) (cB := 0) (l := ([] : List Msg)) hq hV View.nil (fun g hg => .inl hg) (fun g hg => absurd hg (apart_none g)) hF⟩
 ·have hc22s := hc22
  try simp at hc22s
  refine Zsk ?_
  refine Znx ?_
  refine Zsr ?_
  refine Zm ?_
  refine Zf fo35_4 ?_
  replace B9 := B9.new hN21
  refine ZE (p := m.bs) bsE ag22 (B9.part (msg_bs _)) ?_
  refine Zv (.agg (lnE.arr (mkL m.line 2 m.bs))) (fun a fr => x_build (cells := lnE.arr (mkL m.line 2 m.bs)) rfl (by simp only [List.map_toArray, List.map_cons, List.map_nil, show a.eval (.tmp 63) = .int .u32 m.line from fr.ev rfl, show a.eval (.tmp 65) = .agg (bsE.arr m.bs) from fr.ev rfl]; exact built_ln _ _ _ _)) ?_
  refine Zna (z := zv1) (cs := lnE.arr ln0) (by kernel_rfl) fun b25 w26 hN27 B28 hb29 => ?_
  replace hV := hV.new hN21
  have ap_A_b25 : Apart A b25 := hV.apart hb29
  have ne_b1_b25 : NE b1 b25 := NE.mk (Nat.lt_of_lt_of_le B4.lt hb29)
  replace B14 := ((B14.new hN17).new hN19).new hN21
  have ne_b11_b25 : NE b11 b25 := NE.mk (Nat.lt_of_lt_of_le B14.lt hb29)
  replace hF := (((hF.trNew hN13).trNew hN17).trNew hN19).trNew hN21
  have g_b25 := Nat.le_trans hF.size hb29
  refine ZsS sz39 (lnE.all _) B28 (lnE.size _) (lnE.size _) fun w30 hO31 hBq => ?_
  replace B28 := hBq
  clear hBq
  refine Znn ?_
  refine Zsq ?_
  refine Zsr ?_
  refine Zm ?_
  refine Zv (.bool false) (fun _ fr => x_eql rfl (fr.ev rfl) rfl (decide_eq_false (by omega))) ?_
  refine Znn ?_
  refine Zcf ?_
  refine Zsk ?_
  refine Znx ?_
  refine Zsr ?_
  refine Zf fo42_4 ?_
  replace B4 := (B4.new hN27).only hO31 ne_b1_b25
  refine Zs1 (cs' := rcE.arr (RC.mk id ((n : Nat) : Int) ways A L.length cap false al (aw) (gv) gx)) sz4 B4 (by rw [rcE.size]; decide) (rc_set4 _ _) fun w32 hO33 hBq => ?_
  replace B4 := hBq
  clear hBq
  refine Zf fo42_5 ?_
  refine Zs1 (cs' := rcE.arr (RC.mk id ((n : Nat) : Int) ways A L.length cap false 0 (aw) (gv) gx)) sz32 B4 (by rw [rcE.size]; decide) (rc_set5 _ _) fun w34 hO35 hBq => ?_
  replace B4 := hBq
  clear hBq
  refine Zf fo42_6 ?_
  refine Zs1 (cs' := rcE.arr (RC.mk id ((n : Nat) : Int) ways A L.length cap false 0 false (gv) gx)) sz4 B4 (by rw [rcE.size]; decide) (rc_set6 _ _) fun w36 hO37 hBq => ?_
  replace B4 := hBq
  clear hBq
  refine Znn ?_
  refine Zsq ?_
  refine ZhT (n := 8) 8 (fun w => Blk w b25 39 (lnE.arr (mkL m.line 2 m.bs)) ∧ Blk w b1 42 (rcE.arr (RC.mk id ((n : Nat) : Int) ways A L.length cap false 0 false (gv) gx)) ∧ True) ?_
  intro w38 hN39
  replace B28 := (((B28.only hO33 ne_b1_b25.symm).only hO35 ne_b1_b25.symm).only hO37 ne_b1_b25.symm).new hN39
  replace B4 := B4.new hN39
  have hS9 := And.intro B28 (And.intro B4 trivial)
  refine ZhE 0 rcE ag42 hS9 (fun _ ⟨_, B4, _⟩ => (B4.rangeE rcE)) ?_
  refine ZhE 1 lnE ag39 hS9 (fun _ ⟨B28, _⟩ => (B28.rangeE lnE)) ?_
  refine ZhE 3 rcE ag42 hS9 (fun _ ⟨_, B4, _⟩ => (B4.rangeE rcE)) ?_
  refine Zhm 4 hS9 ?_
  refine Zh1 2 ?_
  replace hV := (((((hV.new hN27).only hO31 (Apart.ne1 ap_A_b25)).only hO33 (Apart.ne1 ap_A_b1)).only hO35 (Apart.ne1 ap_A_b1)).only hO37 (Apart.ne1 ap_A_b1)).new hN39
  refine Zk (args := #[.agg (rcE.arr (RC.mk id ((n : Nat) : Int) ways A L.length cap false 0 false (gv) gx)), .agg (lnE.arr (mkL m.line 2 m.bs))]) cf59 (rcwith_c (mkL m.line 2 m.bs) (hV) (by omega) (by omega)) ?_
  rintro v w44 ⟨A40, cap41, rfl, V42, hA43, hN45⟩
  replace B14 := (((((B14.new hN27).only hO31 ne_b11_b25).only hO33 ne_b1_b11.symm).only hO35 ne_b1_b11.symm).only hO37 ne_b1_b11.symm).new hN39
  have ap_A40_b11 : Apart A40 b11 := new_apart hA43 B14.lt
  replace hF := (((((hF.trNew hN27).loc hO31 (.inr g_b25)).loc hO33 (.inr g_b1)).loc hO35 (.inr g_b1)).loc hO37 (.inr g_b1)).trNew hN39
  have gA_A40 := gA_new hF hA43
  replace B28 := B28.new hN45
  replace B4 := B4.new hN45
  refine Zhb ⟨B28, B4, trivial⟩ ?_
  refine Zh1 5 ?_
  refine Zk (args := #[.agg (rcE.arr (RC.mk id ((n : Nat) : Int) ways A L.length cap false 0 false (gv) gx)), .int .i64 13, .int .u32 m.line]) cf64 (rcmsg_c 13 m.line (by omega) _) ?_
  rintro v w46 ⟨rfl, hN47⟩
  replace B28 := B28.new hN47
  replace B4 := B4.new hN47
  refine Zhb ⟨B28, B4, trivial⟩ ?_
  refine Zh2 6 7 ?_ ?_
  ·intro a fr
   refine fx_build1 (E := msgE) (p := (mkM 13 id 4 m.line)) elMsg (by decide) fr rfl rfl (by decide) rfl (fr.ev rfl) ?_
   clear fr a
   intro A48 w49 hN50 O51 hA52
   replace B14 := (B14.new hN45).new hN47
   have ap_A48_b11 : Apart A48 b11 := new_apart hA52 B14.lt
   replace hF := (hF.trNew hN45).trNew hN47
   have gA_A48 := gA_new hF hA52
   replace B28 := B28.new hN50
   replace B4 := B4.new hN50
   refine Zhb ⟨B28, B4, trivial⟩ ?_
   refine Zh1 7 ?_
   replace B14 := B14.new hN50
   refine ZsS sz42 (rcE.all _) B14 (rcE.size _) (rcE.size _) fun w53 hO54 hBq => ?_
   replace B14 := hBq
   clear hBq
   replace B28 := B28.only hO54 ne_b11_b25.symm
   replace B4 := B4.only hO54 ne_b1_b11
   refine Zhb ⟨B28, B4, trivial⟩ ?_
   refine Zhn ?_
   refine Ztl ?_
   refine Za ?_
   refine Za ?_
   refine Znn ?_
   refine Zrt ?_
   refine Zr2 ?_
   refine Zr1 ?_
   refine Zre rfl [_, _, _] ⟨⟨_, rfl, loadV_E (E := rcE) ag42 rfl (B14.rangeE rcE)⟩, rfl, rfl, trivial⟩ ?_
   have hkd : decide (m.kind = 10) = false := decide_eq_false (by omega)
   have hd : rDataOk (RD.mk id n ways L ak al aw gv gx) m = true := by have h9 := hc22; rw [data_txt] at h9; unfold rDataOk; rw [hkd]; simpa only [Bool.not_eq_true', Bool.not_eq_false'] using h9
   have hdl : dataLn m = mkL m.line 2 m.bs m.hn := by unfold dataLn; rw [if_neg (by omega)]
   have hq : rTakeF (RD.mk id n ways L ak al aw gv gx) m = ((RD.mk id n ways (withF n L (mkL m.line 2 m.bs)) false 0 false (gv) gx), [(mkM 13 id 4 m.line)], 0) := by unfold rTakeF; rw [if_neg (show ¬ (chk m ≠ 0 ∨ m.dst ≠ id) by rintro (h | h); exact h hck; exact h hdn), if_pos (show m.kind = 8 ∨ m.kind = 9 ∨ m.kind = 10 by omega), if_pos hd, hdl]; try rfl
   replace V42 := ((V42.new hN47).new hN50).only hO54 (Apart.ne1 ap_A40_b11)
   replace hF := (hF.trNew hN50).loc hO54 (.inr g_b11)
   replace O51 := O51.only hO54 (Apart.ne1 ap_A48_b11)
   exact ⟨_, rfl, refR_mk (r' := (RD.mk id n ways (withF n L (mkL m.line 2 m.bs)) false 0 false (gv) gx)) (A' := A40) (cap' := cap41) (B := A48) (cB := 1) (l := [(mkM 13 id 4 m.line)]) hq V42 (O51).view (fun g hg => .inr ((gA_A40 g hg).resolve_left (fun h => h))) (fun g hg => (gA_A48 g hg).resolve_left (fun h => h)) hF⟩
  ·replace B14 := (B14.new hN45).new hN47
   refine ZsS sz42 (rcE.all _) B14 (rcE.size _) (rcE.size _) fun w55 hO56 hBq => ?_
   replace B14 := hBq
   clear hBq
   replace B28 := B28.only hO56 ne_b11_b25.symm
   replace B4 := B4.only hO56 ne_b1_b11
   refine Zhb ⟨B28, B4, trivial⟩ ?_
   refine Zh1 6 ?_
   intro a fr
   refine fx_build1 (E := msgE) (p := (mkM 13 id 4 m.line)) elMsg (by decide) fr rfl rfl (by decide) rfl (fr.ev rfl) ?_
   clear fr a
   intro A57 w58 hN59 O60 hA61
   replace hF := ((hF.trNew hN45).trNew hN47).loc hO56 (.inr g_b11)
   have gA_A57 := gA_new hF hA61
   replace B28 := B28.new hN59
   replace B4 := B4.new hN59
   refine Zhb ⟨B28, B4, trivial⟩ ?_
   refine Zhn ?_
   refine Ztl ?_
   refine Za ?_
   refine Za ?_
   refine Znn ?_
   refine Zrt ?_
   refine Zr2 ?_
   refine Zr1 ?_
   replace B14 := B14.new hN59
   refine Zre rfl [_, _, _] ⟨⟨_, rfl, loadV_E (E := rcE) ag42 rfl (B14.rangeE rcE)⟩, rfl, rfl, trivial⟩ ?_
   have hkd : decide (m.kind = 10) = false := decide_eq_false (by omega)
   have hd : rDataOk (RD.mk id n ways L ak al aw gv gx) m = true := by have h9 := hc22; rw [data_txt] at h9; unfold rDataOk; rw [hkd]; simpa only [Bool.not_eq_true', Bool.not_eq_false'] using h9
   have hdl : dataLn m = mkL m.line 2 m.bs m.hn := by unfold dataLn; rw [if_neg (by omega)]
   have hq : rTakeF (RD.mk id n ways L ak al aw gv gx) m = ((RD.mk id n ways (withF n L (mkL m.line 2 m.bs)) false 0 false (gv) gx), [(mkM 13 id 4 m.line)], 0) := by unfold rTakeF; rw [if_neg (show ¬ (chk m ≠ 0 ∨ m.dst ≠ id) by rintro (h | h); exact h hck; exact h hdn), if_pos (show m.kind = 8 ∨ m.kind = 9 ∨ m.kind = 10 by omega), if_pos hd, hdl]; try rfl
   replace V42 := ((V42.new hN47).only hO56 (Apart.ne1 ap_A40_b11)).new hN59
   replace hF := hF.trNew hN59
   exact ⟨_, rfl, refR_mk (r' := (RD.mk id n ways (withF n L (mkL m.line 2 m.bs)) false 0 false (gv) gx)) (A' := A40) (cap' := cap41) (B := A57) (cB := 1) (l := [(mkM 13 id 4 m.line)]) hq V42 (O60).view (fun g hg => .inr ((gA_A40 g hg).resolve_left (fun h => h))) (fun g hg => (gA_A57 g hg).resolve_left (fun h => h)) hF⟩
set_option maxRecDepth 100000 in
set_option maxHeartbeats 4000000 in
theorem rctake_10 (m : Msg) {w : World} {id : Int} {n : Nat} {ways : Int} {A : Option Addr} {cap : Nat} {L : List Ln} {ak : Bool} {al : Int} {aw gv : Bool} {gx : Ln} (hV : View lnE w A cap L) (hn : 0 < n ∧ n ≤ 64) (hl : L.length ≤ 1000) (hck : chk m = 0) (hdn : m.dst = id) (hk : m.kind = 10)  : Calls Try.prog 27 #[.agg (rcE.arr (RC.mk id ((n : Nat) : Int) ways A L.length cap (ak) al (aw) (gv) gx)), .agg (msgE.arr m)] w (Ret fun v w' => RefR w A (rTakeF (RD.mk id n ways L ak al aw gv gx) m) v w') := by
 have hVl := hV.len
 unfold maxLen at hVl
 have hmn := m.hn
 have hF := Only.refl (fun _ => False) w
 refine Zen 139 Try.func27 ?_
 refine Zsr ?_
 refine Znb (cs := rcE.arr (RC.mk id ((n : Nat) : Int) ways A L.length cap (ak) al (aw) (gv) gx)) fun b1 w2 hN3 B4 hb5 => ?_
 have ap_A_b1 : Apart A b1 := hV.apart hb5
 have g_b1 := Nat.le_trans hF.size hb5
 refine Znb (cs := msgE.arr m) fun b6 w7 hN8 B9 hb10 => ?_
 refine Zna (z := zv4) (cs := rcE.arr rc0) (by kernel_rfl) fun b11 w12 hN13 B14 hb15 => ?_
 replace hV := (hV.new hN3).new hN8
 have ap_A_b11 : Apart A b11 := hV.apart hb15
 replace B4 := B4.new hN8
 have ne_b1_b11 : NE b1 b11 := NE.mk (Nat.lt_of_lt_of_le B4.lt hb15)
 replace hF := (hF.trNew hN3).trNew hN8
 have g_b11 := Nat.le_trans hF.size hb15
 refine Za ?_
 refine Za ?_
 refine Znn ?_
 refine Zsq ?_
 refine Zsq ?_
 have hck2 : ¬ chk m ≠ 0 := fun h => h hck
 have hdn2 : ¬ m.dst ≠ id := fun h => h hdn
 refine Zrg ?_
 replace B9 := B9.new hN13
 refine ZE msgE ag35 (B9.rangeE msgE) ?_
 refine Zk cf65 (refchk_c m _) ?_
 rintro v w16 ⟨rfl, hN17⟩
 refine Zv (.bool false) (fun _ fr => x_neq rfl (fr.ev rfl) rfl (decide_eq_false hck2)) ?_
 refine Zm ?_
 refine Zf fo35_2 ?_
 replace B9 := B9.new hN17
 refine Zd (v := .int .i64 m.dst) pl3 (B9.cell 2 rfl) ?_
 refine Zf fo42_0 ?_
 replace B4 := (B4.new hN13).new hN17
 refine Zd (v := .int .i64 id) pl3 (B4.cell 0 rfl) ?_
 refine Zv (.bool false) (fun _ fr => x_neq rfl (fr.ev rfl) (fr.ev rfl) (decide_eq_false hdn2)) ?_
 refine Zpf ?_
 refine Znn ?_
 refine Zcf ?_
 refine Zsk ?_
 refine Znx ?_
 refine Zsq ?_
 refine ZhT (n := 5) 5 (fun w => Blk w b6 35 (msgE.arr m) ∧ True) ?_
 intro w18 hN19
 replace B9 := B9.new hN19
 have hS9 := And.intro B9 trivial
 refine Zhf 0 fo35_3 hS9 ?_
 refine Zhl (v := .int .u32 m.line) 1 pl32 hS9 (fun _ ⟨B9, _⟩ => (B9.cell 3 rfl)) ?_
 refine Zhf 2 fo35_0 hS9 ?_
 refine Zhl (v := .int .i64 m.kind) 3 pl33 hS9 (fun _ ⟨B9, _⟩ => (B9.cell 0 rfl)) ?_
 refine Zha 4 hS9 ?_
 refine Zhn ?_
 refine Ztl ?_
 refine Za ?_
 refine Znn ?_
 refine Zsr ?_
 replace B4 := B4.new hN19
 refine ZE rcE ag42 (B4.rangeE rcE) ?_
 refine Zm ?_
 replace hV := ((hV.new hN13).new hN17).new hN19
 refine Zk cf60 (rcstate_c m.line (hV)) ?_
 rintro v w20 ⟨rfl, hN21⟩
 refine Za ?_
 refine Znn ?_
 refine Zsr ?_
 refine Zf fo42_7 ?_
 replace B4 := B4.new hN21
 refine Zd (v := .bool (gv)) pl4 (B4.cell 7 rfl) ?_
 refine Zm ?_
 refine Zy (gv) _ (fun _ fr _ => x_fieldAddr fo42_8 rfl (fr.ev rfl) rfl) ?_
 refine Zy (gv) _ (fun _ fr hg => x_fieldAddr fo39_0 rfl ((fr.ev rfl).trans (onlyIf_t hg)) rfl) ?_
 refine Zy (gv) _ (fun _ fr hg => x_load1 pl32 rfl ((fr.ev rfl).trans (onlyIf_t hg)) (B4.cell 8 rfl)) ?_
 refine Zy (gv) _ (fun _ fr _ => x_move rfl (fr.ev rfl)) ?_
 refine Zy (gv) _ (fun _ fr hg => x_eql rfl ((fr.ev rfl).trans (onlyIf_t hg)) ((fr.ev rfl).trans (onlyIf_t hg)) rfl) ?_
 refine Zv (.bool ((gv) && (decide (gx.num = m.line)))) (fun _ fr => x_pick_and rfl (fr.ev rfl) (fun hb => ((fr.ev rfl)).trans (onlyIf_t (by simp_all))) (fun _ => rfl) rfl) ?_
 refine Za ?_
 refine Znn ?_
 refine Zsq ?_
 refine Zsr ?_
 refine Zm ?_
 refine Znn ?_
 refine Zbl ?_
 refine Zsq ?_
 refine Zsr ?_
 refine Zv (.bool false) (fun _ fr => x_eql rfl (fr.ev rfl) rfl (decide_eq_false (by omega))) ?_
 refine Za ?_
 refine Znn ?_
 refine Zcf ?_
 refine Zsr ?_
 refine Zv (.bool false) (fun _ fr => x_eql rfl (fr.ev rfl) rfl (decide_eq_false (by omega))) ?_
 refine Za ?_
 refine Znn ?_
 refine Zcf ?_
 refine Zrg ?_
 refine Zv (.bool true) (fun _ fr => x_eql rfl (fr.ev rfl) rfl (decide_eq_true (by omega))) ?_
 refine Za ?_
 refine Znn ?_
 refine Zct ?_
 refine Zsq ?_
 refine Zsr ?_
 refine Zf fo42_4 ?_
 refine Zd (v := .bool (ak)) pl4 (B4.cell 4 rfl) ?_
 refine Zv (.bool (!(ak))) (fun _ fr => x_not rfl (fr.ev rfl) rfl) ?_
 refine Zm ?_
 refine Zy (!(!(ak))) _ (fun _ fr _ => x_fieldAddr fo42_5 rfl (fr.ev rfl) rfl) ?_
 refine Zy (!(!(ak))) (.int .u32 al) (fun _ fr hg => x_load1 pl32 rfl ((fr.ev rfl).trans (onlyIf_t hg)) (B4.cell 5 rfl)) ?_
 refine Zy (!(!(ak))) _ (fun _ fr _ => x_move rfl (fr.ev rfl)) ?_
 refine Zy (!(!(ak))) _ (fun _ fr hg => x_neq rfl ((fr.ev rfl).trans (onlyIf_t hg)) ((fr.ev rfl).trans (onlyIf_t hg)) rfl) ?_
 refine Zv (.bool ((!(ak)) || (decide (al ≠ m.line)))) (fun _ fr => x_pick_or rfl (fr.ev rfl) (fun _ => rfl) (fun hb => ((fr.ev rfl)).trans (onlyIf_t (by simp_all))) rfl) ?_
 refine Zm ?_
 refine Zy (!((!(ak)) || (decide (al ≠ m.line)))) _ (fun _ fr _ => x_fieldAddr fo42_6 rfl (fr.ev rfl) rfl) ?_
 refine Zy (!((!(ak)) || (decide (al ≠ m.line)))) (.bool (aw)) (fun _ fr hg => x_load1 pl4 rfl ((fr.ev rfl).trans (onlyIf_t hg)) (B4.cell 6 rfl)) ?_
 refine Zy (!((!(ak)) || (decide (al ≠ m.line)))) _ (fun _ fr _ => x_move rfl (fr.ev rfl)) ?_
 refine Zy (!((!(ak)) || (decide (al ≠ m.line)))) (.bool true) (fun _ fr hg => x_eql rfl ((fr.ev rfl).trans (onlyIf_t hg)) rfl (decide_eq_true (by omega))) ?_
 refine Zy (!((!(ak)) || (decide (al ≠ m.line)))) _ (fun _ fr hg => x_bneq Try.underlying4 rfl ((fr.ev rfl).trans (onlyIf_t hg)) ((fr.ev rfl).trans (onlyIf_t hg)) rfl) ?_
 refine Zv (.bool (((!(ak)) || (decide (al ≠ m.line))) || ((aw) != true))) (fun _ fr => x_pick_or rfl (fr.ev rfl) (fun _ => rfl) (fun hb => ((fr.ev rfl)).trans (onlyIf_t (by simp_all))) rfl) ?_
 refine Znn ?_
 refine Zcd (fun hc22 => ?_) (fun hc22 => ?_)
 ·have hc22s := hc22
  try simp at hc22s
  refine Zsr ?_
  refine ZE rcE ag42 (B4.rangeE rcE) ?_
  replace B14 := ((B14.new hN17).new hN19).new hN21
  refine ZsS sz42 (rcE.all _) B14 (rcE.size _) (rcE.size _) fun w23 hO24 hBq => ?_
  replace B14 := hBq
  clear hBq
  refine Za ?_
  refine Za ?_
  refine Znn ?_
  refine Zrt ?_
  refine Zr1 ?_
  refine Zr2 ?_
  refine Zr1 ?_
  refine Zre rfl [_, _, _] ⟨⟨_, rfl, loadV_E (E := rcE) ag42 rfl (B14.rangeE rcE)⟩, rfl, rfl, trivial⟩ ?_
  have hkd : decide (m.kind = 10) = true := decide_eq_true (by omega)
  have hd : rDataOk (RD.mk id n ways L ak al aw gv gx) m = false := by have h9 := hc22; rw [data_txt] at h9; unfold rDataOk; rw [hkd]; simpa only [Bool.not_eq_true', Bool.not_eq_false'] using h9
  have hq : rTakeF (RD.mk id n ways L ak al aw gv gx) m = ((RD.mk id n ways L (ak) al (aw) (gv) gx), ([] : List Msg), 220) := by unfold rTakeF; rw [if_neg (show ¬ (chk m ≠ 0 ∨ m.dst ≠ id) by rintro (h | h); exact h hck; exact h hdn), if_pos (show m.kind = 8 ∨ m.kind = 9 ∨ m.kind = 10 by omega), if_neg (show ¬ rDataOk (RD.mk id n ways L ak al aw gv gx) m = true by rw [hd]; decide)]
  replace hF := ((((hF.trNew hN13).trNew hN17).trNew hN19).trNew hN21).loc hO24 (.inr g_b11)
  replace hV := (hV.new hN21).only hO24 (Apart.ne1 ap_A_b11)
  exact ⟨_, rfl, refR_mk (r' := (RD.mk id n ways L (ak) al (aw) (gv) gx)) (A' := A) (cap' := cap) (B := none) (cB := 0) (l := ([] : List Msg)) hq hV View.nil (fun g hg => .inl hg) (fun g hg => absurd hg (apart_none g)) hF⟩
 ·have hc22s := hc22
  try simp at hc22s
  refine Zsk ?_
  refine Znx ?_
  refine Zsr ?_
  refine Zm ?_
  refine Zf fo35_4 ?_
  replace B9 := B9.new hN21
  refine ZE (p := m.bs) bsE ag22 (B9.part (msg_bs _)) ?_
  refine Zv (.agg (lnE.arr (mkL m.line 2 m.bs))) (fun a fr => x_build (cells := lnE.arr (mkL m.line 2 m.bs)) rfl (by simp only [List.map_toArray, List.map_cons, List.map_nil, show a.eval (.tmp 63) = .int .u32 m.line from fr.ev rfl, show a.eval (.tmp 65) = .agg (bsE.arr m.bs) from fr.ev rfl]; exact built_ln _ _ _ _)) ?_
  refine Zna (z := zv1) (cs := lnE.arr ln0) (by kernel_rfl) fun b25 w26 hN27 B28 hb29 => ?_
  replace hV := hV.new hN21
  have ap_A_b25 : Apart A b25 := hV.apart hb29
  have ne_b1_b25 : NE b1 b25 := NE.mk (Nat.lt_of_lt_of_le B4.lt hb29)
  replace B14 := ((B14.new hN17).new hN19).new hN21
  have ne_b11_b25 : NE b11 b25 := NE.mk (Nat.lt_of_lt_of_le B14.lt hb29)
  replace hF := (((hF.trNew hN13).trNew hN17).trNew hN19).trNew hN21
  have g_b25 := Nat.le_trans hF.size hb29
  refine ZsS sz39 (lnE.all _) B28 (lnE.size _) (lnE.size _) fun w30 hO31 hBq => ?_
  replace B28 := hBq
  clear hBq
  refine Znn ?_
  refine Zsq ?_
  refine Zsr ?_
  refine Zm ?_
  refine Zv (.bool false) (fun _ fr => x_eql rfl (fr.ev rfl) rfl (decide_eq_false (by omega))) ?_
  refine Znn ?_
  refine Zcf ?_
  refine Zsk ?_
  refine Znx ?_
  refine Zsr ?_
  refine Zf fo42_4 ?_
  replace B4 := (B4.new hN27).only hO31 ne_b1_b25
  refine Zs1 (cs' := rcE.arr (RC.mk id ((n : Nat) : Int) ways A L.length cap false al (aw) (gv) gx)) sz4 B4 (by rw [rcE.size]; decide) (rc_set4 _ _) fun w32 hO33 hBq => ?_
  replace B4 := hBq
  clear hBq
  refine Zf fo42_5 ?_
  refine Zs1 (cs' := rcE.arr (RC.mk id ((n : Nat) : Int) ways A L.length cap false 0 (aw) (gv) gx)) sz32 B4 (by rw [rcE.size]; decide) (rc_set5 _ _) fun w34 hO35 hBq => ?_
  replace B4 := hBq
  clear hBq
  refine Zf fo42_6 ?_
  refine Zs1 (cs' := rcE.arr (RC.mk id ((n : Nat) : Int) ways A L.length cap false 0 false (gv) gx)) sz4 B4 (by rw [rcE.size]; decide) (rc_set6 _ _) fun w36 hO37 hBq => ?_
  replace B4 := hBq
  clear hBq
  refine Znn ?_
  refine Zsq ?_
  refine ZhT (n := 8) 8 (fun w => Blk w b25 39 (lnE.arr (mkL m.line 2 m.bs)) ∧ Blk w b1 42 (rcE.arr (RC.mk id ((n : Nat) : Int) ways A L.length cap false 0 false (gv) gx)) ∧ True) ?_
  intro w38 hN39
  replace B28 := (((B28.only hO33 ne_b1_b25.symm).only hO35 ne_b1_b25.symm).only hO37 ne_b1_b25.symm).new hN39
  replace B4 := B4.new hN39
  have hS9 := And.intro B28 (And.intro B4 trivial)
  refine ZhE 0 rcE ag42 hS9 (fun _ ⟨_, B4, _⟩ => (B4.rangeE rcE)) ?_
  refine ZhE 1 lnE ag39 hS9 (fun _ ⟨B28, _⟩ => (B28.rangeE lnE)) ?_
  refine ZhE 3 rcE ag42 hS9 (fun _ ⟨_, B4, _⟩ => (B4.rangeE rcE)) ?_
  refine Zhm 4 hS9 ?_
  refine Zh1 2 ?_
  replace hV := (((((hV.new hN27).only hO31 (Apart.ne1 ap_A_b25)).only hO33 (Apart.ne1 ap_A_b1)).only hO35 (Apart.ne1 ap_A_b1)).only hO37 (Apart.ne1 ap_A_b1)).new hN39
  refine Zk (args := #[.agg (rcE.arr (RC.mk id ((n : Nat) : Int) ways A L.length cap false 0 false (gv) gx)), .agg (lnE.arr (mkL m.line 2 m.bs))]) cf59 (rcwith_c (mkL m.line 2 m.bs) (hV) (by omega) (by omega)) ?_
  rintro v w44 ⟨A40, cap41, rfl, V42, hA43, hN45⟩
  replace B14 := (((((B14.new hN27).only hO31 ne_b11_b25).only hO33 ne_b1_b11.symm).only hO35 ne_b1_b11.symm).only hO37 ne_b1_b11.symm).new hN39
  have ap_A40_b11 : Apart A40 b11 := new_apart hA43 B14.lt
  replace hF := (((((hF.trNew hN27).loc hO31 (.inr g_b25)).loc hO33 (.inr g_b1)).loc hO35 (.inr g_b1)).loc hO37 (.inr g_b1)).trNew hN39
  have gA_A40 := gA_new hF hA43
  replace B28 := B28.new hN45
  replace B4 := B4.new hN45
  refine Zhb ⟨B28, B4, trivial⟩ ?_
  refine Zh1 5 ?_
  refine Zk (args := #[.agg (rcE.arr (RC.mk id ((n : Nat) : Int) ways A L.length cap false 0 false (gv) gx)), .int .i64 13, .int .u32 m.line]) cf64 (rcmsg_c 13 m.line (by omega) _) ?_
  rintro v w46 ⟨rfl, hN47⟩
  replace B28 := B28.new hN47
  replace B4 := B4.new hN47
  refine Zhb ⟨B28, B4, trivial⟩ ?_
  refine Zh2 6 7 ?_ ?_
  ·intro a fr
   refine fx_build1 (E := msgE) (p := (mkM 13 id 4 m.line)) elMsg (by decide) fr rfl rfl (by decide) rfl (fr.ev rfl) ?_
   clear fr a
   intro A48 w49 hN50 O51 hA52
   replace B14 := (B14.new hN45).new hN47
   have ap_A48_b11 : Apart A48 b11 := new_apart hA52 B14.lt
   replace hF := (hF.trNew hN45).trNew hN47
   have gA_A48 := gA_new hF hA52
   replace B28 := B28.new hN50
   replace B4 := B4.new hN50
   refine Zhb ⟨B28, B4, trivial⟩ ?_
   refine Zh1 7 ?_
   replace B14 := B14.new hN50
   refine ZsS sz42 (rcE.all _) B14 (rcE.size _) (rcE.size _) fun w53 hO54 hBq => ?_
   replace B14 := hBq
   clear hBq
   replace B28 := B28.only hO54 ne_b11_b25.symm
   replace B4 := B4.only hO54 ne_b1_b11
   refine Zhb ⟨B28, B4, trivial⟩ ?_
   refine Zhn ?_
   refine Ztl ?_
   refine Za ?_
   refine Za ?_
   refine Znn ?_
   refine Zrt ?_
   refine Zr2 ?_
   refine Zr1 ?_
   refine Zre rfl [_, _, _] ⟨⟨_, rfl, loadV_E (E := rcE) ag42 rfl (B14.rangeE rcE)⟩, rfl, rfl, trivial⟩ ?_
   have hkd : decide (m.kind = 10) = true := decide_eq_true (by omega)
   have hd : rDataOk (RD.mk id n ways L ak al aw gv gx) m = true := by have h9 := hc22; rw [data_txt] at h9; unfold rDataOk; rw [hkd]; simpa only [Bool.not_eq_true', Bool.not_eq_false'] using h9
   have hdl : dataLn m = mkL m.line 2 m.bs m.hn := by unfold dataLn; rw [if_neg (by omega)]
   have hq : rTakeF (RD.mk id n ways L ak al aw gv gx) m = ((RD.mk id n ways (withF n L (mkL m.line 2 m.bs)) false 0 false (gv) gx), [(mkM 13 id 4 m.line)], 0) := by unfold rTakeF; rw [if_neg (show ¬ (chk m ≠ 0 ∨ m.dst ≠ id) by rintro (h | h); exact h hck; exact h hdn), if_pos (show m.kind = 8 ∨ m.kind = 9 ∨ m.kind = 10 by omega), if_pos hd, hdl]; try rfl
   replace V42 := ((V42.new hN47).new hN50).only hO54 (Apart.ne1 ap_A40_b11)
   replace hF := (hF.trNew hN50).loc hO54 (.inr g_b11)
   replace O51 := O51.only hO54 (Apart.ne1 ap_A48_b11)
   exact ⟨_, rfl, refR_mk (r' := (RD.mk id n ways (withF n L (mkL m.line 2 m.bs)) false 0 false (gv) gx)) (A' := A40) (cap' := cap41) (B := A48) (cB := 1) (l := [(mkM 13 id 4 m.line)]) hq V42 (O51).view (fun g hg => .inr ((gA_A40 g hg).resolve_left (fun h => h))) (fun g hg => (gA_A48 g hg).resolve_left (fun h => h)) hF⟩
  ·replace B14 := (B14.new hN45).new hN47
   refine ZsS sz42 (rcE.all _) B14 (rcE.size _) (rcE.size _) fun w55 hO56 hBq => ?_
   replace B14 := hBq
   clear hBq
   replace B28 := B28.only hO56 ne_b11_b25.symm
   replace B4 := B4.only hO56 ne_b1_b11
   refine Zhb ⟨B28, B4, trivial⟩ ?_
   refine Zh1 6 ?_
   intro a fr
   refine fx_build1 (E := msgE) (p := (mkM 13 id 4 m.line)) elMsg (by decide) fr rfl rfl (by decide) rfl (fr.ev rfl) ?_
   clear fr a
   intro A57 w58 hN59 O60 hA61
   replace hF := ((hF.trNew hN45).trNew hN47).loc hO56 (.inr g_b11)
   have gA_A57 := gA_new hF hA61
   replace B28 := B28.new hN59
   replace B4 := B4.new hN59
   refine Zhb ⟨B28, B4, trivial⟩ ?_
   refine Zhn ?_
   refine Ztl ?_
   refine Za ?_
   refine Za ?_
   refine Znn ?_
   refine Zrt ?_
   refine Zr2 ?_
   refine Zr1 ?_
   replace B14 := B14.new hN59
   refine Zre rfl [_, _, _] ⟨⟨_, rfl, loadV_E (E := rcE) ag42 rfl (B14.rangeE rcE)⟩, rfl, rfl, trivial⟩ ?_
   have hkd : decide (m.kind = 10) = true := decide_eq_true (by omega)
   have hd : rDataOk (RD.mk id n ways L ak al aw gv gx) m = true := by have h9 := hc22; rw [data_txt] at h9; unfold rDataOk; rw [hkd]; simpa only [Bool.not_eq_true', Bool.not_eq_false'] using h9
   have hdl : dataLn m = mkL m.line 2 m.bs m.hn := by unfold dataLn; rw [if_neg (by omega)]
   have hq : rTakeF (RD.mk id n ways L ak al aw gv gx) m = ((RD.mk id n ways (withF n L (mkL m.line 2 m.bs)) false 0 false (gv) gx), [(mkM 13 id 4 m.line)], 0) := by unfold rTakeF; rw [if_neg (show ¬ (chk m ≠ 0 ∨ m.dst ≠ id) by rintro (h | h); exact h hck; exact h hdn), if_pos (show m.kind = 8 ∨ m.kind = 9 ∨ m.kind = 10 by omega), if_pos hd, hdl]; try rfl
   replace V42 := ((V42.new hN47).only hO56 (Apart.ne1 ap_A40_b11)).new hN59
   replace hF := hF.trNew hN59
   exact ⟨_, rfl, refR_mk (r' := (RD.mk id n ways (withF n L (mkL m.line 2 m.bs)) false 0 false (gv) gx)) (A' := A40) (cap' := cap41) (B := A57) (cB := 1) (l := [(mkM 13 id 4 m.line)]) hq V42 (O60).view (fun g hg => .inr ((gA_A40 g hg).resolve_left (fun h => h))) (fun g hg => (gA_A57 g hg).resolve_left (fun h => h)) hF⟩
set_option maxRecDepth 100000 in
set_option maxHeartbeats 4000000 in
theorem rctake_4 (m : Msg) {w : World} {id : Int} {n : Nat} {ways : Int} {A : Option Addr} {cap : Nat} {L : List Ln} {ak : Bool} {al : Int} {aw gv : Bool} {gx : Ln} (hV : View lnE w A cap L) (hn : 0 < n ∧ n ≤ 64) (hl : L.length ≤ 1000) (hck : chk m = 0) (hdn : m.dst = id) (hk : m.kind = 4)  : Calls Try.prog 27 #[.agg (rcE.arr (RC.mk id ((n : Nat) : Int) ways A L.length cap (ak) al (aw) (gv) gx)), .agg (msgE.arr m)] w (Ret fun v w' => RefR w A (rTakeF (RD.mk id n ways L ak al aw gv gx) m) v w') := by
 have hVl := hV.len
 unfold maxLen at hVl
 have hmn := m.hn
 have hF := Only.refl (fun _ => False) w
 refine Zen 139 Try.func27 ?_
 refine Zsr ?_
 refine Znb (cs := rcE.arr (RC.mk id ((n : Nat) : Int) ways A L.length cap (ak) al (aw) (gv) gx)) fun b1 w2 hN3 B4 hb5 => ?_
 refine Znb (cs := msgE.arr m) fun b6 w7 hN8 B9 hb10 => ?_
 refine Zna (z := zv4) (cs := rcE.arr rc0) (by kernel_rfl) fun b11 w12 hN13 B14 hb15 => ?_
 replace hV := (hV.new hN3).new hN8
 have ap_A_b11 : Apart A b11 := hV.apart hb15
 replace B4 := B4.new hN8
 have ne_b1_b11 : NE b1 b11 := NE.mk (Nat.lt_of_lt_of_le B4.lt hb15)
 replace hF := (hF.trNew hN3).trNew hN8
 have g_b11 := Nat.le_trans hF.size hb15
 refine Za ?_
 refine Za ?_
 refine Znn ?_
 refine Zsq ?_
 refine Zsq ?_
 have hck2 : ¬ chk m ≠ 0 := fun h => h hck
 have hdn2 : ¬ m.dst ≠ id := fun h => h hdn
 refine Zrg ?_
 replace B9 := B9.new hN13
 refine ZE msgE ag35 (B9.rangeE msgE) ?_
 refine Zk cf65 (refchk_c m _) ?_
 rintro v w16 ⟨rfl, hN17⟩
 refine Zv (.bool false) (fun _ fr => x_neq rfl (fr.ev rfl) rfl (decide_eq_false hck2)) ?_
 refine Zm ?_
 refine Zf fo35_2 ?_
 replace B9 := B9.new hN17
 refine Zd (v := .int .i64 m.dst) pl3 (B9.cell 2 rfl) ?_
 refine Zf fo42_0 ?_
 replace B4 := (B4.new hN13).new hN17
 refine Zd (v := .int .i64 id) pl3 (B4.cell 0 rfl) ?_
 refine Zv (.bool false) (fun _ fr => x_neq rfl (fr.ev rfl) (fr.ev rfl) (decide_eq_false hdn2)) ?_
 refine Zpf ?_
 refine Znn ?_
 refine Zcf ?_
 refine Zsk ?_
 refine Znx ?_
 refine Zsq ?_
 refine ZhT (n := 5) 5 (fun w => Blk w b6 35 (msgE.arr m) ∧ True) ?_
 intro w18 hN19
 replace B9 := B9.new hN19
 have hS9 := And.intro B9 trivial
 refine Zhf 0 fo35_3 hS9 ?_
 refine Zhl (v := .int .u32 m.line) 1 pl32 hS9 (fun _ ⟨B9, _⟩ => (B9.cell 3 rfl)) ?_
 refine Zhf 2 fo35_0 hS9 ?_
 refine Zhl (v := .int .i64 m.kind) 3 pl33 hS9 (fun _ ⟨B9, _⟩ => (B9.cell 0 rfl)) ?_
 refine Zha 4 hS9 ?_
 refine Zhn ?_
 refine Ztl ?_
 refine Za ?_
 refine Znn ?_
 refine Zsr ?_
 replace B4 := B4.new hN19
 refine ZE rcE ag42 (B4.rangeE rcE) ?_
 refine Zm ?_
 replace hV := ((hV.new hN13).new hN17).new hN19
 refine Zk cf60 (rcstate_c m.line (hV)) ?_
 rintro v w20 ⟨rfl, hN21⟩
 refine Za ?_
 refine Znn ?_
 refine Zsr ?_
 refine Zf fo42_7 ?_
 replace B4 := B4.new hN21
 refine Zd (v := .bool (gv)) pl4 (B4.cell 7 rfl) ?_
 refine Zm ?_
 refine Zy (gv) _ (fun _ fr _ => x_fieldAddr fo42_8 rfl (fr.ev rfl) rfl) ?_
 refine Zy (gv) _ (fun _ fr hg => x_fieldAddr fo39_0 rfl ((fr.ev rfl).trans (onlyIf_t hg)) rfl) ?_
 refine Zy (gv) _ (fun _ fr hg => x_load1 pl32 rfl ((fr.ev rfl).trans (onlyIf_t hg)) (B4.cell 8 rfl)) ?_
 refine Zy (gv) _ (fun _ fr _ => x_move rfl (fr.ev rfl)) ?_
 refine Zy (gv) _ (fun _ fr hg => x_eql rfl ((fr.ev rfl).trans (onlyIf_t hg)) ((fr.ev rfl).trans (onlyIf_t hg)) rfl) ?_
 refine Zv (.bool ((gv) && (decide (gx.num = m.line)))) (fun _ fr => x_pick_and rfl (fr.ev rfl) (fun hb => ((fr.ev rfl)).trans (onlyIf_t (by simp_all))) (fun _ => rfl) rfl) ?_
 refine Za ?_
 refine Znn ?_
 refine Zsq ?_
 refine Zsr ?_
 refine Zm ?_
 refine Znn ?_
 refine Zbl ?_
 refine Zsq ?_
 refine Zsr ?_
 refine Zv (.bool false) (fun _ fr => x_eql rfl (fr.ev rfl) rfl (decide_eq_false (by omega))) ?_
 refine Za ?_
 refine Znn ?_
 refine Zcf ?_
 refine Zsr ?_
 refine Zv (.bool false) (fun _ fr => x_eql rfl (fr.ev rfl) rfl (decide_eq_false (by omega))) ?_
 refine Za ?_
 refine Znn ?_
 refine Zcf ?_
 refine Zrg ?_
 refine Zv (.bool false) (fun _ fr => x_eql rfl (fr.ev rfl) rfl (decide_eq_false (by omega))) ?_
 refine Za ?_
 refine Znn ?_
 refine Zcf ?_
 refine Zsq ?_
 refine Zsr ?_
 refine Zv (.bool true) (fun _ fr => x_eql rfl (fr.ev rfl) rfl (decide_eq_true (by omega))) ?_
 refine Za ?_
 refine Znn ?_
 refine Zct ?_
 refine Zsk ?_
 refine Znx ?_
 refine Zct ?_
 refine Zsq ?_
 rcases fnd_spec L m.line with ⟨hf, hno⟩ | ⟨i, hf, hi, hin, hall⟩
 ·have hs2 : stateOf L m.line < 2 := by rw [state_no ⟨hf, hno⟩]; decide
  refine Zrg ?_
  refine ZE rcE ag42 (B4.rangeE rcE) ?_
  refine Zm ?_
  refine Zk (args := #[.agg (rcE.arr (RC.mk id ((n : Nat) : Int) ways A L.length cap (ak) al (aw) (gv) gx)), .int .i64 11, .int .u32 m.line]) cf64 (rcmsg_c 11 m.line (by omega) _) ?_
  rintro v w22 ⟨rfl, hN23⟩
  refine Zna (z := zv3) (cs := msgE.arr msg0) (by kernel_rfl) fun b24 w25 hN26 B27 hb28 => ?_
  replace hV := (hV.new hN21).new hN23
  have ap_A_b24 : Apart A b24 := hV.apart hb28
  replace B4 := B4.new hN23
  have ne_b1_b24 : NE b1 b24 := NE.mk (Nat.lt_of_lt_of_le B4.lt hb28)
  replace B14 := (((B14.new hN17).new hN19).new hN21).new hN23
  have ne_b11_b24 : NE b11 b24 := NE.mk (Nat.lt_of_lt_of_le B14.lt hb28)
  replace hF := ((((hF.trNew hN13).trNew hN17).trNew hN19).trNew hN21).trNew hN23
  have g_b24 := Nat.le_trans hF.size hb28
  refine ZsS sz35 (msgE.all _) B27 (msgE.size _) (msgE.size _) fun w29 hO30 hBq => ?_
  replace B27 := hBq
  clear hBq
  refine Znn ?_
  refine Zsq ?_
  refine Zsr ?_
  refine Zm ?_
  refine Znn ?_
  refine Zcd (fun hc31 => ?_) (fun hc31 => ?_)
  ·have hc31s := hc31
   try simp at hc31s
   refine Zsr ?_
   refine Zf fo42_8 ?_
   refine Zf fo39_2 ?_
   replace B4 := (B4.new hN26).only hO30 ne_b1_b24
   refine ZE (p := gx.bs) bsE ag22 (B4.part (rc_bs (RC.mk id ((n : Nat) : Int) ways A L.length cap (ak) al (aw) (gv) gx))) ?_
   refine Zf fo35_4 ?_
   intro a fr
   refine fx_storePart (E := msgE) (E2 := bsE) (q := 4) (m := (mkM 11 id 4 m.line)) (m' := { (mkM 11 id 4 m.line) with bs := gx.bs }) (z := gx.bs) sz22 rfl rfl rfl (fr.ev rfl) (fr.ev rfl) B27 (by decide) (msg_setbs _ _) fun w32 hO33 hBq => ?_
   revert a
   replace B27 := hBq
   clear hBq
   refine Znn ?_
   refine Zsq ?_
   refine ZhT (n := 4) 4 (fun w => Blk w b1 42 (rcE.arr (RC.mk id ((n : Nat) : Int) ways A L.length cap (ak) al (aw) (gv) gx)) ∧ Blk w b24 35 (msgE.arr { (mkM 11 id 4 m.line) with bs := gx.bs }) ∧ True) ?_
   intro w34 hN35
   replace B4 := (B4.only hO33 ne_b1_b24).new hN35
   replace B27 := B27.new hN35
   have hS9 := And.intro B4 (And.intro B27 trivial)
   refine ZhE 0 rcE ag42 hS9 (fun _ ⟨B4, _⟩ => (B4.rangeE rcE)) ?_
   refine ZhE 1 msgE ag35 hS9 (fun _ ⟨_, B27, _⟩ => (B27.rangeE msgE)) ?_
   refine Zh2 2 3 ?_ ?_
   ·intro a fr
    refine fx_build1 (E := msgE) (p := { (mkM 11 id 4 m.line) with bs := gx.bs }) elMsg (by decide) fr rfl rfl (by decide) rfl (fr.ev rfl) ?_
    clear fr a
    intro A36 w37 hN38 O39 hA40
    replace B14 := (((B14.new hN26).only hO30 ne_b11_b24).only hO33 ne_b11_b24).new hN35
    have ap_A36_b11 : Apart A36 b11 := new_apart hA40 B14.lt
    replace hF := (((hF.trNew hN26).loc hO30 (.inr g_b24)).loc hO33 (.inr g_b24)).trNew hN35
    have gA_A36 := gA_new hF hA40
    replace B4 := B4.new hN38
    replace B27 := B27.new hN38
    refine Zhb ⟨B4, B27, trivial⟩ ?_
    refine Zh1 3 ?_
    replace B14 := B14.new hN38
    refine ZsS sz42 (rcE.all _) B14 (rcE.size _) (rcE.size _) fun w41 hO42 hBq => ?_
    replace B14 := hBq
    clear hBq
    replace B4 := B4.only hO42 ne_b1_b11
    replace B27 := B27.only hO42 ne_b11_b24.symm
    refine Zhb ⟨B4, B27, trivial⟩ ?_
    refine Zhn ?_
    refine Ztl ?_
    refine Za ?_
    refine Za ?_
    refine Znn ?_
    refine Zrt ?_
    refine Zr1 ?_
    refine Zr2 ?_
    refine Zr1 ?_
    refine Zre rfl [_, _, _] ⟨⟨_, rfl, loadV_E (E := rcE) ag42 rfl (B14.rangeE rcE)⟩, rfl, rfl, trivial⟩ ?_
    have hmi : rMine (RD.mk id n ways L ak al aw gv gx) m = true := hc31
    have hq : rTakeF (RD.mk id n ways L ak al aw gv gx) m = ((RD.mk id n ways L (ak) al (aw) (gv) gx), [{ (mkM 11 id 4 m.line) with bs := gx.bs }], 0) := by unfold rTakeF; rw [if_neg (show ¬ (chk m ≠ 0 ∨ m.dst ≠ id) by rintro (h | h); exact h hck; exact h hdn), if_neg (show ¬ (m.kind = 8 ∨ m.kind = 9 ∨ m.kind = 10) by omega), if_pos (show m.kind = 4 ∨ m.kind = 5 by omega), if_pos hmi]; try rfl
    replace hV := (((((hV.new hN26).only hO30 (Apart.ne1 ap_A_b24)).only hO33 (Apart.ne1 ap_A_b24)).new hN35).new hN38).only hO42 (Apart.ne1 ap_A_b11)
    replace hF := (hF.trNew hN38).loc hO42 (.inr g_b11)
    replace O39 := O39.only hO42 (Apart.ne1 ap_A36_b11)
    exact ⟨_, rfl, refR_mk (r' := (RD.mk id n ways L (ak) al (aw) (gv) gx)) (A' := A) (cap' := cap) (B := A36) (cB := 1) (l := [{ (mkM 11 id 4 m.line) with bs := gx.bs }]) hq hV (O39).view (fun g hg => .inl hg) (fun g hg => (gA_A36 g hg).resolve_left (fun h => h)) hF⟩
   ·replace B14 := (((B14.new hN26).only hO30 ne_b11_b24).only hO33 ne_b11_b24).new hN35
    refine ZsS sz42 (rcE.all _) B14 (rcE.size _) (rcE.size _) fun w43 hO44 hBq => ?_
    replace B14 := hBq
    clear hBq
    replace B4 := B4.only hO44 ne_b1_b11
    replace B27 := B27.only hO44 ne_b11_b24.symm
    refine Zhb ⟨B4, B27, trivial⟩ ?_
    refine Zh1 2 ?_
    intro a fr
    refine fx_build1 (E := msgE) (p := { (mkM 11 id 4 m.line) with bs := gx.bs }) elMsg (by decide) fr rfl rfl (by decide) rfl (fr.ev rfl) ?_
    clear fr a
    intro A45 w46 hN47 O48 hA49
    replace hF := ((((hF.trNew hN26).loc hO30 (.inr g_b24)).loc hO33 (.inr g_b24)).trNew hN35).loc hO44 (.inr g_b11)
    have gA_A45 := gA_new hF hA49
    replace B4 := B4.new hN47
    replace B27 := B27.new hN47
    refine Zhb ⟨B4, B27, trivial⟩ ?_
    refine Zhn ?_
    refine Ztl ?_
    refine Za ?_
    refine Za ?_
    refine Znn ?_
    refine Zrt ?_
    refine Zr1 ?_
    refine Zr2 ?_
    refine Zr1 ?_
    replace B14 := B14.new hN47
    refine Zre rfl [_, _, _] ⟨⟨_, rfl, loadV_E (E := rcE) ag42 rfl (B14.rangeE rcE)⟩, rfl, rfl, trivial⟩ ?_
    have hmi : rMine (RD.mk id n ways L ak al aw gv gx) m = true := hc31
    have hq : rTakeF (RD.mk id n ways L ak al aw gv gx) m = ((RD.mk id n ways L (ak) al (aw) (gv) gx), [{ (mkM 11 id 4 m.line) with bs := gx.bs }], 0) := by unfold rTakeF; rw [if_neg (show ¬ (chk m ≠ 0 ∨ m.dst ≠ id) by rintro (h | h); exact h hck; exact h hdn), if_neg (show ¬ (m.kind = 8 ∨ m.kind = 9 ∨ m.kind = 10) by omega), if_pos (show m.kind = 4 ∨ m.kind = 5 by omega), if_pos hmi]; try rfl
    replace hV := (((((hV.new hN26).only hO30 (Apart.ne1 ap_A_b24)).only hO33 (Apart.ne1 ap_A_b24)).new hN35).only hO44 (Apart.ne1 ap_A_b11)).new hN47
    replace hF := hF.trNew hN47
    exact ⟨_, rfl, refR_mk (r' := (RD.mk id n ways L (ak) al (aw) (gv) gx)) (A' := A) (cap' := cap) (B := A45) (cB := 1) (l := [{ (mkM 11 id 4 m.line) with bs := gx.bs }]) hq hV (O48).view (fun g hg => .inl hg) (fun g hg => (gA_A45 g hg).resolve_left (fun h => h)) hF⟩
  ·have hc31s := hc31
   try simp at hc31s
   refine Zsk ?_
   refine Znx ?_
   refine Zsq ?_
   refine Zsr ?_
   refine Zm ?_
   refine Zv (.bool true) (fun _ fr => x_lss rfl (fr.ev rfl) rfl (decide_eq_true hs2)) ?_
   refine Znn ?_
   refine Zct ?_
   refine Zsr ?_
   replace B4 := (B4.new hN26).only hO30 ne_b1_b24
   refine ZE rcE ag42 (B4.rangeE rcE) ?_
   replace B14 := (B14.new hN26).only hO30 ne_b11_b24
   refine ZsS sz42 (rcE.all _) B14 (rcE.size _) (rcE.size _) fun w50 hO51 hBq => ?_
   replace B14 := hBq
   clear hBq
   refine Za ?_
   refine Za ?_
   refine Znn ?_
   refine Zrt ?_
   refine Zr1 ?_
   refine Zr2 ?_
   refine Zr1 ?_
   refine Zre rfl [_, _, _] ⟨⟨_, rfl, loadV_E (E := rcE) ag42 rfl (B14.rangeE rcE)⟩, rfl, rfl, trivial⟩ ?_
   have hmi : rMine (RD.mk id n ways L ak al aw gv gx) m = false := hc31
   have hq : rTakeF (RD.mk id n ways L ak al aw gv gx) m = ((RD.mk id n ways L (ak) al (aw) (gv) gx), ([] : List Msg), 220) := by unfold rTakeF; rw [if_neg (show ¬ (chk m ≠ 0 ∨ m.dst ≠ id) by rintro (h | h); exact h hck; exact h hdn), if_neg (show ¬ (m.kind = 8 ∨ m.kind = 9 ∨ m.kind = 10) by omega), if_pos (show m.kind = 4 ∨ m.kind = 5 by omega), if_neg (show ¬ rMine (RD.mk id n ways L ak al aw gv gx) m = true by rw [hmi]; decide)]; exact if_pos hs2
   replace hV := ((hV.new hN26).only hO30 (Apart.ne1 ap_A_b24)).only hO51 (Apart.ne1 ap_A_b11)
   replace hF := ((hF.trNew hN26).loc hO30 (.inr g_b24)).loc hO51 (.inr g_b11)
   exact ⟨_, rfl, refR_mk (r' := (RD.mk id n ways L (ak) al (aw) (gv) gx)) (A' := A) (cap' := cap) (B := none) (cB := 0) (l := ([] : List Msg)) hq hV View.nil (fun g hg => .inl hg) (fun g hg => absurd hg (apart_none g)) hF⟩
 ·refine Zrg ?_
  refine ZE rcE ag42 (B4.rangeE rcE) ?_
  refine Zm ?_
  refine Zk (args := #[.agg (rcE.arr (RC.mk id ((n : Nat) : Int) ways A L.length cap (ak) al (aw) (gv) gx)), .int .i64 11, .int .u32 m.line]) cf64 (rcmsg_c 11 m.line (by omega) _) ?_
  rintro v w52 ⟨rfl, hN53⟩
  refine Zna (z := zv3) (cs := msgE.arr msg0) (by kernel_rfl) fun b54 w55 hN56 B57 hb58 => ?_
  replace hV := (hV.new hN21).new hN53
  have ap_A_b54 : Apart A b54 := hV.apart hb58
  replace B4 := B4.new hN53
  have ne_b1_b54 : NE b1 b54 := NE.mk (Nat.lt_of_lt_of_le B4.lt hb58)
  replace B14 := (((B14.new hN17).new hN19).new hN21).new hN53
  have ne_b11_b54 : NE b11 b54 := NE.mk (Nat.lt_of_lt_of_le B14.lt hb58)
  replace hF := ((((hF.trNew hN13).trNew hN17).trNew hN19).trNew hN21).trNew hN53
  have g_b54 := Nat.le_trans hF.size hb58
  refine ZsS sz35 (msgE.all _) B57 (msgE.size _) (msgE.size _) fun w59 hO60 hBq => ?_
  replace B57 := hBq
  clear hBq
  refine Znn ?_
  refine Zsq ?_
  refine Zsr ?_
  refine Zm ?_
  refine Znn ?_
  refine Zcd (fun hc61 => ?_) (fun hc61 => ?_)
  ·have hc61s := hc61
   try simp at hc61s
   refine Zsr ?_
   refine Zf fo42_8 ?_
   refine Zf fo39_2 ?_
   replace B4 := (B4.new hN56).only hO60 ne_b1_b54
   refine ZE (p := gx.bs) bsE ag22 (B4.part (rc_bs (RC.mk id ((n : Nat) : Int) ways A L.length cap (ak) al (aw) (gv) gx))) ?_
   refine Zf fo35_4 ?_
   intro a fr
   refine fx_storePart (E := msgE) (E2 := bsE) (q := 4) (m := (mkM 11 id 4 m.line)) (m' := { (mkM 11 id 4 m.line) with bs := gx.bs }) (z := gx.bs) sz22 rfl rfl rfl (fr.ev rfl) (fr.ev rfl) B57 (by decide) (msg_setbs _ _) fun w62 hO63 hBq => ?_
   revert a
   replace B57 := hBq
   clear hBq
   refine Znn ?_
   refine Zsq ?_
   refine ZhT (n := 4) 4 (fun w => Blk w b1 42 (rcE.arr (RC.mk id ((n : Nat) : Int) ways A L.length cap (ak) al (aw) (gv) gx)) ∧ Blk w b54 35 (msgE.arr { (mkM 11 id 4 m.line) with bs := gx.bs }) ∧ True) ?_
   intro w64 hN65
   replace B4 := (B4.only hO63 ne_b1_b54).new hN65
   replace B57 := B57.new hN65
   have hS9 := And.intro B4 (And.intro B57 trivial)
   refine ZhE 0 rcE ag42 hS9 (fun _ ⟨B4, _⟩ => (B4.rangeE rcE)) ?_
   refine ZhE 1 msgE ag35 hS9 (fun _ ⟨_, B57, _⟩ => (B57.rangeE msgE)) ?_
   refine Zh2 2 3 ?_ ?_
   ·intro a fr
    refine fx_build1 (E := msgE) (p := { (mkM 11 id 4 m.line) with bs := gx.bs }) elMsg (by decide) fr rfl rfl (by decide) rfl (fr.ev rfl) ?_
    clear fr a
    intro A66 w67 hN68 O69 hA70
    replace B14 := (((B14.new hN56).only hO60 ne_b11_b54).only hO63 ne_b11_b54).new hN65
    have ap_A66_b11 : Apart A66 b11 := new_apart hA70 B14.lt
    replace hF := (((hF.trNew hN56).loc hO60 (.inr g_b54)).loc hO63 (.inr g_b54)).trNew hN65
    have gA_A66 := gA_new hF hA70
    replace B4 := B4.new hN68
    replace B57 := B57.new hN68
    refine Zhb ⟨B4, B57, trivial⟩ ?_
    refine Zh1 3 ?_
    replace B14 := B14.new hN68
    refine ZsS sz42 (rcE.all _) B14 (rcE.size _) (rcE.size _) fun w71 hO72 hBq => ?_
    replace B14 := hBq
    clear hBq
    replace B4 := B4.only hO72 ne_b1_b11
    replace B57 := B57.only hO72 ne_b11_b54.symm
    refine Zhb ⟨B4, B57, trivial⟩ ?_
    refine Zhn ?_
    refine Ztl ?_
    refine Za ?_
    refine Za ?_
    refine Znn ?_
    refine Zrt ?_
    refine Zr1 ?_
    refine Zr2 ?_
    refine Zr1 ?_
    refine Zre rfl [_, _, _] ⟨⟨_, rfl, loadV_E (E := rcE) ag42 rfl (B14.rangeE rcE)⟩, rfl, rfl, trivial⟩ ?_
    have hmi : rMine (RD.mk id n ways L ak al aw gv gx) m = true := hc61
    have hq : rTakeF (RD.mk id n ways L ak al aw gv gx) m = ((RD.mk id n ways L (ak) al (aw) (gv) gx), [{ (mkM 11 id 4 m.line) with bs := gx.bs }], 0) := by unfold rTakeF; rw [if_neg (show ¬ (chk m ≠ 0 ∨ m.dst ≠ id) by rintro (h | h); exact h hck; exact h hdn), if_neg (show ¬ (m.kind = 8 ∨ m.kind = 9 ∨ m.kind = 10) by omega), if_pos (show m.kind = 4 ∨ m.kind = 5 by omega), if_pos hmi]; try rfl
    replace hV := (((((hV.new hN56).only hO60 (Apart.ne1 ap_A_b54)).only hO63 (Apart.ne1 ap_A_b54)).new hN65).new hN68).only hO72 (Apart.ne1 ap_A_b11)
    replace hF := (hF.trNew hN68).loc hO72 (.inr g_b11)
    replace O69 := O69.only hO72 (Apart.ne1 ap_A66_b11)
    exact ⟨_, rfl, refR_mk (r' := (RD.mk id n ways L (ak) al (aw) (gv) gx)) (A' := A) (cap' := cap) (B := A66) (cB := 1) (l := [{ (mkM 11 id 4 m.line) with bs := gx.bs }]) hq hV (O69).view (fun g hg => .inl hg) (fun g hg => (gA_A66 g hg).resolve_left (fun h => h)) hF⟩
   ·replace B14 := (((B14.new hN56).only hO60 ne_b11_b54).only hO63 ne_b11_b54).new hN65
    refine ZsS sz42 (rcE.all _) B14 (rcE.size _) (rcE.size _) fun w73 hO74 hBq => ?_
    replace B14 := hBq
    clear hBq
    replace B4 := B4.only hO74 ne_b1_b11
    replace B57 := B57.only hO74 ne_b11_b54.symm
    refine Zhb ⟨B4, B57, trivial⟩ ?_
    refine Zh1 2 ?_
    intro a fr
    refine fx_build1 (E := msgE) (p := { (mkM 11 id 4 m.line) with bs := gx.bs }) elMsg (by decide) fr rfl rfl (by decide) rfl (fr.ev rfl) ?_
    clear fr a
    intro A75 w76 hN77 O78 hA79
    replace hF := ((((hF.trNew hN56).loc hO60 (.inr g_b54)).loc hO63 (.inr g_b54)).trNew hN65).loc hO74 (.inr g_b11)
    have gA_A75 := gA_new hF hA79
    replace B4 := B4.new hN77
    replace B57 := B57.new hN77
    refine Zhb ⟨B4, B57, trivial⟩ ?_
    refine Zhn ?_
    refine Ztl ?_
    refine Za ?_
    refine Za ?_
    refine Znn ?_
    refine Zrt ?_
    refine Zr1 ?_
    refine Zr2 ?_
    refine Zr1 ?_
    replace B14 := B14.new hN77
    refine Zre rfl [_, _, _] ⟨⟨_, rfl, loadV_E (E := rcE) ag42 rfl (B14.rangeE rcE)⟩, rfl, rfl, trivial⟩ ?_
    have hmi : rMine (RD.mk id n ways L ak al aw gv gx) m = true := hc61
    have hq : rTakeF (RD.mk id n ways L ak al aw gv gx) m = ((RD.mk id n ways L (ak) al (aw) (gv) gx), [{ (mkM 11 id 4 m.line) with bs := gx.bs }], 0) := by unfold rTakeF; rw [if_neg (show ¬ (chk m ≠ 0 ∨ m.dst ≠ id) by rintro (h | h); exact h hck; exact h hdn), if_neg (show ¬ (m.kind = 8 ∨ m.kind = 9 ∨ m.kind = 10) by omega), if_pos (show m.kind = 4 ∨ m.kind = 5 by omega), if_pos hmi]; try rfl
    replace hV := (((((hV.new hN56).only hO60 (Apart.ne1 ap_A_b54)).only hO63 (Apart.ne1 ap_A_b54)).new hN65).only hO74 (Apart.ne1 ap_A_b11)).new hN77
    replace hF := hF.trNew hN77
    exact ⟨_, rfl, refR_mk (r' := (RD.mk id n ways L (ak) al (aw) (gv) gx)) (A' := A) (cap' := cap) (B := A75) (cB := 1) (l := [{ (mkM 11 id 4 m.line) with bs := gx.bs }]) hq hV (O78).view (fun g hg => .inl hg) (fun g hg => (gA_A75 g hg).resolve_left (fun h => h)) hF⟩
  ·have hc61s := hc61
   try simp at hc61s
   refine Zsk ?_
   refine Znx ?_
   refine Zsq ?_
   refine Zsr ?_
   refine Zm ?_
   refine Zv _ (fun _ fr => x_lss rfl (fr.ev rfl) rfl rfl) ?_
   refine Znn ?_
   refine Zcd (fun hc80 => ?_) (fun hc80 => ?_)
   ·have hc80 := of_decide_eq_true hc80
    refine Zsr ?_
    replace B4 := (B4.new hN56).only hO60 ne_b1_b54
    refine ZE rcE ag42 (B4.rangeE rcE) ?_
    replace B14 := (B14.new hN56).only hO60 ne_b11_b54
    refine ZsS sz42 (rcE.all _) B14 (rcE.size _) (rcE.size _) fun w81 hO82 hBq => ?_
    replace B14 := hBq
    clear hBq
    refine Za ?_
    refine Za ?_
    refine Znn ?_
    refine Zrt ?_
    refine Zr1 ?_
    refine Zr2 ?_
    refine Zr1 ?_
    refine Zre rfl [_, _, _] ⟨⟨_, rfl, loadV_E (E := rcE) ag42 rfl (B14.rangeE rcE)⟩, rfl, rfl, trivial⟩ ?_
    have hmi : rMine (RD.mk id n ways L ak al aw gv gx) m = false := hc61
    have hq : rTakeF (RD.mk id n ways L ak al aw gv gx) m = ((RD.mk id n ways L (ak) al (aw) (gv) gx), ([] : List Msg), 220) := by unfold rTakeF; rw [if_neg (show ¬ (chk m ≠ 0 ∨ m.dst ≠ id) by rintro (h | h); exact h hck; exact h hdn), if_neg (show ¬ (m.kind = 8 ∨ m.kind = 9 ∨ m.kind = 10) by omega), if_pos (show m.kind = 4 ∨ m.kind = 5 by omega), if_neg (show ¬ rMine (RD.mk id n ways L ak al aw gv gx) m = true by rw [hmi]; decide)]; exact if_pos hc80
    replace hV := ((hV.new hN56).only hO60 (Apart.ne1 ap_A_b54)).only hO82 (Apart.ne1 ap_A_b11)
    replace hF := ((hF.trNew hN56).loc hO60 (.inr g_b54)).loc hO82 (.inr g_b11)
    exact ⟨_, rfl, refR_mk (r' := (RD.mk id n ways L (ak) al (aw) (gv) gx)) (A' := A) (cap' := cap) (B := none) (cB := 0) (l := ([] : List Msg)) hq hV View.nil (fun g hg => .inl hg) (fun g hg => absurd hg (apart_none g)) hF⟩
   ·have hc80 := of_decide_eq_false hc80
    refine Zsk ?_
    refine Znx ?_
    refine Zsq ?_
    refine ZhT (n := 8) 8 (fun w => View lnE w A cap L ∧ Blk w b1 42 (rcE.arr (RC.mk id ((n : Nat) : Int) ways A L.length cap (ak) al (aw) (gv) gx)) ∧ True) ?_
    intro w83 hN84
    replace hV := ((hV.new hN56).only hO60 (Apart.ne1 ap_A_b54)).new hN84
    replace B4 := ((B4.new hN56).only hO60 ne_b1_b54).new hN84
    have hS9 := And.intro hV (And.intro B4 trivial)
    refine Zhf 0 fo42_3 hS9 ?_
    refine Zhl (v := .slice A L.length cap) 1 pl40 hS9 (fun _ ⟨_, B4, _⟩ => (B4.cell 3 rfl)) ?_
    refine ZhE 2 rcE ag42 hS9 (fun _ ⟨_, B4, _⟩ => (B4.rangeE rcE)) ?_
    refine Zhm 3 hS9 ?_
    refine Zh2 4 7 ?_ ?_
    ·refine Zk cf58 (rcfind_c m.line (hV)) ?_
     rintro v w85 ⟨rfl, hN86⟩
     intro a fr
     rw [hf] at fr
     revert a
     replace hV := hV.new hN86
     replace B4 := B4.new hN86
     refine Zhb ⟨hV, B4, trivial⟩ ?_
     obtain ⟨g87, o88, hA89⟩ := (hV).some_ (by omega)
     have hS9 := And.intro hV (And.intro B4 trivial)
     refine Zht 5 rfl (.pointer (some ⟨g87, o88 + i * 18, none⟩)) hS9 (fun _ fr _ _ => x_indexV Try.underlying40 sz39 rfl (fr.ev rfl) hA89 (fr.ev rfl) (by omega) rfl) ?_
     refine ZhE 6 lnE ag39 hS9 (fun _ ⟨hV, _⟩ => ((hV).elem hA89 i ln0 (by omega))) ?_
     refine Zh1 7 ?_
     refine Zna (z := zv1) (cs := lnE.arr ln0) (by kernel_rfl) fun b90 w91 hN92 B93 hb94 => ?_
     have ap_A_b90 : Apart A b90 := hV.apart hb94
     have ne_b1_b90 : NE b1 b90 := NE.mk (Nat.lt_of_lt_of_le B4.lt hb94)
     replace B14 := (((B14.new hN56).only hO60 ne_b11_b54).new hN84).new hN86
     have ne_b11_b90 : NE b11 b90 := NE.mk (Nat.lt_of_lt_of_le B14.lt hb94)
     replace B57 := (B57.new hN84).new hN86
     have ne_b54_b90 : NE b54 b90 := NE.mk (Nat.lt_of_lt_of_le B57.lt hb94)
     replace hF := (((hF.trNew hN56).loc hO60 (.inr g_b54)).trNew hN84).trNew hN86
     have g_b90 := Nat.le_trans hF.size hb94
     replace hV := hV.new hN92
     replace B4 := B4.new hN92
     refine Zhb ⟨hV, B4, trivial⟩ ?_
     refine Zhn ?_
     refine Ztl ?_
     refine ZsS sz39 (lnE.all _) B93 (lnE.size _) (lnE.size _) fun w95 hO96 hBq => ?_
     replace B93 := hBq
     clear hBq
     refine Znn ?_
     refine Zsr ?_
     refine Zf fo39_2 ?_
     refine ZE (p := (L.getD i ln0).bs) bsE ag22 (B93.part (ln_bs _)) ?_
     refine Zf fo35_4 ?_
     intro a fr
     replace B57 := (B57.new hN92).only hO96 ne_b54_b90
     refine fx_storePart (E := msgE) (E2 := bsE) (q := 4) (m := (mkM 11 id 4 m.line)) (m' := { (mkM 11 id 4 m.line) with bs := (L.getD i ln0).bs }) (z := (L.getD i ln0).bs) sz22 rfl rfl rfl (fr.ev rfl) (fr.ev rfl) B57 (by decide) (msg_setbs _ _) fun w97 hO98 hBq => ?_
     revert a
     replace B57 := hBq
     clear hBq
     refine Znn ?_
     refine Zsq ?_
     refine Zsr ?_
     refine Zm ?_
     refine Zv (.bool false) (fun _ fr => x_eql rfl (fr.ev rfl) rfl (decide_eq_false (by omega))) ?_
     refine Znn ?_
     refine Zcf ?_
     refine Zsk ?_
     refine Znx ?_
     refine Zsr ?_
     refine Zf fo39_1 ?_
     replace B93 := B93.only hO98 ne_b54_b90.symm
     refine Zs1 (cs' := lnE.arr { (L.getD i ln0) with state := 1 }) sz36 B93 (by rw [lnE.size]; decide) (ln_setstate _ _) fun w99 hO100 hBq => ?_
     replace B93 := hBq
     clear hBq
     refine Znn ?_
     refine Zsq ?_
     refine ZhT (n := 6) 6 (fun w => Blk w b1 42 (rcE.arr (RC.mk id ((n : Nat) : Int) ways A L.length cap (ak) al (aw) (gv) gx)) ∧ Blk w b54 35 (msgE.arr { (mkM 11 id 4 m.line) with bs := (L.getD i ln0).bs }) ∧ Blk w b90 39 (lnE.arr { (L.getD i ln0) with state := 1 }) ∧ True) ?_
     intro w101 hN102
     replace B4 := (((B4.only hO96 ne_b1_b90).only hO98 ne_b1_b54).only hO100 ne_b1_b90).new hN102
     replace B57 := (B57.only hO100 ne_b54_b90).new hN102
     replace B93 := B93.new hN102
     have hS9 := And.intro B4 (And.intro B57 (And.intro B93 trivial))
     refine ZhE 0 rcE ag42 hS9 (fun _ ⟨B4, _⟩ => (B4.rangeE rcE)) ?_
     refine ZhE 1 lnE ag39 hS9 (fun _ ⟨_, _, B93, _⟩ => (B93.rangeE lnE)) ?_
     refine ZhE 3 msgE ag35 hS9 (fun _ ⟨_, B57, _⟩ => (B57.rangeE msgE)) ?_
     refine Zh2 2 4 ?_ ?_
     ·replace hV := (((hV.only hO96 (Apart.ne1 ap_A_b90)).only hO98 (Apart.ne1 ap_A_b54)).only hO100 (Apart.ne1 ap_A_b90)).new hN102
      refine Zk (args := #[.agg (rcE.arr (RC.mk id ((n : Nat) : Int) ways A L.length cap (ak) al (aw) (gv) gx)), .agg (lnE.arr { (L.getD i ln0) with state := 1 })]) cf59 (rcwith_c ({ (L.getD i ln0) with state := 1 }) (hV) (by omega) (by omega)) ?_
      rintro v w107 ⟨A103, cap104, rfl, V105, hA106, hN108⟩
      replace B14 := ((((B14.new hN92).only hO96 ne_b11_b90).only hO98 ne_b11_b54).only hO100 ne_b11_b90).new hN102
      have ap_A103_b11 : Apart A103 b11 := new_apart hA106 B14.lt
      replace hF := ((((hF.trNew hN92).loc hO96 (.inr g_b90)).loc hO98 (.inr g_b54)).loc hO100 (.inr g_b90)).trNew hN102
      have gA_A103 := gA_new hF hA106
      replace B4 := B4.new hN108
      replace B57 := B57.new hN108
      replace B93 := B93.new hN108
      refine Zhb ⟨B4, B57, B93, trivial⟩ ?_
      refine Zh2 4 5 ?_ ?_
      ·intro a fr
       refine fx_build1 (E := msgE) (p := { (mkM 11 id 4 m.line) with bs := (L.getD i ln0).bs }) elMsg (by decide) fr rfl rfl (by decide) rfl (fr.ev rfl) ?_
       clear fr a
       intro A109 w110 hN111 O112 hA113
       replace B14 := B14.new hN108
       have ap_A109_b11 : Apart A109 b11 := new_apart hA113 B14.lt
       replace hF := hF.trNew hN108
       have gA_A109 := gA_new hF hA113
       replace B4 := B4.new hN111
       replace B57 := B57.new hN111
       replace B93 := B93.new hN111
       refine Zhb ⟨B4, B57, B93, trivial⟩ ?_
       refine Zh1 5 ?_
       replace B14 := B14.new hN111
       refine ZsS sz42 (rcE.all _) B14 (rcE.size _) (rcE.size _) fun w114 hO115 hBq => ?_
       replace B14 := hBq
       clear hBq
       replace B4 := B4.only hO115 ne_b1_b11
       replace B57 := B57.only hO115 ne_b11_b54.symm
       replace B93 := B93.only hO115 ne_b11_b90.symm
       refine Zhb ⟨B4, B57, B93, trivial⟩ ?_
       refine Zhn ?_
       refine Ztl ?_
       refine Za ?_
       refine Za ?_
       refine Znn ?_
       refine Zrt ?_
       refine Zr2 ?_
       refine Zr1 ?_
       refine Zre rfl [_, _, _] ⟨⟨_, rfl, loadV_E (E := rcE) ag42 rfl (B14.rangeE rcE)⟩, rfl, rfl, trivial⟩ ?_
       have hmi : rMine (RD.mk id n ways L ak al aw gv gx) m = false := hc61
       have hq : rTakeF (RD.mk id n ways L ak al aw gv gx) m = ((RD.mk id n ways (withF n L ({ (L.getD i ln0) with state := 1 })) (ak) al (aw) (gv) gx), [{ (mkM 11 id 4 m.line) with bs := (L.getD i ln0).bs }], 0) := by unfold rTakeF; rw [if_neg (show ¬ (chk m ≠ 0 ∨ m.dst ≠ id) by rintro (h | h); exact h hck; exact h hdn), if_neg (show ¬ (m.kind = 8 ∨ m.kind = 9 ∨ m.kind = 10) by omega), if_pos (show m.kind = 4 ∨ m.kind = 5 by omega), if_neg (show ¬ rMine (RD.mk id n ways L ak al aw gv gx) m = true by rw [hmi]; decide), if_neg (show ¬ stateOf L m.line < 2 from hc80), if_neg (by omega)]; dsimp only; rw [get_at hi hin hall]; try rfl
       replace V105 := (V105.new hN111).only hO115 (Apart.ne1 ap_A103_b11)
       replace hF := (hF.trNew hN111).loc hO115 (.inr g_b11)
       replace O112 := O112.only hO115 (Apart.ne1 ap_A109_b11)
       exact ⟨_, rfl, refR_mk (r' := (RD.mk id n ways (withF n L ({ (L.getD i ln0) with state := 1 })) (ak) al (aw) (gv) gx)) (A' := A103) (cap' := cap104) (B := A109) (cB := 1) (l := [{ (mkM 11 id 4 m.line) with bs := (L.getD i ln0).bs }]) hq V105 (O112).view (fun g hg => .inr ((gA_A103 g hg).resolve_left (fun h => h))) (fun g hg => (gA_A109 g hg).resolve_left (fun h => h)) hF⟩
      ·replace B14 := B14.new hN108
       refine ZsS sz42 (rcE.all _) B14 (rcE.size _) (rcE.size _) fun w116 hO117 hBq => ?_
       replace B14 := hBq
       clear hBq
       replace B4 := B4.only hO117 ne_b1_b11
       replace B57 := B57.only hO117 ne_b11_b54.symm
       replace B93 := B93.only hO117 ne_b11_b90.symm
       refine Zhb ⟨B4, B57, B93, trivial⟩ ?_
       refine Zh1 4 ?_
       intro a fr
       refine fx_build1 (E := msgE) (p := { (mkM 11 id 4 m.line) with bs := (L.getD i ln0).bs }) elMsg (by decide) fr rfl rfl (by decide) rfl (fr.ev rfl) ?_
       clear fr a
       intro A118 w119 hN120 O121 hA122
       replace hF := (hF.trNew hN108).loc hO117 (.inr g_b11)
       have gA_A118 := gA_new hF hA122
       replace B4 := B4.new hN120
       replace B57 := B57.new hN120
       replace B93 := B93.new hN120
       refine Zhb ⟨B4, B57, B93, trivial⟩ ?_
       refine Zhn ?_
       refine Ztl ?_
       refine Za ?_
       refine Za ?_
       refine Znn ?_
       refine Zrt ?_
       refine Zr2 ?_
       refine Zr1 ?_
       replace B14 := B14.new hN120
       refine Zre rfl [_, _, _] ⟨⟨_, rfl, loadV_E (E := rcE) ag42 rfl (B14.rangeE rcE)⟩, rfl, rfl, trivial⟩ ?_
       have hmi : rMine (RD.mk id n ways L ak al aw gv gx) m = false := hc61
       have hq : rTakeF (RD.mk id n ways L ak al aw gv gx) m = ((RD.mk id n ways (withF n L ({ (L.getD i ln0) with state := 1 })) (ak) al (aw) (gv) gx), [{ (mkM 11 id 4 m.line) with bs := (L.getD i ln0).bs }], 0) := by unfold rTakeF; rw [if_neg (show ¬ (chk m ≠ 0 ∨ m.dst ≠ id) by rintro (h | h); exact h hck; exact h hdn), if_neg (show ¬ (m.kind = 8 ∨ m.kind = 9 ∨ m.kind = 10) by omega), if_pos (show m.kind = 4 ∨ m.kind = 5 by omega), if_neg (show ¬ rMine (RD.mk id n ways L ak al aw gv gx) m = true by rw [hmi]; decide), if_neg (show ¬ stateOf L m.line < 2 from hc80), if_neg (by omega)]; dsimp only; rw [get_at hi hin hall]; try rfl
       replace V105 := (V105.only hO117 (Apart.ne1 ap_A103_b11)).new hN120
       replace hF := hF.trNew hN120
       exact ⟨_, rfl, refR_mk (r' := (RD.mk id n ways (withF n L ({ (L.getD i ln0) with state := 1 })) (ak) al (aw) (gv) gx)) (A' := A103) (cap' := cap104) (B := A118) (cB := 1) (l := [{ (mkM 11 id 4 m.line) with bs := (L.getD i ln0).bs }]) hq V105 (O121).view (fun g hg => .inr ((gA_A103 g hg).resolve_left (fun h => h))) (fun g hg => (gA_A118 g hg).resolve_left (fun h => h)) hF⟩
     ·intro a fr
      refine fx_build1 (E := msgE) (p := { (mkM 11 id 4 m.line) with bs := (L.getD i ln0).bs }) elMsg (by decide) fr rfl rfl (by decide) rfl (fr.ev rfl) ?_
      clear fr a
      intro A123 w124 hN125 O126 hA127
      replace B14 := ((((B14.new hN92).only hO96 ne_b11_b90).only hO98 ne_b11_b54).only hO100 ne_b11_b90).new hN102
      have ap_A123_b11 : Apart A123 b11 := new_apart hA127 B14.lt
      replace hF := ((((hF.trNew hN92).loc hO96 (.inr g_b90)).loc hO98 (.inr g_b54)).loc hO100 (.inr g_b90)).trNew hN102
      have gA_A123 := gA_new hF hA127
      replace B4 := B4.new hN125
      replace B57 := B57.new hN125
      replace B93 := B93.new hN125
      refine Zhb ⟨B4, B57, B93, trivial⟩ ?_
      refine Zh1 2 ?_
      replace hV := ((((hV.only hO96 (Apart.ne1 ap_A_b90)).only hO98 (Apart.ne1 ap_A_b54)).only hO100 (Apart.ne1 ap_A_b90)).new hN102).new hN125
      refine Zk (args := #[.agg (rcE.arr (RC.mk id ((n : Nat) : Int) ways A L.length cap (ak) al (aw) (gv) gx)), .agg (lnE.arr { (L.getD i ln0) with state := 1 })]) cf59 (rcwith_c ({ (L.getD i ln0) with state := 1 }) (hV) (by omega) (by omega)) ?_
      rintro v w132 ⟨A128, cap129, rfl, V130, hA131, hN133⟩
      replace B14 := B14.new hN125
      have ap_A128_b11 : Apart A128 b11 := new_apart hA131 B14.lt
      replace hF := hF.trNew hN125
      have gA_A128 := gA_new hF hA131
      replace B4 := B4.new hN133
      replace B57 := B57.new hN133
      replace B93 := B93.new hN133
      refine Zhb ⟨B4, B57, B93, trivial⟩ ?_
      refine Zh1 5 ?_
      replace B14 := B14.new hN133
      refine ZsS sz42 (rcE.all _) B14 (rcE.size _) (rcE.size _) fun w134 hO135 hBq => ?_
      replace B14 := hBq
      clear hBq
      replace B4 := B4.only hO135 ne_b1_b11
      replace B57 := B57.only hO135 ne_b11_b54.symm
      replace B93 := B93.only hO135 ne_b11_b90.symm
      refine Zhb ⟨B4, B57, B93, trivial⟩ ?_
      refine Zhn ?_
      refine Ztl ?_
      refine Za ?_
      refine Za ?_
      refine Znn ?_
      refine Zrt ?_
      refine Zr2 ?_
      refine Zr1 ?_
      refine Zre rfl [_, _, _] ⟨⟨_, rfl, loadV_E (E := rcE) ag42 rfl (B14.rangeE rcE)⟩, rfl, rfl, trivial⟩ ?_
      have hmi : rMine (RD.mk id n ways L ak al aw gv gx) m = false := hc61
      have hq : rTakeF (RD.mk id n ways L ak al aw gv gx) m = ((RD.mk id n ways (withF n L ({ (L.getD i ln0) with state := 1 })) (ak) al (aw) (gv) gx), [{ (mkM 11 id 4 m.line) with bs := (L.getD i ln0).bs }], 0) := by unfold rTakeF; rw [if_neg (show ¬ (chk m ≠ 0 ∨ m.dst ≠ id) by rintro (h | h); exact h hck; exact h hdn), if_neg (show ¬ (m.kind = 8 ∨ m.kind = 9 ∨ m.kind = 10) by omega), if_pos (show m.kind = 4 ∨ m.kind = 5 by omega), if_neg (show ¬ rMine (RD.mk id n ways L ak al aw gv gx) m = true by rw [hmi]; decide), if_neg (show ¬ stateOf L m.line < 2 from hc80), if_neg (by omega)]; dsimp only; rw [get_at hi hin hall]; try rfl
      replace O126 := (O126.new hN133).only hO135 (Apart.ne1 ap_A123_b11)
      replace hF := (hF.trNew hN133).loc hO135 (.inr g_b11)
      replace V130 := V130.only hO135 (Apart.ne1 ap_A128_b11)
      exact ⟨_, rfl, refR_mk (r' := (RD.mk id n ways (withF n L ({ (L.getD i ln0) with state := 1 })) (ak) al (aw) (gv) gx)) (A' := A128) (cap' := cap129) (B := A123) (cB := 1) (l := [{ (mkM 11 id 4 m.line) with bs := (L.getD i ln0).bs }]) hq V130 (O126).view (fun g hg => .inr ((gA_A128 g hg).resolve_left (fun h => h))) (fun g hg => (gA_A123 g hg).resolve_left (fun h => h)) hF⟩
    ·refine Zna (z := zv1) (cs := lnE.arr ln0) (by kernel_rfl) fun b136 w137 hN138 B139 hb140 => ?_
     have ap_A_b136 : Apart A b136 := hV.apart hb140
     have ne_b1_b136 : NE b1 b136 := NE.mk (Nat.lt_of_lt_of_le B4.lt hb140)
     replace B14 := ((B14.new hN56).only hO60 ne_b11_b54).new hN84
     have ne_b11_b136 : NE b11 b136 := NE.mk (Nat.lt_of_lt_of_le B14.lt hb140)
     replace B57 := B57.new hN84
     have ne_b54_b136 : NE b54 b136 := NE.mk (Nat.lt_of_lt_of_le B57.lt hb140)
     replace hF := ((hF.trNew hN56).loc hO60 (.inr g_b54)).trNew hN84
     have g_b136 := Nat.le_trans hF.size hb140
     replace hV := hV.new hN138
     replace B4 := B4.new hN138
     refine Zhb ⟨hV, B4, trivial⟩ ?_
     refine Zh1 4 ?_
     refine Zk cf58 (rcfind_c m.line (hV)) ?_
     rintro v w141 ⟨rfl, hN142⟩
     intro a fr
     rw [hf] at fr
     revert a
     replace hV := hV.new hN142
     replace B4 := B4.new hN142
     refine Zhb ⟨hV, B4, trivial⟩ ?_
     obtain ⟨g143, o144, hA145⟩ := (hV).some_ (by omega)
     have hS9 := And.intro hV (And.intro B4 trivial)
     refine Zht 5 rfl (.pointer (some ⟨g143, o144 + i * 18, none⟩)) hS9 (fun _ fr _ _ => x_indexV Try.underlying40 sz39 rfl (fr.ev rfl) hA145 (fr.ev rfl) (by omega) rfl) ?_
     refine ZhE 6 lnE ag39 hS9 (fun _ ⟨hV, _⟩ => ((hV).elem hA145 i ln0 (by omega))) ?_
     refine Zhn ?_
     refine Ztl ?_
     replace B139 := B139.new hN142
     refine ZsS sz39 (lnE.all _) B139 (lnE.size _) (lnE.size _) fun w146 hO147 hBq => ?_
     replace B139 := hBq
     clear hBq
     refine Znn ?_
     refine Zsr ?_
     refine Zf fo39_2 ?_
     refine ZE (p := (L.getD i ln0).bs) bsE ag22 (B139.part (ln_bs _)) ?_
     refine Zf fo35_4 ?_
     intro a fr
     replace B57 := ((B57.new hN138).new hN142).only hO147 ne_b54_b136
     refine fx_storePart (E := msgE) (E2 := bsE) (q := 4) (m := (mkM 11 id 4 m.line)) (m' := { (mkM 11 id 4 m.line) with bs := (L.getD i ln0).bs }) (z := (L.getD i ln0).bs) sz22 rfl rfl rfl (fr.ev rfl) (fr.ev rfl) B57 (by decide) (msg_setbs _ _) fun w148 hO149 hBq => ?_
     revert a
     replace B57 := hBq
     clear hBq
     refine Znn ?_
     refine Zsq ?_
     refine Zsr ?_
     refine Zm ?_
     refine Zv (.bool false) (fun _ fr => x_eql rfl (fr.ev rfl) rfl (decide_eq_false (by omega))) ?_
     refine Znn ?_
     refine Zcf ?_
     refine Zsk ?_
     refine Znx ?_
     refine Zsr ?_
     refine Zf fo39_1 ?_
     replace B139 := B139.only hO149 ne_b54_b136.symm
     refine Zs1 (cs' := lnE.arr { (L.getD i ln0) with state := 1 }) sz36 B139 (by rw [lnE.size]; decide) (ln_setstate _ _) fun w150 hO151 hBq => ?_
     replace B139 := hBq
     clear hBq
     refine Znn ?_
     refine Zsq ?_
     refine ZhT (n := 6) 6 (fun w => Blk w b1 42 (rcE.arr (RC.mk id ((n : Nat) : Int) ways A L.length cap (ak) al (aw) (gv) gx)) ∧ Blk w b54 35 (msgE.arr { (mkM 11 id 4 m.line) with bs := (L.getD i ln0).bs }) ∧ Blk w b136 39 (lnE.arr { (L.getD i ln0) with state := 1 }) ∧ True) ?_
     intro w152 hN153
     replace B4 := (((B4.only hO147 ne_b1_b136).only hO149 ne_b1_b54).only hO151 ne_b1_b136).new hN153
     replace B57 := (B57.only hO151 ne_b54_b136).new hN153
     replace B139 := B139.new hN153
     have hS9 := And.intro B4 (And.intro B57 (And.intro B139 trivial))
     refine ZhE 0 rcE ag42 hS9 (fun _ ⟨B4, _⟩ => (B4.rangeE rcE)) ?_
     refine ZhE 1 lnE ag39 hS9 (fun _ ⟨_, _, B139, _⟩ => (B139.rangeE lnE)) ?_
     refine ZhE 3 msgE ag35 hS9 (fun _ ⟨_, B57, _⟩ => (B57.rangeE msgE)) ?_
     refine Zh2 2 4 ?_ ?_
     ·replace hV := (((hV.only hO147 (Apart.ne1 ap_A_b136)).only hO149 (Apart.ne1 ap_A_b54)).only hO151 (Apart.ne1 ap_A_b136)).new hN153
      refine Zk (args := #[.agg (rcE.arr (RC.mk id ((n : Nat) : Int) ways A L.length cap (ak) al (aw) (gv) gx)), .agg (lnE.arr { (L.getD i ln0) with state := 1 })]) cf59 (rcwith_c ({ (L.getD i ln0) with state := 1 }) (hV) (by omega) (by omega)) ?_
      rintro v w158 ⟨A154, cap155, rfl, V156, hA157, hN159⟩
      replace B14 := (((((B14.new hN138).new hN142).only hO147 ne_b11_b136).only hO149 ne_b11_b54).only hO151 ne_b11_b136).new hN153
      have ap_A154_b11 : Apart A154 b11 := new_apart hA157 B14.lt
      replace hF := (((((hF.trNew hN138).trNew hN142).loc hO147 (.inr g_b136)).loc hO149 (.inr g_b54)).loc hO151 (.inr g_b136)).trNew hN153
      have gA_A154 := gA_new hF hA157
      replace B4 := B4.new hN159
      replace B57 := B57.new hN159
      replace B139 := B139.new hN159
      refine Zhb ⟨B4, B57, B139, trivial⟩ ?_
      refine Zh2 4 5 ?_ ?_
      ·intro a fr
       refine fx_build1 (E := msgE) (p := { (mkM 11 id 4 m.line) with bs := (L.getD i ln0).bs }) elMsg (by decide) fr rfl rfl (by decide) rfl (fr.ev rfl) ?_
       clear fr a
       intro A160 w161 hN162 O163 hA164
       replace B14 := B14.new hN159
       have ap_A160_b11 : Apart A160 b11 := new_apart hA164 B14.lt
       replace hF := hF.trNew hN159
       have gA_A160 := gA_new hF hA164
       replace B4 := B4.new hN162
       replace B57 := B57.new hN162
       replace B139 := B139.new hN162
       refine Zhb ⟨B4, B57, B139, trivial⟩ ?_
       refine Zh1 5 ?_
       replace B14 := B14.new hN162
       refine ZsS sz42 (rcE.all _) B14 (rcE.size _) (rcE.size _) fun w165 hO166 hBq => ?_
       replace B14 := hBq
       clear hBq
       replace B4 := B4.only hO166 ne_b1_b11
       replace B57 := B57.only hO166 ne_b11_b54.symm
       replace B139 := B139.only hO166 ne_b11_b136.symm
       refine Zhb ⟨B4, B57, B139, trivial⟩ ?_
       refine Zhn ?_
       refine Ztl ?_
       refine Za ?_
       refine Za ?_
       refine Znn ?_
       refine Zrt ?_
       refine Zr2 ?_
       refine Zr1 ?_
       refine Zre rfl [_, _, _] ⟨⟨_, rfl, loadV_E (E := rcE) ag42 rfl (B14.rangeE rcE)⟩, rfl, rfl, trivial⟩ ?_
       have hmi : rMine (RD.mk id n ways L ak al aw gv gx) m = false := hc61
       have hq : rTakeF (RD.mk id n ways L ak al aw gv gx) m = ((RD.mk id n ways (withF n L ({ (L.getD i ln0) with state := 1 })) (ak) al (aw) (gv) gx), [{ (mkM 11 id 4 m.line) with bs := (L.getD i ln0).bs }], 0) := by unfold rTakeF; rw [if_neg (show ¬ (chk m ≠ 0 ∨ m.dst ≠ id) by rintro (h | h); exact h hck; exact h hdn), if_neg (show ¬ (m.kind = 8 ∨ m.kind = 9 ∨ m.kind = 10) by omega), if_pos (show m.kind = 4 ∨ m.kind = 5 by omega), if_neg (show ¬ rMine (RD.mk id n ways L ak al aw gv gx) m = true by rw [hmi]; decide), if_neg (show ¬ stateOf L m.line < 2 from hc80), if_neg (by omega)]; dsimp only; rw [get_at hi hin hall]; try rfl
       replace V156 := (V156.new hN162).only hO166 (Apart.ne1 ap_A154_b11)
       replace hF := (hF.trNew hN162).loc hO166 (.inr g_b11)
       replace O163 := O163.only hO166 (Apart.ne1 ap_A160_b11)
       exact ⟨_, rfl, refR_mk (r' := (RD.mk id n ways (withF n L ({ (L.getD i ln0) with state := 1 })) (ak) al (aw) (gv) gx)) (A' := A154) (cap' := cap155) (B := A160) (cB := 1) (l := [{ (mkM 11 id 4 m.line) with bs := (L.getD i ln0).bs }]) hq V156 (O163).view (fun g hg => .inr ((gA_A154 g hg).resolve_left (fun h => h))) (fun g hg => (gA_A160 g hg).resolve_left (fun h => h)) hF⟩
      ·replace B14 := B14.new hN159
       refine ZsS sz42 (rcE.all _) B14 (rcE.size _) (rcE.size _) fun w167 hO168 hBq => ?_
       replace B14 := hBq
       clear hBq
       replace B4 := B4.only hO168 ne_b1_b11
       replace B57 := B57.only hO168 ne_b11_b54.symm
       replace B139 := B139.only hO168 ne_b11_b136.symm
       refine Zhb ⟨B4, B57, B139, trivial⟩ ?_
       refine Zh1 4 ?_
       intro a fr
       refine fx_build1 (E := msgE) (p := { (mkM 11 id 4 m.line) with bs := (L.getD i ln0).bs }) elMsg (by decide) fr rfl rfl (by decide) rfl (fr.ev rfl) ?_
       clear fr a
       intro A169 w170 hN171 O172 hA173
       replace hF := (hF.trNew hN159).loc hO168 (.inr g_b11)
       have gA_A169 := gA_new hF hA173
       replace B4 := B4.new hN171
       replace B57 := B57.new hN171
       replace B139 := B139.new hN171
       refine Zhb ⟨B4, B57, B139, trivial⟩ ?_
       refine Zhn ?_
       refine Ztl ?_
       refine Za ?_
       refine Za ?_
       refine Znn ?_
       refine Zrt ?_
       refine Zr2 ?_
       refine Zr1 ?_
       replace B14 := B14.new hN171
       refine Zre rfl [_, _, _] ⟨⟨_, rfl, loadV_E (E := rcE) ag42 rfl (B14.rangeE rcE)⟩, rfl, rfl, trivial⟩ ?_
       have hmi : rMine (RD.mk id n ways L ak al aw gv gx) m = false := hc61
       have hq : rTakeF (RD.mk id n ways L ak al aw gv gx) m = ((RD.mk id n ways (withF n L ({ (L.getD i ln0) with state := 1 })) (ak) al (aw) (gv) gx), [{ (mkM 11 id 4 m.line) with bs := (L.getD i ln0).bs }], 0) := by unfold rTakeF; rw [if_neg (show ¬ (chk m ≠ 0 ∨ m.dst ≠ id) by rintro (h | h); exact h hck; exact h hdn), if_neg (show ¬ (m.kind = 8 ∨ m.kind = 9 ∨ m.kind = 10) by omega), if_pos (show m.kind = 4 ∨ m.kind = 5 by omega), if_neg (show ¬ rMine (RD.mk id n ways L ak al aw gv gx) m = true by rw [hmi]; decide), if_neg (show ¬ stateOf L m.line < 2 from hc80), if_neg (by omega)]; dsimp only; rw [get_at hi hin hall]; try rfl
       replace V156 := (V156.only hO168 (Apart.ne1 ap_A154_b11)).new hN171
       replace hF := hF.trNew hN171
       exact ⟨_, rfl, refR_mk (r' := (RD.mk id n ways (withF n L ({ (L.getD i ln0) with state := 1 })) (ak) al (aw) (gv) gx)) (A' := A154) (cap' := cap155) (B := A169) (cB := 1) (l := [{ (mkM 11 id 4 m.line) with bs := (L.getD i ln0).bs }]) hq V156 (O172).view (fun g hg => .inr ((gA_A154 g hg).resolve_left (fun h => h))) (fun g hg => (gA_A169 g hg).resolve_left (fun h => h)) hF⟩
     ·intro a fr
      refine fx_build1 (E := msgE) (p := { (mkM 11 id 4 m.line) with bs := (L.getD i ln0).bs }) elMsg (by decide) fr rfl rfl (by decide) rfl (fr.ev rfl) ?_
      clear fr a
      intro A174 w175 hN176 O177 hA178
      replace B14 := (((((B14.new hN138).new hN142).only hO147 ne_b11_b136).only hO149 ne_b11_b54).only hO151 ne_b11_b136).new hN153
      have ap_A174_b11 : Apart A174 b11 := new_apart hA178 B14.lt
      replace hF := (((((hF.trNew hN138).trNew hN142).loc hO147 (.inr g_b136)).loc hO149 (.inr g_b54)).loc hO151 (.inr g_b136)).trNew hN153
      have gA_A174 := gA_new hF hA178
      replace B4 := B4.new hN176
      replace B57 := B57.new hN176
      replace B139 := B139.new hN176
      refine Zhb ⟨B4, B57, B139, trivial⟩ ?_
      refine Zh1 2 ?_
      replace hV := ((((hV.only hO147 (Apart.ne1 ap_A_b136)).only hO149 (Apart.ne1 ap_A_b54)).only hO151 (Apart.ne1 ap_A_b136)).new hN153).new hN176
      refine Zk (args := #[.agg (rcE.arr (RC.mk id ((n : Nat) : Int) ways A L.length cap (ak) al (aw) (gv) gx)), .agg (lnE.arr { (L.getD i ln0) with state := 1 })]) cf59 (rcwith_c ({ (L.getD i ln0) with state := 1 }) (hV) (by omega) (by omega)) ?_
      rintro v w183 ⟨A179, cap180, rfl, V181, hA182, hN184⟩
      replace B14 := B14.new hN176
      have ap_A179_b11 : Apart A179 b11 := new_apart hA182 B14.lt
      replace hF := hF.trNew hN176
      have gA_A179 := gA_new hF hA182
      replace B4 := B4.new hN184
      replace B57 := B57.new hN184
      replace B139 := B139.new hN184
      refine Zhb ⟨B4, B57, B139, trivial⟩ ?_
      refine Zh1 5 ?_
      replace B14 := B14.new hN184
      refine ZsS sz42 (rcE.all _) B14 (rcE.size _) (rcE.size _) fun w185 hO186 hBq => ?_
      replace B14 := hBq
      clear hBq
      replace B4 := B4.only hO186 ne_b1_b11
      replace B57 := B57.only hO186 ne_b11_b54.symm
      replace B139 := B139.only hO186 ne_b11_b136.symm
      refine Zhb ⟨B4, B57, B139, trivial⟩ ?_
      refine Zhn ?_
      refine Ztl ?_
      refine Za ?_
      refine Za ?_
      refine Znn ?_
      refine Zrt ?_
      refine Zr2 ?_
      refine Zr1 ?_
      refine Zre rfl [_, _, _] ⟨⟨_, rfl, loadV_E (E := rcE) ag42 rfl (B14.rangeE rcE)⟩, rfl, rfl, trivial⟩ ?_
      have hmi : rMine (RD.mk id n ways L ak al aw gv gx) m = false := hc61
      have hq : rTakeF (RD.mk id n ways L ak al aw gv gx) m = ((RD.mk id n ways (withF n L ({ (L.getD i ln0) with state := 1 })) (ak) al (aw) (gv) gx), [{ (mkM 11 id 4 m.line) with bs := (L.getD i ln0).bs }], 0) := by unfold rTakeF; rw [if_neg (show ¬ (chk m ≠ 0 ∨ m.dst ≠ id) by rintro (h | h); exact h hck; exact h hdn), if_neg (show ¬ (m.kind = 8 ∨ m.kind = 9 ∨ m.kind = 10) by omega), if_pos (show m.kind = 4 ∨ m.kind = 5 by omega), if_neg (show ¬ rMine (RD.mk id n ways L ak al aw gv gx) m = true by rw [hmi]; decide), if_neg (show ¬ stateOf L m.line < 2 from hc80), if_neg (by omega)]; dsimp only; rw [get_at hi hin hall]; try rfl
      replace O177 := (O177.new hN184).only hO186 (Apart.ne1 ap_A174_b11)
      replace hF := (hF.trNew hN184).loc hO186 (.inr g_b11)
      replace V181 := V181.only hO186 (Apart.ne1 ap_A179_b11)
      exact ⟨_, rfl, refR_mk (r' := (RD.mk id n ways (withF n L ({ (L.getD i ln0) with state := 1 })) (ak) al (aw) (gv) gx)) (A' := A179) (cap' := cap180) (B := A174) (cB := 1) (l := [{ (mkM 11 id 4 m.line) with bs := (L.getD i ln0).bs }]) hq V181 (O177).view (fun g hg => .inr ((gA_A179 g hg).resolve_left (fun h => h))) (fun g hg => (gA_A174 g hg).resolve_left (fun h => h)) hF⟩
set_option maxRecDepth 100000 in
set_option maxHeartbeats 4000000 in
theorem rctake_5 (m : Msg) {w : World} {id : Int} {n : Nat} {ways : Int} {A : Option Addr} {cap : Nat} {L : List Ln} {ak : Bool} {al : Int} {aw gv : Bool} {gx : Ln} (hV : View lnE w A cap L) (hn : 0 < n ∧ n ≤ 64) (hl : L.length ≤ 1000) (hck : chk m = 0) (hdn : m.dst = id) (hk : m.kind = 5)  : Calls Try.prog 27 #[.agg (rcE.arr (RC.mk id ((n : Nat) : Int) ways A L.length cap (ak) al (aw) (gv) gx)), .agg (msgE.arr m)] w (Ret fun v w' => RefR w A (rTakeF (RD.mk id n ways L ak al aw gv gx) m) v w') := by
 have hVl := hV.len
 unfold maxLen at hVl
 have hmn := m.hn
 have hF := Only.refl (fun _ => False) w
 refine Zen 139 Try.func27 ?_
 refine Zsr ?_
 refine Znb (cs := rcE.arr (RC.mk id ((n : Nat) : Int) ways A L.length cap (ak) al (aw) (gv) gx)) fun b1 w2 hN3 B4 hb5 => ?_
 refine Znb (cs := msgE.arr m) fun b6 w7 hN8 B9 hb10 => ?_
 refine Zna (z := zv4) (cs := rcE.arr rc0) (by kernel_rfl) fun b11 w12 hN13 B14 hb15 => ?_
 replace hV := (hV.new hN3).new hN8
 have ap_A_b11 : Apart A b11 := hV.apart hb15
 replace B4 := B4.new hN8
 have ne_b1_b11 : NE b1 b11 := NE.mk (Nat.lt_of_lt_of_le B4.lt hb15)
 replace hF := (hF.trNew hN3).trNew hN8
 have g_b11 := Nat.le_trans hF.size hb15
 refine Za ?_
 refine Za ?_
 refine Znn ?_
 refine Zsq ?_
 refine Zsq ?_
 have hck2 : ¬ chk m ≠ 0 := fun h => h hck
 have hdn2 : ¬ m.dst ≠ id := fun h => h hdn
 refine Zrg ?_
 replace B9 := B9.new hN13
 refine ZE msgE ag35 (B9.rangeE msgE) ?_
 refine Zk cf65 (refchk_c m _) ?_
 rintro v w16 ⟨rfl, hN17⟩
 refine Zv (.bool false) (fun _ fr => x_neq rfl (fr.ev rfl) rfl (decide_eq_false hck2)) ?_
 refine Zm ?_
 refine Zf fo35_2 ?_
 replace B9 := B9.new hN17
 refine Zd (v := .int .i64 m.dst) pl3 (B9.cell 2 rfl) ?_
 refine Zf fo42_0 ?_
 replace B4 := (B4.new hN13).new hN17
 refine Zd (v := .int .i64 id) pl3 (B4.cell 0 rfl) ?_
 refine Zv (.bool false) (fun _ fr => x_neq rfl (fr.ev rfl) (fr.ev rfl) (decide_eq_false hdn2)) ?_
 refine Zpf ?_
 refine Znn ?_
 refine Zcf ?_
 refine Zsk ?_
 refine Znx ?_
 refine Zsq ?_
 refine ZhT (n := 5) 5 (fun w => Blk w b6 35 (msgE.arr m) ∧ True) ?_
 intro w18 hN19
 replace B9 := B9.new hN19
 have hS9 := And.intro B9 trivial
 refine Zhf 0 fo35_3 hS9 ?_
 refine Zhl (v := .int .u32 m.line) 1 pl32 hS9 (fun _ ⟨B9, _⟩ => (B9.cell 3 rfl)) ?_
 refine Zhf 2 fo35_0 hS9 ?_
 refine Zhl (v := .int .i64 m.kind) 3 pl33 hS9 (fun _ ⟨B9, _⟩ => (B9.cell 0 rfl)) ?_
 refine Zha 4 hS9 ?_
 refine Zhn ?_
 refine Ztl ?_
 refine Za ?_
 refine Znn ?_
 refine Zsr ?_
 replace B4 := B4.new hN19
 refine ZE rcE ag42 (B4.rangeE rcE) ?_
 refine Zm ?_
 replace hV := ((hV.new hN13).new hN17).new hN19
 refine Zk cf60 (rcstate_c m.line (hV)) ?_
 rintro v w20 ⟨rfl, hN21⟩
 refine Za ?_
 refine Znn ?_
 refine Zsr ?_
 refine Zf fo42_7 ?_
 replace B4 := B4.new hN21
 refine Zd (v := .bool (gv)) pl4 (B4.cell 7 rfl) ?_
 refine Zm ?_
 refine Zy (gv) _ (fun _ fr _ => x_fieldAddr fo42_8 rfl (fr.ev rfl) rfl) ?_
 refine Zy (gv) _ (fun _ fr hg => x_fieldAddr fo39_0 rfl ((fr.ev rfl).trans (onlyIf_t hg)) rfl) ?_
 refine Zy (gv) _ (fun _ fr hg => x_load1 pl32 rfl ((fr.ev rfl).trans (onlyIf_t hg)) (B4.cell 8 rfl)) ?_
 refine Zy (gv) _ (fun _ fr _ => x_move rfl (fr.ev rfl)) ?_
 refine Zy (gv) _ (fun _ fr hg => x_eql rfl ((fr.ev rfl).trans (onlyIf_t hg)) ((fr.ev rfl).trans (onlyIf_t hg)) rfl) ?_
 refine Zv (.bool ((gv) && (decide (gx.num = m.line)))) (fun _ fr => x_pick_and rfl (fr.ev rfl) (fun hb => ((fr.ev rfl)).trans (onlyIf_t (by simp_all))) (fun _ => rfl) rfl) ?_
 refine Za ?_
 refine Znn ?_
 refine Zsq ?_
 refine Zsr ?_
 refine Zm ?_
 refine Znn ?_
 refine Zbl ?_
 refine Zsq ?_
 refine Zsr ?_
 refine Zv (.bool false) (fun _ fr => x_eql rfl (fr.ev rfl) rfl (decide_eq_false (by omega))) ?_
 refine Za ?_
 refine Znn ?_
 refine Zcf ?_
 refine Zsr ?_
 refine Zv (.bool false) (fun _ fr => x_eql rfl (fr.ev rfl) rfl (decide_eq_false (by omega))) ?_
 refine Za ?_
 refine Znn ?_
 refine Zcf ?_
 refine Zrg ?_
 refine Zv (.bool false) (fun _ fr => x_eql rfl (fr.ev rfl) rfl (decide_eq_false (by omega))) ?_
 refine Za ?_
 refine Znn ?_
 refine Zcf ?_
 refine Zsq ?_
 refine Zsr ?_
 refine Zv (.bool false) (fun _ fr => x_eql rfl (fr.ev rfl) rfl (decide_eq_false (by omega))) ?_
 refine Za ?_
 refine Znn ?_
 refine Zcf ?_
 refine Zrg ?_
 refine Zv (.bool true) (fun _ fr => x_eql rfl (fr.ev rfl) rfl (decide_eq_true (by omega))) ?_
 refine Za ?_
 refine Znn ?_
 refine Zct ?_
 refine Zsq ?_
 rcases fnd_spec L m.line with ⟨hf, hno⟩ | ⟨i, hf, hi, hin, hall⟩
 ·have hs2 : stateOf L m.line < 2 := by rw [state_no ⟨hf, hno⟩]; decide
  refine Zrg ?_
  refine ZE rcE ag42 (B4.rangeE rcE) ?_
  refine Zm ?_
  refine Zk (args := #[.agg (rcE.arr (RC.mk id ((n : Nat) : Int) ways A L.length cap (ak) al (aw) (gv) gx)), .int .i64 11, .int .u32 m.line]) cf64 (rcmsg_c 11 m.line (by omega) _) ?_
  rintro v w22 ⟨rfl, hN23⟩
  refine Zna (z := zv3) (cs := msgE.arr msg0) (by kernel_rfl) fun b24 w25 hN26 B27 hb28 => ?_
  replace hV := (hV.new hN21).new hN23
  have ap_A_b24 : Apart A b24 := hV.apart hb28
  replace B4 := B4.new hN23
  have ne_b1_b24 : NE b1 b24 := NE.mk (Nat.lt_of_lt_of_le B4.lt hb28)
  replace B14 := (((B14.new hN17).new hN19).new hN21).new hN23
  have ne_b11_b24 : NE b11 b24 := NE.mk (Nat.lt_of_lt_of_le B14.lt hb28)
  replace hF := ((((hF.trNew hN13).trNew hN17).trNew hN19).trNew hN21).trNew hN23
  have g_b24 := Nat.le_trans hF.size hb28
  refine ZsS sz35 (msgE.all _) B27 (msgE.size _) (msgE.size _) fun w29 hO30 hBq => ?_
  replace B27 := hBq
  clear hBq
  refine Znn ?_
  refine Zsq ?_
  refine Zsr ?_
  refine Zm ?_
  refine Znn ?_
  refine Zcd (fun hc31 => ?_) (fun hc31 => ?_)
  ·have hc31s := hc31
   try simp at hc31s
   refine Zsr ?_
   refine Zf fo42_8 ?_
   refine Zf fo39_2 ?_
   replace B4 := (B4.new hN26).only hO30 ne_b1_b24
   refine ZE (p := gx.bs) bsE ag22 (B4.part (rc_bs (RC.mk id ((n : Nat) : Int) ways A L.length cap (ak) al (aw) (gv) gx))) ?_
   refine Zf fo35_4 ?_
   intro a fr
   refine fx_storePart (E := msgE) (E2 := bsE) (q := 4) (m := (mkM 11 id 4 m.line)) (m' := { (mkM 11 id 4 m.line) with bs := gx.bs }) (z := gx.bs) sz22 rfl rfl rfl (fr.ev rfl) (fr.ev rfl) B27 (by decide) (msg_setbs _ _) fun w32 hO33 hBq => ?_
   revert a
   replace B27 := hBq
   clear hBq
   refine Znn ?_
   refine Zsq ?_
   refine ZhT (n := 4) 4 (fun w => Blk w b1 42 (rcE.arr (RC.mk id ((n : Nat) : Int) ways A L.length cap (ak) al (aw) (gv) gx)) ∧ Blk w b24 35 (msgE.arr { (mkM 11 id 4 m.line) with bs := gx.bs }) ∧ True) ?_
   intro w34 hN35
   replace B4 := (B4.only hO33 ne_b1_b24).new hN35
   replace B27 := B27.new hN35
   have hS9 := And.intro B4 (And.intro B27 trivial)
   refine ZhE 0 rcE ag42 hS9 (fun _ ⟨B4, _⟩ => (B4.rangeE rcE)) ?_
   refine ZhE 1 msgE ag35 hS9 (fun _ ⟨_, B27, _⟩ => (B27.rangeE msgE)) ?_
   refine Zh2 2 3 ?_ ?_
   ·intro a fr
    refine fx_build1 (E := msgE) (p := { (mkM 11 id 4 m.line) with bs := gx.bs }) elMsg (by decide) fr rfl rfl (by decide) rfl (fr.ev rfl) ?_
    clear fr a
    intro A36 w37 hN38 O39 hA40
    replace B14 := (((B14.new hN26).only hO30 ne_b11_b24).only hO33 ne_b11_b24).new hN35
    have ap_A36_b11 : Apart A36 b11 := new_apart hA40 B14.lt
    replace hF := (((hF.trNew hN26).loc hO30 (.inr g_b24)).loc hO33 (.inr g_b24)).trNew hN35
    have gA_A36 := gA_new hF hA40
    replace B4 := B4.new hN38
    replace B27 := B27.new hN38
    refine Zhb ⟨B4, B27, trivial⟩ ?_
    refine Zh1 3 ?_
    replace B14 := B14.new hN38
    refine ZsS sz42 (rcE.all _) B14 (rcE.size _) (rcE.size _) fun w41 hO42 hBq => ?_
    replace B14 := hBq
    clear hBq
    replace B4 := B4.only hO42 ne_b1_b11
    replace B27 := B27.only hO42 ne_b11_b24.symm
    refine Zhb ⟨B4, B27, trivial⟩ ?_
    refine Zhn ?_
    refine Ztl ?_
    refine Za ?_
    refine Za ?_
    refine Znn ?_
    refine Zrt ?_
    refine Zr1 ?_
    refine Zr2 ?_
    refine Zr1 ?_
    refine Zre rfl [_, _, _] ⟨⟨_, rfl, loadV_E (E := rcE) ag42 rfl (B14.rangeE rcE)⟩, rfl, rfl, trivial⟩ ?_
    have hmi : rMine (RD.mk id n ways L ak al aw gv gx) m = true := hc31
    have hq : rTakeF (RD.mk id n ways L ak al aw gv gx) m = ((RD.mk id n ways L (ak) al (aw) (gv) gx), [{ (mkM 11 id 4 m.line) with bs := gx.bs }], 0) := by unfold rTakeF; rw [if_neg (show ¬ (chk m ≠ 0 ∨ m.dst ≠ id) by rintro (h | h); exact h hck; exact h hdn), if_neg (show ¬ (m.kind = 8 ∨ m.kind = 9 ∨ m.kind = 10) by omega), if_pos (show m.kind = 4 ∨ m.kind = 5 by omega), if_pos hmi]; try rfl
    replace hV := (((((hV.new hN26).only hO30 (Apart.ne1 ap_A_b24)).only hO33 (Apart.ne1 ap_A_b24)).new hN35).new hN38).only hO42 (Apart.ne1 ap_A_b11)
    replace hF := (hF.trNew hN38).loc hO42 (.inr g_b11)
    replace O39 := O39.only hO42 (Apart.ne1 ap_A36_b11)
    exact ⟨_, rfl, refR_mk (r' := (RD.mk id n ways L (ak) al (aw) (gv) gx)) (A' := A) (cap' := cap) (B := A36) (cB := 1) (l := [{ (mkM 11 id 4 m.line) with bs := gx.bs }]) hq hV (O39).view (fun g hg => .inl hg) (fun g hg => (gA_A36 g hg).resolve_left (fun h => h)) hF⟩
   ·replace B14 := (((B14.new hN26).only hO30 ne_b11_b24).only hO33 ne_b11_b24).new hN35
    refine ZsS sz42 (rcE.all _) B14 (rcE.size _) (rcE.size _) fun w43 hO44 hBq => ?_
    replace B14 := hBq
    clear hBq
    replace B4 := B4.only hO44 ne_b1_b11
    replace B27 := B27.only hO44 ne_b11_b24.symm
    refine Zhb ⟨B4, B27, trivial⟩ ?_
    refine Zh1 2 ?_
    intro a fr
    refine fx_build1 (E := msgE) (p := { (mkM 11 id 4 m.line) with bs := gx.bs }) elMsg (by decide) fr rfl rfl (by decide) rfl (fr.ev rfl) ?_
    clear fr a
    intro A45 w46 hN47 O48 hA49
    replace hF := ((((hF.trNew hN26).loc hO30 (.inr g_b24)).loc hO33 (.inr g_b24)).trNew hN35).loc hO44 (.inr g_b11)
    have gA_A45 := gA_new hF hA49
    replace B4 := B4.new hN47
    replace B27 := B27.new hN47
    refine Zhb ⟨B4, B27, trivial⟩ ?_
    refine Zhn ?_
    refine Ztl ?_
    refine Za ?_
    refine Za ?_
    refine Znn ?_
    refine Zrt ?_
    refine Zr1 ?_
    refine Zr2 ?_
    refine Zr1 ?_
    replace B14 := B14.new hN47
    refine Zre rfl [_, _, _] ⟨⟨_, rfl, loadV_E (E := rcE) ag42 rfl (B14.rangeE rcE)⟩, rfl, rfl, trivial⟩ ?_
    have hmi : rMine (RD.mk id n ways L ak al aw gv gx) m = true := hc31
    have hq : rTakeF (RD.mk id n ways L ak al aw gv gx) m = ((RD.mk id n ways L (ak) al (aw) (gv) gx), [{ (mkM 11 id 4 m.line) with bs := gx.bs }], 0) := by unfold rTakeF; rw [if_neg (show ¬ (chk m ≠ 0 ∨ m.dst ≠ id) by rintro (h | h); exact h hck; exact h hdn), if_neg (show ¬ (m.kind = 8 ∨ m.kind = 9 ∨ m.kind = 10) by omega), if_pos (show m.kind = 4 ∨ m.kind = 5 by omega), if_pos hmi]; try rfl
    replace hV := (((((hV.new hN26).only hO30 (Apart.ne1 ap_A_b24)).only hO33 (Apart.ne1 ap_A_b24)).new hN35).only hO44 (Apart.ne1 ap_A_b11)).new hN47
    replace hF := hF.trNew hN47
    exact ⟨_, rfl, refR_mk (r' := (RD.mk id n ways L (ak) al (aw) (gv) gx)) (A' := A) (cap' := cap) (B := A45) (cB := 1) (l := [{ (mkM 11 id 4 m.line) with bs := gx.bs }]) hq hV (O48).view (fun g hg => .inl hg) (fun g hg => (gA_A45 g hg).resolve_left (fun h => h)) hF⟩
  ·have hc31s := hc31
   try simp at hc31s
   refine Zsk ?_
   refine Znx ?_
   refine Zsq ?_
   refine Zsr ?_
   refine Zm ?_
   refine Zv (.bool true) (fun _ fr => x_lss rfl (fr.ev rfl) rfl (decide_eq_true hs2)) ?_
   refine Znn ?_
   refine Zct ?_
   refine Zsr ?_
   replace B4 := (B4.new hN26).only hO30 ne_b1_b24
   refine ZE rcE ag42 (B4.rangeE rcE) ?_
   replace B14 := (B14.new hN26).only hO30 ne_b11_b24
   refine ZsS sz42 (rcE.all _) B14 (rcE.size _) (rcE.size _) fun w50 hO51 hBq => ?_
   replace B14 := hBq
   clear hBq
   refine Za ?_
   refine Za ?_
   refine Znn ?_
   refine Zrt ?_
   refine Zr1 ?_
   refine Zr2 ?_
   refine Zr1 ?_
   refine Zre rfl [_, _, _] ⟨⟨_, rfl, loadV_E (E := rcE) ag42 rfl (B14.rangeE rcE)⟩, rfl, rfl, trivial⟩ ?_
   have hmi : rMine (RD.mk id n ways L ak al aw gv gx) m = false := hc31
   have hq : rTakeF (RD.mk id n ways L ak al aw gv gx) m = ((RD.mk id n ways L (ak) al (aw) (gv) gx), ([] : List Msg), 220) := by unfold rTakeF; rw [if_neg (show ¬ (chk m ≠ 0 ∨ m.dst ≠ id) by rintro (h | h); exact h hck; exact h hdn), if_neg (show ¬ (m.kind = 8 ∨ m.kind = 9 ∨ m.kind = 10) by omega), if_pos (show m.kind = 4 ∨ m.kind = 5 by omega), if_neg (show ¬ rMine (RD.mk id n ways L ak al aw gv gx) m = true by rw [hmi]; decide)]; exact if_pos hs2
   replace hV := ((hV.new hN26).only hO30 (Apart.ne1 ap_A_b24)).only hO51 (Apart.ne1 ap_A_b11)
   replace hF := ((hF.trNew hN26).loc hO30 (.inr g_b24)).loc hO51 (.inr g_b11)
   exact ⟨_, rfl, refR_mk (r' := (RD.mk id n ways L (ak) al (aw) (gv) gx)) (A' := A) (cap' := cap) (B := none) (cB := 0) (l := ([] : List Msg)) hq hV View.nil (fun g hg => .inl hg) (fun g hg => absurd hg (apart_none g)) hF⟩
 ·refine Zrg ?_
  refine ZE rcE ag42 (B4.rangeE rcE) ?_
  refine Zm ?_
  refine Zk (args := #[.agg (rcE.arr (RC.mk id ((n : Nat) : Int) ways A L.length cap (ak) al (aw) (gv) gx)), .int .i64 11, .int .u32 m.line]) cf64 (rcmsg_c 11 m.line (by omega) _) ?_
  rintro v w52 ⟨rfl, hN53⟩
  refine Zna (z := zv3) (cs := msgE.arr msg0) (by kernel_rfl) fun b54 w55 hN56 B57 hb58 => ?_
  replace hV := (hV.new hN21).new hN53
  have ap_A_b54 : Apart A b54 := hV.apart hb58
  replace B4 := B4.new hN53
  have ne_b1_b54 : NE b1 b54 := NE.mk (Nat.lt_of_lt_of_le B4.lt hb58)
  replace B14 := (((B14.new hN17).new hN19).new hN21).new hN53
  have ne_b11_b54 : NE b11 b54 := NE.mk (Nat.lt_of_lt_of_le B14.lt hb58)
  replace hF := ((((hF.trNew hN13).trNew hN17).trNew hN19).trNew hN21).trNew hN53
  have g_b54 := Nat.le_trans hF.size hb58
  refine ZsS sz35 (msgE.all _) B57 (msgE.size _) (msgE.size _) fun w59 hO60 hBq => ?_
  replace B57 := hBq
  clear hBq
  refine Znn ?_
  refine Zsq ?_
  refine Zsr ?_
  refine Zm ?_
  refine Znn ?_
  refine Zcd (fun hc61 => ?_) (fun hc61 => ?_)
  ·have hc61s := hc61
   try simp at hc61s
   refine Zsr ?_
   refine Zf fo42_8 ?_
   refine Zf fo39_2 ?_
   replace B4 := (B4.new hN56).only hO60 ne_b1_b54
   refine ZE (p := gx.bs) bsE ag22 (B4.part (rc_bs (RC.mk id ((n : Nat) : Int) ways A L.length cap (ak) al (aw) (gv) gx))) ?_
   refine Zf fo35_4 ?_
   intro a fr
   refine fx_storePart (E := msgE) (E2 := bsE) (q := 4) (m := (mkM 11 id 4 m.line)) (m' := { (mkM 11 id 4 m.line) with bs := gx.bs }) (z := gx.bs) sz22 rfl rfl rfl (fr.ev rfl) (fr.ev rfl) B57 (by decide) (msg_setbs _ _) fun w62 hO63 hBq => ?_
   revert a
   replace B57 := hBq
   clear hBq
   refine Znn ?_
   refine Zsq ?_
   refine ZhT (n := 4) 4 (fun w => Blk w b1 42 (rcE.arr (RC.mk id ((n : Nat) : Int) ways A L.length cap (ak) al (aw) (gv) gx)) ∧ Blk w b54 35 (msgE.arr { (mkM 11 id 4 m.line) with bs := gx.bs }) ∧ True) ?_
   intro w64 hN65
   replace B4 := (B4.only hO63 ne_b1_b54).new hN65
   replace B57 := B57.new hN65
   have hS9 := And.intro B4 (And.intro B57 trivial)
   refine ZhE 0 rcE ag42 hS9 (fun _ ⟨B4, _⟩ => (B4.rangeE rcE)) ?_
   refine ZhE 1 msgE ag35 hS9 (fun _ ⟨_, B57, _⟩ => (B57.rangeE msgE)) ?_
   refine Zh2 2 3 ?_ ?_
   ·intro a fr
    refine fx_build1 (E := msgE) (p := { (mkM 11 id 4 m.line) with bs := gx.bs }) elMsg (by decide) fr rfl rfl (by decide) rfl (fr.ev rfl) ?_
    clear fr a
    intro A66 w67 hN68 O69 hA70
    replace B14 := (((B14.new hN56).only hO60 ne_b11_b54).only hO63 ne_b11_b54).new hN65
    have ap_A66_b11 : Apart A66 b11 := new_apart hA70 B14.lt
    replace hF := (((hF.trNew hN56).loc hO60 (.inr g_b54)).loc hO63 (.inr g_b54)).trNew hN65
    have gA_A66 := gA_new hF hA70
    replace B4 := B4.new hN68
    replace B57 := B57.new hN68
    refine Zhb ⟨B4, B57, trivial⟩ ?_
    refine Zh1 3 ?_
    replace B14 := B14.new hN68
    refine ZsS sz42 (rcE.all _) B14 (rcE.size _) (rcE.size _) fun w71 hO72 hBq => ?_
    replace B14 := hBq
    clear hBq
    replace B4 := B4.only hO72 ne_b1_b11
    replace B57 := B57.only hO72 ne_b11_b54.symm
    refine Zhb ⟨B4, B57, trivial⟩ ?_
    refine Zhn ?_
    refine Ztl ?_
    refine Za ?_
    refine Za ?_
    refine Znn ?_
    refine Zrt ?_
    refine Zr1 ?_
    refine Zr2 ?_
    refine Zr1 ?_
    refine Zre rfl [_, _, _] ⟨⟨_, rfl, loadV_E (E := rcE) ag42 rfl (B14.rangeE rcE)⟩, rfl, rfl, trivial⟩ ?_
    have hmi : rMine (RD.mk id n ways L ak al aw gv gx) m = true := hc61
    have hq : rTakeF (RD.mk id n ways L ak al aw gv gx) m = ((RD.mk id n ways L (ak) al (aw) (gv) gx), [{ (mkM 11 id 4 m.line) with bs := gx.bs }], 0) := by unfold rTakeF; rw [if_neg (show ¬ (chk m ≠ 0 ∨ m.dst ≠ id) by rintro (h | h); exact h hck; exact h hdn), if_neg (show ¬ (m.kind = 8 ∨ m.kind = 9 ∨ m.kind = 10) by omega), if_pos (show m.kind = 4 ∨ m.kind = 5 by omega), if_pos hmi]; try rfl
    replace hV := (((((hV.new hN56).only hO60 (Apart.ne1 ap_A_b54)).only hO63 (Apart.ne1 ap_A_b54)).new hN65).new hN68).only hO72 (Apart.ne1 ap_A_b11)
    replace hF := (hF.trNew hN68).loc hO72 (.inr g_b11)
    replace O69 := O69.only hO72 (Apart.ne1 ap_A66_b11)
    exact ⟨_, rfl, refR_mk (r' := (RD.mk id n ways L (ak) al (aw) (gv) gx)) (A' := A) (cap' := cap) (B := A66) (cB := 1) (l := [{ (mkM 11 id 4 m.line) with bs := gx.bs }]) hq hV (O69).view (fun g hg => .inl hg) (fun g hg => (gA_A66 g hg).resolve_left (fun h => h)) hF⟩
   ·replace B14 := (((B14.new hN56).only hO60 ne_b11_b54).only hO63 ne_b11_b54).new hN65
    refine ZsS sz42 (rcE.all _) B14 (rcE.size _) (rcE.size _) fun w73 hO74 hBq => ?_
    replace B14 := hBq
    clear hBq
    replace B4 := B4.only hO74 ne_b1_b11
    replace B57 := B57.only hO74 ne_b11_b54.symm
    refine Zhb ⟨B4, B57, trivial⟩ ?_
    refine Zh1 2 ?_
    intro a fr
    refine fx_build1 (E := msgE) (p := { (mkM 11 id 4 m.line) with bs := gx.bs }) elMsg (by decide) fr rfl rfl (by decide) rfl (fr.ev rfl) ?_
    clear fr a
    intro A75 w76 hN77 O78 hA79
    replace hF := ((((hF.trNew hN56).loc hO60 (.inr g_b54)).loc hO63 (.inr g_b54)).trNew hN65).loc hO74 (.inr g_b11)
    have gA_A75 := gA_new hF hA79
    replace B4 := B4.new hN77
    replace B57 := B57.new hN77
    refine Zhb ⟨B4, B57, trivial⟩ ?_
    refine Zhn ?_
    refine Ztl ?_
    refine Za ?_
    refine Za ?_
    refine Znn ?_
    refine Zrt ?_
    refine Zr1 ?_
    refine Zr2 ?_
    refine Zr1 ?_
    replace B14 := B14.new hN77
    refine Zre rfl [_, _, _] ⟨⟨_, rfl, loadV_E (E := rcE) ag42 rfl (B14.rangeE rcE)⟩, rfl, rfl, trivial⟩ ?_
    have hmi : rMine (RD.mk id n ways L ak al aw gv gx) m = true := hc61
    have hq : rTakeF (RD.mk id n ways L ak al aw gv gx) m = ((RD.mk id n ways L (ak) al (aw) (gv) gx), [{ (mkM 11 id 4 m.line) with bs := gx.bs }], 0) := by unfold rTakeF; rw [if_neg (show ¬ (chk m ≠ 0 ∨ m.dst ≠ id) by rintro (h | h); exact h hck; exact h hdn), if_neg (show ¬ (m.kind = 8 ∨ m.kind = 9 ∨ m.kind = 10) by omega), if_pos (show m.kind = 4 ∨ m.kind = 5 by omega), if_pos hmi]; try rfl
    replace hV := (((((hV.new hN56).only hO60 (Apart.ne1 ap_A_b54)).only hO63 (Apart.ne1 ap_A_b54)).new hN65).only hO74 (Apart.ne1 ap_A_b11)).new hN77
    replace hF := hF.trNew hN77
    exact ⟨_, rfl, refR_mk (r' := (RD.mk id n ways L (ak) al (aw) (gv) gx)) (A' := A) (cap' := cap) (B := A75) (cB := 1) (l := [{ (mkM 11 id 4 m.line) with bs := gx.bs }]) hq hV (O78).view (fun g hg => .inl hg) (fun g hg => (gA_A75 g hg).resolve_left (fun h => h)) hF⟩
  ·have hc61s := hc61
   try simp at hc61s
   refine Zsk ?_
   refine Znx ?_
   refine Zsq ?_
   refine Zsr ?_
   refine Zm ?_
   refine Zv _ (fun _ fr => x_lss rfl (fr.ev rfl) rfl rfl) ?_
   refine Znn ?_
   refine Zcd (fun hc80 => ?_) (fun hc80 => ?_)
   ·have hc80 := of_decide_eq_true hc80
    refine Zsr ?_
    replace B4 := (B4.new hN56).only hO60 ne_b1_b54
    refine ZE rcE ag42 (B4.rangeE rcE) ?_
    replace B14 := (B14.new hN56).only hO60 ne_b11_b54
    refine ZsS sz42 (rcE.all _) B14 (rcE.size _) (rcE.size _) fun w81 hO82 hBq => ?_
    replace B14 := hBq
    clear hBq
    refine Za ?_
    refine Za ?_
    refine Znn ?_
    refine Zrt ?_
    refine Zr1 ?_
    refine Zr2 ?_
    refine Zr1 ?_
    refine Zre rfl [_, _, _] ⟨⟨_, rfl, loadV_E (E := rcE) ag42 rfl (B14.rangeE rcE)⟩, rfl, rfl, trivial⟩ ?_
    have hmi : rMine (RD.mk id n ways L ak al aw gv gx) m = false := hc61
    have hq : rTakeF (RD.mk id n ways L ak al aw gv gx) m = ((RD.mk id n ways L (ak) al (aw) (gv) gx), ([] : List Msg), 220) := by unfold rTakeF; rw [if_neg (show ¬ (chk m ≠ 0 ∨ m.dst ≠ id) by rintro (h | h); exact h hck; exact h hdn), if_neg (show ¬ (m.kind = 8 ∨ m.kind = 9 ∨ m.kind = 10) by omega), if_pos (show m.kind = 4 ∨ m.kind = 5 by omega), if_neg (show ¬ rMine (RD.mk id n ways L ak al aw gv gx) m = true by rw [hmi]; decide)]; exact if_pos hc80
    replace hV := ((hV.new hN56).only hO60 (Apart.ne1 ap_A_b54)).only hO82 (Apart.ne1 ap_A_b11)
    replace hF := ((hF.trNew hN56).loc hO60 (.inr g_b54)).loc hO82 (.inr g_b11)
    exact ⟨_, rfl, refR_mk (r' := (RD.mk id n ways L (ak) al (aw) (gv) gx)) (A' := A) (cap' := cap) (B := none) (cB := 0) (l := ([] : List Msg)) hq hV View.nil (fun g hg => .inl hg) (fun g hg => absurd hg (apart_none g)) hF⟩
   ·have hc80 := of_decide_eq_false hc80
    refine Zsk ?_
    refine Znx ?_
    refine Zsq ?_
    refine ZhT (n := 8) 8 (fun w => View lnE w A cap L ∧ Blk w b1 42 (rcE.arr (RC.mk id ((n : Nat) : Int) ways A L.length cap (ak) al (aw) (gv) gx)) ∧ True) ?_
    intro w83 hN84
    replace hV := ((hV.new hN56).only hO60 (Apart.ne1 ap_A_b54)).new hN84
    replace B4 := ((B4.new hN56).only hO60 ne_b1_b54).new hN84
    have hS9 := And.intro hV (And.intro B4 trivial)
    refine Zhf 0 fo42_3 hS9 ?_
    refine Zhl (v := .slice A L.length cap) 1 pl40 hS9 (fun _ ⟨_, B4, _⟩ => (B4.cell 3 rfl)) ?_
    refine ZhE 2 rcE ag42 hS9 (fun _ ⟨_, B4, _⟩ => (B4.rangeE rcE)) ?_
    refine Zhm 3 hS9 ?_
    refine Zh2 4 7 ?_ ?_
    ·refine Zk cf58 (rcfind_c m.line (hV)) ?_
     rintro v w85 ⟨rfl, hN86⟩
     intro a fr
     rw [hf] at fr
     revert a
     replace hV := hV.new hN86
     replace B4 := B4.new hN86
     refine Zhb ⟨hV, B4, trivial⟩ ?_
     obtain ⟨g87, o88, hA89⟩ := (hV).some_ (by omega)
     have hS9 := And.intro hV (And.intro B4 trivial)
     refine Zht 5 rfl (.pointer (some ⟨g87, o88 + i * 18, none⟩)) hS9 (fun _ fr _ _ => x_indexV Try.underlying40 sz39 rfl (fr.ev rfl) hA89 (fr.ev rfl) (by omega) rfl) ?_
     refine ZhE 6 lnE ag39 hS9 (fun _ ⟨hV, _⟩ => ((hV).elem hA89 i ln0 (by omega))) ?_
     refine Zh1 7 ?_
     refine Zna (z := zv1) (cs := lnE.arr ln0) (by kernel_rfl) fun b90 w91 hN92 B93 hb94 => ?_
     have ap_A_b90 : Apart A b90 := hV.apart hb94
     have ne_b1_b90 : NE b1 b90 := NE.mk (Nat.lt_of_lt_of_le B4.lt hb94)
     replace B14 := (((B14.new hN56).only hO60 ne_b11_b54).new hN84).new hN86
     have ne_b11_b90 : NE b11 b90 := NE.mk (Nat.lt_of_lt_of_le B14.lt hb94)
     replace B57 := (B57.new hN84).new hN86
     have ne_b54_b90 : NE b54 b90 := NE.mk (Nat.lt_of_lt_of_le B57.lt hb94)
     replace hF := (((hF.trNew hN56).loc hO60 (.inr g_b54)).trNew hN84).trNew hN86
     have g_b90 := Nat.le_trans hF.size hb94
     replace hV := hV.new hN92
     replace B4 := B4.new hN92
     refine Zhb ⟨hV, B4, trivial⟩ ?_
     refine Zhn ?_
     refine Ztl ?_
     refine ZsS sz39 (lnE.all _) B93 (lnE.size _) (lnE.size _) fun w95 hO96 hBq => ?_
     replace B93 := hBq
     clear hBq
     refine Znn ?_
     refine Zsr ?_
     refine Zf fo39_2 ?_
     refine ZE (p := (L.getD i ln0).bs) bsE ag22 (B93.part (ln_bs _)) ?_
     refine Zf fo35_4 ?_
     intro a fr
     replace B57 := (B57.new hN92).only hO96 ne_b54_b90
     refine fx_storePart (E := msgE) (E2 := bsE) (q := 4) (m := (mkM 11 id 4 m.line)) (m' := { (mkM 11 id 4 m.line) with bs := (L.getD i ln0).bs }) (z := (L.getD i ln0).bs) sz22 rfl rfl rfl (fr.ev rfl) (fr.ev rfl) B57 (by decide) (msg_setbs _ _) fun w97 hO98 hBq => ?_
     revert a
     replace B57 := hBq
     clear hBq
     refine Znn ?_
     refine Zsq ?_
     refine Zsr ?_
     refine Zm ?_
     refine Zv (.bool true) (fun _ fr => x_eql rfl (fr.ev rfl) rfl (decide_eq_true (by omega))) ?_
     refine Znn ?_
     refine Zct ?_
     refine Zsq ?_
     refine ZhT (n := 6) 6 (fun w => Blk w b1 42 (rcE.arr (RC.mk id ((n : Nat) : Int) ways A L.length cap (ak) al (aw) (gv) gx)) ∧ Blk w b54 35 (msgE.arr { (mkM 11 id 4 m.line) with bs := (L.getD i ln0).bs }) ∧ True) ?_
     intro w99 hN100
     replace B4 := ((B4.only hO96 ne_b1_b90).only hO98 ne_b1_b54).new hN100
     replace B57 := B57.new hN100
     have hS9 := And.intro B4 (And.intro B57 trivial)
     refine ZhE 0 rcE ag42 hS9 (fun _ ⟨B4, _⟩ => (B4.rangeE rcE)) ?_
     refine Zhm 1 hS9 ?_
     refine ZhE 3 msgE ag35 hS9 (fun _ ⟨_, B57, _⟩ => (B57.rangeE msgE)) ?_
     refine Zh2 2 4 ?_ ?_
     ·replace hV := ((hV.only hO96 (Apart.ne1 ap_A_b90)).only hO98 (Apart.ne1 ap_A_b54)).new hN100
      refine Zk (args := #[.agg (rcE.arr (RC.mk id ((n : Nat) : Int) ways A L.length cap (ak) al (aw) (gv) gx)), .int .u32 m.line]) cf66 (rcwithout_c m.line (hV) (by omega) (by omega)) ?_
      rintro v w105 ⟨A101, cap102, rfl, V103, hA104, hN106⟩
      replace B14 := (((B14.new hN92).only hO96 ne_b11_b90).only hO98 ne_b11_b54).new hN100
      have ap_A101_b11 : Apart A101 b11 := new_apart hA104 B14.lt
      replace hF := (((hF.trNew hN92).loc hO96 (.inr g_b90)).loc hO98 (.inr g_b54)).trNew hN100
      have gA_A101 := gA_new hF hA104
      replace B4 := B4.new hN106
      replace B57 := B57.new hN106
      refine Zhb ⟨B4, B57, trivial⟩ ?_
      refine Zh2 4 5 ?_ ?_
      ·intro a fr
       refine fx_build1 (E := msgE) (p := { (mkM 11 id 4 m.line) with bs := (L.getD i ln0).bs }) elMsg (by decide) fr rfl rfl (by decide) rfl (fr.ev rfl) ?_
       clear fr a
       intro A107 w108 hN109 O110 hA111
       replace B14 := B14.new hN106
       have ap_A107_b11 : Apart A107 b11 := new_apart hA111 B14.lt
       replace hF := hF.trNew hN106
       have gA_A107 := gA_new hF hA111
       replace B4 := B4.new hN109
       replace B57 := B57.new hN109
       refine Zhb ⟨B4, B57, trivial⟩ ?_
       refine Zh1 5 ?_
       replace B14 := B14.new hN109
       refine ZsS sz42 (rcE.all _) B14 (rcE.size _) (rcE.size _) fun w112 hO113 hBq => ?_
       replace B14 := hBq
       clear hBq
       replace B4 := B4.only hO113 ne_b1_b11
       replace B57 := B57.only hO113 ne_b11_b54.symm
       refine Zhb ⟨B4, B57, trivial⟩ ?_
       refine Zhn ?_
       refine Ztl ?_
       refine Za ?_
       refine Za ?_
       refine Znn ?_
       refine Zrt ?_
       refine Zr1 ?_
       refine Zr2 ?_
       refine Zr1 ?_
       refine Zre rfl [_, _, _] ⟨⟨_, rfl, loadV_E (E := rcE) ag42 rfl (B14.rangeE rcE)⟩, rfl, rfl, trivial⟩ ?_
       have hmi : rMine (RD.mk id n ways L ak al aw gv gx) m = false := hc61
       have hq : rTakeF (RD.mk id n ways L ak al aw gv gx) m = ((RD.mk id n ways (dropL L m.line) (ak) al (aw) (gv) gx), [{ (mkM 11 id 4 m.line) with bs := (L.getD i ln0).bs }], 0) := by unfold rTakeF; rw [if_neg (show ¬ (chk m ≠ 0 ∨ m.dst ≠ id) by rintro (h | h); exact h hck; exact h hdn), if_neg (show ¬ (m.kind = 8 ∨ m.kind = 9 ∨ m.kind = 10) by omega), if_pos (show m.kind = 4 ∨ m.kind = 5 by omega), if_neg (show ¬ rMine (RD.mk id n ways L ak al aw gv gx) m = true by rw [hmi]; decide), if_neg (show ¬ stateOf L m.line < 2 from hc80), if_pos (by omega)]; dsimp only; rw [get_at hi hin hall]; try rfl
       replace V103 := (V103.new hN109).only hO113 (Apart.ne1 ap_A101_b11)
       replace hF := (hF.trNew hN109).loc hO113 (.inr g_b11)
       replace O110 := O110.only hO113 (Apart.ne1 ap_A107_b11)
       exact ⟨_, rfl, refR_mk (r' := (RD.mk id n ways (dropL L m.line) (ak) al (aw) (gv) gx)) (A' := A101) (cap' := cap102) (B := A107) (cB := 1) (l := [{ (mkM 11 id 4 m.line) with bs := (L.getD i ln0).bs }]) hq V103 (O110).view (fun g hg => .inr ((gA_A101 g hg).resolve_left (fun h => h))) (fun g hg => (gA_A107 g hg).resolve_left (fun h => h)) hF⟩
      ·replace B14 := B14.new hN106
       refine ZsS sz42 (rcE.all _) B14 (rcE.size _) (rcE.size _) fun w114 hO115 hBq => ?_
       replace B14 := hBq
       clear hBq
       replace B4 := B4.only hO115 ne_b1_b11
       replace B57 := B57.only hO115 ne_b11_b54.symm
       refine Zhb ⟨B4, B57, trivial⟩ ?_
       refine Zh1 4 ?_
       intro a fr
       refine fx_build1 (E := msgE) (p := { (mkM 11 id 4 m.line) with bs := (L.getD i ln0).bs }) elMsg (by decide) fr rfl rfl (by decide) rfl (fr.ev rfl) ?_
       clear fr a
       intro A116 w117 hN118 O119 hA120
       replace hF := (hF.trNew hN106).loc hO115 (.inr g_b11)
       have gA_A116 := gA_new hF hA120
       replace B4 := B4.new hN118
       replace B57 := B57.new hN118
       refine Zhb ⟨B4, B57, trivial⟩ ?_
       refine Zhn ?_
       refine Ztl ?_
       refine Za ?_
       refine Za ?_
       refine Znn ?_
       refine Zrt ?_
       refine Zr1 ?_
       refine Zr2 ?_
       refine Zr1 ?_
       replace B14 := B14.new hN118
       refine Zre rfl [_, _, _] ⟨⟨_, rfl, loadV_E (E := rcE) ag42 rfl (B14.rangeE rcE)⟩, rfl, rfl, trivial⟩ ?_
       have hmi : rMine (RD.mk id n ways L ak al aw gv gx) m = false := hc61
       have hq : rTakeF (RD.mk id n ways L ak al aw gv gx) m = ((RD.mk id n ways (dropL L m.line) (ak) al (aw) (gv) gx), [{ (mkM 11 id 4 m.line) with bs := (L.getD i ln0).bs }], 0) := by unfold rTakeF; rw [if_neg (show ¬ (chk m ≠ 0 ∨ m.dst ≠ id) by rintro (h | h); exact h hck; exact h hdn), if_neg (show ¬ (m.kind = 8 ∨ m.kind = 9 ∨ m.kind = 10) by omega), if_pos (show m.kind = 4 ∨ m.kind = 5 by omega), if_neg (show ¬ rMine (RD.mk id n ways L ak al aw gv gx) m = true by rw [hmi]; decide), if_neg (show ¬ stateOf L m.line < 2 from hc80), if_pos (by omega)]; dsimp only; rw [get_at hi hin hall]; try rfl
       replace V103 := (V103.only hO115 (Apart.ne1 ap_A101_b11)).new hN118
       replace hF := hF.trNew hN118
       exact ⟨_, rfl, refR_mk (r' := (RD.mk id n ways (dropL L m.line) (ak) al (aw) (gv) gx)) (A' := A101) (cap' := cap102) (B := A116) (cB := 1) (l := [{ (mkM 11 id 4 m.line) with bs := (L.getD i ln0).bs }]) hq V103 (O119).view (fun g hg => .inr ((gA_A101 g hg).resolve_left (fun h => h))) (fun g hg => (gA_A116 g hg).resolve_left (fun h => h)) hF⟩
     ·intro a fr
      refine fx_build1 (E := msgE) (p := { (mkM 11 id 4 m.line) with bs := (L.getD i ln0).bs }) elMsg (by decide) fr rfl rfl (by decide) rfl (fr.ev rfl) ?_
      clear fr a
      intro A121 w122 hN123 O124 hA125
      replace B14 := (((B14.new hN92).only hO96 ne_b11_b90).only hO98 ne_b11_b54).new hN100
      have ap_A121_b11 : Apart A121 b11 := new_apart hA125 B14.lt
      replace hF := (((hF.trNew hN92).loc hO96 (.inr g_b90)).loc hO98 (.inr g_b54)).trNew hN100
      have gA_A121 := gA_new hF hA125
      replace B4 := B4.new hN123
      replace B57 := B57.new hN123
      refine Zhb ⟨B4, B57, trivial⟩ ?_
      refine Zh1 2 ?_
      replace hV := (((hV.only hO96 (Apart.ne1 ap_A_b90)).only hO98 (Apart.ne1 ap_A_b54)).new hN100).new hN123
      refine Zk (args := #[.agg (rcE.arr (RC.mk id ((n : Nat) : Int) ways A L.length cap (ak) al (aw) (gv) gx)), .int .u32 m.line]) cf66 (rcwithout_c m.line (hV) (by omega) (by omega)) ?_
      rintro v w130 ⟨A126, cap127, rfl, V128, hA129, hN131⟩
      replace B14 := B14.new hN123
      have ap_A126_b11 : Apart A126 b11 := new_apart hA129 B14.lt
      replace hF := hF.trNew hN123
      have gA_A126 := gA_new hF hA129
      replace B4 := B4.new hN131
      replace B57 := B57.new hN131
      refine Zhb ⟨B4, B57, trivial⟩ ?_
      refine Zh1 5 ?_
      replace B14 := B14.new hN131
      refine ZsS sz42 (rcE.all _) B14 (rcE.size _) (rcE.size _) fun w132 hO133 hBq => ?_
      replace B14 := hBq
      clear hBq
      replace B4 := B4.only hO133 ne_b1_b11
      replace B57 := B57.only hO133 ne_b11_b54.symm
      refine Zhb ⟨B4, B57, trivial⟩ ?_
      refine Zhn ?_
      refine Ztl ?_
      refine Za ?_
      refine Za ?_
      refine Znn ?_
      refine Zrt ?_
      refine Zr1 ?_
      refine Zr2 ?_
      refine Zr1 ?_
      refine Zre rfl [_, _, _] ⟨⟨_, rfl, loadV_E (E := rcE) ag42 rfl (B14.rangeE rcE)⟩, rfl, rfl, trivial⟩ ?_
      have hmi : rMine (RD.mk id n ways L ak al aw gv gx) m = false := hc61
      have hq : rTakeF (RD.mk id n ways L ak al aw gv gx) m = ((RD.mk id n ways (dropL L m.line) (ak) al (aw) (gv) gx), [{ (mkM 11 id 4 m.line) with bs := (L.getD i ln0).bs }], 0) := by unfold rTakeF; rw [if_neg (show ¬ (chk m ≠ 0 ∨ m.dst ≠ id) by rintro (h | h); exact h hck; exact h hdn), if_neg (show ¬ (m.kind = 8 ∨ m.kind = 9 ∨ m.kind = 10) by omega), if_pos (show m.kind = 4 ∨ m.kind = 5 by omega), if_neg (show ¬ rMine (RD.mk id n ways L ak al aw gv gx) m = true by rw [hmi]; decide), if_neg (show ¬ stateOf L m.line < 2 from hc80), if_pos (by omega)]; dsimp only; rw [get_at hi hin hall]; try rfl
      replace O124 := (O124.new hN131).only hO133 (Apart.ne1 ap_A121_b11)
      replace hF := (hF.trNew hN131).loc hO133 (.inr g_b11)
      replace V128 := V128.only hO133 (Apart.ne1 ap_A126_b11)
      exact ⟨_, rfl, refR_mk (r' := (RD.mk id n ways (dropL L m.line) (ak) al (aw) (gv) gx)) (A' := A126) (cap' := cap127) (B := A121) (cB := 1) (l := [{ (mkM 11 id 4 m.line) with bs := (L.getD i ln0).bs }]) hq V128 (O124).view (fun g hg => .inr ((gA_A126 g hg).resolve_left (fun h => h))) (fun g hg => (gA_A121 g hg).resolve_left (fun h => h)) hF⟩
    ·refine Zna (z := zv1) (cs := lnE.arr ln0) (by kernel_rfl) fun b134 w135 hN136 B137 hb138 => ?_
     have ap_A_b134 : Apart A b134 := hV.apart hb138
     have ne_b1_b134 : NE b1 b134 := NE.mk (Nat.lt_of_lt_of_le B4.lt hb138)
     replace B14 := ((B14.new hN56).only hO60 ne_b11_b54).new hN84
     have ne_b11_b134 : NE b11 b134 := NE.mk (Nat.lt_of_lt_of_le B14.lt hb138)
     replace B57 := B57.new hN84
     have ne_b54_b134 : NE b54 b134 := NE.mk (Nat.lt_of_lt_of_le B57.lt hb138)
     replace hF := ((hF.trNew hN56).loc hO60 (.inr g_b54)).trNew hN84
     have g_b134 := Nat.le_trans hF.size hb138
     replace hV := hV.new hN136
     replace B4 := B4.new hN136
     refine Zhb ⟨hV, B4, trivial⟩ ?_
     refine Zh1 4 ?_
     refine Zk cf58 (rcfind_c m.line (hV)) ?_
     rintro v w139 ⟨rfl, hN140⟩
     intro a fr
     rw [hf] at fr
     revert a
     replace hV := hV.new hN140
     replace B4 := B4.new hN140
     refine Zhb ⟨hV, B4, trivial⟩ ?_
     obtain ⟨g141, o142, hA143⟩ := (hV).some_ (by omega)
     have hS9 := And.intro hV (And.intro B4 trivial)
     refine Zht 5 rfl (.pointer (some ⟨g141, o142 + i * 18, none⟩)) hS9 (fun _ fr _ _ => x_indexV Try.underlying40 sz39 rfl (fr.ev rfl) hA143 (fr.ev rfl) (by omega) rfl) ?_
     refine ZhE 6 lnE ag39 hS9 (fun _ ⟨hV, _⟩ => ((hV).elem hA143 i ln0 (by omega))) ?_
     refine Zhn ?_
     refine Ztl ?_
     replace B137 := B137.new hN140
     refine ZsS sz39 (lnE.all _) B137 (lnE.size _) (lnE.size _) fun w144 hO145 hBq => ?_
     replace B137 := hBq
     clear hBq
     refine Znn ?_
     refine Zsr ?_
     refine Zf fo39_2 ?_
     refine ZE (p := (L.getD i ln0).bs) bsE ag22 (B137.part (ln_bs _)) ?_
     refine Zf fo35_4 ?_
     intro a fr
     replace B57 := ((B57.new hN136).new hN140).only hO145 ne_b54_b134
     refine fx_storePart (E := msgE) (E2 := bsE) (q := 4) (m := (mkM 11 id 4 m.line)) (m' := { (mkM 11 id 4 m.line) with bs := (L.getD i ln0).bs }) (z := (L.getD i ln0).bs) sz22 rfl rfl rfl (fr.ev rfl) (fr.ev rfl) B57 (by decide) (msg_setbs _ _) fun w146 hO147 hBq => ?_
     revert a
     replace B57 := hBq
     clear hBq
     refine Znn ?_
     refine Zsq ?_
     refine Zsr ?_
     refine Zm ?_
     refine Zv (.bool true) (fun _ fr => x_eql rfl (fr.ev rfl) rfl (decide_eq_true (by omega))) ?_
     refine Znn ?_
     refine Zct ?_
     refine Zsq ?_
     refine ZhT (n := 6) 6 (fun w => Blk w b1 42 (rcE.arr (RC.mk id ((n : Nat) : Int) ways A L.length cap (ak) al (aw) (gv) gx)) ∧ Blk w b54 35 (msgE.arr { (mkM 11 id 4 m.line) with bs := (L.getD i ln0).bs }) ∧ True) ?_
     intro w148 hN149
     replace B4 := ((B4.only hO145 ne_b1_b134).only hO147 ne_b1_b54).new hN149
     replace B57 := B57.new hN149
     have hS9 := And.intro B4 (And.intro B57 trivial)
     refine ZhE 0 rcE ag42 hS9 (fun _ ⟨B4, _⟩ => (B4.rangeE rcE)) ?_
     refine Zhm 1 hS9 ?_
     refine ZhE 3 msgE ag35 hS9 (fun _ ⟨_, B57, _⟩ => (B57.rangeE msgE)) ?_
     refine Zh2 2 4 ?_ ?_
     ·replace hV := ((hV.only hO145 (Apart.ne1 ap_A_b134)).only hO147 (Apart.ne1 ap_A_b54)).new hN149
      refine Zk (args := #[.agg (rcE.arr (RC.mk id ((n : Nat) : Int) ways A L.length cap (ak) al (aw) (gv) gx)), .int .u32 m.line]) cf66 (rcwithout_c m.line (hV) (by omega) (by omega)) ?_
      rintro v w154 ⟨A150, cap151, rfl, V152, hA153, hN155⟩
      replace B14 := ((((B14.new hN136).new hN140).only hO145 ne_b11_b134).only hO147 ne_b11_b54).new hN149
      have ap_A150_b11 : Apart A150 b11 := new_apart hA153 B14.lt
      replace hF := ((((hF.trNew hN136).trNew hN140).loc hO145 (.inr g_b134)).loc hO147 (.inr g_b54)).trNew hN149
      have gA_A150 := gA_new hF hA153
      replace B4 := B4.new hN155
      replace B57 := B57.new hN155
      refine Zhb ⟨B4, B57, trivial⟩ ?_
      refine Zh2 4 5 ?_ ?_
      ·intro a fr
       refine fx_build1 (E := msgE) (p := { (mkM 11 id 4 m.line) with bs := (L.getD i ln0).bs }) elMsg (by decide) fr rfl rfl (by decide) rfl (fr.ev rfl) ?_
       clear fr a
       intro A156 w157 hN158 O159 hA160
       replace B14 := B14.new hN155
       have ap_A156_b11 : Apart A156 b11 := new_apart hA160 B14.lt
       replace hF := hF.trNew hN155
       have gA_A156 := gA_new hF hA160
       replace B4 := B4.new hN158
       replace B57 := B57.new hN158
       refine Zhb ⟨B4, B57, trivial⟩ ?_
       refine Zh1 5 ?_
       replace B14 := B14.new hN158
       refine ZsS sz42 (rcE.all _) B14 (rcE.size _) (rcE.size _) fun w161 hO162 hBq => ?_
       replace B14 := hBq
       clear hBq
       replace B4 := B4.only hO162 ne_b1_b11
       replace B57 := B57.only hO162 ne_b11_b54.symm
       refine Zhb ⟨B4, B57, trivial⟩ ?_
       refine Zhn ?_
       refine Ztl ?_
       refine Za ?_
       refine Za ?_
       refine Znn ?_
       refine Zrt ?_
       refine Zr1 ?_
       refine Zr2 ?_
       refine Zr1 ?_
       refine Zre rfl [_, _, _] ⟨⟨_, rfl, loadV_E (E := rcE) ag42 rfl (B14.rangeE rcE)⟩, rfl, rfl, trivial⟩ ?_
       have hmi : rMine (RD.mk id n ways L ak al aw gv gx) m = false := hc61
       have hq : rTakeF (RD.mk id n ways L ak al aw gv gx) m = ((RD.mk id n ways (dropL L m.line) (ak) al (aw) (gv) gx), [{ (mkM 11 id 4 m.line) with bs := (L.getD i ln0).bs }], 0) := by unfold rTakeF; rw [if_neg (show ¬ (chk m ≠ 0 ∨ m.dst ≠ id) by rintro (h | h); exact h hck; exact h hdn), if_neg (show ¬ (m.kind = 8 ∨ m.kind = 9 ∨ m.kind = 10) by omega), if_pos (show m.kind = 4 ∨ m.kind = 5 by omega), if_neg (show ¬ rMine (RD.mk id n ways L ak al aw gv gx) m = true by rw [hmi]; decide), if_neg (show ¬ stateOf L m.line < 2 from hc80), if_pos (by omega)]; dsimp only; rw [get_at hi hin hall]; try rfl
       replace V152 := (V152.new hN158).only hO162 (Apart.ne1 ap_A150_b11)
       replace hF := (hF.trNew hN158).loc hO162 (.inr g_b11)
       replace O159 := O159.only hO162 (Apart.ne1 ap_A156_b11)
       exact ⟨_, rfl, refR_mk (r' := (RD.mk id n ways (dropL L m.line) (ak) al (aw) (gv) gx)) (A' := A150) (cap' := cap151) (B := A156) (cB := 1) (l := [{ (mkM 11 id 4 m.line) with bs := (L.getD i ln0).bs }]) hq V152 (O159).view (fun g hg => .inr ((gA_A150 g hg).resolve_left (fun h => h))) (fun g hg => (gA_A156 g hg).resolve_left (fun h => h)) hF⟩
      ·replace B14 := B14.new hN155
       refine ZsS sz42 (rcE.all _) B14 (rcE.size _) (rcE.size _) fun w163 hO164 hBq => ?_
       replace B14 := hBq
       clear hBq
       replace B4 := B4.only hO164 ne_b1_b11
       replace B57 := B57.only hO164 ne_b11_b54.symm
       refine Zhb ⟨B4, B57, trivial⟩ ?_
       refine Zh1 4 ?_
       intro a fr
       refine fx_build1 (E := msgE) (p := { (mkM 11 id 4 m.line) with bs := (L.getD i ln0).bs }) elMsg (by decide) fr rfl rfl (by decide) rfl (fr.ev rfl) ?_
       clear fr a
       intro A165 w166 hN167 O168 hA169
       replace hF := (hF.trNew hN155).loc hO164 (.inr g_b11)
       have gA_A165 := gA_new hF hA169
       replace B4 := B4.new hN167
       replace B57 := B57.new hN167
       refine Zhb ⟨B4, B57, trivial⟩ ?_
       refine Zhn ?_
       refine Ztl ?_
       refine Za ?_
       refine Za ?_
       refine Znn ?_
       refine Zrt ?_
       refine Zr1 ?_
       refine Zr2 ?_
       refine Zr1 ?_
       replace B14 := B14.new hN167
       refine Zre rfl [_, _, _] ⟨⟨_, rfl, loadV_E (E := rcE) ag42 rfl (B14.rangeE rcE)⟩, rfl, rfl, trivial⟩ ?_
       have hmi : rMine (RD.mk id n ways L ak al aw gv gx) m = false := hc61
       have hq : rTakeF (RD.mk id n ways L ak al aw gv gx) m = ((RD.mk id n ways (dropL L m.line) (ak) al (aw) (gv) gx), [{ (mkM 11 id 4 m.line) with bs := (L.getD i ln0).bs }], 0) := by unfold rTakeF; rw [if_neg (show ¬ (chk m ≠ 0 ∨ m.dst ≠ id) by rintro (h | h); exact h hck; exact h hdn), if_neg (show ¬ (m.kind = 8 ∨ m.kind = 9 ∨ m.kind = 10) by omega), if_pos (show m.kind = 4 ∨ m.kind = 5 by omega), if_neg (show ¬ rMine (RD.mk id n ways L ak al aw gv gx) m = true by rw [hmi]; decide), if_neg (show ¬ stateOf L m.line < 2 from hc80), if_pos (by omega)]; dsimp only; rw [get_at hi hin hall]; try rfl
       replace V152 := (V152.only hO164 (Apart.ne1 ap_A150_b11)).new hN167
       replace hF := hF.trNew hN167
       exact ⟨_, rfl, refR_mk (r' := (RD.mk id n ways (dropL L m.line) (ak) al (aw) (gv) gx)) (A' := A150) (cap' := cap151) (B := A165) (cB := 1) (l := [{ (mkM 11 id 4 m.line) with bs := (L.getD i ln0).bs }]) hq V152 (O168).view (fun g hg => .inr ((gA_A150 g hg).resolve_left (fun h => h))) (fun g hg => (gA_A165 g hg).resolve_left (fun h => h)) hF⟩
     ·intro a fr
      refine fx_build1 (E := msgE) (p := { (mkM 11 id 4 m.line) with bs := (L.getD i ln0).bs }) elMsg (by decide) fr rfl rfl (by decide) rfl (fr.ev rfl) ?_
      clear fr a
      intro A170 w171 hN172 O173 hA174
      replace B14 := ((((B14.new hN136).new hN140).only hO145 ne_b11_b134).only hO147 ne_b11_b54).new hN149
      have ap_A170_b11 : Apart A170 b11 := new_apart hA174 B14.lt
      replace hF := ((((hF.trNew hN136).trNew hN140).loc hO145 (.inr g_b134)).loc hO147 (.inr g_b54)).trNew hN149
      have gA_A170 := gA_new hF hA174
      replace B4 := B4.new hN172
      replace B57 := B57.new hN172
      refine Zhb ⟨B4, B57, trivial⟩ ?_
      refine Zh1 2 ?_
      replace hV := (((hV.only hO145 (Apart.ne1 ap_A_b134)).only hO147 (Apart.ne1 ap_A_b54)).new hN149).new hN172
      refine Zk (args := #[.agg (rcE.arr (RC.mk id ((n : Nat) : Int) ways A L.length cap (ak) al (aw) (gv) gx)), .int .u32 m.line]) cf66 (rcwithout_c m.line (hV) (by omega) (by omega)) ?_
      rintro v w179 ⟨A175, cap176, rfl, V177, hA178, hN180⟩
      replace B14 := B14.new hN172
      have ap_A175_b11 : Apart A175 b11 := new_apart hA178 B14.lt
      replace hF := hF.trNew hN172
      have gA_A175 := gA_new hF hA178
      replace B4 := B4.new hN180
      replace B57 := B57.new hN180
      refine Zhb ⟨B4, B57, trivial⟩ ?_
      refine Zh1 5 ?_
      replace B14 := B14.new hN180
      refine ZsS sz42 (rcE.all _) B14 (rcE.size _) (rcE.size _) fun w181 hO182 hBq => ?_
      replace B14 := hBq
      clear hBq
      replace B4 := B4.only hO182 ne_b1_b11
      replace B57 := B57.only hO182 ne_b11_b54.symm
      refine Zhb ⟨B4, B57, trivial⟩ ?_
      refine Zhn ?_
      refine Ztl ?_
      refine Za ?_
      refine Za ?_
      refine Znn ?_
      refine Zrt ?_
      refine Zr1 ?_
      refine Zr2 ?_
      refine Zr1 ?_
      refine Zre rfl [_, _, _] ⟨⟨_, rfl, loadV_E (E := rcE) ag42 rfl (B14.rangeE rcE)⟩, rfl, rfl, trivial⟩ ?_
      have hmi : rMine (RD.mk id n ways L ak al aw gv gx) m = false := hc61
      have hq : rTakeF (RD.mk id n ways L ak al aw gv gx) m = ((RD.mk id n ways (dropL L m.line) (ak) al (aw) (gv) gx), [{ (mkM 11 id 4 m.line) with bs := (L.getD i ln0).bs }], 0) := by unfold rTakeF; rw [if_neg (show ¬ (chk m ≠ 0 ∨ m.dst ≠ id) by rintro (h | h); exact h hck; exact h hdn), if_neg (show ¬ (m.kind = 8 ∨ m.kind = 9 ∨ m.kind = 10) by omega), if_pos (show m.kind = 4 ∨ m.kind = 5 by omega), if_neg (show ¬ rMine (RD.mk id n ways L ak al aw gv gx) m = true by rw [hmi]; decide), if_neg (show ¬ stateOf L m.line < 2 from hc80), if_pos (by omega)]; dsimp only; rw [get_at hi hin hall]; try rfl
      replace O173 := (O173.new hN180).only hO182 (Apart.ne1 ap_A170_b11)
      replace hF := (hF.trNew hN180).loc hO182 (.inr g_b11)
      replace V177 := V177.only hO182 (Apart.ne1 ap_A175_b11)
      exact ⟨_, rfl, refR_mk (r' := (RD.mk id n ways (dropL L m.line) (ak) al (aw) (gv) gx)) (A' := A175) (cap' := cap176) (B := A170) (cB := 1) (l := [{ (mkM 11 id 4 m.line) with bs := (L.getD i ln0).bs }]) hq V177 (O173).view (fun g hg => .inr ((gA_A175 g hg).resolve_left (fun h => h))) (fun g hg => (gA_A170 g hg).resolve_left (fun h => h)) hF⟩
set_option maxRecDepth 100000 in
set_option maxHeartbeats 4000000 in
theorem rctake_6 (m : Msg) {w : World} {id : Int} {n : Nat} {ways : Int} {A : Option Addr} {cap : Nat} {L : List Ln} {ak : Bool} {al : Int} {aw gv : Bool} {gx : Ln} (hV : View lnE w A cap L) (hn : 0 < n ∧ n ≤ 64) (hl : L.length ≤ 1000) (hck : chk m = 0) (hdn : m.dst = id) (hk : m.kind = 6)  : Calls Try.prog 27 #[.agg (rcE.arr (RC.mk id ((n : Nat) : Int) ways A L.length cap (ak) al (aw) (gv) gx)), .agg (msgE.arr m)] w (Ret fun v w' => RefR w A (rTakeF (RD.mk id n ways L ak al aw gv gx) m) v w') := by
 have hVl := hV.len
 unfold maxLen at hVl
 have hmn := m.hn
 have hF := Only.refl (fun _ => False) w
 refine Zen 139 Try.func27 ?_
 refine Zsr ?_
 refine Znb (cs := rcE.arr (RC.mk id ((n : Nat) : Int) ways A L.length cap (ak) al (aw) (gv) gx)) fun b1 w2 hN3 B4 hb5 => ?_
 refine Znb (cs := msgE.arr m) fun b6 w7 hN8 B9 hb10 => ?_
 refine Zna (z := zv4) (cs := rcE.arr rc0) (by kernel_rfl) fun b11 w12 hN13 B14 hb15 => ?_
 replace hV := (hV.new hN3).new hN8
 have ap_A_b11 : Apart A b11 := hV.apart hb15
 replace B4 := B4.new hN8
 have ne_b1_b11 : NE b1 b11 := NE.mk (Nat.lt_of_lt_of_le B4.lt hb15)
 replace hF := (hF.trNew hN3).trNew hN8
 have g_b11 := Nat.le_trans hF.size hb15
 refine Za ?_
 refine Za ?_
 refine Znn ?_
 refine Zsq ?_
 refine Zsq ?_
 have hck2 : ¬ chk m ≠ 0 := fun h => h hck
 have hdn2 : ¬ m.dst ≠ id := fun h => h hdn
 refine Zrg ?_
 replace B9 := B9.new hN13
 refine ZE msgE ag35 (B9.rangeE msgE) ?_
 refine Zk cf65 (refchk_c m _) ?_
 rintro v w16 ⟨rfl, hN17⟩
 refine Zv (.bool false) (fun _ fr => x_neq rfl (fr.ev rfl) rfl (decide_eq_false hck2)) ?_
 refine Zm ?_
 refine Zf fo35_2 ?_
 replace B9 := B9.new hN17
 refine Zd (v := .int .i64 m.dst) pl3 (B9.cell 2 rfl) ?_
 refine Zf fo42_0 ?_
 replace B4 := (B4.new hN13).new hN17
 refine Zd (v := .int .i64 id) pl3 (B4.cell 0 rfl) ?_
 refine Zv (.bool false) (fun _ fr => x_neq rfl (fr.ev rfl) (fr.ev rfl) (decide_eq_false hdn2)) ?_
 refine Zpf ?_
 refine Znn ?_
 refine Zcf ?_
 refine Zsk ?_
 refine Znx ?_
 refine Zsq ?_
 refine ZhT (n := 5) 5 (fun w => Blk w b6 35 (msgE.arr m) ∧ True) ?_
 intro w18 hN19
 replace B9 := B9.new hN19
 have hS9 := And.intro B9 trivial
 refine Zhf 0 fo35_3 hS9 ?_
 refine Zhl (v := .int .u32 m.line) 1 pl32 hS9 (fun _ ⟨B9, _⟩ => (B9.cell 3 rfl)) ?_
 refine Zhf 2 fo35_0 hS9 ?_
 refine Zhl (v := .int .i64 m.kind) 3 pl33 hS9 (fun _ ⟨B9, _⟩ => (B9.cell 0 rfl)) ?_
 refine Zha 4 hS9 ?_
 refine Zhn ?_
 refine Ztl ?_
 refine Za ?_
 refine Znn ?_
 refine Zsr ?_
 replace B4 := B4.new hN19
 refine ZE rcE ag42 (B4.rangeE rcE) ?_
 refine Zm ?_
 replace hV := ((hV.new hN13).new hN17).new hN19
 refine Zk cf60 (rcstate_c m.line (hV)) ?_
 rintro v w20 ⟨rfl, hN21⟩
 refine Za ?_
 refine Znn ?_
 refine Zsr ?_
 refine Zf fo42_7 ?_
 replace B4 := B4.new hN21
 refine Zd (v := .bool (gv)) pl4 (B4.cell 7 rfl) ?_
 refine Zm ?_
 refine Zy (gv) _ (fun _ fr _ => x_fieldAddr fo42_8 rfl (fr.ev rfl) rfl) ?_
 refine Zy (gv) _ (fun _ fr hg => x_fieldAddr fo39_0 rfl ((fr.ev rfl).trans (onlyIf_t hg)) rfl) ?_
 refine Zy (gv) _ (fun _ fr hg => x_load1 pl32 rfl ((fr.ev rfl).trans (onlyIf_t hg)) (B4.cell 8 rfl)) ?_
 refine Zy (gv) _ (fun _ fr _ => x_move rfl (fr.ev rfl)) ?_
 refine Zy (gv) _ (fun _ fr hg => x_eql rfl ((fr.ev rfl).trans (onlyIf_t hg)) ((fr.ev rfl).trans (onlyIf_t hg)) rfl) ?_
 refine Zv (.bool ((gv) && (decide (gx.num = m.line)))) (fun _ fr => x_pick_and rfl (fr.ev rfl) (fun hb => ((fr.ev rfl)).trans (onlyIf_t (by simp_all))) (fun _ => rfl) rfl) ?_
 refine Za ?_
 refine Znn ?_
 refine Zsq ?_
 refine Zsr ?_
 refine Zm ?_
 refine Znn ?_
 refine Zbl ?_
 refine Zsq ?_
 refine Zsr ?_
 refine Zv (.bool false) (fun _ fr => x_eql rfl (fr.ev rfl) rfl (decide_eq_false (by omega))) ?_
 refine Za ?_
 refine Znn ?_
 refine Zcf ?_
 refine Zsr ?_
 refine Zv (.bool false) (fun _ fr => x_eql rfl (fr.ev rfl) rfl (decide_eq_false (by omega))) ?_
 refine Za ?_
 refine Znn ?_
 refine Zcf ?_
 refine Zrg ?_
 refine Zv (.bool false) (fun _ fr => x_eql rfl (fr.ev rfl) rfl (decide_eq_false (by omega))) ?_
 refine Za ?_
 refine Znn ?_
 refine Zcf ?_
 refine Zsq ?_
 refine Zsr ?_
 refine Zv (.bool false) (fun _ fr => x_eql rfl (fr.ev rfl) rfl (decide_eq_false (by omega))) ?_
 refine Za ?_
 refine Znn ?_
 refine Zcf ?_
 refine Zrg ?_
 refine Zv (.bool false) (fun _ fr => x_eql rfl (fr.ev rfl) rfl (decide_eq_false (by omega))) ?_
 refine Za ?_
 refine Znn ?_
 refine Zcf ?_
 refine Zsr ?_
 refine Zv (.bool true) (fun _ fr => x_eql rfl (fr.ev rfl) rfl (decide_eq_true (by omega))) ?_
 refine Za ?_
 refine Znn ?_
 refine Zct ?_
 refine Zsq ?_
 refine Zsr ?_
 refine Zm ?_
 refine Zv _ (fun _ fr => x_geq rfl (fr.ev rfl) rfl rfl) ?_
 refine Znn ?_
 refine Zcd (fun hc22 => ?_) (fun hc22 => ?_)
 ·have hc22 := of_decide_eq_true hc22
  refine Zsr ?_
  refine ZE rcE ag42 (B4.rangeE rcE) ?_
  replace B14 := ((B14.new hN17).new hN19).new hN21
  refine ZsS sz42 (rcE.all _) B14 (rcE.size _) (rcE.size _) fun w23 hO24 hBq => ?_
  replace B14 := hBq
  clear hBq
  refine Za ?_
  refine Za ?_
  refine Znn ?_
  refine Zrt ?_
  refine Zr1 ?_
  refine Zr2 ?_
  refine Zr1 ?_
  refine Zre rfl [_, _, _] ⟨⟨_, rfl, loadV_E (E := rcE) ag42 rfl (B14.rangeE rcE)⟩, rfl, rfl, trivial⟩ ?_
  have hq : rTakeF (RD.mk id n ways L ak al aw gv gx) m = ((RD.mk id n ways L (ak) al (aw) (gv) gx), ([] : List Msg), 220) := by unfold rTakeF; rw [if_neg (show ¬ (chk m ≠ 0 ∨ m.dst ≠ id) by rintro (h | h); exact h hck; exact h hdn), if_neg (show ¬ (m.kind = 8 ∨ m.kind = 9 ∨ m.kind = 10) by omega), if_neg (show ¬ (m.kind = 4 ∨ m.kind = 5) by omega), if_pos hk, if_pos (show 2 ≤ stateOf L m.line from hc22)]
  replace hF := ((((hF.trNew hN13).trNew hN17).trNew hN19).trNew hN21).loc hO24 (.inr g_b11)
  replace hV := (hV.new hN21).only hO24 (Apart.ne1 ap_A_b11)
  exact ⟨_, rfl, refR_mk (r' := (RD.mk id n ways L (ak) al (aw) (gv) gx)) (A' := A) (cap' := cap) (B := none) (cB := 0) (l := ([] : List Msg)) hq hV View.nil (fun g hg => .inl hg) (fun g hg => absurd hg (apart_none g)) hF⟩
 ·have hc22 := of_decide_eq_false hc22
  refine Zsk ?_
  refine Znx ?_
  refine Zsq ?_
  refine ZhT (n := 8) 8 (fun w => Blk w b1 42 (rcE.arr (RC.mk id ((n : Nat) : Int) ways A L.length cap (ak) al (aw) (gv) gx)) ∧ True) ?_
  intro w25 hN26
  replace B4 := B4.new hN26
  have hS9 := And.intro B4 trivial
  refine ZhE 0 rcE ag42 hS9 (fun _ ⟨B4, _⟩ => (B4.rangeE rcE)) ?_
  refine Zhm 1 hS9 ?_
  refine ZhE 3 rcE ag42 hS9 (fun _ ⟨B4, _⟩ => (B4.rangeE rcE)) ?_
  refine Zhm 4 hS9 ?_
  refine Zh1 2 ?_
  replace hV := (hV.new hN21).new hN26
  refine Zk (args := #[.agg (rcE.arr (RC.mk id ((n : Nat) : Int) ways A L.length cap (ak) al (aw) (gv) gx)), .int .u32 m.line]) cf66 (rcwithout_c m.line (hV) (by omega) (by omega)) ?_
  rintro v w31 ⟨A27, cap28, rfl, V29, hA30, hN32⟩
  replace B14 := (((B14.new hN17).new hN19).new hN21).new hN26
  have ap_A27_b11 : Apart A27 b11 := new_apart hA30 B14.lt
  replace hF := ((((hF.trNew hN13).trNew hN17).trNew hN19).trNew hN21).trNew hN26
  have gA_A27 := gA_new hF hA30
  replace B4 := B4.new hN32
  refine Zhb ⟨B4, trivial⟩ ?_
  refine Zh1 5 ?_
  refine Zk (args := #[.agg (rcE.arr (RC.mk id ((n : Nat) : Int) ways A L.length cap (ak) al (aw) (gv) gx)), .int .i64 12, .int .u32 m.line]) cf64 (rcmsg_c 12 m.line (by omega) _) ?_
  rintro v w33 ⟨rfl, hN34⟩
  replace B4 := B4.new hN34
  refine Zhb ⟨B4, trivial⟩ ?_
  refine Zh2 6 7 ?_ ?_
  ·intro a fr
   refine fx_build1 (E := msgE) (p := (mkM 12 id 4 m.line)) elMsg (by decide) fr rfl rfl (by decide) rfl (fr.ev rfl) ?_
   clear fr a
   intro A35 w36 hN37 O38 hA39
   replace B14 := (B14.new hN32).new hN34
   have ap_A35_b11 : Apart A35 b11 := new_apart hA39 B14.lt
   replace hF := (hF.trNew hN32).trNew hN34
   have gA_A35 := gA_new hF hA39
   replace B4 := B4.new hN37
   refine Zhb ⟨B4, trivial⟩ ?_
   refine Zh1 7 ?_
   replace B14 := B14.new hN37
   refine ZsS sz42 (rcE.all _) B14 (rcE.size _) (rcE.size _) fun w40 hO41 hBq => ?_
   replace B14 := hBq
   clear hBq
   replace B4 := B4.only hO41 ne_b1_b11
   refine Zhb ⟨B4, trivial⟩ ?_
   refine Zhn ?_
   refine Ztl ?_
   refine Za ?_
   refine Za ?_
   refine Znn ?_
   refine Zrt ?_
   refine Zr2 ?_
   refine Zr1 ?_
   refine Zre rfl [_, _, _] ⟨⟨_, rfl, loadV_E (E := rcE) ag42 rfl (B14.rangeE rcE)⟩, rfl, rfl, trivial⟩ ?_
   have hq : rTakeF (RD.mk id n ways L ak al aw gv gx) m = ((RD.mk id n ways (dropL L m.line) (ak) al (aw) (gv) gx), [(mkM 12 id 4 m.line)], 0) := by unfold rTakeF; rw [if_neg (show ¬ (chk m ≠ 0 ∨ m.dst ≠ id) by rintro (h | h); exact h hck; exact h hdn), if_neg (show ¬ (m.kind = 8 ∨ m.kind = 9 ∨ m.kind = 10) by omega), if_neg (show ¬ (m.kind = 4 ∨ m.kind = 5) by omega), if_pos hk, if_neg (show ¬ 2 ≤ stateOf L m.line from hc22)]; try rfl
   replace V29 := ((V29.new hN34).new hN37).only hO41 (Apart.ne1 ap_A27_b11)
   replace hF := (hF.trNew hN37).loc hO41 (.inr g_b11)
   replace O38 := O38.only hO41 (Apart.ne1 ap_A35_b11)
   exact ⟨_, rfl, refR_mk (r' := (RD.mk id n ways (dropL L m.line) (ak) al (aw) (gv) gx)) (A' := A27) (cap' := cap28) (B := A35) (cB := 1) (l := [(mkM 12 id 4 m.line)]) hq V29 (O38).view (fun g hg => .inr ((gA_A27 g hg).resolve_left (fun h => h))) (fun g hg => (gA_A35 g hg).resolve_left (fun h => h)) hF⟩
  ·replace B14 := (B14.new hN32).new hN34
   refine ZsS sz42 (rcE.all _) B14 (rcE.size _) (rcE.size _) fun w42 hO43 hBq => ?_
   replace B14 := hBq
   clear hBq
   replace B4 := B4.only hO43 ne_b1_b11
   refine Zhb ⟨B4, trivial⟩ ?_
   refine Zh1 6 ?_
   intro a fr
   refine fx_build1 (E := msgE) (p := (mkM 12 id 4 m.line)) elMsg (by decide) fr rfl rfl (by decide) rfl (fr.ev rfl) ?_
   clear fr a
   intro A44 w45 hN46 O47 hA48
   replace hF := ((hF.trNew hN32).trNew hN34).loc hO43 (.inr g_b11)
   have gA_A44 := gA_new hF hA48
   replace B4 := B4.new hN46
   refine Zhb ⟨B4, trivial⟩ ?_
   refine Zhn ?_
   refine Ztl ?_
   refine Za ?_
   refine Za ?_
   refine Znn ?_
   refine Zrt ?_
   refine Zr2 ?_
   refine Zr1 ?_
   replace B14 := B14.new hN46
   refine Zre rfl [_, _, _] ⟨⟨_, rfl, loadV_E (E := rcE) ag42 rfl (B14.rangeE rcE)⟩, rfl, rfl, trivial⟩ ?_
   have hq : rTakeF (RD.mk id n ways L ak al aw gv gx) m = ((RD.mk id n ways (dropL L m.line) (ak) al (aw) (gv) gx), [(mkM 12 id 4 m.line)], 0) := by unfold rTakeF; rw [if_neg (show ¬ (chk m ≠ 0 ∨ m.dst ≠ id) by rintro (h | h); exact h hck; exact h hdn), if_neg (show ¬ (m.kind = 8 ∨ m.kind = 9 ∨ m.kind = 10) by omega), if_neg (show ¬ (m.kind = 4 ∨ m.kind = 5) by omega), if_pos hk, if_neg (show ¬ 2 ≤ stateOf L m.line from hc22)]; try rfl
   replace V29 := ((V29.new hN34).only hO43 (Apart.ne1 ap_A27_b11)).new hN46
   replace hF := hF.trNew hN46
   exact ⟨_, rfl, refR_mk (r' := (RD.mk id n ways (dropL L m.line) (ak) al (aw) (gv) gx)) (A' := A27) (cap' := cap28) (B := A44) (cB := 1) (l := [(mkM 12 id 4 m.line)]) hq V29 (O47).view (fun g hg => .inr ((gA_A27 g hg).resolve_left (fun h => h))) (fun g hg => (gA_A44 g hg).resolve_left (fun h => h)) hF⟩
set_option maxRecDepth 100000 in
set_option maxHeartbeats 4000000 in
theorem rctake_7 (m : Msg) {w : World} {id : Int} {n : Nat} {ways : Int} {A : Option Addr} {cap : Nat} {L : List Ln} {ak : Bool} {al : Int} {aw gv : Bool} {gx : Ln} (hV : View lnE w A cap L) (hn : 0 < n ∧ n ≤ 64) (hl : L.length ≤ 1000) (hck : chk m = 0) (hdn : m.dst = id) (hk : m.kind = 7)  : Calls Try.prog 27 #[.agg (rcE.arr (RC.mk id ((n : Nat) : Int) ways A L.length cap (ak) al (aw) (gv) gx)), .agg (msgE.arr m)] w (Ret fun v w' => RefR w A (rTakeF (RD.mk id n ways L ak al aw gv gx) m) v w') := by
 have hVl := hV.len
 unfold maxLen at hVl
 have hmn := m.hn
 have hF := Only.refl (fun _ => False) w
 refine Zen 139 Try.func27 ?_
 refine Zsr ?_
 refine Znb (cs := rcE.arr (RC.mk id ((n : Nat) : Int) ways A L.length cap (ak) al (aw) (gv) gx)) fun b1 w2 hN3 B4 hb5 => ?_
 have ap_A_b1 : Apart A b1 := hV.apart hb5
 have g_b1 := Nat.le_trans hF.size hb5
 refine Znb (cs := msgE.arr m) fun b6 w7 hN8 B9 hb10 => ?_
 refine Zna (z := zv4) (cs := rcE.arr rc0) (by kernel_rfl) fun b11 w12 hN13 B14 hb15 => ?_
 replace hV := (hV.new hN3).new hN8
 have ap_A_b11 : Apart A b11 := hV.apart hb15
 replace B4 := B4.new hN8
 have ne_b1_b11 : NE b1 b11 := NE.mk (Nat.lt_of_lt_of_le B4.lt hb15)
 replace hF := (hF.trNew hN3).trNew hN8
 have g_b11 := Nat.le_trans hF.size hb15
 refine Za ?_
 refine Za ?_
 refine Znn ?_
 refine Zsq ?_
 refine Zsq ?_
 have hck2 : ¬ chk m ≠ 0 := fun h => h hck
 have hdn2 : ¬ m.dst ≠ id := fun h => h hdn
 refine Zrg ?_
 replace B9 := B9.new hN13
 refine ZE msgE ag35 (B9.rangeE msgE) ?_
 refine Zk cf65 (refchk_c m _) ?_
 rintro v w16 ⟨rfl, hN17⟩
 refine Zv (.bool false) (fun _ fr => x_neq rfl (fr.ev rfl) rfl (decide_eq_false hck2)) ?_
 refine Zm ?_
 refine Zf fo35_2 ?_
 replace B9 := B9.new hN17
 refine Zd (v := .int .i64 m.dst) pl3 (B9.cell 2 rfl) ?_
 refine Zf fo42_0 ?_
 replace B4 := (B4.new hN13).new hN17
 refine Zd (v := .int .i64 id) pl3 (B4.cell 0 rfl) ?_
 refine Zv (.bool false) (fun _ fr => x_neq rfl (fr.ev rfl) (fr.ev rfl) (decide_eq_false hdn2)) ?_
 refine Zpf ?_
 refine Znn ?_
 refine Zcf ?_
 refine Zsk ?_
 refine Znx ?_
 refine Zsq ?_
 refine ZhT (n := 5) 5 (fun w => Blk w b6 35 (msgE.arr m) ∧ True) ?_
 intro w18 hN19
 replace B9 := B9.new hN19
 have hS9 := And.intro B9 trivial
 refine Zhf 0 fo35_3 hS9 ?_
 refine Zhl (v := .int .u32 m.line) 1 pl32 hS9 (fun _ ⟨B9, _⟩ => (B9.cell 3 rfl)) ?_
 refine Zhf 2 fo35_0 hS9 ?_
 refine Zhl (v := .int .i64 m.kind) 3 pl33 hS9 (fun _ ⟨B9, _⟩ => (B9.cell 0 rfl)) ?_
 refine Zha 4 hS9 ?_
 refine Zhn ?_
 refine Ztl ?_
 refine Za ?_
 refine Znn ?_
 refine Zsr ?_
 replace B4 := B4.new hN19
 refine ZE rcE ag42 (B4.rangeE rcE) ?_
 refine Zm ?_
 replace hV := ((hV.new hN13).new hN17).new hN19
 refine Zk cf60 (rcstate_c m.line (hV)) ?_
 rintro v w20 ⟨rfl, hN21⟩
 refine Za ?_
 refine Znn ?_
 refine Zsr ?_
 refine Zf fo42_7 ?_
 replace B4 := B4.new hN21
 refine Zd (v := .bool (gv)) pl4 (B4.cell 7 rfl) ?_
 refine Zm ?_
 refine Zy (gv) _ (fun _ fr _ => x_fieldAddr fo42_8 rfl (fr.ev rfl) rfl) ?_
 refine Zy (gv) _ (fun _ fr hg => x_fieldAddr fo39_0 rfl ((fr.ev rfl).trans (onlyIf_t hg)) rfl) ?_
 refine Zy (gv) _ (fun _ fr hg => x_load1 pl32 rfl ((fr.ev rfl).trans (onlyIf_t hg)) (B4.cell 8 rfl)) ?_
 refine Zy (gv) _ (fun _ fr _ => x_move rfl (fr.ev rfl)) ?_
 refine Zy (gv) _ (fun _ fr hg => x_eql rfl ((fr.ev rfl).trans (onlyIf_t hg)) ((fr.ev rfl).trans (onlyIf_t hg)) rfl) ?_
 refine Zv (.bool ((gv) && (decide (gx.num = m.line)))) (fun _ fr => x_pick_and rfl (fr.ev rfl) (fun hb => ((fr.ev rfl)).trans (onlyIf_t (by simp_all))) (fun _ => rfl) rfl) ?_
 refine Za ?_
 refine Znn ?_
 refine Zsq ?_
 refine Zsr ?_
 refine Zm ?_
 refine Znn ?_
 refine Zbl ?_
 refine Zsq ?_
 refine Zsr ?_
 refine Zv (.bool false) (fun _ fr => x_eql rfl (fr.ev rfl) rfl (decide_eq_false (by omega))) ?_
 refine Za ?_
 refine Znn ?_
 refine Zcf ?_
 refine Zsr ?_
 refine Zv (.bool false) (fun _ fr => x_eql rfl (fr.ev rfl) rfl (decide_eq_false (by omega))) ?_
 refine Za ?_
 refine Znn ?_
 refine Zcf ?_
 refine Zrg ?_
 refine Zv (.bool false) (fun _ fr => x_eql rfl (fr.ev rfl) rfl (decide_eq_false (by omega))) ?_
 refine Za ?_
 refine Znn ?_
 refine Zcf ?_
 refine Zsq ?_
 refine Zsr ?_
 refine Zv (.bool false) (fun _ fr => x_eql rfl (fr.ev rfl) rfl (decide_eq_false (by omega))) ?_
 refine Za ?_
 refine Znn ?_
 refine Zcf ?_
 refine Zrg ?_
 refine Zv (.bool false) (fun _ fr => x_eql rfl (fr.ev rfl) rfl (decide_eq_false (by omega))) ?_
 refine Za ?_
 refine Znn ?_
 refine Zcf ?_
 refine Zsr ?_
 refine Zv (.bool false) (fun _ fr => x_eql rfl (fr.ev rfl) rfl (decide_eq_false (by omega))) ?_
 refine Za ?_
 refine Znn ?_
 refine Zcf ?_
 refine Zsk ?_
 refine Zb ?_
 refine Znx ?_
 refine Zsq ?_
 refine Zsr ?_
 refine Zm ?_
 refine Zv _ (fun _ fr => x_not rfl (fr.ev rfl) rfl) ?_
 refine Znn ?_
 refine Zcd (fun hc22 => ?_) (fun hc22 => ?_)
 ·have hc22s := hc22
  try simp at hc22s
  refine Zsr ?_
  refine ZE rcE ag42 (B4.rangeE rcE) ?_
  replace B14 := ((B14.new hN17).new hN19).new hN21
  refine ZsS sz42 (rcE.all _) B14 (rcE.size _) (rcE.size _) fun w23 hO24 hBq => ?_
  replace B14 := hBq
  clear hBq
  refine Za ?_
  refine Za ?_
  refine Znn ?_
  refine Zrt ?_
  refine Zr1 ?_
  refine Zre rfl [_, _, _] ⟨⟨_, rfl, loadV_E (E := rcE) ag42 rfl (B14.rangeE rcE)⟩, rfl, rfl, trivial⟩ ?_
  have hmi : rMine (RD.mk id n ways L ak al aw gv gx) m = false := by have h9 := hc22; unfold rMine; simpa only [Bool.not_eq_true', Bool.not_eq_false'] using h9
  have hq : rTakeF (RD.mk id n ways L ak al aw gv gx) m = ((RD.mk id n ways L (ak) al (aw) (gv) gx), ([] : List Msg), 220) := by unfold rTakeF; rw [if_neg (show ¬ (chk m ≠ 0 ∨ m.dst ≠ id) by rintro (h | h); exact h hck; exact h hdn), if_neg (show ¬ (m.kind = 8 ∨ m.kind = 9 ∨ m.kind = 10) by omega), if_neg (show ¬ (m.kind = 4 ∨ m.kind = 5) by omega), if_neg (show ¬ m.kind = 6 by omega), if_neg (show ¬ rMine (RD.mk id n ways L ak al aw gv gx) m = true by rw [hmi]; decide)]
  replace hF := ((((hF.trNew hN13).trNew hN17).trNew hN19).trNew hN21).loc hO24 (.inr g_b11)
  replace hV := (hV.new hN21).only hO24 (Apart.ne1 ap_A_b11)
  exact ⟨_, rfl, refR_mk (r' := (RD.mk id n ways L (ak) al (aw) (gv) gx)) (A' := A) (cap' := cap) (B := none) (cB := 0) (l := ([] : List Msg)) hq hV View.nil (fun g hg => .inl hg) (fun g hg => absurd hg (apart_none g)) hF⟩
 ·have hc22s := hc22
  try simp at hc22s
  refine Zsk ?_
  refine Znx ?_
  refine Zsr ?_
  refine Zv (.agg (lnE.arr ln0)) (fun _ _ => x_build (cells := lnE.arr ln0) rfl (by kernel_rfl)) ?_
  refine Zf fo42_7 ?_
  refine Zs1 (cs' := rcE.arr (RC.mk id ((n : Nat) : Int) ways A L.length cap (ak) al (aw) false gx)) sz4 B4 (by rw [rcE.size]; decide) (rc_set7 _ _) fun w25 hO26 hBq => ?_
  replace B4 := hBq
  clear hBq
  refine Zf fo42_8 ?_
  intro a fr
  refine fx_storePart (E := rcE) (E2 := lnE) (q := 8) (m := (RC.mk id ((n : Nat) : Int) ways A L.length cap (ak) al (aw) false gx)) (m' := (RC.mk id ((n : Nat) : Int) ways A L.length cap (ak) al (aw) false ln0)) (z := ln0) sz39 rfl rfl rfl (fr.ev rfl) (fr.ev rfl) B4 (by decide) (rc_set8 _ _) fun w27 hO28 hBq => ?_
  revert a
  replace B4 := hBq
  clear hBq
  refine Znn ?_
  refine Zsr ?_
  refine ZE rcE ag42 (B4.rangeE rcE) ?_
  replace B14 := ((((B14.new hN17).new hN19).new hN21).only hO26 ne_b1_b11.symm).only hO28 ne_b1_b11.symm
  refine ZsS sz42 (rcE.all _) B14 (rcE.size _) (rcE.size _) fun w29 hO30 hBq => ?_
  replace B14 := hBq
  clear hBq
  refine Za ?_
  refine Za ?_
  refine Znn ?_
  refine Zrt ?_
  refine Zre rfl [_, _, _] ⟨⟨_, rfl, loadV_E (E := rcE) ag42 rfl (B14.rangeE rcE)⟩, rfl, rfl, trivial⟩ ?_
  have hmi : rMine (RD.mk id n ways L ak al aw gv gx) m = true := by have h9 := hc22; unfold rMine; simpa only [Bool.not_eq_true', Bool.not_eq_false'] using h9
  have hq : rTakeF (RD.mk id n ways L ak al aw gv gx) m = ((RD.mk id n ways L (ak) al (aw) false ln0), ([] : List Msg), 0) := by unfold rTakeF; rw [if_neg (show ¬ (chk m ≠ 0 ∨ m.dst ≠ id) by rintro (h | h); exact h hck; exact h hdn), if_neg (show ¬ (m.kind = 8 ∨ m.kind = 9 ∨ m.kind = 10) by omega), if_neg (show ¬ (m.kind = 4 ∨ m.kind = 5) by omega), if_neg (show ¬ m.kind = 6 by omega), if_pos hmi]
  replace hF := ((((((hF.trNew hN13).trNew hN17).trNew hN19).trNew hN21).loc hO26 (.inr g_b1)).loc hO28 (.inr g_b1)).loc hO30 (.inr g_b11)
  replace hV := (((hV.new hN21).only hO26 (Apart.ne1 ap_A_b1)).only hO28 (Apart.ne1 ap_A_b1)).only hO30 (Apart.ne1 ap_A_b11)
  exact ⟨_, rfl, refR_mk (r' := (RD.mk id n ways L (ak) al (aw) false ln0)) (A' := A) (cap' := cap) (B := none) (cB := 0) (l := ([] : List Msg)) hq hV View.nil (fun g hg => .inl hg) (fun g hg => absurd hg (apart_none g)) hF⟩
theorem rctake_c (m : Msg) {w : World} {id : Int} {n : Nat} {ways : Int} {A : Option Addr} {cap : Nat} {L : List Ln} {ak : Bool} {al : Int} {aw gv : Bool} {gx : Ln} (hV : View lnE w A cap L) (hn : 0 < n ∧ n ≤ 64) (hl : L.length ≤ 1000) (hid : 0 ≤ id ∧ id < 4) : Calls Try.prog 27 #[.agg (rcE.arr (RC.mk id ((n : Nat) : Int) ways A L.length cap ak al aw gv gx)), .agg (msgE.arr m)] w (Ret fun v w' => RefR w A (rTakeF (RD.mk id n ways L ak al aw gv gx) m) v w') := by
  by_cases h1 : chk m ≠ 0
  · exact rctake_a1 m hV hn hl h1
  by_cases h2 : m.dst ≠ id
  · exact rctake_a2 m hV hn hl h1 h2
  have hck : chk m = 0 := Decidable.not_not.1 h1
  have hdn : m.dst = id := Decidable.not_not.1 h2
  have hc := chk_kind hck (by rw [hdn]; omega)
  unfold cacheK at hc
  simp only [Bool.or_eq_true, decide_eq_true_eq] at hc
  rcases hc with (((((hk | hk) | hk) | hk) | hk) | hk) | hk
  · exact rctake_4 m hV hn hl hck hdn hk
  · exact rctake_5 m hV hn hl hck hdn hk
  · exact rctake_6 m hV hn hl hck hdn hk
  · exact rctake_7 m hV hn hl hck hdn hk
  · exact rctake_8 m hV hn hl hck hdn hk
  · exact rctake_9 m hV hn hl hck hdn hk
  · exact rctake_10 m hV hn hl hck hdn hk
end Go.Proofs.Ytflnlmibkbojcaa
namespace Go.Proofs.Ytflnlmibkbojcaa
open Go.RowKit
section
variable {n : Nat} {ways : Int} {L : List Ln} {num : Int} {x : Ln}
theorem get_append (A B : List Ln) (num : Int) : getN (A ++ B) num = (getN A num).or (getN B num) := by
  unfold getN
  exact List.find?_append
theorem get_ofs_other {i : Nat} (h : ¬ i = si n num) : getN (ofs n L i) num = none := by
  unfold getN
  rw [List.find?_eq_none]
  intro y hy e
  have h1 := (List.mem_filter.1 hy).2
  simp only [isNum, decide_eq_true_eq] at e
  simp only [inSet, decide_eq_true_eq] at h1
  rw [e] at h1
  exact h h1.symm
theorem get_allP (L : List Ln) (num : Int) : ∀ m, getN (allP n L m) num = if si n num < m then getN L num else none
  | 0 => by simp [allP, getN]
  | m + 1 => by
    rw [allP_succ, get_append, get_allP L num m]
    by_cases h1 : si n num < m
    · rw [if_pos h1, if_pos (by omega), get_ofs_other (by omega), Option.or_none]
    · by_cases h2 : m = si n num
      · subst h2
        rw [if_neg h1, if_pos (by omega), ofs_get]
        rfl
      · rw [if_neg h1, if_neg (by omega), get_ofs_other h2]
        rfl
theorem get_all (hn : 0 < n) (L : List Ln) (num : Int) : getN (allL n L) num = getN L num := by
  rw [← allP_end, get_allP, if_pos (si_lt hn)]
theorem state_all (hn : 0 < n) (L : List Ln) (num : Int) : stateOf (allL n L) num = stateOf L num := by
  unfold stateOf
  rw [get_all hn]
theorem ofs_all {i : Nat} (hi : i < n) (L : List Ln) : ofs n (allL n L) i = ofs n L i := by
  have := ofs_allP (n := n) L i n
  rw [if_pos hi] at this
  exact this
theorem all_drop (L : List Ln) (k : Int) : allL n (dropL L k) = dropL (allL n L) k := by
  unfold allL
  rw [show ofs n (dropL L k) = fun i => dropL (ofs n L i) k from funext fun i => ofs_drop L k]
  unfold dropL
  rw [List.filter_flatMap]
theorem fnd_get (L : List Ln) (num : Int) : (getN L num).isSome = decide (0 ≤ fndI L num) := by
  rcases fnd_spec L num with ⟨hf, hno⟩ | ⟨i, hf, hi, hin, hall⟩
  · rw [hf, fnd_none ⟨hf, hno⟩]; rfl
  · rw [hf, get_at hi hin hall]
    exact (decide_eq_true (by omega)).symm
theorem flat_congr {f g : Nat → List Ln} : ∀ {l : List Nat}, (∀ i ∈ l, f i = g i) → l.flatMap f = l.flatMap g
  | [], _ => rfl
  | a :: r, h => by
    rw [List.flatMap_cons, List.flatMap_cons, h a (by simp), flat_congr fun i hi => h i (by simp [hi])]
def rep1 (x l : Ln) : Ln := if l.num = x.num then x else l
theorem rep1_num (x l : Ln) : (rep1 x l).num = l.num := by
  unfold rep1
  split
  · rename_i h; exact h.symm
  · rfl
theorem wl_there (M : List Ln) : ∀ p, wl n x true M p = M.map (rep1 x) := by
  induction M with
  | nil => intro p; rfl
  | cons l r ih =>
    intro p
    simp only [wl, Bool.not_true, Bool.false_and, Bool.or_false, List.map_cons, ih]
    rfl
theorem repl_map : ∀ {L : List Ln}, Uniq L → repl x L = L.map (rep1 x)
  | [], _ => rfl
  | l :: r, hu => by
    have hu' := List.pairwise_cons.1 hu
    by_cases h : l.num = x.num
    · simp only [repl, if_pos h, List.map_cons, rep1]
      congr 1
      symm
      have : r.map (rep1 x) = r.map (fun y => y) := List.map_congr_left fun y hy => by
        unfold rep1
        rw [if_neg (fun e => hu'.1 y hy (h.trans e.symm))]
      exact this.trans (List.map_id' r)
    · simp only [repl, if_neg h, List.map_cons, rep1]
      congr 1
      exact repl_map hu'.2
theorem ofs_map (L : List Ln) (i : Nat) : ofs n (L.map (rep1 x)) i = (ofs n L i).map (rep1 x) := by
  unfold ofs
  rw [List.filter_map]
  congr 1
  apply List.filter_congr
  intro y _
  show inSet n i (rep1 x y) = inSet n i y
  unfold inSet
  rw [rep1_num]
theorem all_map (L : List Ln) : allL n (L.map (rep1 x)) = (allL n L).map (rep1 x) := by
  unfold allL
  rw [show ofs n (L.map (rep1 x)) = fun i => (ofs n L i).map (rep1 x) from funext fun i => ofs_map L i, List.map_flatMap]
theorem wl_low : ∀ (A B : List Ln), (∀ y ∈ A, ¬ y.num = x.num ∧ si n y.num ≤ si n x.num) → wl n x false (A ++ B) false = A ++ wl n x false B false
  | [], _, _ => rfl
  | y :: r, B, h => by
    have hy := h y (by simp)
    rw [List.cons_append]
    simp only [wl, Bool.not_false, Bool.true_and, decide_eq_false (show ¬ si n x.num < si n y.num by omega), Bool.or_false, Bool.false_eq_true, if_false, if_neg hy.1, List.nil_append]
    rw [wl_low r B fun z hz => h z (by simp [hz])]
    rfl
theorem wl_done : ∀ (B : List Ln), (∀ y ∈ B, ¬ y.num = x.num) → wl n x false B true = B
  | [], _ => rfl
  | y :: r, h => by
    simp only [wl, Bool.not_true, Bool.false_and, Bool.and_false, Bool.or_false, Bool.false_eq_true, if_false, if_neg (h y (by simp)), List.nil_append]
    rw [wl_done r fun z hz => h z (by simp [hz])]
theorem wl_high (B : List Ln) (h : ∀ y ∈ B, ¬ y.num = x.num ∧ si n x.num < si n y.num) : wl n x false B false = x :: B := by
  cases B with
  | nil => rfl
  | cons y r =>
    have hy := h y (by simp)
    simp only [wl, Bool.not_false, Bool.true_and, decide_eq_true hy.2, Bool.or_true, if_true, if_neg hy.1]
    rw [wl_done r fun z hz => (h z (by simp [hz])).1]
    rfl
theorem all_split (L : List Ln) {q : Nat} (hq : q < n) : allL n L = allP n L (q + 1) ++ ((List.range (n - (q + 1))).map (q + 1 + ·)).flatMap (ofs n L) := by
  unfold allL allP
  rw [← List.flatMap_append, ← List.range_add]
  congr 1
  congr 1
  omega
theorem mem_allP {y : Ln} {m : Nat} (h : y ∈ allP n L m) : y ∈ L ∧ si n y.num < m := by
  obtain ⟨i, hi, hy⟩ := List.mem_flatMap.1 h
  have h1 := List.mem_filter.1 hy
  have h2 : si n y.num = i := by simpa [inSet] using h1.2
  exact ⟨h1.1, by rw [h2]; exact List.mem_range.1 hi⟩
theorem mem_rest {y : Ln} {q k : Nat} (h : y ∈ ((List.range k).map (q + 1 + ·)).flatMap (ofs n L)) : y ∈ L ∧ q < si n y.num := by
  obtain ⟨i, hi, hy⟩ := List.mem_flatMap.1 h
  obtain ⟨j, _, rfl⟩ := List.mem_map.1 hi
  have h1 := List.mem_filter.1 hy
  have h2 : si n y.num = q + 1 + j := by simpa [inSet] using h1.2
  exact ⟨h1.1, by omega⟩
theorem allP_snoc (L : List Ln) (x : Ln) : ∀ m, m ≤ si n x.num → allP n (L ++ [x]) m = allP n L m
  | 0, _ => rfl
  | m + 1, h => by rw [allP_succ, allP_succ, allP_snoc L x m (by omega), ofs_snoc_other _ _ (by omega)]
theorem wl_new (hn : 0 < n) (h : getN L x.num = none) : wl n x false (allL n L) false = allL n (L ++ [x]) := by
  have hq := si_lt (num := x.num) hn
  have hno := get_none h
  rw [all_split L hq, all_split (L ++ [x]) hq, wl_low _ _ fun y hy => ⟨hno y (mem_allP hy).1, by have := (mem_allP hy).2; omega⟩, wl_high _ fun y hy => ⟨hno y (mem_rest hy).1, (mem_rest hy).2⟩, allP_succ, allP_succ, allP_snoc L x _ (Nat.le_refl _), ofs_snoc_same]
  have e : ((List.range (n - (si n x.num + 1))).map (si n x.num + 1 + ·)).flatMap (ofs n (L ++ [x])) = ((List.range (n - (si n x.num + 1))).map (si n x.num + 1 + ·)).flatMap (ofs n L) := by
    apply flat_congr
    intro i hi
    obtain ⟨j, _, rfl⟩ := List.mem_map.1 hi
    exact ofs_snoc_other _ _ (by omega)
  rw [e]
  simp
theorem with_put (hn : 0 < n) (hu : Uniq L) (he : putE n ways L x = 0) : withF n (allL n L) x = allL n (putL n ways L x) := by
  unfold withF
  rw [← fnd_get, get_all hn]
  unfold putL
  rw [if_pos he]
  cases hg : getN L x.num with
  | none =>
    rw [if_pos rfl]
    exact wl_new hn hg
  | some y =>
    rw [if_neg (by simp), repl_map hu, all_map]
    exact wl_there _ _
end
def StOk (L : List Ln) : Prop := ∀ x ∈ L, 1 ≤ x.state ∧ x.state ≤ 3
section
variable {n : Nat} {ways : Int} {L : List Ln} {x : Ln}
theorem StOk.nil : StOk [] := fun x h => by cases h
theorem StOk.drop (h : StOk L) (k : Int) : StOk (dropL L k) := fun x hx => h x (List.mem_filter.1 hx).1
theorem StOk.putL (h : StOk L) (x : Ln) : StOk (putL n ways L x) := by
  unfold Go.Proofs.Ytflnlmibkbojcaa.putL
  split
  · rename_i he
    have hx : 1 ≤ x.state ∧ x.state ≤ 3 := by
      unfold putE at he
      split at he
      · omega
      · rename_i h2
        simp [okS] at h2
        omega
    split
    · intro y hy
      rcases List.mem_append.1 hy with hy | hy
      · exact h y hy
      · rw [List.mem_singleton] at hy
        subst hy
        exact hx
    · intro y hy
      rcases mem_repl hy with hy | rfl
      · exact h y hy
      · exact hx
  · exact h
theorem st_of (h : StOk L) (num : Int) : stateOf L num = 0 ∧ getN L num = none ∨ (1 ≤ stateOf L num ∧ stateOf L num ≤ 3) ∧ ∃ y, getN L num = some y ∧ stateOf L num = y.state := by
  unfold stateOf
  cases hg : getN L num with
  | none => exact .inl ⟨rfl, rfl⟩
  | some y => exact .inr ⟨h y (mem_of_get hg), y, rfl, rfl⟩
theorem writes_iff (h : StOk L) (num : Int) : (writesB (stateOf L num) = true) ↔ ¬ stateOf L num < 2 := by
  have := st_of h num
  simp only [writesB, Bool.or_eq_true, decide_eq_true_eq]
  omega
theorem writes_not (h : StOk L) (num : Int) : (writesB (stateOf L num) = false) ↔ stateOf L num < 2 := by
  have := writes_iff h num
  cases hw : writesB (stateOf L num) <;> simp [hw] at this <;> simp <;> omega
end
structure DOk (d : CD) : Prop where
  id : 0 ≤ d.id ∧ d.id < 4
  bd : 0 < d.n ∧ d.n ≤ 64 ∧ 1 ≤ d.ways ∧ d.ways ≤ 8
  uniq : Uniq d.L
  fits : Fits d.n d.ways d.L
  room : RoomOk d
  st : StOk d.L
def rdOf (d : CD) : RD := ⟨d.id, d.n, d.ways, allL d.n d.L, d.ask.isSome, (d.ask.getD (0, false)).1, (d.ask.getD (0, false)).2, d.giv.isSome, d.giv.getD ln0⟩
end Go.Proofs.Ytflnlmibkbojcaa
namespace Go.Proofs.Ytflnlmibkbojcaa
open Go.RowKit
section
variable {d : CD}
theorem out_eq (d : CD) (x : Ln) : rOutF (rdOf d) x = (rdOf (outF d x).1, (outF d x).2.1, (outF d x).2.2) := by
  unfold rOutF outF
  by_cases h : x.state = 1
  · simp only [h, true_or, if_true, decide_true, Bool.true_or, rdOf, all_drop]
  · cases hg : d.giv with
    | none => simp [h, rdOf, hg, all_drop]
    | some y => simp [h, rdOf, hg]
theorem evict_eq (h : DOk d) (pick : Int) : rEvictF (rdOf d) pick = (rdOf (evictF d pick).1, (evictF d pick).2) := by
  have hl := allL_len h.bd.1 d.L
  unfold rEvictF evictF
  by_cases h0 : d.L = []
  · have h1 : (rdOf d).M = [] := by
      show allL d.n d.L = []
      rw [h0] at hl ⊢
      exact List.length_eq_zero_iff.1 hl
    rw [if_pos h0, if_pos h1]
  · have h1 : ¬ (rdOf d).M = [] := by
      intro h2
      have h2 : allL d.n d.L = [] := h2
      rw [h2] at hl
      exact h0 (List.length_eq_zero_iff.1 hl.symm)
    rw [if_neg h0, if_neg h1]
    show ((rOutF (rdOf d) ((allL d.n d.L).getD (pickAt pick (allL d.n d.L).length) ln0)).1, (rOutF (rdOf d) ((allL d.n d.L).getD (pickAt pick (allL d.n d.L).length) ln0)).2.1) = _
    rw [hl, out_eq]
theorem read_eq (h : DOk d) (addr width : Int) : readF (allL d.n d.L) addr width = readF d.L addr width := by
  unfold readF
  rw [get_all h.bd.1]
theorem put_eq (h : DOk d) (addr width v : Int) : rPutF (rdOf d) addr width v = (rdOf (writeF d addr width v).1, (writeF d addr width v).2) := by
  unfold rPutF writeF
  by_cases h1 : rightA addr width = false
  · rw [if_pos h1, if_pos h1]
  rw [if_neg h1, if_neg h1]
  rw [show stateOf (rdOf d).M (addr / 16) = stateOf d.L (addr / 16) from state_all h.bd.1 _ _]
  by_cases h2 : stateOf d.L (addr / 16) < 2
  · rw [if_pos h2, if_pos ((writes_not h.st _).2 h2)]
  · have hw := (writes_iff h.st (addr / 16)).2 h2
    rw [if_neg h2, if_neg (by rw [hw]; decide)]
    rw [show getN (rdOf d).M (addr / 16) = getN d.L (addr / 16) from get_all h.bd.1 _ _]
    show (({ rdOf d with M := withF d.n (allL d.n d.L) _ } : RD), (0 : Int)) = _
    rw [with_put (ways := d.ways) h.bd.1 h.uniq (put_there hw (wrLn ((getN d.L (addr / 16)).getD ln0) addr width v) rfl rfl)]
    rfl
theorem ask_eq (h : DOk d) (line : Int) (hl : 0 ≤ line ∧ line < 4294967296) (wr : Bool) (pick : Int) : rAskF (rdOf d) line hl wr pick = (rdOf (askF d line hl wr pick).1, (askF d line hl wr pick).2.1, (askF d line hl wr pick).2.2) := by
  have hs := st_of h.st line
  have hst : stateOf (rdOf d).M line = stateOf d.L line := state_all h.bd.1 _ _
  have hof : ofs (rdOf d).n (rdOf d).M (si (rdOf d).n line) = ofs d.n d.L (si d.n line) := ofs_all (si_lt h.bd.1) _
  have hb : (rBusy (rdOf d) line = true) ↔ (d.ask.isSome = true ∨ mine d.giv line = true) := by
    unfold rBusy mine rdOf
    cases d.giv <;> simp
  have ht : (rThere (rdOf d) line wr = true) ↔ (stateOf d.L line ≠ 0 ∧ (wr = false ∨ writesB (stateOf d.L line) = true)) := by
    have hw := writes_iff h.st line
    unfold rThere
    rw [hst]
    simp only [Bool.and_eq_true, Bool.or_eq_true, decide_eq_true_eq, Bool.not_eq_true', hw]
    constructor
    · rintro ⟨h1, h2⟩
      exact ⟨by omega, h2.imp id (by omega)⟩
    · rintro ⟨h1, h2⟩
      exact ⟨by omega, h2.imp id (by omega)⟩
  unfold rAskF askF
  by_cases c1 : d.ask.isSome = true ∨ mine d.giv line = true
  · rw [if_pos c1, if_pos (hb.2 c1)]
  rw [if_neg c1, if_neg (fun h => c1 (hb.1 h))]
  by_cases c2 : stateOf d.L line ≠ 0 ∧ (wr = false ∨ writesB (stateOf d.L line) = true)
  · rw [if_pos c2, if_pos (ht.2 c2)]
  rw [if_neg c2, if_neg (fun h => c2 (ht.1 h))]
  have hfit := h.fits _ (si_lt (num := line) h.bd.1)
  have hf : (rFull (rdOf d) line = true) ↔ (getN d.L line = none ∧ d.ways ≤ ((ofs d.n d.L (si d.n line)).length : Int)) := by
    unfold rFull
    rw [hst, hof]
    simp only [Bool.and_eq_true, decide_eq_true_eq]
    show (_ ∧ _ = d.ways) ↔ _
    constructor
    · rintro ⟨h1, h2⟩
      exact ⟨by rcases hs with h | h; exact h.2; omega, by omega⟩
    · rintro ⟨h1, h2⟩
      refine ⟨?_, by omega⟩
      rcases hs with h | ⟨_, y, hy, _⟩
      · exact h.1
      · rw [hy] at h1; cases h1
  have hv : rVic (rdOf d) line pick = (ofs d.n d.L (si d.n line)).getD (pickAt pick (ofs d.n d.L (si d.n line)).length) ln0 := by
    unfold rVic
    rw [hof]
  unfold vicL
  by_cases c3 : getN d.L line = none ∧ d.ways ≤ ((ofs d.n d.L (si d.n line)).length : Int)
  · rw [if_pos c3, if_pos (hf.2 c3), hv, out_eq]
    dsimp only
    split
    · rfl
    · rfl
  · rw [if_neg c3, if_neg (fun h => c3 (hf.1 h))]
    rfl
theorem take_eq (h : DOk d) (m : Msg) : rTakeF (rdOf d) m = (rdOf (takeF d m).1, (takeF d m).2.1, (takeF d m).2.2) := by
  have hst : stateOf (rdOf d).M m.line = stateOf d.L m.line := state_all h.bd.1 _ _
  have hg : getN (rdOf d).M m.line = getN d.L m.line := get_all h.bd.1 _ _
  have hd : rDataOk (rdOf d) m = dataOk d m := by
    unfold rDataOk dataOk rdOf
    cases d.ask with
    | none => rfl
    | some p => obtain ⟨l, w⟩ := p; simp
  have hm : rMine (rdOf d) m = mine d.giv m.line := by
    unfold rMine mine rdOf
    cases d.giv <;> simp
  have hw := writes_iff h.st m.line
  have hw' := writes_not h.st m.line
  have hback : ∀ (hmi : ¬ mine d.giv m.line = true) (k4 : m.kind = 4 ∨ m.kind = 5), (if stateOf d.L m.line < 2 then (rdOf d, [], 220)
      else ({ rdOf d with M := if m.kind = 5 then dropL (rdOf d).M m.line else withF (rdOf d).n (rdOf d).M { (getN d.L m.line).getD ln0 with state := 1 } }, [mkM 11 d.id 4 m.line ((getN d.L m.line).getD ln0).bs m.hn], 0)) = (rdOf (takeF.backF d m).1, (takeF.backF d m).2.1, (takeF.backF d m).2.2) := by
    intro _ k4
    unfold takeF.backF
    by_cases c : stateOf d.L m.line < 2
    · rw [if_pos c, if_neg (by rw [hw'.2 c]; decide)]
    · have hwt := hw.2 c
      rw [if_neg c, if_pos hwt]
      obtain ⟨y, hy, hyd⟩ := w_there (show writesB ((getN d.L m.line).getD ln0).state = true from hwt)
      have hyn := get_num hy
      rw [hyd]
      by_cases k : m.kind = 5
      · rw [if_pos k, if_neg (show ¬ m.kind = 4 by omega), hyn]
        show (({ rdOf d with M := dropL (allL d.n d.L) m.line } : RD), _, _) = _
        rw [← all_drop]
        rfl
      · rw [if_neg k, if_pos (show m.kind = 4 by omega)]
        have hp : putE d.n d.ways d.L { y with state := 1 } = 0 := by
          unfold putE
          rw [if_neg (by simp [okS]), if_neg (fun hh => by rw [show ({ y with state := 1 } : Ln).num = m.line from hyn, hy] at hh; cases hh.1)]
        show (({ rdOf d with M := withF d.n (allL d.n d.L) { y with state := 1 } } : RD), _, _) = _
        rw [with_put (ways := d.ways) h.bd.1 h.uniq hp]
        rfl
  unfold rTakeF takeF
  by_cases c1 : chk m ≠ 0 ∨ m.dst ≠ d.id
  · rw [if_pos c1, if_pos (show chk m ≠ 0 ∨ m.dst ≠ (rdOf d).id from c1)]
  rw [if_neg c1, if_neg (show ¬ (chk m ≠ 0 ∨ m.dst ≠ (rdOf d).id) from c1)]
  by_cases c2 : m.kind = 8 ∨ m.kind = 9 ∨ m.kind = 10
  · rw [if_pos c2, if_pos c2, hd]
    by_cases c3 : dataOk d m = true
    · have hp := data_room h.room m c3
      rw [if_pos c3, if_pos ⟨c3, hp⟩]
      show (({ rdOf d with M := withF d.n (allL d.n d.L) (dataLn m), ak := false, al := 0, aw := false } : RD), _, _) = _
      rw [with_put (ways := d.ways) h.bd.1 h.uniq hp]
      rfl
    · rw [if_neg c3, if_neg (fun h => c3 h.1)]
  rw [if_neg c2, if_neg c2]
  by_cases c3 : m.kind = 4 ∨ m.kind = 5
  · rw [if_pos c3, if_pos c3, hm, hst, hg]
    cases hgv : d.giv with
    | none =>
      rw [if_neg (by simp [mine])]
      exact hback (by simp [hgv, mine]) c3
    | some x =>
      by_cases hx : x.num = m.line
      · rw [if_pos (by simp [mine, hx])]
        dsimp only
        rw [if_pos hx]
        simp [rdOf, hgv]
      · rw [if_neg (by simp [mine, hx])]
        dsimp only
        rw [if_neg hx]
        exact hback (by simp [hgv, mine, hx]) c3
  rw [if_neg c3, if_neg c3]
  by_cases c4 : m.kind = 6
  · rw [if_pos c4, if_pos c4, hst]
    by_cases c5 : 2 ≤ stateOf d.L m.line
    · rw [if_pos c5, if_pos (hw.2 (by omega))]
    · rw [if_neg c5, if_neg (by rw [hw'.2 (by omega)]; decide)]
      show (({ rdOf d with M := dropL (allL d.n d.L) m.line } : RD), _, _) = _
      rw [← all_drop]
      rfl
  rw [if_neg c4, if_neg c4, hm]
  by_cases c5 : mine d.giv m.line = true
  · rw [if_pos c5, if_pos c5]
    rfl
  · rw [if_neg c5, if_neg c5]
end
section
variable {d : CD}
theorem DOk.new {id : Int} {n : Nat} {ways : Int} (hid : 0 ≤ id ∧ id < 4) (hb : 0 < n ∧ n ≤ 64 ∧ 1 ≤ ways ∧ ways ≤ 8) : DOk ⟨id, n, ways, [], none, none⟩ := ⟨hid, hb, List.Pairwise.nil, Fits.nil (by show 0 ≤ ways; omega), new_room id n ways, StOk.nil⟩
theorem DOk.drop (h : DOk d) (k : Int) (g : Option Ln) : DOk { d with L := dropL d.L k, giv := g } := ⟨h.id, h.bd, h.uniq.drop k, h.fits.drop k, RoomOk.drop h.fits h.room h.bd k g, h.st.drop k⟩
theorem DOk.out (h : DOk d) (x : Ln) : DOk (outF d x).1 := by
  unfold outF
  split
  · exact h.drop x.num d.giv
  · split
    · exact h
    · exact h.drop x.num (some x)
theorem DOk.evict (h : DOk d) (pick : Int) : DOk (evictF d pick).1 := by
  unfold evictF
  split
  · exact h
  · exact h.out _
theorem DOk.write (h : DOk d) (addr width v : Int) : DOk (writeF d addr width v).1 := by
  have hr := write_room h.room addr width v
  revert hr
  unfold writeF
  split
  · exact fun _ => h
  · split
    · exact fun _ => h
    · exact fun hr => ⟨h.id, h.bd, h.uniq.putL, h.fits.putL _, hr, h.st.putL _⟩
theorem DOk.ask (h : DOk d) (line : Int) (hl : 0 ≤ line ∧ line < 4294967296) (wr : Bool) (pick : Int) : DOk (askF d line hl wr pick).1 := by
  have hr := ask_room h.bd h.fits h.room line hl wr pick
  revert hr
  unfold askF
  split
  · exact fun _ => h
  · split
    · exact fun _ => h
    · split
      · exact fun hr => ⟨h.id, h.bd, h.uniq, h.fits, hr, h.st⟩
      · split
        · intro hr
          have ho := h.out ‹Ln›
          exact ⟨ho.id, ho.bd, ho.uniq, ho.fits, hr, ho.st⟩
        · exact fun _ => h
theorem DOk.back (h : DOk d) (m : Msg) : DOk (takeF.backF d m).1 := by
  have hr := back_room h.bd h.fits h.room m
  revert hr
  unfold takeF.backF
  split
  · by_cases k : m.kind = 4
    · simp only [k, if_true]
      exact fun hr => ⟨h.id, h.bd, h.uniq.putL, h.fits.putL _, hr, h.st.putL _⟩
    · simp only [if_neg k]
      exact fun _ => h.drop _ d.giv
  · exact fun _ => h
theorem DOk.take (h : DOk d) (m : Msg) : DOk (takeF d m).1 := by
  have hr := take_room h.bd h.fits h.room m
  revert hr
  unfold takeF
  split
  · exact fun _ => h
  split
  · split
    · exact fun hr => ⟨h.id, h.bd, h.uniq.putL, h.fits.putL _, hr, h.st.putL _⟩
    · exact fun _ => h
  split
  · split
    · split
      · exact fun _ => h
      · exact fun _ => h.back m
    · exact fun _ => h.back m
  split
  · split
    · exact fun _ => h
    · exact fun _ => h.drop m.line d.giv
  split
  · exact fun hr => ⟨h.id, h.bd, h.uniq, h.fits, hr, h.st⟩
  · exact fun _ => h
end
end Go.Proofs.Ytflnlmibkbojcaa
namespace Go.Proofs.Ytflnlmibkbojcaa
open Go.RowKit
def CacAt (w : World) (Fp : Nat → Prop) (b : Nat) (d : CD) : Prop := CacheAt w Fp b d ∧ DOk d
section
variable {w w' : World} {Fp T : Nat → Prop} {b D : Nat} {d : CD} {ask : Option (Int × Bool)} {giv : Option Ln} {p : Value}
theorem CacheAt.cells (h : CacheAt w Fp b d) {g : Nat} (hg : Fp g) : ∃ o : Obj, w.heap[g]? = some o ∧ o.isCells = true := by
  obtain ⟨lb, FpL, pa, pg, FpA, FpG, hB, hL, hA, hG, hP⟩ := h
  rcases (hP.foot g).1 hg with rfl | hg | hg | hg
  · exact hB.cells
  · exact hL.cells hg
  · exact hA.cells hg
  · exact hG.cells hg
theorem CacAt.only (h : CacAt w Fp b d) (k : Only T w w') (hs : ∀ g, Fp g → ¬ T g) : CacAt w' Fp b d := ⟨h.1.only k hs, h.2⟩
theorem CacAt.new (h : CacAt w Fp b d) (k : New w w') : CacAt w' Fp b d := ⟨h.1.new k, h.2⟩
theorem CacAt.lt (h : CacAt w Fp b d) {g : Nat} (hg : Fp g) : g < w.heap.size := h.1.lt hg
theorem CacAt.apart (h : CacAt w Fp b d) {c : Nat} (hc : w.heap.size ≤ c) : ¬ Fp c := h.1.apart hc
theorem CacAt.turn {B : Nat} (h : CacAt w Fp b d) (k : Turn B w w') : CacAt w' Fp b d := ⟨h.1.turn k, h.2⟩
theorem CacAt.cells (h : CacAt w Fp b d) {g : Nat} (hg : Fp g) : ∃ o : Obj, w.heap[g]? = some o ∧ o.isCells = true := h.1.cells hg
theorem CacAt.mark (h : CacAt w Fp b d) (k : MarkAt w D) : ¬ Fp D := fun hi => by
  obtain ⟨o, ho, hc⟩ := h.cells hi
  rw [show w.heap[D]? = _ from k] at ho
  cases ho
  cases hc
end
theorem own_tag {P : Program} {α : Type} [DecidableEq α] {E : Enc P α} {w : World} {A : Option Addr} {cap : Nat} {l : List α} (h : Own E w A cap l) {g : Nat} (hg : inA A g) : ∃ cs, Blk w g E.T cs := by
  obtain ⟨o, rfl⟩ := hg
  obtain ⟨_, _, ⟨h3, _⟩ | ⟨g', o', cs, h3, hB, _⟩⟩ := h
  · cases h3
  · simp only [Option.some.injEq, Addr.mk.injEq] at h3
    rw [h3.1]
    exact ⟨cs, hB⟩
theorem CacheAt.tag {w : World} {Fp : Nat → Prop} {b : Nat} {d : CD} (h : CacheAt w Fp b d) {g : Nat} (hg : Fp g) : ∃ t cs, t ≠ 35 ∧ Blk w g t cs := by
  obtain ⟨lb, FpL, pa, pg, FpA, FpG, hB, hL, hA, hG, hP⟩ := h
  rcases (hP.foot g).1 hg with rfl | hg | hg | hg
  · exact ⟨_, _, by decide, hB⟩
  · obtain ⟨S, FpR, rs, h1, h2, h3, h4⟩ := hL
    rcases (h4.foot g).1 hg with rfl | rfl | hg
    · exact ⟨_, _, by decide, h1⟩
    · exact ⟨_, _, by decide, h2⟩
    · obtain ⟨i, hi, hi2⟩ := (h3.foot g).1 hg
      obtain ⟨cs, hc⟩ := own_tag (h3.own hi) hi2
      exact ⟨_, cs, by decide, hc⟩
  · rcases ha : d.ask with _ | ⟨l, wr⟩
    · rw [ha] at hA
      exact absurd hg (hA.2 g)
    · rw [ha] at hA
      obtain ⟨ba, h1, h2, h3, h4⟩ := hA
      rw [(h3 g).1 hg]
      exact ⟨_, _, by decide, h2⟩
  · rcases ha : d.giv with _ | x
    · rw [ha] at hG
      exact absurd hg (hG.2 g)
    · rw [ha] at hG
      obtain ⟨bg, h1, h2, h3⟩ := hG
      rw [(h3 g).1 hg]
      exact ⟨_, _, by decide, h2⟩
theorem CacAt.msg_ap {w : World} {Fp : Nat → Prop} {b : Nat} {d : CD} (h : CacAt w Fp b d) {A : Option Addr} {cap : Nat} {l : List Msg} (hO : Own msgE w A cap l) : ∀ k, Fp k → inA A k → False := fun k h1 h2 => by
  obtain ⟨t, cs, ht, hB⟩ := h.1.tag h1
  obtain ⟨cs2, hB2⟩ := own_tag hO h2
  have := hB.symm.trans hB2
  simp only [Option.some.injEq, Obj.cells.injEq] at this
  exact ht this.2.1
def TakeU (w : World) (Fp : Nat → Prop) (b : Nat) (r : CD × List Msg × Int) (v : Value) (w' : World) : Prop :=
  ∃ A' cap', v = .tuple #[.slice A' r.2.1.length cap', .int .i64 r.2.2] ∧ Own msgE w' A' cap' r.2.1 ∧ (∀ g, inA A' g → w.heap.size ≤ g) ∧ ∃ Fp', CacAt w' Fp' b r.1 ∧ Only Fp w w' ∧ ∀ g, Fp' g → Fp g ∨ w.heap.size ≤ g
section
variable {w : World} {Fp : Nat → Prop} {b : Nat} {d : CD}
theorem u_ask (H : CacAt w Fp b d) (line : Int) (hln : 0 ≤ line ∧ line < 4294967296) (wr : Bool) (pick : Int) : Calls Try.prog 13 #[.pointer (some ⟨b, 0, none⟩), .int .u32 line, .bool wr, .int .i64 pick] w (Ret fun v w' => TakeU w Fp b (askF d line hln wr pick) v w') := by
  obtain ⟨id, n, ways, L, ask, giv⟩ := d
  refine (ask_c H.1 line hln pick wr).mono ?_
  rintro e w' ⟨v, rfl, A', cap', h1, h2, h3, Fp', h4, h5, h6⟩
  exact ⟨_, rfl, A', cap', h1, h2, h3, Fp', ⟨h4, H.2.ask line hln wr pick⟩, h5, h6⟩
theorem u_take (H : CacAt w Fp b d) (m : Msg) : Calls Try.prog 14 #[.pointer (some ⟨b, 0, none⟩), .agg (msgE.arr m)] w (Ret fun v w' => TakeU w Fp b (takeF d m) v w') := by
  obtain ⟨id, n, ways, L, ask, giv⟩ := d
  refine (take_c H.1 m H.2.id (fun h => data_room H.2.room m h)).mono ?_
  rintro e w' ⟨v, rfl, A', cap', h1, h2, h3, Fp', h4, h5, h6⟩
  exact ⟨_, rfl, A', cap', h1, h2, h3, Fp', ⟨h4, H.2.take m⟩, h5, h6⟩
def EvictU (w : World) (Fp : Nat → Prop) (b : Nat) (r : CD × List Msg) (v : Value) (w' : World) : Prop :=
  ∃ A' cap', v = .slice A' r.2.length cap' ∧ Own msgE w' A' cap' r.2 ∧ (∀ g, inA A' g → w.heap.size ≤ g) ∧ ∃ Fp', CacAt w' Fp' b r.1 ∧ Only Fp w w' ∧ ∀ g, Fp' g → Fp g ∨ w.heap.size ≤ g
theorem u_evict (H : CacAt w Fp b d) (pick : Int) : Calls Try.prog 25 #[.pointer (some ⟨b, 0, none⟩), .int .i64 pick] w (Ret fun v w' => EvictU w Fp b (evictF d pick) v w') := by
  obtain ⟨id, n, ways, L, ask, giv⟩ := d
  refine (evict_c H.1 pick).mono ?_
  rintro e w' ⟨v, rfl, A', cap', h1, h2, h3, Fp', h4, h5, h6⟩
  exact ⟨_, rfl, A', cap', h1, h2, h3, Fp', ⟨h4, H.2.evict pick⟩, h5, h6⟩
def WriteU (w : World) (Fp : Nat → Prop) (b : Nat) (r : CD × Int) (v : Value) (w' : World) : Prop :=
  v = .int .i64 r.2 ∧ ∃ Fp', CacAt w' Fp' b r.1 ∧ Only Fp w w' ∧ ∀ g, Fp' g → Fp g ∨ w.heap.size ≤ g
theorem u_write (H : CacAt w Fp b d) (addr : Int) (ha : 0 ≤ addr ∧ addr < 4294967296) (width value : Int) : Calls Try.prog 15 #[.pointer (some ⟨b, 0, none⟩), .int .u32 addr, .int .i64 width, .int .u32 value] w (Ret fun v w' => WriteU w Fp b (writeF d addr width value) v w') := by
  obtain ⟨id, n, ways, L, ask, giv⟩ := d
  refine (write_c addr ha width H.1 value).mono ?_
  rintro e w' ⟨v, rfl, h1, Fp', h4, h5, h6⟩
  exact ⟨_, rfl, h1, Fp', ⟨h4, H.2.write addr width value⟩, h5, h6⟩
theorem u_read (H : CacAt w Fp b d) (addr : Int) (ha : 0 ≤ addr ∧ addr < 4294967296) (width : Int) : Calls Try.prog 17 #[.pointer (some ⟨b, 0, none⟩), .int .u32 addr, .int .i64 width] w (Ret fun v w' => v = .tuple #[.int .u32 (readF d.L addr width).1, .int .i64 (readF d.L addr width).2] ∧ New w w') := by
  obtain ⟨lb, FpL, pa, pg, FpA, FpG, hB, hL, hA, hG, hP⟩ := H.1
  exact read_c addr ha width hB hL hP.lb
theorem u_state (H : CacAt w Fp b d) (line : Int) (hln : 0 ≤ line ∧ line < 4294967296) : Calls Try.prog 34 #[.pointer (some ⟨b, 0, none⟩), .int .u32 line] w (Ret fun v w' => v = .int .i64 (stateOf d.L line) ∧ New w w') := by
  obtain ⟨lb, FpL, pa, pg, FpA, FpG, hB, hL, hA, hG, hP⟩ := H.1
  exact state_c line hln hB hL hP.lb
theorem u_len (H : DOk d) : d.L.length ≤ 512 ∧ (allL d.n d.L).length ≤ 512 := by
  have h1 := len_most H.bd H.fits
  have h2 := allL_len H.bd.1 d.L
  omega
theorem u_lines (H : CacAt w Fp b d) : Calls Try.prog 30 #[.pointer (some ⟨b, 0, none⟩)] w (Ret fun v w' => ∃ A' cap', v = .slice A' (allL d.n d.L).length cap' ∧ Own lnE w' A' cap' (allL d.n d.L) ∧ (∀ g, inA A' g → w.heap.size ≤ g) ∧ New w w') := by
  have hl := u_len H.2
  obtain ⟨lb, FpL, pa, pg, FpA, FpG, hB, hL, hA, hG, hP⟩ := H.1
  exact clines_c hB hL hP.lb (by omega)
theorem u_asked (H : CacAt w Fp b d) : Calls Try.prog 32 #[.pointer (some ⟨b, 0, none⟩)] w (Ret fun v w' => v = .tuple #[.int .u32 (d.ask.getD (0, false)).1, .bool (d.ask.getD (0, false)).2, .bool d.ask.isSome] ∧ New w w') := by
  obtain ⟨id, n, ways, L, ask, giv⟩ := d
  rcases ask with _ | ⟨al, aw⟩
  · exact asked_none H.1
  · exact asked_some H.1
theorem u_given (H : CacAt w Fp b d) : Calls Try.prog 33 #[.pointer (some ⟨b, 0, none⟩)] w (Ret fun v w' => v = .tuple #[.agg (lnE.arr (d.giv.getD ln0)), .bool d.giv.isSome] ∧ New w w') := by
  obtain ⟨id, n, ways, L, ask, giv⟩ := d
  rcases giv with _ | gx
  · exact given_none H.1
  · exact given_some H.1
theorem u_new (id : Int) (n : Nat) (ways : Int) (hid : 0 ≤ id ∧ id < 4) (hr : rightB ((n : Nat) : Int) ways = true) (w : World) : Calls Try.prog 12 #[.int .i64 id, .int .i64 ((n : Nat) : Int), .int .i64 ways] w (Ret fun v w' => ∃ b Fp, v = .tuple #[.pointer (some ⟨b, 0, none⟩), .int .i64 0] ∧ CacAt w' Fp b ⟨id, n, ways, [], none, none⟩ ∧ (∀ g, Fp g → w.heap.size ≤ g) ∧ New w w') := by
  refine (cnew_yes id n ways (by omega) (by omega) hr w).mono ?_
  rintro e w' ⟨v, rfl, b, Fp, h1, h2, h3, h4⟩
  exact ⟨_, rfl, b, Fp, h1, ⟨h2, DOk.new hid (right_bd hr)⟩, h3, h4⟩
variable {A : Option Addr} {cap : Nat}
def rav (d : CD) (A : Option Addr) (cap : Nat) : RC := rcv (rdOf d) A cap
def RefU (w : World) (A : Option Addr) (r : CD × List Msg × Int) (v : Value) (w' : World) : Prop :=
  ∃ A' cap' B cB, v = .tuple #[.agg (rcE.arr (rav r.1 A' cap')), .slice B r.2.1.length cB, .int .i64 r.2.2] ∧ View lnE w' A' cap' (allL r.1.n r.1.L) ∧ View msgE w' B cB r.2.1 ∧ (∀ g, inA A' g → inA A g ∨ w.heap.size ≤ g) ∧ (∀ g, inA B g → w.heap.size ≤ g) ∧ New w w'
theorem ur_ask (hV : View lnE w A cap (allL d.n d.L)) (hd : DOk d) (line : Int) (hln : 0 ≤ line ∧ line < 4294967296) (wr : Bool) (pick : Int) : Calls Try.prog 23 #[.agg (rcE.arr (rav d A cap)), .int .u32 line, .bool wr, .int .i64 pick] w (Ret fun v w' => RefU w A (askF d line hln wr pick) v w') := by
  have hl := u_len hd
  refine (rcask_c line hln wr pick (ak := d.ask.isSome) (al := (d.ask.getD (0, false)).1) (aw := (d.ask.getD (0, false)).2) (gv := d.giv.isSome) (gx := d.giv.getD ln0) (id := d.id) (ways := d.ways) (n := d.n) hV ⟨hd.bd.1, hd.bd.2.1⟩ (by omega) hd.bd.2.2.1).mono ?_
  rintro e w' ⟨v, rfl, h⟩
  rw [show (RD.mk d.id d.n d.ways (allL d.n d.L) d.ask.isSome (d.ask.getD (0, false)).1 (d.ask.getD (0, false)).2 d.giv.isSome (d.giv.getD ln0)) = rdOf d from rfl, ask_eq hd] at h
  exact ⟨_, rfl, h⟩
theorem ur_take (hV : View lnE w A cap (allL d.n d.L)) (hd : DOk d) (m : Msg) : Calls Try.prog 27 #[.agg (rcE.arr (rav d A cap)), .agg (msgE.arr m)] w (Ret fun v w' => RefU w A (takeF d m) v w') := by
  have hl := u_len hd
  refine (rctake_c m (ak := d.ask.isSome) (al := (d.ask.getD (0, false)).1) (aw := (d.ask.getD (0, false)).2) (gv := d.giv.isSome) (gx := d.giv.getD ln0) (id := d.id) (ways := d.ways) (n := d.n) hV ⟨hd.bd.1, hd.bd.2.1⟩ (by omega) hd.id).mono ?_
  rintro e w' ⟨v, rfl, h⟩
  rw [show (RD.mk d.id d.n d.ways (allL d.n d.L) d.ask.isSome (d.ask.getD (0, false)).1 (d.ask.getD (0, false)).2 d.giv.isSome (d.giv.getD ln0)) = rdOf d from rfl, take_eq hd] at h
  exact ⟨_, rfl, h⟩
def RefEU (w : World) (A : Option Addr) (r : CD × List Msg) (v : Value) (w' : World) : Prop :=
  ∃ A' cap' B cB, v = .tuple #[.agg (rcE.arr (rav r.1 A' cap')), .slice B r.2.length cB] ∧ View lnE w' A' cap' (allL r.1.n r.1.L) ∧ View msgE w' B cB r.2 ∧ (∀ g, inA A' g → inA A g ∨ w.heap.size ≤ g) ∧ (∀ g, inA B g → w.heap.size ≤ g) ∧ New w w'
theorem ur_evict (hV : View lnE w A cap (allL d.n d.L)) (hd : DOk d) (pick : Int) : Calls Try.prog 26 #[.agg (rcE.arr (rav d A cap)), .int .i64 pick] w (Ret fun v w' => RefEU w A (evictF d pick) v w') := by
  have hl := u_len hd
  refine (rcevict_c pick (ak := d.ask.isSome) (al := (d.ask.getD (0, false)).1) (aw := (d.ask.getD (0, false)).2) (gv := d.giv.isSome) (gx := d.giv.getD ln0) (id := d.id) (ways := d.ways) (n := d.n) hV ⟨hd.bd.1, hd.bd.2.1⟩ (by omega)).mono ?_
  rintro e w' ⟨v, rfl, h⟩
  rw [show (RD.mk d.id d.n d.ways (allL d.n d.L) d.ask.isSome (d.ask.getD (0, false)).1 (d.ask.getD (0, false)).2 d.giv.isSome (d.giv.getD ln0)) = rdOf d from rfl, evict_eq hd] at h
  exact ⟨_, rfl, h⟩
def RefPU (w : World) (A : Option Addr) (r : CD × Int) (v : Value) (w' : World) : Prop :=
  ∃ A' cap', v = .tuple #[.agg (rcE.arr (rav r.1 A' cap')), .int .i64 r.2] ∧ View lnE w' A' cap' (allL r.1.n r.1.L) ∧ (∀ g, inA A' g → inA A g ∨ w.heap.size ≤ g) ∧ New w w'
theorem ur_put (hV : View lnE w A cap (allL d.n d.L)) (hd : DOk d) (addr : Int) (ha : 0 ≤ addr ∧ addr < 4294967296) (width value : Int) (hv : 0 ≤ value ∧ value < 4294967296) : Calls Try.prog 16 #[.agg (rcE.arr (rav d A cap)), .int .u32 addr, .int .i64 width, .int .u32 value] w (Ret fun v w' => RefPU w A (writeF d addr width value) v w') := by
  have hl := u_len hd
  refine (rcput_c addr ha width value hv (ak := d.ask.isSome) (al := (d.ask.getD (0, false)).1) (aw := (d.ask.getD (0, false)).2) (gv := d.giv.isSome) (gx := d.giv.getD ln0) (id := d.id) (ways := d.ways) (n := d.n) hV ⟨hd.bd.1, hd.bd.2.1⟩ (by omega)).mono ?_
  rintro e w' ⟨v, rfl, h⟩
  rw [show (RD.mk d.id d.n d.ways (allL d.n d.L) d.ask.isSome (d.ask.getD (0, false)).1 (d.ask.getD (0, false)).2 d.giv.isSome (d.giv.getD ln0)) = rdOf d from rfl, put_eq hd] at h
  exact ⟨_, rfl, h⟩
theorem ur_read (hV : View lnE w A cap (allL d.n d.L)) (hd : DOk d) (addr : Int) (ha : 0 ≤ addr ∧ addr < 4294967296) (width : Int) : Calls Try.prog 18 #[.agg (rcE.arr (rav d A cap)), .int .u32 addr, .int .i64 width] w (Ret fun v w' => v = .tuple #[.int .u32 (readF d.L addr width).1, .int .i64 (readF d.L addr width).2] ∧ New w w') := by
  rw [← read_eq hd]
  exact rcread_c addr ha width hV
theorem ur_state (hV : View lnE w A cap (allL d.n d.L)) (hd : DOk d) (line : Int) : Calls Try.prog 60 #[.agg (rcE.arr (rav d A cap)), .int .u32 line] w (Ret fun v w' => v = .int .i64 (stateOf d.L line) ∧ New w w') := by
  rw [← state_all hd.bd.1]
  exact rcstate_c line hV
end
end Go.Proofs.Ytflnlmibkbojcaa
namespace Go.Proofs.Ytflnlmibkbojcaa
open Go.RowKit
set_option maxRecDepth 100000 in
set_option maxHeartbeats 4000000 in
theorem rsame_c {w : World} {A B : Option Addr} {ca cb : Nat} {la lb : List Ln} (hV : View lnE w A ca la) (hW : View lnE w B cb lb) : Calls Try.prog 31 #[.slice A la.length ca, .slice B lb.length cb] w (Ret fun v w' => v = .bool (decide (la = lb)) ∧ New w w') := by
 have hVl := hV.len
 have hWl := hW.len
 unfold maxLen at hVl hWl
 have hF := Only.refl (fun _ => False) w
 refine Zen 26 Try.func31 ?_
 refine Zsr ?_
 refine Za ?_
 refine Znn ?_
 refine Zsq ?_
 refine Zsr ?_
 refine Zm ?_
 refine Zv _ (fun _ fr => x_len Try.underlying40 rfl (fr.ev rfl)) ?_
 refine Zm ?_
 refine Zv _ (fun _ fr => x_len Try.underlying40 rfl (fr.ev rfl)) ?_
 refine Zv _ (fun _ fr => x_neq rfl (fr.ev rfl) (fr.ev rfl) rfl) ?_
 refine Znn ?_
 refine Zcd (fun hc1 => ?_) (fun hc1 => ?_)
 ·have hc1 := of_decide_eq_true hc1
  refine Zsr ?_
  refine Za ?_
  refine Znn ?_
  refine Zrt ?_
  refine Zr1 ?_
  refine Zre rfl [_] ⟨rfl, trivial⟩ ?_
  exact ⟨_, rfl, congrArg Value.bool (decide_eq_false fun he => hc1 (by rw [he])).symm, hF⟩
 ·have hc1 := of_decide_eq_false hc1
  refine Zsk ?_
  refine Znx ?_
  refine Zsq ?_
  refine Zsr ?_
  refine Za ?_
  refine Znn ?_
  refine Zbl ?_
  intro a fr
  refine fx_loop (fun nM a wL => ∃ i : Nat, nM = la.length - i ∧ Fr (26, []) [(0, .slice A la.length ca), (1, .slice B lb.length cb), (5, .int .i64 ((i : Nat) : Int)), (4, .bool false)] a ∧ Only (fun _ => False) w wL ∧ View lnE wL A ca la ∧ View lnE wL B cb lb ∧ i ≤ la.length ∧ (∀ j, j < i → la.getD j ln0 = lb.getD j ln0)) (n0 := _) ⟨0, rfl, fr.sub ⟨rfl, rfl, rfl, rfl, trivial⟩, hF, hV, hW, by omega, (fun j hj => absurd hj (by omega))⟩ ?_
  clear fr a
  rintro n3 a w2 ⟨i, rfl, fr, hF, hV, hW, hi, hall⟩
  revert a
  refine Zsq ?_
  refine Zsr ?_
  refine Zm ?_
  refine Zm ?_
  refine Zv _ (fun _ fr => x_len Try.underlying40 rfl (fr.ev rfl)) ?_
  refine Zv _ (fun _ fr => x_lss rfl (fr.ev rfl) (fr.ev rfl) rfl) ?_
  refine Znn ?_
  refine Zcd (fun hc4 => ?_) (fun hc4 => ?_)
  ·have hc4 := of_decide_eq_true hc4
   refine Zsk ?_
   refine Znx ?_
   refine Zsq ?_
   refine Zbl ?_
   refine Zsq ?_
   refine Zhd (n := 9) (fun w => View lnE w A ca la ∧ View lnE w B cb lb ∧ True) ?_
   intro w5 hN6
   replace hV := hV.new hN6
   replace hW := hW.new hN6
   have hS9 := And.intro hV (And.intro hW trivial)
   refine Zhm 0 hS9 ?_
   refine Zhm 1 hS9 ?_
   obtain ⟨g7, o8, hA9⟩ := (hV).some_ (by omega)
   have hS9 := And.intro hV (And.intro hW trivial)
   refine Zht 2 rfl (.pointer (some ⟨g7, o8 + i * 18, none⟩)) hS9 (fun _ fr _ _ => x_indexV Try.underlying40 sz39 rfl (fr.ev rfl) hA9 (fr.ev rfl) (by omega) rfl) ?_
   refine ZhE 3 lnE ag39 hS9 (fun _ ⟨hV, _⟩ => ((hV).elem hA9 i ln0 (by omega))) ?_
   refine Zhm 4 hS9 ?_
   refine Zhm 5 hS9 ?_
   obtain ⟨g10, o11, hA12⟩ := (hW).some_ (by omega)
   have hS9 := And.intro hV (And.intro hW trivial)
   refine Zht 6 rfl (.pointer (some ⟨g10, o11 + i * 18, none⟩)) hS9 (fun _ fr _ _ => x_indexV Try.underlying40 sz39 rfl (fr.ev rfl) hA12 (fr.ev rfl) (by omega) rfl) ?_
   refine ZhE 7 lnE ag39 hS9 (fun _ ⟨_, hW, _⟩ => ((hW).elem hA12 i ln0 (by omega))) ?_
   refine Zht 8 rfl _ hS9 (fun _ fr _ _ => x_neE lnER rfl rfl (fr.ev rfl) (fr.ev rfl) rfl) ?_
   refine Zhn ?_
   refine Znx ?_
   refine Zcd (fun hc13 => ?_) (fun hc13 => ?_)
   ·refine Zsr ?_
    refine Za ?_
    refine Znn ?_
    refine Zrt ?_
    refine Zr2 ?_
    refine Zr1 ?_
    refine Zr1 ?_
    refine Zr2 ?_
    refine Zr1 ?_
    refine Zre rfl [_] ⟨rfl, trivial⟩ ?_
    replace hF := hF.trNew hN6
    exact ⟨_, rfl, congrArg Value.bool (decide_eq_false fun he => by rw [he] at hc13; simp at hc13).symm, hF⟩
   ·refine Zsk ?_
    refine Zb ?_
    refine Znx ?_
    refine Zrg ?_
    refine Zm ?_
    refine Zv _ (fun _ fr => x_add rfl (fr.ev rfl) rfl (i64w (r := ((i + 1 : Nat) : Int)) (by omega) (by omega))) ?_
    refine Za ?_
    intro a fr
    refine wpList_nil ?_
    refine fx_next ?_
    replace hF := hF.trNew hN6
    exact ⟨_, by omega, (i + 1), rfl, fr.sub ⟨rfl, rfl, rfl, rfl, trivial⟩, hF, hV, hW, by omega, fun j hj => by rcases Nat.lt_succ_iff_lt_or_eq.1 hj with h | rfl; exact hall j h; simpa using hc13⟩
  ·have hc4 := of_decide_eq_false hc4
   refine Zex ?_
   refine Zxt ?_
   refine Zxt ?_
   refine Zxx ?_
   refine Znx ?_
   refine Zsr ?_
   refine Za ?_
   refine Znn ?_
   refine Zrt ?_
   refine Zre rfl [_] ⟨rfl, trivial⟩ ?_
   exact ⟨_, rfl, congrArg Value.bool (decide_eq_true (ext_getD ln0 (by omega) fun j hj => hall j (by omega))).symm, hF⟩
end Go.Proofs.Ytflnlmibkbojcaa
namespace Go.Proofs.Ytflnlmibkbojcaa
open Go.RowKit
structure Stp where
  kind : Int
  pick : Int
  width : Int
  line : Int
  addr : Int
  value : Int
  wr : Bool
  msg : Msg
  hl : 0 ≤ line ∧ line < 4294967296
  ha : 0 ≤ addr ∧ addr < 4294967296
  hv : 0 ≤ value ∧ value < 4294967296
  deriving DecidableEq
def Stp.cells (m : Stp) : List Value := .int .i64 m.kind :: .int .i64 m.pick :: .int .i64 m.width :: .int .u32 m.line :: .int .u32 m.addr :: .int .u32 m.value :: .bool m.wr :: m.msg.cells
def stpE : Enc Try.prog Stp where
  T := 45
  n := 27
  cells := Stp.cells
  len := fun m => by simp [Stp.cells, m.msg.len]
  one := fun m v hv => by
    simp only [Stp.cells, List.mem_cons] at hv
    rcases hv with rfl | rfl | rfl | rfl | rfl | rfl | rfl | hv
    iterate 7 rfl
    exact m.msg.one v hv
  pos := by decide
def stp0 : Stp := ⟨0, 0, 0, 0, 0, 0, false, msg0, by decide, by decide, by decide⟩
theorem stp_msgL (m : Stp) : ((stpE.cells m).drop 7).take 20 = msgE.cells m.msg := by
  show (m.cells.drop 7).take 20 = m.msg.cells
  simp only [Stp.cells, List.drop_succ_cons, List.drop_zero]
  exact List.take_of_length_le (by rw [m.msg.len]; omega)
theorem stp_msg (m : Stp) : ((stpE.arr m).toList.drop 7).take 20 = msgE.cells m.msg := by
  rw [stpE.toList]
  exact stp_msgL m
def stepF (d : CD) (s : Stp) : CD :=
  if s.kind = 1 then (askF d s.line s.hl s.wr s.pick).1
  else if s.kind = 2 then (takeF d s.msg).1
  else if s.kind = 3 then (evictF d s.pick).1
  else if s.kind = 4 then (writeF d s.addr s.width s.value).1
  else d
theorem DOk.step {d : CD} (h : DOk d) (s : Stp) : DOk (stepF d s) := by
  unfold stepF
  split
  · exact h.ask _ _ _ _
  split
  · exact h.take _
  split
  · exact h.evict _
  split
  · exact h.write _ _ _
  · exact h
end Go.Proofs.Ytflnlmibkbojcaa
namespace Go.Proofs.Ytflnlmibkbojcaa
open Go.RowKit
set_option maxRecDepth 100000 in
set_option maxHeartbeats 4000000 in
theorem msgs_c {w : World} {A B : Option Addr} {ca cb : Nat} {la lb : List Msg} (hV : View msgE w A ca la) (hW : View msgE w B cb lb) : Calls Try.prog 24 #[.slice A la.length ca, .slice B lb.length cb] w (Ret fun v w' => v = .bool (decide (la = lb)) ∧ New w w') := by
 have hVl := hV.len
 have hWl := hW.len
 unfold maxLen at hVl hWl
 have hF := Only.refl (fun _ => False) w
 refine Zen 26 Try.func24 ?_
 refine Zsr ?_
 refine Za ?_
 refine Znn ?_
 refine Zsq ?_
 refine Zsr ?_
 refine Zm ?_
 refine Zv _ (fun _ fr => x_len Try.underlying29 rfl (fr.ev rfl)) ?_
 refine Zm ?_
 refine Zv _ (fun _ fr => x_len Try.underlying29 rfl (fr.ev rfl)) ?_
 refine Zv _ (fun _ fr => x_neq rfl (fr.ev rfl) (fr.ev rfl) rfl) ?_
 refine Znn ?_
 refine Zcd (fun hc1 => ?_) (fun hc1 => ?_)
 ·have hc1 := of_decide_eq_true hc1
  refine Zsr ?_
  refine Za ?_
  refine Znn ?_
  refine Zrt ?_
  refine Zr1 ?_
  refine Zre rfl [_] ⟨rfl, trivial⟩ ?_
  exact ⟨_, rfl, congrArg Value.bool (decide_eq_false fun he => hc1 (by rw [he])).symm, hF⟩
 ·have hc1 := of_decide_eq_false hc1
  refine Zsk ?_
  refine Znx ?_
  refine Zsq ?_
  refine Zsr ?_
  refine Za ?_
  refine Znn ?_
  refine Zbl ?_
  intro a fr
  refine fx_loop (fun nM a wL => ∃ i : Nat, nM = la.length - i ∧ Fr (26, []) [(0, .slice A la.length ca), (1, .slice B lb.length cb), (5, .int .i64 ((i : Nat) : Int)), (4, .bool false)] a ∧ Only (fun _ => False) w wL ∧ View msgE wL A ca la ∧ View msgE wL B cb lb ∧ i ≤ la.length ∧ (∀ j, j < i → la.getD j msg0 = lb.getD j msg0)) (n0 := _) ⟨0, rfl, fr.sub ⟨rfl, rfl, rfl, rfl, trivial⟩, hF, hV, hW, by omega, (fun j hj => absurd hj (by omega))⟩ ?_
  clear fr a
  rintro n3 a w2 ⟨i, rfl, fr, hF, hV, hW, hi, hall⟩
  revert a
  refine Zsq ?_
  refine Zsr ?_
  refine Zm ?_
  refine Zm ?_
  refine Zv _ (fun _ fr => x_len Try.underlying29 rfl (fr.ev rfl)) ?_
  refine Zv _ (fun _ fr => x_lss rfl (fr.ev rfl) (fr.ev rfl) rfl) ?_
  refine Znn ?_
  refine Zcd (fun hc4 => ?_) (fun hc4 => ?_)
  ·have hc4 := of_decide_eq_true hc4
   refine Zsk ?_
   refine Znx ?_
   refine Zsq ?_
   refine Zbl ?_
   refine Zsq ?_
   refine Zhd (n := 9) (fun w => View msgE w A ca la ∧ View msgE w B cb lb ∧ True) ?_
   intro w5 hN6
   replace hV := hV.new hN6
   replace hW := hW.new hN6
   have hS9 := And.intro hV (And.intro hW trivial)
   refine Zhm 0 hS9 ?_
   refine Zhm 1 hS9 ?_
   obtain ⟨g7, o8, hA9⟩ := (hV).some_ (by omega)
   have hS9 := And.intro hV (And.intro hW trivial)
   refine Zht 2 rfl (.pointer (some ⟨g7, o8 + i * 20, none⟩)) hS9 (fun _ fr _ _ => x_indexV Try.underlying29 sz35 rfl (fr.ev rfl) hA9 (fr.ev rfl) (by omega) rfl) ?_
   refine ZhE 3 msgE ag35 hS9 (fun _ ⟨hV, _⟩ => ((hV).elem hA9 i msg0 (by omega))) ?_
   refine Zhm 4 hS9 ?_
   refine Zhm 5 hS9 ?_
   obtain ⟨g10, o11, hA12⟩ := (hW).some_ (by omega)
   have hS9 := And.intro hV (And.intro hW trivial)
   refine Zht 6 rfl (.pointer (some ⟨g10, o11 + i * 20, none⟩)) hS9 (fun _ fr _ _ => x_indexV Try.underlying29 sz35 rfl (fr.ev rfl) hA12 (fr.ev rfl) (by omega) rfl) ?_
   refine ZhE 7 msgE ag35 hS9 (fun _ ⟨_, hW, _⟩ => ((hW).elem hA12 i msg0 (by omega))) ?_
   refine Zht 8 rfl _ hS9 (fun _ fr _ _ => x_neE msgER rfl rfl (fr.ev rfl) (fr.ev rfl) rfl) ?_
   refine Zhn ?_
   refine Znx ?_
   refine Zcd (fun hc13 => ?_) (fun hc13 => ?_)
   ·refine Zsr ?_
    refine Za ?_
    refine Znn ?_
    refine Zrt ?_
    refine Zr2 ?_
    refine Zr1 ?_
    refine Zr1 ?_
    refine Zr2 ?_
    refine Zr1 ?_
    refine Zre rfl [_] ⟨rfl, trivial⟩ ?_
    replace hF := hF.trNew hN6
    exact ⟨_, rfl, congrArg Value.bool (decide_eq_false fun he => by rw [he] at hc13; simp at hc13).symm, hF⟩
   ·refine Zsk ?_
    refine Zb ?_
    refine Znx ?_
    refine Zrg ?_
    refine Zm ?_
    refine Zv _ (fun _ fr => x_add rfl (fr.ev rfl) rfl (i64w (r := ((i + 1 : Nat) : Int)) (by omega) (by omega))) ?_
    refine Za ?_
    intro a fr
    refine wpList_nil ?_
    refine fx_next ?_
    replace hF := hF.trNew hN6
    exact ⟨_, by omega, (i + 1), rfl, fr.sub ⟨rfl, rfl, rfl, rfl, trivial⟩, hF, hV, hW, by omega, fun j hj => by rcases Nat.lt_succ_iff_lt_or_eq.1 hj with h | rfl; exact hall j h; simpa using hc13⟩
  ·have hc4 := of_decide_eq_false hc4
   refine Zex ?_
   refine Zxt ?_
   refine Zxt ?_
   refine Zxx ?_
   refine Znx ?_
   refine Zsr ?_
   refine Za ?_
   refine Znn ?_
   refine Zrt ?_
   refine Zre rfl [_] ⟨rfl, trivial⟩ ?_
   exact ⟨_, rfl, congrArg Value.bool (decide_eq_true (ext_getD msg0 (by omega) fun j hj => hall j (by omega))).symm, hF⟩
set_option maxRecDepth 100000 in
set_option maxHeartbeats 4000000 in
theorem same_c {w : World} {Fp : Nat → Prop} {b : Nat} {d : CD} {A : Option Addr} {cap : Nat} (H : CacAt w Fp b d) (hV : View lnE w A cap (allL d.n d.L)) (ap2_Fp_A : ∀ k, Fp k → inA A k → False)  : Calls Try.prog 19 #[.pointer (some ⟨b, 0, none⟩), .agg (rcE.arr (rav d A cap))] w (Ret fun v w' => v = .bool true ∧ New w w') := by
 have hlen := u_len H.2
 have hVl := hV.len
 unfold maxLen at hVl
 have hF := Only.refl (fun _ => False) w
 refine Zen 71 Try.func19 ?_
 refine Zsr ?_
 refine Znb (cs := rcE.arr (rav d A cap)) fun b1 w2 hN3 B4 hb5 => ?_
 refine Za ?_
 refine Znn ?_
 refine Zsr ?_
 refine Zm ?_
 replace H := H.new hN3
 refine Zk cf32 (u_asked H) ?_
 rintro v w6 ⟨rfl, hN7⟩
 refine Zm ?_
 refine Zt ?_
 refine Zt ?_
 refine Zt ?_
 refine Za ?_
 refine Za ?_
 refine Za ?_
 refine Znn ?_
 refine Zsr ?_
 refine Zm ?_
 replace H := H.new hN7
 refine Zk cf33 (u_given H) ?_
 rintro v w8 ⟨rfl, hN9⟩
 refine Zm ?_
 refine Zt ?_
 refine Zt ?_
 refine Zna (z := zv1) (cs := lnE.arr ln0) (by kernel_rfl) fun b10 w11 hN12 B13 hb14 => ?_
 replace H := H.new hN9
 have ap_Fp_b10 : ¬ Fp b10 := H.apart hb14
 replace hV := ((hV.new hN3).new hN7).new hN9
 have ap_A_b10 : Apart A b10 := hV.apart hb14
 replace B4 := (B4.new hN7).new hN9
 have ne_b1_b10 : NE b1 b10 := NE.mk (Nat.lt_of_lt_of_le B4.lt hb14)
 replace hF := ((hF.trNew hN3).trNew hN7).trNew hN9
 have g_b10 := Nat.le_trans hF.size hb14
 refine ZsS sz39 (lnE.all _) B13 (lnE.size _) (lnE.size _) fun w15 hO16 hBq => ?_
 replace B13 := hBq
 clear hBq
 refine Za ?_
 refine Znn ?_
 refine Zsq ?_
 refine Zsq ?_
 refine Zhd (n := 36) (fun w => Blk w b1 42 (rcE.arr (rav d A cap)) ∧ Blk w b10 39 (lnE.arr (d.giv.getD ln0)) ∧ True) ?_
 intro w17 hN18
 replace B4 := ((B4.new hN12).only hO16 ne_b1_b10).new hN18
 replace B13 := B13.new hN18
 have hS9 := And.intro B4 (And.intro B13 trivial)
 refine Zhm 0 hS9 ?_
 refine Zhf 2 fo42_3 hS9 ?_
 refine Zhl (v := .slice A ((allL d.n d.L).length) cap) 3 pl40 hS9 (fun _ ⟨B4, _⟩ => (B4.cell 3 rfl)) ?_
 refine Zh1 1 ?_
 replace H := ((H.new hN12).only hO16 (ne1P ap_Fp_b10)).new hN18
 refine Zk cf30 (u_lines H) ?_
 rintro v w23 ⟨A19, cap20, rfl, O21, hA22, hN24⟩
 replace B4 := B4.new hN24
 replace B13 := B13.new hN24
 refine Zhb ⟨B4, B13, trivial⟩ ?_
 refine Zh1 4 ?_
 replace hV := (((hV.new hN12).only hO16 (Apart.ne1 ap_A_b10)).new hN18).new hN24
 refine Zk cf31 (rsame_c (la := (allL d.n d.L)) (lb := (allL d.n d.L)) (O21.view) (hV)) ?_
 rintro v w25 ⟨rfl, hN26⟩
 intro a fr
 rw [show decide ((allL d.n d.L) = (allL d.n d.L)) = true from decide_eq_true rfl] at fr
 revert a
 replace B4 := B4.new hN26
 replace B13 := B13.new hN26
 refine Zhb ⟨B4, B13, trivial⟩ ?_
 have hS9 := And.intro B4 (And.intro B13 trivial)
 refine Zht 5 rfl (.bool false) hS9 (fun _ fr _ _ => x_not rfl (fr.ev rfl) rfl) ?_
 refine Zhm 6 hS9 ?_
 refine Zhm 7 hS9 ?_
 refine Zhf 8 fo42_4 hS9 ?_
 refine Zhl (v := .bool (d.ask.isSome)) 9 pl4 hS9 (fun _ ⟨B4, _⟩ => (B4.cell 4 rfl)) ?_
 refine Zht 10 rfl (.bool false) hS9 (fun _ fr _ _ => x_bneq Try.underlying4 rfl (fr.ev rfl) (fr.ev rfl) (by simp)) ?_
 refine Zht 11 rfl (.bool false) hS9 (fun _ fr _ _ => x_pick_f rfl (fr.ev rfl) (fr.ev rfl)) ?_
 refine Zhm 12 hS9 ?_
 refine Zhm 13 hS9 ?_
 refine Zhf 14 fo42_5 hS9 ?_
 refine Zhl (v := .int .u32 ((d.ask.getD (0, false)).1)) 15 pl32 hS9 (fun _ ⟨B4, _⟩ => (B4.cell 5 rfl)) ?_
 refine Zht 16 rfl (.bool false) hS9 (fun _ fr _ _ => x_neq rfl (fr.ev rfl) (fr.ev rfl) (by simp)) ?_
 refine Zht 17 rfl (.bool false) hS9 (fun _ fr _ _ => x_pick_f rfl (fr.ev rfl) (fr.ev rfl)) ?_
 refine Zhm 18 hS9 ?_
 refine Zhm 19 hS9 ?_
 refine Zhf 20 fo42_6 hS9 ?_
 refine Zhl (v := .bool ((d.ask.getD (0, false)).2)) 21 pl4 hS9 (fun _ ⟨B4, _⟩ => (B4.cell 6 rfl)) ?_
 refine Zht 22 rfl (.bool false) hS9 (fun _ fr _ _ => x_bneq Try.underlying4 rfl (fr.ev rfl) (fr.ev rfl) (by simp)) ?_
 refine Zht 23 rfl (.bool false) hS9 (fun _ fr _ _ => x_pick_f rfl (fr.ev rfl) (fr.ev rfl)) ?_
 refine Zhm 24 hS9 ?_
 refine Zhm 25 hS9 ?_
 refine Zhf 26 fo42_7 hS9 ?_
 refine Zhl (v := .bool (d.giv.isSome)) 27 pl4 hS9 (fun _ ⟨B4, _⟩ => (B4.cell 7 rfl)) ?_
 refine Zht 28 rfl (.bool false) hS9 (fun _ fr _ _ => x_bneq Try.underlying4 rfl (fr.ev rfl) (fr.ev rfl) (by simp)) ?_
 refine Zht 29 rfl (.bool false) hS9 (fun _ fr _ _ => x_pick_f rfl (fr.ev rfl) (fr.ev rfl)) ?_
 refine Zhm 30 hS9 ?_
 refine ZhE 31 lnE ag39 hS9 (fun _ ⟨_, B13, _⟩ => (B13.rangeE lnE)) ?_
 refine Zhf 32 fo42_8 hS9 ?_
 refine ZhE (p := (d.giv.getD ln0)) 33 lnE ag39 hS9 (fun _ ⟨B4, _⟩ => (B4.part (rc_back (rav d A cap)))) ?_
 refine Zht 34 rfl (.bool false) hS9 (fun _ fr _ _ => x_neE lnER rfl rfl (fr.ev rfl) (fr.ev rfl) (by simp)) ?_
 refine Zht 35 rfl (.bool false) hS9 (fun _ fr _ _ => x_pick_f rfl (fr.ev rfl) (fr.ev rfl)) ?_
 refine Zhn ?_
 refine Znx ?_
 refine Zcf ?_
 refine Zsk ?_
 refine Znx ?_
 refine Zsq ?_
 refine Zsr ?_
 refine Za ?_
 refine Znn ?_
 refine Zbl ?_
 intro a fr
 replace hF := ((((hF.trNew hN12).loc hO16 (.inr g_b10)).trNew hN18).trNew hN24).trNew hN26
 replace H := (H.new hN24).new hN26
 replace hV := hV.new hN26
 replace O21 := O21.new hN26
 refine fx_loop (fun nM a wL => ∃ i : Nat, nM = 12 - i ∧ Fr (71, []) [(0, .pointer (some ⟨b, 0, none⟩)), (3, .pointer (some ⟨b1, 0, none⟩)), (4, .bool false), (10, .int .i64 ((i : Nat) : Int))] a ∧ Only (fun _ => False) w wL ∧ CacAt wL Fp b d ∧ View lnE wL A cap (allL d.n d.L) ∧ Blk wL b1 42 (rcE.arr (rav d A cap)) ∧ Blk wL b10 39 (lnE.arr (d.giv.getD ln0)) ∧ Own lnE wL A19 cap20 (allL d.n d.L) ∧ i ≤ 12) (n0 := _) ⟨0, rfl, fr.sub ⟨rfl, rfl, rfl, rfl, trivial⟩, hF, H, hV, B4, B13, O21, by omega⟩ ?_
 clear fr a
 rintro n28 a w27 ⟨i, rfl, fr, hF, H, hV, B4, B13, O21, hi⟩
 revert a
 refine Zsq ?_
 refine Zsr ?_
 refine Zm ?_
 refine Zv _ (fun _ fr => x_lss rfl (fr.ev rfl) rfl rfl) ?_
 refine Znn ?_
 refine Zcd (fun hc29 => ?_) (fun hc29 => ?_)
 ·have hc29 := of_decide_eq_true hc29
  refine Zsk ?_
  refine Znx ?_
  refine Zsq ?_
  refine Zbl ?_
  refine Zsq ?_
  refine Zhd (n := 9) (fun w => Blk w b1 42 (rcE.arr (rav d A cap)) ∧ True) ?_
  intro w30 hN31
  replace B4 := B4.new hN31
  have hS9 := And.intro B4 trivial
  refine Zhm 0 hS9 ?_
  refine Zhm 1 hS9 ?_
  refine Zht 2 rfl _ hS9 (fun _ fr _ _ => x_convert Try.underlying3 Try.underlying32 rfl (fr.ev rfl) (u32w (r := ((i : Nat) : Int)) rfl (by omega))) ?_
  refine ZhE 4 rcE ag42 hS9 (fun _ ⟨B4, _⟩ => (B4.rangeE rcE)) ?_
  refine Zhm 5 hS9 ?_
  refine Zht 6 rfl _ hS9 (fun _ fr _ _ => x_convert Try.underlying3 Try.underlying32 rfl (fr.ev rfl) (u32w (r := ((i : Nat) : Int)) rfl (by omega))) ?_
  refine Zh1 3 ?_
  replace H := H.new hN31
  refine Zk (args := #[.pointer (some ⟨b, 0, none⟩), .int .u32 ((i : Nat) : Int)]) cf34 (u_state H ((i : Nat) : Int) (by omega)) ?_
  rintro v w32 ⟨rfl, hN33⟩
  replace B4 := B4.new hN33
  refine Zhb ⟨B4, trivial⟩ ?_
  refine Zh1 7 ?_
  replace hV := (hV.new hN31).new hN33
  replace H := H.new hN33
  refine Zk cf60 (ur_state hV H.2 ((i : Nat) : Int)) ?_
  rintro v w34 ⟨rfl, hN35⟩
  replace B4 := B4.new hN35
  refine Zhb ⟨B4, trivial⟩ ?_
  have hS9 := And.intro B4 trivial
  refine Zht 8 rfl (.bool false) hS9 (fun _ fr _ _ => x_neq rfl (fr.ev rfl) (fr.ev rfl) (by simp)) ?_
  refine Zhn ?_
  refine Znx ?_
  refine Zcf ?_
  refine Zsk ?_
  refine Zb ?_
  refine Znx ?_
  refine Zrg ?_
  refine Zm ?_
  refine Zv _ (fun _ fr => x_add rfl (fr.ev rfl) rfl (i64w (r := ((i + 1 : Nat) : Int)) (by omega) (by omega))) ?_
  refine Za ?_
  intro a fr
  refine wpList_nil ?_
  refine fx_next ?_
  replace B13 := ((B13.new hN31).new hN33).new hN35
  replace O21 := ((O21.new hN31).new hN33).new hN35
  replace hF := ((hF.trNew hN31).trNew hN33).trNew hN35
  replace H := H.new hN35
  replace hV := hV.new hN35
  exact ⟨_, by omega, (i + 1), rfl, fr.sub ⟨rfl, rfl, rfl, rfl, trivial⟩, hF, H, hV, B4, B13, O21, by omega⟩
 ·have hc29 := of_decide_eq_false hc29
  refine Zex ?_
  refine Zxt ?_
  refine Zxt ?_
  refine Zxx ?_
  refine Znx ?_
  refine Zsr ?_
  refine Za ?_
  refine Znn ?_
  refine Zrt ?_
  refine Zre rfl [_] ⟨rfl, trivial⟩ ?_
  exact ⟨_, rfl, rfl, hF⟩
end Go.Proofs.Ytflnlmibkbojcaa
namespace Go.Proofs.Ytflnlmibkbojcaa
open Go.RowKit
def DoesR (w : World) (Fp : Nat → Prop) (b : Nat) (A : Option Addr) (d' : CD) (v : Value) (w' : World) : Prop :=
  ∃ A' cap' Fp', v = .tuple #[.agg (rcE.arr (rav d' A' cap')), .bool true] ∧ CacAt w' Fp' b d' ∧ View lnE w' A' cap' (allL d'.n d'.L) ∧ (∀ k, Fp' k → inA A' k → False) ∧ (∀ g, Fp' g → Fp g ∨ w.heap.size ≤ g) ∧ (∀ g, inA A' g → inA A g ∨ w.heap.size ≤ g) ∧ Only Fp w w'
set_option maxRecDepth 100000 in
set_option maxHeartbeats 4000000 in
theorem does_c {w : World} {Fp : Nat → Prop} {b : Nat} {d : CD} {A : Option Addr} {cap : Nat} (H : CacAt w Fp b d) (hV : View lnE w A cap (allL d.n d.L)) (ap2_Fp_A : ∀ k, Fp k → inA A k → False) (s : Stp)  : Calls Try.prog 21 #[.pointer (some ⟨b, 0, none⟩), .agg (rcE.arr (rav d A cap)), .agg (stpE.arr s)] w (Ret fun v w' => DoesR w Fp b A (stepF d s) v w') := by
 have hlen := u_len H.2
 have hVl := hV.len
 unfold maxLen at hVl
 have gA_Fp : ∀ g, Fp g → Fp g ∨ w.heap.size ≤ g := fun g hg => .inl hg
 have mA_A : ∀ g, inA A g → inA A g ∨ w.heap.size ≤ g := fun g hg => .inl hg
 have hs1 := s.hl
 have hs2 := s.ha
 have hs3 := s.hv
 have hF := Only.refl (Fp) w
 refine Zen 159 Try.func21 ?_
 refine Zsr ?_
 refine Znb (cs := rcE.arr (rav d A cap)) fun b1 w2 hN3 B4 hb5 => ?_
 have ap_Fp_b1 : ¬ Fp b1 := H.apart hb5
 refine Znb (cs := stpE.arr s) fun b6 w7 hN8 B9 hb10 => ?_
 replace H := H.new hN3
 have ap_Fp_b6 : ¬ Fp b6 := H.apart hb10
 refine Zna (z := zv4) (cs := rcE.arr rc0) (by kernel_rfl) fun b11 w12 hN13 B14 hb15 => ?_
 replace H := H.new hN8
 have ap_Fp_b11 : ¬ Fp b11 := H.apart hb15
 replace hV := (hV.new hN3).new hN8
 have ap_A_b11 : Apart A b11 := hV.apart hb15
 replace hF := (hF.trNew hN3).trNew hN8
 have g_b11 := Nat.le_trans hF.size hb15
 refine Za ?_
 refine Znn ?_
 refine Zsq ?_
 refine Zsr ?_
 refine Zf fo45_0 ?_
 replace B9 := B9.new hN13
 refine Zd (v := .int .i64 s.kind) pl3 (B9.cell 0 rfl) ?_
 refine Znn ?_
 refine Zbl ?_
 refine Zsr ?_
 refine Zv _ (fun _ fr => x_eql rfl (fr.ev rfl) rfl rfl) ?_
 refine Za ?_
 refine Znn ?_
 refine Zcd (fun hc16 => ?_) (fun hc16 => ?_)
 ·have hc16 := of_decide_eq_true hc16
  refine Zsr ?_
  refine Zm ?_
  refine Zf fo45_3 ?_
  refine Zd (v := .int .u32 s.line) pl32 (B9.cell 3 rfl) ?_
  refine Zf fo45_6 ?_
  refine Zd (v := .bool (s.wr)) pl4 (B9.cell 6 rfl) ?_
  refine Zf fo45_1 ?_
  refine Zd (v := .int .i64 s.pick) pl3 (B9.cell 1 rfl) ?_
  replace H := H.new hN13
  refine Zk cf13 (u_ask H s.line s.hl (s.wr) s.pick) ?_
  rintro v w24 ⟨A20, cap21, rfl, O22, hA23, Fp17, H18, hN25, mv19⟩
  replace hV := hV.new hN13
  have ap2_Fp17_A : ∀ k, Fp17 k → inA A k → False := moved_apart2P mv19 ap2_Fp_A fun _ hg => hV.lt hg
  have ap_Fp17_b11 : ¬ Fp17 b11 := moved_apartP mv19 ap_Fp_b11 B14.lt
  replace hF := hF.trNew hN13
  have gA_Fp17 := gA_movedP hF mv19 gA_Fp
  have hdok_H := H.2
  clear H
  refine Zm ?_
  refine Zt ?_
  refine Zt ?_
  refine Za ?_
  refine Za ?_
  refine Znn ?_
  refine Zsr ?_
  replace B4 := ((B4.new hN8).new hN13).only hN25 ap_Fp_b1
  refine ZE rcE ag42 (B4.rangeE rcE) ?_
  refine Zf fo45_3 ?_
  replace B9 := B9.only hN25 ap_Fp_b6
  refine Zd (v := .int .u32 s.line) pl32 (B9.cell 3 rfl) ?_
  refine Zf fo45_6 ?_
  refine Zd (v := .bool (s.wr)) pl4 (B9.cell 6 rfl) ?_
  refine Zf fo45_1 ?_
  refine Zd (v := .int .i64 s.pick) pl3 (B9.cell 1 rfl) ?_
  replace hV := hV.only hN25 (fun g h1 h2 => (symP ap2_Fp_A) g h1 h2)
  refine Zk cf23 (ur_ask hV hdok_H s.line s.hl (s.wr) s.pick) ?_
  rintro v w34 ⟨A26, cap27, B30, cB31, rfl, V28, V32, mv29, hB33, hN35⟩
  replace hF := hF.locP hN25 gA_Fp
  have mA_A26 : ∀ g, inA A26 g → inA A g ∨ w.heap.size ≤ g := fun g hg => (mv29 g hg).imp (fun h => h) (fun h => Nat.le_trans hF.size h)
  replace B14 := B14.only hN25 ap_Fp_b11
  have ap_A26_b11 : Apart A26 b11 := moved_apart mv29 ap_A_b11 B14.lt
  have ap2_A26_Fp17 : ∀ k, inA A26 k → Fp17 k → False := moved_apart2P mv29 (symP ap2_Fp17_A) fun _ hg => H18.lt hg
  refine Zm ?_
  refine Zt ?_
  refine Zt ?_
  refine Zt ?_
  refine Zna (z := zv4) (cs := rcE.arr rc0) (by kernel_rfl) fun b36 w37 hN38 B39 hb40 => ?_
  replace B14 := B14.new hN35
  have ne_b11_b36 : NE b11 b36 := NE.mk (Nat.lt_of_lt_of_le B14.lt hb40)
  replace H18 := H18.new hN35
  have ap_Fp17_b36 : ¬ Fp17 b36 := H18.apart hb40
  replace O22 := O22.new hN35
  have ap_A20_b36 : Apart A20 b36 := O22.apart hb40
  have ap_A26_b36 : Apart A26 b36 := V28.apart hb40
  have ap_B30_b36 : Apart B30 b36 := V32.apart hb40
  replace hF := hF.trNew hN35
  have g_b36 := Nat.le_trans hF.size hb40
  refine ZsS sz42 (rcE.all _) B39 (rcE.size _) (rcE.size _) fun w41 hO42 hBq => ?_
  replace B39 := hBq
  clear hBq
  refine Za ?_
  refine Za ?_
  refine Znn ?_
  refine Zsq ?_
  refine ZhT (n := 10) 10 (fun w => Blk w b36 42 (rcE.arr (rav ((askF d s.line s.hl (s.wr) s.pick).1) A26 cap27)) ∧ True) ?_
  intro w43 hN44
  replace B39 := B39.new hN44
  have hS9 := And.intro B39 trivial
  refine ZhE 0 rcE ag42 hS9 (fun _ ⟨B39, _⟩ => (B39.rangeE rcE)) ?_
  refine Zhm 1 hS9 ?_
  refine Zhm 2 hS9 ?_
  refine Zht 3 rfl (.bool true) hS9 (fun _ fr _ _ => x_eql rfl (fr.ev rfl) (fr.ev rfl) (by simp)) ?_
  refine Zhm 4 hS9 ?_
  refine Zhm 5 hS9 ?_
  refine Zhm 6 hS9 ?_
  refine Zh1 7 ?_
  replace O22 := ((O22.new hN38).only hO42 (Apart.ne1 ap_A20_b36)).new hN44
  replace V32 := ((V32.new hN38).only hO42 (Apart.ne1 ap_B30_b36)).new hN44
  refine Zk cf24 (msgs_c (la := (askF d s.line s.hl (s.wr) s.pick).2.1) (lb := (askF d s.line s.hl (s.wr) s.pick).2.1) (O22.view) (V32)) ?_
  rintro v w45 ⟨rfl, hN46⟩
  intro a fr
  rw [show decide ((askF d s.line s.hl (s.wr) s.pick).2.1 = (askF d s.line s.hl (s.wr) s.pick).2.1) = true from decide_eq_true rfl] at fr
  revert a
  replace B39 := B39.new hN46
  refine Zhb ⟨B39, trivial⟩ ?_
  have hS9 := And.intro B39 trivial
  refine Zht 8 rfl (.bool true) hS9 (fun _ fr _ _ => x_pick_t rfl (fr.ev rfl) (fr.ev rfl)) ?_
  refine Zh1 9 ?_
  replace B14 := (((B14.new hN38).only hO42 ne_b11_b36).new hN44).new hN46
  refine ZsS sz42 (rcE.all _) B14 (rcE.size _) (rcE.size _) fun w47 hO48 hBq => ?_
  replace B14 := hBq
  clear hBq
  replace B39 := B39.only hO48 ne_b11_b36.symm
  refine Zhb ⟨B39, trivial⟩ ?_
  refine Zhn ?_
  refine Ztl ?_
  refine Za ?_
  refine Znn ?_
  refine Zrt ?_
  refine Zr2 ?_
  refine Zr1 ?_
  refine Zre rfl [_, _] ⟨⟨_, rfl, loadV_E (E := rcE) ag42 rfl (B14.rangeE rcE)⟩, rfl, trivial⟩ ?_
  have hsd : stepF d s = (askF d s.line s.hl (s.wr) s.pick).1 := by unfold stepF; rw [if_pos hc16]
  rw [hsd]
  replace H18 := ((((H18.new hN38).only hO42 (ne1P ap_Fp17_b36)).new hN44).new hN46).only hO48 (ne1P ap_Fp17_b11)
  replace V28 := ((((V28.new hN38).only hO42 (Apart.ne1 ap_A26_b36)).new hN44).new hN46).only hO48 (Apart.ne1 ap_A26_b11)
  replace hF := ((((hF.trNew hN38).loc hO42 (.inr g_b36)).trNew hN44).trNew hN46).loc hO48 (.inr g_b11)
  exact ⟨_, rfl, A26, cap27, Fp17, rfl, H18, V28, (symP ap2_A26_Fp17), gA_Fp17, mA_A26, hF⟩
 ·have hc16 := of_decide_eq_false hc16
  refine Zsr ?_
  refine Zv _ (fun _ fr => x_eql rfl (fr.ev rfl) rfl rfl) ?_
  refine Za ?_
  refine Znn ?_
  refine Zcd (fun hc49 => ?_) (fun hc49 => ?_)
  ·have hc49 := of_decide_eq_true hc49
   refine Zsr ?_
   refine Zm ?_
   refine Zf fo45_7 ?_
   refine ZE (p := s.msg) msgE ag35 (B9.part (stp_msg s)) ?_
   replace H := H.new hN13
   refine Zk cf14 (u_take H s.msg) ?_
   rintro v w57 ⟨A53, cap54, rfl, O55, hA56, Fp50, H51, hN58, mv52⟩
   replace hV := hV.new hN13
   have ap2_Fp50_A : ∀ k, Fp50 k → inA A k → False := moved_apart2P mv52 ap2_Fp_A fun _ hg => hV.lt hg
   have ap_Fp50_b11 : ¬ Fp50 b11 := moved_apartP mv52 ap_Fp_b11 B14.lt
   replace hF := hF.trNew hN13
   have gA_Fp50 := gA_movedP hF mv52 gA_Fp
   have hdok_H := H.2
   clear H
   refine Zm ?_
   refine Zt ?_
   refine Zt ?_
   refine Za ?_
   refine Za ?_
   refine Znn ?_
   refine Zsr ?_
   replace B4 := ((B4.new hN8).new hN13).only hN58 ap_Fp_b1
   refine ZE rcE ag42 (B4.rangeE rcE) ?_
   refine Zf fo45_7 ?_
   replace B9 := B9.only hN58 ap_Fp_b6
   refine ZE (p := s.msg) msgE ag35 (B9.part (stp_msg s)) ?_
   replace hV := hV.only hN58 (fun g h1 h2 => (symP ap2_Fp_A) g h1 h2)
   refine Zk cf27 (ur_take hV hdok_H s.msg) ?_
   rintro v w67 ⟨A59, cap60, B63, cB64, rfl, V61, V65, mv62, hB66, hN68⟩
   replace hF := hF.locP hN58 gA_Fp
   have mA_A59 : ∀ g, inA A59 g → inA A g ∨ w.heap.size ≤ g := fun g hg => (mv62 g hg).imp (fun h => h) (fun h => Nat.le_trans hF.size h)
   replace B14 := B14.only hN58 ap_Fp_b11
   have ap_A59_b11 : Apart A59 b11 := moved_apart mv62 ap_A_b11 B14.lt
   have ap2_A59_Fp50 : ∀ k, inA A59 k → Fp50 k → False := moved_apart2P mv62 (symP ap2_Fp50_A) fun _ hg => H51.lt hg
   refine Zm ?_
   refine Zt ?_
   refine Zt ?_
   refine Zt ?_
   refine Zna (z := zv4) (cs := rcE.arr rc0) (by kernel_rfl) fun b69 w70 hN71 B72 hb73 => ?_
   replace B14 := B14.new hN68
   have ne_b11_b69 : NE b11 b69 := NE.mk (Nat.lt_of_lt_of_le B14.lt hb73)
   replace H51 := H51.new hN68
   have ap_Fp50_b69 : ¬ Fp50 b69 := H51.apart hb73
   replace O55 := O55.new hN68
   have ap_A53_b69 : Apart A53 b69 := O55.apart hb73
   have ap_A59_b69 : Apart A59 b69 := V61.apart hb73
   have ap_B63_b69 : Apart B63 b69 := V65.apart hb73
   replace hF := hF.trNew hN68
   have g_b69 := Nat.le_trans hF.size hb73
   refine ZsS sz42 (rcE.all _) B72 (rcE.size _) (rcE.size _) fun w74 hO75 hBq => ?_
   replace B72 := hBq
   clear hBq
   refine Za ?_
   refine Za ?_
   refine Znn ?_
   refine Zsq ?_
   refine ZhT (n := 10) 10 (fun w => Blk w b69 42 (rcE.arr (rav ((takeF d s.msg).1) A59 cap60)) ∧ True) ?_
   intro w76 hN77
   replace B72 := B72.new hN77
   have hS9 := And.intro B72 trivial
   refine ZhE 0 rcE ag42 hS9 (fun _ ⟨B72, _⟩ => (B72.rangeE rcE)) ?_
   refine Zhm 1 hS9 ?_
   refine Zhm 2 hS9 ?_
   refine Zht 3 rfl (.bool true) hS9 (fun _ fr _ _ => x_eql rfl (fr.ev rfl) (fr.ev rfl) (by simp)) ?_
   refine Zhm 4 hS9 ?_
   refine Zhm 5 hS9 ?_
   refine Zhm 6 hS9 ?_
   refine Zh1 7 ?_
   replace O55 := ((O55.new hN71).only hO75 (Apart.ne1 ap_A53_b69)).new hN77
   replace V65 := ((V65.new hN71).only hO75 (Apart.ne1 ap_B63_b69)).new hN77
   refine Zk cf24 (msgs_c (la := (takeF d s.msg).2.1) (lb := (takeF d s.msg).2.1) (O55.view) (V65)) ?_
   rintro v w78 ⟨rfl, hN79⟩
   intro a fr
   rw [show decide ((takeF d s.msg).2.1 = (takeF d s.msg).2.1) = true from decide_eq_true rfl] at fr
   revert a
   replace B72 := B72.new hN79
   refine Zhb ⟨B72, trivial⟩ ?_
   have hS9 := And.intro B72 trivial
   refine Zht 8 rfl (.bool true) hS9 (fun _ fr _ _ => x_pick_t rfl (fr.ev rfl) (fr.ev rfl)) ?_
   refine Zh1 9 ?_
   replace B14 := (((B14.new hN71).only hO75 ne_b11_b69).new hN77).new hN79
   refine ZsS sz42 (rcE.all _) B14 (rcE.size _) (rcE.size _) fun w80 hO81 hBq => ?_
   replace B14 := hBq
   clear hBq
   replace B72 := B72.only hO81 ne_b11_b69.symm
   refine Zhb ⟨B72, trivial⟩ ?_
   refine Zhn ?_
   refine Ztl ?_
   refine Za ?_
   refine Znn ?_
   refine Zrt ?_
   refine Zr2 ?_
   refine Zr1 ?_
   refine Zre rfl [_, _] ⟨⟨_, rfl, loadV_E (E := rcE) ag42 rfl (B14.rangeE rcE)⟩, rfl, trivial⟩ ?_
   have hsd : stepF d s = (takeF d s.msg).1 := by unfold stepF; rw [if_neg hc16, if_pos hc49]
   rw [hsd]
   replace H51 := ((((H51.new hN71).only hO75 (ne1P ap_Fp50_b69)).new hN77).new hN79).only hO81 (ne1P ap_Fp50_b11)
   replace V61 := ((((V61.new hN71).only hO75 (Apart.ne1 ap_A59_b69)).new hN77).new hN79).only hO81 (Apart.ne1 ap_A59_b11)
   replace hF := ((((hF.trNew hN71).loc hO75 (.inr g_b69)).trNew hN77).trNew hN79).loc hO81 (.inr g_b11)
   exact ⟨_, rfl, A59, cap60, Fp50, rfl, H51, V61, (symP ap2_A59_Fp50), gA_Fp50, mA_A59, hF⟩
  ·have hc49 := of_decide_eq_false hc49
   refine Zsr ?_
   refine Zv _ (fun _ fr => x_eql rfl (fr.ev rfl) rfl rfl) ?_
   refine Za ?_
   refine Znn ?_
   refine Zcd (fun hc82 => ?_) (fun hc82 => ?_)
   ·have hc82 := of_decide_eq_true hc82
    refine Zsr ?_
    refine Zm ?_
    refine Zf fo45_1 ?_
    refine Zd (v := .int .i64 s.pick) pl3 (B9.cell 1 rfl) ?_
    replace H := H.new hN13
    refine Zk cf25 (u_evict H s.pick) ?_
    rintro v w90 ⟨A86, cap87, rfl, O88, hA89, Fp83, H84, hN91, mv85⟩
    replace hV := hV.new hN13
    have ap2_Fp83_A : ∀ k, Fp83 k → inA A k → False := moved_apart2P mv85 ap2_Fp_A fun _ hg => hV.lt hg
    have ap_Fp83_b11 : ¬ Fp83 b11 := moved_apartP mv85 ap_Fp_b11 B14.lt
    replace hF := hF.trNew hN13
    have gA_Fp83 := gA_movedP hF mv85 gA_Fp
    have hdok_H := H.2
    clear H
    refine Za ?_
    refine Znn ?_
    refine Zsr ?_
    replace B4 := ((B4.new hN8).new hN13).only hN91 ap_Fp_b1
    refine ZE rcE ag42 (B4.rangeE rcE) ?_
    refine Zf fo45_1 ?_
    replace B9 := B9.only hN91 ap_Fp_b6
    refine Zd (v := .int .i64 s.pick) pl3 (B9.cell 1 rfl) ?_
    replace hV := hV.only hN91 (fun g h1 h2 => (symP ap2_Fp_A) g h1 h2)
    refine Zk cf26 (ur_evict hV hdok_H s.pick) ?_
    rintro v w100 ⟨A92, cap93, B96, cB97, rfl, V94, V98, mv95, hB99, hN101⟩
    replace hF := hF.locP hN91 gA_Fp
    have mA_A92 : ∀ g, inA A92 g → inA A g ∨ w.heap.size ≤ g := fun g hg => (mv95 g hg).imp (fun h => h) (fun h => Nat.le_trans hF.size h)
    replace B14 := B14.only hN91 ap_Fp_b11
    have ap_A92_b11 : Apart A92 b11 := moved_apart mv95 ap_A_b11 B14.lt
    have ap2_A92_Fp83 : ∀ k, inA A92 k → Fp83 k → False := moved_apart2P mv95 (symP ap2_Fp83_A) fun _ hg => H84.lt hg
    refine Zm ?_
    refine Zt ?_
    refine Zt ?_
    refine Zna (z := zv4) (cs := rcE.arr rc0) (by kernel_rfl) fun b102 w103 hN104 B105 hb106 => ?_
    replace B14 := B14.new hN101
    have ne_b11_b102 : NE b11 b102 := NE.mk (Nat.lt_of_lt_of_le B14.lt hb106)
    replace H84 := H84.new hN101
    have ap_Fp83_b102 : ¬ Fp83 b102 := H84.apart hb106
    replace O88 := O88.new hN101
    have ap_A86_b102 : Apart A86 b102 := O88.apart hb106
    have ap_A92_b102 : Apart A92 b102 := V94.apart hb106
    have ap_B96_b102 : Apart B96 b102 := V98.apart hb106
    replace hF := hF.trNew hN101
    have g_b102 := Nat.le_trans hF.size hb106
    refine ZsS sz42 (rcE.all _) B105 (rcE.size _) (rcE.size _) fun w107 hO108 hBq => ?_
    replace B105 := hBq
    clear hBq
    refine Za ?_
    refine Znn ?_
    refine Zsq ?_
    refine ZhT (n := 5) 5 (fun w => Blk w b102 42 (rcE.arr (rav ((evictF d s.pick).1) A92 cap93)) ∧ True) ?_
    intro w109 hN110
    replace B105 := B105.new hN110
    have hS9 := And.intro B105 trivial
    refine ZhE 0 rcE ag42 hS9 (fun _ ⟨B105, _⟩ => (B105.rangeE rcE)) ?_
    refine Zhm 1 hS9 ?_
    refine Zhm 2 hS9 ?_
    refine Zh1 3 ?_
    replace O88 := ((O88.new hN104).only hO108 (Apart.ne1 ap_A86_b102)).new hN110
    replace V98 := ((V98.new hN104).only hO108 (Apart.ne1 ap_B96_b102)).new hN110
    refine Zk cf24 (msgs_c (la := (evictF d s.pick).2) (lb := (evictF d s.pick).2) (O88.view) (V98)) ?_
    rintro v w111 ⟨rfl, hN112⟩
    intro a fr
    rw [show decide ((evictF d s.pick).2 = (evictF d s.pick).2) = true from decide_eq_true rfl] at fr
    revert a
    replace B105 := B105.new hN112
    refine Zhb ⟨B105, trivial⟩ ?_
    refine Zh1 4 ?_
    replace B14 := (((B14.new hN104).only hO108 ne_b11_b102).new hN110).new hN112
    refine ZsS sz42 (rcE.all _) B14 (rcE.size _) (rcE.size _) fun w113 hO114 hBq => ?_
    replace B14 := hBq
    clear hBq
    replace B105 := B105.only hO114 ne_b11_b102.symm
    refine Zhb ⟨B105, trivial⟩ ?_
    refine Zhn ?_
    refine Ztl ?_
    refine Za ?_
    refine Znn ?_
    refine Zrt ?_
    refine Zr2 ?_
    refine Zr1 ?_
    refine Zre rfl [_, _] ⟨⟨_, rfl, loadV_E (E := rcE) ag42 rfl (B14.rangeE rcE)⟩, rfl, trivial⟩ ?_
    have hsd : stepF d s = (evictF d s.pick).1 := by unfold stepF; rw [if_neg hc16, if_neg hc49, if_pos hc82]
    rw [hsd]
    replace H84 := ((((H84.new hN104).only hO108 (ne1P ap_Fp83_b102)).new hN110).new hN112).only hO114 (ne1P ap_Fp83_b11)
    replace V94 := ((((V94.new hN104).only hO108 (Apart.ne1 ap_A92_b102)).new hN110).new hN112).only hO114 (Apart.ne1 ap_A92_b11)
    replace hF := ((((hF.trNew hN104).loc hO108 (.inr g_b102)).trNew hN110).trNew hN112).loc hO114 (.inr g_b11)
    exact ⟨_, rfl, A92, cap93, Fp83, rfl, H84, V94, (symP ap2_A92_Fp83), gA_Fp83, mA_A92, hF⟩
   ·have hc82 := of_decide_eq_false hc82
    refine Zsr ?_
    refine Zv _ (fun _ fr => x_eql rfl (fr.ev rfl) rfl rfl) ?_
    refine Za ?_
    refine Znn ?_
    refine Zcd (fun hc115 => ?_) (fun hc115 => ?_)
    ·have hc115 := of_decide_eq_true hc115
     refine Zsr ?_
     refine Zm ?_
     refine Zf fo45_4 ?_
     refine Zd (v := .int .u32 s.addr) pl32 (B9.cell 4 rfl) ?_
     refine Zf fo45_2 ?_
     refine Zd (v := .int .i64 s.width) pl3 (B9.cell 2 rfl) ?_
     refine Zf fo45_5 ?_
     refine Zd (v := .int .u32 s.value) pl32 (B9.cell 5 rfl) ?_
     replace H := H.new hN13
     refine Zk cf15 (u_write H s.addr s.ha s.width s.value) ?_
     rintro v w119 ⟨rfl, Fp116, H117, hN120, mv118⟩
     replace hV := hV.new hN13
     have ap2_Fp116_A : ∀ k, Fp116 k → inA A k → False := moved_apart2P mv118 ap2_Fp_A fun _ hg => hV.lt hg
     have ap_Fp116_b11 : ¬ Fp116 b11 := moved_apartP mv118 ap_Fp_b11 B14.lt
     replace hF := hF.trNew hN13
     have gA_Fp116 := gA_movedP hF mv118 gA_Fp
     have hdok_H := H.2
     clear H
     refine Za ?_
     refine Znn ?_
     refine Zsr ?_
     replace B4 := ((B4.new hN8).new hN13).only hN120 ap_Fp_b1
     refine ZE rcE ag42 (B4.rangeE rcE) ?_
     refine Zf fo45_4 ?_
     replace B9 := B9.only hN120 ap_Fp_b6
     refine Zd (v := .int .u32 s.addr) pl32 (B9.cell 4 rfl) ?_
     refine Zf fo45_2 ?_
     refine Zd (v := .int .i64 s.width) pl3 (B9.cell 2 rfl) ?_
     refine Zf fo45_5 ?_
     refine Zd (v := .int .u32 s.value) pl32 (B9.cell 5 rfl) ?_
     replace hV := hV.only hN120 (fun g h1 h2 => (symP ap2_Fp_A) g h1 h2)
     refine Zk cf16 (ur_put hV hdok_H s.addr s.ha s.width s.value s.hv) ?_
     rintro v w129 ⟨A121, cap122, rfl, V123, mv124, hN130⟩
     replace hF := hF.locP hN120 gA_Fp
     have mA_A121 : ∀ g, inA A121 g → inA A g ∨ w.heap.size ≤ g := fun g hg => (mv124 g hg).imp (fun h => h) (fun h => Nat.le_trans hF.size h)
     replace B14 := B14.only hN120 ap_Fp_b11
     have ap_A121_b11 : Apart A121 b11 := moved_apart mv124 ap_A_b11 B14.lt
     have ap2_A121_Fp116 : ∀ k, inA A121 k → Fp116 k → False := moved_apart2P mv124 (symP ap2_Fp116_A) fun _ hg => H117.lt hg
     refine Zm ?_
     refine Zt ?_
     refine Zt ?_
     refine Zna (z := zv4) (cs := rcE.arr rc0) (by kernel_rfl) fun b131 w132 hN133 B134 hb135 => ?_
     replace B14 := B14.new hN130
     have ne_b11_b131 : NE b11 b131 := NE.mk (Nat.lt_of_lt_of_le B14.lt hb135)
     replace H117 := H117.new hN130
     have ap_Fp116_b131 : ¬ Fp116 b131 := H117.apart hb135
     have ap_A121_b131 : Apart A121 b131 := V123.apart hb135
     replace hF := hF.trNew hN130
     have g_b131 := Nat.le_trans hF.size hb135
     refine ZsS sz42 (rcE.all _) B134 (rcE.size _) (rcE.size _) fun w136 hO137 hBq => ?_
     replace B134 := hBq
     clear hBq
     refine Za ?_
     refine Znn ?_
     refine Zsr ?_
     refine ZE rcE ag42 (B134.rangeE rcE) ?_
     refine Zm ?_
     refine Zm ?_
     refine Zv (.bool true) (fun _ fr => x_eql rfl (fr.ev rfl) (fr.ev rfl) (by simp)) ?_
     replace B14 := (B14.new hN133).only hO137 ne_b11_b131
     refine ZsS sz42 (rcE.all _) B14 (rcE.size _) (rcE.size _) fun w138 hO139 hBq => ?_
     replace B14 := hBq
     clear hBq
     refine Za ?_
     refine Znn ?_
     refine Zrt ?_
     refine Zr2 ?_
     refine Zr1 ?_
     refine Zre rfl [_, _] ⟨⟨_, rfl, loadV_E (E := rcE) ag42 rfl (B14.rangeE rcE)⟩, rfl, trivial⟩ ?_
     have hsd : stepF d s = (writeF d s.addr s.width s.value).1 := by unfold stepF; rw [if_neg hc16, if_neg hc49, if_neg hc82, if_pos hc115]
     rw [hsd]
     replace H117 := ((H117.new hN133).only hO137 (ne1P ap_Fp116_b131)).only hO139 (ne1P ap_Fp116_b11)
     replace V123 := ((V123.new hN133).only hO137 (Apart.ne1 ap_A121_b131)).only hO139 (Apart.ne1 ap_A121_b11)
     replace hF := ((hF.trNew hN133).loc hO137 (.inr g_b131)).loc hO139 (.inr g_b11)
     exact ⟨_, rfl, A121, cap122, Fp116, rfl, H117, V123, (symP ap2_A121_Fp116), gA_Fp116, mA_A121, hF⟩
    ·have hc115 := of_decide_eq_false hc115
     refine Zsk ?_
     refine Zb ?_
     refine Znx ?_
     refine Zsr ?_
     refine Zm ?_
     refine Zf fo45_4 ?_
     refine Zd (v := .int .u32 s.addr) pl32 (B9.cell 4 rfl) ?_
     refine Zf fo45_2 ?_
     refine Zd (v := .int .i64 s.width) pl3 (B9.cell 2 rfl) ?_
     replace H := H.new hN13
     refine Zk cf17 (u_read H s.addr s.ha s.width) ?_
     rintro v w140 ⟨rfl, hN141⟩
     refine Zm ?_
     refine Zt ?_
     refine Zt ?_
     refine Za ?_
     refine Za ?_
     refine Znn ?_
     refine Zsr ?_
     replace B4 := ((B4.new hN8).new hN13).new hN141
     refine ZE rcE ag42 (B4.rangeE rcE) ?_
     refine Zf fo45_4 ?_
     replace B9 := B9.new hN141
     refine Zd (v := .int .u32 s.addr) pl32 (B9.cell 4 rfl) ?_
     refine Zf fo45_2 ?_
     refine Zd (v := .int .i64 s.width) pl3 (B9.cell 2 rfl) ?_
     replace hV := (hV.new hN13).new hN141
     replace H := H.new hN141
     refine Zk cf18 (ur_read hV H.2 s.addr s.ha s.width) ?_
     rintro v w142 ⟨rfl, hN143⟩
     refine Zm ?_
     refine Zt ?_
     refine Zt ?_
     refine Za ?_
     refine Za ?_
     refine Znn ?_
     refine Zsr ?_
     replace B4 := B4.new hN143
     refine ZE rcE ag42 (B4.rangeE rcE) ?_
     refine Zm ?_
     refine Zm ?_
     refine Zv (.bool true) (fun _ fr => x_eql rfl (fr.ev rfl) (fr.ev rfl) (by simp)) ?_
     refine Zm ?_
     refine Zm ?_
     refine Zm ?_
     refine Zv (.bool true) (fun _ fr => x_eql rfl (fr.ev rfl) (fr.ev rfl) (by simp)) ?_
     refine Zpt ?_
     replace B14 := (B14.new hN141).new hN143
     refine ZsS sz42 (rcE.all _) B14 (rcE.size _) (rcE.size _) fun w144 hO145 hBq => ?_
     replace B14 := hBq
     clear hBq
     refine Za ?_
     refine Znn ?_
     refine Zrt ?_
     refine Zre rfl [_, _] ⟨⟨_, rfl, loadV_E (E := rcE) ag42 rfl (B14.rangeE rcE)⟩, rfl, trivial⟩ ?_
     have hsd : stepF d s = d := by unfold stepF; rw [if_neg hc16, if_neg hc49, if_neg hc82, if_neg hc115]
     rw [hsd]
     replace hF := (((hF.trNew hN13).trNew hN141).trNew hN143).loc hO145 (.inr g_b11)
     replace H := (H.new hN143).only hO145 (ne1P ap_Fp_b11)
     replace hV := (hV.new hN143).only hO145 (Apart.ne1 ap_A_b11)
     exact ⟨_, rfl, A, cap, Fp, rfl, H, hV, ap2_Fp_A, gA_Fp, mA_A, hF⟩
end Go.Proofs.Ytflnlmibkbojcaa
namespace Go.Proofs.Ytflnlmibkbojcaa
open Go.RowKit
def setB (b : B16) (j : Nat) (v : Int) (h : 0 ≤ v ∧ v < 256) : B16 := ⟨b.1.set j v, by rw [List.length_set]; exact b.2.1, fun a ha => by
  rcases List.mem_or_eq_of_mem_set ha with ha | rfl
  · exact b.2.2 a ha
  · exact h⟩
theorem msg_setb (m : Msg) (j : Nat) (v : Int) (h : 0 ≤ v ∧ v < 256) : (msgE.arr m).setIfInBounds (4 + j) (.int .u8 v) = msgE.arr { m with bs := setB m.bs j v h } := by
  apply Array.toList_inj.1
  rw [Array.toList_setIfInBounds, Enc.toList, Enc.toList]
  show (Msg.cells _).set (4 + j) _ = Msg.cells _
  rw [Nat.add_comm 4]
  simp [Msg.cells, setB, List.map_set]
def kd0 : CD := ⟨0, 1, 1, [], none, none⟩
def kd1 : CD := ⟨0, 1, 1, [], some (3, false), none⟩
def km1 : Msg := mkM 1 0 4 3
def km2 : Msg := { mkM 9 4 0 3 with bs := setB b16z 0 7 (by decide) }
def kl2 : Ln := mkL 3 2 (setB b16z 0 7 (by decide))
def kd2 : CD := ⟨0, 1, 1, [kl2], none, none⟩
def km3 : Msg := mkM 13 0 4 3
theorem known_1 : askF kd0 3 (by decide) false 0 = (kd1, [km1], 0) := by rfl
theorem known_2 : takeF kd1 km2 = (kd2, [km3], 0) := by rfl
theorem known_3 : readF kd2.L 48 4 = (7, 0) := by decide +kernel
section
variable {w : World} {Fp : Nat → Prop} {b : Nat}
theorem k_ask (H : CacAt w Fp b kd0) : Calls Try.prog 13 #[.pointer (some ⟨b, 0, none⟩), .int .u32 3, .bool false, .int .i64 0] w (Ret fun v w' => TakeU w Fp b (kd1, [km1], 0) v w') := by
  have := u_ask H 3 (by decide) false 0
  rwa [known_1] at this
theorem k_take (H : CacAt w Fp b kd1) : Calls Try.prog 14 #[.pointer (some ⟨b, 0, none⟩), .agg (msgE.arr km2)] w (Ret fun v w' => TakeU w Fp b (kd2, [km3], 0) v w') := by
  have := u_take H km2
  rwa [known_2] at this
theorem k_read (H : CacAt w Fp b kd2) : Calls Try.prog 17 #[.pointer (some ⟨b, 0, none⟩), .int .u32 48, .int .i64 4] w (Ret fun v w' => v = .tuple #[.int .u32 7, .int .i64 0] ∧ New w w') := by
  have := u_read H 48 (by decide) 4
  rwa [known_3] at this
end
end Go.Proofs.Ytflnlmibkbojcaa
namespace Go.Proofs.Ytflnlmibkbojcaa
open Go.RowKit
set_option maxRecDepth 100000 in
set_option maxHeartbeats 4000000 in
theorem known_c (w : World) : Calls Try.prog 11 #[] w (Ret fun v w' => v = .bool true ∧ New w w') := by
 have hF := Only.refl (fun _ => False) w
 refine Zen 75 Try.func11 ?_
 refine Zsr ?_
 refine Za ?_
 refine Znn ?_
 refine Zsr ?_
 refine Zk (args := #[.int .i64 0, .int .i64 1, .int .i64 1]) cf12 (u_new 0 1 1 (by omega) (by decide) _) ?_
 rintro v w5 ⟨b1, Fp2, rfl, H3, hb4, hN6⟩
 have gA_Fp2 := gA_newP hF hb4
 refine Zm ?_
 refine Zt ?_
 refine Zt ?_
 refine Za ?_
 refine Za ?_
 refine Znn ?_
 refine Zsr ?_
 refine Zm ?_
 refine Zk cf13 (k_ask H3) ?_
 rintro v w14 ⟨A10, cap11, rfl, O12, hA13, Fp7, H8, hN15, mv9⟩
 replace hF := hF.trNew hN6
 have gA_Fp7 := gA_movedP hF mv9 gA_Fp2
 have hdok_H3 := H3.2
 clear H3
 have ap2_Fp7_A10 := H8.msg_ap O12
 refine Zm ?_
 refine Zt ?_
 refine Zt ?_
 refine Za ?_
 refine Za ?_
 refine Znn ?_
 refine Zsr ?_
 refine Zv (.agg (msgE.arr (mkM 9 4 0 3))) (fun _ _ => x_build (cells := msgE.arr (mkM 9 4 0 3)) rfl (by kernel_rfl)) ?_
 refine Zna (z := zv3) (cs := msgE.arr msg0) (by kernel_rfl) fun b16 w17 hN18 B19 hb20 => ?_
 have ap_Fp7_b16 : ¬ Fp7 b16 := H8.apart hb20
 have ap_A10_b16 : Apart A10 b16 := O12.apart hb20
 replace hF := hF.locP hN15 gA_Fp2
 have g_b16 := Nat.le_trans hF.size hb20
 refine ZsS sz35 (msgE.all _) B19 (msgE.size _) (msgE.size _) fun w21 hO22 hBq => ?_
 replace B19 := hBq
 clear hBq
 refine Znn ?_
 refine Zsr ?_
 refine Zf fo35_4 ?_
 refine Zv (.pointer (some ⟨b16, 4 + 0, none⟩)) (fun _ fr => x_indexArr Try.underlying22 sz16 rfl (fr.ev rfl) rfl (by omega) (show 4 + 0 * 1 = 4 + 0 by omega)) ?_
 refine Zs1 (cs' := msgE.arr { (mkM 9 4 0 3) with bs := setB (mkM 9 4 0 3).bs 0 7 (by decide) }) sz5 B19 (by rw [msgE.size]; show _ < 20; omega) (msg_setb _ 0 _ (by decide)) fun w23 hO24 hBq => ?_
 replace B19 := hBq
 clear hBq
 refine Znn ?_
 refine Zsq ?_
 replace B19 : Blk w23 b16 35 (msgE.arr km2) := B19
 refine Zrg ?_
 refine Zm ?_
 refine ZE msgE ag35 (B19.rangeE msgE) ?_
 replace H8 := ((H8.new hN18).only hO22 (ne1P ap_Fp7_b16)).only hO24 (ne1P ap_Fp7_b16)
 refine Zk cf14 (k_take H8) ?_
 rintro v w32 ⟨A28, cap29, rfl, O30, hA31, Fp25, H26, hN33, mv27⟩
 have hdok_H8 := H8.2
 clear H8
 refine Zm ?_
 refine Zt ?_
 refine Zt ?_
 refine Za ?_
 refine Za ?_
 refine Znn ?_
 refine Zsr ?_
 refine Zm ?_
 refine Zk cf17 (k_read H26) ?_
 rintro v w34 ⟨rfl, hN35⟩
 refine Zm ?_
 refine Zt ?_
 refine Zt ?_
 refine Za ?_
 refine Za ?_
 refine Znn ?_
 refine Zsr ?_
 refine Zm ?_
 refine Zv (.bool true) (fun _ fr => x_eql rfl (fr.ev rfl) rfl rfl) ?_
 refine Zm ?_
 refine Zm ?_
 refine Zv (.bool true) (fun _ fr => x_eql rfl (fr.ev rfl) rfl rfl) ?_
 refine Zpt ?_
 refine Zm ?_
 refine Zm ?_
 refine Zv (.bool true) (fun _ fr => x_eql rfl (fr.ev rfl) rfl rfl) ?_
 refine Zpt ?_
 refine Zm ?_
 refine Zm ?_
 refine Zv (.bool true) (fun _ fr => x_eql rfl (fr.ev rfl) rfl rfl) ?_
 refine Zpt ?_
 refine Zm ?_
 refine Zm ?_
 refine Zv _ (fun _ fr => x_len Try.underlying29 rfl (fr.ev rfl)) ?_
 refine Zv (.bool true) (fun _ fr => x_eql rfl (fr.ev rfl) rfl rfl) ?_
 refine Zpt ?_
 refine Zm ?_
 refine Zm ?_
 replace O12 := ((((O12.new hN18).only hO22 (Apart.ne1 ap_A10_b16)).only hO24 (Apart.ne1 ap_A10_b16)).only hN33 (fun g h1 h2 => (symP ap2_Fp7_A10) g h1 h2)).new hN35
 obtain ⟨g36, o37, hA38⟩ := (O12.view).some_ (by first | omega | decide)
 refine Zv (.pointer (some ⟨g36, o37 + 0 * 20, none⟩)) (fun _ fr => x_indexV Try.underlying29 sz35 rfl (fr.ev rfl) hA38 rfl (by first | omega | decide) rfl) ?_
 refine Zf fo35_0 ?_
 refine Zd (v := .int .i64 1) pl33 (range_cell ((O12.view).elem hA38 0 msg0 (by first | omega | decide)) 0 rfl rfl) ?_
 refine Zv (.bool true) (fun _ fr => x_eql rfl (fr.ev rfl) rfl rfl) ?_
 refine Zpt ?_
 refine Zm ?_
 refine Zm ?_
 refine Zv _ (fun _ fr => x_len Try.underlying29 rfl (fr.ev rfl)) ?_
 refine Zv (.bool true) (fun _ fr => x_eql rfl (fr.ev rfl) rfl rfl) ?_
 refine Zpt ?_
 refine Zm ?_
 refine Zm ?_
 replace O30 := O30.new hN35
 obtain ⟨g39, o40, hA41⟩ := (O30.view).some_ (by first | omega | decide)
 refine Zv (.pointer (some ⟨g39, o40 + 0 * 20, none⟩)) (fun _ fr => x_indexV Try.underlying29 sz35 rfl (fr.ev rfl) hA41 rfl (by first | omega | decide) rfl) ?_
 refine Zf fo35_0 ?_
 refine Zd (v := .int .i64 13) pl33 (range_cell ((O30.view).elem hA41 0 msg0 (by first | omega | decide)) 0 rfl rfl) ?_
 refine Zv (.bool true) (fun _ fr => x_eql rfl (fr.ev rfl) rfl rfl) ?_
 refine Zpt ?_
 refine Zm ?_
 refine Zm ?_
 refine Zv (.bool true) (fun _ fr => x_eql rfl (fr.ev rfl) rfl rfl) ?_
 refine Zpt ?_
 refine Za ?_
 refine Znn ?_
 refine Zrt ?_
 refine Zre rfl [_] ⟨rfl, trivial⟩ ?_
 replace hF := ((((hF.trNew hN18).loc hO22 (.inr g_b16)).loc hO24 (.inr g_b16)).locP hN33 gA_Fp7).trNew hN35
 exact ⟨_, rfl, rfl, hF⟩
end Go.Proofs.Ytflnlmibkbojcaa
namespace Go.Proofs.Ytflnlmibkbojcaa
open Go.RowKit
theorem allL_nil (n : Nat) : allL n [] = [] := by
  unfold allL
  rw [show ofs n [] = fun _ => [] from funext fun _ => rfl]
  simp
theorem rav_new (id : Int) (n : Nat) (ways : Int) : rav ⟨id, n, ways, [], none, none⟩ none 0 = RC.mk id ((n : Nat) : Int) ways none 0 0 false 0 false false ln0 := by
  unfold rav rcv rdOf
  dsimp only
  rw [allL_nil]
  rfl
def mkS (kind pick width line addr value : Int) (wr : Bool) (msg : Msg) (hl : 0 ≤ line ∧ line < 4294967296 := by omega) (ha : 0 ≤ addr ∧ addr < 4294967296 := by omega) (hv : 0 ≤ value ∧ value < 4294967296 := by omega) : Stp := ⟨kind, pick, width, line, addr, value, wr, msg, hl, ha, hv⟩
theorem u32bd (x : Int) : 0 ≤ IntKind.u32.wrap x ∧ IntKind.u32.wrap x < 4294967296 := by
  rw [u32m]
  exact ⟨Int.emod_nonneg x (by decide), Int.emod_lt_of_pos x (by decide)⟩
end Go.Proofs.Ytflnlmibkbojcaa
namespace Go.Proofs.Ytflnlmibkbojcaa
open Go.RowKit
theorem fold_off (off : Nat) (l : List Value) : ∀ (k : Nat) (z : Array Value), off + k + l.length ≤ z.size → (l.zipIdx k).foldl (fun cs x => cs.setIfInBounds (off + x.2) x.1) z = (z.toList.take (off + k) ++ (l ++ z.toList.drop (off + k + l.length))).toArray := by
  induction l with
  | nil => intro k z h; simp
  | cons v l ih =>
    intro k z h
    simp only [List.length_cons] at h
    rw [List.zipIdx_cons, List.foldl_cons, ih (k + 1) _ (by simp; omega)]
    obtain ⟨z⟩ := z
    simp only [List.size_toArray] at h
    congr 1
    simp only [List.setIfInBounds_toArray]
    rw [show off + (k + 1) = off + k + 1 by omega, List.take_set, List.drop_set_of_lt (by omega), List.take_succ_eq_append_getElem (by omega), List.set_append_right _ _ (by rw [List.length_take]; omega)]
    simp [List.length_take, Nat.min_eq_left (show off + k ≤ z.length by omega), Nat.add_assoc, Nat.add_comm 1 l.length]
theorem fill_step {n q : Nat} {z cs r : Array Value} {v : Value} {rest : List (Nat × Value)} (hv : v.cells = cs) (hc : cs.size = n) (hz : q * n + n ≤ z.size)
    (h : Instr.fill (fun q => some (q * n, n)) (z.toList.take (q * n) ++ (cs.toList ++ z.toList.drop (q * n + n))).toArray rest = some r) : Instr.fill (fun q => some (q * n, n)) z ((q, v) :: rest) = some r := by
  unfold Instr.fill
  simp only [hv, hc, ne_eq, not_true_eq_false, decide_false, Bool.false_or]
  rw [if_neg (by simpa using hz)]
  rw [← Array.foldl_toList, Array.toList_zipIdx]
  have := fold_off (q * n) cs.toList 0 z (by simp [hc]; omega)
  rw [Nat.add_zero] at this
  rw [show (cs.toList.zipIdx.foldl (fun cs x => cs.setIfInBounds (q * n + x.2) x.1) z) = _ from this, Array.length_toList, hc]
  exact h
section
variable {P : Program} {α : Type} [DecidableEq α] {E : Enc P α} {N : Nat × List Deferred} {T : List (Nat × Value)} {a : Act} {w : World} {Q : Exit → Act → World → Prop} {ops : Array Oper} {rest : List Oper} {o : Oper} {d : Nat} {t : TypeId} {bytes : Nat}
theorem fill_2 {n : Nat} {z c0 c1 : Array Value} {v0 v1 : Value} (h0 : v0.cells = c0) (h1 : v1.cells = c1) (s0 : c0.size = n) (s1 : c1.size = n) (hz : z.size = 2 * n) : Instr.fill (fun q => some (q * n, n)) z [(0, v0), (1, v1)] = some (c0.toList ++ c1.toList).toArray := by
  refine fill_step h0 s0 (by omega) (fill_step h1 s1 (by simp [s0, hz]; omega) ?_)
  unfold Instr.fill
  congr 1
  apply Array.toList_inj.1
  simp [s0, hz]
  omega
theorem fill_3 {n : Nat} {z c0 c1 c2 : Array Value} {v0 v1 v2 : Value} (h0 : v0.cells = c0) (h1 : v1.cells = c1) (h2 : v2.cells = c2) (s0 : c0.size = n) (s1 : c1.size = n) (s2 : c2.size = n) (hz : z.size = 3 * n) : Instr.fill (fun q => some (q * n, n)) z [(0, v0), (1, v1), (2, v2)] = some (c0.toList ++ c1.toList ++ c2.toList).toArray := by
  have e0 : c0.toList.length = n := by simpa using s0
  have e1 : c1.toList.length = n := by simpa using s1
  have e2 : c2.toList.length = n := by simpa using s2
  refine fill_step h0 s0 (by omega) (fill_step h1 s1 (by simp [s0, hz]; omega) (fill_step h2 s2 (by simp [s0, s1, hz]; omega) ?_))
  unfold Instr.fill
  congr 1
  apply Array.toList_inj.1
  simp only [Nat.zero_mul, Nat.zero_add, Nat.one_mul, List.take_zero, List.nil_append]
  rw [List.take_left' (show c0.toList.length = n from e0)]
  rw [show (c0.toList ++ z.toList.drop n).drop (n + n) = z.toList.drop (2 * n) by
    rw [List.drop_append, List.drop_eq_nil_of_le (by omega), List.nil_append, e0, List.drop_drop]
    congr 1
    omega]
  rw [show List.take (2 * n) (c0.toList ++ (c1.toList ++ z.toList.drop (2 * n))) = c0.toList ++ c1.toList by rw [← List.append_assoc]; exact List.take_left' (by rw [List.length_append, e0, e1]; omega)]
  rw [List.drop_eq_nil_of_le (by rw [List.length_append, List.length_append, List.length_drop, e0, e1, Array.length_toList, hz]; omega)]
  simp
theorem fx_build2 (hE : ElemI E t bytes) (hs : E.n ≤ 1000) (fr : Fr N T a) (hw : Region.wanted o (yielded ops a.tmps) = true) (hd : o.dst = some d) (hN : d < N.1) {x y : Operand} (ho : o.op = .buildSlice t 2 #[(0, x), (1, y)]) {p q : α} {v0 v1 : Value} (hx : a.eval x = v0) (hy : a.eval y = v1) (h0 : v0.cells = E.arr p) (h1 : v1.cells = E.arr q)
    (next : ∀ A w1, New w w1 → Own E w1 A 2 [p, q] → (∀ g, inA A g → w.heap.size ≤ g) → ∀ a, Fr N ((d, .slice A 2 2) :: T) a → wpList P ops Q rest a w1) : wpList P ops Q (o :: rest) a w := by
  obtain ⟨i, z, hi, hz, hsz, hby, hzc⟩ := hE.info
  have hpos := E.pos
  refine fx_val (v := .slice (some ⟨w.heap.size, 0, none⟩) 2 2) (w1 := w.alloc (.cells (((E.arr p).toList ++ (E.arr q).toList).toArray) E.T)) fr hw hd hN ?_ fun a fr => next _ _ ((Only.refl _ w).alloc _) ⟨by simp, by unfold maxLen; omega, .inr ⟨_, 0, _, rfl, Go.heap_alloc_new w _, by simp [E.size]; omega, ?_⟩⟩ inA_new a fr
  · have hfill : Instr.fill (fun q => some (q * i.size, i.size)) ((Array.range (2 * i.size)).map (z.cells[· % z.cells.size]!)) [(0, v0), (1, v1)] = some ((E.arr p).toList ++ (E.arr q).toList).toArray := fill_2 h0 h1 (by rw [E.size, hsz]) (by rw [E.size, hsz]) (by simp)
    have := run_buildSlice (P := P) w t E.T 2 #[(0, v0), (1, v1)] _ i z hE.ty hi hz (by rw [hsz]; omega) (by rw [hsz]; omega) hfill
    simp [execOp, ho, hx, hy, this]
  · rw [List.drop_zero, List.take_of_length_le (by simp [E.size]; omega)]
    simp [E.toList]
theorem fx_build3 (hE : ElemI E t bytes) (hs : E.n ≤ 1000) (fr : Fr N T a) (hw : Region.wanted o (yielded ops a.tmps) = true) (hd : o.dst = some d) (hN : d < N.1) {x y u : Operand} (ho : o.op = .buildSlice t 3 #[(0, x), (1, y), (2, u)]) {p q r : α} {v0 v1 v2 : Value} (hx : a.eval x = v0) (hy : a.eval y = v1) (hu : a.eval u = v2) (h0 : v0.cells = E.arr p) (h1 : v1.cells = E.arr q) (h2 : v2.cells = E.arr r)
    (next : ∀ A w1, New w w1 → Own E w1 A 3 [p, q, r] → (∀ g, inA A g → w.heap.size ≤ g) → ∀ a, Fr N ((d, .slice A 3 3) :: T) a → wpList P ops Q rest a w1) : wpList P ops Q (o :: rest) a w := by
  obtain ⟨i, z, hi, hz, hsz, hby, hzc⟩ := hE.info
  have hpos := E.pos
  refine fx_val (v := .slice (some ⟨w.heap.size, 0, none⟩) 3 3) (w1 := w.alloc (.cells (((E.arr p).toList ++ (E.arr q).toList ++ (E.arr r).toList).toArray) E.T)) fr hw hd hN ?_ fun a fr => next _ _ ((Only.refl _ w).alloc _) ⟨by simp, by unfold maxLen; omega, .inr ⟨_, 0, _, rfl, Go.heap_alloc_new w _, by simp [E.size]; omega, ?_⟩⟩ inA_new a fr
  · have hfill : Instr.fill (fun q => some (q * i.size, i.size)) ((Array.range (3 * i.size)).map (z.cells[· % z.cells.size]!)) [(0, v0), (1, v1), (2, v2)] = some ((E.arr p).toList ++ (E.arr q).toList ++ (E.arr r).toList).toArray := fill_3 h0 h1 h2 (by rw [E.size, hsz]) (by rw [E.size, hsz]) (by rw [E.size, hsz]) (by simp)
    have := run_buildSlice (P := P) w t E.T 3 #[(0, v0), (1, v1), (2, v2)] _ i z hE.ty hi hz (by rw [hsz]; omega) (by rw [hsz]; omega) hfill
    simp [execOp, ho, hx, hy, hu, this]
  · rw [List.drop_zero, List.take_of_length_le (by simp [E.size]; omega)]
    simp [E.toList]
end
end Go.Proofs.Ytflnlmibkbojcaa
namespace Go.Proofs.Ytflnlmibkbojcaa
open Go.RowKit
def intE : Enc Try.prog Int where
  T := 3
  n := 1
  cells := fun x => [.int .i64 x]
  len := fun _ => rfl
  one := fun x v hv => by
    simp at hv
    subst hv
    rfl
  pos := by decide
theorem elInt : ElemI intE 123 8 := ⟨Try.underlying123, by
  obtain ⟨i0, hi, hz0, hz1, hz2⟩ := info_parts (show (Try.prog.info? 3).map (fun i => (i.zero, i.size, i.bytes)) = some (some (.int .i64 0), 1, 8) by kernel_rfl)
  exact ⟨i0, _, hi, hz0, hz1, hz2, rfl⟩⟩
theorem elStp : ElemI stpE 23 88 := ⟨Try.underlying23, by
  obtain ⟨i0, hi, hz0, hz1, hz2⟩ := info_parts (show (Try.prog.info? 45).map (fun i => (i.zero, i.size, i.bytes)) = some (some (.agg (stpE.arr stp0)), 27, 88) by kernel_rfl)
  exact ⟨i0, _, hi, hz0, hz1, hz2, by rw [show (Value.agg (stpE.arr stp0)).cells = stpE.arr stp0 from rfl, stpE.size]⟩⟩
end Go.Proofs.Ytflnlmibkbojcaa
