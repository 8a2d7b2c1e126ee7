/-
  Part 4 of what the claim stands on: walks through the code, plain laws.
-/
import Derived.Test.YtdiaemlgghfecaaZNil3
namespace Go.Proofs.Ytdiaemlgghfecaa
open Go.RowKit
set_option maxRecDepth 100000 in
set_option maxHeartbeats 4000000 in
theorem take_nil (m : Msg) (w : World) : Calls Try.prog 12 #[.pointer none, .agg (msgE.arr m)] w (Ret fun v w' => v = .tuple #[.slice none 0 0, .int .i64 1] ∧ New w w') := by
  have hF := Only.refl (fun _ => False) w
  refine fx_enterD Try.func12 rfl (N := (71, [])) (T := [(0, .pointer none), (1, .agg (msgE.arr m))]) rfl (show 2 ≤ 71 by decide) ⟨rfl, rfl, trivial⟩ fun a fr => ?_
  refine wp_seq ?_
  refine wp_region_lit ?_  -- region 0
  refine fx_new fr rfl rfl (by first | decide | simp) (x_box (cs := msgE.arr m) rfl (fr.ev rfl) rfl) ?_
  clear fr a
  intro b1 w2 hN3 B4 hb5 a fr
  have g_b1 := Nat.le_trans hF.size hb5
  replace hF := hF.trNew hN3
  refine fx_new fr rfl rfl (by first | decide | simp) (x_alloc (z := .slice none 0 0) (cs := #[.slice none 0 0]) rfl (by kernel_rfl) rfl) ?_
  clear fr a
  intro b6 w7 hN8 B9 hb10 a fr
  have ne_b1_b6 : NE b1 b6 := NE.mk (Nat.lt_of_lt_of_le B4.lt hb10)
  have g_b6 := Nat.le_trans hF.size hb10
  replace B4 := B4.new hN8
  replace hF := hF.trNew hN8
  refine fx_new fr rfl rfl (by first | decide | simp) (x_alloc (z := .int .i64 0) (cs := #[.int .i64 0]) rfl (by kernel_rfl) rfl) ?_
  clear fr a
  intro b11 w12 hN13 B14 hb15 a fr
  have ne_b1_b11 : NE b1 b11 := NE.mk (Nat.lt_of_lt_of_le B4.lt hb15)
  have ne_b6_b11 : NE b6 b11 := NE.mk (Nat.lt_of_lt_of_le B9.lt hb15)
  have g_b11 := Nat.le_trans hF.size hb15
  replace B4 := B4.new hN13
  replace B9 := B9.new hN13
  replace hF := hF.trNew hN13
  refine wpList_nil ?_
  refine fx_next ?_
  refine wp_seq ?_
  refine wp_block ?_
  refine wp_seq ?_
  refine wp_region_lit ?_  -- region 1
  refine fx_val (v := .pointer none) fr rfl rfl (by first | decide | simp) (x_move rfl (fr.ev rfl)) ?_
  clear fr a; intro a fr
  refine fx_call fr rfl rfl (by first | decide | simp) (x_call (vs := [.pointer none]) rfl rfl ⟨(fr.ev rfl), trivial⟩ Try.func27 nm27 rfl) (hnone_nil _) ?_
  clear fr a
  rintro v w9 ⟨rfl, hw9⟩ a fr
  obtain rfl := hw9.symm
  refine fx_val (v := .bool true) fr rfl rfl (by first | decide | simp) (x_assign rfl (fr.ev rfl)) ?_
  clear fr a; intro a fr
  refine wpList_nil ?_
  refine fx_next ?_
  refine fx_cond_t fr rfl ?_
  refine wp_seq ?_
  refine wp_region_lit ?_  -- region 2
  refine fx_store1 sz23 rfl rfl rfl (fr.ev rfl) rfl rfl B9 (show 0 < 1 by decide) (cs' := #[.slice none 0 0]) rfl fun w18 hO19 hBq => ?_
  replace B4 := B4.only hO19 (by first | exact ne_b1_b6 | exact ne_b6_b1.symm | (show ¬ b1 = b6; omega))
  replace B14 := B14.only hO19 (by first | exact ne_b11_b6 | exact ne_b6_b11.symm | (show ¬ b11 = b6; omega))
  replace hF := hF.loc hO19 (.inr g_b6)
  replace B9 := hBq
  clear hBq
  refine fx_store1 sz37 rfl rfl rfl (fr.ev rfl) rfl rfl B14 (show 0 < 1 by decide) (cs' := #[.int .i64 1]) rfl fun w20 hO21 hBq => ?_
  replace B4 := B4.only hO21 (by first | exact ne_b1_b11 | exact ne_b11_b1.symm | (show ¬ b1 = b11; omega))
  replace B9 := B9.only hO21 (by first | exact ne_b6_b11 | exact ne_b11_b6.symm | (show ¬ b6 = b11; omega))
  replace hF := hF.loc hO21 (.inr g_b11)
  replace B14 := hBq
  clear hBq
  refine wpList_nil ?_
  refine fx_next ?_
  refine wp_ret ?_
  refine fx_rb ?_
  refine fx_rt ?_
  refine fx_retD0 fr [.cell 4 23, .cell 5 37] [.slice none 0 0, .int .i64 1] rfl ⟨⟨_, rfl, x_loadV1 pl23 (B9.cell 0 rfl)⟩, ⟨_, rfl, x_loadV1 pl37 (B14.cell 0 rfl)⟩, trivial⟩ rfl ?_
  exact ⟨_, rfl, rfl, hF⟩
set_option maxRecDepth 100000 in
set_option maxHeartbeats 4000000 in
theorem take_z {w : World} {b : Nat} (hB : Blk w b 64 #[.pointer none, .map none]) (m : Msg) : Calls Try.prog 12 #[.pointer (some ⟨b, 0, none⟩), .agg (msgE.arr m)] w (Ret fun v w' => v = .tuple #[.slice none 0 0, .int .i64 1] ∧ New w w') := by
  have hF := Only.refl (fun _ => False) w
  refine fx_enterD Try.func12 rfl (N := (71, [])) (T := [(0, .pointer (some ⟨b, 0, none⟩)), (1, .agg (msgE.arr m))]) rfl (show 2 ≤ 71 by decide) ⟨rfl, rfl, trivial⟩ fun a fr => ?_
  refine wp_seq ?_
  refine wp_region_lit ?_  -- region 0
  refine fx_new fr rfl rfl (by first | decide | simp) (x_box (cs := msgE.arr m) rfl (fr.ev rfl) rfl) ?_
  clear fr a
  intro b1 w2 hN3 B4 hb5 a fr
  have ne_b_b1 : NE b b1 := NE.mk (Nat.lt_of_lt_of_le hB.lt hb5)
  have g_b1 := Nat.le_trans hF.size hb5
  replace hB := hB.new hN3
  replace hF := hF.trNew hN3
  refine fx_new fr rfl rfl (by first | decide | simp) (x_alloc (z := .slice none 0 0) (cs := #[.slice none 0 0]) rfl (by kernel_rfl) rfl) ?_
  clear fr a
  intro b6 w7 hN8 B9 hb10 a fr
  have ne_b_b6 : NE b b6 := NE.mk (Nat.lt_of_lt_of_le hB.lt hb10)
  have ne_b1_b6 : NE b1 b6 := NE.mk (Nat.lt_of_lt_of_le B4.lt hb10)
  have g_b6 := Nat.le_trans hF.size hb10
  replace hB := hB.new hN8
  replace B4 := B4.new hN8
  replace hF := hF.trNew hN8
  refine fx_new fr rfl rfl (by first | decide | simp) (x_alloc (z := .int .i64 0) (cs := #[.int .i64 0]) rfl (by kernel_rfl) rfl) ?_
  clear fr a
  intro b11 w12 hN13 B14 hb15 a fr
  have ne_b_b11 : NE b b11 := NE.mk (Nat.lt_of_lt_of_le hB.lt hb15)
  have ne_b1_b11 : NE b1 b11 := NE.mk (Nat.lt_of_lt_of_le B4.lt hb15)
  have ne_b6_b11 : NE b6 b11 := NE.mk (Nat.lt_of_lt_of_le B9.lt hb15)
  have g_b11 := Nat.le_trans hF.size hb15
  replace hB := hB.new hN13
  replace B4 := B4.new hN13
  replace B9 := B9.new hN13
  replace hF := hF.trNew hN13
  refine wpList_nil ?_
  refine fx_next ?_
  refine wp_seq ?_
  refine wp_block ?_
  refine wp_seq ?_
  refine wp_region_lit ?_  -- region 1
  refine fx_val (v := .pointer (some ⟨b, 0, none⟩)) fr rfl rfl (by first | decide | simp) (x_move rfl (fr.ev rfl)) ?_
  clear fr a; intro a fr
  refine fx_call fr rfl rfl (by first | decide | simp) (x_call (vs := [.pointer (some ⟨b, 0, none⟩)]) rfl rfl ⟨(fr.ev rfl), trivial⟩ Try.func27 nm27 rfl) (hnone_z hB) ?_
  clear fr a
  rintro v w9 ⟨rfl, hw9⟩ a fr
  obtain rfl := hw9.symm
  refine fx_val (v := .bool true) fr rfl rfl (by first | decide | simp) (x_assign rfl (fr.ev rfl)) ?_
  clear fr a; intro a fr
  refine wpList_nil ?_
  refine fx_next ?_
  refine fx_cond_t fr rfl ?_
  refine wp_seq ?_
  refine wp_region_lit ?_  -- region 2
  refine fx_store1 sz23 rfl rfl rfl (fr.ev rfl) rfl rfl B9 (show 0 < 1 by decide) (cs' := #[.slice none 0 0]) rfl fun w18 hO19 hBq => ?_
  replace hB := hB.only hO19 (by first | exact ne_b_b6 | exact ne_b6_b.symm | (show ¬ b = b6; omega))
  replace B4 := B4.only hO19 (by first | exact ne_b1_b6 | exact ne_b6_b1.symm | (show ¬ b1 = b6; omega))
  replace B14 := B14.only hO19 (by first | exact ne_b11_b6 | exact ne_b6_b11.symm | (show ¬ b11 = b6; omega))
  replace hF := hF.loc hO19 (.inr g_b6)
  replace B9 := hBq
  clear hBq
  refine fx_store1 sz37 rfl rfl rfl (fr.ev rfl) rfl rfl B14 (show 0 < 1 by decide) (cs' := #[.int .i64 1]) rfl fun w20 hO21 hBq => ?_
  replace hB := hB.only hO21 (by first | exact ne_b_b11 | exact ne_b11_b.symm | (show ¬ b = b11; omega))
  replace B4 := B4.only hO21 (by first | exact ne_b1_b11 | exact ne_b11_b1.symm | (show ¬ b1 = b11; omega))
  replace B9 := B9.only hO21 (by first | exact ne_b6_b11 | exact ne_b11_b6.symm | (show ¬ b6 = b11; omega))
  replace hF := hF.loc hO21 (.inr g_b11)
  replace B14 := hBq
  clear hBq
  refine wpList_nil ?_
  refine fx_next ?_
  refine wp_ret ?_
  refine fx_rb ?_
  refine fx_rt ?_
  refine fx_retD0 fr [.cell 4 23, .cell 5 37] [.slice none 0 0, .int .i64 1] rfl ⟨⟨_, rfl, x_loadV1 pl23 (B9.cell 0 rfl)⟩, ⟨_, rfl, x_loadV1 pl37 (B14.cell 0 rfl)⟩, trivial⟩ rfl ?_
  exact ⟨_, rfl, rfl, hF⟩
set_option maxRecDepth 100000 in
set_option maxHeartbeats 4000000 in
theorem take_a1 {w : World} {Fp : Nat → Prop} {b : Nat} {h : HD} (H : HomeAt w Fp b h) (m : Msg) (hx : chk m ≠ 0) : Calls Try.prog 12 #[.pointer (some ⟨b, 0, none⟩), .agg (msgE.arr m)] w (Ret fun v w' => v = .tuple #[.slice none 0 0, .int .i64 2] ∧ HomeAt w' Fp b h ∧ New w w') := by
  have H0 := H
  obtain ⟨bi, ig, cap, r, FpE, L, c, hB, hI, hM, hP, hEn⟩ := H0
  have hmn := m.hn
  have hpos := hI.pos
  have ne_b_bi := hP.ne_b_bi
  have ne_b_ig := hP.ne_b_ig
  have ne_bi_ig : NE bi ig := hI.ne
  have ap_FpE_b := hP.fb
  have ap_FpE_bi := hP.fbi
  have ap_FpE_ig := hP.fig
  have hrE := (hM.foot r).2 (.inl rfl)
  have gA_FpE := fun g (hg : FpE g) => (Or.inl trivial : True ∨ w.heap.size ≤ g)
  have gA_Fp := fun g (hg : Fp g) => (Or.inl trivial : True ∨ w.heap.size ≤ g)
  have hF := Only.refl (fun _ => False) w
  refine fx_enterD Try.func12 rfl (N := (71, [])) (T := [(0, .pointer (some ⟨b, 0, none⟩)), (1, .agg (msgE.arr m))]) rfl (show 2 ≤ 71 by decide) ⟨rfl, rfl, trivial⟩ fun a fr => ?_
  refine wp_seq ?_
  refine wp_region_lit ?_  -- region 0
  refine fx_new fr rfl rfl (by first | decide | simp) (x_box (cs := msgE.arr m) rfl (fr.ev rfl) rfl) ?_
  clear fr a
  intro b1 w2 hN3 B4 hb5 a fr
  have ne_b_b1 : NE b b1 := NE.mk (Nat.lt_of_lt_of_le hB.lt hb5)
  have ne_bi_b1 : NE bi b1 := NE.mk (Nat.lt_of_lt_of_le hI.lt.1 hb5)
  have ne_ig_b1 : NE ig b1 := NE.mk (Nat.lt_of_lt_of_le hI.lt.2 hb5)
  have ap_FpE_b1 : ¬ FpE b1 := hM.apart hb5
  have ap_Fp_b1 : ¬ Fp b1 := H.apart hb5
  have g_b1 := Nat.le_trans hF.size hb5
  replace hB := hB.new hN3
  replace hI := hI.new hN3
  replace hM := hM.new hN3
  replace H := H.new hN3
  replace hF := hF.trNew hN3
  refine fx_new fr rfl rfl (by first | decide | simp) (x_alloc (z := .slice none 0 0) (cs := #[.slice none 0 0]) rfl (by kernel_rfl) rfl) ?_
  clear fr a
  intro b6 w7 hN8 B9 hb10 a fr
  have ne_b_b6 : NE b b6 := NE.mk (Nat.lt_of_lt_of_le hB.lt hb10)
  have ne_bi_b6 : NE bi b6 := NE.mk (Nat.lt_of_lt_of_le hI.lt.1 hb10)
  have ne_ig_b6 : NE ig b6 := NE.mk (Nat.lt_of_lt_of_le hI.lt.2 hb10)
  have ap_FpE_b6 : ¬ FpE b6 := hM.apart hb10
  have ap_Fp_b6 : ¬ Fp b6 := H.apart hb10
  have ne_b1_b6 : NE b1 b6 := NE.mk (Nat.lt_of_lt_of_le B4.lt hb10)
  have g_b6 := Nat.le_trans hF.size hb10
  replace hB := hB.new hN8
  replace hI := hI.new hN8
  replace hM := hM.new hN8
  replace H := H.new hN8
  replace B4 := B4.new hN8
  replace hF := hF.trNew hN8
  refine fx_new fr rfl rfl (by first | decide | simp) (x_alloc (z := .int .i64 0) (cs := #[.int .i64 0]) rfl (by kernel_rfl) rfl) ?_
  clear fr a
  intro b11 w12 hN13 B14 hb15 a fr
  have ne_b_b11 : NE b b11 := NE.mk (Nat.lt_of_lt_of_le hB.lt hb15)
  have ne_bi_b11 : NE bi b11 := NE.mk (Nat.lt_of_lt_of_le hI.lt.1 hb15)
  have ne_ig_b11 : NE ig b11 := NE.mk (Nat.lt_of_lt_of_le hI.lt.2 hb15)
  have ap_FpE_b11 : ¬ FpE b11 := hM.apart hb15
  have ap_Fp_b11 : ¬ Fp b11 := H.apart hb15
  have ne_b1_b11 : NE b1 b11 := NE.mk (Nat.lt_of_lt_of_le B4.lt hb15)
  have ne_b6_b11 : NE b6 b11 := NE.mk (Nat.lt_of_lt_of_le B9.lt hb15)
  have g_b11 := Nat.le_trans hF.size hb15
  replace hB := hB.new hN13
  replace hI := hI.new hN13
  replace hM := hM.new hN13
  replace H := H.new hN13
  replace B4 := B4.new hN13
  replace B9 := B9.new hN13
  replace hF := hF.trNew hN13
  refine wpList_nil ?_
  refine fx_next ?_
  refine wp_seq ?_
  refine wp_block ?_
  refine wp_seq ?_
  refine wp_region_lit ?_  -- region 1
  refine fx_val (v := .pointer (some ⟨b, 0, none⟩)) fr rfl rfl (by first | decide | simp) (x_move rfl (fr.ev rfl)) ?_
  clear fr a; intro a fr
  refine fx_call fr rfl rfl (by first | decide | simp) (x_call (vs := [.pointer (some ⟨b, 0, none⟩)]) rfl rfl ⟨(fr.ev rfl), trivial⟩ Try.func27 nm27 rfl) (hnone_c hB) ?_
  clear fr a
  rintro v w9 ⟨rfl, hw9⟩ a fr
  obtain rfl := hw9.symm
  refine fx_val (v := .bool false) fr rfl rfl (by first | decide | simp) (x_assign rfl (fr.ev rfl)) ?_
  clear fr a; intro a fr
  refine wpList_nil ?_
  refine fx_next ?_
  refine fx_cond_f fr rfl ?_
  refine wp_seq ?_
  refine wp_region_lit ?_  -- region 3
  refine fx_val (v := .agg (msgE.arr m)) fr rfl rfl (by first | decide | simp) (x_loadE (E := msgE) ag36 rfl rfl (fr.ev rfl) (B4.rangeE msgE)) ?_
  clear fr a; intro a fr
  refine fx_call fr rfl rfl (by first | decide | simp) (x_call (vs := [.agg (msgE.arr m)]) rfl rfl ⟨(fr.ev rfl), trivial⟩ Try.func29 nm29 rfl) (chk_c m _) ?_
  clear fr a
  rintro v w18 ⟨rfl, hN19⟩ a fr
  replace hB := hB.new hN19
  replace hI := hI.new hN19
  replace hM := hM.new hN19
  replace H := H.new hN19
  replace B4 := B4.new hN19
  replace B9 := B9.new hN19
  replace B14 := B14.new hN19
  replace hF := hF.trNew hN19
  refine fx_val (v := .bool true) fr rfl rfl (by first | decide | simp) (x_neq rfl (fr.ev rfl) rfl (decide_eq_true hx)) ?_
  clear fr a; intro a fr
  refine fx_val (v := .bool true) fr rfl rfl (by first | decide | simp) (x_move rfl (fr.ev rfl)) ?_
  clear fr a; intro a fr
  refine fx_skip fr (fr.unwant rfl rfl rfl (by decide)) rfl (by first | decide | simp) ?_
  clear fr a; intro a fr
  refine fx_skip fr (fr.unwant rfl rfl rfl (by decide)) rfl (by first | decide | simp) ?_
  clear fr a; intro a fr
  refine fx_skip fr (fr.unwant rfl rfl rfl (by decide)) rfl (by first | decide | simp) ?_
  clear fr a; intro a fr
  refine fx_val (v := .bool true) fr rfl rfl (by first | decide | simp) (x_pick_t rfl (fr.ev rfl) rfl) ?_
  clear fr a; intro a fr
  refine fx_val (v := .bool true) fr rfl rfl (by first | decide | simp) (x_assign rfl (fr.ev rfl)) ?_
  clear fr a; intro a fr
  refine wpList_nil ?_
  refine fx_next ?_
  refine fx_cond_t fr rfl ?_
  refine wp_seq ?_
  refine wp_region_lit ?_  -- region 4
  refine fx_store1 sz23 rfl rfl rfl (fr.ev rfl) rfl rfl B9 (show 0 < 1 by decide) (cs' := #[.slice none 0 0]) rfl fun w20 hO21 hBq => ?_
  replace hB := hB.only hO21 (by first | exact ne_b_b6 | exact ne_b6_b.symm | (show ¬ b = b6; omega))
  replace hI := hI.only hO21 (by first | exact ne_bi_b6 | exact ne_b6_bi.symm | (show ¬ bi = b6; omega)) (by first | exact ne_ig_b6 | exact ne_b6_ig.symm | (show ¬ ig = b6; omega))
  replace hM := hM.only hO21 (ne1P ap_FpE_b6)
  replace H := H.only hO21 (ne1P ap_Fp_b6)
  replace B4 := B4.only hO21 (by first | exact ne_b1_b6 | exact ne_b6_b1.symm | (show ¬ b1 = b6; omega))
  replace B14 := B14.only hO21 (by first | exact ne_b11_b6 | exact ne_b6_b11.symm | (show ¬ b11 = b6; omega))
  replace hF := hF.loc hO21 (.inr g_b6)
  replace B9 := hBq
  clear hBq
  refine fx_store1 sz37 rfl rfl rfl (fr.ev rfl) rfl rfl B14 (show 0 < 1 by decide) (cs' := #[.int .i64 2]) rfl fun w22 hO23 hBq => ?_
  replace hB := hB.only hO23 (by first | exact ne_b_b11 | exact ne_b11_b.symm | (show ¬ b = b11; omega))
  replace hI := hI.only hO23 (by first | exact ne_bi_b11 | exact ne_b11_bi.symm | (show ¬ bi = b11; omega)) (by first | exact ne_ig_b11 | exact ne_b11_ig.symm | (show ¬ ig = b11; omega))
  replace hM := hM.only hO23 (ne1P ap_FpE_b11)
  replace H := H.only hO23 (ne1P ap_Fp_b11)
  replace B4 := B4.only hO23 (by first | exact ne_b1_b11 | exact ne_b11_b1.symm | (show ¬ b1 = b11; omega))
  replace B9 := B9.only hO23 (by first | exact ne_b6_b11 | exact ne_b11_b6.symm | (show ¬ b6 = b11; omega))
  replace hF := hF.loc hO23 (.inr g_b11)
  replace B14 := hBq
  clear hBq
  refine wpList_nil ?_
  refine fx_next ?_
  refine wp_ret ?_
  refine fx_rb ?_
  refine fx_rt ?_
  refine fx_retD0 fr [.cell 4 23, .cell 5 37] [.slice none 0 0, .int .i64 2] rfl ⟨⟨_, rfl, x_loadV1 pl23 (B9.cell 0 rfl)⟩, ⟨_, rfl, x_loadV1 pl37 (B14.cell 0 rfl)⟩, trivial⟩ rfl ?_
  exact ⟨_, rfl, rfl, H, hF⟩
set_option maxRecDepth 100000 in
set_option maxHeartbeats 4000000 in
theorem take_a2 {w : World} {Fp : Nat → Prop} {b : Nat} {h : HD} (H : HomeAt w Fp b h) (m : Msg) (hc : ¬ chk m ≠ 0) (hx : m.dst ≠ 4) : Calls Try.prog 12 #[.pointer (some ⟨b, 0, none⟩), .agg (msgE.arr m)] w (Ret fun v w' => v = .tuple #[.slice none 0 0, .int .i64 2] ∧ HomeAt w' Fp b h ∧ New w w') := by
  have H0 := H
  obtain ⟨bi, ig, cap, r, FpE, L, c, hB, hI, hM, hP, hEn⟩ := H0
  have hmn := m.hn
  have hpos := hI.pos
  have ne_b_bi := hP.ne_b_bi
  have ne_b_ig := hP.ne_b_ig
  have ne_bi_ig : NE bi ig := hI.ne
  have ap_FpE_b := hP.fb
  have ap_FpE_bi := hP.fbi
  have ap_FpE_ig := hP.fig
  have hrE := (hM.foot r).2 (.inl rfl)
  have gA_FpE := fun g (hg : FpE g) => (Or.inl trivial : True ∨ w.heap.size ≤ g)
  have gA_Fp := fun g (hg : Fp g) => (Or.inl trivial : True ∨ w.heap.size ≤ g)
  have hF := Only.refl (fun _ => False) w
  refine fx_enterD Try.func12 rfl (N := (71, [])) (T := [(0, .pointer (some ⟨b, 0, none⟩)), (1, .agg (msgE.arr m))]) rfl (show 2 ≤ 71 by decide) ⟨rfl, rfl, trivial⟩ fun a fr => ?_
  refine wp_seq ?_
  refine wp_region_lit ?_  -- region 0
  refine fx_new fr rfl rfl (by first | decide | simp) (x_box (cs := msgE.arr m) rfl (fr.ev rfl) rfl) ?_
  clear fr a
  intro b1 w2 hN3 B4 hb5 a fr
  have ne_b_b1 : NE b b1 := NE.mk (Nat.lt_of_lt_of_le hB.lt hb5)
  have ne_bi_b1 : NE bi b1 := NE.mk (Nat.lt_of_lt_of_le hI.lt.1 hb5)
  have ne_ig_b1 : NE ig b1 := NE.mk (Nat.lt_of_lt_of_le hI.lt.2 hb5)
  have ap_FpE_b1 : ¬ FpE b1 := hM.apart hb5
  have ap_Fp_b1 : ¬ Fp b1 := H.apart hb5
  have g_b1 := Nat.le_trans hF.size hb5
  replace hB := hB.new hN3
  replace hI := hI.new hN3
  replace hM := hM.new hN3
  replace H := H.new hN3
  replace hF := hF.trNew hN3
  refine fx_new fr rfl rfl (by first | decide | simp) (x_alloc (z := .slice none 0 0) (cs := #[.slice none 0 0]) rfl (by kernel_rfl) rfl) ?_
  clear fr a
  intro b6 w7 hN8 B9 hb10 a fr
  have ne_b_b6 : NE b b6 := NE.mk (Nat.lt_of_lt_of_le hB.lt hb10)
  have ne_bi_b6 : NE bi b6 := NE.mk (Nat.lt_of_lt_of_le hI.lt.1 hb10)
  have ne_ig_b6 : NE ig b6 := NE.mk (Nat.lt_of_lt_of_le hI.lt.2 hb10)
  have ap_FpE_b6 : ¬ FpE b6 := hM.apart hb10
  have ap_Fp_b6 : ¬ Fp b6 := H.apart hb10
  have ne_b1_b6 : NE b1 b6 := NE.mk (Nat.lt_of_lt_of_le B4.lt hb10)
  have g_b6 := Nat.le_trans hF.size hb10
  replace hB := hB.new hN8
  replace hI := hI.new hN8
  replace hM := hM.new hN8
  replace H := H.new hN8
  replace B4 := B4.new hN8
  replace hF := hF.trNew hN8
  refine fx_new fr rfl rfl (by first | decide | simp) (x_alloc (z := .int .i64 0) (cs := #[.int .i64 0]) rfl (by kernel_rfl) rfl) ?_
  clear fr a
  intro b11 w12 hN13 B14 hb15 a fr
  have ne_b_b11 : NE b b11 := NE.mk (Nat.lt_of_lt_of_le hB.lt hb15)
  have ne_bi_b11 : NE bi b11 := NE.mk (Nat.lt_of_lt_of_le hI.lt.1 hb15)
  have ne_ig_b11 : NE ig b11 := NE.mk (Nat.lt_of_lt_of_le hI.lt.2 hb15)
  have ap_FpE_b11 : ¬ FpE b11 := hM.apart hb15
  have ap_Fp_b11 : ¬ Fp b11 := H.apart hb15
  have ne_b1_b11 : NE b1 b11 := NE.mk (Nat.lt_of_lt_of_le B4.lt hb15)
  have ne_b6_b11 : NE b6 b11 := NE.mk (Nat.lt_of_lt_of_le B9.lt hb15)
  have g_b11 := Nat.le_trans hF.size hb15
  replace hB := hB.new hN13
  replace hI := hI.new hN13
  replace hM := hM.new hN13
  replace H := H.new hN13
  replace B4 := B4.new hN13
  replace B9 := B9.new hN13
  replace hF := hF.trNew hN13
  refine wpList_nil ?_
  refine fx_next ?_
  refine wp_seq ?_
  refine wp_block ?_
  refine wp_seq ?_
  refine wp_region_lit ?_  -- region 1
  refine fx_val (v := .pointer (some ⟨b, 0, none⟩)) fr rfl rfl (by first | decide | simp) (x_move rfl (fr.ev rfl)) ?_
  clear fr a; intro a fr
  refine fx_call fr rfl rfl (by first | decide | simp) (x_call (vs := [.pointer (some ⟨b, 0, none⟩)]) rfl rfl ⟨(fr.ev rfl), trivial⟩ Try.func27 nm27 rfl) (hnone_c hB) ?_
  clear fr a
  rintro v w9 ⟨rfl, hw9⟩ a fr
  obtain rfl := hw9.symm
  refine fx_val (v := .bool false) fr rfl rfl (by first | decide | simp) (x_assign rfl (fr.ev rfl)) ?_
  clear fr a; intro a fr
  refine wpList_nil ?_
  refine fx_next ?_
  refine fx_cond_f fr rfl ?_
  refine wp_seq ?_
  refine wp_region_lit ?_  -- region 3
  refine fx_val (v := .agg (msgE.arr m)) fr rfl rfl (by first | decide | simp) (x_loadE (E := msgE) ag36 rfl rfl (fr.ev rfl) (B4.rangeE msgE)) ?_
  clear fr a; intro a fr
  refine fx_call fr rfl rfl (by first | decide | simp) (x_call (vs := [.agg (msgE.arr m)]) rfl rfl ⟨(fr.ev rfl), trivial⟩ Try.func29 nm29 rfl) (chk_c m _) ?_
  clear fr a
  rintro v w18 ⟨rfl, hN19⟩ a fr
  replace hB := hB.new hN19
  replace hI := hI.new hN19
  replace hM := hM.new hN19
  replace H := H.new hN19
  replace B4 := B4.new hN19
  replace B9 := B9.new hN19
  replace B14 := B14.new hN19
  replace hF := hF.trNew hN19
  refine fx_val (v := .bool false) fr rfl rfl (by first | decide | simp) (x_neq rfl (fr.ev rfl) rfl (decide_eq_false hc)) ?_
  clear fr a; intro a fr
  refine fx_val (v := .bool false) fr rfl rfl (by first | decide | simp) (x_move rfl (fr.ev rfl)) ?_
  clear fr a; intro a fr
  refine fx_val (v := .pointer (some ⟨b1, 2, none⟩)) fr (fr.want rfl rfl rfl) rfl (by first | decide | simp) (x_fieldAddr fo36_2 rfl (fr.ev rfl) rfl) ?_
  clear fr a; intro a fr
  refine fx_val (v := .int .i64 m.dst) fr (fr.want rfl rfl rfl) rfl (by first | decide | simp) (x_load1 pl3 rfl (fr.ev rfl) (B4.cell 2 rfl)) ?_
  clear fr a; intro a fr
  refine fx_val (v := .bool true) fr (fr.want rfl rfl rfl) rfl (by first | decide | simp) (x_neq rfl (fr.ev rfl) rfl (decide_eq_true hx)) ?_
  clear fr a; intro a fr
  refine fx_val (v := .bool true) fr rfl rfl (by first | decide | simp) (x_pick_f rfl (fr.ev rfl) (fr.ev rfl)) ?_
  clear fr a; intro a fr
  refine fx_val (v := .bool true) fr rfl rfl (by first | decide | simp) (x_assign rfl (fr.ev rfl)) ?_
  clear fr a; intro a fr
  refine wpList_nil ?_
  refine fx_next ?_
  refine fx_cond_t fr rfl ?_
  refine wp_seq ?_
  refine wp_region_lit ?_  -- region 4
  refine fx_store1 sz23 rfl rfl rfl (fr.ev rfl) rfl rfl B9 (show 0 < 1 by decide) (cs' := #[.slice none 0 0]) rfl fun w20 hO21 hBq => ?_
  replace hB := hB.only hO21 (by first | exact ne_b_b6 | exact ne_b6_b.symm | (show ¬ b = b6; omega))
  replace hI := hI.only hO21 (by first | exact ne_bi_b6 | exact ne_b6_bi.symm | (show ¬ bi = b6; omega)) (by first | exact ne_ig_b6 | exact ne_b6_ig.symm | (show ¬ ig = b6; omega))
  replace hM := hM.only hO21 (ne1P ap_FpE_b6)
  replace H := H.only hO21 (ne1P ap_Fp_b6)
  replace B4 := B4.only hO21 (by first | exact ne_b1_b6 | exact ne_b6_b1.symm | (show ¬ b1 = b6; omega))
  replace B14 := B14.only hO21 (by first | exact ne_b11_b6 | exact ne_b6_b11.symm | (show ¬ b11 = b6; omega))
  replace hF := hF.loc hO21 (.inr g_b6)
  replace B9 := hBq
  clear hBq
  refine fx_store1 sz37 rfl rfl rfl (fr.ev rfl) rfl rfl B14 (show 0 < 1 by decide) (cs' := #[.int .i64 2]) rfl fun w22 hO23 hBq => ?_
  replace hB := hB.only hO23 (by first | exact ne_b_b11 | exact ne_b11_b.symm | (show ¬ b = b11; omega))
  replace hI := hI.only hO23 (by first | exact ne_bi_b11 | exact ne_b11_bi.symm | (show ¬ bi = b11; omega)) (by first | exact ne_ig_b11 | exact ne_b11_ig.symm | (show ¬ ig = b11; omega))
  replace hM := hM.only hO23 (ne1P ap_FpE_b11)
  replace H := H.only hO23 (ne1P ap_Fp_b11)
  replace B4 := B4.only hO23 (by first | exact ne_b1_b11 | exact ne_b11_b1.symm | (show ¬ b1 = b11; omega))
  replace B9 := B9.only hO23 (by first | exact ne_b6_b11 | exact ne_b11_b6.symm | (show ¬ b6 = b11; omega))
  replace hF := hF.loc hO23 (.inr g_b11)
  replace B14 := hBq
  clear hBq
  refine wpList_nil ?_
  refine fx_next ?_
  refine wp_ret ?_
  refine fx_rb ?_
  refine fx_rt ?_
  refine fx_retD0 fr [.cell 4 23, .cell 5 37] [.slice none 0 0, .int .i64 2] rfl ⟨⟨_, rfl, x_loadV1 pl23 (B9.cell 0 rfl)⟩, ⟨_, rfl, x_loadV1 pl37 (B14.cell 0 rfl)⟩, trivial⟩ rfl ?_
  exact ⟨_, rfl, rfl, H, hF⟩
set_option maxRecDepth 100000 in
set_option maxHeartbeats 4000000 in
theorem take_r {w : World} {Fp : Nat → Prop} {b : Nat} {h : HD} (H : HomeAt w Fp b h) (m : Msg) (hc : ¬ chk m ≠ 0) (hx : ¬ m.dst ≠ 4) (hr : ((h.bs.length / 16 : Nat) : Int) ≤ m.line) : Calls Try.prog 12 #[.pointer (some ⟨b, 0, none⟩), .agg (msgE.arr m)] w (Ret fun v w' => v = .tuple #[.slice none 0 0, .int .i64 4] ∧ HomeAt w' Fp b h ∧ New w w') := by
  have H0 := H
  obtain ⟨bi, ig, cap, r, FpE, L, c, hB, hI, hM, hP, hEn⟩ := H0
  have hmn := m.hn
  have hpos := hI.pos
  have ne_b_bi := hP.ne_b_bi
  have ne_b_ig := hP.ne_b_ig
  have ne_bi_ig : NE bi ig := hI.ne
  have ap_FpE_b := hP.fb
  have ap_FpE_bi := hP.fbi
  have ap_FpE_ig := hP.fig
  have hrE := (hM.foot r).2 (.inl rfl)
  have gA_FpE := fun g (hg : FpE g) => (Or.inl trivial : True ∨ w.heap.size ≤ g)
  have gA_Fp := fun g (hg : Fp g) => (Or.inl trivial : True ∨ w.heap.size ≤ g)
  have hF := Only.refl (fun _ => False) w
  refine fx_enterD Try.func12 rfl (N := (71, [])) (T := [(0, .pointer (some ⟨b, 0, none⟩)), (1, .agg (msgE.arr m))]) rfl (show 2 ≤ 71 by decide) ⟨rfl, rfl, trivial⟩ fun a fr => ?_
  refine wp_seq ?_
  refine wp_region_lit ?_  -- region 0
  refine fx_new fr rfl rfl (by first | decide | simp) (x_box (cs := msgE.arr m) rfl (fr.ev rfl) rfl) ?_
  clear fr a
  intro b1 w2 hN3 B4 hb5 a fr
  have ne_b_b1 : NE b b1 := NE.mk (Nat.lt_of_lt_of_le hB.lt hb5)
  have ne_bi_b1 : NE bi b1 := NE.mk (Nat.lt_of_lt_of_le hI.lt.1 hb5)
  have ne_ig_b1 : NE ig b1 := NE.mk (Nat.lt_of_lt_of_le hI.lt.2 hb5)
  have ap_FpE_b1 : ¬ FpE b1 := hM.apart hb5
  have ap_Fp_b1 : ¬ Fp b1 := H.apart hb5
  have g_b1 := Nat.le_trans hF.size hb5
  replace hB := hB.new hN3
  replace hI := hI.new hN3
  replace hM := hM.new hN3
  replace H := H.new hN3
  replace hF := hF.trNew hN3
  refine fx_new fr rfl rfl (by first | decide | simp) (x_alloc (z := .slice none 0 0) (cs := #[.slice none 0 0]) rfl (by kernel_rfl) rfl) ?_
  clear fr a
  intro b6 w7 hN8 B9 hb10 a fr
  have ne_b_b6 : NE b b6 := NE.mk (Nat.lt_of_lt_of_le hB.lt hb10)
  have ne_bi_b6 : NE bi b6 := NE.mk (Nat.lt_of_lt_of_le hI.lt.1 hb10)
  have ne_ig_b6 : NE ig b6 := NE.mk (Nat.lt_of_lt_of_le hI.lt.2 hb10)
  have ap_FpE_b6 : ¬ FpE b6 := hM.apart hb10
  have ap_Fp_b6 : ¬ Fp b6 := H.apart hb10
  have ne_b1_b6 : NE b1 b6 := NE.mk (Nat.lt_of_lt_of_le B4.lt hb10)
  have g_b6 := Nat.le_trans hF.size hb10
  replace hB := hB.new hN8
  replace hI := hI.new hN8
  replace hM := hM.new hN8
  replace H := H.new hN8
  replace B4 := B4.new hN8
  replace hF := hF.trNew hN8
  refine fx_new fr rfl rfl (by first | decide | simp) (x_alloc (z := .int .i64 0) (cs := #[.int .i64 0]) rfl (by kernel_rfl) rfl) ?_
  clear fr a
  intro b11 w12 hN13 B14 hb15 a fr
  have ne_b_b11 : NE b b11 := NE.mk (Nat.lt_of_lt_of_le hB.lt hb15)
  have ne_bi_b11 : NE bi b11 := NE.mk (Nat.lt_of_lt_of_le hI.lt.1 hb15)
  have ne_ig_b11 : NE ig b11 := NE.mk (Nat.lt_of_lt_of_le hI.lt.2 hb15)
  have ap_FpE_b11 : ¬ FpE b11 := hM.apart hb15
  have ap_Fp_b11 : ¬ Fp b11 := H.apart hb15
  have ne_b1_b11 : NE b1 b11 := NE.mk (Nat.lt_of_lt_of_le B4.lt hb15)
  have ne_b6_b11 : NE b6 b11 := NE.mk (Nat.lt_of_lt_of_le B9.lt hb15)
  have g_b11 := Nat.le_trans hF.size hb15
  replace hB := hB.new hN13
  replace hI := hI.new hN13
  replace hM := hM.new hN13
  replace H := H.new hN13
  replace B4 := B4.new hN13
  replace B9 := B9.new hN13
  replace hF := hF.trNew hN13
  refine wpList_nil ?_
  refine fx_next ?_
  refine wp_seq ?_
  refine wp_block ?_
  refine wp_seq ?_
  refine wp_region_lit ?_  -- region 1
  refine fx_val (v := .pointer (some ⟨b, 0, none⟩)) fr rfl rfl (by first | decide | simp) (x_move rfl (fr.ev rfl)) ?_
  clear fr a; intro a fr
  refine fx_call fr rfl rfl (by first | decide | simp) (x_call (vs := [.pointer (some ⟨b, 0, none⟩)]) rfl rfl ⟨(fr.ev rfl), trivial⟩ Try.func27 nm27 rfl) (hnone_c hB) ?_
  clear fr a
  rintro v w9 ⟨rfl, hw9⟩ a fr
  obtain rfl := hw9.symm
  refine fx_val (v := .bool false) fr rfl rfl (by first | decide | simp) (x_assign rfl (fr.ev rfl)) ?_
  clear fr a; intro a fr
  refine wpList_nil ?_
  refine fx_next ?_
  refine fx_cond_f fr rfl ?_
  refine wp_seq ?_
  refine wp_region_lit ?_  -- region 3
  refine fx_val (v := .agg (msgE.arr m)) fr rfl rfl (by first | decide | simp) (x_loadE (E := msgE) ag36 rfl rfl (fr.ev rfl) (B4.rangeE msgE)) ?_
  clear fr a; intro a fr
  refine fx_call fr rfl rfl (by first | decide | simp) (x_call (vs := [.agg (msgE.arr m)]) rfl rfl ⟨(fr.ev rfl), trivial⟩ Try.func29 nm29 rfl) (chk_c m _) ?_
  clear fr a
  rintro v w18 ⟨rfl, hN19⟩ a fr
  replace hB := hB.new hN19
  replace hI := hI.new hN19
  replace hM := hM.new hN19
  replace H := H.new hN19
  replace B4 := B4.new hN19
  replace B9 := B9.new hN19
  replace B14 := B14.new hN19
  replace hF := hF.trNew hN19
  refine fx_val (v := .bool false) fr rfl rfl (by first | decide | simp) (x_neq rfl (fr.ev rfl) rfl (decide_eq_false hc)) ?_
  clear fr a; intro a fr
  refine fx_val (v := .bool false) fr rfl rfl (by first | decide | simp) (x_move rfl (fr.ev rfl)) ?_
  clear fr a; intro a fr
  refine fx_val (v := .pointer (some ⟨b1, 2, none⟩)) fr (fr.want rfl rfl rfl) rfl (by first | decide | simp) (x_fieldAddr fo36_2 rfl (fr.ev rfl) rfl) ?_
  clear fr a; intro a fr
  refine fx_val (v := .int .i64 m.dst) fr (fr.want rfl rfl rfl) rfl (by first | decide | simp) (x_load1 pl3 rfl (fr.ev rfl) (B4.cell 2 rfl)) ?_
  clear fr a; intro a fr
  refine fx_val (v := .bool false) fr (fr.want rfl rfl rfl) rfl (by first | decide | simp) (x_neq rfl (fr.ev rfl) rfl (decide_eq_false hx)) ?_
  clear fr a; intro a fr
  refine fx_val (v := .bool false) fr rfl rfl (by first | decide | simp) (x_pick_f rfl (fr.ev rfl) (fr.ev rfl)) ?_
  clear fr a; intro a fr
  refine fx_val (v := .bool false) fr rfl rfl (by first | decide | simp) (x_assign rfl (fr.ev rfl)) ?_
  clear fr a; intro a fr
  refine wpList_nil ?_
  refine fx_next ?_
  refine fx_cond_f fr rfl ?_
  refine wp_seq ?_
  refine fx_held (n := 7) (fun w => Blk w b 64 #[.pointer (some ⟨bi, 0, none⟩), .map (some r)] ∧ Img 0 w bi ig cap h.bs ∧ EntsAt w FpE r h.E L c ∧ Blk w b1 36 (msgE.arr m) ∧ Blk w b6 23 (#[.slice none 0 0]) ∧ Blk w b11 37 (#[.int .i64 0]) ∧ True) (by kernel_rfl) rfl ?_  -- region 5
  intro w20 hN21
  replace hB := hB.new hN21
  replace hI := hI.new hN21
  replace hM := hM.new hN21
  replace H := H.new hN21
  replace B4 := B4.new hN21
  replace B9 := B9.new hN21
  replace B14 := B14.new hN21
  replace hF := hF.trNew hN21
  refine fx_take (i := 0) (v := .pointer (some ⟨b1, 3, none⟩)) fr rfl (by kernel_rfl) rfl rfl (by first | decide | simp) (fun _ _ _ h => panic_putD (fn := Try.f12) (d := 21) (by decide) h) (fun _ ⟨hB, hI, hM, B4, B9, B14, _⟩ => x_fieldAddr fo36_3 rfl (fr.ev rfl) rfl) ⟨hB, hI, hM, B4, B9, B14, trivial⟩ ?_
  clear fr a; intro a fr
  refine fx_take (i := 1) (v := .int .u32 m.line) fr rfl (by kernel_rfl) rfl rfl (by first | decide | simp) (fun _ _ _ h => panic_putD (fn := Try.f12) (d := 22) (by decide) h) (fun _ ⟨hB, hI, hM, B4, B9, B14, _⟩ => x_load1 pl24 rfl (fr.ev rfl) (B4.cell 3 rfl)) ⟨hB, hI, hM, B4, B9, B14, trivial⟩ ?_
  clear fr a; intro a fr
  refine fx_take (i := 2) (v := .int .i64 m.line) fr rfl (by kernel_rfl) rfl rfl (by first | decide | simp) (fun _ _ _ h => panic_putD (fn := Try.f12) (d := 23) (by decide) h) (fun _ ⟨hB, hI, hM, B4, B9, B14, _⟩ => x_convert Try.underlying24 Try.underlying2 rfl (fr.ev rfl) (i64w (r := m.line) rfl (by omega))) ⟨hB, hI, hM, B4, B9, B14, trivial⟩ ?_
  clear fr a; intro a fr
  refine fx_take (i := 3) (v := .pointer (some ⟨b, 0, none⟩)) fr rfl (by kernel_rfl) rfl rfl (by first | decide | simp) (fun _ _ _ h => panic_putD (fn := Try.f12) (d := 24) (by decide) h) (fun _ ⟨hB, hI, hM, B4, B9, B14, _⟩ => x_move rfl (fr.ev rfl)) ⟨hB, hI, hM, B4, B9, B14, trivial⟩ ?_
  clear fr a; intro a fr
  refine fx_one (i := 4) (by kernel_rfl) (fx_op rfl ?_)
  refine fx_call fr rfl rfl (by first | decide | simp) (x_call (vs := [.pointer (some ⟨b, 0, none⟩)]) rfl rfl ⟨(fr.ev rfl), trivial⟩ Try.func10 nm10 rfl) (lines_r hB hI) ?_
  clear fr a
  rintro v w9 ⟨rfl, hw9⟩ a fr
  obtain rfl := hw9.symm
  refine wpList_nil ?_
  refine ⟨⟨hB, hI, hM, B4, B9, B14, trivial⟩, ?_⟩
  refine fx_take (i := 5) (v := .bool true) fr rfl (by kernel_rfl) rfl rfl (by first | decide | simp) (fun _ _ _ h => panic_putD (fn := Try.f12) (d := 26) (by decide) h) (fun _ ⟨hB, hI, hM, B4, B9, B14, _⟩ => x_geq rfl (fr.ev rfl) (fr.ev rfl) (decide_eq_true hr)) ⟨hB, hI, hM, B4, B9, B14, trivial⟩ ?_
  clear fr a; intro a fr
  refine fx_take (i := 6) (v := .bool true) fr rfl (by kernel_rfl) rfl rfl (by first | decide | simp) (fun _ _ _ h => panic_putD (fn := Try.f12) (d := 20) (by decide) h) (fun _ ⟨hB, hI, hM, B4, B9, B14, _⟩ => x_assign rfl (fr.ev rfl)) ⟨hB, hI, hM, B4, B9, B14, trivial⟩ ?_
  clear fr a; intro a fr
  refine fx_hdone (by kernel_rfl) ?_
  refine fx_next ?_
  refine fx_cond_t fr rfl ?_
  refine wp_seq ?_
  refine wp_region_lit ?_  -- region 6
  refine fx_store1 sz23 rfl rfl rfl (fr.ev rfl) rfl rfl B9 (show 0 < 1 by decide) (cs' := #[.slice none 0 0]) rfl fun w24 hO25 hBq => ?_
  replace hB := hB.only hO25 (by first | exact ne_b_b6 | exact ne_b6_b.symm | (show ¬ b = b6; omega))
  replace hI := hI.only hO25 (by first | exact ne_bi_b6 | exact ne_b6_bi.symm | (show ¬ bi = b6; omega)) (by first | exact ne_ig_b6 | exact ne_b6_ig.symm | (show ¬ ig = b6; omega))
  replace hM := hM.only hO25 (ne1P ap_FpE_b6)
  replace H := H.only hO25 (ne1P ap_Fp_b6)
  replace B4 := B4.only hO25 (by first | exact ne_b1_b6 | exact ne_b6_b1.symm | (show ¬ b1 = b6; omega))
  replace B14 := B14.only hO25 (by first | exact ne_b11_b6 | exact ne_b6_b11.symm | (show ¬ b11 = b6; omega))
  replace hF := hF.loc hO25 (.inr g_b6)
  replace B9 := hBq
  clear hBq
  refine fx_store1 sz37 rfl rfl rfl (fr.ev rfl) rfl rfl B14 (show 0 < 1 by decide) (cs' := #[.int .i64 4]) rfl fun w26 hO27 hBq => ?_
  replace hB := hB.only hO27 (by first | exact ne_b_b11 | exact ne_b11_b.symm | (show ¬ b = b11; omega))
  replace hI := hI.only hO27 (by first | exact ne_bi_b11 | exact ne_b11_bi.symm | (show ¬ bi = b11; omega)) (by first | exact ne_ig_b11 | exact ne_b11_ig.symm | (show ¬ ig = b11; omega))
  replace hM := hM.only hO27 (ne1P ap_FpE_b11)
  replace H := H.only hO27 (ne1P ap_Fp_b11)
  replace B4 := B4.only hO27 (by first | exact ne_b1_b11 | exact ne_b11_b1.symm | (show ¬ b1 = b11; omega))
  replace B9 := B9.only hO27 (by first | exact ne_b6_b11 | exact ne_b11_b6.symm | (show ¬ b6 = b11; omega))
  replace hF := hF.loc hO27 (.inr g_b11)
  replace B14 := hBq
  clear hBq
  refine wpList_nil ?_
  refine fx_next ?_
  refine wp_ret ?_
  refine fx_rb ?_
  refine fx_rt ?_
  refine fx_retD0 fr [.cell 4 23, .cell 5 37] [.slice none 0 0, .int .i64 4] rfl ⟨⟨_, rfl, x_loadV1 pl23 (B9.cell 0 rfl)⟩, ⟨_, rfl, x_loadV1 pl37 (B14.cell 0 rfl)⟩, trivial⟩ rfl ?_
  exact ⟨_, rfl, rfl, H, hF⟩
def takeEs (b : Nat) : Array MapEntry := #[⟨.int .i64 1, .func (.func 32) #[.pointer (some ⟨b, 0, none⟩)] #[], 0⟩, ⟨.int .i64 2, .func (.func 32) #[.pointer (some ⟨b, 0, none⟩)] #[], 1⟩, ⟨.int .i64 3, .func (.func 32) #[.pointer (some ⟨b, 0, none⟩)] #[], 2⟩, ⟨.int .i64 11, .func (.func 33) #[.pointer (some ⟨b, 0, none⟩)] #[], 3⟩, ⟨.int .i64 12, .func (.func 34) #[.pointer (some ⟨b, 0, none⟩)] #[], 4⟩, ⟨.int .i64 13, .func (.func 35) #[.pointer (some ⟨b, 0, none⟩)] #[], 5⟩]
set_option maxRecDepth 100000 in
set_option maxHeartbeats 4000000 in
theorem take_ret {w : World} {Fp : Nat → Prop} {b : Nat} {h : HD} (H : HomeAt w Fp b h) (m : Msg) (hc : ¬ chk m ≠ 0) (hx : ¬ m.dst ≠ 4) (hr : ¬ ((h.bs.length / 16 : Nat) : Int) ≤ m.line) (hql : (entOf h.E m.line.toNat).q.length ≤ 100000) {f : Nat} {fn : Func} (hfn : Try.prog.funcs[f]? = some fn) (hnm : (fn.name == "runtime.NumGoroutine") = false) (hbd : fn.body.isNone = false) (hes : ∀ b, (Instr.findNow (.int .i64) (.int .i64 m.kind) (takeEs b).toList 0).map (fun q => (match q with | some (_, u) => u | none => .nilFunc, q.isSome)) = some (.func (.func f) #[.pointer (some ⟨b, 0, none⟩)] #[], true)) {x : Ent × List UInt8 × List Msg} (hxl : x.2.1.length = h.bs.length) (hcall : ∀ w1 bw be bi ig cap r Q qc, WorkR w1 bw be b bi ig cap r m.line (entOf h.E m.line.toNat) Q qc none 0 [] h.bs → Own msgE w1 Q qc (entOf h.E m.line.toNat).q → Calls Try.prog f #[.pointer (some ⟨bw, 0, none⟩), .agg (msgE.arr m)] w1 (Ret fun v w' => v = .tuple #[] ∧ HRet w1 w' bw be b bi ig cap r m.line Q none [] x))  : Calls Try.prog 12 #[.pointer (some ⟨b, 0, none⟩), .agg (msgE.arr m)] w (Ret fun v w' => TakeH w Fp b (⟨x.2.1, h.E.set m.line.toNat x.1⟩, x.2.2, 0) v w') := by
  obtain ⟨bi, ig, cap, r, FpE, L, c, hB, hI, hM, hP, hEn⟩ := H
  have hmn := m.hn
  have hpos := hI.pos
  have ne_b_bi := hP.ne_b_bi
  have ne_b_ig := hP.ne_b_ig
  have ne_bi_ig : NE bi ig := hI.ne
  have ap_FpE_b := hP.fb
  have ap_FpE_bi := hP.fbi
  have ap_FpE_ig := hP.fig
  have hrE := (hM.foot r).2 (.inl rfl)
  have gA_FpE : ∀ g, FpE g → Fp g ∨ w.heap.size ≤ g := fun g hg => .inl ((hP.foot g).2 (.inr (.inr (.inr hg))))
  have hF := Only.refl (Fp) w
  refine fx_enterD Try.func12 rfl (N := (71, [])) (T := [(0, .pointer (some ⟨b, 0, none⟩)), (1, .agg (msgE.arr m))]) rfl (show 2 ≤ 71 by decide) ⟨rfl, rfl, trivial⟩ fun a fr => ?_
  refine wp_seq ?_
  refine wp_region_lit ?_  -- region 0
  refine fx_new fr rfl rfl (by first | decide | simp) (x_box (cs := msgE.arr m) rfl (fr.ev rfl) rfl) ?_
  clear fr a
  intro b1 w2 hN3 B4 hb5 a fr
  have ne_b_b1 : NE b b1 := NE.mk (Nat.lt_of_lt_of_le hB.lt hb5)
  have ne_bi_b1 : NE bi b1 := NE.mk (Nat.lt_of_lt_of_le hI.lt.1 hb5)
  have ne_ig_b1 : NE ig b1 := NE.mk (Nat.lt_of_lt_of_le hI.lt.2 hb5)
  have ap_FpE_b1 : ¬ FpE b1 := hM.apart hb5
  have g_b1 := Nat.le_trans hF.size hb5
  replace hB := hB.new hN3
  replace hI := hI.new hN3
  replace hM := hM.new hN3
  replace hF := hF.trNew hN3
  refine fx_new fr rfl rfl (by first | decide | simp) (x_alloc (z := .slice none 0 0) (cs := #[.slice none 0 0]) rfl (by kernel_rfl) rfl) ?_
  clear fr a
  intro b6 w7 hN8 B9 hb10 a fr
  have ne_b_b6 : NE b b6 := NE.mk (Nat.lt_of_lt_of_le hB.lt hb10)
  have ne_bi_b6 : NE bi b6 := NE.mk (Nat.lt_of_lt_of_le hI.lt.1 hb10)
  have ne_ig_b6 : NE ig b6 := NE.mk (Nat.lt_of_lt_of_le hI.lt.2 hb10)
  have ap_FpE_b6 : ¬ FpE b6 := hM.apart hb10
  have ne_b1_b6 : NE b1 b6 := NE.mk (Nat.lt_of_lt_of_le B4.lt hb10)
  have g_b6 := Nat.le_trans hF.size hb10
  replace hB := hB.new hN8
  replace hI := hI.new hN8
  replace hM := hM.new hN8
  replace B4 := B4.new hN8
  replace hF := hF.trNew hN8
  refine fx_new fr rfl rfl (by first | decide | simp) (x_alloc (z := .int .i64 0) (cs := #[.int .i64 0]) rfl (by kernel_rfl) rfl) ?_
  clear fr a
  intro b11 w12 hN13 B14 hb15 a fr
  have ne_b_b11 : NE b b11 := NE.mk (Nat.lt_of_lt_of_le hB.lt hb15)
  have ne_bi_b11 : NE bi b11 := NE.mk (Nat.lt_of_lt_of_le hI.lt.1 hb15)
  have ne_ig_b11 : NE ig b11 := NE.mk (Nat.lt_of_lt_of_le hI.lt.2 hb15)
  have ap_FpE_b11 : ¬ FpE b11 := hM.apart hb15
  have ne_b1_b11 : NE b1 b11 := NE.mk (Nat.lt_of_lt_of_le B4.lt hb15)
  have ne_b6_b11 : NE b6 b11 := NE.mk (Nat.lt_of_lt_of_le B9.lt hb15)
  have g_b11 := Nat.le_trans hF.size hb15
  replace hB := hB.new hN13
  replace hI := hI.new hN13
  replace hM := hM.new hN13
  replace B4 := B4.new hN13
  replace B9 := B9.new hN13
  replace hF := hF.trNew hN13
  refine wpList_nil ?_
  refine fx_next ?_
  refine wp_seq ?_
  refine wp_block ?_
  refine wp_seq ?_
  refine wp_region_lit ?_  -- region 1
  refine fx_val (v := .pointer (some ⟨b, 0, none⟩)) fr rfl rfl (by first | decide | simp) (x_move rfl (fr.ev rfl)) ?_
  clear fr a; intro a fr
  refine fx_call fr rfl rfl (by first | decide | simp) (x_call (vs := [.pointer (some ⟨b, 0, none⟩)]) rfl rfl ⟨(fr.ev rfl), trivial⟩ Try.func27 nm27 rfl) (hnone_c hB) ?_
  clear fr a
  rintro v w9 ⟨rfl, hw9⟩ a fr
  obtain rfl := hw9.symm
  refine fx_val (v := .bool false) fr rfl rfl (by first | decide | simp) (x_assign rfl (fr.ev rfl)) ?_
  clear fr a; intro a fr
  refine wpList_nil ?_
  refine fx_next ?_
  refine fx_cond_f fr rfl ?_
  refine wp_seq ?_
  refine wp_region_lit ?_  -- region 3
  refine fx_val (v := .agg (msgE.arr m)) fr rfl rfl (by first | decide | simp) (x_loadE (E := msgE) ag36 rfl rfl (fr.ev rfl) (B4.rangeE msgE)) ?_
  clear fr a; intro a fr
  refine fx_call fr rfl rfl (by first | decide | simp) (x_call (vs := [.agg (msgE.arr m)]) rfl rfl ⟨(fr.ev rfl), trivial⟩ Try.func29 nm29 rfl) (chk_c m _) ?_
  clear fr a
  rintro v w18 ⟨rfl, hN19⟩ a fr
  replace hB := hB.new hN19
  replace hI := hI.new hN19
  replace hM := hM.new hN19
  replace B4 := B4.new hN19
  replace B9 := B9.new hN19
  replace B14 := B14.new hN19
  replace hF := hF.trNew hN19
  refine fx_val (v := .bool false) fr rfl rfl (by first | decide | simp) (x_neq rfl (fr.ev rfl) rfl (decide_eq_false hc)) ?_
  clear fr a; intro a fr
  refine fx_val (v := .bool false) fr rfl rfl (by first | decide | simp) (x_move rfl (fr.ev rfl)) ?_
  clear fr a; intro a fr
  refine fx_val (v := .pointer (some ⟨b1, 2, none⟩)) fr (fr.want rfl rfl rfl) rfl (by first | decide | simp) (x_fieldAddr fo36_2 rfl (fr.ev rfl) rfl) ?_
  clear fr a; intro a fr
  refine fx_val (v := .int .i64 m.dst) fr (fr.want rfl rfl rfl) rfl (by first | decide | simp) (x_load1 pl3 rfl (fr.ev rfl) (B4.cell 2 rfl)) ?_
  clear fr a; intro a fr
  refine fx_val (v := .bool false) fr (fr.want rfl rfl rfl) rfl (by first | decide | simp) (x_neq rfl (fr.ev rfl) rfl (decide_eq_false hx)) ?_
  clear fr a; intro a fr
  refine fx_val (v := .bool false) fr rfl rfl (by first | decide | simp) (x_pick_f rfl (fr.ev rfl) (fr.ev rfl)) ?_
  clear fr a; intro a fr
  refine fx_val (v := .bool false) fr rfl rfl (by first | decide | simp) (x_assign rfl (fr.ev rfl)) ?_
  clear fr a; intro a fr
  refine wpList_nil ?_
  refine fx_next ?_
  refine fx_cond_f fr rfl ?_
  refine wp_seq ?_
  refine fx_held (n := 7) (fun w => Blk w b 64 #[.pointer (some ⟨bi, 0, none⟩), .map (some r)] ∧ Img 0 w bi ig cap h.bs ∧ EntsAt w FpE r h.E L c ∧ Blk w b1 36 (msgE.arr m) ∧ Blk w b6 23 (#[.slice none 0 0]) ∧ Blk w b11 37 (#[.int .i64 0]) ∧ True) (by kernel_rfl) rfl ?_  -- region 5
  intro w20 hN21
  replace hB := hB.new hN21
  replace hI := hI.new hN21
  replace hM := hM.new hN21
  replace B4 := B4.new hN21
  replace B9 := B9.new hN21
  replace B14 := B14.new hN21
  replace hF := hF.trNew hN21
  refine fx_take (i := 0) (v := .pointer (some ⟨b1, 3, none⟩)) fr rfl (by kernel_rfl) rfl rfl (by first | decide | simp) (fun _ _ _ h => panic_putD (fn := Try.f12) (d := 21) (by decide) h) (fun _ ⟨hB, hI, hM, B4, B9, B14, _⟩ => x_fieldAddr fo36_3 rfl (fr.ev rfl) rfl) ⟨hB, hI, hM, B4, B9, B14, trivial⟩ ?_
  clear fr a; intro a fr
  refine fx_take (i := 1) (v := .int .u32 m.line) fr rfl (by kernel_rfl) rfl rfl (by first | decide | simp) (fun _ _ _ h => panic_putD (fn := Try.f12) (d := 22) (by decide) h) (fun _ ⟨hB, hI, hM, B4, B9, B14, _⟩ => x_load1 pl24 rfl (fr.ev rfl) (B4.cell 3 rfl)) ⟨hB, hI, hM, B4, B9, B14, trivial⟩ ?_
  clear fr a; intro a fr
  refine fx_take (i := 2) (v := .int .i64 m.line) fr rfl (by kernel_rfl) rfl rfl (by first | decide | simp) (fun _ _ _ h => panic_putD (fn := Try.f12) (d := 23) (by decide) h) (fun _ ⟨hB, hI, hM, B4, B9, B14, _⟩ => x_convert Try.underlying24 Try.underlying2 rfl (fr.ev rfl) (i64w (r := m.line) rfl (by omega))) ⟨hB, hI, hM, B4, B9, B14, trivial⟩ ?_
  clear fr a; intro a fr
  refine fx_take (i := 3) (v := .pointer (some ⟨b, 0, none⟩)) fr rfl (by kernel_rfl) rfl rfl (by first | decide | simp) (fun _ _ _ h => panic_putD (fn := Try.f12) (d := 24) (by decide) h) (fun _ ⟨hB, hI, hM, B4, B9, B14, _⟩ => x_move rfl (fr.ev rfl)) ⟨hB, hI, hM, B4, B9, B14, trivial⟩ ?_
  clear fr a; intro a fr
  refine fx_one (i := 4) (by kernel_rfl) (fx_op rfl ?_)
  refine fx_call fr rfl rfl (by first | decide | simp) (x_call (vs := [.pointer (some ⟨b, 0, none⟩)]) rfl rfl ⟨(fr.ev rfl), trivial⟩ Try.func10 nm10 rfl) (lines_r hB hI) ?_
  clear fr a
  rintro v w9 ⟨rfl, hw9⟩ a fr
  obtain rfl := hw9.symm
  refine wpList_nil ?_
  refine ⟨⟨hB, hI, hM, B4, B9, B14, trivial⟩, ?_⟩
  refine fx_take (i := 5) (v := .bool false) fr rfl (by kernel_rfl) rfl rfl (by first | decide | simp) (fun _ _ _ h => panic_putD (fn := Try.f12) (d := 26) (by decide) h) (fun _ ⟨hB, hI, hM, B4, B9, B14, _⟩ => x_geq rfl (fr.ev rfl) (fr.ev rfl) (decide_eq_false hr)) ⟨hB, hI, hM, B4, B9, B14, trivial⟩ ?_
  clear fr a; intro a fr
  refine fx_take (i := 6) (v := .bool false) fr rfl (by kernel_rfl) rfl rfl (by first | decide | simp) (fun _ _ _ h => panic_putD (fn := Try.f12) (d := 20) (by decide) h) (fun _ ⟨hB, hI, hM, B4, B9, B14, _⟩ => x_assign rfl (fr.ev rfl)) ⟨hB, hI, hM, B4, B9, B14, trivial⟩ ?_
  clear fr a; intro a fr
  refine fx_hdone (by kernel_rfl) ?_
  refine fx_next ?_
  refine fx_cond_f fr rfl ?_
  refine wp_skip ?_
  refine fx_blk ?_
  refine fx_next ?_
  refine wp_seq ?_
  refine wp_region_lit ?_  -- region 7
  refine fx_val (v := .func (.func 30) #[] #[.pointer (some ⟨b6, 0, none⟩), .pointer (some ⟨b11, 0, none⟩)]) fr rfl rfl (by first | decide | simp) (x_makeFunc (vs := [.pointer (some ⟨b6, 0, none⟩), .pointer (some ⟨b11, 0, none⟩)]) rfl ⟨(fr.ev rfl), (fr.ev rfl), trivial⟩) ?_
  clear fr a; intro a fr
  refine fx_defer fr rfl rfl (x_deferv (vs := []) rfl (fr.ev rfl) trivial) ?_
  clear fr a; intro a fr
  refine wpList_nil ?_
  refine fx_next ?_
  refine wp_seq ?_
  refine wp_region_lit ?_  -- region 8
  refine fx_val (v := .pointer (some ⟨b, 0, none⟩)) fr rfl rfl (by first | decide | simp) (x_move rfl (fr.ev rfl)) ?_
  clear fr a; intro a fr
  refine fx_val (v := .pointer (some ⟨b1, 3, none⟩)) fr rfl rfl (by first | decide | simp) (x_fieldAddr fo36_3 rfl (fr.ev rfl) rfl) ?_
  clear fr a; intro a fr
  refine fx_val (v := .int .u32 m.line) fr rfl rfl (by first | decide | simp) (x_load1 pl24 rfl (fr.ev rfl) (B4.cell 3 rfl)) ?_
  clear fr a; intro a fr
  refine fx_call fr rfl rfl (by first | decide | simp) (x_call (vs := [.pointer (some ⟨b, 0, none⟩), .int .u32 m.line]) rfl rfl ⟨(fr.ev rfl), (fr.ev rfl), trivial⟩ Try.func31 nm31 rfl) (of_c hB hM m.line (by omega) (by omega)) ?_
  clear fr a
  rintro v w28 ⟨Q24, qc25, rfl, OQ26, hA27, hN29⟩ a fr
  have ap_Q24_b : Apart Q24 b := new_apart hA27 hB.lt
  have ap_Q24_bi : Apart Q24 bi := new_apart hA27 hI.lt.1
  have ap_Q24_ig : Apart Q24 ig := new_apart hA27 hI.lt.2
  have ap2_FpE_Q24 : ∀ k, FpE k → inA Q24 k → False := symP (new_apart2P hA27 fun _ hg => hM.lt hg)
  have ap_Q24_b1 : Apart Q24 b1 := new_apart hA27 B4.lt
  have ap_Q24_b6 : Apart Q24 b6 := new_apart hA27 B9.lt
  have ap_Q24_b11 : Apart Q24 b11 := new_apart hA27 B14.lt
  have gA_Q24 := gA_new hF hA27
  have gN_Q24 := fun g (hg : inA Q24 g) => Nat.le_trans hF.size (hA27 g hg)
  replace hB := hB.new hN29
  replace hI := hI.new hN29
  replace hM := hM.new hN29
  replace B4 := B4.new hN29
  replace B9 := B9.new hN29
  replace B14 := B14.new hN29
  replace hF := hF.trNew hN29
  refine fx_new fr rfl rfl (by first | decide | simp) (x_alloc (z := .agg (#[.int .i64 0, .bool false, .bool false, .bool false, .bool false, .bool false, .int .i64 0, .int .i64 0, .int .i64 0, .bool false, .slice none 0 0])) (cs := #[.int .i64 0, .bool false, .bool false, .bool false, .bool false, .bool false, .int .i64 0, .int .i64 0, .int .i64 0, .bool false, .slice none 0 0]) rfl (by kernel_rfl) rfl) ?_
  clear fr a
  intro b30 w31 hN32 B33 hb34 a fr
  have ne_b_b30 : NE b b30 := NE.mk (Nat.lt_of_lt_of_le hB.lt hb34)
  have ne_bi_b30 : NE bi b30 := NE.mk (Nat.lt_of_lt_of_le hI.lt.1 hb34)
  have ne_ig_b30 : NE ig b30 := NE.mk (Nat.lt_of_lt_of_le hI.lt.2 hb34)
  have ap_FpE_b30 : ¬ FpE b30 := hM.apart hb34
  have ne_b1_b30 : NE b1 b30 := NE.mk (Nat.lt_of_lt_of_le B4.lt hb34)
  have ne_b6_b30 : NE b6 b30 := NE.mk (Nat.lt_of_lt_of_le B9.lt hb34)
  have ne_b11_b30 : NE b11 b30 := NE.mk (Nat.lt_of_lt_of_le B14.lt hb34)
  have ap_Q24_b30 : Apart Q24 b30 := OQ26.apart hb34
  have g_b30 := Nat.le_trans hF.size hb34
  replace hB := hB.new hN32
  replace hI := hI.new hN32
  replace hM := hM.new hN32
  replace B4 := B4.new hN32
  replace B9 := B9.new hN32
  replace B14 := B14.new hN32
  replace OQ26 := OQ26.new hN32
  replace hF := hF.trNew hN32
  refine fx_storeS sz42 rfl rfl rfl (fr.ev rfl) (fr.ev rfl) (ent_all _ _ _ _) B33 rfl rfl fun w35 hO36 hBq => ?_
  replace hB := hB.only hO36 (by first | exact ne_b_b30 | exact ne_b30_b.symm | (show ¬ b = b30; omega))
  replace hI := hI.only hO36 (by first | exact ne_bi_b30 | exact ne_b30_bi.symm | (show ¬ bi = b30; omega)) (by first | exact ne_ig_b30 | exact ne_b30_ig.symm | (show ¬ ig = b30; omega))
  replace hM := hM.only hO36 (ne1P ap_FpE_b30)
  replace B4 := B4.only hO36 (by first | exact ne_b1_b30 | exact ne_b30_b1.symm | (show ¬ b1 = b30; omega))
  replace B9 := B9.only hO36 (by first | exact ne_b6_b30 | exact ne_b30_b6.symm | (show ¬ b6 = b30; omega))
  replace B14 := B14.only hO36 (by first | exact ne_b11_b30 | exact ne_b30_b11.symm | (show ¬ b11 = b30; omega))
  replace OQ26 := OQ26.only hO36 (Apart.ne1 ap_Q24_b30)
  replace hF := hF.loc hO36 (.inr g_b30)
  replace B33 := hBq
  clear hBq
  refine wpList_nil ?_
  refine fx_next ?_
  refine wp_seq ?_
  refine wp_region_lit ?_  -- region 9
  refine fx_val (v := .pointer (some ⟨b, 0, none⟩)) fr rfl rfl (by first | decide | simp) (x_move rfl (fr.ev rfl)) ?_
  clear fr a; intro a fr
  refine fx_val (v := .pointer (some ⟨b1, 3, none⟩)) fr rfl rfl (by first | decide | simp) (x_fieldAddr fo36_3 rfl (fr.ev rfl) rfl) ?_
  clear fr a; intro a fr
  refine fx_val (v := .int .u32 m.line) fr rfl rfl (by first | decide | simp) (x_load1 pl24 rfl (fr.ev rfl) (B4.cell 3 rfl)) ?_
  clear fr a; intro a fr
  refine fx_val (v := .agg (#[.slice none 0 0, .pointer (some ⟨b30, 0, none⟩), .pointer (some ⟨b, 0, none⟩), .int .u32 m.line])) fr rfl rfl (by first | decide | simp) (x_build (cells := #[.slice none 0 0, .pointer (some ⟨b30, 0, none⟩), .pointer (some ⟨b, 0, none⟩), .int .u32 m.line]) rfl (by simp only [List.map_toArray, List.map_cons, List.map_nil, show a.eval (.tmp 6) = .pointer (some ⟨b30, 0, none⟩) from fr.ev rfl, show a.eval (.tmp 32) = .pointer (some ⟨b, 0, none⟩) from fr.ev rfl, show a.eval (.tmp 34) = .int .u32 m.line from fr.ev rfl]; kernel_rfl)) ?_
  clear fr a; intro a fr
  refine fx_new fr rfl rfl (by first | decide | simp) (x_box (cs := #[.slice none 0 0, .pointer (some ⟨b30, 0, none⟩), .pointer (some ⟨b, 0, none⟩), .int .u32 m.line]) rfl (fr.ev rfl) rfl) ?_
  clear fr a
  intro b37 w38 hN39 B40 hb41 a fr
  have ne_b_b37 : NE b b37 := NE.mk (Nat.lt_of_lt_of_le hB.lt hb41)
  have ne_bi_b37 : NE bi b37 := NE.mk (Nat.lt_of_lt_of_le hI.lt.1 hb41)
  have ne_ig_b37 : NE ig b37 := NE.mk (Nat.lt_of_lt_of_le hI.lt.2 hb41)
  have ap_FpE_b37 : ¬ FpE b37 := hM.apart hb41
  have ne_b1_b37 : NE b1 b37 := NE.mk (Nat.lt_of_lt_of_le B4.lt hb41)
  have ne_b6_b37 : NE b6 b37 := NE.mk (Nat.lt_of_lt_of_le B9.lt hb41)
  have ne_b11_b37 : NE b11 b37 := NE.mk (Nat.lt_of_lt_of_le B14.lt hb41)
  have ap_Q24_b37 : Apart Q24 b37 := OQ26.apart hb41
  have ne_b30_b37 : NE b30 b37 := NE.mk (Nat.lt_of_lt_of_le B33.lt hb41)
  have g_b37 := Nat.le_trans hF.size hb41
  replace hB := hB.new hN39
  replace hI := hI.new hN39
  replace hM := hM.new hN39
  replace B4 := B4.new hN39
  replace B9 := B9.new hN39
  replace B14 := B14.new hN39
  replace OQ26 := OQ26.new hN39
  replace B33 := B33.new hN39
  replace hF := hF.trNew hN39
  refine fx_val (v := .pointer (some ⟨b37, 0, none⟩)) fr rfl rfl (by first | decide | simp) (x_assign rfl (fr.ev rfl)) ?_
  clear fr a; intro a fr
  refine wpList_nil ?_
  refine fx_next ?_
  refine wp_seq ?_
  refine wp_region_lit ?_  -- region 10
  refine fx_makeMap fr rfl rfl rfl (by first | decide | simp) ?_
  clear fr a
  intro r42 w43 hN44 M45 hb46 a fr
  have ne_b_r42 : NE b r42 := NE.mk (Nat.lt_of_lt_of_le hB.lt hb46)
  have ne_bi_r42 : NE bi r42 := NE.mk (Nat.lt_of_lt_of_le hI.lt.1 hb46)
  have ne_ig_r42 : NE ig r42 := NE.mk (Nat.lt_of_lt_of_le hI.lt.2 hb46)
  have ap_FpE_r42 : ¬ FpE r42 := hM.apart hb46
  have ne_b1_r42 : NE b1 r42 := NE.mk (Nat.lt_of_lt_of_le B4.lt hb46)
  have ne_b6_r42 : NE b6 r42 := NE.mk (Nat.lt_of_lt_of_le B9.lt hb46)
  have ne_b11_r42 : NE b11 r42 := NE.mk (Nat.lt_of_lt_of_le B14.lt hb46)
  have ap_Q24_r42 : Apart Q24 r42 := OQ26.apart hb46
  have ne_b30_r42 : NE b30 r42 := NE.mk (Nat.lt_of_lt_of_le B33.lt hb46)
  have ne_b37_r42 : NE b37 r42 := NE.mk (Nat.lt_of_lt_of_le B40.lt hb46)
  have g_r42 := Nat.le_trans hF.size hb46
  replace hB := hB.new hN44
  replace hI := hI.new hN44
  replace hM := hM.new hN44
  replace B4 := B4.new hN44
  replace B9 := B9.new hN44
  replace B14 := B14.new hN44
  replace OQ26 := OQ26.new hN44
  replace B33 := B33.new hN44
  replace B40 := B40.new hN44
  replace hF := hF.trNew hN44
  refine fx_val (v := .pointer (some ⟨b37, 0, none⟩)) fr rfl rfl (by first | decide | simp) (x_move rfl (fr.ev rfl)) ?_
  clear fr a; intro a fr
  refine fx_val (v := .func (.func 32) #[.pointer (some ⟨b37, 0, none⟩)] #[]) fr rfl rfl (by first | decide | simp) (x_makeBound rfl (fr.ev rfl)) ?_
  clear fr a; intro a fr
  refine fx_insert (es' := #[⟨.int .i64 1, .func (.func 32) #[.pointer (some ⟨b37, 0, none⟩)] #[], 0⟩]) Try.underlying84 Try.underlying33 rfl rfl rfl (fr.ev rfl) rfl (fr.ev rfl) M45 rfl rfl fun w47 hO48 hBq => ?_
  replace hB := hB.only hO48 (by first | exact ne_b_r42 | exact ne_r42_b.symm | (show ¬ b = r42; omega))
  replace hI := hI.only hO48 (by first | exact ne_bi_r42 | exact ne_r42_bi.symm | (show ¬ bi = r42; omega)) (by first | exact ne_ig_r42 | exact ne_r42_ig.symm | (show ¬ ig = r42; omega))
  replace hM := hM.only hO48 (ne1P ap_FpE_r42)
  replace B4 := B4.only hO48 (by first | exact ne_b1_r42 | exact ne_r42_b1.symm | (show ¬ b1 = r42; omega))
  replace B9 := B9.only hO48 (by first | exact ne_b6_r42 | exact ne_r42_b6.symm | (show ¬ b6 = r42; omega))
  replace B14 := B14.only hO48 (by first | exact ne_b11_r42 | exact ne_r42_b11.symm | (show ¬ b11 = r42; omega))
  replace OQ26 := OQ26.only hO48 (Apart.ne1 ap_Q24_r42)
  replace B33 := B33.only hO48 (by first | exact ne_b30_r42 | exact ne_r42_b30.symm | (show ¬ b30 = r42; omega))
  replace B40 := B40.only hO48 (by first | exact ne_b37_r42 | exact ne_r42_b37.symm | (show ¬ b37 = r42; omega))
  replace hF := hF.loc hO48 (.inr g_r42)
  replace M45 := hBq
  clear hBq
  refine fx_val (v := .pointer (some ⟨b37, 0, none⟩)) fr rfl rfl (by first | decide | simp) (x_move rfl (fr.ev rfl)) ?_
  clear fr a; intro a fr
  refine fx_val (v := .func (.func 32) #[.pointer (some ⟨b37, 0, none⟩)] #[]) fr rfl rfl (by first | decide | simp) (x_makeBound rfl (fr.ev rfl)) ?_
  clear fr a; intro a fr
  refine fx_insert (es' := #[⟨.int .i64 1, .func (.func 32) #[.pointer (some ⟨b37, 0, none⟩)] #[], 0⟩, ⟨.int .i64 2, .func (.func 32) #[.pointer (some ⟨b37, 0, none⟩)] #[], 1⟩]) Try.underlying84 Try.underlying33 rfl rfl rfl (fr.ev rfl) rfl (fr.ev rfl) M45 rfl rfl fun w49 hO50 hBq => ?_
  replace hB := hB.only hO50 (by first | exact ne_b_r42 | exact ne_r42_b.symm | (show ¬ b = r42; omega))
  replace hI := hI.only hO50 (by first | exact ne_bi_r42 | exact ne_r42_bi.symm | (show ¬ bi = r42; omega)) (by first | exact ne_ig_r42 | exact ne_r42_ig.symm | (show ¬ ig = r42; omega))
  replace hM := hM.only hO50 (ne1P ap_FpE_r42)
  replace B4 := B4.only hO50 (by first | exact ne_b1_r42 | exact ne_r42_b1.symm | (show ¬ b1 = r42; omega))
  replace B9 := B9.only hO50 (by first | exact ne_b6_r42 | exact ne_r42_b6.symm | (show ¬ b6 = r42; omega))
  replace B14 := B14.only hO50 (by first | exact ne_b11_r42 | exact ne_r42_b11.symm | (show ¬ b11 = r42; omega))
  replace OQ26 := OQ26.only hO50 (Apart.ne1 ap_Q24_r42)
  replace B33 := B33.only hO50 (by first | exact ne_b30_r42 | exact ne_r42_b30.symm | (show ¬ b30 = r42; omega))
  replace B40 := B40.only hO50 (by first | exact ne_b37_r42 | exact ne_r42_b37.symm | (show ¬ b37 = r42; omega))
  replace hF := hF.loc hO50 (.inr g_r42)
  replace M45 := hBq
  clear hBq
  refine fx_val (v := .pointer (some ⟨b37, 0, none⟩)) fr rfl rfl (by first | decide | simp) (x_move rfl (fr.ev rfl)) ?_
  clear fr a; intro a fr
  refine fx_val (v := .func (.func 32) #[.pointer (some ⟨b37, 0, none⟩)] #[]) fr rfl rfl (by first | decide | simp) (x_makeBound rfl (fr.ev rfl)) ?_
  clear fr a; intro a fr
  refine fx_insert (es' := #[⟨.int .i64 1, .func (.func 32) #[.pointer (some ⟨b37, 0, none⟩)] #[], 0⟩, ⟨.int .i64 2, .func (.func 32) #[.pointer (some ⟨b37, 0, none⟩)] #[], 1⟩, ⟨.int .i64 3, .func (.func 32) #[.pointer (some ⟨b37, 0, none⟩)] #[], 2⟩]) Try.underlying84 Try.underlying33 rfl rfl rfl (fr.ev rfl) rfl (fr.ev rfl) M45 rfl rfl fun w51 hO52 hBq => ?_
  replace hB := hB.only hO52 (by first | exact ne_b_r42 | exact ne_r42_b.symm | (show ¬ b = r42; omega))
  replace hI := hI.only hO52 (by first | exact ne_bi_r42 | exact ne_r42_bi.symm | (show ¬ bi = r42; omega)) (by first | exact ne_ig_r42 | exact ne_r42_ig.symm | (show ¬ ig = r42; omega))
  replace hM := hM.only hO52 (ne1P ap_FpE_r42)
  replace B4 := B4.only hO52 (by first | exact ne_b1_r42 | exact ne_r42_b1.symm | (show ¬ b1 = r42; omega))
  replace B9 := B9.only hO52 (by first | exact ne_b6_r42 | exact ne_r42_b6.symm | (show ¬ b6 = r42; omega))
  replace B14 := B14.only hO52 (by first | exact ne_b11_r42 | exact ne_r42_b11.symm | (show ¬ b11 = r42; omega))
  replace OQ26 := OQ26.only hO52 (Apart.ne1 ap_Q24_r42)
  replace B33 := B33.only hO52 (by first | exact ne_b30_r42 | exact ne_r42_b30.symm | (show ¬ b30 = r42; omega))
  replace B40 := B40.only hO52 (by first | exact ne_b37_r42 | exact ne_r42_b37.symm | (show ¬ b37 = r42; omega))
  replace hF := hF.loc hO52 (.inr g_r42)
  replace M45 := hBq
  clear hBq
  refine fx_val (v := .pointer (some ⟨b37, 0, none⟩)) fr rfl rfl (by first | decide | simp) (x_move rfl (fr.ev rfl)) ?_
  clear fr a; intro a fr
  refine fx_val (v := .func (.func 33) #[.pointer (some ⟨b37, 0, none⟩)] #[]) fr rfl rfl (by first | decide | simp) (x_makeBound rfl (fr.ev rfl)) ?_
  clear fr a; intro a fr
  refine fx_insert (es' := #[⟨.int .i64 1, .func (.func 32) #[.pointer (some ⟨b37, 0, none⟩)] #[], 0⟩, ⟨.int .i64 2, .func (.func 32) #[.pointer (some ⟨b37, 0, none⟩)] #[], 1⟩, ⟨.int .i64 3, .func (.func 32) #[.pointer (some ⟨b37, 0, none⟩)] #[], 2⟩, ⟨.int .i64 11, .func (.func 33) #[.pointer (some ⟨b37, 0, none⟩)] #[], 3⟩]) Try.underlying84 Try.underlying33 rfl rfl rfl (fr.ev rfl) rfl (fr.ev rfl) M45 rfl rfl fun w53 hO54 hBq => ?_
  replace hB := hB.only hO54 (by first | exact ne_b_r42 | exact ne_r42_b.symm | (show ¬ b = r42; omega))
  replace hI := hI.only hO54 (by first | exact ne_bi_r42 | exact ne_r42_bi.symm | (show ¬ bi = r42; omega)) (by first | exact ne_ig_r42 | exact ne_r42_ig.symm | (show ¬ ig = r42; omega))
  replace hM := hM.only hO54 (ne1P ap_FpE_r42)
  replace B4 := B4.only hO54 (by first | exact ne_b1_r42 | exact ne_r42_b1.symm | (show ¬ b1 = r42; omega))
  replace B9 := B9.only hO54 (by first | exact ne_b6_r42 | exact ne_r42_b6.symm | (show ¬ b6 = r42; omega))
  replace B14 := B14.only hO54 (by first | exact ne_b11_r42 | exact ne_r42_b11.symm | (show ¬ b11 = r42; omega))
  replace OQ26 := OQ26.only hO54 (Apart.ne1 ap_Q24_r42)
  replace B33 := B33.only hO54 (by first | exact ne_b30_r42 | exact ne_r42_b30.symm | (show ¬ b30 = r42; omega))
  replace B40 := B40.only hO54 (by first | exact ne_b37_r42 | exact ne_r42_b37.symm | (show ¬ b37 = r42; omega))
  replace hF := hF.loc hO54 (.inr g_r42)
  replace M45 := hBq
  clear hBq
  refine fx_val (v := .pointer (some ⟨b37, 0, none⟩)) fr rfl rfl (by first | decide | simp) (x_move rfl (fr.ev rfl)) ?_
  clear fr a; intro a fr
  refine fx_val (v := .func (.func 34) #[.pointer (some ⟨b37, 0, none⟩)] #[]) fr rfl rfl (by first | decide | simp) (x_makeBound rfl (fr.ev rfl)) ?_
  clear fr a; intro a fr
  refine fx_insert (es' := #[⟨.int .i64 1, .func (.func 32) #[.pointer (some ⟨b37, 0, none⟩)] #[], 0⟩, ⟨.int .i64 2, .func (.func 32) #[.pointer (some ⟨b37, 0, none⟩)] #[], 1⟩, ⟨.int .i64 3, .func (.func 32) #[.pointer (some ⟨b37, 0, none⟩)] #[], 2⟩, ⟨.int .i64 11, .func (.func 33) #[.pointer (some ⟨b37, 0, none⟩)] #[], 3⟩, ⟨.int .i64 12, .func (.func 34) #[.pointer (some ⟨b37, 0, none⟩)] #[], 4⟩]) Try.underlying84 Try.underlying33 rfl rfl rfl (fr.ev rfl) rfl (fr.ev rfl) M45 rfl rfl fun w55 hO56 hBq => ?_
  replace hB := hB.only hO56 (by first | exact ne_b_r42 | exact ne_r42_b.symm | (show ¬ b = r42; omega))
  replace hI := hI.only hO56 (by first | exact ne_bi_r42 | exact ne_r42_bi.symm | (show ¬ bi = r42; omega)) (by first | exact ne_ig_r42 | exact ne_r42_ig.symm | (show ¬ ig = r42; omega))
  replace hM := hM.only hO56 (ne1P ap_FpE_r42)
  replace B4 := B4.only hO56 (by first | exact ne_b1_r42 | exact ne_r42_b1.symm | (show ¬ b1 = r42; omega))
  replace B9 := B9.only hO56 (by first | exact ne_b6_r42 | exact ne_r42_b6.symm | (show ¬ b6 = r42; omega))
  replace B14 := B14.only hO56 (by first | exact ne_b11_r42 | exact ne_r42_b11.symm | (show ¬ b11 = r42; omega))
  replace OQ26 := OQ26.only hO56 (Apart.ne1 ap_Q24_r42)
  replace B33 := B33.only hO56 (by first | exact ne_b30_r42 | exact ne_r42_b30.symm | (show ¬ b30 = r42; omega))
  replace B40 := B40.only hO56 (by first | exact ne_b37_r42 | exact ne_r42_b37.symm | (show ¬ b37 = r42; omega))
  replace hF := hF.loc hO56 (.inr g_r42)
  replace M45 := hBq
  clear hBq
  refine fx_val (v := .pointer (some ⟨b37, 0, none⟩)) fr rfl rfl (by first | decide | simp) (x_move rfl (fr.ev rfl)) ?_
  clear fr a; intro a fr
  refine fx_val (v := .func (.func 35) #[.pointer (some ⟨b37, 0, none⟩)] #[]) fr rfl rfl (by first | decide | simp) (x_makeBound rfl (fr.ev rfl)) ?_
  clear fr a; intro a fr
  refine fx_insert (es' := #[⟨.int .i64 1, .func (.func 32) #[.pointer (some ⟨b37, 0, none⟩)] #[], 0⟩, ⟨.int .i64 2, .func (.func 32) #[.pointer (some ⟨b37, 0, none⟩)] #[], 1⟩, ⟨.int .i64 3, .func (.func 32) #[.pointer (some ⟨b37, 0, none⟩)] #[], 2⟩, ⟨.int .i64 11, .func (.func 33) #[.pointer (some ⟨b37, 0, none⟩)] #[], 3⟩, ⟨.int .i64 12, .func (.func 34) #[.pointer (some ⟨b37, 0, none⟩)] #[], 4⟩, ⟨.int .i64 13, .func (.func 35) #[.pointer (some ⟨b37, 0, none⟩)] #[], 5⟩]) Try.underlying84 Try.underlying33 rfl rfl rfl (fr.ev rfl) rfl (fr.ev rfl) M45 rfl rfl fun w57 hO58 hBq => ?_
  replace hB := hB.only hO58 (by first | exact ne_b_r42 | exact ne_r42_b.symm | (show ¬ b = r42; omega))
  replace hI := hI.only hO58 (by first | exact ne_bi_r42 | exact ne_r42_bi.symm | (show ¬ bi = r42; omega)) (by first | exact ne_ig_r42 | exact ne_r42_ig.symm | (show ¬ ig = r42; omega))
  replace hM := hM.only hO58 (ne1P ap_FpE_r42)
  replace B4 := B4.only hO58 (by first | exact ne_b1_r42 | exact ne_r42_b1.symm | (show ¬ b1 = r42; omega))
  replace B9 := B9.only hO58 (by first | exact ne_b6_r42 | exact ne_r42_b6.symm | (show ¬ b6 = r42; omega))
  replace B14 := B14.only hO58 (by first | exact ne_b11_r42 | exact ne_r42_b11.symm | (show ¬ b11 = r42; omega))
  replace OQ26 := OQ26.only hO58 (Apart.ne1 ap_Q24_r42)
  replace B33 := B33.only hO58 (by first | exact ne_b30_r42 | exact ne_r42_b30.symm | (show ¬ b30 = r42; omega))
  replace B40 := B40.only hO58 (by first | exact ne_b37_r42 | exact ne_r42_b37.symm | (show ¬ b37 = r42; omega))
  replace hF := hF.loc hO58 (.inr g_r42)
  replace M45 := hBq
  clear hBq
  refine fx_val (v := .map (some r42)) fr rfl rfl (by first | decide | simp) (x_move rfl (fr.ev rfl)) ?_
  clear fr a; intro a fr
  refine fx_val (v := .pointer (some ⟨b1, 0, none⟩)) fr rfl rfl (by first | decide | simp) (x_fieldAddr fo36_0 rfl (fr.ev rfl) rfl) ?_
  clear fr a; intro a fr
  refine fx_val (v := .int .i64 m.kind) fr rfl rfl (by first | decide | simp) (x_load1 pl33 rfl (fr.ev rfl) (B4.cell 0 rfl)) ?_
  clear fr a; intro a fr
  refine fx_val (v := .func (.func f) #[.pointer (some ⟨b37, 0, none⟩)] #[]) fr rfl rfl (by first | decide | simp) (x_lookup (k := .i64) (ok := false) (v := .func (.func f) #[.pointer (some ⟨b37, 0, none⟩)] #[]) (b := true) Try.underlying84 Try.underlying33 rfl (fr.ev rfl) (fr.ev rfl) M45 (z := .nilFunc) (by kernel_rfl) (hes b37)) ?_
  clear fr a; intro a fr
  refine fx_val (v := .agg (msgE.arr m)) fr rfl rfl (by first | decide | simp) (x_loadE (E := msgE) ag36 rfl rfl (fr.ev rfl) (B4.rangeE msgE)) ?_
  clear fr a; intro a fr
  refine fx_call fr rfl rfl (by first | decide | simp) (x_callb (all := #[.pointer (some ⟨b37, 0, none⟩), .agg (msgE.arr m)]) (vs := [.agg (msgE.arr m)]) rfl (fr.ev rfl) ⟨(fr.ev rfl), trivial⟩ rfl hfn hnm hbd) (hcall _ b37 b30 bi ig cap r Q24 qc25 ⟨B40, B33, hB, hI, OQ26.view, Own.nil, ⟨(by first | exact ne_b37_b30 | exact ne_b30_b37.symm), (by first | exact ne_b37_b | exact ne_b_b37.symm), (by first | exact ne_b37_bi | exact ne_bi_b37.symm), (by first | exact ne_b37_ig | exact ne_ig_b37.symm), (by first | exact ne_b30_b | exact ne_b_b30.symm), (by first | exact ne_b30_bi | exact ne_bi_b30.symm), (by first | exact ne_b30_ig | exact ne_ig_b30.symm), (by first | exact ne_b_bi | exact ne_bi_b.symm), (by first | exact ne_b_ig | exact ne_ig_b.symm), (by first | exact ne_bi_ig | exact ne_ig_bi.symm), ap_Q24_b37, ap_Q24_b30, ap_Q24_b, ap_Q24_bi, ap_Q24_ig, (apart_none b37), (apart_none b30), (apart_none b), (apart_none bi), (apart_none ig), (fun k _ h => apart_none k h)⟩⟩ OQ26) ?_
  clear fr a
  rintro v w67 ⟨rfl, Q59, qc60, A61, ac62, R63, mvA64, mvQ65, hN68⟩ a fr
  have ap2_FpE_A61 : ∀ k, FpE k → inA A61 k → False := fun k h1 hk => (mvA64 k hk).elim (fun h => h.elim (apart_none k) (ap2_FpE_Q24 k h1)) (fun h => by have := hM.lt h1; omega)
  have ap2_FpE_Q59 : ∀ k, FpE k → inA Q59 k → False := fun k h1 hk => (mvQ65 k hk).elim (fun h => h.elim (apart_none k) (ap2_FpE_Q24 k h1)) (fun h => by have := hM.lt h1; omega)
  have ap_A61_b1 : Apart A61 b1 := fun hk => (mvA64 b1 hk).elim (fun h => h.elim (apart_none b1) ap_Q24_b1) (fun h => by have := B4.lt; omega)
  have ap_Q59_b1 : Apart Q59 b1 := fun hk => (mvQ65 b1 hk).elim (fun h => h.elim (apart_none b1) ap_Q24_b1) (fun h => by have := B4.lt; omega)
  have ap_A61_b6 : Apart A61 b6 := fun hk => (mvA64 b6 hk).elim (fun h => h.elim (apart_none b6) ap_Q24_b6) (fun h => by have := B9.lt; omega)
  have ap_Q59_b6 : Apart Q59 b6 := fun hk => (mvQ65 b6 hk).elim (fun h => h.elim (apart_none b6) ap_Q24_b6) (fun h => by have := B9.lt; omega)
  have ap_A61_b11 : Apart A61 b11 := fun hk => (mvA64 b11 hk).elim (fun h => h.elim (apart_none b11) ap_Q24_b11) (fun h => by have := B14.lt; omega)
  have ap_Q59_b11 : Apart Q59 b11 := fun hk => (mvQ65 b11 hk).elim (fun h => h.elim (apart_none b11) ap_Q24_b11) (fun h => by have := B14.lt; omega)
  have ap_A61_r42 : Apart A61 r42 := fun hk => (mvA64 r42 hk).elim (fun h => h.elim (apart_none r42) ap_Q24_r42) (fun h => by have := M45.lt; omega)
  have ap_Q59_r42 : Apart Q59 r42 := fun hk => (mvQ65 r42 hk).elim (fun h => h.elim (apart_none r42) ap_Q24_r42) (fun h => by have := M45.lt; omega)
  have gN_A61 : ∀ g, inA A61 g → w.heap.size ≤ g := fun g hg => (mvA64 g hg).elim (fun h => h.elim (fun h => absurd h (apart_none g)) (gN_Q24 g)) (fun h => Nat.le_trans hF.size h)
  have gN_Q59 : ∀ g, inA Q59 g → w.heap.size ≤ g := fun g hg => (mvQ65 g hg).elim (fun h => h.elim (fun h => absurd h (apart_none g)) (gN_Q24 g)) (fun h => Nat.le_trans hF.size h)
  replace hM := hM.only hN68 (fun g hg => (fun h => h.elim ((ne1P ap_FpE_b37) g hg) (fun h => h.elim ((ne1P ap_FpE_b30) g hg) (fun h => h.elim ((ne1P ap_FpE_ig) g hg) (fun h => h.elim ((fun g h1 h2 => (fun k _ h => apart_none k h) g h1 h2) g hg) ((fun g h1 h2 => ap2_FpE_Q24 g h1 h2) g hg))))))
  replace B4 := B4.only hN68 (fun h => h.elim (by first | exact ne_b1_b37 | exact ne_b37_b1.symm | (show ¬ b1 = b37; omega)) (fun h => h.elim (by first | exact ne_b1_b30 | exact ne_b30_b1.symm | (show ¬ b1 = b30; omega)) (fun h => h.elim (by first | exact ne_b1_ig | exact ne_ig_b1.symm | (show ¬ b1 = ig; omega)) (fun h => h.elim (apart_none b1) ap_Q24_b1))))
  replace B9 := B9.only hN68 (fun h => h.elim (by first | exact ne_b6_b37 | exact ne_b37_b6.symm | (show ¬ b6 = b37; omega)) (fun h => h.elim (by first | exact ne_b6_b30 | exact ne_b30_b6.symm | (show ¬ b6 = b30; omega)) (fun h => h.elim (by first | exact ne_b6_ig | exact ne_ig_b6.symm | (show ¬ b6 = ig; omega)) (fun h => h.elim (apart_none b6) ap_Q24_b6))))
  replace B14 := B14.only hN68 (fun h => h.elim (by first | exact ne_b11_b37 | exact ne_b37_b11.symm | (show ¬ b11 = b37; omega)) (fun h => h.elim (by first | exact ne_b11_b30 | exact ne_b30_b11.symm | (show ¬ b11 = b30; omega)) (fun h => h.elim (by first | exact ne_b11_ig | exact ne_ig_b11.symm | (show ¬ b11 = ig; omega)) (fun h => h.elim (apart_none b11) ap_Q24_b11))))
  replace M45 := M45.only hN68 (fun h => h.elim (by first | exact ne_r42_b37 | exact ne_b37_r42.symm | (show ¬ r42 = b37; omega)) (fun h => h.elim (by first | exact ne_r42_b30 | exact ne_b30_r42.symm | (show ¬ r42 = b30; omega)) (fun h => h.elim (by first | exact ne_r42_ig | exact ne_ig_r42.symm | (show ¬ r42 = ig; omega)) (fun h => h.elim (apart_none r42) ap_Q24_r42))))
  replace hF := hF.locS hN68 (fun i => (fun h => h.elim (fun e => by rw [e]; exact (.inr g_b37)) (fun h => h.elim (fun e => by rw [e]; exact (.inr g_b30)) (fun h => h.elim (fun e => by rw [e]; exact (.inl ((hP.foot ig).2 (.inr (.inr (.inl rfl)))))) (fun h => h.elim (fun h => gA_none i h) (fun h => gA_Q24 i h))))))
  clear B40 B33 OQ26 hB hI
  obtain ⟨hW, hE, hB, hI, hQ, O66, hS⟩ := R63
  simp only [List.nil_append] at hW O66
  have ap_A61_b37 := hS.ap_A_bw
  have ap_Q59_b37 := hS.ap_Q_bw
  have ap_A61_b30 := hS.ap_A_be
  have ap_Q59_b30 := hS.ap_Q_be
  have ap_A61_b := hS.ap_A_bh
  have ap_Q59_b := hS.ap_Q_bh
  have ap_A61_bi := hS.ap_A_bi
  have ap_Q59_bi := hS.ap_Q_bi
  have ap_A61_ig := hS.ap_A_ig
  have ap_Q59_ig := hS.ap_Q_ig
  have ap2_Q59_A61 := hS.ap2_Q_A
  refine wpList_nil ?_
  refine fx_next ?_
  refine wp_seq ?_
  refine fx_heldT (n := 10) (k := 10) (fun w => EntsAt w FpE r h.E L c ∧ Blk w b1 36 (msgE.arr m) ∧ Blk w b6 23 (#[.slice none 0 0]) ∧ Blk w b11 37 (#[.int .i64 0]) ∧ MapBlk w r42 #[⟨.int .i64 1, .func (.func 32) #[.pointer (some ⟨b37, 0, none⟩)] #[], 0⟩, ⟨.int .i64 2, .func (.func 32) #[.pointer (some ⟨b37, 0, none⟩)] #[], 1⟩, ⟨.int .i64 3, .func (.func 32) #[.pointer (some ⟨b37, 0, none⟩)] #[], 2⟩, ⟨.int .i64 11, .func (.func 33) #[.pointer (some ⟨b37, 0, none⟩)] #[], 3⟩, ⟨.int .i64 12, .func (.func 34) #[.pointer (some ⟨b37, 0, none⟩)] #[], 4⟩, ⟨.int .i64 13, .func (.func 35) #[.pointer (some ⟨b37, 0, none⟩)] #[], 5⟩] 6 ∧ Blk w b37 82 #[.slice A61 x.2.2.length ac62, .pointer (some ⟨b30, 0, none⟩), .pointer (some ⟨b, 0, none⟩), .int .u32 m.line] ∧ Blk w b30 42 (entA x.1 (.slice Q59 x.1.q.length qc60)) ∧ Blk w b 64 #[.pointer (some ⟨bi, 0, none⟩), .map (some r)] ∧ Img 0 w bi ig cap x.2.1 ∧ View msgE w Q59 qc60 x.1.q ∧ Own msgE w A61 ac62 x.2.2 ∧ True) (by kernel_rfl) (by kernel_rfl) rfl ?_  -- region 11
  intro w69 hN70
  replace hM := hM.new hN70
  replace B4 := B4.new hN70
  replace B9 := B9.new hN70
  replace B14 := B14.new hN70
  replace M45 := M45.new hN70
  replace hW := hW.new hN70
  replace hE := hE.new hN70
  replace hB := hB.new hN70
  replace hI := hI.new hN70
  replace hQ := hQ.new hN70
  replace O66 := O66.new hN70
  replace hF := hF.trNew hN70
  refine fx_take (i := 0) (v := .pointer (some ⟨b, 0, none⟩)) fr rfl (by kernel_rfl) rfl rfl (by first | decide | simp) (fun _ _ _ h => panic_putD (fn := Try.f12) (d := 56) (by decide) h) (fun _ ⟨hM, B4, B9, B14, M45, hW, hE, hB, hI, hQ, O66, _⟩ => x_move rfl (fr.ev rfl)) ⟨hM, B4, B9, B14, M45, hW, hE, hB, hI, hQ, O66, trivial⟩ ?_
  clear fr a; intro a fr
  refine fx_take (i := 1) (v := .pointer (some ⟨b, 0, none⟩)) fr rfl (by kernel_rfl) rfl rfl (by first | decide | simp) (fun _ _ _ h => panic_putD (fn := Try.f12) (d := 57) (by decide) h) (fun _ ⟨hM, B4, B9, B14, M45, hW, hE, hB, hI, hQ, O66, _⟩ => x_nilCheck rfl (fr.ev rfl)) ⟨hM, B4, B9, B14, M45, hW, hE, hB, hI, hQ, O66, trivial⟩ ?_
  clear fr a; intro a fr
  refine fx_take (i := 2) (v := .pointer (some ⟨b, 1, none⟩)) fr rfl (by kernel_rfl) rfl rfl (by first | decide | simp) (fun _ _ _ h => panic_putD (fn := Try.f12) (d := 58) (by decide) h) (fun _ ⟨hM, B4, B9, B14, M45, hW, hE, hB, hI, hQ, O66, _⟩ => x_fieldAddr fo64_1 rfl (fr.ev rfl) rfl) ⟨hM, B4, B9, B14, M45, hW, hE, hB, hI, hQ, O66, trivial⟩ ?_
  clear fr a; intro a fr
  refine fx_take (i := 3) (v := .map (some r)) fr rfl (by kernel_rfl) rfl rfl (by first | decide | simp) (fun _ _ _ h => panic_putD (fn := Try.f12) (d := 59) (by decide) h) (fun _ ⟨hM, B4, B9, B14, M45, hW, hE, hB, hI, hQ, O66, _⟩ => x_load1 pl62 rfl (fr.ev rfl) (hB.cell 1 rfl)) ⟨hM, B4, B9, B14, M45, hW, hE, hB, hI, hQ, O66, trivial⟩ ?_
  clear fr a; intro a fr
  refine fx_take (i := 4) (v := .pointer (some ⟨b1, 3, none⟩)) fr rfl (by kernel_rfl) rfl rfl (by first | decide | simp) (fun _ _ _ h => panic_putD (fn := Try.f12) (d := 60) (by decide) h) (fun _ ⟨hM, B4, B9, B14, M45, hW, hE, hB, hI, hQ, O66, _⟩ => x_fieldAddr fo36_3 rfl (fr.ev rfl) rfl) ⟨hM, B4, B9, B14, M45, hW, hE, hB, hI, hQ, O66, trivial⟩ ?_
  clear fr a; intro a fr
  refine fx_take (i := 5) (v := .int .u32 m.line) fr rfl (by kernel_rfl) rfl rfl (by first | decide | simp) (fun _ _ _ h => panic_putD (fn := Try.f12) (d := 61) (by decide) h) (fun _ ⟨hM, B4, B9, B14, M45, hW, hE, hB, hI, hQ, O66, _⟩ => x_load1 pl24 rfl (fr.ev rfl) (B4.cell 3 rfl)) ⟨hM, B4, B9, B14, M45, hW, hE, hB, hI, hQ, O66, trivial⟩ ?_
  clear fr a; intro a fr
  refine fx_take (i := 6) (v := .pointer (some ⟨b37, 0, none⟩)) fr rfl (by kernel_rfl) rfl rfl (by first | decide | simp) (fun _ _ _ h => panic_putD (fn := Try.f12) (d := 62) (by decide) h) (fun _ ⟨hM, B4, B9, B14, M45, hW, hE, hB, hI, hQ, O66, _⟩ => x_move rfl (fr.ev rfl)) ⟨hM, B4, B9, B14, M45, hW, hE, hB, hI, hQ, O66, trivial⟩ ?_
  clear fr a; intro a fr
  refine fx_take (i := 7) (v := .pointer (some ⟨b37, 0, none⟩)) fr rfl (by kernel_rfl) rfl rfl (by first | decide | simp) (fun _ _ _ h => panic_putD (fn := Try.f12) (d := 63) (by decide) h) (fun _ ⟨hM, B4, B9, B14, M45, hW, hE, hB, hI, hQ, O66, _⟩ => x_nilCheck rfl (fr.ev rfl)) ⟨hM, B4, B9, B14, M45, hW, hE, hB, hI, hQ, O66, trivial⟩ ?_
  clear fr a; intro a fr
  refine fx_take (i := 8) (v := .pointer (some ⟨b37, 1, none⟩)) fr rfl (by kernel_rfl) rfl rfl (by first | decide | simp) (fun _ _ _ h => panic_putD (fn := Try.f12) (d := 64) (by decide) h) (fun _ ⟨hM, B4, B9, B14, M45, hW, hE, hB, hI, hQ, O66, _⟩ => x_fieldAddr fo82_1 rfl (fr.ev rfl) rfl) ⟨hM, B4, B9, B14, M45, hW, hE, hB, hI, hQ, O66, trivial⟩ ?_
  clear fr a; intro a fr
  refine fx_take (i := 9) (v := .pointer (some ⟨b30, 0, none⟩)) fr rfl (by kernel_rfl) rfl rfl (by first | decide | simp) (fun _ _ _ h => panic_putD (fn := Try.f12) (d := 65) (by decide) h) (fun _ ⟨hM, B4, B9, B14, M45, hW, hE, hB, hI, hQ, O66, _⟩ => x_load1 pl78 rfl (fr.ev rfl) (hW.cell 1 rfl)) ⟨hM, B4, B9, B14, M45, hW, hE, hB, hI, hQ, O66, trivial⟩ ?_
  clear fr a; intro a fr
  refine fx_hdone (by kernel_rfl) ?_
  refine fx_tail ?_
  have hner : ¬ b30 = r := fun e => ap_FpE_b30 (e ▸ hrE)
  refine fx_entPut (n := m.line.toNat) rfl rfl rfl (fr.ev rfl) ((fr.ev rfl).trans (int_nat _ _ (by omega))) (fr.ev rfl) hM (by omega) hE hQ hner (fun h => ap2_FpE_Q59 r hrE h) ?_
  intro w71 L72 c73 FpE74 hO75 hM76 hF277
  have ne_b1_r : NE b1 r := fun e => ap_FpE_b1 (e ▸ hrE)
  have ne_b6_r : NE b6 r := fun e => ap_FpE_b6 (e ▸ hrE)
  have ne_b11_r : NE b11 r := fun e => ap_FpE_b11 (e ▸ hrE)
  have ne_r42_r : NE r42 r := fun e => ap_FpE_r42 (e ▸ hrE)
  have ne_b37_r : NE b37 r := fun e => ap_FpE_b37 (e ▸ hrE)
  have ne_b30_r : NE b30 r := fun e => ap_FpE_b30 (e ▸ hrE)
  have ne_b_r : NE b r := fun e => ap_FpE_b (e ▸ hrE)
  have ne_bi_r : NE bi r := fun e => ap_FpE_bi (e ▸ hrE)
  have ne_ig_r : NE ig r := fun e => ap_FpE_ig (e ▸ hrE)
  have ap_Q59_r : Apart Q59 r := fun h => ap2_FpE_Q59 r hrE h
  have ap_A61_r : Apart A61 r := fun h => ap2_FpE_A61 r hrE h
  have ap_FpE74_b1 : ¬ FpE74 b1 := fun h => (hF277 b1 h).elim ap_FpE_b1 fun h => h.elim (fun e => absurd e (by first | exact ne_b1_b30 | exact ne_b30_b1.symm)) ap_Q59_b1
  have ap_FpE74_b6 : ¬ FpE74 b6 := fun h => (hF277 b6 h).elim ap_FpE_b6 fun h => h.elim (fun e => absurd e (by first | exact ne_b6_b30 | exact ne_b30_b6.symm)) ap_Q59_b6
  have ap_FpE74_b11 : ¬ FpE74 b11 := fun h => (hF277 b11 h).elim ap_FpE_b11 fun h => h.elim (fun e => absurd e (by first | exact ne_b11_b30 | exact ne_b30_b11.symm)) ap_Q59_b11
  have ap_FpE74_r42 : ¬ FpE74 r42 := fun h => (hF277 r42 h).elim ap_FpE_r42 fun h => h.elim (fun e => absurd e (by first | exact ne_r42_b30 | exact ne_b30_r42.symm)) ap_Q59_r42
  have ap_FpE74_b37 : ¬ FpE74 b37 := fun h => (hF277 b37 h).elim ap_FpE_b37 fun h => h.elim (fun e => absurd e (by first | exact ne_b37_b30 | exact ne_b30_b37.symm)) ap_Q59_b37
  have ap_FpE74_b : ¬ FpE74 b := fun h => (hF277 b h).elim ap_FpE_b fun h => h.elim (fun e => absurd e (by first | exact ne_b_b30 | exact ne_b30_b.symm)) ap_Q59_b
  have ap_FpE74_bi : ¬ FpE74 bi := fun h => (hF277 bi h).elim ap_FpE_bi fun h => h.elim (fun e => absurd e (by first | exact ne_bi_b30 | exact ne_b30_bi.symm)) ap_Q59_bi
  have ap_FpE74_ig : ¬ FpE74 ig := fun h => (hF277 ig h).elim ap_FpE_ig fun h => h.elim (fun e => absurd e (by first | exact ne_ig_b30 | exact ne_b30_ig.symm)) ap_Q59_ig
  replace B4 := B4.only hO75 (by first | exact ne_b1_r | exact ne_r_b1.symm | (show ¬ b1 = r; omega))
  replace B9 := B9.only hO75 (by first | exact ne_b6_r | exact ne_r_b6.symm | (show ¬ b6 = r; omega))
  replace B14 := B14.only hO75 (by first | exact ne_b11_r | exact ne_r_b11.symm | (show ¬ b11 = r; omega))
  replace M45 := M45.only hO75 (by first | exact ne_r42_r | exact ne_r_r42.symm | (show ¬ r42 = r; omega))
  replace hW := hW.only hO75 (by first | exact ne_b37_r | exact ne_r_b37.symm | (show ¬ b37 = r; omega))
  replace hE := hE.only hO75 (by first | exact ne_b30_r | exact ne_r_b30.symm | (show ¬ b30 = r; omega))
  replace hB := hB.only hO75 (by first | exact ne_b_r | exact ne_r_b.symm | (show ¬ b = r; omega))
  replace hI := hI.only hO75 (by first | exact ne_bi_r | exact ne_r_bi.symm | (show ¬ bi = r; omega)) (by first | exact ne_ig_r | exact ne_r_ig.symm | (show ¬ ig = r; omega))
  replace hQ := hQ.only hO75 (Apart.ne1 ap_Q59_r)
  replace O66 := O66.only hO75 (Apart.ne1 ap_A61_r)
  replace hF := hF.loc hO75 (.inl ((hP.foot r).2 (.inr (.inr (.inr hrE)))))
  clear hM
  refine wpList_nil ?_
  refine fx_next ?_
  refine wp_seq ?_
  refine wp_region_lit ?_  -- region 12
  refine fx_val (v := .pointer (some ⟨b37, 0, none⟩)) fr rfl rfl (by first | decide | simp) (x_move rfl (fr.ev rfl)) ?_
  clear fr a; intro a fr
  refine fx_val (v := .pointer (some ⟨b37, 0, none⟩)) fr rfl rfl (by first | decide | simp) (x_nilCheck rfl (fr.ev rfl)) ?_
  clear fr a; intro a fr
  refine fx_val (v := .pointer (some ⟨b37, 0, none⟩)) fr rfl rfl (by first | decide | simp) (x_fieldAddr fo82_0 rfl (fr.ev rfl) rfl) ?_
  clear fr a; intro a fr
  refine fx_val (v := .pointer (some ⟨b37, 0, none⟩)) fr rfl rfl (by first | decide | simp) (x_fieldAddr fo80_0 rfl (fr.ev rfl) rfl) ?_
  clear fr a; intro a fr
  refine fx_val (v := .slice A61 x.2.2.length ac62) fr rfl rfl (by first | decide | simp) (x_load1 pl23 rfl (fr.ev rfl) (hW.cell 0 rfl)) ?_
  clear fr a; intro a fr
  refine fx_store1 sz23 rfl rfl rfl (fr.ev rfl) (fr.ev rfl) rfl B9 (show 0 < 1 by decide) (cs' := #[.slice A61 x.2.2.length ac62]) rfl fun w78 hO79 hBq => ?_
  replace B4 := B4.only hO79 (by first | exact ne_b1_b6 | exact ne_b6_b1.symm | (show ¬ b1 = b6; omega))
  replace B14 := B14.only hO79 (by first | exact ne_b11_b6 | exact ne_b6_b11.symm | (show ¬ b11 = b6; omega))
  replace M45 := M45.only hO79 (by first | exact ne_r42_b6 | exact ne_b6_r42.symm | (show ¬ r42 = b6; omega))
  replace hW := hW.only hO79 (by first | exact ne_b37_b6 | exact ne_b6_b37.symm | (show ¬ b37 = b6; omega))
  replace hE := hE.only hO79 (by first | exact ne_b30_b6 | exact ne_b6_b30.symm | (show ¬ b30 = b6; omega))
  replace hB := hB.only hO79 (by first | exact ne_b_b6 | exact ne_b6_b.symm | (show ¬ b = b6; omega))
  replace hI := hI.only hO79 (by first | exact ne_bi_b6 | exact ne_b6_bi.symm | (show ¬ bi = b6; omega)) (by first | exact ne_ig_b6 | exact ne_b6_ig.symm | (show ¬ ig = b6; omega))
  replace hQ := hQ.only hO79 (Apart.ne1 ap_Q59_b6)
  replace O66 := O66.only hO79 (Apart.ne1 ap_A61_b6)
  replace hM76 := hM76.only hO79 (ne1P ap_FpE74_b6)
  replace hF := hF.loc hO79 (.inr g_b6)
  replace B9 := hBq
  clear hBq
  refine fx_store1 sz37 rfl rfl rfl (fr.ev rfl) rfl rfl B14 (show 0 < 1 by decide) (cs' := #[.int .i64 0]) rfl fun w80 hO81 hBq => ?_
  replace B4 := B4.only hO81 (by first | exact ne_b1_b11 | exact ne_b11_b1.symm | (show ¬ b1 = b11; omega))
  replace M45 := M45.only hO81 (by first | exact ne_r42_b11 | exact ne_b11_r42.symm | (show ¬ r42 = b11; omega))
  replace hW := hW.only hO81 (by first | exact ne_b37_b11 | exact ne_b11_b37.symm | (show ¬ b37 = b11; omega))
  replace hE := hE.only hO81 (by first | exact ne_b30_b11 | exact ne_b11_b30.symm | (show ¬ b30 = b11; omega))
  replace hB := hB.only hO81 (by first | exact ne_b_b11 | exact ne_b11_b.symm | (show ¬ b = b11; omega))
  replace hI := hI.only hO81 (by first | exact ne_bi_b11 | exact ne_b11_bi.symm | (show ¬ bi = b11; omega)) (by first | exact ne_ig_b11 | exact ne_b11_ig.symm | (show ¬ ig = b11; omega))
  replace hQ := hQ.only hO81 (Apart.ne1 ap_Q59_b11)
  replace O66 := O66.only hO81 (Apart.ne1 ap_A61_b11)
  replace hM76 := hM76.only hO81 (ne1P ap_FpE74_b11)
  replace B9 := B9.only hO81 (by first | exact ne_b6_b11 | exact ne_b11_b6.symm | (show ¬ b6 = b11; omega))
  replace hF := hF.loc hO81 (.inr g_b11)
  replace B14 := hBq
  clear hBq
  refine wpList_nil ?_
  refine fx_next ?_
  refine wp_ret ?_
  refine fx_retD1 fr rfl (caught_idle b6 b11 _) [.cell 4 23, .cell 5 37] [.slice A61 x.2.2.length ac62, .int .i64 0] rfl ⟨⟨_, rfl, x_loadV1 pl23 (B9.cell 0 rfl)⟩, ⟨_, rfl, x_loadV1 pl37 (B14.cell 0 rfl)⟩, trivial⟩ rfl ?_
  exact ⟨_, rfl, A61, ac62, (fun k => k = b ∨ k = bi ∨ k = ig ∨ FpE74 k), rfl, O66, gN_A61, ⟨bi, ig, cap, r, FpE74, L72, c73, hB, hI, hM76, ⟨ne_b_bi, ne_b_ig, (fun h => (hF277 _ h).elim ap_FpE_b fun h => h.elim (fun e => absurd e (by first | exact ne_b_b30 | exact ne_b30_b.symm)) ap_Q59_b), (fun h => (hF277 _ h).elim ap_FpE_bi fun h => h.elim (fun e => absurd e (by first | exact ne_bi_b30 | exact ne_b30_bi.symm)) ap_Q59_bi), (fun h => (hF277 _ h).elim ap_FpE_ig fun h => h.elim (fun e => absurd e (by first | exact ne_ig_b30 | exact ne_b30_ig.symm)) ap_Q59_ig), fun _ => Iff.rfl⟩, by rw [List.length_set, hxl]; exact hEn⟩, (fun k hk ha => hk.elim (fun e => ap_A61_b (e ▸ ha)) fun hk => hk.elim (fun e => ap_A61_bi (e ▸ ha)) fun hk => hk.elim (fun e => ap_A61_ig (e ▸ ha)) fun hk => (hF277 k hk).elim (fun h => ap2_FpE_A61 k h ha) fun h => h.elim (fun e => ap_A61_b30 (e ▸ ha)) fun h => ap2_Q59_A61 k h ha), (fun k hk => hk.elim (fun e => .inl ((hP.foot k).2 (.inl e))) fun hk => hk.elim (fun e => .inl ((hP.foot k).2 (.inr (.inl e)))) fun hk => hk.elim (fun e => .inl ((hP.foot k).2 (.inr (.inr (.inl e))))) fun hk => (hF277 k hk).elim (fun h => .inl ((hP.foot k).2 (.inr (.inr (.inr h))))) fun h => .inr (h.elim (fun e => by rw [e]; exact g_b30) (gN_Q59 k))), hF⟩
set_option maxRecDepth 100000 in
set_option maxHeartbeats 4000000 in
theorem take_pan {w : World} {Fp : Nat → Prop} {b : Nat} {h : HD} (H : HomeAt w Fp b h) (m : Msg) (hc : ¬ chk m ≠ 0) (hx : ¬ m.dst ≠ 4) (hr : ¬ ((h.bs.length / 16 : Nat) : Int) ≤ m.line) (hql : (entOf h.E m.line.toNat).q.length ≤ 100000) {f : Nat} {fn : Func} (hfn : Try.prog.funcs[f]? = some fn) (hnm : (fn.name == "runtime.NumGoroutine") = false) (hbd : fn.body.isNone = false) (hes : ∀ b, (Instr.findNow (.int .i64) (.int .i64 m.kind) (takeEs b).toList 0).map (fun q => (match q with | some (_, u) => u | none => .nilFunc, q.isSome)) = some (.func (.func f) #[.pointer (some ⟨b, 0, none⟩)] #[], true)) (hcall : ∀ w1 bw be bi ig cap r Q qc, WorkR w1 bw be b bi ig cap r m.line (entOf h.E m.line.toNat) Q qc none 0 [] h.bs → Own msgE w1 Q qc (entOf h.E m.line.toNat).q → Calls Try.prog f #[.pointer (some ⟨bw, 0, none⟩), .agg (msgE.arr m)] w1 (Pan fun c w' => c = stopE 220 ∧ New w1 w'))  : Calls Try.prog 12 #[.pointer (some ⟨b, 0, none⟩), .agg (msgE.arr m)] w (Ret fun v w' => v = .tuple #[.slice none 0 0, .int .i64 220] ∧ HomeAt w' Fp b h ∧ New w w') := by
  have H0 := H
  obtain ⟨bi, ig, cap, r, FpE, L, c, hB, hI, hM, hP, hEn⟩ := H0
  have hmn := m.hn
  have hpos := hI.pos
  have ne_b_bi := hP.ne_b_bi
  have ne_b_ig := hP.ne_b_ig
  have ne_bi_ig : NE bi ig := hI.ne
  have ap_FpE_b := hP.fb
  have ap_FpE_bi := hP.fbi
  have ap_FpE_ig := hP.fig
  have hrE := (hM.foot r).2 (.inl rfl)
  have gA_FpE := fun g (hg : FpE g) => (Or.inl trivial : True ∨ w.heap.size ≤ g)
  have gA_Fp := fun g (hg : Fp g) => (Or.inl trivial : True ∨ w.heap.size ≤ g)
  have hF := Only.refl (fun _ => False) w
  refine fx_enterD Try.func12 rfl (N := (71, [])) (T := [(0, .pointer (some ⟨b, 0, none⟩)), (1, .agg (msgE.arr m))]) rfl (show 2 ≤ 71 by decide) ⟨rfl, rfl, trivial⟩ fun a fr => ?_
  refine wp_seq ?_
  refine wp_region_lit ?_  -- region 0
  refine fx_new fr rfl rfl (by first | decide | simp) (x_box (cs := msgE.arr m) rfl (fr.ev rfl) rfl) ?_
  clear fr a
  intro b1 w2 hN3 B4 hb5 a fr
  have ne_b_b1 : NE b b1 := NE.mk (Nat.lt_of_lt_of_le hB.lt hb5)
  have ne_bi_b1 : NE bi b1 := NE.mk (Nat.lt_of_lt_of_le hI.lt.1 hb5)
  have ne_ig_b1 : NE ig b1 := NE.mk (Nat.lt_of_lt_of_le hI.lt.2 hb5)
  have ap_FpE_b1 : ¬ FpE b1 := hM.apart hb5
  have ap_Fp_b1 : ¬ Fp b1 := H.apart hb5
  have g_b1 := Nat.le_trans hF.size hb5
  replace hB := hB.new hN3
  replace hI := hI.new hN3
  replace hM := hM.new hN3
  replace H := H.new hN3
  replace hF := hF.trNew hN3
  refine fx_new fr rfl rfl (by first | decide | simp) (x_alloc (z := .slice none 0 0) (cs := #[.slice none 0 0]) rfl (by kernel_rfl) rfl) ?_
  clear fr a
  intro b6 w7 hN8 B9 hb10 a fr
  have ne_b_b6 : NE b b6 := NE.mk (Nat.lt_of_lt_of_le hB.lt hb10)
  have ne_bi_b6 : NE bi b6 := NE.mk (Nat.lt_of_lt_of_le hI.lt.1 hb10)
  have ne_ig_b6 : NE ig b6 := NE.mk (Nat.lt_of_lt_of_le hI.lt.2 hb10)
  have ap_FpE_b6 : ¬ FpE b6 := hM.apart hb10
  have ap_Fp_b6 : ¬ Fp b6 := H.apart hb10
  have ne_b1_b6 : NE b1 b6 := NE.mk (Nat.lt_of_lt_of_le B4.lt hb10)
  have g_b6 := Nat.le_trans hF.size hb10
  replace hB := hB.new hN8
  replace hI := hI.new hN8
  replace hM := hM.new hN8
  replace H := H.new hN8
  replace B4 := B4.new hN8
  replace hF := hF.trNew hN8
  refine fx_new fr rfl rfl (by first | decide | simp) (x_alloc (z := .int .i64 0) (cs := #[.int .i64 0]) rfl (by kernel_rfl) rfl) ?_
  clear fr a
  intro b11 w12 hN13 B14 hb15 a fr
  have ne_b_b11 : NE b b11 := NE.mk (Nat.lt_of_lt_of_le hB.lt hb15)
  have ne_bi_b11 : NE bi b11 := NE.mk (Nat.lt_of_lt_of_le hI.lt.1 hb15)
  have ne_ig_b11 : NE ig b11 := NE.mk (Nat.lt_of_lt_of_le hI.lt.2 hb15)
  have ap_FpE_b11 : ¬ FpE b11 := hM.apart hb15
  have ap_Fp_b11 : ¬ Fp b11 := H.apart hb15
  have ne_b1_b11 : NE b1 b11 := NE.mk (Nat.lt_of_lt_of_le B4.lt hb15)
  have ne_b6_b11 : NE b6 b11 := NE.mk (Nat.lt_of_lt_of_le B9.lt hb15)
  have g_b11 := Nat.le_trans hF.size hb15
  replace hB := hB.new hN13
  replace hI := hI.new hN13
  replace hM := hM.new hN13
  replace H := H.new hN13
  replace B4 := B4.new hN13
  replace B9 := B9.new hN13
  replace hF := hF.trNew hN13
  refine wpList_nil ?_
  refine fx_next ?_
  refine wp_seq ?_
  refine wp_block ?_
  refine wp_seq ?_
  refine wp_region_lit ?_  -- region 1
  refine fx_val (v := .pointer (some ⟨b, 0, none⟩)) fr rfl rfl (by first | decide | simp) (x_move rfl (fr.ev rfl)) ?_
  clear fr a; intro a fr
  refine fx_call fr rfl rfl (by first | decide | simp) (x_call (vs := [.pointer (some ⟨b, 0, none⟩)]) rfl rfl ⟨(fr.ev rfl), trivial⟩ Try.func27 nm27 rfl) (hnone_c hB) ?_
  clear fr a
  rintro v w9 ⟨rfl, hw9⟩ a fr
  obtain rfl := hw9.symm
  refine fx_val (v := .bool false) fr rfl rfl (by first | decide | simp) (x_assign rfl (fr.ev rfl)) ?_
  clear fr a; intro a fr
  refine wpList_nil ?_
  refine fx_next ?_
  refine fx_cond_f fr rfl ?_
  refine wp_seq ?_
  refine wp_region_lit ?_  -- region 3
  refine fx_val (v := .agg (msgE.arr m)) fr rfl rfl (by first | decide | simp) (x_loadE (E := msgE) ag36 rfl rfl (fr.ev rfl) (B4.rangeE msgE)) ?_
  clear fr a; intro a fr
  refine fx_call fr rfl rfl (by first | decide | simp) (x_call (vs := [.agg (msgE.arr m)]) rfl rfl ⟨(fr.ev rfl), trivial⟩ Try.func29 nm29 rfl) (chk_c m _) ?_
  clear fr a
  rintro v w18 ⟨rfl, hN19⟩ a fr
  replace hB := hB.new hN19
  replace hI := hI.new hN19
  replace hM := hM.new hN19
  replace H := H.new hN19
  replace B4 := B4.new hN19
  replace B9 := B9.new hN19
  replace B14 := B14.new hN19
  replace hF := hF.trNew hN19
  refine fx_val (v := .bool false) fr rfl rfl (by first | decide | simp) (x_neq rfl (fr.ev rfl) rfl (decide_eq_false hc)) ?_
  clear fr a; intro a fr
  refine fx_val (v := .bool false) fr rfl rfl (by first | decide | simp) (x_move rfl (fr.ev rfl)) ?_
  clear fr a; intro a fr
  refine fx_val (v := .pointer (some ⟨b1, 2, none⟩)) fr (fr.want rfl rfl rfl) rfl (by first | decide | simp) (x_fieldAddr fo36_2 rfl (fr.ev rfl) rfl) ?_
  clear fr a; intro a fr
  refine fx_val (v := .int .i64 m.dst) fr (fr.want rfl rfl rfl) rfl (by first | decide | simp) (x_load1 pl3 rfl (fr.ev rfl) (B4.cell 2 rfl)) ?_
  clear fr a; intro a fr
  refine fx_val (v := .bool false) fr (fr.want rfl rfl rfl) rfl (by first | decide | simp) (x_neq rfl (fr.ev rfl) rfl (decide_eq_false hx)) ?_
  clear fr a; intro a fr
  refine fx_val (v := .bool false) fr rfl rfl (by first | decide | simp) (x_pick_f rfl (fr.ev rfl) (fr.ev rfl)) ?_
  clear fr a; intro a fr
  refine fx_val (v := .bool false) fr rfl rfl (by first | decide | simp) (x_assign rfl (fr.ev rfl)) ?_
  clear fr a; intro a fr
  refine wpList_nil ?_
  refine fx_next ?_
  refine fx_cond_f fr rfl ?_
  refine wp_seq ?_
  refine fx_held (n := 7) (fun w => Blk w b 64 #[.pointer (some ⟨bi, 0, none⟩), .map (some r)] ∧ Img 0 w bi ig cap h.bs ∧ EntsAt w FpE r h.E L c ∧ Blk w b1 36 (msgE.arr m) ∧ Blk w b6 23 (#[.slice none 0 0]) ∧ Blk w b11 37 (#[.int .i64 0]) ∧ True) (by kernel_rfl) rfl ?_  -- region 5
  intro w20 hN21
  replace hB := hB.new hN21
  replace hI := hI.new hN21
  replace hM := hM.new hN21
  replace H := H.new hN21
  replace B4 := B4.new hN21
  replace B9 := B9.new hN21
  replace B14 := B14.new hN21
  replace hF := hF.trNew hN21
  refine fx_take (i := 0) (v := .pointer (some ⟨b1, 3, none⟩)) fr rfl (by kernel_rfl) rfl rfl (by first | decide | simp) (fun _ _ _ h => panic_putD (fn := Try.f12) (d := 21) (by decide) h) (fun _ ⟨hB, hI, hM, B4, B9, B14, _⟩ => x_fieldAddr fo36_3 rfl (fr.ev rfl) rfl) ⟨hB, hI, hM, B4, B9, B14, trivial⟩ ?_
  clear fr a; intro a fr
  refine fx_take (i := 1) (v := .int .u32 m.line) fr rfl (by kernel_rfl) rfl rfl (by first | decide | simp) (fun _ _ _ h => panic_putD (fn := Try.f12) (d := 22) (by decide) h) (fun _ ⟨hB, hI, hM, B4, B9, B14, _⟩ => x_load1 pl24 rfl (fr.ev rfl) (B4.cell 3 rfl)) ⟨hB, hI, hM, B4, B9, B14, trivial⟩ ?_
  clear fr a; intro a fr
  refine fx_take (i := 2) (v := .int .i64 m.line) fr rfl (by kernel_rfl) rfl rfl (by first | decide | simp) (fun _ _ _ h => panic_putD (fn := Try.f12) (d := 23) (by decide) h) (fun _ ⟨hB, hI, hM, B4, B9, B14, _⟩ => x_convert Try.underlying24 Try.underlying2 rfl (fr.ev rfl) (i64w (r := m.line) rfl (by omega))) ⟨hB, hI, hM, B4, B9, B14, trivial⟩ ?_
  clear fr a; intro a fr
  refine fx_take (i := 3) (v := .pointer (some ⟨b, 0, none⟩)) fr rfl (by kernel_rfl) rfl rfl (by first | decide | simp) (fun _ _ _ h => panic_putD (fn := Try.f12) (d := 24) (by decide) h) (fun _ ⟨hB, hI, hM, B4, B9, B14, _⟩ => x_move rfl (fr.ev rfl)) ⟨hB, hI, hM, B4, B9, B14, trivial⟩ ?_
  clear fr a; intro a fr
  refine fx_one (i := 4) (by kernel_rfl) (fx_op rfl ?_)
  refine fx_call fr rfl rfl (by first | decide | simp) (x_call (vs := [.pointer (some ⟨b, 0, none⟩)]) rfl rfl ⟨(fr.ev rfl), trivial⟩ Try.func10 nm10 rfl) (lines_r hB hI) ?_
  clear fr a
  rintro v w9 ⟨rfl, hw9⟩ a fr
  obtain rfl := hw9.symm
  refine wpList_nil ?_
  refine ⟨⟨hB, hI, hM, B4, B9, B14, trivial⟩, ?_⟩
  refine fx_take (i := 5) (v := .bool false) fr rfl (by kernel_rfl) rfl rfl (by first | decide | simp) (fun _ _ _ h => panic_putD (fn := Try.f12) (d := 26) (by decide) h) (fun _ ⟨hB, hI, hM, B4, B9, B14, _⟩ => x_geq rfl (fr.ev rfl) (fr.ev rfl) (decide_eq_false hr)) ⟨hB, hI, hM, B4, B9, B14, trivial⟩ ?_
  clear fr a; intro a fr
  refine fx_take (i := 6) (v := .bool false) fr rfl (by kernel_rfl) rfl rfl (by first | decide | simp) (fun _ _ _ h => panic_putD (fn := Try.f12) (d := 20) (by decide) h) (fun _ ⟨hB, hI, hM, B4, B9, B14, _⟩ => x_assign rfl (fr.ev rfl)) ⟨hB, hI, hM, B4, B9, B14, trivial⟩ ?_
  clear fr a; intro a fr
  refine fx_hdone (by kernel_rfl) ?_
  refine fx_next ?_
  refine fx_cond_f fr rfl ?_
  refine wp_skip ?_
  refine fx_blk ?_
  refine fx_next ?_
  refine wp_seq ?_
  refine wp_region_lit ?_  -- region 7
  refine fx_val (v := .func (.func 30) #[] #[.pointer (some ⟨b6, 0, none⟩), .pointer (some ⟨b11, 0, none⟩)]) fr rfl rfl (by first | decide | simp) (x_makeFunc (vs := [.pointer (some ⟨b6, 0, none⟩), .pointer (some ⟨b11, 0, none⟩)]) rfl ⟨(fr.ev rfl), (fr.ev rfl), trivial⟩) ?_
  clear fr a; intro a fr
  refine fx_defer fr rfl rfl (x_deferv (vs := []) rfl (fr.ev rfl) trivial) ?_
  clear fr a; intro a fr
  refine wpList_nil ?_
  refine fx_next ?_
  refine wp_seq ?_
  refine wp_region_lit ?_  -- region 8
  refine fx_val (v := .pointer (some ⟨b, 0, none⟩)) fr rfl rfl (by first | decide | simp) (x_move rfl (fr.ev rfl)) ?_
  clear fr a; intro a fr
  refine fx_val (v := .pointer (some ⟨b1, 3, none⟩)) fr rfl rfl (by first | decide | simp) (x_fieldAddr fo36_3 rfl (fr.ev rfl) rfl) ?_
  clear fr a; intro a fr
  refine fx_val (v := .int .u32 m.line) fr rfl rfl (by first | decide | simp) (x_load1 pl24 rfl (fr.ev rfl) (B4.cell 3 rfl)) ?_
  clear fr a; intro a fr
  refine fx_call fr rfl rfl (by first | decide | simp) (x_call (vs := [.pointer (some ⟨b, 0, none⟩), .int .u32 m.line]) rfl rfl ⟨(fr.ev rfl), (fr.ev rfl), trivial⟩ Try.func31 nm31 rfl) (of_c hB hM m.line (by omega) (by omega)) ?_
  clear fr a
  rintro v w28 ⟨Q24, qc25, rfl, OQ26, hA27, hN29⟩ a fr
  have ap_Q24_b : Apart Q24 b := new_apart hA27 hB.lt
  have ap_Q24_bi : Apart Q24 bi := new_apart hA27 hI.lt.1
  have ap_Q24_ig : Apart Q24 ig := new_apart hA27 hI.lt.2
  have ap2_FpE_Q24 : ∀ k, FpE k → inA Q24 k → False := symP (new_apart2P hA27 fun _ hg => hM.lt hg)
  have ap2_Fp_Q24 : ∀ k, Fp k → inA Q24 k → False := symP (new_apart2P hA27 fun _ hg => H.lt hg)
  have ap_Q24_b1 : Apart Q24 b1 := new_apart hA27 B4.lt
  have ap_Q24_b6 : Apart Q24 b6 := new_apart hA27 B9.lt
  have ap_Q24_b11 : Apart Q24 b11 := new_apart hA27 B14.lt
  have gA_Q24 := gA_new hF hA27
  have gN_Q24 := fun g (hg : inA Q24 g) => Nat.le_trans hF.size (hA27 g hg)
  replace hB := hB.new hN29
  replace hI := hI.new hN29
  replace hM := hM.new hN29
  replace H := H.new hN29
  replace B4 := B4.new hN29
  replace B9 := B9.new hN29
  replace B14 := B14.new hN29
  replace hF := hF.trNew hN29
  refine fx_new fr rfl rfl (by first | decide | simp) (x_alloc (z := .agg (#[.int .i64 0, .bool false, .bool false, .bool false, .bool false, .bool false, .int .i64 0, .int .i64 0, .int .i64 0, .bool false, .slice none 0 0])) (cs := #[.int .i64 0, .bool false, .bool false, .bool false, .bool false, .bool false, .int .i64 0, .int .i64 0, .int .i64 0, .bool false, .slice none 0 0]) rfl (by kernel_rfl) rfl) ?_
  clear fr a
  intro b30 w31 hN32 B33 hb34 a fr
  have ne_b_b30 : NE b b30 := NE.mk (Nat.lt_of_lt_of_le hB.lt hb34)
  have ne_bi_b30 : NE bi b30 := NE.mk (Nat.lt_of_lt_of_le hI.lt.1 hb34)
  have ne_ig_b30 : NE ig b30 := NE.mk (Nat.lt_of_lt_of_le hI.lt.2 hb34)
  have ap_FpE_b30 : ¬ FpE b30 := hM.apart hb34
  have ap_Fp_b30 : ¬ Fp b30 := H.apart hb34
  have ne_b1_b30 : NE b1 b30 := NE.mk (Nat.lt_of_lt_of_le B4.lt hb34)
  have ne_b6_b30 : NE b6 b30 := NE.mk (Nat.lt_of_lt_of_le B9.lt hb34)
  have ne_b11_b30 : NE b11 b30 := NE.mk (Nat.lt_of_lt_of_le B14.lt hb34)
  have ap_Q24_b30 : Apart Q24 b30 := OQ26.apart hb34
  have g_b30 := Nat.le_trans hF.size hb34
  replace hB := hB.new hN32
  replace hI := hI.new hN32
  replace hM := hM.new hN32
  replace H := H.new hN32
  replace B4 := B4.new hN32
  replace B9 := B9.new hN32
  replace B14 := B14.new hN32
  replace OQ26 := OQ26.new hN32
  replace hF := hF.trNew hN32
  refine fx_storeS sz42 rfl rfl rfl (fr.ev rfl) (fr.ev rfl) (ent_all _ _ _ _) B33 rfl rfl fun w35 hO36 hBq => ?_
  replace hB := hB.only hO36 (by first | exact ne_b_b30 | exact ne_b30_b.symm | (show ¬ b = b30; omega))
  replace hI := hI.only hO36 (by first | exact ne_bi_b30 | exact ne_b30_bi.symm | (show ¬ bi = b30; omega)) (by first | exact ne_ig_b30 | exact ne_b30_ig.symm | (show ¬ ig = b30; omega))
  replace hM := hM.only hO36 (ne1P ap_FpE_b30)
  replace H := H.only hO36 (ne1P ap_Fp_b30)
  replace B4 := B4.only hO36 (by first | exact ne_b1_b30 | exact ne_b30_b1.symm | (show ¬ b1 = b30; omega))
  replace B9 := B9.only hO36 (by first | exact ne_b6_b30 | exact ne_b30_b6.symm | (show ¬ b6 = b30; omega))
  replace B14 := B14.only hO36 (by first | exact ne_b11_b30 | exact ne_b30_b11.symm | (show ¬ b11 = b30; omega))
  replace OQ26 := OQ26.only hO36 (Apart.ne1 ap_Q24_b30)
  replace hF := hF.loc hO36 (.inr g_b30)
  replace B33 := hBq
  clear hBq
  refine wpList_nil ?_
  refine fx_next ?_
  refine wp_seq ?_
  refine wp_region_lit ?_  -- region 9
  refine fx_val (v := .pointer (some ⟨b, 0, none⟩)) fr rfl rfl (by first | decide | simp) (x_move rfl (fr.ev rfl)) ?_
  clear fr a; intro a fr
  refine fx_val (v := .pointer (some ⟨b1, 3, none⟩)) fr rfl rfl (by first | decide | simp) (x_fieldAddr fo36_3 rfl (fr.ev rfl) rfl) ?_
  clear fr a; intro a fr
  refine fx_val (v := .int .u32 m.line) fr rfl rfl (by first | decide | simp) (x_load1 pl24 rfl (fr.ev rfl) (B4.cell 3 rfl)) ?_
  clear fr a; intro a fr
  refine fx_val (v := .agg (#[.slice none 0 0, .pointer (some ⟨b30, 0, none⟩), .pointer (some ⟨b, 0, none⟩), .int .u32 m.line])) fr rfl rfl (by first | decide | simp) (x_build (cells := #[.slice none 0 0, .pointer (some ⟨b30, 0, none⟩), .pointer (some ⟨b, 0, none⟩), .int .u32 m.line]) rfl (by simp only [List.map_toArray, List.map_cons, List.map_nil, show a.eval (.tmp 6) = .pointer (some ⟨b30, 0, none⟩) from fr.ev rfl, show a.eval (.tmp 32) = .pointer (some ⟨b, 0, none⟩) from fr.ev rfl, show a.eval (.tmp 34) = .int .u32 m.line from fr.ev rfl]; kernel_rfl)) ?_
  clear fr a; intro a fr
  refine fx_new fr rfl rfl (by first | decide | simp) (x_box (cs := #[.slice none 0 0, .pointer (some ⟨b30, 0, none⟩), .pointer (some ⟨b, 0, none⟩), .int .u32 m.line]) rfl (fr.ev rfl) rfl) ?_
  clear fr a
  intro b37 w38 hN39 B40 hb41 a fr
  have ne_b_b37 : NE b b37 := NE.mk (Nat.lt_of_lt_of_le hB.lt hb41)
  have ne_bi_b37 : NE bi b37 := NE.mk (Nat.lt_of_lt_of_le hI.lt.1 hb41)
  have ne_ig_b37 : NE ig b37 := NE.mk (Nat.lt_of_lt_of_le hI.lt.2 hb41)
  have ap_FpE_b37 : ¬ FpE b37 := hM.apart hb41
  have ap_Fp_b37 : ¬ Fp b37 := H.apart hb41
  have ne_b1_b37 : NE b1 b37 := NE.mk (Nat.lt_of_lt_of_le B4.lt hb41)
  have ne_b6_b37 : NE b6 b37 := NE.mk (Nat.lt_of_lt_of_le B9.lt hb41)
  have ne_b11_b37 : NE b11 b37 := NE.mk (Nat.lt_of_lt_of_le B14.lt hb41)
  have ap_Q24_b37 : Apart Q24 b37 := OQ26.apart hb41
  have ne_b30_b37 : NE b30 b37 := NE.mk (Nat.lt_of_lt_of_le B33.lt hb41)
  have g_b37 := Nat.le_trans hF.size hb41
  replace hB := hB.new hN39
  replace hI := hI.new hN39
  replace hM := hM.new hN39
  replace H := H.new hN39
  replace B4 := B4.new hN39
  replace B9 := B9.new hN39
  replace B14 := B14.new hN39
  replace OQ26 := OQ26.new hN39
  replace B33 := B33.new hN39
  replace hF := hF.trNew hN39
  refine fx_val (v := .pointer (some ⟨b37, 0, none⟩)) fr rfl rfl (by first | decide | simp) (x_assign rfl (fr.ev rfl)) ?_
  clear fr a; intro a fr
  refine wpList_nil ?_
  refine fx_next ?_
  refine wp_seq ?_
  refine wp_region_lit ?_  -- region 10
  refine fx_makeMap fr rfl rfl rfl (by first | decide | simp) ?_
  clear fr a
  intro r42 w43 hN44 M45 hb46 a fr
  have ne_b_r42 : NE b r42 := NE.mk (Nat.lt_of_lt_of_le hB.lt hb46)
  have ne_bi_r42 : NE bi r42 := NE.mk (Nat.lt_of_lt_of_le hI.lt.1 hb46)
  have ne_ig_r42 : NE ig r42 := NE.mk (Nat.lt_of_lt_of_le hI.lt.2 hb46)
  have ap_FpE_r42 : ¬ FpE r42 := hM.apart hb46
  have ap_Fp_r42 : ¬ Fp r42 := H.apart hb46
  have ne_b1_r42 : NE b1 r42 := NE.mk (Nat.lt_of_lt_of_le B4.lt hb46)
  have ne_b6_r42 : NE b6 r42 := NE.mk (Nat.lt_of_lt_of_le B9.lt hb46)
  have ne_b11_r42 : NE b11 r42 := NE.mk (Nat.lt_of_lt_of_le B14.lt hb46)
  have ap_Q24_r42 : Apart Q24 r42 := OQ26.apart hb46
  have ne_b30_r42 : NE b30 r42 := NE.mk (Nat.lt_of_lt_of_le B33.lt hb46)
  have ne_b37_r42 : NE b37 r42 := NE.mk (Nat.lt_of_lt_of_le B40.lt hb46)
  have g_r42 := Nat.le_trans hF.size hb46
  replace hB := hB.new hN44
  replace hI := hI.new hN44
  replace hM := hM.new hN44
  replace H := H.new hN44
  replace B4 := B4.new hN44
  replace B9 := B9.new hN44
  replace B14 := B14.new hN44
  replace OQ26 := OQ26.new hN44
  replace B33 := B33.new hN44
  replace B40 := B40.new hN44
  replace hF := hF.trNew hN44
  refine fx_val (v := .pointer (some ⟨b37, 0, none⟩)) fr rfl rfl (by first | decide | simp) (x_move rfl (fr.ev rfl)) ?_
  clear fr a; intro a fr
  refine fx_val (v := .func (.func 32) #[.pointer (some ⟨b37, 0, none⟩)] #[]) fr rfl rfl (by first | decide | simp) (x_makeBound rfl (fr.ev rfl)) ?_
  clear fr a; intro a fr
  refine fx_insert (es' := #[⟨.int .i64 1, .func (.func 32) #[.pointer (some ⟨b37, 0, none⟩)] #[], 0⟩]) Try.underlying84 Try.underlying33 rfl rfl rfl (fr.ev rfl) rfl (fr.ev rfl) M45 rfl rfl fun w47 hO48 hBq => ?_
  replace hB := hB.only hO48 (by first | exact ne_b_r42 | exact ne_r42_b.symm | (show ¬ b = r42; omega))
  replace hI := hI.only hO48 (by first | exact ne_bi_r42 | exact ne_r42_bi.symm | (show ¬ bi = r42; omega)) (by first | exact ne_ig_r42 | exact ne_r42_ig.symm | (show ¬ ig = r42; omega))
  replace hM := hM.only hO48 (ne1P ap_FpE_r42)
  replace H := H.only hO48 (ne1P ap_Fp_r42)
  replace B4 := B4.only hO48 (by first | exact ne_b1_r42 | exact ne_r42_b1.symm | (show ¬ b1 = r42; omega))
  replace B9 := B9.only hO48 (by first | exact ne_b6_r42 | exact ne_r42_b6.symm | (show ¬ b6 = r42; omega))
  replace B14 := B14.only hO48 (by first | exact ne_b11_r42 | exact ne_r42_b11.symm | (show ¬ b11 = r42; omega))
  replace OQ26 := OQ26.only hO48 (Apart.ne1 ap_Q24_r42)
  replace B33 := B33.only hO48 (by first | exact ne_b30_r42 | exact ne_r42_b30.symm | (show ¬ b30 = r42; omega))
  replace B40 := B40.only hO48 (by first | exact ne_b37_r42 | exact ne_r42_b37.symm | (show ¬ b37 = r42; omega))
  replace hF := hF.loc hO48 (.inr g_r42)
  replace M45 := hBq
  clear hBq
  refine fx_val (v := .pointer (some ⟨b37, 0, none⟩)) fr rfl rfl (by first | decide | simp) (x_move rfl (fr.ev rfl)) ?_
  clear fr a; intro a fr
  refine fx_val (v := .func (.func 32) #[.pointer (some ⟨b37, 0, none⟩)] #[]) fr rfl rfl (by first | decide | simp) (x_makeBound rfl (fr.ev rfl)) ?_
  clear fr a; intro a fr
  refine fx_insert (es' := #[⟨.int .i64 1, .func (.func 32) #[.pointer (some ⟨b37, 0, none⟩)] #[], 0⟩, ⟨.int .i64 2, .func (.func 32) #[.pointer (some ⟨b37, 0, none⟩)] #[], 1⟩]) Try.underlying84 Try.underlying33 rfl rfl rfl (fr.ev rfl) rfl (fr.ev rfl) M45 rfl rfl fun w49 hO50 hBq => ?_
  replace hB := hB.only hO50 (by first | exact ne_b_r42 | exact ne_r42_b.symm | (show ¬ b = r42; omega))
  replace hI := hI.only hO50 (by first | exact ne_bi_r42 | exact ne_r42_bi.symm | (show ¬ bi = r42; omega)) (by first | exact ne_ig_r42 | exact ne_r42_ig.symm | (show ¬ ig = r42; omega))
  replace hM := hM.only hO50 (ne1P ap_FpE_r42)
  replace H := H.only hO50 (ne1P ap_Fp_r42)
  replace B4 := B4.only hO50 (by first | exact ne_b1_r42 | exact ne_r42_b1.symm | (show ¬ b1 = r42; omega))
  replace B9 := B9.only hO50 (by first | exact ne_b6_r42 | exact ne_r42_b6.symm | (show ¬ b6 = r42; omega))
  replace B14 := B14.only hO50 (by first | exact ne_b11_r42 | exact ne_r42_b11.symm | (show ¬ b11 = r42; omega))
  replace OQ26 := OQ26.only hO50 (Apart.ne1 ap_Q24_r42)
  replace B33 := B33.only hO50 (by first | exact ne_b30_r42 | exact ne_r42_b30.symm | (show ¬ b30 = r42; omega))
  replace B40 := B40.only hO50 (by first | exact ne_b37_r42 | exact ne_r42_b37.symm | (show ¬ b37 = r42; omega))
  replace hF := hF.loc hO50 (.inr g_r42)
  replace M45 := hBq
  clear hBq
  refine fx_val (v := .pointer (some ⟨b37, 0, none⟩)) fr rfl rfl (by first | decide | simp) (x_move rfl (fr.ev rfl)) ?_
  clear fr a; intro a fr
  refine fx_val (v := .func (.func 32) #[.pointer (some ⟨b37, 0, none⟩)] #[]) fr rfl rfl (by first | decide | simp) (x_makeBound rfl (fr.ev rfl)) ?_
  clear fr a; intro a fr
  refine fx_insert (es' := #[⟨.int .i64 1, .func (.func 32) #[.pointer (some ⟨b37, 0, none⟩)] #[], 0⟩, ⟨.int .i64 2, .func (.func 32) #[.pointer (some ⟨b37, 0, none⟩)] #[], 1⟩, ⟨.int .i64 3, .func (.func 32) #[.pointer (some ⟨b37, 0, none⟩)] #[], 2⟩]) Try.underlying84 Try.underlying33 rfl rfl rfl (fr.ev rfl) rfl (fr.ev rfl) M45 rfl rfl fun w51 hO52 hBq => ?_
  replace hB := hB.only hO52 (by first | exact ne_b_r42 | exact ne_r42_b.symm | (show ¬ b = r42; omega))
  replace hI := hI.only hO52 (by first | exact ne_bi_r42 | exact ne_r42_bi.symm | (show ¬ bi = r42; omega)) (by first | exact ne_ig_r42 | exact ne_r42_ig.symm | (show ¬ ig = r42; omega))
  replace hM := hM.only hO52 (ne1P ap_FpE_r42)
  replace H := H.only hO52 (ne1P ap_Fp_r42)
  replace B4 := B4.only hO52 (by first | exact ne_b1_r42 | exact ne_r42_b1.symm | (show ¬ b1 = r42; omega))
  replace B9 := B9.only hO52 (by first | exact ne_b6_r42 | exact ne_r42_b6.symm | (show ¬ b6 = r42; omega))
  replace B14 := B14.only hO52 (by first | exact ne_b11_r42 | exact ne_r42_b11.symm | (show ¬ b11 = r42; omega))
  replace OQ26 := OQ26.only hO52 (Apart.ne1 ap_Q24_r42)
  replace B33 := B33.only hO52 (by first | exact ne_b30_r42 | exact ne_r42_b30.symm | (show ¬ b30 = r42; omega))
  replace B40 := B40.only hO52 (by first | exact ne_b37_r42 | exact ne_r42_b37.symm | (show ¬ b37 = r42; omega))
  replace hF := hF.loc hO52 (.inr g_r42)
  replace M45 := hBq
  clear hBq
  refine fx_val (v := .pointer (some ⟨b37, 0, none⟩)) fr rfl rfl (by first | decide | simp) (x_move rfl (fr.ev rfl)) ?_
  clear fr a; intro a fr
  refine fx_val (v := .func (.func 33) #[.pointer (some ⟨b37, 0, none⟩)] #[]) fr rfl rfl (by first | decide | simp) (x_makeBound rfl (fr.ev rfl)) ?_
  clear fr a; intro a fr
  refine fx_insert (es' := #[⟨.int .i64 1, .func (.func 32) #[.pointer (some ⟨b37, 0, none⟩)] #[], 0⟩, ⟨.int .i64 2, .func (.func 32) #[.pointer (some ⟨b37, 0, none⟩)] #[], 1⟩, ⟨.int .i64 3, .func (.func 32) #[.pointer (some ⟨b37, 0, none⟩)] #[], 2⟩, ⟨.int .i64 11, .func (.func 33) #[.pointer (some ⟨b37, 0, none⟩)] #[], 3⟩]) Try.underlying84 Try.underlying33 rfl rfl rfl (fr.ev rfl) rfl (fr.ev rfl) M45 rfl rfl fun w53 hO54 hBq => ?_
  replace hB := hB.only hO54 (by first | exact ne_b_r42 | exact ne_r42_b.symm | (show ¬ b = r42; omega))
  replace hI := hI.only hO54 (by first | exact ne_bi_r42 | exact ne_r42_bi.symm | (show ¬ bi = r42; omega)) (by first | exact ne_ig_r42 | exact ne_r42_ig.symm | (show ¬ ig = r42; omega))
  replace hM := hM.only hO54 (ne1P ap_FpE_r42)
  replace H := H.only hO54 (ne1P ap_Fp_r42)
  replace B4 := B4.only hO54 (by first | exact ne_b1_r42 | exact ne_r42_b1.symm | (show ¬ b1 = r42; omega))
  replace B9 := B9.only hO54 (by first | exact ne_b6_r42 | exact ne_r42_b6.symm | (show ¬ b6 = r42; omega))
  replace B14 := B14.only hO54 (by first | exact ne_b11_r42 | exact ne_r42_b11.symm | (show ¬ b11 = r42; omega))
  replace OQ26 := OQ26.only hO54 (Apart.ne1 ap_Q24_r42)
  replace B33 := B33.only hO54 (by first | exact ne_b30_r42 | exact ne_r42_b30.symm | (show ¬ b30 = r42; omega))
  replace B40 := B40.only hO54 (by first | exact ne_b37_r42 | exact ne_r42_b37.symm | (show ¬ b37 = r42; omega))
  replace hF := hF.loc hO54 (.inr g_r42)
  replace M45 := hBq
  clear hBq
  refine fx_val (v := .pointer (some ⟨b37, 0, none⟩)) fr rfl rfl (by first | decide | simp) (x_move rfl (fr.ev rfl)) ?_
  clear fr a; intro a fr
  refine fx_val (v := .func (.func 34) #[.pointer (some ⟨b37, 0, none⟩)] #[]) fr rfl rfl (by first | decide | simp) (x_makeBound rfl (fr.ev rfl)) ?_
  clear fr a; intro a fr
  refine fx_insert (es' := #[⟨.int .i64 1, .func (.func 32) #[.pointer (some ⟨b37, 0, none⟩)] #[], 0⟩, ⟨.int .i64 2, .func (.func 32) #[.pointer (some ⟨b37, 0, none⟩)] #[], 1⟩, ⟨.int .i64 3, .func (.func 32) #[.pointer (some ⟨b37, 0, none⟩)] #[], 2⟩, ⟨.int .i64 11, .func (.func 33) #[.pointer (some ⟨b37, 0, none⟩)] #[], 3⟩, ⟨.int .i64 12, .func (.func 34) #[.pointer (some ⟨b37, 0, none⟩)] #[], 4⟩]) Try.underlying84 Try.underlying33 rfl rfl rfl (fr.ev rfl) rfl (fr.ev rfl) M45 rfl rfl fun w55 hO56 hBq => ?_
  replace hB := hB.only hO56 (by first | exact ne_b_r42 | exact ne_r42_b.symm | (show ¬ b = r42; omega))
  replace hI := hI.only hO56 (by first | exact ne_bi_r42 | exact ne_r42_bi.symm | (show ¬ bi = r42; omega)) (by first | exact ne_ig_r42 | exact ne_r42_ig.symm | (show ¬ ig = r42; omega))
  replace hM := hM.only hO56 (ne1P ap_FpE_r42)
  replace H := H.only hO56 (ne1P ap_Fp_r42)
  replace B4 := B4.only hO56 (by first | exact ne_b1_r42 | exact ne_r42_b1.symm | (show ¬ b1 = r42; omega))
  replace B9 := B9.only hO56 (by first | exact ne_b6_r42 | exact ne_r42_b6.symm | (show ¬ b6 = r42; omega))
  replace B14 := B14.only hO56 (by first | exact ne_b11_r42 | exact ne_r42_b11.symm | (show ¬ b11 = r42; omega))
  replace OQ26 := OQ26.only hO56 (Apart.ne1 ap_Q24_r42)
  replace B33 := B33.only hO56 (by first | exact ne_b30_r42 | exact ne_r42_b30.symm | (show ¬ b30 = r42; omega))
  replace B40 := B40.only hO56 (by first | exact ne_b37_r42 | exact ne_r42_b37.symm | (show ¬ b37 = r42; omega))
  replace hF := hF.loc hO56 (.inr g_r42)
  replace M45 := hBq
  clear hBq
  refine fx_val (v := .pointer (some ⟨b37, 0, none⟩)) fr rfl rfl (by first | decide | simp) (x_move rfl (fr.ev rfl)) ?_
  clear fr a; intro a fr
  refine fx_val (v := .func (.func 35) #[.pointer (some ⟨b37, 0, none⟩)] #[]) fr rfl rfl (by first | decide | simp) (x_makeBound rfl (fr.ev rfl)) ?_
  clear fr a; intro a fr
  refine fx_insert (es' := #[⟨.int .i64 1, .func (.func 32) #[.pointer (some ⟨b37, 0, none⟩)] #[], 0⟩, ⟨.int .i64 2, .func (.func 32) #[.pointer (some ⟨b37, 0, none⟩)] #[], 1⟩, ⟨.int .i64 3, .func (.func 32) #[.pointer (some ⟨b37, 0, none⟩)] #[], 2⟩, ⟨.int .i64 11, .func (.func 33) #[.pointer (some ⟨b37, 0, none⟩)] #[], 3⟩, ⟨.int .i64 12, .func (.func 34) #[.pointer (some ⟨b37, 0, none⟩)] #[], 4⟩, ⟨.int .i64 13, .func (.func 35) #[.pointer (some ⟨b37, 0, none⟩)] #[], 5⟩]) Try.underlying84 Try.underlying33 rfl rfl rfl (fr.ev rfl) rfl (fr.ev rfl) M45 rfl rfl fun w57 hO58 hBq => ?_
  replace hB := hB.only hO58 (by first | exact ne_b_r42 | exact ne_r42_b.symm | (show ¬ b = r42; omega))
  replace hI := hI.only hO58 (by first | exact ne_bi_r42 | exact ne_r42_bi.symm | (show ¬ bi = r42; omega)) (by first | exact ne_ig_r42 | exact ne_r42_ig.symm | (show ¬ ig = r42; omega))
  replace hM := hM.only hO58 (ne1P ap_FpE_r42)
  replace H := H.only hO58 (ne1P ap_Fp_r42)
  replace B4 := B4.only hO58 (by first | exact ne_b1_r42 | exact ne_r42_b1.symm | (show ¬ b1 = r42; omega))
  replace B9 := B9.only hO58 (by first | exact ne_b6_r42 | exact ne_r42_b6.symm | (show ¬ b6 = r42; omega))
  replace B14 := B14.only hO58 (by first | exact ne_b11_r42 | exact ne_r42_b11.symm | (show ¬ b11 = r42; omega))
  replace OQ26 := OQ26.only hO58 (Apart.ne1 ap_Q24_r42)
  replace B33 := B33.only hO58 (by first | exact ne_b30_r42 | exact ne_r42_b30.symm | (show ¬ b30 = r42; omega))
  replace B40 := B40.only hO58 (by first | exact ne_b37_r42 | exact ne_r42_b37.symm | (show ¬ b37 = r42; omega))
  replace hF := hF.loc hO58 (.inr g_r42)
  replace M45 := hBq
  clear hBq
  refine fx_val (v := .map (some r42)) fr rfl rfl (by first | decide | simp) (x_move rfl (fr.ev rfl)) ?_
  clear fr a; intro a fr
  refine fx_val (v := .pointer (some ⟨b1, 0, none⟩)) fr rfl rfl (by first | decide | simp) (x_fieldAddr fo36_0 rfl (fr.ev rfl) rfl) ?_
  clear fr a; intro a fr
  refine fx_val (v := .int .i64 m.kind) fr rfl rfl (by first | decide | simp) (x_load1 pl33 rfl (fr.ev rfl) (B4.cell 0 rfl)) ?_
  clear fr a; intro a fr
  refine fx_val (v := .func (.func f) #[.pointer (some ⟨b37, 0, none⟩)] #[]) fr rfl rfl (by first | decide | simp) (x_lookup (k := .i64) (ok := false) (v := .func (.func f) #[.pointer (some ⟨b37, 0, none⟩)] #[]) (b := true) Try.underlying84 Try.underlying33 rfl (fr.ev rfl) (fr.ev rfl) M45 (z := .nilFunc) (by kernel_rfl) (hes b37)) ?_
  clear fr a; intro a fr
  refine fx_val (v := .agg (msgE.arr m)) fr rfl rfl (by first | decide | simp) (x_loadE (E := msgE) ag36 rfl rfl (fr.ev rfl) (B4.rangeE msgE)) ?_
  clear fr a; intro a fr
  refine fx_callp rfl (x_callb (all := #[.pointer (some ⟨b37, 0, none⟩), .agg (msgE.arr m)]) (vs := [.agg (msgE.arr m)]) rfl (fr.ev rfl) ⟨(fr.ev rfl), trivial⟩ rfl hfn hnm hbd) (hcall _ b37 b30 bi ig cap r Q24 qc25 ⟨B40, B33, hB, hI, OQ26.view, Own.nil, ⟨(by first | exact ne_b37_b30 | exact ne_b30_b37.symm), (by first | exact ne_b37_b | exact ne_b_b37.symm), (by first | exact ne_b37_bi | exact ne_bi_b37.symm), (by first | exact ne_b37_ig | exact ne_ig_b37.symm), (by first | exact ne_b30_b | exact ne_b_b30.symm), (by first | exact ne_b30_bi | exact ne_bi_b30.symm), (by first | exact ne_b30_ig | exact ne_ig_b30.symm), (by first | exact ne_b_bi | exact ne_bi_b.symm), (by first | exact ne_b_ig | exact ne_ig_b.symm), (by first | exact ne_bi_ig | exact ne_ig_bi.symm), ap_Q24_b37, ap_Q24_b30, ap_Q24_b, ap_Q24_bi, ap_Q24_ig, (apart_none b37), (apart_none b30), (apart_none b), (apart_none bi), (apart_none ig), (fun k _ h => apart_none k h)⟩⟩ OQ26) ?_
  rintro _ w59 ⟨rfl, hN60⟩
  replace hB := hB.new hN60
  replace hI := hI.new hN60
  replace hM := hM.new hN60
  replace H := H.new hN60
  replace B4 := B4.new hN60
  replace B9 := B9.new hN60
  replace B14 := B14.new hN60
  replace OQ26 := OQ26.new hN60
  replace B33 := B33.new hN60
  replace B40 := B40.new hN60
  replace M45 := M45.new hN60
  replace hF := hF.trNew hN60
  refine fx_pt ?_
  refine fx_panD1 fr rfl (caught_stop B9 B14 ne_b6_b11 220) [.cell 4 23, .cell 5 37] [.slice none 0 0, .int .i64 220] rfl ?_
  rintro w9 ⟨hC9, hK9, hO9⟩
  replace hB := hB.only hO9 (fun h => h.elim (by first | exact ne_b_b6 | exact ne_b6_b.symm | (show ¬ b = b6; omega)) (by first | exact ne_b_b11 | exact ne_b11_b.symm | (show ¬ b = b11; omega)))
  replace hI := hI.only hO9 (fun h => h.elim (by first | exact ne_bi_b6 | exact ne_b6_bi.symm | (show ¬ bi = b6; omega)) (by first | exact ne_bi_b11 | exact ne_b11_bi.symm | (show ¬ bi = b11; omega))) (fun h => h.elim (by first | exact ne_ig_b6 | exact ne_b6_ig.symm | (show ¬ ig = b6; omega)) (by first | exact ne_ig_b11 | exact ne_b11_ig.symm | (show ¬ ig = b11; omega)))
  replace hM := hM.only hO9 (fun g hg => (fun h => h.elim ((ne1P ap_FpE_b6) g hg) ((ne1P ap_FpE_b11) g hg)))
  replace H := H.only hO9 (fun g hg => (fun h => h.elim ((ne1P ap_Fp_b6) g hg) ((ne1P ap_Fp_b11) g hg)))
  replace B4 := B4.only hO9 (fun h => h.elim (by first | exact ne_b1_b6 | exact ne_b6_b1.symm | (show ¬ b1 = b6; omega)) (by first | exact ne_b1_b11 | exact ne_b11_b1.symm | (show ¬ b1 = b11; omega)))
  replace OQ26 := OQ26.only hO9 (fun g hg => (fun h => h.elim ((Apart.ne1 ap_Q24_b6) g hg) ((Apart.ne1 ap_Q24_b11) g hg)))
  replace B33 := B33.only hO9 (fun h => h.elim (by first | exact ne_b30_b6 | exact ne_b6_b30.symm | (show ¬ b30 = b6; omega)) (by first | exact ne_b30_b11 | exact ne_b11_b30.symm | (show ¬ b30 = b11; omega)))
  replace B40 := B40.only hO9 (fun h => h.elim (by first | exact ne_b37_b6 | exact ne_b6_b37.symm | (show ¬ b37 = b6; omega)) (by first | exact ne_b37_b11 | exact ne_b11_b37.symm | (show ¬ b37 = b11; omega)))
  replace M45 := M45.only hO9 (fun h => h.elim (by first | exact ne_r42_b6 | exact ne_b6_r42.symm | (show ¬ r42 = b6; omega)) (by first | exact ne_r42_b11 | exact ne_b11_r42.symm | (show ¬ r42 = b11; omega)))
  replace hF := hF.locS hO9 (fun i => (fun h => h.elim (fun e => by rw [e]; exact (.inr g_b6)) (fun e => by rw [e]; exact (.inr g_b11))))
  refine ⟨⟨⟨_, rfl, x_loadV1 pl23 (hC9.cell 0 rfl)⟩, ⟨_, rfl, x_loadV1 pl37 (hK9.cell 0 rfl)⟩, trivial⟩, ?_⟩
  exact ⟨_, rfl, rfl, H, hF⟩
end Go.Proofs.Ytdiaemlgghfecaa
namespace Go.Proofs.Ytdiaemlgghfecaa
open Go.RowKit
theorem w_req_n {w : World} {bw be bh bi ig cap r : Nat} {d : Ent} {Q : Option Addr} {qc : Nat} {bs : List UInt8} {m : Msg} (R : WorkR w bw be bh bi ig cap r m.line d Q qc none 0 [] bs) (hsrc : 0 ≤ m.src ∧ m.src < 4) (hb : d.busy = false) (hk : 1 ≤ m.kind ∧ m.kind ≤ 3) : Calls Try.prog 32 #[.pointer (some ⟨bw, 0, none⟩), .agg (msgE.arr m)] w (Ret fun v w' => v = .tuple #[] ∧ HRet w w' bw be bh bi ig cap r m.line Q none [] (beginF bs d m)) := by
  obtain ⟨o, sh, busy, asks, kind, waits, told, q⟩ := d
  dsimp only at *
  subst hb
  exact req_n m R (by simp) hsrc hk
theorem w_req_b {w : World} {bw be bh bi ig cap r : Nat} {d : Ent} {Q : Option Addr} {qc : Nat} {bs : List UInt8} {m : Msg} (R : WorkR w bw be bh bi ig cap r m.line d Q qc none 0 [] bs) (hsrc : 0 ≤ m.src ∧ m.src < 4) (hb : d.busy = true) (OQ : Own msgE w Q qc d.q) (hl : d.q.length ≤ 1000000) : Calls Try.prog 32 #[.pointer (some ⟨bw, 0, none⟩), .agg (msgE.arr m)] w (Ret fun v w' => v = .tuple #[] ∧ HRet w w' bw be bh bi ig cap r m.line Q none [] ({ d with q := d.q ++ [m] }, bs, ([] : List Msg))) := by
  obtain ⟨o, sh, busy, asks, kind, waits, told, q⟩ := d
  dsimp only at *
  subst hb
  exact req_b m R (by simp) hsrc OQ hl
theorem w_back {w : World} {bw be bh bi ig cap r : Nat} {d : Ent} {Q : Option Addr} {qc : Nat} {bs : List UInt8} {m : Msg} (R : WorkR w bw be bh bi ig cap r m.line d Q qc none 0 [] bs) (hsrc : 0 ≤ m.src ∧ m.src < 4) (hs : strayF d m = false) (hk : m.kind = 11) (hask : 0 ≤ d.asks ∧ d.asks < 4) (hkk : d.busy = true → d.kind = 1 ∨ d.kind = 2) : Calls Try.prog 33 #[.pointer (some ⟨bw, 0, none⟩), .agg (msgE.arr m)] w (Ret fun v w' => v = .tuple #[] ∧ HRet w w' bw be bh bi ig cap r m.line Q none [] (otherF bs d m)) := by
  obtain ⟨o, sh, busy, asks, kind, waits, told, q⟩ := d
  dsimp only at *
  simp [strayF, hk] at hs
  obtain ⟨⟨rfl, h1⟩, h2⟩ := hs
  exact back_ok m R (by simp) hsrc hask hk (by omega) h2 (hkk rfl)
theorem w_ack {w : World} {bw be bh bi ig cap r : Nat} {d : Ent} {Q : Option Addr} {qc : Nat} {bs : List UInt8} {m : Msg} (R : WorkR w bw be bh bi ig cap r m.line d Q qc none 0 [] bs) (hsrc : 0 ≤ m.src ∧ m.src < 4) (hs : strayF d m = false) (hk : m.kind = 12) (hask : 0 ≤ d.asks ∧ d.asks < 4) (hw4 : d.waits ≤ 4) : Calls Try.prog 34 #[.pointer (some ⟨bw, 0, none⟩), .agg (msgE.arr m)] w (Ret fun v w' => v = .tuple #[] ∧ HRet w w' bw be bh bi ig cap r m.line Q none [] (otherF bs d m)) := by
  obtain ⟨o, sh, busy, asks, kind, waits, told, q⟩ := d
  dsimp only at *
  simp [strayF, hk] at hs
  obtain ⟨⟨rfl, h1⟩, ⟨h2, h3⟩, h4⟩ := hs
  exact ack_ok m R (by simp) hsrc hask hk (by omega) h2 h3 h4
theorem w_done {w : World} {bw be bh bi ig cap r : Nat} {d : Ent} {Q : Option Addr} {qc : Nat} {bs : List UInt8} {m : Msg} (R : WorkR w bw be bh bi ig cap r m.line d Q qc none 0 [] bs) (hsrc : 0 ≤ m.src ∧ m.src < 4) (hs : strayF d m = false) (hk : m.kind = 13) (ht : d.told = true → d.waits = 0) (hq : ∀ x ∈ d.q, QOk m.line x) (hl : d.q.length ≤ 100000) : Calls Try.prog 35 #[.pointer (some ⟨bw, 0, none⟩), .agg (msgE.arr m)] w (Ret fun v w' => v = .tuple #[] ∧ HRet w w' bw be bh bi ig cap r m.line Q none [] (otherF bs d m)) := by
  obtain ⟨o, sh, busy, asks, kind, waits, told, q⟩ := d
  dsimp only at *
  simp [strayF, hk] at hs
  obtain ⟨rfl, rfl, h4⟩ := hs
  obtain rfl := ht rfl
  exact done_ok m R (by simp) hsrc hk h4 hq (by simp; omega)
theorem begin_bs {bs : List UInt8} {d : Ent} {m : Msg} : (beginF bs d m).2.1.length = bs.length := by
  unfold beginF; dsimp only
  split
  · show (if d.o = m.src then setLn bs m.line m.bs else bs).length = _
    split
    · exact setLn_length _ _ _
    · rfl
  · split
    · rfl
    · split
      · split <;> rfl
      · split <;> rfl
theorem drain_bs : ∀ (q : List Msg) (bs : List UInt8) (d : Ent), (drainF q bs d).2.1.length = bs.length
  | [], bs, d => rfl
  | m :: r, bs, d => by
    unfold drainF
    split
    · rfl
    · dsimp only
      rw [drain_bs r, begin_bs]
theorem other_bs {bs : List UInt8} {d : Ent} {m : Msg} : (otherF bs d m).2.1.length = bs.length := by
  unfold otherF
  split
  · exact drain_bs _ _ _
  · split
    · dsimp only
      split <;> exact setLn_length _ _ _
    · split <;> rfl
def HOk (h : HD) : Prop := ∀ n, n < h.E.length → EOk n (entOf h.E n) ∧ (entOf h.E n).q.length ≤ 100000
theorem chk_home {m : Msg} (h : chk m = 0) (hd : m.dst = 4) : homeK m.kind = true ∧ 0 ≤ m.src ∧ m.src < 4 := by
  unfold chk goodMsg at h
  have hx := home_not m.kind
  have h2 : isCache m.dst = false := by rw [hd]; rfl
  simp [hd, h2, isCache] at h
  exact ⟨h.1, h.2.1, by have := h.2.2.1; omega⟩
theorem take_c {w : World} {Fp : Nat → Prop} {b : Nat} {h : HD} (H : HomeAt w Fp b h) (m : Msg) (hok : HOk h) : Calls Try.prog 12 #[.pointer (some ⟨b, 0, none⟩), .agg (msgE.arr m)] w (Ret fun v w' => TakeH w Fp b (takeH h m) v w') := by
  have hlen := H.len
  by_cases h1 : chk m ≠ 0
  · refine (take_a1 H m h1).mono ?_
    rintro e w' ⟨v, rfl, hv, hC, hn⟩
    exact ⟨v, rfl, takeH_no 2 (by unfold takeH; rw [if_pos (.inl h1)]) hv hC hn⟩
  by_cases h2 : m.dst ≠ 4
  · refine (take_a2 H m h1 h2).mono ?_
    rintro e w' ⟨v, rfl, hv, hC, hn⟩
    exact ⟨v, rfl, takeH_no 2 (by unfold takeH; rw [if_pos (.inr h2)]) hv hC hn⟩
  have h0 : ¬ (chk m ≠ 0 ∨ m.dst ≠ 4) := fun h => h.elim h1 h2
  have hmn := m.hn
  by_cases h3 : ((h.bs.length / 16 : Nat) : Int) ≤ m.line
  · refine (take_r H m h1 h2 h3).mono ?_
    rintro e w' ⟨v, rfl, hv, hC, hn⟩
    exact ⟨v, rfl, takeH_no 4 (by unfold takeH; rw [if_neg h0, if_pos (by rw [hlen.1]; exact h3)]) hv hC hn⟩
  have h3' : ¬ (h.E.length : Int) ≤ m.line := by rw [hlen.1]; exact h3
  have hn : m.line.toNat < h.E.length := by omega
  obtain ⟨hE, hql⟩ := hok _ hn
  obtain ⟨hhome, hsrc⟩ := chk_home (Decidable.not_not.1 h1) (Decidable.not_not.1 h2)
  have hkn : (((entOf h.E m.line.toNat) : Ent)) = h.E.getD m.line.toNat ent0 := rfl
  have hq : ∀ x ∈ (entOf h.E m.line.toNat).q, QOk m.line x := fun x hx => by
    obtain ⟨a1, a2, a3, a4, a5⟩ := hE.q x hx
    exact ⟨a1, a2, ⟨a3, a4⟩, by rw [a5, Int.toNat_of_nonneg hmn.1]⟩
  have hreq : m.kind ≤ 3 → 1 ≤ m.kind → ∃ f fn, Try.prog.funcs[f]? = some fn ∧ (fn.name == "runtime.NumGoroutine") = false ∧ fn.body.isNone = false ∧ f = 32 ∧ (∀ b, (Instr.findNow (.int .i64) (.int .i64 m.kind) (takeEs b).toList 0).map (fun q => (match q with | some (_, u) => u | none => .nilFunc, q.isSome)) = some (.func (.func f) #[.pointer (some ⟨b, 0, none⟩)] #[], true)) := fun ha hb => by
    refine ⟨32, _, Try.func32, nm32, rfl, rfl, fun b => ?_⟩
    have : m.kind = 1 ∨ m.kind = 2 ∨ m.kind = 3 := by omega
    rcases this with hk | hk | hk <;> rw [hk] <;> rfl
  unfold homeK at hhome
  simp only [Bool.or_eq_true, decide_eq_true_eq] at hhome
  by_cases hk3 : m.kind ≤ 3
  · have hk1 : 1 ≤ m.kind := by omega
    obtain ⟨f, fn, hfn, hnm, hbd, rfl, hes⟩ := hreq hk3 hk1
    cases hb : (entOf h.E m.line.toNat).busy with
    | true =>
      refine (take_ret (x := ({ (entOf h.E m.line.toNat) with q := (entOf h.E m.line.toNat).q ++ [m] }, h.bs, [])) H m h1 h2 h3 hql hfn hnm hbd hes rfl fun w1 bw be bi ig cap r Q qc R OQ => w_req_b R hsrc hb OQ (by omega)).mono ?_
      rintro e w' ⟨v, rfl, hv⟩
      refine ⟨v, rfl, ?_⟩
      unfold takeH
      rw [if_neg h0, if_neg h3']
      dsimp only
      rw [if_pos hk3, ← hkn, if_pos hb]
      exact hv
    | false =>
      refine (take_ret (x := beginF h.bs (entOf h.E m.line.toNat) m) H m h1 h2 h3 hql hfn hnm hbd hes begin_bs fun w1 bw be bi ig cap r Q qc R OQ => w_req_n R hsrc hb ⟨hk1, hk3⟩).mono ?_
      rintro e w' ⟨v, rfl, hv⟩
      refine ⟨v, rfl, ?_⟩
      unfold takeH
      rw [if_neg h0, if_neg h3']
      dsimp only
      rw [if_pos hk3, ← hkn, if_neg (by rw [hb]; decide)]
      exact hv
  · have hks : m.kind = 11 ∨ m.kind = 12 ∨ m.kind = 13 := by omega
    cases hs : strayF (entOf h.E m.line.toNat) m with
    | true =>
      have hp : Calls Try.prog 12 #[.pointer (some ⟨b, 0, none⟩), .agg (msgE.arr m)] w (Ret fun v w' => v = .tuple #[.slice none 0 0, .int .i64 220] ∧ HomeAt w' Fp b h ∧ New w w') := by
        rcases hks with hk | hk | hk
        · exact take_pan H m h1 h2 h3 hql (f := 33) Try.func33 nm33 rfl (fun _ => by rw [hk]; rfl) fun w1 bw be bi ig cap r Q qc R OQ => back_no m R (by simp) hsrc hk hs
        · exact take_pan H m h1 h2 h3 hql (f := 34) Try.func34 nm34 rfl (fun _ => by rw [hk]; rfl) fun w1 bw be bi ig cap r Q qc R OQ => ack_no m R (by simp) hsrc hk hs
        · exact take_pan H m h1 h2 h3 hql (f := 35) Try.func35 nm35 rfl (fun _ => by rw [hk]; rfl) fun w1 bw be bi ig cap r Q qc R OQ => done_no m R (by simp) hsrc hk hs
      refine hp.mono ?_
      rintro e w' ⟨v, rfl, hv, hC, hn⟩
      exact ⟨v, rfl, takeH_no 220 (by unfold takeH; rw [if_neg h0, if_neg h3']; dsimp only; rw [if_neg hk3, ← hkn, if_pos hs]) hv hC hn⟩
    | false =>
      have hp : Calls Try.prog 12 #[.pointer (some ⟨b, 0, none⟩), .agg (msgE.arr m)] w (Ret fun v w' => TakeH w Fp b (⟨(otherF h.bs (entOf h.E m.line.toNat) m).2.1, h.E.set m.line.toNat (otherF h.bs (entOf h.E m.line.toNat) m).1⟩, (otherF h.bs (entOf h.E m.line.toNat) m).2.2, 0) v w') := by
        rcases hks with hk | hk | hk
        · exact take_ret H m h1 h2 h3 hql (f := 33) Try.func33 nm33 rfl (fun _ => by rw [hk]; rfl) other_bs fun w1 bw be bi ig cap r Q qc R OQ => w_back R hsrc hs hk hE.asks hE.kind
        · exact take_ret H m h1 h2 h3 hql (f := 34) Try.func34 nm34 rfl (fun _ => by rw [hk]; rfl) other_bs fun w1 bw be bi ig cap r Q qc R OQ => w_ack R hsrc hs hk hE.asks hE.waits.2
        · exact take_ret H m h1 h2 h3 hql (f := 35) Try.func35 nm35 rfl (fun _ => by rw [hk]; rfl) other_bs fun w1 bw be bi ig cap r Q qc R OQ => w_done R hsrc hs hk hE.told hq hql
      refine hp.mono ?_
      rintro e w' ⟨v, rfl, hv⟩
      refine ⟨v, rfl, ?_⟩
      unfold takeH
      rw [if_neg h0, if_neg h3']
      dsimp only
      rw [if_neg hk3, ← hkn, if_neg (by rw [hs]; decide)]
      exact hv
end Go.Proofs.Ytdiaemlgghfecaa
namespace Go.Proofs.Ytdiaemlgghfecaa
open Go.RowKit
def IterAt (w : World) (it r c : Nat) (pre : List Slot) : Prop := w.heap[it]? = some (.mapIter (some r) c (pre.map Slot.born).toArray c)
section
variable {w w' : World} {S : Nat → Prop} {it r c : Nat} {pre L : List Slot} {es : Array MapEntry}
theorem IterAt.lt (h : IterAt w it r c pre) : it < w.heap.size := (Array.getElem?_eq_some_iff.1 h).1
theorem IterAt.only (h : IterAt w it r c pre) (k : Only S w w') (hs : ¬ S it) : IterAt w' it r c pre := k.heap h hs
theorem IterAt.new (h : IterAt w it r c pre) (k : New w w') : IterAt w' it r c pre := h.only k id
end
end Go.Proofs.Ytdiaemlgghfecaa
namespace Go.Proofs.Ytdiaemlgghfecaa
open Go.RowKit
def entz : Ent := ⟨0, sh0, false, 0, 0, 0, false, []⟩
set_option maxRecDepth 100000 in
set_option maxHeartbeats 4000000 in
theorem entry_nil (line : Int) (w : World) : Calls Try.prog 13 #[.pointer none, .int .u32 line] w (Ret fun v w' => v = .tuple #[.agg (entA entz (.slice none 0 0)), .int .i64 1] ∧ New w w') := by
  have hF := Only.refl (fun _ => False) w
  refine fx_enter Try.func13 rfl (N := (20, [])) (T := [(0, .pointer none), (1, .int .u32 line)]) rfl (show 2 ≤ 20 by decide) ⟨rfl, rfl, trivial⟩ fun a fr => ?_
  refine wp_seq ?_
  refine wp_region_lit ?_  -- region 0
  refine fx_new fr rfl rfl (by first | decide | simp) (x_alloc (z := .agg (#[.int .i64 0, .bool false, .bool false, .bool false, .bool false, .bool false, .int .i64 0, .int .i64 0, .int .i64 0, .bool false, .slice none 0 0])) (cs := #[.int .i64 0, .bool false, .bool false, .bool false, .bool false, .bool false, .int .i64 0, .int .i64 0, .int .i64 0, .bool false, .slice none 0 0]) rfl (by kernel_rfl) rfl) ?_
  clear fr a
  intro b1 w2 hN3 B4 hb5 a fr
  have g_b1 := Nat.le_trans hF.size hb5
  replace hF := hF.trNew hN3
  refine fx_val (v := .int .i64 0) fr rfl rfl (by first | decide | simp) (x_assign rfl rfl) ?_
  clear fr a; intro a fr
  refine wpList_nil ?_
  refine fx_next ?_
  refine wp_seq ?_
  refine wp_block ?_
  refine wp_seq ?_
  refine wp_region_lit ?_  -- region 1
  refine fx_val (v := .pointer none) fr rfl rfl (by first | decide | simp) (x_move rfl (fr.ev rfl)) ?_
  clear fr a; intro a fr
  refine fx_call fr rfl rfl (by first | decide | simp) (x_call (vs := [.pointer none]) rfl rfl ⟨(fr.ev rfl), trivial⟩ Try.func27 nm27 rfl) (hnone_nil _) ?_
  clear fr a
  rintro v w9 ⟨rfl, hw9⟩ a fr
  obtain rfl := hw9.symm
  refine fx_val (v := .bool true) fr rfl rfl (by first | decide | simp) (x_assign rfl (fr.ev rfl)) ?_
  clear fr a; intro a fr
  refine wpList_nil ?_
  refine fx_next ?_
  refine fx_cond_t fr rfl ?_
  refine wp_seq ?_
  refine wp_region_lit ?_  -- region 2
  refine fx_val (v := .agg (#[.int .i64 0, .bool false, .bool false, .bool false, .bool false, .bool false, .int .i64 0, .int .i64 0, .int .i64 0, .bool false, .slice none 0 0])) fr rfl rfl (by first | decide | simp) (x_build (cells := #[.int .i64 0, .bool false, .bool false, .bool false, .bool false, .bool false, .int .i64 0, .int .i64 0, .int .i64 0, .bool false, .slice none 0 0]) rfl (by kernel_rfl)) ?_
  clear fr a; intro a fr
  refine fx_storeS sz42 rfl rfl rfl (fr.ev rfl) (fr.ev rfl) (by simp [Value.oneCell']) B4 rfl rfl fun w8 hO9 hBq => ?_
  replace hF := hF.loc hO9 (.inr g_b1)
  replace B4 := hBq
  clear hBq
  refine fx_val (v := .int .i64 1) fr rfl rfl (by first | decide | simp) (x_assign rfl rfl) ?_
  clear fr a; intro a fr
  refine wpList_nil ?_
  refine fx_next ?_
  refine wp_ret ?_
  refine fx_rb ?_
  refine fx_rt ?_
  refine fx_ret fr [.cell 4 42, .tmp 5] [.agg (#[.int .i64 0, .bool false, .bool false, .bool false, .bool false, .bool false, .int .i64 0, .int .i64 0, .int .i64 0, .bool false, .slice none 0 0]), .int .i64 1] rfl ⟨⟨_, rfl, x_loadV ag42 rfl B4.range⟩, rfl, trivial⟩ rfl ?_
  exact ⟨_, rfl, rfl, hF⟩
set_option maxRecDepth 100000 in
set_option maxHeartbeats 4000000 in
theorem entry_no {w : World} {b bi r : Nat} (hB : Blk w b 64 #[.pointer (some ⟨bi, 0, none⟩), .map (some r)]) {ig cap : Nat} {bs : List UInt8} (hI : Img 0 w bi ig cap bs) (line : Int) (hln : 0 ≤ line ∧ line < 4294967296) (hr : ((bs.length / 16 : Nat) : Int) ≤ line) : Calls Try.prog 13 #[.pointer (some ⟨b, 0, none⟩), .int .u32 line] w (Ret fun v w' => v = .tuple #[.agg (entA entz (.slice none 0 0)), .int .i64 4] ∧ New w w') := by
  have hp := hI.pos
  have hF := Only.refl (fun _ => False) w
  refine fx_enter Try.func13 rfl (N := (20, [])) (T := [(0, .pointer (some ⟨b, 0, none⟩)), (1, .int .u32 line)]) rfl (show 2 ≤ 20 by decide) ⟨rfl, rfl, trivial⟩ fun a fr => ?_
  refine wp_seq ?_
  refine wp_region_lit ?_  -- region 0
  refine fx_new fr rfl rfl (by first | decide | simp) (x_alloc (z := .agg (#[.int .i64 0, .bool false, .bool false, .bool false, .bool false, .bool false, .int .i64 0, .int .i64 0, .int .i64 0, .bool false, .slice none 0 0])) (cs := #[.int .i64 0, .bool false, .bool false, .bool false, .bool false, .bool false, .int .i64 0, .int .i64 0, .int .i64 0, .bool false, .slice none 0 0]) rfl (by kernel_rfl) rfl) ?_
  clear fr a
  intro b1 w2 hN3 B4 hb5 a fr
  have ne_b_b1 : NE b b1 := NE.mk (Nat.lt_of_lt_of_le hB.lt hb5)
  have ne_bi_b1 : NE bi b1 := NE.mk (Nat.lt_of_lt_of_le hI.lt.1 hb5)
  have ne_ig_b1 : NE ig b1 := NE.mk (Nat.lt_of_lt_of_le hI.lt.2 hb5)
  have g_b1 := Nat.le_trans hF.size hb5
  replace hB := hB.new hN3
  replace hI := hI.new hN3
  replace hF := hF.trNew hN3
  refine fx_val (v := .int .i64 0) fr rfl rfl (by first | decide | simp) (x_assign rfl rfl) ?_
  clear fr a; intro a fr
  refine wpList_nil ?_
  refine fx_next ?_
  refine wp_seq ?_
  refine wp_block ?_
  refine wp_seq ?_
  refine wp_region_lit ?_  -- region 1
  refine fx_val (v := .pointer (some ⟨b, 0, none⟩)) fr rfl rfl (by first | decide | simp) (x_move rfl (fr.ev rfl)) ?_
  clear fr a; intro a fr
  refine fx_call fr rfl rfl (by first | decide | simp) (x_call (vs := [.pointer (some ⟨b, 0, none⟩)]) rfl rfl ⟨(fr.ev rfl), trivial⟩ Try.func27 nm27 rfl) (hnone_c hB) ?_
  clear fr a
  rintro v w9 ⟨rfl, hw9⟩ a fr
  obtain rfl := hw9.symm
  refine fx_val (v := .bool false) fr rfl rfl (by first | decide | simp) (x_assign rfl (fr.ev rfl)) ?_
  clear fr a; intro a fr
  refine wpList_nil ?_
  refine fx_next ?_
  refine fx_cond_f fr rfl ?_
  refine wp_seq ?_
  refine wp_region_lit ?_  -- region 3
  refine fx_val (v := .int .u32 line) fr rfl rfl (by first | decide | simp) (x_move rfl (fr.ev rfl)) ?_
  clear fr a; intro a fr
  refine fx_val (v := .int .i64 line) fr rfl rfl (by first | decide | simp) (x_convert Try.underlying24 Try.underlying2 rfl (fr.ev rfl) (i64w (r := line) rfl (by omega))) ?_
  clear fr a; intro a fr
  refine fx_val (v := .pointer (some ⟨b, 0, none⟩)) fr rfl rfl (by first | decide | simp) (x_move rfl (fr.ev rfl)) ?_
  clear fr a; intro a fr
  refine fx_call fr rfl rfl (by first | decide | simp) (x_call (vs := [.pointer (some ⟨b, 0, none⟩)]) rfl rfl ⟨(fr.ev rfl), trivial⟩ Try.func10 nm10 rfl) (lines_r hB hI) ?_
  clear fr a
  rintro v w9 ⟨rfl, hw9⟩ a fr
  obtain rfl := hw9.symm
  refine fx_val (v := .bool true) fr rfl rfl (by first | decide | simp) (x_geq rfl (fr.ev rfl) (fr.ev rfl) (decide_eq_true hr)) ?_
  clear fr a; intro a fr
  refine fx_val (v := .bool true) fr rfl rfl (by first | decide | simp) (x_assign rfl (fr.ev rfl)) ?_
  clear fr a; intro a fr
  refine wpList_nil ?_
  refine fx_next ?_
  refine fx_cond_t fr rfl ?_
  refine wp_seq ?_
  refine wp_region_lit ?_  -- region 4
  refine fx_val (v := .agg (#[.int .i64 0, .bool false, .bool false, .bool false, .bool false, .bool false, .int .i64 0, .int .i64 0, .int .i64 0, .bool false, .slice none 0 0])) fr rfl rfl (by first | decide | simp) (x_build (cells := #[.int .i64 0, .bool false, .bool false, .bool false, .bool false, .bool false, .int .i64 0, .int .i64 0, .int .i64 0, .bool false, .slice none 0 0]) rfl (by kernel_rfl)) ?_
  clear fr a; intro a fr
  refine fx_storeS sz42 rfl rfl rfl (fr.ev rfl) (fr.ev rfl) (by simp [Value.oneCell']) B4 rfl rfl fun w10 hO11 hBq => ?_
  replace hB := hB.only hO11 (by first | exact ne_b_b1 | exact ne_b1_b.symm | (show ¬ b = b1; omega))
  replace hI := hI.only hO11 (by first | exact ne_bi_b1 | exact ne_b1_bi.symm | (show ¬ bi = b1; omega)) (by first | exact ne_ig_b1 | exact ne_b1_ig.symm | (show ¬ ig = b1; omega))
  replace hF := hF.loc hO11 (.inr g_b1)
  replace B4 := hBq
  clear hBq
  refine fx_val (v := .int .i64 4) fr rfl rfl (by first | decide | simp) (x_assign rfl rfl) ?_
  clear fr a; intro a fr
  refine wpList_nil ?_
  refine fx_next ?_
  refine wp_ret ?_
  refine fx_rb ?_
  refine fx_rt ?_
  refine fx_ret fr [.cell 4 42, .tmp 5] [.agg (#[.int .i64 0, .bool false, .bool false, .bool false, .bool false, .bool false, .int .i64 0, .int .i64 0, .int .i64 0, .bool false, .slice none 0 0]), .int .i64 4] rfl ⟨⟨_, rfl, x_loadV ag42 rfl B4.range⟩, rfl, trivial⟩ rfl ?_
  exact ⟨_, rfl, rfl, hF⟩
set_option maxRecDepth 100000 in
set_option maxHeartbeats 4000000 in
theorem entry_ok {w : World} {b bi r : Nat} (hB : Blk w b 64 #[.pointer (some ⟨bi, 0, none⟩), .map (some r)]) {ig cap : Nat} {bs : List UInt8} (hI : Img 0 w bi ig cap bs) (line : Int) (hln : 0 ≤ line ∧ line < 4294967296) {FpE : Nat → Prop} {E : List Ent} {L : List Slot} {c : Nat} (hM : EntsAt w FpE r E L c) (hr : ¬ ((bs.length / 16 : Nat) : Int) ≤ line) (hl : (entOf E line.toNat).q.length ≤ 1000000) : Calls Try.prog 13 #[.pointer (some ⟨b, 0, none⟩), .int .u32 line] w (Ret fun v w' => ∃ Q' qc', v = .tuple #[.agg (entA (entOf E line.toNat) (.slice Q' (entOf E line.toNat).q.length qc')), .int .i64 0] ∧ Own msgE w' Q' qc' (entOf E line.toNat).q ∧ (∀ g, inA Q' g → w.heap.size ≤ g) ∧ New w w') := by
  have hp := hI.pos
  have ap_FpE_0 := hM.lt_
  have hF := Only.refl (fun _ => False) w
  refine fx_enter Try.func13 rfl (N := (20, [])) (T := [(0, .pointer (some ⟨b, 0, none⟩)), (1, .int .u32 line)]) rfl (show 2 ≤ 20 by decide) ⟨rfl, rfl, trivial⟩ fun a fr => ?_
  refine wp_seq ?_
  refine wp_region_lit ?_  -- region 0
  refine fx_new fr rfl rfl (by first | decide | simp) (x_alloc (z := .agg (#[.int .i64 0, .bool false, .bool false, .bool false, .bool false, .bool false, .int .i64 0, .int .i64 0, .int .i64 0, .bool false, .slice none 0 0])) (cs := #[.int .i64 0, .bool false, .bool false, .bool false, .bool false, .bool false, .int .i64 0, .int .i64 0, .int .i64 0, .bool false, .slice none 0 0]) rfl (by kernel_rfl) rfl) ?_
  clear fr a
  intro b1 w2 hN3 B4 hb5 a fr
  have ne_b_b1 : NE b b1 := NE.mk (Nat.lt_of_lt_of_le hB.lt hb5)
  have ne_bi_b1 : NE bi b1 := NE.mk (Nat.lt_of_lt_of_le hI.lt.1 hb5)
  have ne_ig_b1 : NE ig b1 := NE.mk (Nat.lt_of_lt_of_le hI.lt.2 hb5)
  have ap_FpE_b1 : ¬ FpE b1 := hM.apart hb5
  have g_b1 := Nat.le_trans hF.size hb5
  replace hB := hB.new hN3
  replace hI := hI.new hN3
  replace hM := hM.new hN3
  replace hF := hF.trNew hN3
  refine fx_val (v := .int .i64 0) fr rfl rfl (by first | decide | simp) (x_assign rfl rfl) ?_
  clear fr a; intro a fr
  refine wpList_nil ?_
  refine fx_next ?_
  refine wp_seq ?_
  refine wp_block ?_
  refine wp_seq ?_
  refine wp_region_lit ?_  -- region 1
  refine fx_val (v := .pointer (some ⟨b, 0, none⟩)) fr rfl rfl (by first | decide | simp) (x_move rfl (fr.ev rfl)) ?_
  clear fr a; intro a fr
  refine fx_call fr rfl rfl (by first | decide | simp) (x_call (vs := [.pointer (some ⟨b, 0, none⟩)]) rfl rfl ⟨(fr.ev rfl), trivial⟩ Try.func27 nm27 rfl) (hnone_c hB) ?_
  clear fr a
  rintro v w9 ⟨rfl, hw9⟩ a fr
  obtain rfl := hw9.symm
  refine fx_val (v := .bool false) fr rfl rfl (by first | decide | simp) (x_assign rfl (fr.ev rfl)) ?_
  clear fr a; intro a fr
  refine wpList_nil ?_
  refine fx_next ?_
  refine fx_cond_f fr rfl ?_
  refine wp_seq ?_
  refine wp_region_lit ?_  -- region 3
  refine fx_val (v := .int .u32 line) fr rfl rfl (by first | decide | simp) (x_move rfl (fr.ev rfl)) ?_
  clear fr a; intro a fr
  refine fx_val (v := .int .i64 line) fr rfl rfl (by first | decide | simp) (x_convert Try.underlying24 Try.underlying2 rfl (fr.ev rfl) (i64w (r := line) rfl (by omega))) ?_
  clear fr a; intro a fr
  refine fx_val (v := .pointer (some ⟨b, 0, none⟩)) fr rfl rfl (by first | decide | simp) (x_move rfl (fr.ev rfl)) ?_
  clear fr a; intro a fr
  refine fx_call fr rfl rfl (by first | decide | simp) (x_call (vs := [.pointer (some ⟨b, 0, none⟩)]) rfl rfl ⟨(fr.ev rfl), trivial⟩ Try.func10 nm10 rfl) (lines_r hB hI) ?_
  clear fr a
  rintro v w9 ⟨rfl, hw9⟩ a fr
  obtain rfl := hw9.symm
  refine fx_val (v := .bool false) fr rfl rfl (by first | decide | simp) (x_geq rfl (fr.ev rfl) (fr.ev rfl) (decide_eq_false hr)) ?_
  clear fr a; intro a fr
  refine fx_val (v := .bool false) fr rfl rfl (by first | decide | simp) (x_assign rfl (fr.ev rfl)) ?_
  clear fr a; intro a fr
  refine wpList_nil ?_
  refine fx_next ?_
  refine fx_cond_f fr rfl ?_
  refine wp_skip ?_
  refine fx_blk ?_
  refine fx_next ?_
  refine wp_seq ?_
  refine wp_region_lit ?_  -- region 5
  refine fx_val (v := .pointer (some ⟨b, 0, none⟩)) fr rfl rfl (by first | decide | simp) (x_move rfl (fr.ev rfl)) ?_
  clear fr a; intro a fr
  refine fx_val (v := .int .u32 line) fr rfl rfl (by first | decide | simp) (x_move rfl (fr.ev rfl)) ?_
  clear fr a; intro a fr
  refine fx_call fr rfl rfl (by first | decide | simp) (x_call (vs := [.pointer (some ⟨b, 0, none⟩), .int .u32 line]) rfl rfl ⟨(fr.ev rfl), (fr.ev rfl), trivial⟩ Try.func31 nm31 rfl) (of_c hB hM line (by omega) hl) ?_
  clear fr a
  rintro v w14 ⟨Q10, qc11, rfl, OQ12, hA13, hN15⟩ a fr
  have ap_Q10_b : Apart Q10 b := new_apart hA13 hB.lt
  have ap_Q10_bi : Apart Q10 bi := new_apart hA13 hI.lt.1
  have ap_Q10_ig : Apart Q10 ig := new_apart hA13 hI.lt.2
  have ap2_FpE_Q10 : ∀ k, FpE k → inA Q10 k → False := symP (new_apart2P hA13 fun _ hg => hM.lt hg)
  have ap_Q10_b1 : Apart Q10 b1 := new_apart hA13 B4.lt
  have gA_Q10 := gA_new hF hA13
  have gN_Q10 := fun g (hg : inA Q10 g) => Nat.le_trans hF.size (hA13 g hg)
  replace hB := hB.new hN15
  replace hI := hI.new hN15
  replace hM := hM.new hN15
  replace B4 := B4.new hN15
  replace hF := hF.trNew hN15
  refine fx_storeS sz42 rfl rfl rfl (fr.ev rfl) (fr.ev rfl) (ent_all _ _ _ _) B4 rfl rfl fun w16 hO17 hBq => ?_
  replace hB := hB.only hO17 (by first | exact ne_b_b1 | exact ne_b1_b.symm | (show ¬ b = b1; omega))
  replace hI := hI.only hO17 (by first | exact ne_bi_b1 | exact ne_b1_bi.symm | (show ¬ bi = b1; omega)) (by first | exact ne_ig_b1 | exact ne_b1_ig.symm | (show ¬ ig = b1; omega))
  replace hM := hM.only hO17 (ne1P ap_FpE_b1)
  replace OQ12 := OQ12.only hO17 (Apart.ne1 ap_Q10_b1)
  replace hF := hF.loc hO17 (.inr g_b1)
  replace B4 := hBq
  clear hBq
  refine fx_val (v := .int .i64 0) fr rfl rfl (by first | decide | simp) (x_assign rfl rfl) ?_
  clear fr a; intro a fr
  refine wpList_nil ?_
  refine fx_next ?_
  refine wp_ret ?_
  refine fx_ret fr [.cell 4 42, .tmp 5] [.agg (entA (entOf E line.toNat) (.slice Q10 ((entOf E line.toNat).q.length) qc11)), .int .i64 0] rfl ⟨⟨_, rfl, x_loadV ag42 rfl B4.range⟩, rfl, trivial⟩ rfl ?_
  exact ⟨_, rfl, Q10, qc11, rfl, OQ12, gN_Q10, hF⟩
theorem icopy_nil (w : World) : Calls Try.prog 37 #[.pointer none] w (Ret fun v w' => v = .pointer none ∧ w' = w) := (copy_nil w).mono fun _ _ ⟨h1, h2⟩ => ⟨_, h1, rfl, h2.symm⟩
set_option maxRecDepth 100000 in
set_option maxHeartbeats 4000000 in
theorem memory_nil (w : World) : Calls Try.prog 24 #[.pointer none] w (Ret fun v w' => v = .pointer none ∧ New w w') := by
  have hF := Only.refl (fun _ => False) w
  refine fx_enter Try.func24 rfl (N := (10, [])) (T := [(0, .pointer none)]) rfl (show 1 ≤ 10 by decide) ⟨rfl, trivial⟩ fun a fr => ?_
  refine wp_seq ?_
  refine wp_region_lit ?_  -- region 0
  refine fx_val (v := .pointer none) fr rfl rfl (by first | decide | simp) (x_assign rfl rfl) ?_
  clear fr a; intro a fr
  refine wpList_nil ?_
  refine fx_next ?_
  refine wp_seq ?_
  refine wp_seq ?_
  refine wp_region_lit ?_  -- region 1
  refine fx_val (v := .pointer none) fr rfl rfl (by first | decide | simp) (x_move rfl (fr.ev rfl)) ?_
  clear fr a; intro a fr
  refine fx_call fr rfl rfl (by first | decide | simp) (x_call (vs := [.pointer none]) rfl rfl ⟨(fr.ev rfl), trivial⟩ Try.func27 nm27 rfl) (hnone_nil _) ?_
  clear fr a
  rintro v w9 ⟨rfl, hw9⟩ a fr
  obtain rfl := hw9.symm
  refine wpList_nil ?_
  refine fx_next ?_
  refine fx_cond_t fr rfl ?_
  refine wp_seq ?_
  refine wp_region_lit ?_  -- region 2
  refine fx_val (v := .pointer none) fr rfl rfl (by first | decide | simp) (x_assign rfl rfl) ?_
  clear fr a; intro a fr
  refine wpList_nil ?_
  refine fx_next ?_
  refine wp_ret ?_
  refine fx_rt ?_
  refine fx_ret fr [.tmp 2] [.pointer none] rfl ⟨rfl, trivial⟩ rfl ?_
  exact ⟨_, rfl, rfl, hF⟩
def home0 (bs : List UInt8) : HD := ⟨bs, List.replicate (bs.length / 16) ent0⟩
theorem ents_nil {w : World} {r : Nat} (h : MapBlk w r #[] 0) (n : Nat) : EntsAt w (fun g => g = r) r (List.replicate n ent0) [] 0 := by
  refine ⟨h, by simp, by simp, by simp, by simp, fun k _ => ?_, fun g => by simp, by simp⟩
  unfold entOf
  simp only [List.getD, List.getElem?_replicate]
  split <;> rfl
set_option maxRecDepth 100000 in
set_option maxHeartbeats 4000000 in
theorem hnew_nil (w : World) : Calls Try.prog 22 #[.pointer none] w (Ret fun v w' => v = .tuple #[.pointer none, .int .i64 1] ∧ New w w') := by
  have hF := Only.refl (fun _ => False) w
  refine fx_enter Try.func22 rfl (N := (13, [])) (T := [(0, .pointer none)]) rfl (show 1 ≤ 13 by decide) ⟨rfl, trivial⟩ fun a fr => ?_
  refine wp_seq ?_
  refine wp_region_lit ?_  -- region 0
  refine fx_val (v := .pointer none) fr rfl rfl (by first | decide | simp) (x_assign rfl rfl) ?_
  clear fr a; intro a fr
  refine fx_val (v := .int .i64 0) fr rfl rfl (by first | decide | simp) (x_assign rfl rfl) ?_
  clear fr a; intro a fr
  refine wpList_nil ?_
  refine fx_next ?_
  refine wp_seq ?_
  refine wp_region_lit ?_  -- region 1
  refine fx_val (v := .pointer none) fr rfl rfl (by first | decide | simp) (x_move rfl (fr.ev rfl)) ?_
  clear fr a; intro a fr
  refine fx_call fr rfl rfl (by first | decide | simp) (x_call (vs := [.pointer none]) rfl rfl ⟨(fr.ev rfl), trivial⟩ Try.func37 nm37 rfl) (icopy_nil _) ?_
  clear fr a
  rintro v w9 ⟨rfl, hw9⟩ a fr
  obtain rfl := hw9.symm
  refine fx_val (v := .pointer none) fr rfl rfl (by first | decide | simp) (x_assign rfl (fr.ev rfl)) ?_
  clear fr a; intro a fr
  refine wpList_nil ?_
  refine fx_next ?_
  refine wp_seq ?_
  refine wp_seq ?_
  refine wp_region_lit ?_  -- region 2
  refine fx_val (v := .pointer none) fr rfl rfl (by first | decide | simp) (x_move rfl (fr.ev rfl)) ?_
  clear fr a; intro a fr
  refine fx_val (v := .bool true) fr rfl rfl (by first | decide | simp) (x_peql Try.underlying61 rfl (fr.ev rfl) rfl rfl) ?_
  clear fr a; intro a fr
  refine wpList_nil ?_
  refine fx_next ?_
  refine fx_cond_t fr rfl ?_
  refine wp_seq ?_
  refine wp_region_lit ?_  -- region 3
  refine fx_val (v := .pointer none) fr rfl rfl (by first | decide | simp) (x_assign rfl rfl) ?_
  clear fr a; intro a fr
  refine fx_val (v := .int .i64 1) fr rfl rfl (by first | decide | simp) (x_assign rfl rfl) ?_
  clear fr a; intro a fr
  refine wpList_nil ?_
  refine fx_next ?_
  refine wp_ret ?_
  refine fx_rt ?_
  refine fx_ret fr [.tmp 2, .tmp 3] [.pointer none, .int .i64 1] rfl ⟨rfl, rfl, trivial⟩ rfl ?_
  exact ⟨_, rfl, rfl, hF⟩
set_option maxRecDepth 100000 in
set_option maxHeartbeats 4000000 in
theorem hnew_c {w : World} {bi ig cap : Nat} {bs : List UInt8} (hI : Img 0 w bi ig cap bs) : Calls Try.prog 22 #[.pointer (some ⟨bi, 0, none⟩)] w (Ret fun v w' => ∃ b Fp, v = .tuple #[.pointer (some ⟨b, 0, none⟩), .int .i64 0] ∧ HomeAt w' Fp b (home0 bs) ∧ (∀ g, Fp g → w.heap.size ≤ g) ∧ New w w') := by
  have hF := Only.refl (fun _ => False) w
  refine fx_enter Try.func22 rfl (N := (13, [])) (T := [(0, .pointer (some ⟨bi, 0, none⟩))]) rfl (show 1 ≤ 13 by decide) ⟨rfl, trivial⟩ fun a fr => ?_
  refine wp_seq ?_
  refine wp_region_lit ?_  -- region 0
  refine fx_val (v := .pointer none) fr rfl rfl (by first | decide | simp) (x_assign rfl rfl) ?_
  clear fr a; intro a fr
  refine fx_val (v := .int .i64 0) fr rfl rfl (by first | decide | simp) (x_assign rfl rfl) ?_
  clear fr a; intro a fr
  refine wpList_nil ?_
  refine fx_next ?_
  refine wp_seq ?_
  refine wp_region_lit ?_  -- region 1
  refine fx_val (v := .pointer (some ⟨bi, 0, none⟩)) fr rfl rfl (by first | decide | simp) (x_move rfl (fr.ev rfl)) ?_
  clear fr a; intro a fr
  refine fx_call fr rfl rfl (by first | decide | simp) (x_call (vs := [.pointer (some ⟨bi, 0, none⟩)]) rfl rfl ⟨(fr.ev rfl), trivial⟩ Try.func37 nm37 rfl) (hicopy_c hI) ?_
  clear fr a
  rintro v w8 ⟨bi1, ig2, cap3, rfl, hI4, hb5, hg6, hne7, hN9⟩ a fr
  have ne_bi_bi1 : NE bi bi1 := NE.mk (Nat.lt_of_lt_of_le hI.lt.1 hb5)
  have ne_ig_bi1 : NE ig bi1 := NE.mk (Nat.lt_of_lt_of_le hI.lt.2 hb5)
  have g_bi1 := Nat.le_trans hF.size hb5
  have ne_bi_ig2 : NE bi ig2 := NE.mk (Nat.lt_of_lt_of_le hI.lt.1 hg6)
  have ne_ig_ig2 : NE ig ig2 := NE.mk (Nat.lt_of_lt_of_le hI.lt.2 hg6)
  have g_ig2 := Nat.le_trans hF.size hg6
  replace hI := hI.new hN9
  replace hF := hF.trNew hN9
  have ne_bi1_ig2 := hne7
  refine fx_val (v := .pointer (some ⟨bi1, 0, none⟩)) fr rfl rfl (by first | decide | simp) (x_assign rfl (fr.ev rfl)) ?_
  clear fr a; intro a fr
  refine wpList_nil ?_
  refine fx_next ?_
  refine wp_seq ?_
  refine wp_seq ?_
  refine wp_region_lit ?_  -- region 2
  refine fx_val (v := .pointer (some ⟨bi1, 0, none⟩)) fr rfl rfl (by first | decide | simp) (x_move rfl (fr.ev rfl)) ?_
  clear fr a; intro a fr
  refine fx_val (v := .bool false) fr rfl rfl (by first | decide | simp) (x_peql Try.underlying61 rfl (fr.ev rfl) rfl rfl) ?_
  clear fr a; intro a fr
  refine wpList_nil ?_
  refine fx_next ?_
  refine fx_cond_f fr rfl ?_
  refine wp_skip ?_
  refine fx_next ?_
  refine wp_seq ?_
  refine wp_region_lit ?_  -- region 4
  refine fx_val (v := .pointer (some ⟨bi1, 0, none⟩)) fr rfl rfl (by first | decide | simp) (x_move rfl (fr.ev rfl)) ?_
  clear fr a; intro a fr
  refine fx_makeMap fr rfl rfl rfl (by first | decide | simp) ?_
  clear fr a
  intro r10 w11 hN12 M13 hb14 a fr
  have ne_bi_r10 : NE bi r10 := NE.mk (Nat.lt_of_lt_of_le hI.lt.1 hb14)
  have ne_ig_r10 : NE ig r10 := NE.mk (Nat.lt_of_lt_of_le hI.lt.2 hb14)
  have ne_bi1_r10 : NE bi1 r10 := NE.mk (Nat.lt_of_lt_of_le hI4.lt.1 hb14)
  have ne_ig2_r10 : NE ig2 r10 := NE.mk (Nat.lt_of_lt_of_le hI4.lt.2 hb14)
  have g_r10 := Nat.le_trans hF.size hb14
  replace hI := hI.new hN12
  replace hI4 := hI4.new hN12
  replace hF := hF.trNew hN12
  refine fx_val (v := .agg (#[.pointer (some ⟨bi1, 0, none⟩), .map (some r10)])) fr rfl rfl (by first | decide | simp) (x_build (cells := #[.pointer (some ⟨bi1, 0, none⟩), .map (some r10)]) rfl (by simp only [List.map_toArray, List.map_cons, List.map_nil, show a.eval (.tmp 9) = .pointer (some ⟨bi1, 0, none⟩) from fr.ev rfl, show a.eval (.tmp 10) = .map (some r10) from fr.ev rfl]; kernel_rfl)) ?_
  clear fr a; intro a fr
  refine fx_new fr rfl rfl (by first | decide | simp) (x_box (cs := #[.pointer (some ⟨bi1, 0, none⟩), .map (some r10)]) rfl (fr.ev rfl) rfl) ?_
  clear fr a
  intro b15 w16 hN17 B18 hb19 a fr
  have ne_bi_b15 : NE bi b15 := NE.mk (Nat.lt_of_lt_of_le hI.lt.1 hb19)
  have ne_ig_b15 : NE ig b15 := NE.mk (Nat.lt_of_lt_of_le hI.lt.2 hb19)
  have ne_bi1_b15 : NE bi1 b15 := NE.mk (Nat.lt_of_lt_of_le hI4.lt.1 hb19)
  have ne_ig2_b15 : NE ig2 b15 := NE.mk (Nat.lt_of_lt_of_le hI4.lt.2 hb19)
  have ne_r10_b15 : NE r10 b15 := NE.mk (Nat.lt_of_lt_of_le M13.lt hb19)
  have g_b15 := Nat.le_trans hF.size hb19
  replace hI := hI.new hN17
  replace hI4 := hI4.new hN17
  replace M13 := M13.new hN17
  replace hF := hF.trNew hN17
  refine fx_val (v := .pointer (some ⟨b15, 0, none⟩)) fr rfl rfl (by first | decide | simp) (x_assign rfl (fr.ev rfl)) ?_
  clear fr a; intro a fr
  refine fx_val (v := .int .i64 0) fr rfl rfl (by first | decide | simp) (x_assign rfl rfl) ?_
  clear fr a; intro a fr
  refine wpList_nil ?_
  refine fx_next ?_
  refine wp_ret ?_
  refine fx_ret fr [.tmp 2, .tmp 3] [.pointer (some ⟨b15, 0, none⟩), .int .i64 0] rfl ⟨rfl, rfl, trivial⟩ rfl ?_
  exact ⟨_, rfl, b15, fun k => k = b15 ∨ k = bi1 ∨ k = ig2 ∨ k = r10, rfl, ⟨bi1, ig2, cap3, r10, fun k => k = r10, [], 0, B18, hI4, ents_nil M13 _, ⟨(by first | exact ne_b15_bi1 | exact ne_bi1_b15.symm), (by first | exact ne_b15_ig2 | exact ne_ig2_b15.symm), (by first | exact ne_b15_r10 | exact ne_r10_b15.symm), (by first | exact ne_bi1_r10 | exact ne_r10_bi1.symm), (by first | exact ne_ig2_r10 | exact ne_r10_ig2.symm), fun _ => Iff.rfl⟩, by simp [home0]⟩, fun k hk => hk.elim (fun e => by rw [e]; exact g_b15) fun hk => hk.elim (fun e => by rw [e]; exact g_bi1) fun hk => hk.elim (fun e => by rw [e]; exact g_ig2) fun e => by rw [e]; exact g_r10, hF⟩
end Go.Proofs.Ytdiaemlgghfecaa
namespace Go.Proofs.Ytdiaemlgghfecaa
open Go.RowKit
set_option maxRecDepth 100000 in
set_option maxHeartbeats 4000000 in
theorem idle_nil (w : World) : Calls Try.prog 17 #[.pointer none] w (Ret fun v w' => v = .bool false ∧ New w w') := by
  have hF := Only.refl (fun _ => False) w
  refine fx_enterM Try.func17 rfl (N := (16, [])) (T := [(0, .pointer none)]) rfl (show 1 ≤ 16 by decide) ⟨rfl, trivial⟩ fun a fr => ?_
  refine wp_seq ?_
  refine wp_region_lit ?_  -- region 0
  refine fx_new fr rfl rfl (by first | decide | simp) (x_alloc (z := .bool false) (cs := #[.bool false]) rfl (by kernel_rfl) rfl) ?_
  clear fr a
  intro b1 w2 hN3 B4 hb5 a fr
  have g_b1 := Nat.le_trans hF.size hb5
  replace hF := hF.trNew hN3
  refine wpList_nil ?_
  refine fx_next ?_
  refine wp_seq ?_
  refine wp_seq ?_
  refine wp_region_lit ?_  -- region 1
  refine fx_val (v := .pointer none) fr rfl rfl (by first | decide | simp) (x_move rfl (fr.ev rfl)) ?_
  clear fr a; intro a fr
  refine fx_call fr rfl rfl (by first | decide | simp) (x_call (vs := [.pointer none]) rfl rfl ⟨(fr.ev rfl), trivial⟩ Try.func27 nm27 rfl) (hnone_nil _) ?_
  clear fr a
  rintro v w9 ⟨rfl, hw9⟩ a fr
  obtain rfl := hw9.symm
  refine wpList_nil ?_
  refine fx_next ?_
  refine fx_cond_t fr rfl ?_
  refine wp_seq ?_
  refine wp_region_lit ?_  -- region 2
  refine fx_store1 sz4 rfl rfl rfl (fr.ev rfl) rfl rfl B4 (show 0 < 1 by decide) (cs' := #[.bool false]) rfl fun w8 hO9 hBq => ?_
  replace hF := hF.loc hO9 (.inr g_b1)
  replace B4 := hBq
  clear hBq
  refine wpList_nil ?_
  refine fx_next ?_
  refine wp_ret ?_
  refine fx_rt ?_
  refine fx_retM0 fr [.cell 2 4] [.bool false] rfl ⟨⟨_, rfl, x_loadV1 pl4 (B4.cell 0 rfl)⟩, trivial⟩ rfl ?_
  exact ⟨_, rfl, rfl, hF⟩
end Go.Proofs.Ytdiaemlgghfecaa
namespace Go.Proofs.Ytdiaemlgghfecaa
open Go.RowKit
set_option maxRecDepth 100000 in
set_option maxHeartbeats 4000000 in
theorem hcopy_nil (w : World) : Calls Try.prog 18 #[.pointer none] w (Ret fun v w' => v = .pointer none ∧ New w w') := by
  have hF := Only.refl (fun _ => False) w
  refine fx_enter Try.func18 rfl (N := (37, [])) (T := [(0, .pointer none)]) rfl (show 1 ≤ 37 by decide) ⟨rfl, trivial⟩ fun a fr => ?_
  refine wp_seq ?_
  refine wp_region_lit ?_  -- region 0
  refine fx_val (v := .pointer none) fr rfl rfl (by first | decide | simp) (x_assign rfl rfl) ?_
  clear fr a; intro a fr
  refine wpList_nil ?_
  refine fx_next ?_
  refine wp_seq ?_
  refine wp_seq ?_
  refine wp_region_lit ?_  -- region 1
  refine fx_val (v := .pointer none) fr rfl rfl (by first | decide | simp) (x_move rfl (fr.ev rfl)) ?_
  clear fr a; intro a fr
  refine fx_call fr rfl rfl (by first | decide | simp) (x_call (vs := [.pointer none]) rfl rfl ⟨(fr.ev rfl), trivial⟩ Try.func27 nm27 rfl) (hnone_nil _) ?_
  clear fr a
  rintro v w9 ⟨rfl, hw9⟩ a fr
  obtain rfl := hw9.symm
  refine wpList_nil ?_
  refine fx_next ?_
  refine fx_cond_t fr rfl ?_
  refine wp_seq ?_
  refine wp_region_lit ?_  -- region 2
  refine fx_val (v := .pointer none) fr rfl rfl (by first | decide | simp) (x_assign rfl rfl) ?_
  clear fr a; intro a fr
  refine wpList_nil ?_
  refine fx_next ?_
  refine wp_ret ?_
  refine fx_rt ?_
  refine fx_ret fr [.tmp 2] [.pointer none] rfl ⟨rfl, trivial⟩ rfl ?_
  exact ⟨_, rfl, rfl, hF⟩
end Go.Proofs.Ytdiaemlgghfecaa
namespace Go.Proofs.Ytdiaemlgghfecaa
open Go.RowKit
theorem lines_h {w : World} {Fp : Nat → Prop} {b : Nat} {h : HD} (H : HomeAt w Fp b h) : Calls Try.prog 10 #[.pointer (some ⟨b, 0, none⟩)] w (Ret fun v w' => v = .int .i64 ((h.E.length : Nat) : Int) ∧ w' = w) := by
  obtain ⟨bi, ig, cap, r, F, L, c, hB, hI, hM, hP, hEn⟩ := H
  rw [hEn]
  exact lines_r hB hI
theorem entry_h {w : World} {Fp : Nat → Prop} {b : Nat} {h : HD} (H : HomeAt w Fp b h) (line : Int) (hln : 0 ≤ line ∧ line < 4294967296) (hr : line < h.E.length) (hq : (entOf h.E line.toNat).q.length ≤ 1000000) : Calls Try.prog 13 #[.pointer (some ⟨b, 0, none⟩), .int .u32 line] w (Ret fun v w' => ∃ Q' qc', v = .tuple #[.agg (entA (entOf h.E line.toNat) (.slice Q' (entOf h.E line.toNat).q.length qc')), .int .i64 0] ∧ Own msgE w' Q' qc' (entOf h.E line.toNat).q ∧ (∀ g, inA Q' g → w.heap.size ≤ g) ∧ New w w') := by
  obtain ⟨bi, ig, cap, r, F, L, c, hB, hI, hM, hP, hEn⟩ := H
  exact entry_ok hB hI line hln hM (by rw [← hEn]; omega) hq
theorem entry_hno {w : World} {Fp : Nat → Prop} {b : Nat} {h : HD} (H : HomeAt w Fp b h) (line : Int) (hln : 0 ≤ line ∧ line < 4294967296) (hr : h.E.length ≤ line) : Calls Try.prog 13 #[.pointer (some ⟨b, 0, none⟩), .int .u32 line] w (Ret fun v w' => v = .tuple #[.agg (entA entz (.slice none 0 0)), .int .i64 4] ∧ New w w') := by
  obtain ⟨bi, ig, cap, r, F, L, c, hB, hI, hM, hP, hEn⟩ := H
  exact entry_no hB hI line hln (by rw [← hEn]; omega)
theorem entOf_rep (n k : Nat) : entOf (List.replicate n ent0) k = ent0 := by
  unfold entOf
  simp only [List.getD, List.getElem?_replicate]
  split <;> rfl
theorem ent0_ok (n : Int) : EOk n ent0 := ⟨by decide, (by intro h; cases h), by decide, (by intro m hm; cases hm), by decide, (by intro h; cases h)⟩
theorem home0_ok (bs : List UInt8) : HOk (home0 bs) := fun n _ => by
  rw [show entOf (home0 bs).E n = ent0 from entOf_rep _ _]
  exact ⟨ent0_ok _, Nat.zero_le _⟩
theorem imgnew_c (n : Nat) (w : World) (hn : okSize n = true) : Calls Try.prog 23 #[.int .i64 ((n : Nat) : Int)] w (Ret fun v w' => ∃ b g c, v = .tuple #[.pointer (some ⟨b, 0, none⟩), .int .i64 0] ∧ Img 0 w' b g c (List.replicate n 0) ∧ w.heap.size ≤ b ∧ w.heap.size ≤ g ∧ NE b g ∧ New w w') :=
  (new_yes n w hn).mono fun _ _ ⟨b, g, c, h1, h2, h3⟩ => ⟨_, h1, b, g, c, rfl, h2.mono (Nat.zero_le _), h2.hb, h2.hg, h2.ne, h3⟩
theorem known_take : (takeH (home0 (List.replicate 32 0)) (mkM 1 2 4 1 b16z (by decide))).2.1 = [sendM (mkM 1 2 4 1 b16z (by decide)) 9 2 (lineB (List.replicate 32 0) 1)] ∧ (takeH (home0 (List.replicate 32 0)) (mkM 1 2 4 1 b16z (by decide))).2.2 = 0 ∧ (takeH (home0 (List.replicate 32 0)) (mkM 1 2 4 1 b16z (by decide))).1.E.length = 2 := by
  refine ⟨?_, ?_, ?_⟩ <;> decide
set_option maxRecDepth 100000 in
set_option maxHeartbeats 4000000 in
theorem known_c (w : World) : Calls Try.prog 11 #[] w (Ret fun v w' => v = .bool true ∧ New w w') := by
  have hF := Only.refl (fun _ => False) w
  refine fx_enter Try.func11 rfl (N := (52, [])) (T := []) rfl (show 0 ≤ 52 by decide) trivial fun a fr => ?_
  refine wp_seq ?_
  refine wp_region_lit ?_  -- region 0
  refine fx_val (v := .bool false) fr rfl rfl (by first | decide | simp) (x_assign rfl rfl) ?_
  clear fr a; intro a fr
  refine wpList_nil ?_
  refine fx_next ?_
  refine wp_seq ?_
  refine wp_region_lit ?_  -- region 1
  refine fx_call fr rfl rfl (by first | decide | simp) (x_call (vs := [.int .i64 32]) rfl rfl ⟨rfl, trivial⟩ Try.func23 nm23 rfl) (imgnew_c 32 _ (by decide)) ?_
  clear fr a
  rintro v w8 ⟨bi1, ig2, cap3, rfl, hI4, hb5, hg6, hne7, hN9⟩ a fr
  have g_bi1 := Nat.le_trans hF.size hb5
  have g_ig2 := Nat.le_trans hF.size hg6
  replace hF := hF.trNew hN9
  have ne_bi1_ig2 := hne7
  refine fx_val (v := .tuple #[.pointer (some ⟨bi1, 0, none⟩), .int .i64 0]) fr rfl rfl (by first | decide | simp) (x_move rfl (fr.ev rfl)) ?_
  clear fr a; intro a fr
  refine fx_val (v := .pointer (some ⟨bi1, 0, none⟩)) fr rfl rfl (by first | decide | simp) (x_extract rfl (fr.ev rfl) rfl) ?_
  clear fr a; intro a fr
  refine fx_val (v := .int .i64 0) fr rfl rfl (by first | decide | simp) (x_extract rfl (fr.ev rfl) rfl) ?_
  clear fr a; intro a fr
  refine fx_val (v := .pointer (some ⟨bi1, 0, none⟩)) fr rfl rfl (by first | decide | simp) (x_assign rfl (fr.ev rfl)) ?_
  clear fr a; intro a fr
  refine fx_val (v := .int .i64 0) fr rfl rfl (by first | decide | simp) (x_assign rfl (fr.ev rfl)) ?_
  clear fr a; intro a fr
  refine wpList_nil ?_
  refine fx_next ?_
  refine wp_seq ?_
  refine wp_region_lit ?_  -- region 2
  refine fx_val (v := .pointer (some ⟨bi1, 0, none⟩)) fr rfl rfl (by first | decide | simp) (x_move rfl (fr.ev rfl)) ?_
  clear fr a; intro a fr
  refine fx_call fr rfl rfl (by first | decide | simp) (x_call (vs := [.pointer (some ⟨bi1, 0, none⟩)]) rfl rfl ⟨(fr.ev rfl), trivial⟩ Try.func22 nm22 rfl) (hnew_c hI4) ?_
  clear fr a
  rintro v w14 ⟨hb10, Fp11, rfl, H12, hf13, hN15⟩ a fr
  have ap_Fp11_bi1 : ¬ Fp11 bi1 := new_apartP hf13 hI4.lt.1
  have ap_Fp11_ig2 : ¬ Fp11 ig2 := new_apartP hf13 hI4.lt.2
  have gA_Fp11 := gA_newP hF hf13
  have gN_Fp11 := fun g (hg : Fp11 g) => Nat.le_trans hF.size (hf13 g hg)
  replace hI4 := hI4.new hN15
  replace hF := hF.trNew hN15
  refine fx_val (v := .tuple #[.pointer (some ⟨hb10, 0, none⟩), .int .i64 0]) fr rfl rfl (by first | decide | simp) (x_move rfl (fr.ev rfl)) ?_
  clear fr a; intro a fr
  refine fx_val (v := .pointer (some ⟨hb10, 0, none⟩)) fr rfl rfl (by first | decide | simp) (x_extract rfl (fr.ev rfl) rfl) ?_
  clear fr a; intro a fr
  refine fx_val (v := .int .i64 0) fr rfl rfl (by first | decide | simp) (x_extract rfl (fr.ev rfl) rfl) ?_
  clear fr a; intro a fr
  refine fx_val (v := .pointer (some ⟨hb10, 0, none⟩)) fr rfl rfl (by first | decide | simp) (x_assign rfl (fr.ev rfl)) ?_
  clear fr a; intro a fr
  refine fx_val (v := .int .i64 0) fr rfl rfl (by first | decide | simp) (x_assign rfl (fr.ev rfl)) ?_
  clear fr a; intro a fr
  refine wpList_nil ?_
  refine fx_next ?_
  refine wp_seq ?_
  refine wp_region_lit ?_  -- region 3
  refine fx_val (v := .pointer (some ⟨hb10, 0, none⟩)) fr rfl rfl (by first | decide | simp) (x_move rfl (fr.ev rfl)) ?_
  clear fr a; intro a fr
  refine fx_val (v := .agg (msgE.arr (mkM 1 2 4 1 b16z (by decide)))) fr rfl rfl (by first | decide | simp) (x_build (cells := msgE.arr (mkM 1 2 4 1 b16z (by decide))) rfl (by kernel_rfl)) ?_
  clear fr a; intro a fr
  refine fx_call fr rfl rfl (by first | decide | simp) (x_call (vs := [.pointer (some ⟨hb10, 0, none⟩), .agg (msgE.arr (mkM 1 2 4 1 b16z (by decide)))]) rfl rfl ⟨(fr.ev rfl), (fr.ev rfl), trivial⟩ Try.func12 nm12 rfl) (take_c H12 (mkM 1 2 4 1 b16z (by decide)) (home0_ok _)) ?_
  clear fr a
  rintro v w24 ⟨A16, ac17, Fp18, rfl, O19, hA20, H21, hs22, hi23, hN25⟩ a fr
  clear H12
  have ap_Fp18_bi1 : ¬ Fp18 bi1 := moved_apartP hi23 ap_Fp11_bi1 hI4.lt.1
  have ap_A16_bi1 : Apart A16 bi1 := new_apart hA20 hI4.lt.1
  have ap_Fp18_ig2 : ¬ Fp18 ig2 := moved_apartP hi23 ap_Fp11_ig2 hI4.lt.2
  have ap_A16_ig2 : Apart A16 ig2 := new_apart hA20 hI4.lt.2
  have ap2_Fp18_A16 : ∀ k, Fp18 k → inA A16 k → False := hs22
  have gA_Fp18 := gA_movedP hF hi23 gA_Fp11
  have gA_A16 := gA_new hF hA20
  replace hI4 := hI4.only hN25 ap_Fp11_bi1 ap_Fp11_ig2
  replace hF := hF.locP hN25 gA_Fp11
  obtain ⟨hk1, hk2, hk3⟩ := known_take
  rw [hk1] at O19
  rw [hk1, hk2] at fr
  refine fx_val (v := .tuple #[.slice A16 1 ac17, .int .i64 0]) fr rfl rfl (by first | decide | simp) (x_move rfl (fr.ev rfl)) ?_
  clear fr a; intro a fr
  refine fx_val (v := .slice A16 1 ac17) fr rfl rfl (by first | decide | simp) (x_extract rfl (fr.ev rfl) rfl) ?_
  clear fr a; intro a fr
  refine fx_val (v := .int .i64 0) fr rfl rfl (by first | decide | simp) (x_extract rfl (fr.ev rfl) rfl) ?_
  clear fr a; intro a fr
  refine fx_val (v := .slice A16 1 ac17) fr rfl rfl (by first | decide | simp) (x_assign rfl (fr.ev rfl)) ?_
  clear fr a; intro a fr
  refine fx_val (v := .int .i64 0) fr rfl rfl (by first | decide | simp) (x_assign rfl (fr.ev rfl)) ?_
  clear fr a; intro a fr
  refine wpList_nil ?_
  refine fx_next ?_
  refine wp_seq ?_
  refine wp_region_lit ?_  -- region 4
  refine fx_val (v := .int .i64 0) fr rfl rfl (by first | decide | simp) (x_move rfl (fr.ev rfl)) ?_
  clear fr a; intro a fr
  refine fx_val (v := .bool true) fr rfl rfl (by first | decide | simp) (x_eql rfl (fr.ev rfl) rfl rfl) ?_
  clear fr a; intro a fr
  refine fx_val (v := .bool true) fr rfl rfl (by first | decide | simp) (x_move rfl (fr.ev rfl)) ?_
  clear fr a; intro a fr
  refine fx_val (v := .int .i64 0) fr (fr.want rfl rfl rfl) rfl (by first | decide | simp) (x_move rfl (fr.ev rfl)) ?_
  clear fr a; intro a fr
  refine fx_val (v := .bool true) fr (fr.want rfl rfl rfl) rfl (by first | decide | simp) (x_eql rfl (fr.ev rfl) rfl rfl) ?_
  clear fr a; intro a fr
  refine fx_val (v := .bool true) fr rfl rfl (by first | decide | simp) (x_pick_t rfl (fr.ev rfl) (fr.ev rfl)) ?_
  clear fr a; intro a fr
  refine fx_val (v := .bool true) fr rfl rfl (by first | decide | simp) (x_move rfl (fr.ev rfl)) ?_
  clear fr a; intro a fr
  refine fx_val (v := .slice A16 1 ac17) fr (fr.want rfl rfl rfl) rfl (by first | decide | simp) (x_move rfl (fr.ev rfl)) ?_
  clear fr a; intro a fr
  refine fx_val (v := .int .i64 ((1 : Nat) : Int)) fr (fr.want rfl rfl rfl) rfl (by first | decide | simp) (x_len Try.underlying23 rfl (fr.ev rfl)) ?_
  clear fr a; intro a fr
  refine fx_val (v := .bool true) fr (fr.want rfl rfl rfl) rfl (by first | decide | simp) (x_eql rfl (fr.ev rfl) rfl rfl) ?_
  clear fr a; intro a fr
  refine fx_val (v := .bool true) fr rfl rfl (by first | decide | simp) (x_pick_t rfl (fr.ev rfl) (fr.ev rfl)) ?_
  clear fr a; intro a fr
  refine fx_val (v := .bool true) fr rfl rfl (by first | decide | simp) (x_move rfl (fr.ev rfl)) ?_
  clear fr a; intro a fr
  refine fx_val (v := .slice A16 1 ac17) fr (fr.want rfl rfl rfl) rfl (by first | decide | simp) (x_move rfl (fr.ev rfl)) ?_
  clear fr a; intro a fr
  obtain ⟨g26, o27, hA28⟩ := (O19.view).some_ (by first | omega | decide)
  refine fx_val (v := .pointer (some ⟨g26, o27 + 0 * 20, none⟩)) fr (fr.want rfl rfl rfl) rfl (by first | decide | simp) (x_indexV Try.underlying23 sz36 rfl (fr.ev rfl) hA28 rfl (by decide) rfl) ?_
  clear fr a; intro a fr
  refine fx_val (v := .pointer (some ⟨g26, o27 + 0 * 20, none⟩)) fr (fr.want rfl rfl rfl) rfl (by first | decide | simp) (x_fieldAddr fo36_0 rfl (fr.ev rfl) rfl) ?_
  clear fr a; intro a fr
  refine fx_val (v := .int .i64 9) fr (fr.want rfl rfl rfl) rfl (by first | decide | simp) (x_load1 pl33 rfl (fr.ev rfl) (range_cell ((O19.view).elem hA28 0 msg0 (by first | omega | decide)) 0 rfl rfl)) ?_
  clear fr a; intro a fr
  refine fx_val (v := .bool true) fr (fr.want rfl rfl rfl) rfl (by first | decide | simp) (x_eql rfl (fr.ev rfl) rfl rfl) ?_
  clear fr a; intro a fr
  refine fx_val (v := .bool true) fr rfl rfl (by first | decide | simp) (x_pick_t rfl (fr.ev rfl) (fr.ev rfl)) ?_
  clear fr a; intro a fr
  refine fx_val (v := .bool true) fr rfl rfl (by first | decide | simp) (x_move rfl (fr.ev rfl)) ?_
  clear fr a; intro a fr
  refine fx_val (v := .slice A16 1 ac17) fr (fr.want rfl rfl rfl) rfl (by first | decide | simp) (x_move rfl (fr.ev rfl)) ?_
  clear fr a; intro a fr
  refine fx_val (v := .pointer (some ⟨g26, o27 + 0 * 20, none⟩)) fr (fr.want rfl rfl rfl) rfl (by first | decide | simp) (x_indexV Try.underlying23 sz36 rfl (fr.ev rfl) hA28 rfl (by decide) rfl) ?_
  clear fr a; intro a fr
  refine fx_val (v := .pointer (some ⟨g26, o27 + 0 * 20 + 2, none⟩)) fr (fr.want rfl rfl rfl) rfl (by first | decide | simp) (x_fieldAddr fo36_2 rfl (fr.ev rfl) rfl) ?_
  clear fr a; intro a fr
  refine fx_val (v := .int .i64 2) fr (fr.want rfl rfl rfl) rfl (by first | decide | simp) (x_load1 pl3 rfl (fr.ev rfl) (range_cell ((O19.view).elem hA28 0 msg0 (by first | omega | decide)) 2 rfl rfl)) ?_
  clear fr a; intro a fr
  refine fx_val (v := .bool true) fr (fr.want rfl rfl rfl) rfl (by first | decide | simp) (x_eql rfl (fr.ev rfl) rfl rfl) ?_
  clear fr a; intro a fr
  refine fx_val (v := .bool true) fr rfl rfl (by first | decide | simp) (x_pick_t rfl (fr.ev rfl) (fr.ev rfl)) ?_
  clear fr a; intro a fr
  refine fx_val (v := .bool true) fr rfl rfl (by first | decide | simp) (x_move rfl (fr.ev rfl)) ?_
  clear fr a; intro a fr
  refine fx_val (v := .pointer (some ⟨hb10, 0, none⟩)) fr (fr.want rfl rfl rfl) rfl (by first | decide | simp) (x_move rfl (fr.ev rfl)) ?_
  clear fr a; intro a fr
  refine fx_call fr (fr.want rfl rfl rfl) rfl (by first | decide | simp) (x_call (vs := [.pointer (some ⟨hb10, 0, none⟩)]) rfl rfl ⟨(fr.ev rfl), trivial⟩ Try.func10 nm10 rfl) (lines_h H21) ?_
  clear fr a
  rintro v w9 ⟨rfl, hw9⟩ a fr
  obtain rfl := hw9.symm
  refine fx_val (v := .bool true) fr (fr.want rfl rfl rfl) rfl (by first | decide | simp) (x_eql rfl (fr.ev rfl) rfl (decide_eq_true (by rw [hk3]; rfl))) ?_
  clear fr a; intro a fr
  refine fx_val (v := .bool true) fr rfl rfl (by first | decide | simp) (x_pick_t rfl (fr.ev rfl) (fr.ev rfl)) ?_
  clear fr a; intro a fr
  refine fx_val (v := .bool true) fr rfl rfl (by first | decide | simp) (x_assign rfl (fr.ev rfl)) ?_
  clear fr a; intro a fr
  refine wpList_nil ?_
  refine fx_next ?_
  refine wp_ret ?_
  refine fx_ret fr [.tmp 0] [.bool true] rfl ⟨rfl, trivial⟩ rfl ?_
  exact ⟨_, rfl, rfl, hF⟩
end Go.Proofs.Ytdiaemlgghfecaa
namespace Go.Proofs.Ytdiaemlgghfecaa
open Go.RowKit
set_option maxRecDepth 100000 in
set_option maxHeartbeats 4000000 in
theorem homenil_0 (m : Msg) (line : Int) (hln : 0 ≤ line ∧ line < 4294967296) (hl : line = 0) (w : World) : Calls Try.prog 8 #[.agg (msgE.arr m), .int .u32 line] w (Ret fun v w' => v = .bool true ∧ New w w') := by
  have hF := Only.refl (fun _ => False) w
  refine fx_enter Try.func8 rfl (N := (118, [])) (T := [(0, .agg (msgE.arr m)), (1, .int .u32 line)]) rfl (show 2 ≤ 118 by decide) ⟨rfl, rfl, trivial⟩ fun a fr => ?_
  refine wp_seq ?_
  refine wp_region_lit ?_  -- region 0
  refine fx_new fr rfl rfl (by first | decide | simp) (x_box (cs := msgE.arr m) rfl (fr.ev rfl) rfl) ?_
  clear fr a
  intro b1 w2 hN3 B4 hb5 a fr
  have g_b1 := Nat.le_trans hF.size hb5
  replace hF := hF.trNew hN3
  refine fx_val (v := .bool false) fr rfl rfl (by first | decide | simp) (x_assign rfl rfl) ?_
  clear fr a; intro a fr
  refine wpList_nil ?_
  refine fx_next ?_
  refine wp_seq ?_
  refine wp_region_lit ?_  -- region 1
  refine fx_val (v := .pointer none) fr rfl rfl (by first | decide | simp) (x_assign rfl rfl) ?_
  clear fr a; intro a fr
  refine wpList_nil ?_
  refine fx_next ?_
  refine wp_seq ?_
  refine wp_region_lit ?_  -- region 2
  refine fx_val (v := .agg (#[.pointer none, .map none])) fr rfl rfl (by first | decide | simp) (x_build (cells := #[.pointer none, .map none]) rfl (by kernel_rfl)) ?_
  clear fr a; intro a fr
  refine fx_new fr rfl rfl (by first | decide | simp) (x_box (cs := #[.pointer none, .map none]) rfl (fr.ev rfl) rfl) ?_
  clear fr a
  intro b6 w7 hN8 B9 hb10 a fr
  have ne_b1_b6 : NE b1 b6 := NE.mk (Nat.lt_of_lt_of_le B4.lt hb10)
  have g_b6 := Nat.le_trans hF.size hb10
  replace B4 := B4.new hN8
  replace hF := hF.trNew hN8
  refine fx_val (v := .pointer (some ⟨b6, 0, none⟩)) fr rfl rfl (by first | decide | simp) (x_assign rfl (fr.ev rfl)) ?_
  clear fr a; intro a fr
  refine wpList_nil ?_
  refine fx_next ?_
  refine wp_seq ?_
  refine wp_region_lit ?_  -- region 3
  refine fx_val (v := .pointer none) fr rfl rfl (by first | decide | simp) (x_move rfl (fr.ev rfl)) ?_
  clear fr a; intro a fr
  refine fx_val (v := .agg (msgE.arr m)) fr rfl rfl (by first | decide | simp) (x_loadE (E := msgE) ag36 rfl rfl (fr.ev rfl) (B4.rangeE msgE)) ?_
  clear fr a; intro a fr
  refine fx_call fr rfl rfl (by first | decide | simp) (x_call (vs := [.pointer none, .agg (msgE.arr m)]) rfl rfl ⟨(fr.ev rfl), (fr.ev rfl), trivial⟩ Try.func12 nm12 rfl) (take_nil m _) ?_
  clear fr a
  rintro v w11 ⟨rfl, hN12⟩ a fr
  replace B4 := B4.new hN12
  replace B9 := B9.new hN12
  replace hF := hF.trNew hN12
  refine fx_val (v := .tuple #[.slice none 0 0, .int .i64 1]) fr rfl rfl (by first | decide | simp) (x_move rfl (fr.ev rfl)) ?_
  clear fr a; intro a fr
  refine fx_val (v := .slice none 0 0) fr rfl rfl (by first | decide | simp) (x_extract rfl (fr.ev rfl) rfl) ?_
  clear fr a; intro a fr
  refine fx_val (v := .int .i64 1) fr rfl rfl (by first | decide | simp) (x_extract rfl (fr.ev rfl) rfl) ?_
  clear fr a; intro a fr
  refine fx_val (v := .slice none 0 0) fr rfl rfl (by first | decide | simp) (x_assign rfl (fr.ev rfl)) ?_
  clear fr a; intro a fr
  refine fx_val (v := .int .i64 1) fr rfl rfl (by first | decide | simp) (x_assign rfl (fr.ev rfl)) ?_
  clear fr a; intro a fr
  refine wpList_nil ?_
  refine fx_next ?_
  refine wp_seq ?_
  refine wp_region_lit ?_  -- region 4
  refine fx_val (v := .pointer (some ⟨b6, 0, none⟩)) fr rfl rfl (by first | decide | simp) (x_move rfl (fr.ev rfl)) ?_
  clear fr a; intro a fr
  refine fx_val (v := .agg (msgE.arr m)) fr rfl rfl (by first | decide | simp) (x_loadE (E := msgE) ag36 rfl rfl (fr.ev rfl) (B4.rangeE msgE)) ?_
  clear fr a; intro a fr
  refine fx_call fr rfl rfl (by first | decide | simp) (x_call (vs := [.pointer (some ⟨b6, 0, none⟩), .agg (msgE.arr m)]) rfl rfl ⟨(fr.ev rfl), (fr.ev rfl), trivial⟩ Try.func12 nm12 rfl) (take_z B9 m) ?_
  clear fr a
  rintro v w13 ⟨rfl, hN14⟩ a fr
  replace B4 := B4.new hN14
  replace B9 := B9.new hN14
  replace hF := hF.trNew hN14
  refine fx_val (v := .tuple #[.slice none 0 0, .int .i64 1]) fr rfl rfl (by first | decide | simp) (x_move rfl (fr.ev rfl)) ?_
  clear fr a; intro a fr
  refine fx_val (v := .slice none 0 0) fr rfl rfl (by first | decide | simp) (x_extract rfl (fr.ev rfl) rfl) ?_
  clear fr a; intro a fr
  refine fx_val (v := .int .i64 1) fr rfl rfl (by first | decide | simp) (x_extract rfl (fr.ev rfl) rfl) ?_
  clear fr a; intro a fr
  refine fx_val (v := .slice none 0 0) fr rfl rfl (by first | decide | simp) (x_assign rfl (fr.ev rfl)) ?_
  clear fr a; intro a fr
  refine fx_val (v := .int .i64 1) fr rfl rfl (by first | decide | simp) (x_assign rfl (fr.ev rfl)) ?_
  clear fr a; intro a fr
  refine wpList_nil ?_
  refine fx_next ?_
  refine wp_seq ?_
  refine wp_region_lit ?_  -- region 5
  refine fx_val (v := .pointer none) fr rfl rfl (by first | decide | simp) (x_move rfl (fr.ev rfl)) ?_
  clear fr a; intro a fr
  refine fx_val (v := .int .u32 line) fr rfl rfl (by first | decide | simp) (x_move rfl (fr.ev rfl)) ?_
  clear fr a; intro a fr
  refine fx_call fr rfl rfl (by first | decide | simp) (x_call (vs := [.pointer none, .int .u32 line]) rfl rfl ⟨(fr.ev rfl), (fr.ev rfl), trivial⟩ Try.func13 nm13 rfl) (entry_nil line _) ?_
  clear fr a
  rintro v w15 ⟨rfl, hN16⟩ a fr
  replace B4 := B4.new hN16
  replace B9 := B9.new hN16
  replace hF := hF.trNew hN16
  refine fx_val (v := .tuple #[.agg (entA entz (.slice none 0 0)), .int .i64 1]) fr rfl rfl (by first | decide | simp) (x_move rfl (fr.ev rfl)) ?_
  clear fr a; intro a fr
  refine fx_val (v := .agg (entA entz (.slice none 0 0))) fr rfl rfl (by first | decide | simp) (x_extract rfl (fr.ev rfl) rfl) ?_
  clear fr a; intro a fr
  refine fx_val (v := .int .i64 1) fr rfl rfl (by first | decide | simp) (x_extract rfl (fr.ev rfl) rfl) ?_
  clear fr a; intro a fr
  refine fx_new fr rfl rfl (by first | decide | simp) (x_alloc (z := .agg (#[.int .i64 0, .bool false, .bool false, .bool false, .bool false, .bool false, .int .i64 0, .int .i64 0, .int .i64 0, .bool false, .slice none 0 0])) (cs := #[.int .i64 0, .bool false, .bool false, .bool false, .bool false, .bool false, .int .i64 0, .int .i64 0, .int .i64 0, .bool false, .slice none 0 0]) rfl (by kernel_rfl) rfl) ?_
  clear fr a
  intro b17 w18 hN19 B20 hb21 a fr
  have ne_b1_b17 : NE b1 b17 := NE.mk (Nat.lt_of_lt_of_le B4.lt hb21)
  have ne_b6_b17 : NE b6 b17 := NE.mk (Nat.lt_of_lt_of_le B9.lt hb21)
  have g_b17 := Nat.le_trans hF.size hb21
  replace B4 := B4.new hN19
  replace B9 := B9.new hN19
  replace hF := hF.trNew hN19
  refine fx_storeS sz42 rfl rfl rfl (fr.ev rfl) (fr.ev rfl) (ent_all _ _ _ _) B20 rfl rfl fun w22 hO23 hBq => ?_
  replace B4 := B4.only hO23 (by first | exact ne_b1_b17 | exact ne_b17_b1.symm | (show ¬ b1 = b17; omega))
  replace B9 := B9.only hO23 (by first | exact ne_b6_b17 | exact ne_b17_b6.symm | (show ¬ b6 = b17; omega))
  replace hF := hF.loc hO23 (.inr g_b17)
  replace B20 := hBq
  clear hBq
  refine fx_val (v := .int .i64 1) fr rfl rfl (by first | decide | simp) (x_assign rfl (fr.ev rfl)) ?_
  clear fr a; intro a fr
  refine wpList_nil ?_
  refine fx_next ?_
  refine wp_seq ?_
  refine wp_region_lit ?_  -- region 6
  refine fx_call fr rfl rfl (by first | decide | simp) (x_call (vs := [.pointer none]) rfl rfl ⟨rfl, trivial⟩ Try.func22 nm22 rfl) (hnew_nil _) ?_
  clear fr a
  rintro v w24 ⟨rfl, hN25⟩ a fr
  replace B4 := B4.new hN25
  replace B9 := B9.new hN25
  replace B20 := B20.new hN25
  replace hF := hF.trNew hN25
  refine fx_val (v := .tuple #[.pointer none, .int .i64 1]) fr rfl rfl (by first | decide | simp) (x_move rfl (fr.ev rfl)) ?_
  clear fr a; intro a fr
  refine fx_val (v := .pointer none) fr rfl rfl (by first | decide | simp) (x_extract rfl (fr.ev rfl) rfl) ?_
  clear fr a; intro a fr
  refine fx_val (v := .int .i64 1) fr rfl rfl (by first | decide | simp) (x_extract rfl (fr.ev rfl) rfl) ?_
  clear fr a; intro a fr
  refine fx_val (v := .pointer none) fr rfl rfl (by first | decide | simp) (x_assign rfl (fr.ev rfl)) ?_
  clear fr a; intro a fr
  refine fx_val (v := .int .i64 1) fr rfl rfl (by first | decide | simp) (x_assign rfl (fr.ev rfl)) ?_
  clear fr a; intro a fr
  refine wpList_nil ?_
  refine fx_next ?_
  refine wp_seq ?_
  refine wp_region_lit ?_  -- region 7
  refine fx_call fr rfl rfl (by first | decide | simp) (x_call (vs := [.int .i64 16]) rfl rfl ⟨rfl, trivial⟩ Try.func23 nm23 rfl) (imgnew_c 16 _ (by decide)) ?_
  clear fr a
  rintro v w33 ⟨bi26, ig27, cap28, rfl, hI29, hb30, hg31, hne32, hN34⟩ a fr
  have ne_b1_bi26 : NE b1 bi26 := NE.mk (Nat.lt_of_lt_of_le B4.lt hb30)
  have ne_b6_bi26 : NE b6 bi26 := NE.mk (Nat.lt_of_lt_of_le B9.lt hb30)
  have ne_b17_bi26 : NE b17 bi26 := NE.mk (Nat.lt_of_lt_of_le B20.lt hb30)
  have g_bi26 := Nat.le_trans hF.size hb30
  have ne_b1_ig27 : NE b1 ig27 := NE.mk (Nat.lt_of_lt_of_le B4.lt hg31)
  have ne_b6_ig27 : NE b6 ig27 := NE.mk (Nat.lt_of_lt_of_le B9.lt hg31)
  have ne_b17_ig27 : NE b17 ig27 := NE.mk (Nat.lt_of_lt_of_le B20.lt hg31)
  have g_ig27 := Nat.le_trans hF.size hg31
  replace B4 := B4.new hN34
  replace B9 := B9.new hN34
  replace B20 := B20.new hN34
  replace hF := hF.trNew hN34
  have ne_bi26_ig27 := hne32
  refine fx_val (v := .tuple #[.pointer (some ⟨bi26, 0, none⟩), .int .i64 0]) fr rfl rfl (by first | decide | simp) (x_move rfl (fr.ev rfl)) ?_
  clear fr a; intro a fr
  refine fx_val (v := .pointer (some ⟨bi26, 0, none⟩)) fr rfl rfl (by first | decide | simp) (x_extract rfl (fr.ev rfl) rfl) ?_
  clear fr a; intro a fr
  refine fx_val (v := .int .i64 0) fr rfl rfl (by first | decide | simp) (x_extract rfl (fr.ev rfl) rfl) ?_
  clear fr a; intro a fr
  refine fx_val (v := .pointer (some ⟨bi26, 0, none⟩)) fr rfl rfl (by first | decide | simp) (x_assign rfl (fr.ev rfl)) ?_
  clear fr a; intro a fr
  refine fx_val (v := .int .i64 0) fr rfl rfl (by first | decide | simp) (x_assign rfl (fr.ev rfl)) ?_
  clear fr a; intro a fr
  refine wpList_nil ?_
  refine fx_next ?_
  refine wp_seq ?_
  refine wp_region_lit ?_  -- region 8
  refine fx_val (v := .pointer (some ⟨bi26, 0, none⟩)) fr rfl rfl (by first | decide | simp) (x_move rfl (fr.ev rfl)) ?_
  clear fr a; intro a fr
  refine fx_call fr rfl rfl (by first | decide | simp) (x_call (vs := [.pointer (some ⟨bi26, 0, none⟩)]) rfl rfl ⟨(fr.ev rfl), trivial⟩ Try.func22 nm22 rfl) (hnew_c hI29) ?_
  clear fr a
  rintro v w39 ⟨hb35, Fp36, rfl, H37, hf38, hN40⟩ a fr
  have ap_Fp36_b1 : ¬ Fp36 b1 := new_apartP hf38 B4.lt
  have ap_Fp36_b6 : ¬ Fp36 b6 := new_apartP hf38 B9.lt
  have ap_Fp36_b17 : ¬ Fp36 b17 := new_apartP hf38 B20.lt
  have ap_Fp36_bi26 : ¬ Fp36 bi26 := new_apartP hf38 hI29.lt.1
  have ap_Fp36_ig27 : ¬ Fp36 ig27 := new_apartP hf38 hI29.lt.2
  have gA_Fp36 := gA_newP hF hf38
  have gN_Fp36 := fun g (hg : Fp36 g) => Nat.le_trans hF.size (hf38 g hg)
  replace B4 := B4.new hN40
  replace B9 := B9.new hN40
  replace B20 := B20.new hN40
  replace hI29 := hI29.new hN40
  replace hF := hF.trNew hN40
  refine fx_val (v := .tuple #[.pointer (some ⟨hb35, 0, none⟩), .int .i64 0]) fr rfl rfl (by first | decide | simp) (x_move rfl (fr.ev rfl)) ?_
  clear fr a; intro a fr
  refine fx_val (v := .pointer (some ⟨hb35, 0, none⟩)) fr rfl rfl (by first | decide | simp) (x_extract rfl (fr.ev rfl) rfl) ?_
  clear fr a; intro a fr
  refine fx_val (v := .int .i64 0) fr rfl rfl (by first | decide | simp) (x_extract rfl (fr.ev rfl) rfl) ?_
  clear fr a; intro a fr
  refine fx_val (v := .pointer (some ⟨hb35, 0, none⟩)) fr rfl rfl (by first | decide | simp) (x_assign rfl (fr.ev rfl)) ?_
  clear fr a; intro a fr
  refine fx_val (v := .int .i64 0) fr rfl rfl (by first | decide | simp) (x_assign rfl (fr.ev rfl)) ?_
  clear fr a; intro a fr
  refine wpList_nil ?_
  refine fx_next ?_
  refine wp_seq ?_
  refine wp_region_lit ?_  -- region 9
  refine fx_val (v := .pointer (some ⟨hb35, 0, none⟩)) fr rfl rfl (by first | decide | simp) (x_move rfl (fr.ev rfl)) ?_
  clear fr a; intro a fr
  refine fx_val (v := .int .u32 line) fr rfl rfl (by first | decide | simp) (x_move rfl (fr.ev rfl)) ?_
  clear fr a; intro a fr
  refine fx_call fr rfl rfl (by first | decide | simp) (x_call (vs := [.pointer (some ⟨hb35, 0, none⟩), .int .u32 line]) rfl rfl ⟨(fr.ev rfl), (fr.ev rfl), trivial⟩ Try.func13 nm13 rfl) (entry_h H37 line hln (by rw [hl]; decide) (by rw [show entOf (home0 (List.replicate 16 0)).E _ = ent0 from entOf_rep _ _]; decide)) ?_
  clear fr a
  rintro v w45 ⟨Q41, qc42, rfl, OQ43, hA44, hN46⟩ a fr
  have ap_Q41_b1 : Apart Q41 b1 := new_apart hA44 B4.lt
  have ap_Q41_b6 : Apart Q41 b6 := new_apart hA44 B9.lt
  have ap_Q41_b17 : Apart Q41 b17 := new_apart hA44 B20.lt
  have ap_Q41_bi26 : Apart Q41 bi26 := new_apart hA44 hI29.lt.1
  have ap_Q41_ig27 : Apart Q41 ig27 := new_apart hA44 hI29.lt.2
  have ap2_Fp36_Q41 : ∀ k, Fp36 k → inA Q41 k → False := symP (new_apart2P hA44 fun _ hg => H37.lt hg)
  have gA_Q41 := gA_new hF hA44
  have gN_Q41 := fun g (hg : inA Q41 g) => Nat.le_trans hF.size (hA44 g hg)
  replace B4 := B4.new hN46
  replace B9 := B9.new hN46
  replace B20 := B20.new hN46
  replace hI29 := hI29.new hN46
  replace H37 := H37.new hN46
  replace hF := hF.trNew hN46
  refine fx_val (v := .tuple #[.agg (entA (entOf (home0 (List.replicate 16 0)).E line.toNat) (.slice Q41 ((entOf (home0 (List.replicate 16 0)).E line.toNat).q.length) qc42)), .int .i64 0]) fr rfl rfl (by first | decide | simp) (x_move rfl (fr.ev rfl)) ?_
  clear fr a; intro a fr
  refine fx_val (v := .agg (entA (entOf (home0 (List.replicate 16 0)).E line.toNat) (.slice Q41 ((entOf (home0 (List.replicate 16 0)).E line.toNat).q.length) qc42))) fr rfl rfl (by first | decide | simp) (x_extract rfl (fr.ev rfl) rfl) ?_
  clear fr a; intro a fr
  refine fx_val (v := .int .i64 0) fr rfl rfl (by first | decide | simp) (x_extract rfl (fr.ev rfl) rfl) ?_
  clear fr a; intro a fr
  refine fx_new fr rfl rfl (by first | decide | simp) (x_alloc (z := .agg (#[.int .i64 0, .bool false, .bool false, .bool false, .bool false, .bool false, .int .i64 0, .int .i64 0, .int .i64 0, .bool false, .slice none 0 0])) (cs := #[.int .i64 0, .bool false, .bool false, .bool false, .bool false, .bool false, .int .i64 0, .int .i64 0, .int .i64 0, .bool false, .slice none 0 0]) rfl (by kernel_rfl) rfl) ?_
  clear fr a
  intro b47 w48 hN49 B50 hb51 a fr
  have ne_b1_b47 : NE b1 b47 := NE.mk (Nat.lt_of_lt_of_le B4.lt hb51)
  have ne_b6_b47 : NE b6 b47 := NE.mk (Nat.lt_of_lt_of_le B9.lt hb51)
  have ne_b17_b47 : NE b17 b47 := NE.mk (Nat.lt_of_lt_of_le B20.lt hb51)
  have ne_bi26_b47 : NE bi26 b47 := NE.mk (Nat.lt_of_lt_of_le hI29.lt.1 hb51)
  have ne_ig27_b47 : NE ig27 b47 := NE.mk (Nat.lt_of_lt_of_le hI29.lt.2 hb51)
  have ap_Fp36_b47 : ¬ Fp36 b47 := H37.apart hb51
  have ap_Q41_b47 : Apart Q41 b47 := OQ43.apart hb51
  have g_b47 := Nat.le_trans hF.size hb51
  replace B4 := B4.new hN49
  replace B9 := B9.new hN49
  replace B20 := B20.new hN49
  replace hI29 := hI29.new hN49
  replace H37 := H37.new hN49
  replace OQ43 := OQ43.new hN49
  replace hF := hF.trNew hN49
  refine fx_storeS sz42 rfl rfl rfl (fr.ev rfl) (fr.ev rfl) (ent_all _ _ _ _) B50 rfl rfl fun w52 hO53 hBq => ?_
  replace B4 := B4.only hO53 (by first | exact ne_b1_b47 | exact ne_b47_b1.symm | (show ¬ b1 = b47; omega))
  replace B9 := B9.only hO53 (by first | exact ne_b6_b47 | exact ne_b47_b6.symm | (show ¬ b6 = b47; omega))
  replace B20 := B20.only hO53 (by first | exact ne_b17_b47 | exact ne_b47_b17.symm | (show ¬ b17 = b47; omega))
  replace hI29 := hI29.only hO53 (by first | exact ne_bi26_b47 | exact ne_b47_bi26.symm | (show ¬ bi26 = b47; omega)) (by first | exact ne_ig27_b47 | exact ne_b47_ig27.symm | (show ¬ ig27 = b47; omega))
  replace H37 := H37.only hO53 (ne1P ap_Fp36_b47)
  replace OQ43 := OQ43.only hO53 (Apart.ne1 ap_Q41_b47)
  replace hF := hF.loc hO53 (.inr g_b47)
  replace B50 := hBq
  clear hBq
  refine fx_val (v := .int .i64 0) fr rfl rfl (by first | decide | simp) (x_assign rfl (fr.ev rfl)) ?_
  clear fr a; intro a fr
  refine wpList_nil ?_
  refine fx_next ?_
  refine wp_seq ?_
  refine wp_region_lit ?_  -- region 10
  refine fx_val (v := .slice none 0 0) fr rfl rfl (by first | decide | simp) (x_move rfl (fr.ev rfl)) ?_
  clear fr a; intro a fr
  refine fx_val (v := .int .i64 ((0 : Nat) : Int)) fr rfl rfl (by first | decide | simp) (x_len Try.underlying23 rfl (fr.ev rfl)) ?_
  clear fr a; intro a fr
  refine fx_val (v := .bool true) fr rfl rfl (by first | decide | simp) (x_eql rfl (fr.ev rfl) rfl rfl) ?_
  clear fr a; intro a fr
  refine fx_val (v := .bool true) fr rfl rfl (by first | decide | simp) (x_move rfl (fr.ev rfl)) ?_
  clear fr a; intro a fr
  refine fx_val (v := .int .i64 1) fr (fr.want rfl rfl rfl) rfl (by first | decide | simp) (x_move rfl (fr.ev rfl)) ?_
  clear fr a; intro a fr
  refine fx_val (v := .bool true) fr (fr.want rfl rfl rfl) rfl (by first | decide | simp) (x_eql rfl (fr.ev rfl) rfl rfl) ?_
  clear fr a; intro a fr
  refine fx_val (v := .bool true) fr rfl rfl (by first | decide | simp) (x_pick_t rfl (fr.ev rfl) (fr.ev rfl)) ?_
  clear fr a; intro a fr
  refine fx_val (v := .bool true) fr rfl rfl (by first | decide | simp) (x_move rfl (fr.ev rfl)) ?_
  clear fr a; intro a fr
  refine fx_val (v := .slice none 0 0) fr (fr.want rfl rfl rfl) rfl (by first | decide | simp) (x_move rfl (fr.ev rfl)) ?_
  clear fr a; intro a fr
  refine fx_val (v := .int .i64 ((0 : Nat) : Int)) fr (fr.want rfl rfl rfl) rfl (by first | decide | simp) (x_len Try.underlying23 rfl (fr.ev rfl)) ?_
  clear fr a; intro a fr
  refine fx_val (v := .bool true) fr (fr.want rfl rfl rfl) rfl (by first | decide | simp) (x_eql rfl (fr.ev rfl) rfl rfl) ?_
  clear fr a; intro a fr
  refine fx_val (v := .bool true) fr rfl rfl (by first | decide | simp) (x_pick_t rfl (fr.ev rfl) (fr.ev rfl)) ?_
  clear fr a; intro a fr
  refine fx_val (v := .bool true) fr rfl rfl (by first | decide | simp) (x_move rfl (fr.ev rfl)) ?_
  clear fr a; intro a fr
  refine fx_val (v := .int .i64 1) fr (fr.want rfl rfl rfl) rfl (by first | decide | simp) (x_move rfl (fr.ev rfl)) ?_
  clear fr a; intro a fr
  refine fx_val (v := .bool true) fr (fr.want rfl rfl rfl) rfl (by first | decide | simp) (x_eql rfl (fr.ev rfl) rfl rfl) ?_
  clear fr a; intro a fr
  refine fx_val (v := .bool true) fr rfl rfl (by first | decide | simp) (x_pick_t rfl (fr.ev rfl) (fr.ev rfl)) ?_
  clear fr a; intro a fr
  refine fx_val (v := .bool true) fr rfl rfl (by first | decide | simp) (x_move rfl (fr.ev rfl)) ?_
  clear fr a; intro a fr
  refine fx_val (v := .int .i64 1) fr (fr.want rfl rfl rfl) rfl (by first | decide | simp) (x_move rfl (fr.ev rfl)) ?_
  clear fr a; intro a fr
  refine fx_val (v := .bool true) fr (fr.want rfl rfl rfl) rfl (by first | decide | simp) (x_eql rfl (fr.ev rfl) rfl rfl) ?_
  clear fr a; intro a fr
  refine fx_val (v := .bool true) fr rfl rfl (by first | decide | simp) (x_pick_t rfl (fr.ev rfl) (fr.ev rfl)) ?_
  clear fr a; intro a fr
  refine fx_val (v := .bool true) fr rfl rfl (by first | decide | simp) (x_move rfl (fr.ev rfl)) ?_
  clear fr a; intro a fr
  refine fx_val (v := .pointer none) fr (fr.want rfl rfl rfl) rfl (by first | decide | simp) (x_move rfl (fr.ev rfl)) ?_
  clear fr a; intro a fr
  refine fx_val (v := .bool true) fr (fr.want rfl rfl rfl) rfl (by first | decide | simp) (x_peql Try.underlying25 rfl (fr.ev rfl) rfl rfl) ?_
  clear fr a; intro a fr
  refine fx_val (v := .bool true) fr rfl rfl (by first | decide | simp) (x_pick_t rfl (fr.ev rfl) (fr.ev rfl)) ?_
  clear fr a; intro a fr
  refine fx_val (v := .bool true) fr rfl rfl (by first | decide | simp) (x_move rfl (fr.ev rfl)) ?_
  clear fr a; intro a fr
  refine fx_val (v := .int .i64 1) fr (fr.want rfl rfl rfl) rfl (by first | decide | simp) (x_move rfl (fr.ev rfl)) ?_
  clear fr a; intro a fr
  refine fx_val (v := .bool true) fr (fr.want rfl rfl rfl) rfl (by first | decide | simp) (x_eql rfl (fr.ev rfl) rfl rfl) ?_
  clear fr a; intro a fr
  refine fx_val (v := .bool true) fr rfl rfl (by first | decide | simp) (x_pick_t rfl (fr.ev rfl) (fr.ev rfl)) ?_
  clear fr a; intro a fr
  refine fx_val (v := .bool true) fr rfl rfl (by first | decide | simp) (x_move rfl (fr.ev rfl)) ?_
  clear fr a; intro a fr
  refine fx_val (v := .int .i64 0) fr (fr.want rfl rfl rfl) rfl (by first | decide | simp) (x_move rfl (fr.ev rfl)) ?_
  clear fr a; intro a fr
  refine fx_val (v := .bool false) fr (fr.want rfl rfl rfl) rfl (by first | decide | simp) (x_eql rfl (fr.ev rfl) rfl rfl) ?_
  clear fr a; intro a fr
  refine fx_val (v := .int .u32 line) fr (fr.want rfl rfl rfl) rfl (by first | decide | simp) (x_move rfl (fr.ev rfl)) ?_
  clear fr a; intro a fr
  refine fx_val (v := .bool false) fr (fr.want rfl rfl rfl) rfl (by first | decide | simp) (x_gtr rfl (fr.ev rfl) rfl (decide_eq_false (show ¬ 0 < line by omega))) ?_
  clear fr a; intro a fr
  refine fx_val (v := .bool true) fr (fr.want rfl rfl rfl) rfl (by first | decide | simp) (x_beql Try.underlying4 rfl (fr.ev rfl) (fr.ev rfl) rfl) ?_
  clear fr a; intro a fr
  refine fx_val (v := .bool true) fr rfl rfl (by first | decide | simp) (x_pick_t rfl (fr.ev rfl) (fr.ev rfl)) ?_
  clear fr a; intro a fr
  refine fx_val (v := .bool true) fr rfl rfl (by first | decide | simp) (x_move rfl (fr.ev rfl)) ?_
  clear fr a; intro a fr
  refine fx_val (v := .pointer none) fr (fr.want rfl rfl rfl) rfl (by first | decide | simp) (x_move rfl (fr.ev rfl)) ?_
  clear fr a; intro a fr
  refine fx_call fr (fr.want rfl rfl rfl) rfl (by first | decide | simp) (x_call (vs := [.pointer none]) rfl rfl ⟨(fr.ev rfl), trivial⟩ Try.func24 nm24 rfl) (memory_nil _) ?_
  clear fr a
  rintro v w54 ⟨rfl, hN55⟩ a fr
  replace B4 := B4.new hN55
  replace B9 := B9.new hN55
  replace B20 := B20.new hN55
  replace hI29 := hI29.new hN55
  replace H37 := H37.new hN55
  replace OQ43 := OQ43.new hN55
  replace B50 := B50.new hN55
  replace hF := hF.trNew hN55
  refine fx_val (v := .bool true) fr (fr.want rfl rfl rfl) rfl (by first | decide | simp) (x_peql Try.underlying61 rfl (fr.ev rfl) rfl rfl) ?_
  clear fr a; intro a fr
  refine fx_val (v := .bool true) fr rfl rfl (by first | decide | simp) (x_pick_t rfl (fr.ev rfl) (fr.ev rfl)) ?_
  clear fr a; intro a fr
  refine fx_val (v := .bool true) fr rfl rfl (by first | decide | simp) (x_move rfl (fr.ev rfl)) ?_
  clear fr a; intro a fr
  refine fx_val (v := .pointer none) fr (fr.want rfl rfl rfl) rfl (by first | decide | simp) (x_move rfl (fr.ev rfl)) ?_
  clear fr a; intro a fr
  refine fx_call fr (fr.want rfl rfl rfl) rfl (by first | decide | simp) (x_call (vs := [.pointer none]) rfl rfl ⟨(fr.ev rfl), trivial⟩ Try.func10 nm10 rfl) (lines_nil _) ?_
  clear fr a
  rintro v w9 ⟨rfl, hw9⟩ a fr
  obtain rfl := hw9.symm
  refine fx_val (v := .bool true) fr (fr.want rfl rfl rfl) rfl (by first | decide | simp) (x_eql rfl (fr.ev rfl) rfl rfl) ?_
  clear fr a; intro a fr
  refine fx_val (v := .bool true) fr rfl rfl (by first | decide | simp) (x_pick_t rfl (fr.ev rfl) (fr.ev rfl)) ?_
  clear fr a; intro a fr
  refine fx_val (v := .bool true) fr rfl rfl (by first | decide | simp) (x_move rfl (fr.ev rfl)) ?_
  clear fr a; intro a fr
  refine fx_val (v := .pointer none) fr (fr.want rfl rfl rfl) rfl (by first | decide | simp) (x_move rfl (fr.ev rfl)) ?_
  clear fr a; intro a fr
  refine fx_call fr (fr.want rfl rfl rfl) rfl (by first | decide | simp) (x_call (vs := [.pointer none]) rfl rfl ⟨(fr.ev rfl), trivial⟩ Try.func17 nm17 rfl) (idle_nil _) ?_
  clear fr a
  rintro v w58 ⟨rfl, hN59⟩ a fr
  replace B4 := B4.new hN59
  replace B9 := B9.new hN59
  replace B20 := B20.new hN59
  replace hI29 := hI29.new hN59
  replace H37 := H37.new hN59
  replace OQ43 := OQ43.new hN59
  replace B50 := B50.new hN59
  replace hF := hF.trNew hN59
  refine fx_val (v := .bool true) fr (fr.want rfl rfl rfl) rfl (by first | decide | simp) (x_not rfl (fr.ev rfl) rfl) ?_
  clear fr a; intro a fr
  refine fx_val (v := .bool true) fr rfl rfl (by first | decide | simp) (x_pick_t rfl (fr.ev rfl) (fr.ev rfl)) ?_
  clear fr a; intro a fr
  refine fx_val (v := .bool true) fr rfl rfl (by first | decide | simp) (x_move rfl (fr.ev rfl)) ?_
  clear fr a; intro a fr
  refine fx_val (v := .pointer none) fr (fr.want rfl rfl rfl) rfl (by first | decide | simp) (x_move rfl (fr.ev rfl)) ?_
  clear fr a; intro a fr
  refine fx_call fr (fr.want rfl rfl rfl) rfl (by first | decide | simp) (x_call (vs := [.pointer none]) rfl rfl ⟨(fr.ev rfl), trivial⟩ Try.func18 nm18 rfl) (hcopy_nil _) ?_
  clear fr a
  rintro v w60 ⟨rfl, hN61⟩ a fr
  replace B4 := B4.new hN61
  replace B9 := B9.new hN61
  replace B20 := B20.new hN61
  replace hI29 := hI29.new hN61
  replace H37 := H37.new hN61
  replace OQ43 := OQ43.new hN61
  replace B50 := B50.new hN61
  replace hF := hF.trNew hN61
  refine fx_val (v := .bool true) fr (fr.want rfl rfl rfl) rfl (by first | decide | simp) (x_peql Try.underlying25 rfl (fr.ev rfl) rfl rfl) ?_
  clear fr a; intro a fr
  refine fx_val (v := .bool true) fr rfl rfl (by first | decide | simp) (x_pick_t rfl (fr.ev rfl) (fr.ev rfl)) ?_
  clear fr a; intro a fr
  refine fx_val (v := .bool true) fr rfl rfl (by first | decide | simp) (x_move rfl (fr.ev rfl)) ?_
  clear fr a; intro a fr
  refine fx_call fr (fr.want rfl rfl rfl) rfl (by first | decide | simp) (x_call (vs := []) rfl rfl trivial Try.func11 nm11 rfl) (known_c _) ?_
  clear fr a
  rintro v w62 ⟨rfl, hN63⟩ a fr
  replace B4 := B4.new hN63
  replace B9 := B9.new hN63
  replace B20 := B20.new hN63
  replace hI29 := hI29.new hN63
  replace H37 := H37.new hN63
  replace OQ43 := OQ43.new hN63
  replace B50 := B50.new hN63
  replace hF := hF.trNew hN63
  refine fx_val (v := .bool true) fr rfl rfl (by first | decide | simp) (x_pick_t rfl (fr.ev rfl) (fr.ev rfl)) ?_
  clear fr a; intro a fr
  refine fx_val (v := .bool true) fr rfl rfl (by first | decide | simp) (x_assign rfl (fr.ev rfl)) ?_
  clear fr a; intro a fr
  refine wpList_nil ?_
  refine fx_next ?_
  refine wp_ret ?_
  refine fx_ret fr [.tmp 4] [.bool true] rfl ⟨rfl, trivial⟩ rfl ?_
  exact ⟨_, rfl, rfl, hF⟩
set_option maxRecDepth 100000 in
set_option maxHeartbeats 4000000 in
theorem homenil_1 (m : Msg) (line : Int) (hln : 0 ≤ line ∧ line < 4294967296) (hl : 0 < line) (w : World) : Calls Try.prog 8 #[.agg (msgE.arr m), .int .u32 line] w (Ret fun v w' => v = .bool true ∧ New w w') := by
  have hF := Only.refl (fun _ => False) w
  refine fx_enter Try.func8 rfl (N := (118, [])) (T := [(0, .agg (msgE.arr m)), (1, .int .u32 line)]) rfl (show 2 ≤ 118 by decide) ⟨rfl, rfl, trivial⟩ fun a fr => ?_
  refine wp_seq ?_
  refine wp_region_lit ?_  -- region 0
  refine fx_new fr rfl rfl (by first | decide | simp) (x_box (cs := msgE.arr m) rfl (fr.ev rfl) rfl) ?_
  clear fr a
  intro b1 w2 hN3 B4 hb5 a fr
  have g_b1 := Nat.le_trans hF.size hb5
  replace hF := hF.trNew hN3
  refine fx_val (v := .bool false) fr rfl rfl (by first | decide | simp) (x_assign rfl rfl) ?_
  clear fr a; intro a fr
  refine wpList_nil ?_
  refine fx_next ?_
  refine wp_seq ?_
  refine wp_region_lit ?_  -- region 1
  refine fx_val (v := .pointer none) fr rfl rfl (by first | decide | simp) (x_assign rfl rfl) ?_
  clear fr a; intro a fr
  refine wpList_nil ?_
  refine fx_next ?_
  refine wp_seq ?_
  refine wp_region_lit ?_  -- region 2
  refine fx_val (v := .agg (#[.pointer none, .map none])) fr rfl rfl (by first | decide | simp) (x_build (cells := #[.pointer none, .map none]) rfl (by kernel_rfl)) ?_
  clear fr a; intro a fr
  refine fx_new fr rfl rfl (by first | decide | simp) (x_box (cs := #[.pointer none, .map none]) rfl (fr.ev rfl) rfl) ?_
  clear fr a
  intro b6 w7 hN8 B9 hb10 a fr
  have ne_b1_b6 : NE b1 b6 := NE.mk (Nat.lt_of_lt_of_le B4.lt hb10)
  have g_b6 := Nat.le_trans hF.size hb10
  replace B4 := B4.new hN8
  replace hF := hF.trNew hN8
  refine fx_val (v := .pointer (some ⟨b6, 0, none⟩)) fr rfl rfl (by first | decide | simp) (x_assign rfl (fr.ev rfl)) ?_
  clear fr a; intro a fr
  refine wpList_nil ?_
  refine fx_next ?_
  refine wp_seq ?_
  refine wp_region_lit ?_  -- region 3
  refine fx_val (v := .pointer none) fr rfl rfl (by first | decide | simp) (x_move rfl (fr.ev rfl)) ?_
  clear fr a; intro a fr
  refine fx_val (v := .agg (msgE.arr m)) fr rfl rfl (by first | decide | simp) (x_loadE (E := msgE) ag36 rfl rfl (fr.ev rfl) (B4.rangeE msgE)) ?_
  clear fr a; intro a fr
  refine fx_call fr rfl rfl (by first | decide | simp) (x_call (vs := [.pointer none, .agg (msgE.arr m)]) rfl rfl ⟨(fr.ev rfl), (fr.ev rfl), trivial⟩ Try.func12 nm12 rfl) (take_nil m _) ?_
  clear fr a
  rintro v w11 ⟨rfl, hN12⟩ a fr
  replace B4 := B4.new hN12
  replace B9 := B9.new hN12
  replace hF := hF.trNew hN12
  refine fx_val (v := .tuple #[.slice none 0 0, .int .i64 1]) fr rfl rfl (by first | decide | simp) (x_move rfl (fr.ev rfl)) ?_
  clear fr a; intro a fr
  refine fx_val (v := .slice none 0 0) fr rfl rfl (by first | decide | simp) (x_extract rfl (fr.ev rfl) rfl) ?_
  clear fr a; intro a fr
  refine fx_val (v := .int .i64 1) fr rfl rfl (by first | decide | simp) (x_extract rfl (fr.ev rfl) rfl) ?_
  clear fr a; intro a fr
  refine fx_val (v := .slice none 0 0) fr rfl rfl (by first | decide | simp) (x_assign rfl (fr.ev rfl)) ?_
  clear fr a; intro a fr
  refine fx_val (v := .int .i64 1) fr rfl rfl (by first | decide | simp) (x_assign rfl (fr.ev rfl)) ?_
  clear fr a; intro a fr
  refine wpList_nil ?_
  refine fx_next ?_
  refine wp_seq ?_
  refine wp_region_lit ?_  -- region 4
  refine fx_val (v := .pointer (some ⟨b6, 0, none⟩)) fr rfl rfl (by first | decide | simp) (x_move rfl (fr.ev rfl)) ?_
  clear fr a; intro a fr
  refine fx_val (v := .agg (msgE.arr m)) fr rfl rfl (by first | decide | simp) (x_loadE (E := msgE) ag36 rfl rfl (fr.ev rfl) (B4.rangeE msgE)) ?_
  clear fr a; intro a fr
  refine fx_call fr rfl rfl (by first | decide | simp) (x_call (vs := [.pointer (some ⟨b6, 0, none⟩), .agg (msgE.arr m)]) rfl rfl ⟨(fr.ev rfl), (fr.ev rfl), trivial⟩ Try.func12 nm12 rfl) (take_z B9 m) ?_
  clear fr a
  rintro v w13 ⟨rfl, hN14⟩ a fr
  replace B4 := B4.new hN14
  replace B9 := B9.new hN14
  replace hF := hF.trNew hN14
  refine fx_val (v := .tuple #[.slice none 0 0, .int .i64 1]) fr rfl rfl (by first | decide | simp) (x_move rfl (fr.ev rfl)) ?_
  clear fr a; intro a fr
  refine fx_val (v := .slice none 0 0) fr rfl rfl (by first | decide | simp) (x_extract rfl (fr.ev rfl) rfl) ?_
  clear fr a; intro a fr
  refine fx_val (v := .int .i64 1) fr rfl rfl (by first | decide | simp) (x_extract rfl (fr.ev rfl) rfl) ?_
  clear fr a; intro a fr
  refine fx_val (v := .slice none 0 0) fr rfl rfl (by first | decide | simp) (x_assign rfl (fr.ev rfl)) ?_
  clear fr a; intro a fr
  refine fx_val (v := .int .i64 1) fr rfl rfl (by first | decide | simp) (x_assign rfl (fr.ev rfl)) ?_
  clear fr a; intro a fr
  refine wpList_nil ?_
  refine fx_next ?_
  refine wp_seq ?_
  refine wp_region_lit ?_  -- region 5
  refine fx_val (v := .pointer none) fr rfl rfl (by first | decide | simp) (x_move rfl (fr.ev rfl)) ?_
  clear fr a; intro a fr
  refine fx_val (v := .int .u32 line) fr rfl rfl (by first | decide | simp) (x_move rfl (fr.ev rfl)) ?_
  clear fr a; intro a fr
  refine fx_call fr rfl rfl (by first | decide | simp) (x_call (vs := [.pointer none, .int .u32 line]) rfl rfl ⟨(fr.ev rfl), (fr.ev rfl), trivial⟩ Try.func13 nm13 rfl) (entry_nil line _) ?_
  clear fr a
  rintro v w15 ⟨rfl, hN16⟩ a fr
  replace B4 := B4.new hN16
  replace B9 := B9.new hN16
  replace hF := hF.trNew hN16
  refine fx_val (v := .tuple #[.agg (entA entz (.slice none 0 0)), .int .i64 1]) fr rfl rfl (by first | decide | simp) (x_move rfl (fr.ev rfl)) ?_
  clear fr a; intro a fr
  refine fx_val (v := .agg (entA entz (.slice none 0 0))) fr rfl rfl (by first | decide | simp) (x_extract rfl (fr.ev rfl) rfl) ?_
  clear fr a; intro a fr
  refine fx_val (v := .int .i64 1) fr rfl rfl (by first | decide | simp) (x_extract rfl (fr.ev rfl) rfl) ?_
  clear fr a; intro a fr
  refine fx_new fr rfl rfl (by first | decide | simp) (x_alloc (z := .agg (#[.int .i64 0, .bool false, .bool false, .bool false, .bool false, .bool false, .int .i64 0, .int .i64 0, .int .i64 0, .bool false, .slice none 0 0])) (cs := #[.int .i64 0, .bool false, .bool false, .bool false, .bool false, .bool false, .int .i64 0, .int .i64 0, .int .i64 0, .bool false, .slice none 0 0]) rfl (by kernel_rfl) rfl) ?_
  clear fr a
  intro b17 w18 hN19 B20 hb21 a fr
  have ne_b1_b17 : NE b1 b17 := NE.mk (Nat.lt_of_lt_of_le B4.lt hb21)
  have ne_b6_b17 : NE b6 b17 := NE.mk (Nat.lt_of_lt_of_le B9.lt hb21)
  have g_b17 := Nat.le_trans hF.size hb21
  replace B4 := B4.new hN19
  replace B9 := B9.new hN19
  replace hF := hF.trNew hN19
  refine fx_storeS sz42 rfl rfl rfl (fr.ev rfl) (fr.ev rfl) (ent_all _ _ _ _) B20 rfl rfl fun w22 hO23 hBq => ?_
  replace B4 := B4.only hO23 (by first | exact ne_b1_b17 | exact ne_b17_b1.symm | (show ¬ b1 = b17; omega))
  replace B9 := B9.only hO23 (by first | exact ne_b6_b17 | exact ne_b17_b6.symm | (show ¬ b6 = b17; omega))
  replace hF := hF.loc hO23 (.inr g_b17)
  replace B20 := hBq
  clear hBq
  refine fx_val (v := .int .i64 1) fr rfl rfl (by first | decide | simp) (x_assign rfl (fr.ev rfl)) ?_
  clear fr a; intro a fr
  refine wpList_nil ?_
  refine fx_next ?_
  refine wp_seq ?_
  refine wp_region_lit ?_  -- region 6
  refine fx_call fr rfl rfl (by first | decide | simp) (x_call (vs := [.pointer none]) rfl rfl ⟨rfl, trivial⟩ Try.func22 nm22 rfl) (hnew_nil _) ?_
  clear fr a
  rintro v w24 ⟨rfl, hN25⟩ a fr
  replace B4 := B4.new hN25
  replace B9 := B9.new hN25
  replace B20 := B20.new hN25
  replace hF := hF.trNew hN25
  refine fx_val (v := .tuple #[.pointer none, .int .i64 1]) fr rfl rfl (by first | decide | simp) (x_move rfl (fr.ev rfl)) ?_
  clear fr a; intro a fr
  refine fx_val (v := .pointer none) fr rfl rfl (by first | decide | simp) (x_extract rfl (fr.ev rfl) rfl) ?_
  clear fr a; intro a fr
  refine fx_val (v := .int .i64 1) fr rfl rfl (by first | decide | simp) (x_extract rfl (fr.ev rfl) rfl) ?_
  clear fr a; intro a fr
  refine fx_val (v := .pointer none) fr rfl rfl (by first | decide | simp) (x_assign rfl (fr.ev rfl)) ?_
  clear fr a; intro a fr
  refine fx_val (v := .int .i64 1) fr rfl rfl (by first | decide | simp) (x_assign rfl (fr.ev rfl)) ?_
  clear fr a; intro a fr
  refine wpList_nil ?_
  refine fx_next ?_
  refine wp_seq ?_
  refine wp_region_lit ?_  -- region 7
  refine fx_call fr rfl rfl (by first | decide | simp) (x_call (vs := [.int .i64 16]) rfl rfl ⟨rfl, trivial⟩ Try.func23 nm23 rfl) (imgnew_c 16 _ (by decide)) ?_
  clear fr a
  rintro v w33 ⟨bi26, ig27, cap28, rfl, hI29, hb30, hg31, hne32, hN34⟩ a fr
  have ne_b1_bi26 : NE b1 bi26 := NE.mk (Nat.lt_of_lt_of_le B4.lt hb30)
  have ne_b6_bi26 : NE b6 bi26 := NE.mk (Nat.lt_of_lt_of_le B9.lt hb30)
  have ne_b17_bi26 : NE b17 bi26 := NE.mk (Nat.lt_of_lt_of_le B20.lt hb30)
  have g_bi26 := Nat.le_trans hF.size hb30
  have ne_b1_ig27 : NE b1 ig27 := NE.mk (Nat.lt_of_lt_of_le B4.lt hg31)
  have ne_b6_ig27 : NE b6 ig27 := NE.mk (Nat.lt_of_lt_of_le B9.lt hg31)
  have ne_b17_ig27 : NE b17 ig27 := NE.mk (Nat.lt_of_lt_of_le B20.lt hg31)
  have g_ig27 := Nat.le_trans hF.size hg31
  replace B4 := B4.new hN34
  replace B9 := B9.new hN34
  replace B20 := B20.new hN34
  replace hF := hF.trNew hN34
  have ne_bi26_ig27 := hne32
  refine fx_val (v := .tuple #[.pointer (some ⟨bi26, 0, none⟩), .int .i64 0]) fr rfl rfl (by first | decide | simp) (x_move rfl (fr.ev rfl)) ?_
  clear fr a; intro a fr
  refine fx_val (v := .pointer (some ⟨bi26, 0, none⟩)) fr rfl rfl (by first | decide | simp) (x_extract rfl (fr.ev rfl) rfl) ?_
  clear fr a; intro a fr
  refine fx_val (v := .int .i64 0) fr rfl rfl (by first | decide | simp) (x_extract rfl (fr.ev rfl) rfl) ?_
  clear fr a; intro a fr
  refine fx_val (v := .pointer (some ⟨bi26, 0, none⟩)) fr rfl rfl (by first | decide | simp) (x_assign rfl (fr.ev rfl)) ?_
  clear fr a; intro a fr
  refine fx_val (v := .int .i64 0) fr rfl rfl (by first | decide | simp) (x_assign rfl (fr.ev rfl)) ?_
  clear fr a; intro a fr
  refine wpList_nil ?_
  refine fx_next ?_
  refine wp_seq ?_
  refine wp_region_lit ?_  -- region 8
  refine fx_val (v := .pointer (some ⟨bi26, 0, none⟩)) fr rfl rfl (by first | decide | simp) (x_move rfl (fr.ev rfl)) ?_
  clear fr a; intro a fr
  refine fx_call fr rfl rfl (by first | decide | simp) (x_call (vs := [.pointer (some ⟨bi26, 0, none⟩)]) rfl rfl ⟨(fr.ev rfl), trivial⟩ Try.func22 nm22 rfl) (hnew_c hI29) ?_
  clear fr a
  rintro v w39 ⟨hb35, Fp36, rfl, H37, hf38, hN40⟩ a fr
  have ap_Fp36_b1 : ¬ Fp36 b1 := new_apartP hf38 B4.lt
  have ap_Fp36_b6 : ¬ Fp36 b6 := new_apartP hf38 B9.lt
  have ap_Fp36_b17 : ¬ Fp36 b17 := new_apartP hf38 B20.lt
  have ap_Fp36_bi26 : ¬ Fp36 bi26 := new_apartP hf38 hI29.lt.1
  have ap_Fp36_ig27 : ¬ Fp36 ig27 := new_apartP hf38 hI29.lt.2
  have gA_Fp36 := gA_newP hF hf38
  have gN_Fp36 := fun g (hg : Fp36 g) => Nat.le_trans hF.size (hf38 g hg)
  replace B4 := B4.new hN40
  replace B9 := B9.new hN40
  replace B20 := B20.new hN40
  replace hI29 := hI29.new hN40
  replace hF := hF.trNew hN40
  refine fx_val (v := .tuple #[.pointer (some ⟨hb35, 0, none⟩), .int .i64 0]) fr rfl rfl (by first | decide | simp) (x_move rfl (fr.ev rfl)) ?_
  clear fr a; intro a fr
  refine fx_val (v := .pointer (some ⟨hb35, 0, none⟩)) fr rfl rfl (by first | decide | simp) (x_extract rfl (fr.ev rfl) rfl) ?_
  clear fr a; intro a fr
  refine fx_val (v := .int .i64 0) fr rfl rfl (by first | decide | simp) (x_extract rfl (fr.ev rfl) rfl) ?_
  clear fr a; intro a fr
  refine fx_val (v := .pointer (some ⟨hb35, 0, none⟩)) fr rfl rfl (by first | decide | simp) (x_assign rfl (fr.ev rfl)) ?_
  clear fr a; intro a fr
  refine fx_val (v := .int .i64 0) fr rfl rfl (by first | decide | simp) (x_assign rfl (fr.ev rfl)) ?_
  clear fr a; intro a fr
  refine wpList_nil ?_
  refine fx_next ?_
  refine wp_seq ?_
  refine wp_region_lit ?_  -- region 9
  refine fx_val (v := .pointer (some ⟨hb35, 0, none⟩)) fr rfl rfl (by first | decide | simp) (x_move rfl (fr.ev rfl)) ?_
  clear fr a; intro a fr
  refine fx_val (v := .int .u32 line) fr rfl rfl (by first | decide | simp) (x_move rfl (fr.ev rfl)) ?_
  clear fr a; intro a fr
  refine fx_call fr rfl rfl (by first | decide | simp) (x_call (vs := [.pointer (some ⟨hb35, 0, none⟩), .int .u32 line]) rfl rfl ⟨(fr.ev rfl), (fr.ev rfl), trivial⟩ Try.func13 nm13 rfl) (entry_hno H37 line hln (show ((1 : Nat) : Int) ≤ line by omega)) ?_
  clear fr a
  rintro v w41 ⟨rfl, hN42⟩ a fr
  replace B4 := B4.new hN42
  replace B9 := B9.new hN42
  replace B20 := B20.new hN42
  replace hI29 := hI29.new hN42
  replace H37 := H37.new hN42
  replace hF := hF.trNew hN42
  refine fx_val (v := .tuple #[.agg (entA entz (.slice none 0 0)), .int .i64 4]) fr rfl rfl (by first | decide | simp) (x_move rfl (fr.ev rfl)) ?_
  clear fr a; intro a fr
  refine fx_val (v := .agg (entA entz (.slice none 0 0))) fr rfl rfl (by first | decide | simp) (x_extract rfl (fr.ev rfl) rfl) ?_
  clear fr a; intro a fr
  refine fx_val (v := .int .i64 4) fr rfl rfl (by first | decide | simp) (x_extract rfl (fr.ev rfl) rfl) ?_
  clear fr a; intro a fr
  refine fx_new fr rfl rfl (by first | decide | simp) (x_alloc (z := .agg (#[.int .i64 0, .bool false, .bool false, .bool false, .bool false, .bool false, .int .i64 0, .int .i64 0, .int .i64 0, .bool false, .slice none 0 0])) (cs := #[.int .i64 0, .bool false, .bool false, .bool false, .bool false, .bool false, .int .i64 0, .int .i64 0, .int .i64 0, .bool false, .slice none 0 0]) rfl (by kernel_rfl) rfl) ?_
  clear fr a
  intro b43 w44 hN45 B46 hb47 a fr
  have ne_b1_b43 : NE b1 b43 := NE.mk (Nat.lt_of_lt_of_le B4.lt hb47)
  have ne_b6_b43 : NE b6 b43 := NE.mk (Nat.lt_of_lt_of_le B9.lt hb47)
  have ne_b17_b43 : NE b17 b43 := NE.mk (Nat.lt_of_lt_of_le B20.lt hb47)
  have ne_bi26_b43 : NE bi26 b43 := NE.mk (Nat.lt_of_lt_of_le hI29.lt.1 hb47)
  have ne_ig27_b43 : NE ig27 b43 := NE.mk (Nat.lt_of_lt_of_le hI29.lt.2 hb47)
  have ap_Fp36_b43 : ¬ Fp36 b43 := H37.apart hb47
  have g_b43 := Nat.le_trans hF.size hb47
  replace B4 := B4.new hN45
  replace B9 := B9.new hN45
  replace B20 := B20.new hN45
  replace hI29 := hI29.new hN45
  replace H37 := H37.new hN45
  replace hF := hF.trNew hN45
  refine fx_storeS sz42 rfl rfl rfl (fr.ev rfl) (fr.ev rfl) (ent_all _ _ _ _) B46 rfl rfl fun w48 hO49 hBq => ?_
  replace B4 := B4.only hO49 (by first | exact ne_b1_b43 | exact ne_b43_b1.symm | (show ¬ b1 = b43; omega))
  replace B9 := B9.only hO49 (by first | exact ne_b6_b43 | exact ne_b43_b6.symm | (show ¬ b6 = b43; omega))
  replace B20 := B20.only hO49 (by first | exact ne_b17_b43 | exact ne_b43_b17.symm | (show ¬ b17 = b43; omega))
  replace hI29 := hI29.only hO49 (by first | exact ne_bi26_b43 | exact ne_b43_bi26.symm | (show ¬ bi26 = b43; omega)) (by first | exact ne_ig27_b43 | exact ne_b43_ig27.symm | (show ¬ ig27 = b43; omega))
  replace H37 := H37.only hO49 (ne1P ap_Fp36_b43)
  replace hF := hF.loc hO49 (.inr g_b43)
  replace B46 := hBq
  clear hBq
  refine fx_val (v := .int .i64 4) fr rfl rfl (by first | decide | simp) (x_assign rfl (fr.ev rfl)) ?_
  clear fr a; intro a fr
  refine wpList_nil ?_
  refine fx_next ?_
  refine wp_seq ?_
  refine wp_region_lit ?_  -- region 10
  refine fx_val (v := .slice none 0 0) fr rfl rfl (by first | decide | simp) (x_move rfl (fr.ev rfl)) ?_
  clear fr a; intro a fr
  refine fx_val (v := .int .i64 ((0 : Nat) : Int)) fr rfl rfl (by first | decide | simp) (x_len Try.underlying23 rfl (fr.ev rfl)) ?_
  clear fr a; intro a fr
  refine fx_val (v := .bool true) fr rfl rfl (by first | decide | simp) (x_eql rfl (fr.ev rfl) rfl rfl) ?_
  clear fr a; intro a fr
  refine fx_val (v := .bool true) fr rfl rfl (by first | decide | simp) (x_move rfl (fr.ev rfl)) ?_
  clear fr a; intro a fr
  refine fx_val (v := .int .i64 1) fr (fr.want rfl rfl rfl) rfl (by first | decide | simp) (x_move rfl (fr.ev rfl)) ?_
  clear fr a; intro a fr
  refine fx_val (v := .bool true) fr (fr.want rfl rfl rfl) rfl (by first | decide | simp) (x_eql rfl (fr.ev rfl) rfl rfl) ?_
  clear fr a; intro a fr
  refine fx_val (v := .bool true) fr rfl rfl (by first | decide | simp) (x_pick_t rfl (fr.ev rfl) (fr.ev rfl)) ?_
  clear fr a; intro a fr
  refine fx_val (v := .bool true) fr rfl rfl (by first | decide | simp) (x_move rfl (fr.ev rfl)) ?_
  clear fr a; intro a fr
  refine fx_val (v := .slice none 0 0) fr (fr.want rfl rfl rfl) rfl (by first | decide | simp) (x_move rfl (fr.ev rfl)) ?_
  clear fr a; intro a fr
  refine fx_val (v := .int .i64 ((0 : Nat) : Int)) fr (fr.want rfl rfl rfl) rfl (by first | decide | simp) (x_len Try.underlying23 rfl (fr.ev rfl)) ?_
  clear fr a; intro a fr
  refine fx_val (v := .bool true) fr (fr.want rfl rfl rfl) rfl (by first | decide | simp) (x_eql rfl (fr.ev rfl) rfl rfl) ?_
  clear fr a; intro a fr
  refine fx_val (v := .bool true) fr rfl rfl (by first | decide | simp) (x_pick_t rfl (fr.ev rfl) (fr.ev rfl)) ?_
  clear fr a; intro a fr
  refine fx_val (v := .bool true) fr rfl rfl (by first | decide | simp) (x_move rfl (fr.ev rfl)) ?_
  clear fr a; intro a fr
  refine fx_val (v := .int .i64 1) fr (fr.want rfl rfl rfl) rfl (by first | decide | simp) (x_move rfl (fr.ev rfl)) ?_
  clear fr a; intro a fr
  refine fx_val (v := .bool true) fr (fr.want rfl rfl rfl) rfl (by first | decide | simp) (x_eql rfl (fr.ev rfl) rfl rfl) ?_
  clear fr a; intro a fr
  refine fx_val (v := .bool true) fr rfl rfl (by first | decide | simp) (x_pick_t rfl (fr.ev rfl) (fr.ev rfl)) ?_
  clear fr a; intro a fr
  refine fx_val (v := .bool true) fr rfl rfl (by first | decide | simp) (x_move rfl (fr.ev rfl)) ?_
  clear fr a; intro a fr
  refine fx_val (v := .int .i64 1) fr (fr.want rfl rfl rfl) rfl (by first | decide | simp) (x_move rfl (fr.ev rfl)) ?_
  clear fr a; intro a fr
  refine fx_val (v := .bool true) fr (fr.want rfl rfl rfl) rfl (by first | decide | simp) (x_eql rfl (fr.ev rfl) rfl rfl) ?_
  clear fr a; intro a fr
  refine fx_val (v := .bool true) fr rfl rfl (by first | decide | simp) (x_pick_t rfl (fr.ev rfl) (fr.ev rfl)) ?_
  clear fr a; intro a fr
  refine fx_val (v := .bool true) fr rfl rfl (by first | decide | simp) (x_move rfl (fr.ev rfl)) ?_
  clear fr a; intro a fr
  refine fx_val (v := .pointer none) fr (fr.want rfl rfl rfl) rfl (by first | decide | simp) (x_move rfl (fr.ev rfl)) ?_
  clear fr a; intro a fr
  refine fx_val (v := .bool true) fr (fr.want rfl rfl rfl) rfl (by first | decide | simp) (x_peql Try.underlying25 rfl (fr.ev rfl) rfl rfl) ?_
  clear fr a; intro a fr
  refine fx_val (v := .bool true) fr rfl rfl (by first | decide | simp) (x_pick_t rfl (fr.ev rfl) (fr.ev rfl)) ?_
  clear fr a; intro a fr
  refine fx_val (v := .bool true) fr rfl rfl (by first | decide | simp) (x_move rfl (fr.ev rfl)) ?_
  clear fr a; intro a fr
  refine fx_val (v := .int .i64 1) fr (fr.want rfl rfl rfl) rfl (by first | decide | simp) (x_move rfl (fr.ev rfl)) ?_
  clear fr a; intro a fr
  refine fx_val (v := .bool true) fr (fr.want rfl rfl rfl) rfl (by first | decide | simp) (x_eql rfl (fr.ev rfl) rfl rfl) ?_
  clear fr a; intro a fr
  refine fx_val (v := .bool true) fr rfl rfl (by first | decide | simp) (x_pick_t rfl (fr.ev rfl) (fr.ev rfl)) ?_
  clear fr a; intro a fr
  refine fx_val (v := .bool true) fr rfl rfl (by first | decide | simp) (x_move rfl (fr.ev rfl)) ?_
  clear fr a; intro a fr
  refine fx_val (v := .int .i64 4) fr (fr.want rfl rfl rfl) rfl (by first | decide | simp) (x_move rfl (fr.ev rfl)) ?_
  clear fr a; intro a fr
  refine fx_val (v := .bool true) fr (fr.want rfl rfl rfl) rfl (by first | decide | simp) (x_eql rfl (fr.ev rfl) rfl rfl) ?_
  clear fr a; intro a fr
  refine fx_val (v := .int .u32 line) fr (fr.want rfl rfl rfl) rfl (by first | decide | simp) (x_move rfl (fr.ev rfl)) ?_
  clear fr a; intro a fr
  refine fx_val (v := .bool true) fr (fr.want rfl rfl rfl) rfl (by first | decide | simp) (x_gtr rfl (fr.ev rfl) rfl (decide_eq_true (show 0 < line by omega))) ?_
  clear fr a; intro a fr
  refine fx_val (v := .bool true) fr (fr.want rfl rfl rfl) rfl (by first | decide | simp) (x_beql Try.underlying4 rfl (fr.ev rfl) (fr.ev rfl) rfl) ?_
  clear fr a; intro a fr
  refine fx_val (v := .bool true) fr rfl rfl (by first | decide | simp) (x_pick_t rfl (fr.ev rfl) (fr.ev rfl)) ?_
  clear fr a; intro a fr
  refine fx_val (v := .bool true) fr rfl rfl (by first | decide | simp) (x_move rfl (fr.ev rfl)) ?_
  clear fr a; intro a fr
  refine fx_val (v := .pointer none) fr (fr.want rfl rfl rfl) rfl (by first | decide | simp) (x_move rfl (fr.ev rfl)) ?_
  clear fr a; intro a fr
  refine fx_call fr (fr.want rfl rfl rfl) rfl (by first | decide | simp) (x_call (vs := [.pointer none]) rfl rfl ⟨(fr.ev rfl), trivial⟩ Try.func24 nm24 rfl) (memory_nil _) ?_
  clear fr a
  rintro v w50 ⟨rfl, hN51⟩ a fr
  replace B4 := B4.new hN51
  replace B9 := B9.new hN51
  replace B20 := B20.new hN51
  replace hI29 := hI29.new hN51
  replace H37 := H37.new hN51
  replace B46 := B46.new hN51
  replace hF := hF.trNew hN51
  refine fx_val (v := .bool true) fr (fr.want rfl rfl rfl) rfl (by first | decide | simp) (x_peql Try.underlying61 rfl (fr.ev rfl) rfl rfl) ?_
  clear fr a; intro a fr
  refine fx_val (v := .bool true) fr rfl rfl (by first | decide | simp) (x_pick_t rfl (fr.ev rfl) (fr.ev rfl)) ?_
  clear fr a; intro a fr
  refine fx_val (v := .bool true) fr rfl rfl (by first | decide | simp) (x_move rfl (fr.ev rfl)) ?_
  clear fr a; intro a fr
  refine fx_val (v := .pointer none) fr (fr.want rfl rfl rfl) rfl (by first | decide | simp) (x_move rfl (fr.ev rfl)) ?_
  clear fr a; intro a fr
  refine fx_call fr (fr.want rfl rfl rfl) rfl (by first | decide | simp) (x_call (vs := [.pointer none]) rfl rfl ⟨(fr.ev rfl), trivial⟩ Try.func10 nm10 rfl) (lines_nil _) ?_
  clear fr a
  rintro v w9 ⟨rfl, hw9⟩ a fr
  obtain rfl := hw9.symm
  refine fx_val (v := .bool true) fr (fr.want rfl rfl rfl) rfl (by first | decide | simp) (x_eql rfl (fr.ev rfl) rfl rfl) ?_
  clear fr a; intro a fr
  refine fx_val (v := .bool true) fr rfl rfl (by first | decide | simp) (x_pick_t rfl (fr.ev rfl) (fr.ev rfl)) ?_
  clear fr a; intro a fr
  refine fx_val (v := .bool true) fr rfl rfl (by first | decide | simp) (x_move rfl (fr.ev rfl)) ?_
  clear fr a; intro a fr
  refine fx_val (v := .pointer none) fr (fr.want rfl rfl rfl) rfl (by first | decide | simp) (x_move rfl (fr.ev rfl)) ?_
  clear fr a; intro a fr
  refine fx_call fr (fr.want rfl rfl rfl) rfl (by first | decide | simp) (x_call (vs := [.pointer none]) rfl rfl ⟨(fr.ev rfl), trivial⟩ Try.func17 nm17 rfl) (idle_nil _) ?_
  clear fr a
  rintro v w54 ⟨rfl, hN55⟩ a fr
  replace B4 := B4.new hN55
  replace B9 := B9.new hN55
  replace B20 := B20.new hN55
  replace hI29 := hI29.new hN55
  replace H37 := H37.new hN55
  replace B46 := B46.new hN55
  replace hF := hF.trNew hN55
  refine fx_val (v := .bool true) fr (fr.want rfl rfl rfl) rfl (by first | decide | simp) (x_not rfl (fr.ev rfl) rfl) ?_
  clear fr a; intro a fr
  refine fx_val (v := .bool true) fr rfl rfl (by first | decide | simp) (x_pick_t rfl (fr.ev rfl) (fr.ev rfl)) ?_
  clear fr a; intro a fr
  refine fx_val (v := .bool true) fr rfl rfl (by first | decide | simp) (x_move rfl (fr.ev rfl)) ?_
  clear fr a; intro a fr
  refine fx_val (v := .pointer none) fr (fr.want rfl rfl rfl) rfl (by first | decide | simp) (x_move rfl (fr.ev rfl)) ?_
  clear fr a; intro a fr
  refine fx_call fr (fr.want rfl rfl rfl) rfl (by first | decide | simp) (x_call (vs := [.pointer none]) rfl rfl ⟨(fr.ev rfl), trivial⟩ Try.func18 nm18 rfl) (hcopy_nil _) ?_
  clear fr a
  rintro v w56 ⟨rfl, hN57⟩ a fr
  replace B4 := B4.new hN57
  replace B9 := B9.new hN57
  replace B20 := B20.new hN57
  replace hI29 := hI29.new hN57
  replace H37 := H37.new hN57
  replace B46 := B46.new hN57
  replace hF := hF.trNew hN57
  refine fx_val (v := .bool true) fr (fr.want rfl rfl rfl) rfl (by first | decide | simp) (x_peql Try.underlying25 rfl (fr.ev rfl) rfl rfl) ?_
  clear fr a; intro a fr
  refine fx_val (v := .bool true) fr rfl rfl (by first | decide | simp) (x_pick_t rfl (fr.ev rfl) (fr.ev rfl)) ?_
  clear fr a; intro a fr
  refine fx_val (v := .bool true) fr rfl rfl (by first | decide | simp) (x_move rfl (fr.ev rfl)) ?_
  clear fr a; intro a fr
  refine fx_call fr (fr.want rfl rfl rfl) rfl (by first | decide | simp) (x_call (vs := []) rfl rfl trivial Try.func11 nm11 rfl) (known_c _) ?_
  clear fr a
  rintro v w58 ⟨rfl, hN59⟩ a fr
  replace B4 := B4.new hN59
  replace B9 := B9.new hN59
  replace B20 := B20.new hN59
  replace hI29 := hI29.new hN59
  replace H37 := H37.new hN59
  replace B46 := B46.new hN59
  replace hF := hF.trNew hN59
  refine fx_val (v := .bool true) fr rfl rfl (by first | decide | simp) (x_pick_t rfl (fr.ev rfl) (fr.ev rfl)) ?_
  clear fr a; intro a fr
  refine fx_val (v := .bool true) fr rfl rfl (by first | decide | simp) (x_assign rfl (fr.ev rfl)) ?_
  clear fr a; intro a fr
  refine wpList_nil ?_
  refine fx_next ?_
  refine wp_ret ?_
  refine fx_ret fr [.tmp 4] [.bool true] rfl ⟨rfl, trivial⟩ rfl ?_
  exact ⟨_, rfl, rfl, hF⟩
theorem homenil_c (m : Msg) (line : Int) (hln : 0 ≤ line ∧ line < 4294967296) (w : World) : Calls Try.prog 8 #[.agg (msgE.arr m), .int .u32 line] w (Ret fun v w' => v = .bool true ∧ New w w') := by
  by_cases h : line = 0
  · exact homenil_0 m line hln h w
  · exact homenil_1 m line hln (by omega) w
end Go.Proofs.Ytdiaemlgghfecaa
namespace Go.Proofs.Ytdiaemlgghfecaa
open Go.RowKit Go.ChangeShapes Go.WideShapes Go.ChangeAt Go.Deep
section
variable {H : Type} {enc : TypeId × Value → H} {P : Program} {w : World} {base : Nat} {spare : Nat → Bool} {held : Bool} {fuel : Nat} {cs : List Value} {x : DataW H × List MemPlace}
theorem piece {q n : Nat} {a b : List Value} (h1 : (cs.drop q).take n = a) (h2 : cs.drop (q + n) = b) : cs.drop q = a ++ b := by
  rw [← h1, ← h2, ← List.drop_drop, List.take_append_drop]
theorem trod_ints {t e n : Nat} {k : IntKind} (ht : P.underlying t = some (.array n e)) (he : P.underlying e = some (.int k)) (hC : P.cellsOf e = 1) (hCt : P.cellsOf t = n) (h : DataW.trod enc P w base spare held fuel t cs = some x) :
    ∃ l : List Int, l.length = n ∧ cs = l.map (Value.int k) ∧ ∀ a ∈ l, (Lit.int k a).wf = true := by
  obtain ⟨xs, m, _, _, hl, hxl, hi⟩ := DataW.trod_array ht h
  rw [hC] at hi
  rw [hCt] at hl
  have hb : ∀ i, (h : i < cs.length) → ∃ a : Int, cs[i] = .int k a ∧ (Lit.int k a).wf = true := by
    intro i h
    have h2 := hi i (by omega)
    have e1 : (cs.drop (i * 1)).take 1 = [cs[i]] := by
      rw [Nat.mul_one, List.drop_eq_getElem_cons h]
      rfl
    rw [e1, List.getElem?_eq_getElem (show i < xs.length by omega)] at h2
    obtain ⟨a, e0, _, wa⟩ := DataW.trod_int he h2
    exact ⟨a, by simpa using e0, wa⟩
  obtain ⟨f, hf⟩ : ∃ f : (i : Fin cs.length) → Int, ∀ i : Fin cs.length, cs[i.1] = .int k (f i) ∧ (Lit.int k (f i)).wf = true := ⟨fun i => (hb i i.2).choose, fun i => (hb i i.2).choose_spec⟩
  refine ⟨List.ofFn f, by simp [hl], ?_, ?_⟩
  · apply List.ext_getElem
    · simp
    · intro i h1 h2
      rw [(hf ⟨i, h1⟩).1]
      simp
  · intro a ha
    obtain ⟨i, rfl⟩ := List.mem_ofFn.1 ha
    exact (hf i).2
theorem open_rec {α : Type} [DecidableEq α] {E : Enc P α} {OK : α → Prop} {fs : Array Field} {r : Reach} {b0 : Nat} {v : Value} {d : DataW H} {p : List MemPlace} (ht : P.underlying E.T = some (.struct fs))
    (hel : ∀ fuel cs x, DataW.trod enc P w base (fun _ => true) held fuel E.T cs = some x → ∃ m, OK m ∧ cs = E.cells m) (hv : Value.okWide P w r b0 E.T v) (h : DataW.Trod enc P w base (fun _ => true) held E.T v d p) :
    ∃ m, OK m ∧ v = .agg (E.arr m) := by
  obtain ⟨cs, rfl, hsz⟩ := okWide_struct ht hv
  obtain ⟨fuel, hf⟩ := h
  obtain ⟨m, hm, hc⟩ := hel _ _ _ hf
  refine ⟨m, hm, congrArg Value.agg ?_⟩
  have : cs.toList = E.cells m := hc
  apply Array.toList_inj.1
  rw [this, E.toList]
end
end Go.Proofs.Ytdiaemlgghfecaa
namespace Go.Proofs.Ytdiaemlgghfecaa
open Go.RowKit
def byE : Enc Try.prog UInt8 where
  T := 5
  n := 1
  cells := fun x => [u8v x]
  len := fun _ => rfl
  one := fun x v hv => by
    simp at hv
    subst hv
    rfl
  pos := by decide
structure Hact where
  cache : Int
  line : Int
  kind : Int
  byte : Int
  hb : 0 ≤ byte ∧ byte < 256
theorem Hact.ext_iff' (m m' : Hact) : m = m' ↔ m.cache = m'.cache ∧ m.line = m'.line ∧ m.kind = m'.kind ∧ m.byte = m'.byte := by
  constructor
  · rintro rfl; simp
  · rintro ⟨h1, h2, h3, h4⟩
    cases m; cases m'
    simp only [Hact.mk.injEq]
    exact ⟨h1, h2, h3, h4⟩
instance : DecidableEq Hact := fun s t => decidable_of_iff _ (Hact.ext_iff' s t).symm
def Hact.cells (q : Hact) : List Value := [.int .i64 q.cache, .int .i64 q.line, .int .i64 q.kind, .int .u8 q.byte]
structure EC where
  o : Int
  sh : Sh
  busy : Bool
  asks : Int
  kind : Int
  waits : Int
  told : Bool
  A : Option Addr
  n : Nat
  c : Nat
  deriving DecidableEq
def EC.cells (x : EC) : List Value := [.int .i64 x.o, .bool x.sh.a, .bool x.sh.b, .bool x.sh.c, .bool x.sh.d, .bool x.busy, .int .i64 x.asks, .int .i64 x.kind, .int .i64 x.waits, .bool x.told, .slice x.A x.n x.c]
def ecE : Enc Try.prog EC where
  T := 42
  n := 11
  cells := EC.cells
  len := fun q => rfl
  one := fun q v hv => by
    simp only [EC.cells, List.mem_cons, List.mem_nil_iff, or_false] at hv
    rcases hv with rfl | rfl | rfl | rfl | rfl | rfl | rfl | rfl | rfl | rfl | rfl <;> rfl
  pos := by decide
def ec0 : EC := ⟨-1, sh0, false, 0, 0, 0, false, none, 0, 0⟩
def ecOf (d : Ent) (A : Option Addr) (c : Nat) : EC := ⟨d.o, d.sh, d.busy, d.asks, d.kind, d.waits, d.told, A, d.q.length, c⟩
structure RefAt (w : World) (F : Nat → Prop) (A : Option Addr) (cap : Nat) (B : Option Addr) (cb : Nat) (h : HD) (X : List EC) : Prop where
  vb : View byE w A cap h.bs
  ve : View ecE w B cb X
  len : X.length = h.E.length
  at_ : ∀ i, i < X.length → ∃ Q qc, X.getD i ec0 = ecOf (entOf h.E i) Q qc ∧ View msgE w Q qc (entOf h.E i).q ∧ ∀ g, inA Q g → F g
  fa : ∀ g, inA A g → F g
  fb : ∀ g, inA B g → F g
  lt : ∀ {g}, F g → g < w.heap.size
section
variable {w w' : World} {F S : Nat → Prop} {A B : Option Addr} {cap cb : Nat} {h : HD} {X : List EC}
theorem RefAt.only (H : RefAt w F A cap B cb h X) (k : Only S w w') (hs : ∀ g, F g → ¬ S g) : RefAt w' F A cap B cb h X :=
  ⟨H.vb.only k fun g hg => hs g (H.fa g hg), H.ve.only k fun g hg => hs g (H.fb g hg), H.len, fun i hi => by
    obtain ⟨Q, qc, h1, h2, h3⟩ := H.at_ i hi
    exact ⟨Q, qc, h1, h2.only k fun g hg => hs g (h3 g hg), h3⟩, H.fa, H.fb, fun hg => Nat.lt_of_lt_of_le (H.lt hg) k.size⟩
theorem RefAt.new (H : RefAt w F A cap B cb h X) (k : New w w') : RefAt w' F A cap B cb h X := H.only k fun _ _ => id
theorem RefAt.apart (H : RefAt w F A cap B cb h X) {c : Nat} (hc : w.heap.size ≤ c) : ¬ F c := fun hi => by have := H.lt hi; omega
end
end Go.Proofs.Ytdiaemlgghfecaa
namespace Go.Proofs.Ytdiaemlgghfecaa
open Go.RowKit Go.ChangeShapes Go.WideShapes Go.ChangeAt
section
variable {H : Type} {enc : TypeId × Value → H} {w : World} {base : Nat} {spare : Nat → Bool} {held : Bool} {fuel : Nat} {cs : List Value} {x : DataW H × List MemPlace}
theorem cellsMSG : Try.prog.cellsOf 36 = 20 := by kernel_rfl
theorem cellsKIND : Try.prog.cellsOf 33 = 1 := by kernel_rfl
theorem cellsU32 : Try.prog.cellsOf 24 = 1 := by kernel_rfl
theorem cellsARR : Try.prog.cellsOf 34 = 16 := by kernel_rfl
theorem cellsU8 : Try.prog.cellsOf 5 = 1 := by kernel_rfl
theorem cellsI64 : Try.prog.cellsOf 3 = 1 := by kernel_rfl
theorem wf_u32 {a : Int} (h : (Lit.int .u32 a).wf = true) : 0 ≤ a ∧ a < 4294967296 := by
  simp [Lit.wf, IntKind.min, IntKind.max, IntKind.signed, IntKind.bits] at h
  omega
theorem wf_u8 {a : Int} (h : (Lit.int .u8 a).wf = true) : 0 ≤ a ∧ a < 256 := by
  simp [Lit.wf, IntKind.min, IntKind.max, IntKind.signed, IntKind.bits] at h
  omega
theorem trod_msg (h : DataW.trod enc Try.prog w base spare held fuel 36 cs = some x) : ∃ m : Msg, True ∧ cs = m.cells := by
  obtain ⟨xs, n, _, _, hl, hlen, hg⟩ := DataW.trod_struct Try.underlying36 h
  rw [cellsMSG] at hl
  match xs, hlen with
  | [y0, y1, y2, y3, y4], _ =>
    have h0 : DataW.trod enc Try.prog w base spare held n 33 ((cs.drop 0).take (Try.prog.cellsOf 33)) = some y0 := hg 0 _ rfl
    rw [cellsKIND] at h0
    have h1 : DataW.trod enc Try.prog w base spare held n 3 ((cs.drop 1).take (Try.prog.cellsOf 3)) = some y1 := hg 1 _ rfl
    rw [cellsI64] at h1
    have h2 : DataW.trod enc Try.prog w base spare held n 3 ((cs.drop 2).take (Try.prog.cellsOf 3)) = some y2 := hg 2 _ rfl
    rw [cellsI64] at h2
    have h3 : DataW.trod enc Try.prog w base spare held n 24 ((cs.drop 3).take (Try.prog.cellsOf 24)) = some y3 := hg 3 _ rfl
    rw [cellsU32] at h3
    have h4 : DataW.trod enc Try.prog w base spare held n 34 ((cs.drop 4).take (Try.prog.cellsOf 34)) = some y4 := hg 4 _ rfl
    rw [cellsARR] at h4
    obtain ⟨a0, e0, _⟩ := DataW.trod_int Try.underlying33 h0
    obtain ⟨a1, e1, _⟩ := DataW.trod_int Try.underlying3 h1
    obtain ⟨a2, e2, _⟩ := DataW.trod_int Try.underlying3 h2
    obtain ⟨a3, e3, _, w3⟩ := DataW.trod_int Try.underlying24 h3
    obtain ⟨l, hll, e4, hw⟩ := trod_ints Try.underlying34 Try.underlying5 cellsU8 cellsARR h4
    refine ⟨⟨a0, a1, a2, a3, ⟨l, hll, fun a ha => wf_u8 (hw a ha)⟩, wf_u32 w3⟩, trivial, ?_⟩
    have p5 : cs.drop 20 = [] := List.drop_eq_nil_of_le (by omega)
    have p4 := piece e4 p5
    have p3 := piece e3 p4
    have p2 := piece e2 p3
    have p1 := piece e1 p2
    have p0 := piece e0 p1
    rw [List.drop_zero] at p0
    rw [p0]
    simp [Msg.cells]
set_option maxRecDepth 100000 in
theorem open_msg {r : Reach} {b0 : Nat} {v : Value} {d : DataW H} {p : List MemPlace} (hv : Value.okWide Try.prog w r b0 36 v) (h : DataW.Trod enc Try.prog w base (fun _ => true) held 36 v d p) : ∃ m : Msg, True ∧ v = .agg (msgE.arr m) :=
  open_rec (E := msgE) (OK := fun _ => True) Try.underlying36 (fun _ _ _ => trod_msg) hv h
end
end Go.Proofs.Ytdiaemlgghfecaa
namespace Go.Proofs.Ytdiaemlgghfecaa
open Go.RowKit
set_option linter.unusedVariables false
theorem walk_HomeNil (w : World) (v0 : Value) (hv0 : ∃ m : Msg, True ∧ v0 = .agg (msgE.arr m)) (a1 : Int) (h1 : (Lit.int .u32 a1).wf = true) : Calls Try.prog 8 #[v0, .int .u32 a1] w fun e w' => e = .returned (.bool true) ∧ Below w.heap.size w w' := by
  obtain ⟨m0, -, rfl⟩ := hv0
  refine (homenil_c m0 a1 (wf_u32 h1) w).mono ?_
  rintro e w' ⟨v, rfl, rfl, hn⟩
  exact ⟨rfl, hn.nb⟩
end Go.Proofs.Ytdiaemlgghfecaa
