/-
  Part 4 of what the claim stands on: walks through the code, plain laws.
-/
import Derived.Test.YtdiaemlgghfecaaZApart3
namespace Go.Proofs.Ytdiaemlgghfecaa
open Go.RowKit
set_option maxRecDepth 100000 in
set_option maxHeartbeats 4000000 in
theorem take_a1 {w : World} {Fp : Nat → Prop} {b : Nat} {h : HD} (H : HomeAt w Fp b h) (m : Msg) (hx : chk m ≠ 0) : Calls Try.prog 12 #[.pointer (some ⟨b, 0, none⟩), .agg (msgE.arr m)] w (Ret fun v w' => v = .tuple #[.slice none 0 0, .int .i64 2] ∧ HomeAt w' Fp b h ∧ New w w') := by
  have H0 := H
  obtain ⟨bi, ig, cap, r, FpE, L, c, hB, hI, hM, hP, hEn⟩ := H0
  have hmn := m.hn
  have hpos := hI.pos
  have ne_b_bi := hP.ne_b_bi
  have ne_b_ig := hP.ne_b_ig
  have ne_bi_ig : NE bi ig := hI.ne
  have ap_FpE_b := hP.fb
  have ap_FpE_bi := hP.fbi
  have ap_FpE_ig := hP.fig
  have hrE := (hM.foot r).2 (.inl rfl)
  have gA_FpE := fun g (hg : FpE g) => (Or.inl trivial : True ∨ w.heap.size ≤ g)
  have gA_Fp := fun g (hg : Fp g) => (Or.inl trivial : True ∨ w.heap.size ≤ g)
  have hF := Only.refl (fun _ => False) w
  refine fx_enterD Try.func12 rfl (N := (71, [])) (T := [(0, .pointer (some ⟨b, 0, none⟩)), (1, .agg (msgE.arr m))]) rfl (show 2 ≤ 71 by decide) ⟨rfl, rfl, trivial⟩ fun a fr => ?_
  refine wp_seq ?_
  refine wp_region_lit ?_  -- region 0
  refine fx_new fr rfl rfl (by first | decide | simp) (x_box (cs := msgE.arr m) rfl (fr.ev rfl) rfl) ?_
  clear fr a
  intro b1 w2 hN3 B4 hb5 a fr
  have ne_b_b1 : NE b b1 := NE.mk (Nat.lt_of_lt_of_le hB.lt hb5)
  have ne_bi_b1 : NE bi b1 := NE.mk (Nat.lt_of_lt_of_le hI.lt.1 hb5)
  have ne_ig_b1 : NE ig b1 := NE.mk (Nat.lt_of_lt_of_le hI.lt.2 hb5)
  have ap_FpE_b1 : ¬ FpE b1 := hM.apart hb5
  have ap_Fp_b1 : ¬ Fp b1 := H.apart hb5
  have g_b1 := Nat.le_trans hF.size hb5
  replace hB := hB.new hN3
  replace hI := hI.new hN3
  replace hM := hM.new hN3
  replace H := H.new hN3
  replace hF := hF.trNew hN3
  refine fx_new fr rfl rfl (by first | decide | simp) (x_alloc (z := .slice none 0 0) (cs := #[.slice none 0 0]) rfl (by kernel_rfl) rfl) ?_
  clear fr a
  intro b6 w7 hN8 B9 hb10 a fr
  have ne_b_b6 : NE b b6 := NE.mk (Nat.lt_of_lt_of_le hB.lt hb10)
  have ne_bi_b6 : NE bi b6 := NE.mk (Nat.lt_of_lt_of_le hI.lt.1 hb10)
  have ne_ig_b6 : NE ig b6 := NE.mk (Nat.lt_of_lt_of_le hI.lt.2 hb10)
  have ap_FpE_b6 : ¬ FpE b6 := hM.apart hb10
  have ap_Fp_b6 : ¬ Fp b6 := H.apart hb10
  have ne_b1_b6 : NE b1 b6 := NE.mk (Nat.lt_of_lt_of_le B4.lt hb10)
  have g_b6 := Nat.le_trans hF.size hb10
  replace hB := hB.new hN8
  replace hI := hI.new hN8
  replace hM := hM.new hN8
  replace H := H.new hN8
  replace B4 := B4.new hN8
  replace hF := hF.trNew hN8
  refine fx_new fr rfl rfl (by first | decide | simp) (x_alloc (z := .int .i64 0) (cs := #[.int .i64 0]) rfl (by kernel_rfl) rfl) ?_
  clear fr a
  intro b11 w12 hN13 B14 hb15 a fr
  have ne_b_b11 : NE b b11 := NE.mk (Nat.lt_of_lt_of_le hB.lt hb15)
  have ne_bi_b11 : NE bi b11 := NE.mk (Nat.lt_of_lt_of_le hI.lt.1 hb15)
  have ne_ig_b11 : NE ig b11 := NE.mk (Nat.lt_of_lt_of_le hI.lt.2 hb15)
  have ap_FpE_b11 : ¬ FpE b11 := hM.apart hb15
  have ap_Fp_b11 : ¬ Fp b11 := H.apart hb15
  have ne_b1_b11 : NE b1 b11 := NE.mk (Nat.lt_of_lt_of_le B4.lt hb15)
  have ne_b6_b11 : NE b6 b11 := NE.mk (Nat.lt_of_lt_of_le B9.lt hb15)
  have g_b11 := Nat.le_trans hF.size hb15
  replace hB := hB.new hN13
  replace hI := hI.new hN13
  replace hM := hM.new hN13
  replace H := H.new hN13
  replace B4 := B4.new hN13
  replace B9 := B9.new hN13
  replace hF := hF.trNew hN13
  refine wpList_nil ?_
  refine fx_next ?_
  refine wp_seq ?_
  refine wp_block ?_
  refine wp_seq ?_
  refine wp_region_lit ?_  -- region 1
  refine fx_val (v := .pointer (some ⟨b, 0, none⟩)) fr rfl rfl (by first | decide | simp) (x_move rfl (fr.ev rfl)) ?_
  clear fr a; intro a fr
  refine fx_call fr rfl rfl (by first | decide | simp) (x_call (vs := [.pointer (some ⟨b, 0, none⟩)]) rfl rfl ⟨(fr.ev rfl), trivial⟩ Try.func27 nm27 rfl) (hnone_c hB) ?_
  clear fr a
  rintro v w9 ⟨rfl, hw9⟩ a fr
  obtain rfl := hw9.symm
  refine fx_val (v := .bool false) fr rfl rfl (by first | decide | simp) (x_assign rfl (fr.ev rfl)) ?_
  clear fr a; intro a fr
  refine wpList_nil ?_
  refine fx_next ?_
  refine fx_cond_f fr rfl ?_
  refine wp_seq ?_
  refine wp_region_lit ?_  -- region 3
  refine fx_val (v := .agg (msgE.arr m)) fr rfl rfl (by first | decide | simp) (x_loadE (E := msgE) ag36 rfl rfl (fr.ev rfl) (B4.rangeE msgE)) ?_
  clear fr a; intro a fr
  refine fx_call fr rfl rfl (by first | decide | simp) (x_call (vs := [.agg (msgE.arr m)]) rfl rfl ⟨(fr.ev rfl), trivial⟩ Try.func29 nm29 rfl) (chk_c m _) ?_
  clear fr a
  rintro v w18 ⟨rfl, hN19⟩ a fr
  replace hB := hB.new hN19
  replace hI := hI.new hN19
  replace hM := hM.new hN19
  replace H := H.new hN19
  replace B4 := B4.new hN19
  replace B9 := B9.new hN19
  replace B14 := B14.new hN19
  replace hF := hF.trNew hN19
  refine fx_val (v := .bool true) fr rfl rfl (by first | decide | simp) (x_neq rfl (fr.ev rfl) rfl (decide_eq_true hx)) ?_
  clear fr a; intro a fr
  refine fx_val (v := .bool true) fr rfl rfl (by first | decide | simp) (x_move rfl (fr.ev rfl)) ?_
  clear fr a; intro a fr
  refine fx_skip fr (fr.unwant rfl rfl rfl (by decide)) rfl (by first | decide | simp) ?_
  clear fr a; intro a fr
  refine fx_skip fr (fr.unwant rfl rfl rfl (by decide)) rfl (by first | decide | simp) ?_
  clear fr a; intro a fr
  refine fx_skip fr (fr.unwant rfl rfl rfl (by decide)) rfl (by first | decide | simp) ?_
  clear fr a; intro a fr
  refine fx_val (v := .bool true) fr rfl rfl (by first | decide | simp) (x_pick_t rfl (fr.ev rfl) rfl) ?_
  clear fr a; intro a fr
  refine fx_val (v := .bool true) fr rfl rfl (by first | decide | simp) (x_assign rfl (fr.ev rfl)) ?_
  clear fr a; intro a fr
  refine wpList_nil ?_
  refine fx_next ?_
  refine fx_cond_t fr rfl ?_
  refine wp_seq ?_
  refine wp_region_lit ?_  -- region 4
  refine fx_store1 sz23 rfl rfl rfl (fr.ev rfl) rfl rfl B9 (show 0 < 1 by decide) (cs' := #[.slice none 0 0]) rfl fun w20 hO21 hBq => ?_
  replace hB := hB.only hO21 (by first | exact ne_b_b6 | exact ne_b6_b.symm | (show ¬ b = b6; omega))
  replace hI := hI.only hO21 (by first | exact ne_bi_b6 | exact ne_b6_bi.symm | (show ¬ bi = b6; omega)) (by first | exact ne_ig_b6 | exact ne_b6_ig.symm | (show ¬ ig = b6; omega))
  replace hM := hM.only hO21 (ne1P ap_FpE_b6)
  replace H := H.only hO21 (ne1P ap_Fp_b6)
  replace B4 := B4.only hO21 (by first | exact ne_b1_b6 | exact ne_b6_b1.symm | (show ¬ b1 = b6; omega))
  replace B14 := B14.only hO21 (by first | exact ne_b11_b6 | exact ne_b6_b11.symm | (show ¬ b11 = b6; omega))
  replace hF := hF.loc hO21 (.inr g_b6)
  replace B9 := hBq
  clear hBq
  refine fx_store1 sz37 rfl rfl rfl (fr.ev rfl) rfl rfl B14 (show 0 < 1 by decide) (cs' := #[.int .i64 2]) rfl fun w22 hO23 hBq => ?_
  replace hB := hB.only hO23 (by first | exact ne_b_b11 | exact ne_b11_b.symm | (show ¬ b = b11; omega))
  replace hI := hI.only hO23 (by first | exact ne_bi_b11 | exact ne_b11_bi.symm | (show ¬ bi = b11; omega)) (by first | exact ne_ig_b11 | exact ne_b11_ig.symm | (show ¬ ig = b11; omega))
  replace hM := hM.only hO23 (ne1P ap_FpE_b11)
  replace H := H.only hO23 (ne1P ap_Fp_b11)
  replace B4 := B4.only hO23 (by first | exact ne_b1_b11 | exact ne_b11_b1.symm | (show ¬ b1 = b11; omega))
  replace B9 := B9.only hO23 (by first | exact ne_b6_b11 | exact ne_b11_b6.symm | (show ¬ b6 = b11; omega))
  replace hF := hF.loc hO23 (.inr g_b11)
  replace B14 := hBq
  clear hBq
  refine wpList_nil ?_
  refine fx_next ?_
  refine wp_ret ?_
  refine fx_rb ?_
  refine fx_rt ?_
  refine fx_retD0 fr [.cell 4 23, .cell 5 37] [.slice none 0 0, .int .i64 2] rfl ⟨⟨_, rfl, x_loadV1 pl23 (B9.cell 0 rfl)⟩, ⟨_, rfl, x_loadV1 pl37 (B14.cell 0 rfl)⟩, trivial⟩ rfl ?_
  exact ⟨_, rfl, rfl, H, hF⟩
set_option maxRecDepth 100000 in
set_option maxHeartbeats 4000000 in
theorem take_a2 {w : World} {Fp : Nat → Prop} {b : Nat} {h : HD} (H : HomeAt w Fp b h) (m : Msg) (hc : ¬ chk m ≠ 0) (hx : m.dst ≠ 4) : Calls Try.prog 12 #[.pointer (some ⟨b, 0, none⟩), .agg (msgE.arr m)] w (Ret fun v w' => v = .tuple #[.slice none 0 0, .int .i64 2] ∧ HomeAt w' Fp b h ∧ New w w') := by
  have H0 := H
  obtain ⟨bi, ig, cap, r, FpE, L, c, hB, hI, hM, hP, hEn⟩ := H0
  have hmn := m.hn
  have hpos := hI.pos
  have ne_b_bi := hP.ne_b_bi
  have ne_b_ig := hP.ne_b_ig
  have ne_bi_ig : NE bi ig := hI.ne
  have ap_FpE_b := hP.fb
  have ap_FpE_bi := hP.fbi
  have ap_FpE_ig := hP.fig
  have hrE := (hM.foot r).2 (.inl rfl)
  have gA_FpE := fun g (hg : FpE g) => (Or.inl trivial : True ∨ w.heap.size ≤ g)
  have gA_Fp := fun g (hg : Fp g) => (Or.inl trivial : True ∨ w.heap.size ≤ g)
  have hF := Only.refl (fun _ => False) w
  refine fx_enterD Try.func12 rfl (N := (71, [])) (T := [(0, .pointer (some ⟨b, 0, none⟩)), (1, .agg (msgE.arr m))]) rfl (show 2 ≤ 71 by decide) ⟨rfl, rfl, trivial⟩ fun a fr => ?_
  refine wp_seq ?_
  refine wp_region_lit ?_  -- region 0
  refine fx_new fr rfl rfl (by first | decide | simp) (x_box (cs := msgE.arr m) rfl (fr.ev rfl) rfl) ?_
  clear fr a
  intro b1 w2 hN3 B4 hb5 a fr
  have ne_b_b1 : NE b b1 := NE.mk (Nat.lt_of_lt_of_le hB.lt hb5)
  have ne_bi_b1 : NE bi b1 := NE.mk (Nat.lt_of_lt_of_le hI.lt.1 hb5)
  have ne_ig_b1 : NE ig b1 := NE.mk (Nat.lt_of_lt_of_le hI.lt.2 hb5)
  have ap_FpE_b1 : ¬ FpE b1 := hM.apart hb5
  have ap_Fp_b1 : ¬ Fp b1 := H.apart hb5
  have g_b1 := Nat.le_trans hF.size hb5
  replace hB := hB.new hN3
  replace hI := hI.new hN3
  replace hM := hM.new hN3
  replace H := H.new hN3
  replace hF := hF.trNew hN3
  refine fx_new fr rfl rfl (by first | decide | simp) (x_alloc (z := .slice none 0 0) (cs := #[.slice none 0 0]) rfl (by kernel_rfl) rfl) ?_
  clear fr a
  intro b6 w7 hN8 B9 hb10 a fr
  have ne_b_b6 : NE b b6 := NE.mk (Nat.lt_of_lt_of_le hB.lt hb10)
  have ne_bi_b6 : NE bi b6 := NE.mk (Nat.lt_of_lt_of_le hI.lt.1 hb10)
  have ne_ig_b6 : NE ig b6 := NE.mk (Nat.lt_of_lt_of_le hI.lt.2 hb10)
  have ap_FpE_b6 : ¬ FpE b6 := hM.apart hb10
  have ap_Fp_b6 : ¬ Fp b6 := H.apart hb10
  have ne_b1_b6 : NE b1 b6 := NE.mk (Nat.lt_of_lt_of_le B4.lt hb10)
  have g_b6 := Nat.le_trans hF.size hb10
  replace hB := hB.new hN8
  replace hI := hI.new hN8
  replace hM := hM.new hN8
  replace H := H.new hN8
  replace B4 := B4.new hN8
  replace hF := hF.trNew hN8
  refine fx_new fr rfl rfl (by first | decide | simp) (x_alloc (z := .int .i64 0) (cs := #[.int .i64 0]) rfl (by kernel_rfl) rfl) ?_
  clear fr a
  intro b11 w12 hN13 B14 hb15 a fr
  have ne_b_b11 : NE b b11 := NE.mk (Nat.lt_of_lt_of_le hB.lt hb15)
  have ne_bi_b11 : NE bi b11 := NE.mk (Nat.lt_of_lt_of_le hI.lt.1 hb15)
  have ne_ig_b11 : NE ig b11 := NE.mk (Nat.lt_of_lt_of_le hI.lt.2 hb15)
  have ap_FpE_b11 : ¬ FpE b11 := hM.apart hb15
  have ap_Fp_b11 : ¬ Fp b11 := H.apart hb15
  have ne_b1_b11 : NE b1 b11 := NE.mk (Nat.lt_of_lt_of_le B4.lt hb15)
  have ne_b6_b11 : NE b6 b11 := NE.mk (Nat.lt_of_lt_of_le B9.lt hb15)
  have g_b11 := Nat.le_trans hF.size hb15
  replace hB := hB.new hN13
  replace hI := hI.new hN13
  replace hM := hM.new hN13
  replace H := H.new hN13
  replace B4 := B4.new hN13
  replace B9 := B9.new hN13
  replace hF := hF.trNew hN13
  refine wpList_nil ?_
  refine fx_next ?_
  refine wp_seq ?_
  refine wp_block ?_
  refine wp_seq ?_
  refine wp_region_lit ?_  -- region 1
  refine fx_val (v := .pointer (some ⟨b, 0, none⟩)) fr rfl rfl (by first | decide | simp) (x_move rfl (fr.ev rfl)) ?_
  clear fr a; intro a fr
  refine fx_call fr rfl rfl (by first | decide | simp) (x_call (vs := [.pointer (some ⟨b, 0, none⟩)]) rfl rfl ⟨(fr.ev rfl), trivial⟩ Try.func27 nm27 rfl) (hnone_c hB) ?_
  clear fr a
  rintro v w9 ⟨rfl, hw9⟩ a fr
  obtain rfl := hw9.symm
  refine fx_val (v := .bool false) fr rfl rfl (by first | decide | simp) (x_assign rfl (fr.ev rfl)) ?_
  clear fr a; intro a fr
  refine wpList_nil ?_
  refine fx_next ?_
  refine fx_cond_f fr rfl ?_
  refine wp_seq ?_
  refine wp_region_lit ?_  -- region 3
  refine fx_val (v := .agg (msgE.arr m)) fr rfl rfl (by first | decide | simp) (x_loadE (E := msgE) ag36 rfl rfl (fr.ev rfl) (B4.rangeE msgE)) ?_
  clear fr a; intro a fr
  refine fx_call fr rfl rfl (by first | decide | simp) (x_call (vs := [.agg (msgE.arr m)]) rfl rfl ⟨(fr.ev rfl), trivial⟩ Try.func29 nm29 rfl) (chk_c m _) ?_
  clear fr a
  rintro v w18 ⟨rfl, hN19⟩ a fr
  replace hB := hB.new hN19
  replace hI := hI.new hN19
  replace hM := hM.new hN19
  replace H := H.new hN19
  replace B4 := B4.new hN19
  replace B9 := B9.new hN19
  replace B14 := B14.new hN19
  replace hF := hF.trNew hN19
  refine fx_val (v := .bool false) fr rfl rfl (by first | decide | simp) (x_neq rfl (fr.ev rfl) rfl (decide_eq_false hc)) ?_
  clear fr a; intro a fr
  refine fx_val (v := .bool false) fr rfl rfl (by first | decide | simp) (x_move rfl (fr.ev rfl)) ?_
  clear fr a; intro a fr
  refine fx_val (v := .pointer (some ⟨b1, 2, none⟩)) fr (fr.want rfl rfl rfl) rfl (by first | decide | simp) (x_fieldAddr fo36_2 rfl (fr.ev rfl) rfl) ?_
  clear fr a; intro a fr
  refine fx_val (v := .int .i64 m.dst) fr (fr.want rfl rfl rfl) rfl (by first | decide | simp) (x_load1 pl3 rfl (fr.ev rfl) (B4.cell 2 rfl)) ?_
  clear fr a; intro a fr
  refine fx_val (v := .bool true) fr (fr.want rfl rfl rfl) rfl (by first | decide | simp) (x_neq rfl (fr.ev rfl) rfl (decide_eq_true hx)) ?_
  clear fr a; intro a fr
  refine fx_val (v := .bool true) fr rfl rfl (by first | decide | simp) (x_pick_f rfl (fr.ev rfl) (fr.ev rfl)) ?_
  clear fr a; intro a fr
  refine fx_val (v := .bool true) fr rfl rfl (by first | decide | simp) (x_assign rfl (fr.ev rfl)) ?_
  clear fr a; intro a fr
  refine wpList_nil ?_
  refine fx_next ?_
  refine fx_cond_t fr rfl ?_
  refine wp_seq ?_
  refine wp_region_lit ?_  -- region 4
  refine fx_store1 sz23 rfl rfl rfl (fr.ev rfl) rfl rfl B9 (show 0 < 1 by decide) (cs' := #[.slice none 0 0]) rfl fun w20 hO21 hBq => ?_
  replace hB := hB.only hO21 (by first | exact ne_b_b6 | exact ne_b6_b.symm | (show ¬ b = b6; omega))
  replace hI := hI.only hO21 (by first | exact ne_bi_b6 | exact ne_b6_bi.symm | (show ¬ bi = b6; omega)) (by first | exact ne_ig_b6 | exact ne_b6_ig.symm | (show ¬ ig = b6; omega))
  replace hM := hM.only hO21 (ne1P ap_FpE_b6)
  replace H := H.only hO21 (ne1P ap_Fp_b6)
  replace B4 := B4.only hO21 (by first | exact ne_b1_b6 | exact ne_b6_b1.symm | (show ¬ b1 = b6; omega))
  replace B14 := B14.only hO21 (by first | exact ne_b11_b6 | exact ne_b6_b11.symm | (show ¬ b11 = b6; omega))
  replace hF := hF.loc hO21 (.inr g_b6)
  replace B9 := hBq
  clear hBq
  refine fx_store1 sz37 rfl rfl rfl (fr.ev rfl) rfl rfl B14 (show 0 < 1 by decide) (cs' := #[.int .i64 2]) rfl fun w22 hO23 hBq => ?_
  replace hB := hB.only hO23 (by first | exact ne_b_b11 | exact ne_b11_b.symm | (show ¬ b = b11; omega))
  replace hI := hI.only hO23 (by first | exact ne_bi_b11 | exact ne_b11_bi.symm | (show ¬ bi = b11; omega)) (by first | exact ne_ig_b11 | exact ne_b11_ig.symm | (show ¬ ig = b11; omega))
  replace hM := hM.only hO23 (ne1P ap_FpE_b11)
  replace H := H.only hO23 (ne1P ap_Fp_b11)
  replace B4 := B4.only hO23 (by first | exact ne_b1_b11 | exact ne_b11_b1.symm | (show ¬ b1 = b11; omega))
  replace B9 := B9.only hO23 (by first | exact ne_b6_b11 | exact ne_b11_b6.symm | (show ¬ b6 = b11; omega))
  replace hF := hF.loc hO23 (.inr g_b11)
  replace B14 := hBq
  clear hBq
  refine wpList_nil ?_
  refine fx_next ?_
  refine wp_ret ?_
  refine fx_rb ?_
  refine fx_rt ?_
  refine fx_retD0 fr [.cell 4 23, .cell 5 37] [.slice none 0 0, .int .i64 2] rfl ⟨⟨_, rfl, x_loadV1 pl23 (B9.cell 0 rfl)⟩, ⟨_, rfl, x_loadV1 pl37 (B14.cell 0 rfl)⟩, trivial⟩ rfl ?_
  exact ⟨_, rfl, rfl, H, hF⟩
set_option maxRecDepth 100000 in
set_option maxHeartbeats 4000000 in
theorem take_r {w : World} {Fp : Nat → Prop} {b : Nat} {h : HD} (H : HomeAt w Fp b h) (m : Msg) (hc : ¬ chk m ≠ 0) (hx : ¬ m.dst ≠ 4) (hr : ((h.bs.length / 16 : Nat) : Int) ≤ m.line) : Calls Try.prog 12 #[.pointer (some ⟨b, 0, none⟩), .agg (msgE.arr m)] w (Ret fun v w' => v = .tuple #[.slice none 0 0, .int .i64 4] ∧ HomeAt w' Fp b h ∧ New w w') := by
  have H0 := H
  obtain ⟨bi, ig, cap, r, FpE, L, c, hB, hI, hM, hP, hEn⟩ := H0
  have hmn := m.hn
  have hpos := hI.pos
  have ne_b_bi := hP.ne_b_bi
  have ne_b_ig := hP.ne_b_ig
  have ne_bi_ig : NE bi ig := hI.ne
  have ap_FpE_b := hP.fb
  have ap_FpE_bi := hP.fbi
  have ap_FpE_ig := hP.fig
  have hrE := (hM.foot r).2 (.inl rfl)
  have gA_FpE := fun g (hg : FpE g) => (Or.inl trivial : True ∨ w.heap.size ≤ g)
  have gA_Fp := fun g (hg : Fp g) => (Or.inl trivial : True ∨ w.heap.size ≤ g)
  have hF := Only.refl (fun _ => False) w
  refine fx_enterD Try.func12 rfl (N := (71, [])) (T := [(0, .pointer (some ⟨b, 0, none⟩)), (1, .agg (msgE.arr m))]) rfl (show 2 ≤ 71 by decide) ⟨rfl, rfl, trivial⟩ fun a fr => ?_
  refine wp_seq ?_
  refine wp_region_lit ?_  -- region 0
  refine fx_new fr rfl rfl (by first | decide | simp) (x_box (cs := msgE.arr m) rfl (fr.ev rfl) rfl) ?_
  clear fr a
  intro b1 w2 hN3 B4 hb5 a fr
  have ne_b_b1 : NE b b1 := NE.mk (Nat.lt_of_lt_of_le hB.lt hb5)
  have ne_bi_b1 : NE bi b1 := NE.mk (Nat.lt_of_lt_of_le hI.lt.1 hb5)
  have ne_ig_b1 : NE ig b1 := NE.mk (Nat.lt_of_lt_of_le hI.lt.2 hb5)
  have ap_FpE_b1 : ¬ FpE b1 := hM.apart hb5
  have ap_Fp_b1 : ¬ Fp b1 := H.apart hb5
  have g_b1 := Nat.le_trans hF.size hb5
  replace hB := hB.new hN3
  replace hI := hI.new hN3
  replace hM := hM.new hN3
  replace H := H.new hN3
  replace hF := hF.trNew hN3
  refine fx_new fr rfl rfl (by first | decide | simp) (x_alloc (z := .slice none 0 0) (cs := #[.slice none 0 0]) rfl (by kernel_rfl) rfl) ?_
  clear fr a
  intro b6 w7 hN8 B9 hb10 a fr
  have ne_b_b6 : NE b b6 := NE.mk (Nat.lt_of_lt_of_le hB.lt hb10)
  have ne_bi_b6 : NE bi b6 := NE.mk (Nat.lt_of_lt_of_le hI.lt.1 hb10)
  have ne_ig_b6 : NE ig b6 := NE.mk (Nat.lt_of_lt_of_le hI.lt.2 hb10)
  have ap_FpE_b6 : ¬ FpE b6 := hM.apart hb10
  have ap_Fp_b6 : ¬ Fp b6 := H.apart hb10
  have ne_b1_b6 : NE b1 b6 := NE.mk (Nat.lt_of_lt_of_le B4.lt hb10)
  have g_b6 := Nat.le_trans hF.size hb10
  replace hB := hB.new hN8
  replace hI := hI.new hN8
  replace hM := hM.new hN8
  replace H := H.new hN8
  replace B4 := B4.new hN8
  replace hF := hF.trNew hN8
  refine fx_new fr rfl rfl (by first | decide | simp) (x_alloc (z := .int .i64 0) (cs := #[.int .i64 0]) rfl (by kernel_rfl) rfl) ?_
  clear fr a
  intro b11 w12 hN13 B14 hb15 a fr
  have ne_b_b11 : NE b b11 := NE.mk (Nat.lt_of_lt_of_le hB.lt hb15)
  have ne_bi_b11 : NE bi b11 := NE.mk (Nat.lt_of_lt_of_le hI.lt.1 hb15)
  have ne_ig_b11 : NE ig b11 := NE.mk (Nat.lt_of_lt_of_le hI.lt.2 hb15)
  have ap_FpE_b11 : ¬ FpE b11 := hM.apart hb15
  have ap_Fp_b11 : ¬ Fp b11 := H.apart hb15
  have ne_b1_b11 : NE b1 b11 := NE.mk (Nat.lt_of_lt_of_le B4.lt hb15)
  have ne_b6_b11 : NE b6 b11 := NE.mk (Nat.lt_of_lt_of_le B9.lt hb15)
  have g_b11 := Nat.le_trans hF.size hb15
  replace hB := hB.new hN13
  replace hI := hI.new hN13
  replace hM := hM.new hN13
  replace H := H.new hN13
  replace B4 := B4.new hN13
  replace B9 := B9.new hN13
  replace hF := hF.trNew hN13
  refine wpList_nil ?_
  refine fx_next ?_
  refine wp_seq ?_
  refine wp_block ?_
  refine wp_seq ?_
  refine wp_region_lit ?_  -- region 1
  refine fx_val (v := .pointer (some ⟨b, 0, none⟩)) fr rfl rfl (by first | decide | simp) (x_move rfl (fr.ev rfl)) ?_
  clear fr a; intro a fr
  refine fx_call fr rfl rfl (by first | decide | simp) (x_call (vs := [.pointer (some ⟨b, 0, none⟩)]) rfl rfl ⟨(fr.ev rfl), trivial⟩ Try.func27 nm27 rfl) (hnone_c hB) ?_
  clear fr a
  rintro v w9 ⟨rfl, hw9⟩ a fr
  obtain rfl := hw9.symm
  refine fx_val (v := .bool false) fr rfl rfl (by first | decide | simp) (x_assign rfl (fr.ev rfl)) ?_
  clear fr a; intro a fr
  refine wpList_nil ?_
  refine fx_next ?_
  refine fx_cond_f fr rfl ?_
  refine wp_seq ?_
  refine wp_region_lit ?_  -- region 3
  refine fx_val (v := .agg (msgE.arr m)) fr rfl rfl (by first | decide | simp) (x_loadE (E := msgE) ag36 rfl rfl (fr.ev rfl) (B4.rangeE msgE)) ?_
  clear fr a; intro a fr
  refine fx_call fr rfl rfl (by first | decide | simp) (x_call (vs := [.agg (msgE.arr m)]) rfl rfl ⟨(fr.ev rfl), trivial⟩ Try.func29 nm29 rfl) (chk_c m _) ?_
  clear fr a
  rintro v w18 ⟨rfl, hN19⟩ a fr
  replace hB := hB.new hN19
  replace hI := hI.new hN19
  replace hM := hM.new hN19
  replace H := H.new hN19
  replace B4 := B4.new hN19
  replace B9 := B9.new hN19
  replace B14 := B14.new hN19
  replace hF := hF.trNew hN19
  refine fx_val (v := .bool false) fr rfl rfl (by first | decide | simp) (x_neq rfl (fr.ev rfl) rfl (decide_eq_false hc)) ?_
  clear fr a; intro a fr
  refine fx_val (v := .bool false) fr rfl rfl (by first | decide | simp) (x_move rfl (fr.ev rfl)) ?_
  clear fr a; intro a fr
  refine fx_val (v := .pointer (some ⟨b1, 2, none⟩)) fr (fr.want rfl rfl rfl) rfl (by first | decide | simp) (x_fieldAddr fo36_2 rfl (fr.ev rfl) rfl) ?_
  clear fr a; intro a fr
  refine fx_val (v := .int .i64 m.dst) fr (fr.want rfl rfl rfl) rfl (by first | decide | simp) (x_load1 pl3 rfl (fr.ev rfl) (B4.cell 2 rfl)) ?_
  clear fr a; intro a fr
  refine fx_val (v := .bool false) fr (fr.want rfl rfl rfl) rfl (by first | decide | simp) (x_neq rfl (fr.ev rfl) rfl (decide_eq_false hx)) ?_
  clear fr a; intro a fr
  refine fx_val (v := .bool false) fr rfl rfl (by first | decide | simp) (x_pick_f rfl (fr.ev rfl) (fr.ev rfl)) ?_
  clear fr a; intro a fr
  refine fx_val (v := .bool false) fr rfl rfl (by first | decide | simp) (x_assign rfl (fr.ev rfl)) ?_
  clear fr a; intro a fr
  refine wpList_nil ?_
  refine fx_next ?_
  refine fx_cond_f fr rfl ?_
  refine wp_seq ?_
  refine fx_held (n := 7) (fun w => Blk w b 64 #[.pointer (some ⟨bi, 0, none⟩), .map (some r)] ∧ Img 0 w bi ig cap h.bs ∧ EntsAt w FpE r h.E L c ∧ Blk w b1 36 (msgE.arr m) ∧ Blk w b6 23 (#[.slice none 0 0]) ∧ Blk w b11 37 (#[.int .i64 0]) ∧ True) (by kernel_rfl) rfl ?_  -- region 5
  intro w20 hN21
  replace hB := hB.new hN21
  replace hI := hI.new hN21
  replace hM := hM.new hN21
  replace H := H.new hN21
  replace B4 := B4.new hN21
  replace B9 := B9.new hN21
  replace B14 := B14.new hN21
  replace hF := hF.trNew hN21
  refine fx_take (i := 0) (v := .pointer (some ⟨b1, 3, none⟩)) fr rfl (by kernel_rfl) rfl rfl (by first | decide | simp) (fun _ _ _ h => panic_putD (fn := Try.f12) (d := 21) (by decide) h) (fun _ ⟨hB, hI, hM, B4, B9, B14, _⟩ => x_fieldAddr fo36_3 rfl (fr.ev rfl) rfl) ⟨hB, hI, hM, B4, B9, B14, trivial⟩ ?_
  clear fr a; intro a fr
  refine fx_take (i := 1) (v := .int .u32 m.line) fr rfl (by kernel_rfl) rfl rfl (by first | decide | simp) (fun _ _ _ h => panic_putD (fn := Try.f12) (d := 22) (by decide) h) (fun _ ⟨hB, hI, hM, B4, B9, B14, _⟩ => x_load1 pl24 rfl (fr.ev rfl) (B4.cell 3 rfl)) ⟨hB, hI, hM, B4, B9, B14, trivial⟩ ?_
  clear fr a; intro a fr
  refine fx_take (i := 2) (v := .int .i64 m.line) fr rfl (by kernel_rfl) rfl rfl (by first | decide | simp) (fun _ _ _ h => panic_putD (fn := Try.f12) (d := 23) (by decide) h) (fun _ ⟨hB, hI, hM, B4, B9, B14, _⟩ => x_convert Try.underlying24 Try.underlying2 rfl (fr.ev rfl) (i64w (r := m.line) rfl (by omega))) ⟨hB, hI, hM, B4, B9, B14, trivial⟩ ?_
  clear fr a; intro a fr
  refine fx_take (i := 3) (v := .pointer (some ⟨b, 0, none⟩)) fr rfl (by kernel_rfl) rfl rfl (by first | decide | simp) (fun _ _ _ h => panic_putD (fn := Try.f12) (d := 24) (by decide) h) (fun _ ⟨hB, hI, hM, B4, B9, B14, _⟩ => x_move rfl (fr.ev rfl)) ⟨hB, hI, hM, B4, B9, B14, trivial⟩ ?_
  clear fr a; intro a fr
  refine fx_one (i := 4) (by kernel_rfl) (fx_op rfl ?_)
  refine fx_call fr rfl rfl (by first | decide | simp) (x_call (vs := [.pointer (some ⟨b, 0, none⟩)]) rfl rfl ⟨(fr.ev rfl), trivial⟩ Try.func10 nm10 rfl) (lines_r hB hI) ?_
  clear fr a
  rintro v w9 ⟨rfl, hw9⟩ a fr
  obtain rfl := hw9.symm
  refine wpList_nil ?_
  refine ⟨⟨hB, hI, hM, B4, B9, B14, trivial⟩, ?_⟩
  refine fx_take (i := 5) (v := .bool true) fr rfl (by kernel_rfl) rfl rfl (by first | decide | simp) (fun _ _ _ h => panic_putD (fn := Try.f12) (d := 26) (by decide) h) (fun _ ⟨hB, hI, hM, B4, B9, B14, _⟩ => x_geq rfl (fr.ev rfl) (fr.ev rfl) (decide_eq_true hr)) ⟨hB, hI, hM, B4, B9, B14, trivial⟩ ?_
  clear fr a; intro a fr
  refine fx_take (i := 6) (v := .bool true) fr rfl (by kernel_rfl) rfl rfl (by first | decide | simp) (fun _ _ _ h => panic_putD (fn := Try.f12) (d := 20) (by decide) h) (fun _ ⟨hB, hI, hM, B4, B9, B14, _⟩ => x_assign rfl (fr.ev rfl)) ⟨hB, hI, hM, B4, B9, B14, trivial⟩ ?_
  clear fr a; intro a fr
  refine fx_hdone (by kernel_rfl) ?_
  refine fx_next ?_
  refine fx_cond_t fr rfl ?_
  refine wp_seq ?_
  refine wp_region_lit ?_  -- region 6
  refine fx_store1 sz23 rfl rfl rfl (fr.ev rfl) rfl rfl B9 (show 0 < 1 by decide) (cs' := #[.slice none 0 0]) rfl fun w24 hO25 hBq => ?_
  replace hB := hB.only hO25 (by first | exact ne_b_b6 | exact ne_b6_b.symm | (show ¬ b = b6; omega))
  replace hI := hI.only hO25 (by first | exact ne_bi_b6 | exact ne_b6_bi.symm | (show ¬ bi = b6; omega)) (by first | exact ne_ig_b6 | exact ne_b6_ig.symm | (show ¬ ig = b6; omega))
  replace hM := hM.only hO25 (ne1P ap_FpE_b6)
  replace H := H.only hO25 (ne1P ap_Fp_b6)
  replace B4 := B4.only hO25 (by first | exact ne_b1_b6 | exact ne_b6_b1.symm | (show ¬ b1 = b6; omega))
  replace B14 := B14.only hO25 (by first | exact ne_b11_b6 | exact ne_b6_b11.symm | (show ¬ b11 = b6; omega))
  replace hF := hF.loc hO25 (.inr g_b6)
  replace B9 := hBq
  clear hBq
  refine fx_store1 sz37 rfl rfl rfl (fr.ev rfl) rfl rfl B14 (show 0 < 1 by decide) (cs' := #[.int .i64 4]) rfl fun w26 hO27 hBq => ?_
  replace hB := hB.only hO27 (by first | exact ne_b_b11 | exact ne_b11_b.symm | (show ¬ b = b11; omega))
  replace hI := hI.only hO27 (by first | exact ne_bi_b11 | exact ne_b11_bi.symm | (show ¬ bi = b11; omega)) (by first | exact ne_ig_b11 | exact ne_b11_ig.symm | (show ¬ ig = b11; omega))
  replace hM := hM.only hO27 (ne1P ap_FpE_b11)
  replace H := H.only hO27 (ne1P ap_Fp_b11)
  replace B4 := B4.only hO27 (by first | exact ne_b1_b11 | exact ne_b11_b1.symm | (show ¬ b1 = b11; omega))
  replace B9 := B9.only hO27 (by first | exact ne_b6_b11 | exact ne_b11_b6.symm | (show ¬ b6 = b11; omega))
  replace hF := hF.loc hO27 (.inr g_b11)
  replace B14 := hBq
  clear hBq
  refine wpList_nil ?_
  refine fx_next ?_
  refine wp_ret ?_
  refine fx_rb ?_
  refine fx_rt ?_
  refine fx_retD0 fr [.cell 4 23, .cell 5 37] [.slice none 0 0, .int .i64 4] rfl ⟨⟨_, rfl, x_loadV1 pl23 (B9.cell 0 rfl)⟩, ⟨_, rfl, x_loadV1 pl37 (B14.cell 0 rfl)⟩, trivial⟩ rfl ?_
  exact ⟨_, rfl, rfl, H, hF⟩
def takeEs (b : Nat) : Array MapEntry := #[⟨.int .i64 1, .func (.func 32) #[.pointer (some ⟨b, 0, none⟩)] #[], 0⟩, ⟨.int .i64 2, .func (.func 32) #[.pointer (some ⟨b, 0, none⟩)] #[], 1⟩, ⟨.int .i64 3, .func (.func 32) #[.pointer (some ⟨b, 0, none⟩)] #[], 2⟩, ⟨.int .i64 11, .func (.func 33) #[.pointer (some ⟨b, 0, none⟩)] #[], 3⟩, ⟨.int .i64 12, .func (.func 34) #[.pointer (some ⟨b, 0, none⟩)] #[], 4⟩, ⟨.int .i64 13, .func (.func 35) #[.pointer (some ⟨b, 0, none⟩)] #[], 5⟩]
set_option maxRecDepth 100000 in
set_option maxHeartbeats 4000000 in
theorem take_ret {w : World} {Fp : Nat → Prop} {b : Nat} {h : HD} (H : HomeAt w Fp b h) (m : Msg) (hc : ¬ chk m ≠ 0) (hx : ¬ m.dst ≠ 4) (hr : ¬ ((h.bs.length / 16 : Nat) : Int) ≤ m.line) (hql : (entOf h.E m.line.toNat).q.length ≤ 100000) {f : Nat} {fn : Func} (hfn : Try.prog.funcs[f]? = some fn) (hnm : (fn.name == "runtime.NumGoroutine") = false) (hbd : fn.body.isNone = false) (hes : ∀ b, (Instr.findNow (.int .i64) (.int .i64 m.kind) (takeEs b).toList 0).map (fun q => (match q with | some (_, u) => u | none => .nilFunc, q.isSome)) = some (.func (.func f) #[.pointer (some ⟨b, 0, none⟩)] #[], true)) {x : Ent × List UInt8 × List Msg} (hxl : x.2.1.length = h.bs.length) (hcall : ∀ w1 bw be bi ig cap r Q qc, WorkR w1 bw be b bi ig cap r m.line (entOf h.E m.line.toNat) Q qc none 0 [] h.bs → Own msgE w1 Q qc (entOf h.E m.line.toNat).q → Calls Try.prog f #[.pointer (some ⟨bw, 0, none⟩), .agg (msgE.arr m)] w1 (Ret fun v w' => v = .tuple #[] ∧ HRet w1 w' bw be b bi ig cap r m.line Q none [] x))  : Calls Try.prog 12 #[.pointer (some ⟨b, 0, none⟩), .agg (msgE.arr m)] w (Ret fun v w' => TakeH w Fp b (⟨x.2.1, h.E.set m.line.toNat x.1⟩, x.2.2, 0) v w') := by
  obtain ⟨bi, ig, cap, r, FpE, L, c, hB, hI, hM, hP, hEn⟩ := H
  have hmn := m.hn
  have hpos := hI.pos
  have ne_b_bi := hP.ne_b_bi
  have ne_b_ig := hP.ne_b_ig
  have ne_bi_ig : NE bi ig := hI.ne
  have ap_FpE_b := hP.fb
  have ap_FpE_bi := hP.fbi
  have ap_FpE_ig := hP.fig
  have hrE := (hM.foot r).2 (.inl rfl)
  have gA_FpE : ∀ g, FpE g → Fp g ∨ w.heap.size ≤ g := fun g hg => .inl ((hP.foot g).2 (.inr (.inr (.inr hg))))
  have hF := Only.refl (Fp) w
  refine fx_enterD Try.func12 rfl (N := (71, [])) (T := [(0, .pointer (some ⟨b, 0, none⟩)), (1, .agg (msgE.arr m))]) rfl (show 2 ≤ 71 by decide) ⟨rfl, rfl, trivial⟩ fun a fr => ?_
  refine wp_seq ?_
  refine wp_region_lit ?_  -- region 0
  refine fx_new fr rfl rfl (by first | decide | simp) (x_box (cs := msgE.arr m) rfl (fr.ev rfl) rfl) ?_
  clear fr a
  intro b1 w2 hN3 B4 hb5 a fr
  have ne_b_b1 : NE b b1 := NE.mk (Nat.lt_of_lt_of_le hB.lt hb5)
  have ne_bi_b1 : NE bi b1 := NE.mk (Nat.lt_of_lt_of_le hI.lt.1 hb5)
  have ne_ig_b1 : NE ig b1 := NE.mk (Nat.lt_of_lt_of_le hI.lt.2 hb5)
  have ap_FpE_b1 : ¬ FpE b1 := hM.apart hb5
  have g_b1 := Nat.le_trans hF.size hb5
  replace hB := hB.new hN3
  replace hI := hI.new hN3
  replace hM := hM.new hN3
  replace hF := hF.trNew hN3
  refine fx_new fr rfl rfl (by first | decide | simp) (x_alloc (z := .slice none 0 0) (cs := #[.slice none 0 0]) rfl (by kernel_rfl) rfl) ?_
  clear fr a
  intro b6 w7 hN8 B9 hb10 a fr
  have ne_b_b6 : NE b b6 := NE.mk (Nat.lt_of_lt_of_le hB.lt hb10)
  have ne_bi_b6 : NE bi b6 := NE.mk (Nat.lt_of_lt_of_le hI.lt.1 hb10)
  have ne_ig_b6 : NE ig b6 := NE.mk (Nat.lt_of_lt_of_le hI.lt.2 hb10)
  have ap_FpE_b6 : ¬ FpE b6 := hM.apart hb10
  have ne_b1_b6 : NE b1 b6 := NE.mk (Nat.lt_of_lt_of_le B4.lt hb10)
  have g_b6 := Nat.le_trans hF.size hb10
  replace hB := hB.new hN8
  replace hI := hI.new hN8
  replace hM := hM.new hN8
  replace B4 := B4.new hN8
  replace hF := hF.trNew hN8
  refine fx_new fr rfl rfl (by first | decide | simp) (x_alloc (z := .int .i64 0) (cs := #[.int .i64 0]) rfl (by kernel_rfl) rfl) ?_
  clear fr a
  intro b11 w12 hN13 B14 hb15 a fr
  have ne_b_b11 : NE b b11 := NE.mk (Nat.lt_of_lt_of_le hB.lt hb15)
  have ne_bi_b11 : NE bi b11 := NE.mk (Nat.lt_of_lt_of_le hI.lt.1 hb15)
  have ne_ig_b11 : NE ig b11 := NE.mk (Nat.lt_of_lt_of_le hI.lt.2 hb15)
  have ap_FpE_b11 : ¬ FpE b11 := hM.apart hb15
  have ne_b1_b11 : NE b1 b11 := NE.mk (Nat.lt_of_lt_of_le B4.lt hb15)
  have ne_b6_b11 : NE b6 b11 := NE.mk (Nat.lt_of_lt_of_le B9.lt hb15)
  have g_b11 := Nat.le_trans hF.size hb15
  replace hB := hB.new hN13
  replace hI := hI.new hN13
  replace hM := hM.new hN13
  replace B4 := B4.new hN13
  replace B9 := B9.new hN13
  replace hF := hF.trNew hN13
  refine wpList_nil ?_
  refine fx_next ?_
  refine wp_seq ?_
  refine wp_block ?_
  refine wp_seq ?_
  refine wp_region_lit ?_  -- region 1
  refine fx_val (v := .pointer (some ⟨b, 0, none⟩)) fr rfl rfl (by first | decide | simp) (x_move rfl (fr.ev rfl)) ?_
  clear fr a; intro a fr
  refine fx_call fr rfl rfl (by first | decide | simp) (x_call (vs := [.pointer (some ⟨b, 0, none⟩)]) rfl rfl ⟨(fr.ev rfl), trivial⟩ Try.func27 nm27 rfl) (hnone_c hB) ?_
  clear fr a
  rintro v w9 ⟨rfl, hw9⟩ a fr
  obtain rfl := hw9.symm
  refine fx_val (v := .bool false) fr rfl rfl (by first | decide | simp) (x_assign rfl (fr.ev rfl)) ?_
  clear fr a; intro a fr
  refine wpList_nil ?_
  refine fx_next ?_
  refine fx_cond_f fr rfl ?_
  refine wp_seq ?_
  refine wp_region_lit ?_  -- region 3
  refine fx_val (v := .agg (msgE.arr m)) fr rfl rfl (by first | decide | simp) (x_loadE (E := msgE) ag36 rfl rfl (fr.ev rfl) (B4.rangeE msgE)) ?_
  clear fr a; intro a fr
  refine fx_call fr rfl rfl (by first | decide | simp) (x_call (vs := [.agg (msgE.arr m)]) rfl rfl ⟨(fr.ev rfl), trivial⟩ Try.func29 nm29 rfl) (chk_c m _) ?_
  clear fr a
  rintro v w18 ⟨rfl, hN19⟩ a fr
  replace hB := hB.new hN19
  replace hI := hI.new hN19
  replace hM := hM.new hN19
  replace B4 := B4.new hN19
  replace B9 := B9.new hN19
  replace B14 := B14.new hN19
  replace hF := hF.trNew hN19
  refine fx_val (v := .bool false) fr rfl rfl (by first | decide | simp) (x_neq rfl (fr.ev rfl) rfl (decide_eq_false hc)) ?_
  clear fr a; intro a fr
  refine fx_val (v := .bool false) fr rfl rfl (by first | decide | simp) (x_move rfl (fr.ev rfl)) ?_
  clear fr a; intro a fr
  refine fx_val (v := .pointer (some ⟨b1, 2, none⟩)) fr (fr.want rfl rfl rfl) rfl (by first | decide | simp) (x_fieldAddr fo36_2 rfl (fr.ev rfl) rfl) ?_
  clear fr a; intro a fr
  refine fx_val (v := .int .i64 m.dst) fr (fr.want rfl rfl rfl) rfl (by first | decide | simp) (x_load1 pl3 rfl (fr.ev rfl) (B4.cell 2 rfl)) ?_
  clear fr a; intro a fr
  refine fx_val (v := .bool false) fr (fr.want rfl rfl rfl) rfl (by first | decide | simp) (x_neq rfl (fr.ev rfl) rfl (decide_eq_false hx)) ?_
  clear fr a; intro a fr
  refine fx_val (v := .bool false) fr rfl rfl (by first | decide | simp) (x_pick_f rfl (fr.ev rfl) (fr.ev rfl)) ?_
  clear fr a; intro a fr
  refine fx_val (v := .bool false) fr rfl rfl (by first | decide | simp) (x_assign rfl (fr.ev rfl)) ?_
  clear fr a; intro a fr
  refine wpList_nil ?_
  refine fx_next ?_
  refine fx_cond_f fr rfl ?_
  refine wp_seq ?_
  refine fx_held (n := 7) (fun w => Blk w b 64 #[.pointer (some ⟨bi, 0, none⟩), .map (some r)] ∧ Img 0 w bi ig cap h.bs ∧ EntsAt w FpE r h.E L c ∧ Blk w b1 36 (msgE.arr m) ∧ Blk w b6 23 (#[.slice none 0 0]) ∧ Blk w b11 37 (#[.int .i64 0]) ∧ True) (by kernel_rfl) rfl ?_  -- region 5
  intro w20 hN21
  replace hB := hB.new hN21
  replace hI := hI.new hN21
  replace hM := hM.new hN21
  replace B4 := B4.new hN21
  replace B9 := B9.new hN21
  replace B14 := B14.new hN21
  replace hF := hF.trNew hN21
  refine fx_take (i := 0) (v := .pointer (some ⟨b1, 3, none⟩)) fr rfl (by kernel_rfl) rfl rfl (by first | decide | simp) (fun _ _ _ h => panic_putD (fn := Try.f12) (d := 21) (by decide) h) (fun _ ⟨hB, hI, hM, B4, B9, B14, _⟩ => x_fieldAddr fo36_3 rfl (fr.ev rfl) rfl) ⟨hB, hI, hM, B4, B9, B14, trivial⟩ ?_
  clear fr a; intro a fr
  refine fx_take (i := 1) (v := .int .u32 m.line) fr rfl (by kernel_rfl) rfl rfl (by first | decide | simp) (fun _ _ _ h => panic_putD (fn := Try.f12) (d := 22) (by decide) h) (fun _ ⟨hB, hI, hM, B4, B9, B14, _⟩ => x_load1 pl24 rfl (fr.ev rfl) (B4.cell 3 rfl)) ⟨hB, hI, hM, B4, B9, B14, trivial⟩ ?_
  clear fr a; intro a fr
  refine fx_take (i := 2) (v := .int .i64 m.line) fr rfl (by kernel_rfl) rfl rfl (by first | decide | simp) (fun _ _ _ h => panic_putD (fn := Try.f12) (d := 23) (by decide) h) (fun _ ⟨hB, hI, hM, B4, B9, B14, _⟩ => x_convert Try.underlying24 Try.underlying2 rfl (fr.ev rfl) (i64w (r := m.line) rfl (by omega))) ⟨hB, hI, hM, B4, B9, B14, trivial⟩ ?_
  clear fr a; intro a fr
  refine fx_take (i := 3) (v := .pointer (some ⟨b, 0, none⟩)) fr rfl (by kernel_rfl) rfl rfl (by first | decide | simp) (fun _ _ _ h => panic_putD (fn := Try.f12) (d := 24) (by decide) h) (fun _ ⟨hB, hI, hM, B4, B9, B14, _⟩ => x_move rfl (fr.ev rfl)) ⟨hB, hI, hM, B4, B9, B14, trivial⟩ ?_
  clear fr a; intro a fr
  refine fx_one (i := 4) (by kernel_rfl) (fx_op rfl ?_)
  refine fx_call fr rfl rfl (by first | decide | simp) (x_call (vs := [.pointer (some ⟨b, 0, none⟩)]) rfl rfl ⟨(fr.ev rfl), trivial⟩ Try.func10 nm10 rfl) (lines_r hB hI) ?_
  clear fr a
  rintro v w9 ⟨rfl, hw9⟩ a fr
  obtain rfl := hw9.symm
  refine wpList_nil ?_
  refine ⟨⟨hB, hI, hM, B4, B9, B14, trivial⟩, ?_⟩
  refine fx_take (i := 5) (v := .bool false) fr rfl (by kernel_rfl) rfl rfl (by first | decide | simp) (fun _ _ _ h => panic_putD (fn := Try.f12) (d := 26) (by decide) h) (fun _ ⟨hB, hI, hM, B4, B9, B14, _⟩ => x_geq rfl (fr.ev rfl) (fr.ev rfl) (decide_eq_false hr)) ⟨hB, hI, hM, B4, B9, B14, trivial⟩ ?_
  clear fr a; intro a fr
  refine fx_take (i := 6) (v := .bool false) fr rfl (by kernel_rfl) rfl rfl (by first | decide | simp) (fun _ _ _ h => panic_putD (fn := Try.f12) (d := 20) (by decide) h) (fun _ ⟨hB, hI, hM, B4, B9, B14, _⟩ => x_assign rfl (fr.ev rfl)) ⟨hB, hI, hM, B4, B9, B14, trivial⟩ ?_
  clear fr a; intro a fr
  refine fx_hdone (by kernel_rfl) ?_
  refine fx_next ?_
  refine fx_cond_f fr rfl ?_
  refine wp_skip ?_
  refine fx_blk ?_
  refine fx_next ?_
  refine wp_seq ?_
  refine wp_region_lit ?_  -- region 7
  refine fx_val (v := .func (.func 30) #[] #[.pointer (some ⟨b6, 0, none⟩), .pointer (some ⟨b11, 0, none⟩)]) fr rfl rfl (by first | decide | simp) (x_makeFunc (vs := [.pointer (some ⟨b6, 0, none⟩), .pointer (some ⟨b11, 0, none⟩)]) rfl ⟨(fr.ev rfl), (fr.ev rfl), trivial⟩) ?_
  clear fr a; intro a fr
  refine fx_defer fr rfl rfl (x_deferv (vs := []) rfl (fr.ev rfl) trivial) ?_
  clear fr a; intro a fr
  refine wpList_nil ?_
  refine fx_next ?_
  refine wp_seq ?_
  refine wp_region_lit ?_  -- region 8
  refine fx_val (v := .pointer (some ⟨b, 0, none⟩)) fr rfl rfl (by first | decide | simp) (x_move rfl (fr.ev rfl)) ?_
  clear fr a; intro a fr
  refine fx_val (v := .pointer (some ⟨b1, 3, none⟩)) fr rfl rfl (by first | decide | simp) (x_fieldAddr fo36_3 rfl (fr.ev rfl) rfl) ?_
  clear fr a; intro a fr
  refine fx_val (v := .int .u32 m.line) fr rfl rfl (by first | decide | simp) (x_load1 pl24 rfl (fr.ev rfl) (B4.cell 3 rfl)) ?_
  clear fr a; intro a fr
  refine fx_call fr rfl rfl (by first | decide | simp) (x_call (vs := [.pointer (some ⟨b, 0, none⟩), .int .u32 m.line]) rfl rfl ⟨(fr.ev rfl), (fr.ev rfl), trivial⟩ Try.func31 nm31 rfl) (of_c hB hM m.line (by omega) (by omega)) ?_
  clear fr a
  rintro v w28 ⟨Q24, qc25, rfl, OQ26, hA27, hN29⟩ a fr
  have ap_Q24_b : Apart Q24 b := new_apart hA27 hB.lt
  have ap_Q24_bi : Apart Q24 bi := new_apart hA27 hI.lt.1
  have ap_Q24_ig : Apart Q24 ig := new_apart hA27 hI.lt.2
  have ap2_FpE_Q24 : ∀ k, FpE k → inA Q24 k → False := symP (new_apart2P hA27 fun _ hg => hM.lt hg)
  have ap_Q24_b1 : Apart Q24 b1 := new_apart hA27 B4.lt
  have ap_Q24_b6 : Apart Q24 b6 := new_apart hA27 B9.lt
  have ap_Q24_b11 : Apart Q24 b11 := new_apart hA27 B14.lt
  have gA_Q24 := gA_new hF hA27
  have gN_Q24 := fun g (hg : inA Q24 g) => Nat.le_trans hF.size (hA27 g hg)
  replace hB := hB.new hN29
  replace hI := hI.new hN29
  replace hM := hM.new hN29
  replace B4 := B4.new hN29
  replace B9 := B9.new hN29
  replace B14 := B14.new hN29
  replace hF := hF.trNew hN29
  refine fx_new fr rfl rfl (by first | decide | simp) (x_alloc (z := .agg (#[.int .i64 0, .bool false, .bool false, .bool false, .bool false, .bool false, .int .i64 0, .int .i64 0, .int .i64 0, .bool false, .slice none 0 0])) (cs := #[.int .i64 0, .bool false, .bool false, .bool false, .bool false, .bool false, .int .i64 0, .int .i64 0, .int .i64 0, .bool false, .slice none 0 0]) rfl (by kernel_rfl) rfl) ?_
  clear fr a
  intro b30 w31 hN32 B33 hb34 a fr
  have ne_b_b30 : NE b b30 := NE.mk (Nat.lt_of_lt_of_le hB.lt hb34)
  have ne_bi_b30 : NE bi b30 := NE.mk (Nat.lt_of_lt_of_le hI.lt.1 hb34)
  have ne_ig_b30 : NE ig b30 := NE.mk (Nat.lt_of_lt_of_le hI.lt.2 hb34)
  have ap_FpE_b30 : ¬ FpE b30 := hM.apart hb34
  have ne_b1_b30 : NE b1 b30 := NE.mk (Nat.lt_of_lt_of_le B4.lt hb34)
  have ne_b6_b30 : NE b6 b30 := NE.mk (Nat.lt_of_lt_of_le B9.lt hb34)
  have ne_b11_b30 : NE b11 b30 := NE.mk (Nat.lt_of_lt_of_le B14.lt hb34)
  have ap_Q24_b30 : Apart Q24 b30 := OQ26.apart hb34
  have g_b30 := Nat.le_trans hF.size hb34
  replace hB := hB.new hN32
  replace hI := hI.new hN32
  replace hM := hM.new hN32
  replace B4 := B4.new hN32
  replace B9 := B9.new hN32
  replace B14 := B14.new hN32
  replace OQ26 := OQ26.new hN32
  replace hF := hF.trNew hN32
  refine fx_storeS sz42 rfl rfl rfl (fr.ev rfl) (fr.ev rfl) (ent_all _ _ _ _) B33 rfl rfl fun w35 hO36 hBq => ?_
  replace hB := hB.only hO36 (by first | exact ne_b_b30 | exact ne_b30_b.symm | (show ¬ b = b30; omega))
  replace hI := hI.only hO36 (by first | exact ne_bi_b30 | exact ne_b30_bi.symm | (show ¬ bi = b30; omega)) (by first | exact ne_ig_b30 | exact ne_b30_ig.symm | (show ¬ ig = b30; omega))
  replace hM := hM.only hO36 (ne1P ap_FpE_b30)
  replace B4 := B4.only hO36 (by first | exact ne_b1_b30 | exact ne_b30_b1.symm | (show ¬ b1 = b30; omega))
  replace B9 := B9.only hO36 (by first | exact ne_b6_b30 | exact ne_b30_b6.symm | (show ¬ b6 = b30; omega))
  replace B14 := B14.only hO36 (by first | exact ne_b11_b30 | exact ne_b30_b11.symm | (show ¬ b11 = b30; omega))
  replace OQ26 := OQ26.only hO36 (Apart.ne1 ap_Q24_b30)
  replace hF := hF.loc hO36 (.inr g_b30)
  replace B33 := hBq
  clear hBq
  refine wpList_nil ?_
  refine fx_next ?_
  refine wp_seq ?_
  refine wp_region_lit ?_  -- region 9
  refine fx_val (v := .pointer (some ⟨b, 0, none⟩)) fr rfl rfl (by first | decide | simp) (x_move rfl (fr.ev rfl)) ?_
  clear fr a; intro a fr
  refine fx_val (v := .pointer (some ⟨b1, 3, none⟩)) fr rfl rfl (by first | decide | simp) (x_fieldAddr fo36_3 rfl (fr.ev rfl) rfl) ?_
  clear fr a; intro a fr
  refine fx_val (v := .int .u32 m.line) fr rfl rfl (by first | decide | simp) (x_load1 pl24 rfl (fr.ev rfl) (B4.cell 3 rfl)) ?_
  clear fr a; intro a fr
  refine fx_val (v := .agg (#[.slice none 0 0, .pointer (some ⟨b30, 0, none⟩), .pointer (some ⟨b, 0, none⟩), .int .u32 m.line])) fr rfl rfl (by first | decide | simp) (x_build (cells := #[.slice none 0 0, .pointer (some ⟨b30, 0, none⟩), .pointer (some ⟨b, 0, none⟩), .int .u32 m.line]) rfl (by simp only [List.map_toArray, List.map_cons, List.map_nil, show a.eval (.tmp 6) = .pointer (some ⟨b30, 0, none⟩) from fr.ev rfl, show a.eval (.tmp 32) = .pointer (some ⟨b, 0, none⟩) from fr.ev rfl, show a.eval (.tmp 34) = .int .u32 m.line from fr.ev rfl]; kernel_rfl)) ?_
  clear fr a; intro a fr
  refine fx_new fr rfl rfl (by first | decide | simp) (x_box (cs := #[.slice none 0 0, .pointer (some ⟨b30, 0, none⟩), .pointer (some ⟨b, 0, none⟩), .int .u32 m.line]) rfl (fr.ev rfl) rfl) ?_
  clear fr a
  intro b37 w38 hN39 B40 hb41 a fr
  have ne_b_b37 : NE b b37 := NE.mk (Nat.lt_of_lt_of_le hB.lt hb41)
  have ne_bi_b37 : NE bi b37 := NE.mk (Nat.lt_of_lt_of_le hI.lt.1 hb41)
  have ne_ig_b37 : NE ig b37 := NE.mk (Nat.lt_of_lt_of_le hI.lt.2 hb41)
  have ap_FpE_b37 : ¬ FpE b37 := hM.apart hb41
  have ne_b1_b37 : NE b1 b37 := NE.mk (Nat.lt_of_lt_of_le B4.lt hb41)
  have ne_b6_b37 : NE b6 b37 := NE.mk (Nat.lt_of_lt_of_le B9.lt hb41)
  have ne_b11_b37 : NE b11 b37 := NE.mk (Nat.lt_of_lt_of_le B14.lt hb41)
  have ap_Q24_b37 : Apart Q24 b37 := OQ26.apart hb41
  have ne_b30_b37 : NE b30 b37 := NE.mk (Nat.lt_of_lt_of_le B33.lt hb41)
  have g_b37 := Nat.le_trans hF.size hb41
  replace hB := hB.new hN39
  replace hI := hI.new hN39
  replace hM := hM.new hN39
  replace B4 := B4.new hN39
  replace B9 := B9.new hN39
  replace B14 := B14.new hN39
  replace OQ26 := OQ26.new hN39
  replace B33 := B33.new hN39
  replace hF := hF.trNew hN39
  refine fx_val (v := .pointer (some ⟨b37, 0, none⟩)) fr rfl rfl (by first | decide | simp) (x_assign rfl (fr.ev rfl)) ?_
  clear fr a; intro a fr
  refine wpList_nil ?_
  refine fx_next ?_
  refine wp_seq ?_
  refine wp_region_lit ?_  -- region 10
  refine fx_makeMap fr rfl rfl rfl (by first | decide | simp) ?_
  clear fr a
  intro r42 w43 hN44 M45 hb46 a fr
  have ne_b_r42 : NE b r42 := NE.mk (Nat.lt_of_lt_of_le hB.lt hb46)
  have ne_bi_r42 : NE bi r42 := NE.mk (Nat.lt_of_lt_of_le hI.lt.1 hb46)
  have ne_ig_r42 : NE ig r42 := NE.mk (Nat.lt_of_lt_of_le hI.lt.2 hb46)
  have ap_FpE_r42 : ¬ FpE r42 := hM.apart hb46
  have ne_b1_r42 : NE b1 r42 := NE.mk (Nat.lt_of_lt_of_le B4.lt hb46)
  have ne_b6_r42 : NE b6 r42 := NE.mk (Nat.lt_of_lt_of_le B9.lt hb46)
  have ne_b11_r42 : NE b11 r42 := NE.mk (Nat.lt_of_lt_of_le B14.lt hb46)
  have ap_Q24_r42 : Apart Q24 r42 := OQ26.apart hb46
  have ne_b30_r42 : NE b30 r42 := NE.mk (Nat.lt_of_lt_of_le B33.lt hb46)
  have ne_b37_r42 : NE b37 r42 := NE.mk (Nat.lt_of_lt_of_le B40.lt hb46)
  have g_r42 := Nat.le_trans hF.size hb46
  replace hB := hB.new hN44
  replace hI := hI.new hN44
  replace hM := hM.new hN44
  replace B4 := B4.new hN44
  replace B9 := B9.new hN44
  replace B14 := B14.new hN44
  replace OQ26 := OQ26.new hN44
  replace B33 := B33.new hN44
  replace B40 := B40.new hN44
  replace hF := hF.trNew hN44
  refine fx_val (v := .pointer (some ⟨b37, 0, none⟩)) fr rfl rfl (by first | decide | simp) (x_move rfl (fr.ev rfl)) ?_
  clear fr a; intro a fr
  refine fx_val (v := .func (.func 32) #[.pointer (some ⟨b37, 0, none⟩)] #[]) fr rfl rfl (by first | decide | simp) (x_makeBound rfl (fr.ev rfl)) ?_
  clear fr a; intro a fr
  refine fx_insert (es' := #[⟨.int .i64 1, .func (.func 32) #[.pointer (some ⟨b37, 0, none⟩)] #[], 0⟩]) Try.underlying84 Try.underlying33 rfl rfl rfl (fr.ev rfl) rfl (fr.ev rfl) M45 rfl rfl fun w47 hO48 hBq => ?_
  replace hB := hB.only hO48 (by first | exact ne_b_r42 | exact ne_r42_b.symm | (show ¬ b = r42; omega))
  replace hI := hI.only hO48 (by first | exact ne_bi_r42 | exact ne_r42_bi.symm | (show ¬ bi = r42; omega)) (by first | exact ne_ig_r42 | exact ne_r42_ig.symm | (show ¬ ig = r42; omega))
  replace hM := hM.only hO48 (ne1P ap_FpE_r42)
  replace B4 := B4.only hO48 (by first | exact ne_b1_r42 | exact ne_r42_b1.symm | (show ¬ b1 = r42; omega))
  replace B9 := B9.only hO48 (by first | exact ne_b6_r42 | exact ne_r42_b6.symm | (show ¬ b6 = r42; omega))
  replace B14 := B14.only hO48 (by first | exact ne_b11_r42 | exact ne_r42_b11.symm | (show ¬ b11 = r42; omega))
  replace OQ26 := OQ26.only hO48 (Apart.ne1 ap_Q24_r42)
  replace B33 := B33.only hO48 (by first | exact ne_b30_r42 | exact ne_r42_b30.symm | (show ¬ b30 = r42; omega))
  replace B40 := B40.only hO48 (by first | exact ne_b37_r42 | exact ne_r42_b37.symm | (show ¬ b37 = r42; omega))
  replace hF := hF.loc hO48 (.inr g_r42)
  replace M45 := hBq
  clear hBq
  refine fx_val (v := .pointer (some ⟨b37, 0, none⟩)) fr rfl rfl (by first | decide | simp) (x_move rfl (fr.ev rfl)) ?_
  clear fr a; intro a fr
  refine fx_val (v := .func (.func 32) #[.pointer (some ⟨b37, 0, none⟩)] #[]) fr rfl rfl (by first | decide | simp) (x_makeBound rfl (fr.ev rfl)) ?_
  clear fr a; intro a fr
  refine fx_insert (es' := #[⟨.int .i64 1, .func (.func 32) #[.pointer (some ⟨b37, 0, none⟩)] #[], 0⟩, ⟨.int .i64 2, .func (.func 32) #[.pointer (some ⟨b37, 0, none⟩)] #[], 1⟩]) Try.underlying84 Try.underlying33 rfl rfl rfl (fr.ev rfl) rfl (fr.ev rfl) M45 rfl rfl fun w49 hO50 hBq => ?_
  replace hB := hB.only hO50 (by first | exact ne_b_r42 | exact ne_r42_b.symm | (show ¬ b = r42; omega))
  replace hI := hI.only hO50 (by first | exact ne_bi_r42 | exact ne_r42_bi.symm | (show ¬ bi = r42; omega)) (by first | exact ne_ig_r42 | exact ne_r42_ig.symm | (show ¬ ig = r42; omega))
  replace hM := hM.only hO50 (ne1P ap_FpE_r42)
  replace B4 := B4.only hO50 (by first | exact ne_b1_r42 | exact ne_r42_b1.symm | (show ¬ b1 = r42; omega))
  replace B9 := B9.only hO50 (by first | exact ne_b6_r42 | exact ne_r42_b6.symm | (show ¬ b6 = r42; omega))
  replace B14 := B14.only hO50 (by first | exact ne_b11_r42 | exact ne_r42_b11.symm | (show ¬ b11 = r42; omega))
  replace OQ26 := OQ26.only hO50 (Apart.ne1 ap_Q24_r42)
  replace B33 := B33.only hO50 (by first | exact ne_b30_r42 | exact ne_r42_b30.symm | (show ¬ b30 = r42; omega))
  replace B40 := B40.only hO50 (by first | exact ne_b37_r42 | exact ne_r42_b37.symm | (show ¬ b37 = r42; omega))
  replace hF := hF.loc hO50 (.inr g_r42)
  replace M45 := hBq
  clear hBq
  refine fx_val (v := .pointer (some ⟨b37, 0, none⟩)) fr rfl rfl (by first | decide | simp) (x_move rfl (fr.ev rfl)) ?_
  clear fr a; intro a fr
  refine fx_val (v := .func (.func 32) #[.pointer (some ⟨b37, 0, none⟩)] #[]) fr rfl rfl (by first | decide | simp) (x_makeBound rfl (fr.ev rfl)) ?_
  clear fr a; intro a fr
  refine fx_insert (es' := #[⟨.int .i64 1, .func (.func 32) #[.pointer (some ⟨b37, 0, none⟩)] #[], 0⟩, ⟨.int .i64 2, .func (.func 32) #[.pointer (some ⟨b37, 0, none⟩)] #[], 1⟩, ⟨.int .i64 3, .func (.func 32) #[.pointer (some ⟨b37, 0, none⟩)] #[], 2⟩]) Try.underlying84 Try.underlying33 rfl rfl rfl (fr.ev rfl) rfl (fr.ev rfl) M45 rfl rfl fun w51 hO52 hBq => ?_
  replace hB := hB.only hO52 (by first | exact ne_b_r42 | exact ne_r42_b.symm | (show ¬ b = r42; omega))
  replace hI := hI.only hO52 (by first | exact ne_bi_r42 | exact ne_r42_bi.symm | (show ¬ bi = r42; omega)) (by first | exact ne_ig_r42 | exact ne_r42_ig.symm | (show ¬ ig = r42; omega))
  replace hM := hM.only hO52 (ne1P ap_FpE_r42)
  replace B4 := B4.only hO52 (by first | exact ne_b1_r42 | exact ne_r42_b1.symm | (show ¬ b1 = r42; omega))
  replace B9 := B9.only hO52 (by first | exact ne_b6_r42 | exact ne_r42_b6.symm | (show ¬ b6 = r42; omega))
  replace B14 := B14.only hO52 (by first | exact ne_b11_r42 | exact ne_r42_b11.symm | (show ¬ b11 = r42; omega))
  replace OQ26 := OQ26.only hO52 (Apart.ne1 ap_Q24_r42)
  replace B33 := B33.only hO52 (by first | exact ne_b30_r42 | exact ne_r42_b30.symm | (show ¬ b30 = r42; omega))
  replace B40 := B40.only hO52 (by first | exact ne_b37_r42 | exact ne_r42_b37.symm | (show ¬ b37 = r42; omega))
  replace hF := hF.loc hO52 (.inr g_r42)
  replace M45 := hBq
  clear hBq
  refine fx_val (v := .pointer (some ⟨b37, 0, none⟩)) fr rfl rfl (by first | decide | simp) (x_move rfl (fr.ev rfl)) ?_
  clear fr a; intro a fr
  refine fx_val (v := .func (.func 33) #[.pointer (some ⟨b37, 0, none⟩)] #[]) fr rfl rfl (by first | decide | simp) (x_makeBound rfl (fr.ev rfl)) ?_
  clear fr a; intro a fr
  refine fx_insert (es' := #[⟨.int .i64 1, .func (.func 32) #[.pointer (some ⟨b37, 0, none⟩)] #[], 0⟩, ⟨.int .i64 2, .func (.func 32) #[.pointer (some ⟨b37, 0, none⟩)] #[], 1⟩, ⟨.int .i64 3, .func (.func 32) #[.pointer (some ⟨b37, 0, none⟩)] #[], 2⟩, ⟨.int .i64 11, .func (.func 33) #[.pointer (some ⟨b37, 0, none⟩)] #[], 3⟩]) Try.underlying84 Try.underlying33 rfl rfl rfl (fr.ev rfl) rfl (fr.ev rfl) M45 rfl rfl fun w53 hO54 hBq => ?_
  replace hB := hB.only hO54 (by first | exact ne_b_r42 | exact ne_r42_b.symm | (show ¬ b = r42; omega))
  replace hI := hI.only hO54 (by first | exact ne_bi_r42 | exact ne_r42_bi.symm | (show ¬ bi = r42; omega)) (by first | exact ne_ig_r42 | exact ne_r42_ig.symm | (show ¬ ig = r42; omega))
  replace hM := hM.only hO54 (ne1P ap_FpE_r42)
  replace B4 := B4.only hO54 (by first | exact ne_b1_r42 | exact ne_r42_b1.symm | (show ¬ b1 = r42; omega))
  replace B9 := B9.only hO54 (by first | exact ne_b6_r42 | exact ne_r42_b6.symm | (show ¬ b6 = r42; omega))
  replace B14 := B14.only hO54 (by first | exact ne_b11_r42 | exact ne_r42_b11.symm | (show ¬ b11 = r42; omega))
  replace OQ26 := OQ26.only hO54 (Apart.ne1 ap_Q24_r42)
  replace B33 := B33.only hO54 (by first | exact ne_b30_r42 | exact ne_r42_b30.symm | (show ¬ b30 = r42; omega))
  replace B40 := B40.only hO54 (by first | exact ne_b37_r42 | exact ne_r42_b37.symm | (show ¬ b37 = r42; omega))
  replace hF := hF.loc hO54 (.inr g_r42)
  replace M45 := hBq
  clear hBq
  refine fx_val (v := .pointer (some ⟨b37, 0, none⟩)) fr rfl rfl (by first | decide | simp) (x_move rfl (fr.ev rfl)) ?_
  clear fr a; intro a fr
  refine fx_val (v := .func (.func 34) #[.pointer (some ⟨b37, 0, none⟩)] #[]) fr rfl rfl (by first | decide | simp) (x_makeBound rfl (fr.ev rfl)) ?_
  clear fr a; intro a fr
  refine fx_insert (es' := #[⟨.int .i64 1, .func (.func 32) #[.pointer (some ⟨b37, 0, none⟩)] #[], 0⟩, ⟨.int .i64 2, .func (.func 32) #[.pointer (some ⟨b37, 0, none⟩)] #[], 1⟩, ⟨.int .i64 3, .func (.func 32) #[.pointer (some ⟨b37, 0, none⟩)] #[], 2⟩, ⟨.int .i64 11, .func (.func 33) #[.pointer (some ⟨b37, 0, none⟩)] #[], 3⟩, ⟨.int .i64 12, .func (.func 34) #[.pointer (some ⟨b37, 0, none⟩)] #[], 4⟩]) Try.underlying84 Try.underlying33 rfl rfl rfl (fr.ev rfl) rfl (fr.ev rfl) M45 rfl rfl fun w55 hO56 hBq => ?_
  replace hB := hB.only hO56 (by first | exact ne_b_r42 | exact ne_r42_b.symm | (show ¬ b = r42; omega))
  replace hI := hI.only hO56 (by first | exact ne_bi_r42 | exact ne_r42_bi.symm | (show ¬ bi = r42; omega)) (by first | exact ne_ig_r42 | exact ne_r42_ig.symm | (show ¬ ig = r42; omega))
  replace hM := hM.only hO56 (ne1P ap_FpE_r42)
  replace B4 := B4.only hO56 (by first | exact ne_b1_r42 | exact ne_r42_b1.symm | (show ¬ b1 = r42; omega))
  replace B9 := B9.only hO56 (by first | exact ne_b6_r42 | exact ne_r42_b6.symm | (show ¬ b6 = r42; omega))
  replace B14 := B14.only hO56 (by first | exact ne_b11_r42 | exact ne_r42_b11.symm | (show ¬ b11 = r42; omega))
  replace OQ26 := OQ26.only hO56 (Apart.ne1 ap_Q24_r42)
  replace B33 := B33.only hO56 (by first | exact ne_b30_r42 | exact ne_r42_b30.symm | (show ¬ b30 = r42; omega))
  replace B40 := B40.only hO56 (by first | exact ne_b37_r42 | exact ne_r42_b37.symm | (show ¬ b37 = r42; omega))
  replace hF := hF.loc hO56 (.inr g_r42)
  replace M45 := hBq
  clear hBq
  refine fx_val (v := .pointer (some ⟨b37, 0, none⟩)) fr rfl rfl (by first | decide | simp) (x_move rfl (fr.ev rfl)) ?_
  clear fr a; intro a fr
  refine fx_val (v := .func (.func 35) #[.pointer (some ⟨b37, 0, none⟩)] #[]) fr rfl rfl (by first | decide | simp) (x_makeBound rfl (fr.ev rfl)) ?_
  clear fr a; intro a fr
  refine fx_insert (es' := #[⟨.int .i64 1, .func (.func 32) #[.pointer (some ⟨b37, 0, none⟩)] #[], 0⟩, ⟨.int .i64 2, .func (.func 32) #[.pointer (some ⟨b37, 0, none⟩)] #[], 1⟩, ⟨.int .i64 3, .func (.func 32) #[.pointer (some ⟨b37, 0, none⟩)] #[], 2⟩, ⟨.int .i64 11, .func (.func 33) #[.pointer (some ⟨b37, 0, none⟩)] #[], 3⟩, ⟨.int .i64 12, .func (.func 34) #[.pointer (some ⟨b37, 0, none⟩)] #[], 4⟩, ⟨.int .i64 13, .func (.func 35) #[.pointer (some ⟨b37, 0, none⟩)] #[], 5⟩]) Try.underlying84 Try.underlying33 rfl rfl rfl (fr.ev rfl) rfl (fr.ev rfl) M45 rfl rfl fun w57 hO58 hBq => ?_
  replace hB := hB.only hO58 (by first | exact ne_b_r42 | exact ne_r42_b.symm | (show ¬ b = r42; omega))
  replace hI := hI.only hO58 (by first | exact ne_bi_r42 | exact ne_r42_bi.symm | (show ¬ bi = r42; omega)) (by first | exact ne_ig_r42 | exact ne_r42_ig.symm | (show ¬ ig = r42; omega))
  replace hM := hM.only hO58 (ne1P ap_FpE_r42)
  replace B4 := B4.only hO58 (by first | exact ne_b1_r42 | exact ne_r42_b1.symm | (show ¬ b1 = r42; omega))
  replace B9 := B9.only hO58 (by first | exact ne_b6_r42 | exact ne_r42_b6.symm | (show ¬ b6 = r42; omega))
  replace B14 := B14.only hO58 (by first | exact ne_b11_r42 | exact ne_r42_b11.symm | (show ¬ b11 = r42; omega))
  replace OQ26 := OQ26.only hO58 (Apart.ne1 ap_Q24_r42)
  replace B33 := B33.only hO58 (by first | exact ne_b30_r42 | exact ne_r42_b30.symm | (show ¬ b30 = r42; omega))
  replace B40 := B40.only hO58 (by first | exact ne_b37_r42 | exact ne_r42_b37.symm | (show ¬ b37 = r42; omega))
  replace hF := hF.loc hO58 (.inr g_r42)
  replace M45 := hBq
  clear hBq
  refine fx_val (v := .map (some r42)) fr rfl rfl (by first | decide | simp) (x_move rfl (fr.ev rfl)) ?_
  clear fr a; intro a fr
  refine fx_val (v := .pointer (some ⟨b1, 0, none⟩)) fr rfl rfl (by first | decide | simp) (x_fieldAddr fo36_0 rfl (fr.ev rfl) rfl) ?_
  clear fr a; intro a fr
  refine fx_val (v := .int .i64 m.kind) fr rfl rfl (by first | decide | simp) (x_load1 pl33 rfl (fr.ev rfl) (B4.cell 0 rfl)) ?_
  clear fr a; intro a fr
  refine fx_val (v := .func (.func f) #[.pointer (some ⟨b37, 0, none⟩)] #[]) fr rfl rfl (by first | decide | simp) (x_lookup (k := .i64) (ok := false) (v := .func (.func f) #[.pointer (some ⟨b37, 0, none⟩)] #[]) (b := true) Try.underlying84 Try.underlying33 rfl (fr.ev rfl) (fr.ev rfl) M45 (z := .nilFunc) (by kernel_rfl) (hes b37)) ?_
  clear fr a; intro a fr
  refine fx_val (v := .agg (msgE.arr m)) fr rfl rfl (by first | decide | simp) (x_loadE (E := msgE) ag36 rfl rfl (fr.ev rfl) (B4.rangeE msgE)) ?_
  clear fr a; intro a fr
  refine fx_call fr rfl rfl (by first | decide | simp) (x_callb (all := #[.pointer (some ⟨b37, 0, none⟩), .agg (msgE.arr m)]) (vs := [.agg (msgE.arr m)]) rfl (fr.ev rfl) ⟨(fr.ev rfl), trivial⟩ rfl hfn hnm hbd) (hcall _ b37 b30 bi ig cap r Q24 qc25 ⟨B40, B33, hB, hI, OQ26.view, Own.nil, ⟨(by first | exact ne_b37_b30 | exact ne_b30_b37.symm), (by first | exact ne_b37_b | exact ne_b_b37.symm), (by first | exact ne_b37_bi | exact ne_bi_b37.symm), (by first | exact ne_b37_ig | exact ne_ig_b37.symm), (by first | exact ne_b30_b | exact ne_b_b30.symm), (by first | exact ne_b30_bi | exact ne_bi_b30.symm), (by first | exact ne_b30_ig | exact ne_ig_b30.symm), (by first | exact ne_b_bi | exact ne_bi_b.symm), (by first | exact ne_b_ig | exact ne_ig_b.symm), (by first | exact ne_bi_ig | exact ne_ig_bi.symm), ap_Q24_b37, ap_Q24_b30, ap_Q24_b, ap_Q24_bi, ap_Q24_ig, (apart_none b37), (apart_none b30), (apart_none b), (apart_none bi), (apart_none ig), (fun k _ h => apart_none k h)⟩⟩ OQ26) ?_
  clear fr a
  rintro v w67 ⟨rfl, Q59, qc60, A61, ac62, R63, mvA64, mvQ65, hN68⟩ a fr
  have ap2_FpE_A61 : ∀ k, FpE k → inA A61 k → False := fun k h1 hk => (mvA64 k hk).elim (fun h => h.elim (apart_none k) (ap2_FpE_Q24 k h1)) (fun h => by have := hM.lt h1; omega)
  have ap2_FpE_Q59 : ∀ k, FpE k → inA Q59 k → False := fun k h1 hk => (mvQ65 k hk).elim (fun h => h.elim (apart_none k) (ap2_FpE_Q24 k h1)) (fun h => by have := hM.lt h1; omega)
  have ap_A61_b1 : Apart A61 b1 := fun hk => (mvA64 b1 hk).elim (fun h => h.elim (apart_none b1) ap_Q24_b1) (fun h => by have := B4.lt; omega)
  have ap_Q59_b1 : Apart Q59 b1 := fun hk => (mvQ65 b1 hk).elim (fun h => h.elim (apart_none b1) ap_Q24_b1) (fun h => by have := B4.lt; omega)
  have ap_A61_b6 : Apart A61 b6 := fun hk => (mvA64 b6 hk).elim (fun h => h.elim (apart_none b6) ap_Q24_b6) (fun h => by have := B9.lt; omega)
  have ap_Q59_b6 : Apart Q59 b6 := fun hk => (mvQ65 b6 hk).elim (fun h => h.elim (apart_none b6) ap_Q24_b6) (fun h => by have := B9.lt; omega)
  have ap_A61_b11 : Apart A61 b11 := fun hk => (mvA64 b11 hk).elim (fun h => h.elim (apart_none b11) ap_Q24_b11) (fun h => by have := B14.lt; omega)
  have ap_Q59_b11 : Apart Q59 b11 := fun hk => (mvQ65 b11 hk).elim (fun h => h.elim (apart_none b11) ap_Q24_b11) (fun h => by have := B14.lt; omega)
  have ap_A61_r42 : Apart A61 r42 := fun hk => (mvA64 r42 hk).elim (fun h => h.elim (apart_none r42) ap_Q24_r42) (fun h => by have := M45.lt; omega)
  have ap_Q59_r42 : Apart Q59 r42 := fun hk => (mvQ65 r42 hk).elim (fun h => h.elim (apart_none r42) ap_Q24_r42) (fun h => by have := M45.lt; omega)
  have gN_A61 : ∀ g, inA A61 g → w.heap.size ≤ g := fun g hg => (mvA64 g hg).elim (fun h => h.elim (fun h => absurd h (apart_none g)) (gN_Q24 g)) (fun h => Nat.le_trans hF.size h)
  have gN_Q59 : ∀ g, inA Q59 g → w.heap.size ≤ g := fun g hg => (mvQ65 g hg).elim (fun h => h.elim (fun h => absurd h (apart_none g)) (gN_Q24 g)) (fun h => Nat.le_trans hF.size h)
  replace hM := hM.only hN68 (fun g hg => (fun h => h.elim ((ne1P ap_FpE_b37) g hg) (fun h => h.elim ((ne1P ap_FpE_b30) g hg) (fun h => h.elim ((ne1P ap_FpE_ig) g hg) (fun h => h.elim ((fun g h1 h2 => (fun k _ h => apart_none k h) g h1 h2) g hg) ((fun g h1 h2 => ap2_FpE_Q24 g h1 h2) g hg))))))
  replace B4 := B4.only hN68 (fun h => h.elim (by first | exact ne_b1_b37 | exact ne_b37_b1.symm | (show ¬ b1 = b37; omega)) (fun h => h.elim (by first | exact ne_b1_b30 | exact ne_b30_b1.symm | (show ¬ b1 = b30; omega)) (fun h => h.elim (by first | exact ne_b1_ig | exact ne_ig_b1.symm | (show ¬ b1 = ig; omega)) (fun h => h.elim (apart_none b1) ap_Q24_b1))))
  replace B9 := B9.only hN68 (fun h => h.elim (by first | exact ne_b6_b37 | exact ne_b37_b6.symm | (show ¬ b6 = b37; omega)) (fun h => h.elim (by first | exact ne_b6_b30 | exact ne_b30_b6.symm | (show ¬ b6 = b30; omega)) (fun h => h.elim (by first | exact ne_b6_ig | exact ne_ig_b6.symm | (show ¬ b6 = ig; omega)) (fun h => h.elim (apart_none b6) ap_Q24_b6))))
  replace B14 := B14.only hN68 (fun h => h.elim (by first | exact ne_b11_b37 | exact ne_b37_b11.symm | (show ¬ b11 = b37; omega)) (fun h => h.elim (by first | exact ne_b11_b30 | exact ne_b30_b11.symm | (show ¬ b11 = b30; omega)) (fun h => h.elim (by first | exact ne_b11_ig | exact ne_ig_b11.symm | (show ¬ b11 = ig; omega)) (fun h => h.elim (apart_none b11) ap_Q24_b11))))
  replace M45 := M45.only hN68 (fun h => h.elim (by first | exact ne_r42_b37 | exact ne_b37_r42.symm | (show ¬ r42 = b37; omega)) (fun h => h.elim (by first | exact ne_r42_b30 | exact ne_b30_r42.symm | (show ¬ r42 = b30; omega)) (fun h => h.elim (by first | exact ne_r42_ig | exact ne_ig_r42.symm | (show ¬ r42 = ig; omega)) (fun h => h.elim (apart_none r42) ap_Q24_r42))))
  replace hF := hF.locS hN68 (fun i => (fun h => h.elim (fun e => by rw [e]; exact (.inr g_b37)) (fun h => h.elim (fun e => by rw [e]; exact (.inr g_b30)) (fun h => h.elim (fun e => by rw [e]; exact (.inl ((hP.foot ig).2 (.inr (.inr (.inl rfl)))))) (fun h => h.elim (fun h => gA_none i h) (fun h => gA_Q24 i h))))))
  clear B40 B33 OQ26 hB hI
  obtain ⟨hW, hE, hB, hI, hQ, O66, hS⟩ := R63
  simp only [List.nil_append] at hW O66
  have ap_A61_b37 := hS.ap_A_bw
  have ap_Q59_b37 := hS.ap_Q_bw
  have ap_A61_b30 := hS.ap_A_be
  have ap_Q59_b30 := hS.ap_Q_be
  have ap_A61_b := hS.ap_A_bh
  have ap_Q59_b := hS.ap_Q_bh
  have ap_A61_bi := hS.ap_A_bi
  have ap_Q59_bi := hS.ap_Q_bi
  have ap_A61_ig := hS.ap_A_ig
  have ap_Q59_ig := hS.ap_Q_ig
  have ap2_Q59_A61 := hS.ap2_Q_A
  refine wpList_nil ?_
  refine fx_next ?_
  refine wp_seq ?_
  refine fx_heldT (n := 10) (k := 10) (fun w => EntsAt w FpE r h.E L c ∧ Blk w b1 36 (msgE.arr m) ∧ Blk w b6 23 (#[.slice none 0 0]) ∧ Blk w b11 37 (#[.int .i64 0]) ∧ MapBlk w r42 #[⟨.int .i64 1, .func (.func 32) #[.pointer (some ⟨b37, 0, none⟩)] #[], 0⟩, ⟨.int .i64 2, .func (.func 32) #[.pointer (some ⟨b37, 0, none⟩)] #[], 1⟩, ⟨.int .i64 3, .func (.func 32) #[.pointer (some ⟨b37, 0, none⟩)] #[], 2⟩, ⟨.int .i64 11, .func (.func 33) #[.pointer (some ⟨b37, 0, none⟩)] #[], 3⟩, ⟨.int .i64 12, .func (.func 34) #[.pointer (some ⟨b37, 0, none⟩)] #[], 4⟩, ⟨.int .i64 13, .func (.func 35) #[.pointer (some ⟨b37, 0, none⟩)] #[], 5⟩] 6 ∧ Blk w b37 82 #[.slice A61 x.2.2.length ac62, .pointer (some ⟨b30, 0, none⟩), .pointer (some ⟨b, 0, none⟩), .int .u32 m.line] ∧ Blk w b30 42 (entA x.1 (.slice Q59 x.1.q.length qc60)) ∧ Blk w b 64 #[.pointer (some ⟨bi, 0, none⟩), .map (some r)] ∧ Img 0 w bi ig cap x.2.1 ∧ View msgE w Q59 qc60 x.1.q ∧ Own msgE w A61 ac62 x.2.2 ∧ True) (by kernel_rfl) (by kernel_rfl) rfl ?_  -- region 11
  intro w69 hN70
  replace hM := hM.new hN70
  replace B4 := B4.new hN70
  replace B9 := B9.new hN70
  replace B14 := B14.new hN70
  replace M45 := M45.new hN70
  replace hW := hW.new hN70
  replace hE := hE.new hN70
  replace hB := hB.new hN70
  replace hI := hI.new hN70
  replace hQ := hQ.new hN70
  replace O66 := O66.new hN70
  replace hF := hF.trNew hN70
  refine fx_take (i := 0) (v := .pointer (some ⟨b, 0, none⟩)) fr rfl (by kernel_rfl) rfl rfl (by first | decide | simp) (fun _ _ _ h => panic_putD (fn := Try.f12) (d := 56) (by decide) h) (fun _ ⟨hM, B4, B9, B14, M45, hW, hE, hB, hI, hQ, O66, _⟩ => x_move rfl (fr.ev rfl)) ⟨hM, B4, B9, B14, M45, hW, hE, hB, hI, hQ, O66, trivial⟩ ?_
  clear fr a; intro a fr
  refine fx_take (i := 1) (v := .pointer (some ⟨b, 0, none⟩)) fr rfl (by kernel_rfl) rfl rfl (by first | decide | simp) (fun _ _ _ h => panic_putD (fn := Try.f12) (d := 57) (by decide) h) (fun _ ⟨hM, B4, B9, B14, M45, hW, hE, hB, hI, hQ, O66, _⟩ => x_nilCheck rfl (fr.ev rfl)) ⟨hM, B4, B9, B14, M45, hW, hE, hB, hI, hQ, O66, trivial⟩ ?_
  clear fr a; intro a fr
  refine fx_take (i := 2) (v := .pointer (some ⟨b, 1, none⟩)) fr rfl (by kernel_rfl) rfl rfl (by first | decide | simp) (fun _ _ _ h => panic_putD (fn := Try.f12) (d := 58) (by decide) h) (fun _ ⟨hM, B4, B9, B14, M45, hW, hE, hB, hI, hQ, O66, _⟩ => x_fieldAddr fo64_1 rfl (fr.ev rfl) rfl) ⟨hM, B4, B9, B14, M45, hW, hE, hB, hI, hQ, O66, trivial⟩ ?_
  clear fr a; intro a fr
  refine fx_take (i := 3) (v := .map (some r)) fr rfl (by kernel_rfl) rfl rfl (by first | decide | simp) (fun _ _ _ h => panic_putD (fn := Try.f12) (d := 59) (by decide) h) (fun _ ⟨hM, B4, B9, B14, M45, hW, hE, hB, hI, hQ, O66, _⟩ => x_load1 pl62 rfl (fr.ev rfl) (hB.cell 1 rfl)) ⟨hM, B4, B9, B14, M45, hW, hE, hB, hI, hQ, O66, trivial⟩ ?_
  clear fr a; intro a fr
  refine fx_take (i := 4) (v := .pointer (some ⟨b1, 3, none⟩)) fr rfl (by kernel_rfl) rfl rfl (by first | decide | simp) (fun _ _ _ h => panic_putD (fn := Try.f12) (d := 60) (by decide) h) (fun _ ⟨hM, B4, B9, B14, M45, hW, hE, hB, hI, hQ, O66, _⟩ => x_fieldAddr fo36_3 rfl (fr.ev rfl) rfl) ⟨hM, B4, B9, B14, M45, hW, hE, hB, hI, hQ, O66, trivial⟩ ?_
  clear fr a; intro a fr
  refine fx_take (i := 5) (v := .int .u32 m.line) fr rfl (by kernel_rfl) rfl rfl (by first | decide | simp) (fun _ _ _ h => panic_putD (fn := Try.f12) (d := 61) (by decide) h) (fun _ ⟨hM, B4, B9, B14, M45, hW, hE, hB, hI, hQ, O66, _⟩ => x_load1 pl24 rfl (fr.ev rfl) (B4.cell 3 rfl)) ⟨hM, B4, B9, B14, M45, hW, hE, hB, hI, hQ, O66, trivial⟩ ?_
  clear fr a; intro a fr
  refine fx_take (i := 6) (v := .pointer (some ⟨b37, 0, none⟩)) fr rfl (by kernel_rfl) rfl rfl (by first | decide | simp) (fun _ _ _ h => panic_putD (fn := Try.f12) (d := 62) (by decide) h) (fun _ ⟨hM, B4, B9, B14, M45, hW, hE, hB, hI, hQ, O66, _⟩ => x_move rfl (fr.ev rfl)) ⟨hM, B4, B9, B14, M45, hW, hE, hB, hI, hQ, O66, trivial⟩ ?_
  clear fr a; intro a fr
  refine fx_take (i := 7) (v := .pointer (some ⟨b37, 0, none⟩)) fr rfl (by kernel_rfl) rfl rfl (by first | decide | simp) (fun _ _ _ h => panic_putD (fn := Try.f12) (d := 63) (by decide) h) (fun _ ⟨hM, B4, B9, B14, M45, hW, hE, hB, hI, hQ, O66, _⟩ => x_nilCheck rfl (fr.ev rfl)) ⟨hM, B4, B9, B14, M45, hW, hE, hB, hI, hQ, O66, trivial⟩ ?_
  clear fr a; intro a fr
  refine fx_take (i := 8) (v := .pointer (some ⟨b37, 1, none⟩)) fr rfl (by kernel_rfl) rfl rfl (by first | decide | simp) (fun _ _ _ h => panic_putD (fn := Try.f12) (d := 64) (by decide) h) (fun _ ⟨hM, B4, B9, B14, M45, hW, hE, hB, hI, hQ, O66, _⟩ => x_fieldAddr fo82_1 rfl (fr.ev rfl) rfl) ⟨hM, B4, B9, B14, M45, hW, hE, hB, hI, hQ, O66, trivial⟩ ?_
  clear fr a; intro a fr
  refine fx_take (i := 9) (v := .pointer (some ⟨b30, 0, none⟩)) fr rfl (by kernel_rfl) rfl rfl (by first | decide | simp) (fun _ _ _ h => panic_putD (fn := Try.f12) (d := 65) (by decide) h) (fun _ ⟨hM, B4, B9, B14, M45, hW, hE, hB, hI, hQ, O66, _⟩ => x_load1 pl78 rfl (fr.ev rfl) (hW.cell 1 rfl)) ⟨hM, B4, B9, B14, M45, hW, hE, hB, hI, hQ, O66, trivial⟩ ?_
  clear fr a; intro a fr
  refine fx_hdone (by kernel_rfl) ?_
  refine fx_tail ?_
  have hner : ¬ b30 = r := fun e => ap_FpE_b30 (e ▸ hrE)
  refine fx_entPut (n := m.line.toNat) rfl rfl rfl (fr.ev rfl) ((fr.ev rfl).trans (int_nat _ _ (by omega))) (fr.ev rfl) hM (by omega) hE hQ hner (fun h => ap2_FpE_Q59 r hrE h) ?_
  intro w71 L72 c73 FpE74 hO75 hM76 hF277
  have ne_b1_r : NE b1 r := fun e => ap_FpE_b1 (e ▸ hrE)
  have ne_b6_r : NE b6 r := fun e => ap_FpE_b6 (e ▸ hrE)
  have ne_b11_r : NE b11 r := fun e => ap_FpE_b11 (e ▸ hrE)
  have ne_r42_r : NE r42 r := fun e => ap_FpE_r42 (e ▸ hrE)
  have ne_b37_r : NE b37 r := fun e => ap_FpE_b37 (e ▸ hrE)
  have ne_b30_r : NE b30 r := fun e => ap_FpE_b30 (e ▸ hrE)
  have ne_b_r : NE b r := fun e => ap_FpE_b (e ▸ hrE)
  have ne_bi_r : NE bi r := fun e => ap_FpE_bi (e ▸ hrE)
  have ne_ig_r : NE ig r := fun e => ap_FpE_ig (e ▸ hrE)
  have ap_Q59_r : Apart Q59 r := fun h => ap2_FpE_Q59 r hrE h
  have ap_A61_r : Apart A61 r := fun h => ap2_FpE_A61 r hrE h
  have ap_FpE74_b1 : ¬ FpE74 b1 := fun h => (hF277 b1 h).elim ap_FpE_b1 fun h => h.elim (fun e => absurd e (by first | exact ne_b1_b30 | exact ne_b30_b1.symm)) ap_Q59_b1
  have ap_FpE74_b6 : ¬ FpE74 b6 := fun h => (hF277 b6 h).elim ap_FpE_b6 fun h => h.elim (fun e => absurd e (by first | exact ne_b6_b30 | exact ne_b30_b6.symm)) ap_Q59_b6
  have ap_FpE74_b11 : ¬ FpE74 b11 := fun h => (hF277 b11 h).elim ap_FpE_b11 fun h => h.elim (fun e => absurd e (by first | exact ne_b11_b30 | exact ne_b30_b11.symm)) ap_Q59_b11
  have ap_FpE74_r42 : ¬ FpE74 r42 := fun h => (hF277 r42 h).elim ap_FpE_r42 fun h => h.elim (fun e => absurd e (by first | exact ne_r42_b30 | exact ne_b30_r42.symm)) ap_Q59_r42
  have ap_FpE74_b37 : ¬ FpE74 b37 := fun h => (hF277 b37 h).elim ap_FpE_b37 fun h => h.elim (fun e => absurd e (by first | exact ne_b37_b30 | exact ne_b30_b37.symm)) ap_Q59_b37
  have ap_FpE74_b : ¬ FpE74 b := fun h => (hF277 b h).elim ap_FpE_b fun h => h.elim (fun e => absurd e (by first | exact ne_b_b30 | exact ne_b30_b.symm)) ap_Q59_b
  have ap_FpE74_bi : ¬ FpE74 bi := fun h => (hF277 bi h).elim ap_FpE_bi fun h => h.elim (fun e => absurd e (by first | exact ne_bi_b30 | exact ne_b30_bi.symm)) ap_Q59_bi
  have ap_FpE74_ig : ¬ FpE74 ig := fun h => (hF277 ig h).elim ap_FpE_ig fun h => h.elim (fun e => absurd e (by first | exact ne_ig_b30 | exact ne_b30_ig.symm)) ap_Q59_ig
  replace B4 := B4.only hO75 (by first | exact ne_b1_r | exact ne_r_b1.symm | (show ¬ b1 = r; omega))
  replace B9 := B9.only hO75 (by first | exact ne_b6_r | exact ne_r_b6.symm | (show ¬ b6 = r; omega))
  replace B14 := B14.only hO75 (by first | exact ne_b11_r | exact ne_r_b11.symm | (show ¬ b11 = r; omega))
  replace M45 := M45.only hO75 (by first | exact ne_r42_r | exact ne_r_r42.symm | (show ¬ r42 = r; omega))
  replace hW := hW.only hO75 (by first | exact ne_b37_r | exact ne_r_b37.symm | (show ¬ b37 = r; omega))
  replace hE := hE.only hO75 (by first | exact ne_b30_r | exact ne_r_b30.symm | (show ¬ b30 = r; omega))
  replace hB := hB.only hO75 (by first | exact ne_b_r | exact ne_r_b.symm | (show ¬ b = r; omega))
  replace hI := hI.only hO75 (by first | exact ne_bi_r | exact ne_r_bi.symm | (show ¬ bi = r; omega)) (by first | exact ne_ig_r | exact ne_r_ig.symm | (show ¬ ig = r; omega))
  replace hQ := hQ.only hO75 (Apart.ne1 ap_Q59_r)
  replace O66 := O66.only hO75 (Apart.ne1 ap_A61_r)
  replace hF := hF.loc hO75 (.inl ((hP.foot r).2 (.inr (.inr (.inr hrE)))))
  clear hM
  refine wpList_nil ?_
  refine fx_next ?_
  refine wp_seq ?_
  refine wp_region_lit ?_  -- region 12
  refine fx_val (v := .pointer (some ⟨b37, 0, none⟩)) fr rfl rfl (by first | decide | simp) (x_move rfl (fr.ev rfl)) ?_
  clear fr a; intro a fr
  refine fx_val (v := .pointer (some ⟨b37, 0, none⟩)) fr rfl rfl (by first | decide | simp) (x_nilCheck rfl (fr.ev rfl)) ?_
  clear fr a; intro a fr
  refine fx_val (v := .pointer (some ⟨b37, 0, none⟩)) fr rfl rfl (by first | decide | simp) (x_fieldAddr fo82_0 rfl (fr.ev rfl) rfl) ?_
  clear fr a; intro a fr
  refine fx_val (v := .pointer (some ⟨b37, 0, none⟩)) fr rfl rfl (by first | decide | simp) (x_fieldAddr fo80_0 rfl (fr.ev rfl) rfl) ?_
  clear fr a; intro a fr
  refine fx_val (v := .slice A61 x.2.2.length ac62) fr rfl rfl (by first | decide | simp) (x_load1 pl23 rfl (fr.ev rfl) (hW.cell 0 rfl)) ?_
  clear fr a; intro a fr
  refine fx_store1 sz23 rfl rfl rfl (fr.ev rfl) (fr.ev rfl) rfl B9 (show 0 < 1 by decide) (cs' := #[.slice A61 x.2.2.length ac62]) rfl fun w78 hO79 hBq => ?_
  replace B4 := B4.only hO79 (by first | exact ne_b1_b6 | exact ne_b6_b1.symm | (show ¬ b1 = b6; omega))
  replace B14 := B14.only hO79 (by first | exact ne_b11_b6 | exact ne_b6_b11.symm | (show ¬ b11 = b6; omega))
  replace M45 := M45.only hO79 (by first | exact ne_r42_b6 | exact ne_b6_r42.symm | (show ¬ r42 = b6; omega))
  replace hW := hW.only hO79 (by first | exact ne_b37_b6 | exact ne_b6_b37.symm | (show ¬ b37 = b6; omega))
  replace hE := hE.only hO79 (by first | exact ne_b30_b6 | exact ne_b6_b30.symm | (show ¬ b30 = b6; omega))
  replace hB := hB.only hO79 (by first | exact ne_b_b6 | exact ne_b6_b.symm | (show ¬ b = b6; omega))
  replace hI := hI.only hO79 (by first | exact ne_bi_b6 | exact ne_b6_bi.symm | (show ¬ bi = b6; omega)) (by first | exact ne_ig_b6 | exact ne_b6_ig.symm | (show ¬ ig = b6; omega))
  replace hQ := hQ.only hO79 (Apart.ne1 ap_Q59_b6)
  replace O66 := O66.only hO79 (Apart.ne1 ap_A61_b6)
  replace hM76 := hM76.only hO79 (ne1P ap_FpE74_b6)
  replace hF := hF.loc hO79 (.inr g_b6)
  replace B9 := hBq
  clear hBq
  refine fx_store1 sz37 rfl rfl rfl (fr.ev rfl) rfl rfl B14 (show 0 < 1 by decide) (cs' := #[.int .i64 0]) rfl fun w80 hO81 hBq => ?_
  replace B4 := B4.only hO81 (by first | exact ne_b1_b11 | exact ne_b11_b1.symm | (show ¬ b1 = b11; omega))
  replace M45 := M45.only hO81 (by first | exact ne_r42_b11 | exact ne_b11_r42.symm | (show ¬ r42 = b11; omega))
  replace hW := hW.only hO81 (by first | exact ne_b37_b11 | exact ne_b11_b37.symm | (show ¬ b37 = b11; omega))
  replace hE := hE.only hO81 (by first | exact ne_b30_b11 | exact ne_b11_b30.symm | (show ¬ b30 = b11; omega))
  replace hB := hB.only hO81 (by first | exact ne_b_b11 | exact ne_b11_b.symm | (show ¬ b = b11; omega))
  replace hI := hI.only hO81 (by first | exact ne_bi_b11 | exact ne_b11_bi.symm | (show ¬ bi = b11; omega)) (by first | exact ne_ig_b11 | exact ne_b11_ig.symm | (show ¬ ig = b11; omega))
  replace hQ := hQ.only hO81 (Apart.ne1 ap_Q59_b11)
  replace O66 := O66.only hO81 (Apart.ne1 ap_A61_b11)
  replace hM76 := hM76.only hO81 (ne1P ap_FpE74_b11)
  replace B9 := B9.only hO81 (by first | exact ne_b6_b11 | exact ne_b11_b6.symm | (show ¬ b6 = b11; omega))
  replace hF := hF.loc hO81 (.inr g_b11)
  replace B14 := hBq
  clear hBq
  refine wpList_nil ?_
  refine fx_next ?_
  refine wp_ret ?_
  refine fx_retD1 fr rfl (caught_idle b6 b11 _) [.cell 4 23, .cell 5 37] [.slice A61 x.2.2.length ac62, .int .i64 0] rfl ⟨⟨_, rfl, x_loadV1 pl23 (B9.cell 0 rfl)⟩, ⟨_, rfl, x_loadV1 pl37 (B14.cell 0 rfl)⟩, trivial⟩ rfl ?_
  exact ⟨_, rfl, A61, ac62, (fun k => k = b ∨ k = bi ∨ k = ig ∨ FpE74 k), rfl, O66, gN_A61, ⟨bi, ig, cap, r, FpE74, L72, c73, hB, hI, hM76, ⟨ne_b_bi, ne_b_ig, (fun h => (hF277 _ h).elim ap_FpE_b fun h => h.elim (fun e => absurd e (by first | exact ne_b_b30 | exact ne_b30_b.symm)) ap_Q59_b), (fun h => (hF277 _ h).elim ap_FpE_bi fun h => h.elim (fun e => absurd e (by first | exact ne_bi_b30 | exact ne_b30_bi.symm)) ap_Q59_bi), (fun h => (hF277 _ h).elim ap_FpE_ig fun h => h.elim (fun e => absurd e (by first | exact ne_ig_b30 | exact ne_b30_ig.symm)) ap_Q59_ig), fun _ => Iff.rfl⟩, by rw [List.length_set, hxl]; exact hEn⟩, (fun k hk ha => hk.elim (fun e => ap_A61_b (e ▸ ha)) fun hk => hk.elim (fun e => ap_A61_bi (e ▸ ha)) fun hk => hk.elim (fun e => ap_A61_ig (e ▸ ha)) fun hk => (hF277 k hk).elim (fun h => ap2_FpE_A61 k h ha) fun h => h.elim (fun e => ap_A61_b30 (e ▸ ha)) fun h => ap2_Q59_A61 k h ha), (fun k hk => hk.elim (fun e => .inl ((hP.foot k).2 (.inl e))) fun hk => hk.elim (fun e => .inl ((hP.foot k).2 (.inr (.inl e)))) fun hk => hk.elim (fun e => .inl ((hP.foot k).2 (.inr (.inr (.inl e))))) fun hk => (hF277 k hk).elim (fun h => .inl ((hP.foot k).2 (.inr (.inr (.inr h))))) fun h => .inr (h.elim (fun e => by rw [e]; exact g_b30) (gN_Q59 k))), hF⟩
set_option maxRecDepth 100000 in
set_option maxHeartbeats 4000000 in
theorem take_pan {w : World} {Fp : Nat → Prop} {b : Nat} {h : HD} (H : HomeAt w Fp b h) (m : Msg) (hc : ¬ chk m ≠ 0) (hx : ¬ m.dst ≠ 4) (hr : ¬ ((h.bs.length / 16 : Nat) : Int) ≤ m.line) (hql : (entOf h.E m.line.toNat).q.length ≤ 100000) {f : Nat} {fn : Func} (hfn : Try.prog.funcs[f]? = some fn) (hnm : (fn.name == "runtime.NumGoroutine") = false) (hbd : fn.body.isNone = false) (hes : ∀ b, (Instr.findNow (.int .i64) (.int .i64 m.kind) (takeEs b).toList 0).map (fun q => (match q with | some (_, u) => u | none => .nilFunc, q.isSome)) = some (.func (.func f) #[.pointer (some ⟨b, 0, none⟩)] #[], true)) (hcall : ∀ w1 bw be bi ig cap r Q qc, WorkR w1 bw be b bi ig cap r m.line (entOf h.E m.line.toNat) Q qc none 0 [] h.bs → Own msgE w1 Q qc (entOf h.E m.line.toNat).q → Calls Try.prog f #[.pointer (some ⟨bw, 0, none⟩), .agg (msgE.arr m)] w1 (Pan fun c w' => c = stopE 220 ∧ New w1 w'))  : Calls Try.prog 12 #[.pointer (some ⟨b, 0, none⟩), .agg (msgE.arr m)] w (Ret fun v w' => v = .tuple #[.slice none 0 0, .int .i64 220] ∧ HomeAt w' Fp b h ∧ New w w') := by
  have H0 := H
  obtain ⟨bi, ig, cap, r, FpE, L, c, hB, hI, hM, hP, hEn⟩ := H0
  have hmn := m.hn
  have hpos := hI.pos
  have ne_b_bi := hP.ne_b_bi
  have ne_b_ig := hP.ne_b_ig
  have ne_bi_ig : NE bi ig := hI.ne
  have ap_FpE_b := hP.fb
  have ap_FpE_bi := hP.fbi
  have ap_FpE_ig := hP.fig
  have hrE := (hM.foot r).2 (.inl rfl)
  have gA_FpE := fun g (hg : FpE g) => (Or.inl trivial : True ∨ w.heap.size ≤ g)
  have gA_Fp := fun g (hg : Fp g) => (Or.inl trivial : True ∨ w.heap.size ≤ g)
  have hF := Only.refl (fun _ => False) w
  refine fx_enterD Try.func12 rfl (N := (71, [])) (T := [(0, .pointer (some ⟨b, 0, none⟩)), (1, .agg (msgE.arr m))]) rfl (show 2 ≤ 71 by decide) ⟨rfl, rfl, trivial⟩ fun a fr => ?_
  refine wp_seq ?_
  refine wp_region_lit ?_  -- region 0
  refine fx_new fr rfl rfl (by first | decide | simp) (x_box (cs := msgE.arr m) rfl (fr.ev rfl) rfl) ?_
  clear fr a
  intro b1 w2 hN3 B4 hb5 a fr
  have ne_b_b1 : NE b b1 := NE.mk (Nat.lt_of_lt_of_le hB.lt hb5)
  have ne_bi_b1 : NE bi b1 := NE.mk (Nat.lt_of_lt_of_le hI.lt.1 hb5)
  have ne_ig_b1 : NE ig b1 := NE.mk (Nat.lt_of_lt_of_le hI.lt.2 hb5)
  have ap_FpE_b1 : ¬ FpE b1 := hM.apart hb5
  have ap_Fp_b1 : ¬ Fp b1 := H.apart hb5
  have g_b1 := Nat.le_trans hF.size hb5
  replace hB := hB.new hN3
  replace hI := hI.new hN3
  replace hM := hM.new hN3
  replace H := H.new hN3
  replace hF := hF.trNew hN3
  refine fx_new fr rfl rfl (by first | decide | simp) (x_alloc (z := .slice none 0 0) (cs := #[.slice none 0 0]) rfl (by kernel_rfl) rfl) ?_
  clear fr a
  intro b6 w7 hN8 B9 hb10 a fr
  have ne_b_b6 : NE b b6 := NE.mk (Nat.lt_of_lt_of_le hB.lt hb10)
  have ne_bi_b6 : NE bi b6 := NE.mk (Nat.lt_of_lt_of_le hI.lt.1 hb10)
  have ne_ig_b6 : NE ig b6 := NE.mk (Nat.lt_of_lt_of_le hI.lt.2 hb10)
  have ap_FpE_b6 : ¬ FpE b6 := hM.apart hb10
  have ap_Fp_b6 : ¬ Fp b6 := H.apart hb10
  have ne_b1_b6 : NE b1 b6 := NE.mk (Nat.lt_of_lt_of_le B4.lt hb10)
  have g_b6 := Nat.le_trans hF.size hb10
  replace hB := hB.new hN8
  replace hI := hI.new hN8
  replace hM := hM.new hN8
  replace H := H.new hN8
  replace B4 := B4.new hN8
  replace hF := hF.trNew hN8
  refine fx_new fr rfl rfl (by first | decide | simp) (x_alloc (z := .int .i64 0) (cs := #[.int .i64 0]) rfl (by kernel_rfl) rfl) ?_
  clear fr a
  intro b11 w12 hN13 B14 hb15 a fr
  have ne_b_b11 : NE b b11 := NE.mk (Nat.lt_of_lt_of_le hB.lt hb15)
  have ne_bi_b11 : NE bi b11 := NE.mk (Nat.lt_of_lt_of_le hI.lt.1 hb15)
  have ne_ig_b11 : NE ig b11 := NE.mk (Nat.lt_of_lt_of_le hI.lt.2 hb15)
  have ap_FpE_b11 : ¬ FpE b11 := hM.apart hb15
  have ap_Fp_b11 : ¬ Fp b11 := H.apart hb15
  have ne_b1_b11 : NE b1 b11 := NE.mk (Nat.lt_of_lt_of_le B4.lt hb15)
  have ne_b6_b11 : NE b6 b11 := NE.mk (Nat.lt_of_lt_of_le B9.lt hb15)
  have g_b11 := Nat.le_trans hF.size hb15
  replace hB := hB.new hN13
  replace hI := hI.new hN13
  replace hM := hM.new hN13
  replace H := H.new hN13
  replace B4 := B4.new hN13
  replace B9 := B9.new hN13
  replace hF := hF.trNew hN13
  refine wpList_nil ?_
  refine fx_next ?_
  refine wp_seq ?_
  refine wp_block ?_
  refine wp_seq ?_
  refine wp_region_lit ?_  -- region 1
  refine fx_val (v := .pointer (some ⟨b, 0, none⟩)) fr rfl rfl (by first | decide | simp) (x_move rfl (fr.ev rfl)) ?_
  clear fr a; intro a fr
  refine fx_call fr rfl rfl (by first | decide | simp) (x_call (vs := [.pointer (some ⟨b, 0, none⟩)]) rfl rfl ⟨(fr.ev rfl), trivial⟩ Try.func27 nm27 rfl) (hnone_c hB) ?_
  clear fr a
  rintro v w9 ⟨rfl, hw9⟩ a fr
  obtain rfl := hw9.symm
  refine fx_val (v := .bool false) fr rfl rfl (by first | decide | simp) (x_assign rfl (fr.ev rfl)) ?_
  clear fr a; intro a fr
  refine wpList_nil ?_
  refine fx_next ?_
  refine fx_cond_f fr rfl ?_
  refine wp_seq ?_
  refine wp_region_lit ?_  -- region 3
  refine fx_val (v := .agg (msgE.arr m)) fr rfl rfl (by first | decide | simp) (x_loadE (E := msgE) ag36 rfl rfl (fr.ev rfl) (B4.rangeE msgE)) ?_
  clear fr a; intro a fr
  refine fx_call fr rfl rfl (by first | decide | simp) (x_call (vs := [.agg (msgE.arr m)]) rfl rfl ⟨(fr.ev rfl), trivial⟩ Try.func29 nm29 rfl) (chk_c m _) ?_
  clear fr a
  rintro v w18 ⟨rfl, hN19⟩ a fr
  replace hB := hB.new hN19
  replace hI := hI.new hN19
  replace hM := hM.new hN19
  replace H := H.new hN19
  replace B4 := B4.new hN19
  replace B9 := B9.new hN19
  replace B14 := B14.new hN19
  replace hF := hF.trNew hN19
  refine fx_val (v := .bool false) fr rfl rfl (by first | decide | simp) (x_neq rfl (fr.ev rfl) rfl (decide_eq_false hc)) ?_
  clear fr a; intro a fr
  refine fx_val (v := .bool false) fr rfl rfl (by first | decide | simp) (x_move rfl (fr.ev rfl)) ?_
  clear fr a; intro a fr
  refine fx_val (v := .pointer (some ⟨b1, 2, none⟩)) fr (fr.want rfl rfl rfl) rfl (by first | decide | simp) (x_fieldAddr fo36_2 rfl (fr.ev rfl) rfl) ?_
  clear fr a; intro a fr
  refine fx_val (v := .int .i64 m.dst) fr (fr.want rfl rfl rfl) rfl (by first | decide | simp) (x_load1 pl3 rfl (fr.ev rfl) (B4.cell 2 rfl)) ?_
  clear fr a; intro a fr
  refine fx_val (v := .bool false) fr (fr.want rfl rfl rfl) rfl (by first | decide | simp) (x_neq rfl (fr.ev rfl) rfl (decide_eq_false hx)) ?_
  clear fr a; intro a fr
  refine fx_val (v := .bool false) fr rfl rfl (by first | decide | simp) (x_pick_f rfl (fr.ev rfl) (fr.ev rfl)) ?_
  clear fr a; intro a fr
  refine fx_val (v := .bool false) fr rfl rfl (by first | decide | simp) (x_assign rfl (fr.ev rfl)) ?_
  clear fr a; intro a fr
  refine wpList_nil ?_
  refine fx_next ?_
  refine fx_cond_f fr rfl ?_
  refine wp_seq ?_
  refine fx_held (n := 7) (fun w => Blk w b 64 #[.pointer (some ⟨bi, 0, none⟩), .map (some r)] ∧ Img 0 w bi ig cap h.bs ∧ EntsAt w FpE r h.E L c ∧ Blk w b1 36 (msgE.arr m) ∧ Blk w b6 23 (#[.slice none 0 0]) ∧ Blk w b11 37 (#[.int .i64 0]) ∧ True) (by kernel_rfl) rfl ?_  -- region 5
  intro w20 hN21
  replace hB := hB.new hN21
  replace hI := hI.new hN21
  replace hM := hM.new hN21
  replace H := H.new hN21
  replace B4 := B4.new hN21
  replace B9 := B9.new hN21
  replace B14 := B14.new hN21
  replace hF := hF.trNew hN21
  refine fx_take (i := 0) (v := .pointer (some ⟨b1, 3, none⟩)) fr rfl (by kernel_rfl) rfl rfl (by first | decide | simp) (fun _ _ _ h => panic_putD (fn := Try.f12) (d := 21) (by decide) h) (fun _ ⟨hB, hI, hM, B4, B9, B14, _⟩ => x_fieldAddr fo36_3 rfl (fr.ev rfl) rfl) ⟨hB, hI, hM, B4, B9, B14, trivial⟩ ?_
  clear fr a; intro a fr
  refine fx_take (i := 1) (v := .int .u32 m.line) fr rfl (by kernel_rfl) rfl rfl (by first | decide | simp) (fun _ _ _ h => panic_putD (fn := Try.f12) (d := 22) (by decide) h) (fun _ ⟨hB, hI, hM, B4, B9, B14, _⟩ => x_load1 pl24 rfl (fr.ev rfl) (B4.cell 3 rfl)) ⟨hB, hI, hM, B4, B9, B14, trivial⟩ ?_
  clear fr a; intro a fr
  refine fx_take (i := 2) (v := .int .i64 m.line) fr rfl (by kernel_rfl) rfl rfl (by first | decide | simp) (fun _ _ _ h => panic_putD (fn := Try.f12) (d := 23) (by decide) h) (fun _ ⟨hB, hI, hM, B4, B9, B14, _⟩ => x_convert Try.underlying24 Try.underlying2 rfl (fr.ev rfl) (i64w (r := m.line) rfl (by omega))) ⟨hB, hI, hM, B4, B9, B14, trivial⟩ ?_
  clear fr a; intro a fr
  refine fx_take (i := 3) (v := .pointer (some ⟨b, 0, none⟩)) fr rfl (by kernel_rfl) rfl rfl (by first | decide | simp) (fun _ _ _ h => panic_putD (fn := Try.f12) (d := 24) (by decide) h) (fun _ ⟨hB, hI, hM, B4, B9, B14, _⟩ => x_move rfl (fr.ev rfl)) ⟨hB, hI, hM, B4, B9, B14, trivial⟩ ?_
  clear fr a; intro a fr
  refine fx_one (i := 4) (by kernel_rfl) (fx_op rfl ?_)
  refine fx_call fr rfl rfl (by first | decide | simp) (x_call (vs := [.pointer (some ⟨b, 0, none⟩)]) rfl rfl ⟨(fr.ev rfl), trivial⟩ Try.func10 nm10 rfl) (lines_r hB hI) ?_
  clear fr a
  rintro v w9 ⟨rfl, hw9⟩ a fr
  obtain rfl := hw9.symm
  refine wpList_nil ?_
  refine ⟨⟨hB, hI, hM, B4, B9, B14, trivial⟩, ?_⟩
  refine fx_take (i := 5) (v := .bool false) fr rfl (by kernel_rfl) rfl rfl (by first | decide | simp) (fun _ _ _ h => panic_putD (fn := Try.f12) (d := 26) (by decide) h) (fun _ ⟨hB, hI, hM, B4, B9, B14, _⟩ => x_geq rfl (fr.ev rfl) (fr.ev rfl) (decide_eq_false hr)) ⟨hB, hI, hM, B4, B9, B14, trivial⟩ ?_
  clear fr a; intro a fr
  refine fx_take (i := 6) (v := .bool false) fr rfl (by kernel_rfl) rfl rfl (by first | decide | simp) (fun _ _ _ h => panic_putD (fn := Try.f12) (d := 20) (by decide) h) (fun _ ⟨hB, hI, hM, B4, B9, B14, _⟩ => x_assign rfl (fr.ev rfl)) ⟨hB, hI, hM, B4, B9, B14, trivial⟩ ?_
  clear fr a; intro a fr
  refine fx_hdone (by kernel_rfl) ?_
  refine fx_next ?_
  refine fx_cond_f fr rfl ?_
  refine wp_skip ?_
  refine fx_blk ?_
  refine fx_next ?_
  refine wp_seq ?_
  refine wp_region_lit ?_  -- region 7
  refine fx_val (v := .func (.func 30) #[] #[.pointer (some ⟨b6, 0, none⟩), .pointer (some ⟨b11, 0, none⟩)]) fr rfl rfl (by first | decide | simp) (x_makeFunc (vs := [.pointer (some ⟨b6, 0, none⟩), .pointer (some ⟨b11, 0, none⟩)]) rfl ⟨(fr.ev rfl), (fr.ev rfl), trivial⟩) ?_
  clear fr a; intro a fr
  refine fx_defer fr rfl rfl (x_deferv (vs := []) rfl (fr.ev rfl) trivial) ?_
  clear fr a; intro a fr
  refine wpList_nil ?_
  refine fx_next ?_
  refine wp_seq ?_
  refine wp_region_lit ?_  -- region 8
  refine fx_val (v := .pointer (some ⟨b, 0, none⟩)) fr rfl rfl (by first | decide | simp) (x_move rfl (fr.ev rfl)) ?_
  clear fr a; intro a fr
  refine fx_val (v := .pointer (some ⟨b1, 3, none⟩)) fr rfl rfl (by first | decide | simp) (x_fieldAddr fo36_3 rfl (fr.ev rfl) rfl) ?_
  clear fr a; intro a fr
  refine fx_val (v := .int .u32 m.line) fr rfl rfl (by first | decide | simp) (x_load1 pl24 rfl (fr.ev rfl) (B4.cell 3 rfl)) ?_
  clear fr a; intro a fr
  refine fx_call fr rfl rfl (by first | decide | simp) (x_call (vs := [.pointer (some ⟨b, 0, none⟩), .int .u32 m.line]) rfl rfl ⟨(fr.ev rfl), (fr.ev rfl), trivial⟩ Try.func31 nm31 rfl) (of_c hB hM m.line (by omega) (by omega)) ?_
  clear fr a
  rintro v w28 ⟨Q24, qc25, rfl, OQ26, hA27, hN29⟩ a fr
  have ap_Q24_b : Apart Q24 b := new_apart hA27 hB.lt
  have ap_Q24_bi : Apart Q24 bi := new_apart hA27 hI.lt.1
  have ap_Q24_ig : Apart Q24 ig := new_apart hA27 hI.lt.2
  have ap2_FpE_Q24 : ∀ k, FpE k → inA Q24 k → False := symP (new_apart2P hA27 fun _ hg => hM.lt hg)
  have ap2_Fp_Q24 : ∀ k, Fp k → inA Q24 k → False := symP (new_apart2P hA27 fun _ hg => H.lt hg)
  have ap_Q24_b1 : Apart Q24 b1 := new_apart hA27 B4.lt
  have ap_Q24_b6 : Apart Q24 b6 := new_apart hA27 B9.lt
  have ap_Q24_b11 : Apart Q24 b11 := new_apart hA27 B14.lt
  have gA_Q24 := gA_new hF hA27
  have gN_Q24 := fun g (hg : inA Q24 g) => Nat.le_trans hF.size (hA27 g hg)
  replace hB := hB.new hN29
  replace hI := hI.new hN29
  replace hM := hM.new hN29
  replace H := H.new hN29
  replace B4 := B4.new hN29
  replace B9 := B9.new hN29
  replace B14 := B14.new hN29
  replace hF := hF.trNew hN29
  refine fx_new fr rfl rfl (by first | decide | simp) (x_alloc (z := .agg (#[.int .i64 0, .bool false, .bool false, .bool false, .bool false, .bool false, .int .i64 0, .int .i64 0, .int .i64 0, .bool false, .slice none 0 0])) (cs := #[.int .i64 0, .bool false, .bool false, .bool false, .bool false, .bool false, .int .i64 0, .int .i64 0, .int .i64 0, .bool false, .slice none 0 0]) rfl (by kernel_rfl) rfl) ?_
  clear fr a
  intro b30 w31 hN32 B33 hb34 a fr
  have ne_b_b30 : NE b b30 := NE.mk (Nat.lt_of_lt_of_le hB.lt hb34)
  have ne_bi_b30 : NE bi b30 := NE.mk (Nat.lt_of_lt_of_le hI.lt.1 hb34)
  have ne_ig_b30 : NE ig b30 := NE.mk (Nat.lt_of_lt_of_le hI.lt.2 hb34)
  have ap_FpE_b30 : ¬ FpE b30 := hM.apart hb34
  have ap_Fp_b30 : ¬ Fp b30 := H.apart hb34
  have ne_b1_b30 : NE b1 b30 := NE.mk (Nat.lt_of_lt_of_le B4.lt hb34)
  have ne_b6_b30 : NE b6 b30 := NE.mk (Nat.lt_of_lt_of_le B9.lt hb34)
  have ne_b11_b30 : NE b11 b30 := NE.mk (Nat.lt_of_lt_of_le B14.lt hb34)
  have ap_Q24_b30 : Apart Q24 b30 := OQ26.apart hb34
  have g_b30 := Nat.le_trans hF.size hb34
  replace hB := hB.new hN32
  replace hI := hI.new hN32
  replace hM := hM.new hN32
  replace H := H.new hN32
  replace B4 := B4.new hN32
  replace B9 := B9.new hN32
  replace B14 := B14.new hN32
  replace OQ26 := OQ26.new hN32
  replace hF := hF.trNew hN32
  refine fx_storeS sz42 rfl rfl rfl (fr.ev rfl) (fr.ev rfl) (ent_all _ _ _ _) B33 rfl rfl fun w35 hO36 hBq => ?_
  replace hB := hB.only hO36 (by first | exact ne_b_b30 | exact ne_b30_b.symm | (show ¬ b = b30; omega))
  replace hI := hI.only hO36 (by first | exact ne_bi_b30 | exact ne_b30_bi.symm | (show ¬ bi = b30; omega)) (by first | exact ne_ig_b30 | exact ne_b30_ig.symm | (show ¬ ig = b30; omega))
  replace hM := hM.only hO36 (ne1P ap_FpE_b30)
  replace H := H.only hO36 (ne1P ap_Fp_b30)
  replace B4 := B4.only hO36 (by first | exact ne_b1_b30 | exact ne_b30_b1.symm | (show ¬ b1 = b30; omega))
  replace B9 := B9.only hO36 (by first | exact ne_b6_b30 | exact ne_b30_b6.symm | (show ¬ b6 = b30; omega))
  replace B14 := B14.only hO36 (by first | exact ne_b11_b30 | exact ne_b30_b11.symm | (show ¬ b11 = b30; omega))
  replace OQ26 := OQ26.only hO36 (Apart.ne1 ap_Q24_b30)
  replace hF := hF.loc hO36 (.inr g_b30)
  replace B33 := hBq
  clear hBq
  refine wpList_nil ?_
  refine fx_next ?_
  refine wp_seq ?_
  refine wp_region_lit ?_  -- region 9
  refine fx_val (v := .pointer (some ⟨b, 0, none⟩)) fr rfl rfl (by first | decide | simp) (x_move rfl (fr.ev rfl)) ?_
  clear fr a; intro a fr
  refine fx_val (v := .pointer (some ⟨b1, 3, none⟩)) fr rfl rfl (by first | decide | simp) (x_fieldAddr fo36_3 rfl (fr.ev rfl) rfl) ?_
  clear fr a; intro a fr
  refine fx_val (v := .int .u32 m.line) fr rfl rfl (by first | decide | simp) (x_load1 pl24 rfl (fr.ev rfl) (B4.cell 3 rfl)) ?_
  clear fr a; intro a fr
  refine fx_val (v := .agg (#[.slice none 0 0, .pointer (some ⟨b30, 0, none⟩), .pointer (some ⟨b, 0, none⟩), .int .u32 m.line])) fr rfl rfl (by first | decide | simp) (x_build (cells := #[.slice none 0 0, .pointer (some ⟨b30, 0, none⟩), .pointer (some ⟨b, 0, none⟩), .int .u32 m.line]) rfl (by simp only [List.map_toArray, List.map_cons, List.map_nil, show a.eval (.tmp 6) = .pointer (some ⟨b30, 0, none⟩) from fr.ev rfl, show a.eval (.tmp 32) = .pointer (some ⟨b, 0, none⟩) from fr.ev rfl, show a.eval (.tmp 34) = .int .u32 m.line from fr.ev rfl]; kernel_rfl)) ?_
  clear fr a; intro a fr
  refine fx_new fr rfl rfl (by first | decide | simp) (x_box (cs := #[.slice none 0 0, .pointer (some ⟨b30, 0, none⟩), .pointer (some ⟨b, 0, none⟩), .int .u32 m.line]) rfl (fr.ev rfl) rfl) ?_
  clear fr a
  intro b37 w38 hN39 B40 hb41 a fr
  have ne_b_b37 : NE b b37 := NE.mk (Nat.lt_of_lt_of_le hB.lt hb41)
  have ne_bi_b37 : NE bi b37 := NE.mk (Nat.lt_of_lt_of_le hI.lt.1 hb41)
  have ne_ig_b37 : NE ig b37 := NE.mk (Nat.lt_of_lt_of_le hI.lt.2 hb41)
  have ap_FpE_b37 : ¬ FpE b37 := hM.apart hb41
  have ap_Fp_b37 : ¬ Fp b37 := H.apart hb41
  have ne_b1_b37 : NE b1 b37 := NE.mk (Nat.lt_of_lt_of_le B4.lt hb41)
  have ne_b6_b37 : NE b6 b37 := NE.mk (Nat.lt_of_lt_of_le B9.lt hb41)
  have ne_b11_b37 : NE b11 b37 := NE.mk (Nat.lt_of_lt_of_le B14.lt hb41)
  have ap_Q24_b37 : Apart Q24 b37 := OQ26.apart hb41
  have ne_b30_b37 : NE b30 b37 := NE.mk (Nat.lt_of_lt_of_le B33.lt hb41)
  have g_b37 := Nat.le_trans hF.size hb41
  replace hB := hB.new hN39
  replace hI := hI.new hN39
  replace hM := hM.new hN39
  replace H := H.new hN39
  replace B4 := B4.new hN39
  replace B9 := B9.new hN39
  replace B14 := B14.new hN39
  replace OQ26 := OQ26.new hN39
  replace B33 := B33.new hN39
  replace hF := hF.trNew hN39
  refine fx_val (v := .pointer (some ⟨b37, 0, none⟩)) fr rfl rfl (by first | decide | simp) (x_assign rfl (fr.ev rfl)) ?_
  clear fr a; intro a fr
  refine wpList_nil ?_
  refine fx_next ?_
  refine wp_seq ?_
  refine wp_region_lit ?_  -- region 10
  refine fx_makeMap fr rfl rfl rfl (by first | decide | simp) ?_
  clear fr a
  intro r42 w43 hN44 M45 hb46 a fr
  have ne_b_r42 : NE b r42 := NE.mk (Nat.lt_of_lt_of_le hB.lt hb46)
  have ne_bi_r42 : NE bi r42 := NE.mk (Nat.lt_of_lt_of_le hI.lt.1 hb46)
  have ne_ig_r42 : NE ig r42 := NE.mk (Nat.lt_of_lt_of_le hI.lt.2 hb46)
  have ap_FpE_r42 : ¬ FpE r42 := hM.apart hb46
  have ap_Fp_r42 : ¬ Fp r42 := H.apart hb46
  have ne_b1_r42 : NE b1 r42 := NE.mk (Nat.lt_of_lt_of_le B4.lt hb46)
  have ne_b6_r42 : NE b6 r42 := NE.mk (Nat.lt_of_lt_of_le B9.lt hb46)
  have ne_b11_r42 : NE b11 r42 := NE.mk (Nat.lt_of_lt_of_le B14.lt hb46)
  have ap_Q24_r42 : Apart Q24 r42 := OQ26.apart hb46
  have ne_b30_r42 : NE b30 r42 := NE.mk (Nat.lt_of_lt_of_le B33.lt hb46)
  have ne_b37_r42 : NE b37 r42 := NE.mk (Nat.lt_of_lt_of_le B40.lt hb46)
  have g_r42 := Nat.le_trans hF.size hb46
  replace hB := hB.new hN44
  replace hI := hI.new hN44
  replace hM := hM.new hN44
  replace H := H.new hN44
  replace B4 := B4.new hN44
  replace B9 := B9.new hN44
  replace B14 := B14.new hN44
  replace OQ26 := OQ26.new hN44
  replace B33 := B33.new hN44
  replace B40 := B40.new hN44
  replace hF := hF.trNew hN44
  refine fx_val (v := .pointer (some ⟨b37, 0, none⟩)) fr rfl rfl (by first | decide | simp) (x_move rfl (fr.ev rfl)) ?_
  clear fr a; intro a fr
  refine fx_val (v := .func (.func 32) #[.pointer (some ⟨b37, 0, none⟩)] #[]) fr rfl rfl (by first | decide | simp) (x_makeBound rfl (fr.ev rfl)) ?_
  clear fr a; intro a fr
  refine fx_insert (es' := #[⟨.int .i64 1, .func (.func 32) #[.pointer (some ⟨b37, 0, none⟩)] #[], 0⟩]) Try.underlying84 Try.underlying33 rfl rfl rfl (fr.ev rfl) rfl (fr.ev rfl) M45 rfl rfl fun w47 hO48 hBq => ?_
  replace hB := hB.only hO48 (by first | exact ne_b_r42 | exact ne_r42_b.symm | (show ¬ b = r42; omega))
  replace hI := hI.only hO48 (by first | exact ne_bi_r42 | exact ne_r42_bi.symm | (show ¬ bi = r42; omega)) (by first | exact ne_ig_r42 | exact ne_r42_ig.symm | (show ¬ ig = r42; omega))
  replace hM := hM.only hO48 (ne1P ap_FpE_r42)
  replace H := H.only hO48 (ne1P ap_Fp_r42)
  replace B4 := B4.only hO48 (by first | exact ne_b1_r42 | exact ne_r42_b1.symm | (show ¬ b1 = r42; omega))
  replace B9 := B9.only hO48 (by first | exact ne_b6_r42 | exact ne_r42_b6.symm | (show ¬ b6 = r42; omega))
  replace B14 := B14.only hO48 (by first | exact ne_b11_r42 | exact ne_r42_b11.symm | (show ¬ b11 = r42; omega))
  replace OQ26 := OQ26.only hO48 (Apart.ne1 ap_Q24_r42)
  replace B33 := B33.only hO48 (by first | exact ne_b30_r42 | exact ne_r42_b30.symm | (show ¬ b30 = r42; omega))
  replace B40 := B40.only hO48 (by first | exact ne_b37_r42 | exact ne_r42_b37.symm | (show ¬ b37 = r42; omega))
  replace hF := hF.loc hO48 (.inr g_r42)
  replace M45 := hBq
  clear hBq
  refine fx_val (v := .pointer (some ⟨b37, 0, none⟩)) fr rfl rfl (by first | decide | simp) (x_move rfl (fr.ev rfl)) ?_
  clear fr a; intro a fr
  refine fx_val (v := .func (.func 32) #[.pointer (some ⟨b37, 0, none⟩)] #[]) fr rfl rfl (by first | decide | simp) (x_makeBound rfl (fr.ev rfl)) ?_
  clear fr a; intro a fr
  refine fx_insert (es' := #[⟨.int .i64 1, .func (.func 32) #[.pointer (some ⟨b37, 0, none⟩)] #[], 0⟩, ⟨.int .i64 2, .func (.func 32) #[.pointer (some ⟨b37, 0, none⟩)] #[], 1⟩]) Try.underlying84 Try.underlying33 rfl rfl rfl (fr.ev rfl) rfl (fr.ev rfl) M45 rfl rfl fun w49 hO50 hBq => ?_
  replace hB := hB.only hO50 (by first | exact ne_b_r42 | exact ne_r42_b.symm | (show ¬ b = r42; omega))
  replace hI := hI.only hO50 (by first | exact ne_bi_r42 | exact ne_r42_bi.symm | (show ¬ bi = r42; omega)) (by first | exact ne_ig_r42 | exact ne_r42_ig.symm | (show ¬ ig = r42; omega))
  replace hM := hM.only hO50 (ne1P ap_FpE_r42)
  replace H := H.only hO50 (ne1P ap_Fp_r42)
  replace B4 := B4.only hO50 (by first | exact ne_b1_r42 | exact ne_r42_b1.symm | (show ¬ b1 = r42; omega))
  replace B9 := B9.only hO50 (by first | exact ne_b6_r42 | exact ne_r42_b6.symm | (show ¬ b6 = r42; omega))
  replace B14 := B14.only hO50 (by first | exact ne_b11_r42 | exact ne_r42_b11.symm | (show ¬ b11 = r42; omega))
  replace OQ26 := OQ26.only hO50 (Apart.ne1 ap_Q24_r42)
  replace B33 := B33.only hO50 (by first | exact ne_b30_r42 | exact ne_r42_b30.symm | (show ¬ b30 = r42; omega))
  replace B40 := B40.only hO50 (by first | exact ne_b37_r42 | exact ne_r42_b37.symm | (show ¬ b37 = r42; omega))
  replace hF := hF.loc hO50 (.inr g_r42)
  replace M45 := hBq
  clear hBq
  refine fx_val (v := .pointer (some ⟨b37, 0, none⟩)) fr rfl rfl (by first | decide | simp) (x_move rfl (fr.ev rfl)) ?_
  clear fr a; intro a fr
  refine fx_val (v := .func (.func 32) #[.pointer (some ⟨b37, 0, none⟩)] #[]) fr rfl rfl (by first | decide | simp) (x_makeBound rfl (fr.ev rfl)) ?_
  clear fr a; intro a fr
  refine fx_insert (es' := #[⟨.int .i64 1, .func (.func 32) #[.pointer (some ⟨b37, 0, none⟩)] #[], 0⟩, ⟨.int .i64 2, .func (.func 32) #[.pointer (some ⟨b37, 0, none⟩)] #[], 1⟩, ⟨.int .i64 3, .func (.func 32) #[.pointer (some ⟨b37, 0, none⟩)] #[], 2⟩]) Try.underlying84 Try.underlying33 rfl rfl rfl (fr.ev rfl) rfl (fr.ev rfl) M45 rfl rfl fun w51 hO52 hBq => ?_
  replace hB := hB.only hO52 (by first | exact ne_b_r42 | exact ne_r42_b.symm | (show ¬ b = r42; omega))
  replace hI := hI.only hO52 (by first | exact ne_bi_r42 | exact ne_r42_bi.symm | (show ¬ bi = r42; omega)) (by first | exact ne_ig_r42 | exact ne_r42_ig.symm | (show ¬ ig = r42; omega))
  replace hM := hM.only hO52 (ne1P ap_FpE_r42)
  replace H := H.only hO52 (ne1P ap_Fp_r42)
  replace B4 := B4.only hO52 (by first | exact ne_b1_r42 | exact ne_r42_b1.symm | (show ¬ b1 = r42; omega))
  replace B9 := B9.only hO52 (by first | exact ne_b6_r42 | exact ne_r42_b6.symm | (show ¬ b6 = r42; omega))
  replace B14 := B14.only hO52 (by first | exact ne_b11_r42 | exact ne_r42_b11.symm | (show ¬ b11 = r42; omega))
  replace OQ26 := OQ26.only hO52 (Apart.ne1 ap_Q24_r42)
  replace B33 := B33.only hO52 (by first | exact ne_b30_r42 | exact ne_r42_b30.symm | (show ¬ b30 = r42; omega))
  replace B40 := B40.only hO52 (by first | exact ne_b37_r42 | exact ne_r42_b37.symm | (show ¬ b37 = r42; omega))
  replace hF := hF.loc hO52 (.inr g_r42)
  replace M45 := hBq
  clear hBq
  refine fx_val (v := .pointer (some ⟨b37, 0, none⟩)) fr rfl rfl (by first | decide | simp) (x_move rfl (fr.ev rfl)) ?_
  clear fr a; intro a fr
  refine fx_val (v := .func (.func 33) #[.pointer (some ⟨b37, 0, none⟩)] #[]) fr rfl rfl (by first | decide | simp) (x_makeBound rfl (fr.ev rfl)) ?_
  clear fr a; intro a fr
  refine fx_insert (es' := #[⟨.int .i64 1, .func (.func 32) #[.pointer (some ⟨b37, 0, none⟩)] #[], 0⟩, ⟨.int .i64 2, .func (.func 32) #[.pointer (some ⟨b37, 0, none⟩)] #[], 1⟩, ⟨.int .i64 3, .func (.func 32) #[.pointer (some ⟨b37, 0, none⟩)] #[], 2⟩, ⟨.int .i64 11, .func (.func 33) #[.pointer (some ⟨b37, 0, none⟩)] #[], 3⟩]) Try.underlying84 Try.underlying33 rfl rfl rfl (fr.ev rfl) rfl (fr.ev rfl) M45 rfl rfl fun w53 hO54 hBq => ?_
  replace hB := hB.only hO54 (by first | exact ne_b_r42 | exact ne_r42_b.symm | (show ¬ b = r42; omega))
  replace hI := hI.only hO54 (by first | exact ne_bi_r42 | exact ne_r42_bi.symm | (show ¬ bi = r42; omega)) (by first | exact ne_ig_r42 | exact ne_r42_ig.symm | (show ¬ ig = r42; omega))
  replace hM := hM.only hO54 (ne1P ap_FpE_r42)
  replace H := H.only hO54 (ne1P ap_Fp_r42)
  replace B4 := B4.only hO54 (by first | exact ne_b1_r42 | exact ne_r42_b1.symm | (show ¬ b1 = r42; omega))
  replace B9 := B9.only hO54 (by first | exact ne_b6_r42 | exact ne_r42_b6.symm | (show ¬ b6 = r42; omega))
  replace B14 := B14.only hO54 (by first | exact ne_b11_r42 | exact ne_r42_b11.symm | (show ¬ b11 = r42; omega))
  replace OQ26 := OQ26.only hO54 (Apart.ne1 ap_Q24_r42)
  replace B33 := B33.only hO54 (by first | exact ne_b30_r42 | exact ne_r42_b30.symm | (show ¬ b30 = r42; omega))
  replace B40 := B40.only hO54 (by first | exact ne_b37_r42 | exact ne_r42_b37.symm | (show ¬ b37 = r42; omega))
  replace hF := hF.loc hO54 (.inr g_r42)
  replace M45 := hBq
  clear hBq
  refine fx_val (v := .pointer (some ⟨b37, 0, none⟩)) fr rfl rfl (by first | decide | simp) (x_move rfl (fr.ev rfl)) ?_
  clear fr a; intro a fr
  refine fx_val (v := .func (.func 34) #[.pointer (some ⟨b37, 0, none⟩)] #[]) fr rfl rfl (by first | decide | simp) (x_makeBound rfl (fr.ev rfl)) ?_
  clear fr a; intro a fr
  refine fx_insert (es' := #[⟨.int .i64 1, .func (.func 32) #[.pointer (some ⟨b37, 0, none⟩)] #[], 0⟩, ⟨.int .i64 2, .func (.func 32) #[.pointer (some ⟨b37, 0, none⟩)] #[], 1⟩, ⟨.int .i64 3, .func (.func 32) #[.pointer (some ⟨b37, 0, none⟩)] #[], 2⟩, ⟨.int .i64 11, .func (.func 33) #[.pointer (some ⟨b37, 0, none⟩)] #[], 3⟩, ⟨.int .i64 12, .func (.func 34) #[.pointer (some ⟨b37, 0, none⟩)] #[], 4⟩]) Try.underlying84 Try.underlying33 rfl rfl rfl (fr.ev rfl) rfl (fr.ev rfl) M45 rfl rfl fun w55 hO56 hBq => ?_
  replace hB := hB.only hO56 (by first | exact ne_b_r42 | exact ne_r42_b.symm | (show ¬ b = r42; omega))
  replace hI := hI.only hO56 (by first | exact ne_bi_r42 | exact ne_r42_bi.symm | (show ¬ bi = r42; omega)) (by first | exact ne_ig_r42 | exact ne_r42_ig.symm | (show ¬ ig = r42; omega))
  replace hM := hM.only hO56 (ne1P ap_FpE_r42)
  replace H := H.only hO56 (ne1P ap_Fp_r42)
  replace B4 := B4.only hO56 (by first | exact ne_b1_r42 | exact ne_r42_b1.symm | (show ¬ b1 = r42; omega))
  replace B9 := B9.only hO56 (by first | exact ne_b6_r42 | exact ne_r42_b6.symm | (show ¬ b6 = r42; omega))
  replace B14 := B14.only hO56 (by first | exact ne_b11_r42 | exact ne_r42_b11.symm | (show ¬ b11 = r42; omega))
  replace OQ26 := OQ26.only hO56 (Apart.ne1 ap_Q24_r42)
  replace B33 := B33.only hO56 (by first | exact ne_b30_r42 | exact ne_r42_b30.symm | (show ¬ b30 = r42; omega))
  replace B40 := B40.only hO56 (by first | exact ne_b37_r42 | exact ne_r42_b37.symm | (show ¬ b37 = r42; omega))
  replace hF := hF.loc hO56 (.inr g_r42)
  replace M45 := hBq
  clear hBq
  refine fx_val (v := .pointer (some ⟨b37, 0, none⟩)) fr rfl rfl (by first | decide | simp) (x_move rfl (fr.ev rfl)) ?_
  clear fr a; intro a fr
  refine fx_val (v := .func (.func 35) #[.pointer (some ⟨b37, 0, none⟩)] #[]) fr rfl rfl (by first | decide | simp) (x_makeBound rfl (fr.ev rfl)) ?_
  clear fr a; intro a fr
  refine fx_insert (es' := #[⟨.int .i64 1, .func (.func 32) #[.pointer (some ⟨b37, 0, none⟩)] #[], 0⟩, ⟨.int .i64 2, .func (.func 32) #[.pointer (some ⟨b37, 0, none⟩)] #[], 1⟩, ⟨.int .i64 3, .func (.func 32) #[.pointer (some ⟨b37, 0, none⟩)] #[], 2⟩, ⟨.int .i64 11, .func (.func 33) #[.pointer (some ⟨b37, 0, none⟩)] #[], 3⟩, ⟨.int .i64 12, .func (.func 34) #[.pointer (some ⟨b37, 0, none⟩)] #[], 4⟩, ⟨.int .i64 13, .func (.func 35) #[.pointer (some ⟨b37, 0, none⟩)] #[], 5⟩]) Try.underlying84 Try.underlying33 rfl rfl rfl (fr.ev rfl) rfl (fr.ev rfl) M45 rfl rfl fun w57 hO58 hBq => ?_
  replace hB := hB.only hO58 (by first | exact ne_b_r42 | exact ne_r42_b.symm | (show ¬ b = r42; omega))
  replace hI := hI.only hO58 (by first | exact ne_bi_r42 | exact ne_r42_bi.symm | (show ¬ bi = r42; omega)) (by first | exact ne_ig_r42 | exact ne_r42_ig.symm | (show ¬ ig = r42; omega))
  replace hM := hM.only hO58 (ne1P ap_FpE_r42)
  replace H := H.only hO58 (ne1P ap_Fp_r42)
  replace B4 := B4.only hO58 (by first | exact ne_b1_r42 | exact ne_r42_b1.symm | (show ¬ b1 = r42; omega))
  replace B9 := B9.only hO58 (by first | exact ne_b6_r42 | exact ne_r42_b6.symm | (show ¬ b6 = r42; omega))
  replace B14 := B14.only hO58 (by first | exact ne_b11_r42 | exact ne_r42_b11.symm | (show ¬ b11 = r42; omega))
  replace OQ26 := OQ26.only hO58 (Apart.ne1 ap_Q24_r42)
  replace B33 := B33.only hO58 (by first | exact ne_b30_r42 | exact ne_r42_b30.symm | (show ¬ b30 = r42; omega))
  replace B40 := B40.only hO58 (by first | exact ne_b37_r42 | exact ne_r42_b37.symm | (show ¬ b37 = r42; omega))
  replace hF := hF.loc hO58 (.inr g_r42)
  replace M45 := hBq
  clear hBq
  refine fx_val (v := .map (some r42)) fr rfl rfl (by first | decide | simp) (x_move rfl (fr.ev rfl)) ?_
  clear fr a; intro a fr
  refine fx_val (v := .pointer (some ⟨b1, 0, none⟩)) fr rfl rfl (by first | decide | simp) (x_fieldAddr fo36_0 rfl (fr.ev rfl) rfl) ?_
  clear fr a; intro a fr
  refine fx_val (v := .int .i64 m.kind) fr rfl rfl (by first | decide | simp) (x_load1 pl33 rfl (fr.ev rfl) (B4.cell 0 rfl)) ?_
  clear fr a; intro a fr
  refine fx_val (v := .func (.func f) #[.pointer (some ⟨b37, 0, none⟩)] #[]) fr rfl rfl (by first | decide | simp) (x_lookup (k := .i64) (ok := false) (v := .func (.func f) #[.pointer (some ⟨b37, 0, none⟩)] #[]) (b := true) Try.underlying84 Try.underlying33 rfl (fr.ev rfl) (fr.ev rfl) M45 (z := .nilFunc) (by kernel_rfl) (hes b37)) ?_
  clear fr a; intro a fr
  refine fx_val (v := .agg (msgE.arr m)) fr rfl rfl (by first | decide | simp) (x_loadE (E := msgE) ag36 rfl rfl (fr.ev rfl) (B4.rangeE msgE)) ?_
  clear fr a; intro a fr
  refine fx_callp rfl (x_callb (all := #[.pointer (some ⟨b37, 0, none⟩), .agg (msgE.arr m)]) (vs := [.agg (msgE.arr m)]) rfl (fr.ev rfl) ⟨(fr.ev rfl), trivial⟩ rfl hfn hnm hbd) (hcall _ b37 b30 bi ig cap r Q24 qc25 ⟨B40, B33, hB, hI, OQ26.view, Own.nil, ⟨(by first | exact ne_b37_b30 | exact ne_b30_b37.symm), (by first | exact ne_b37_b | exact ne_b_b37.symm), (by first | exact ne_b37_bi | exact ne_bi_b37.symm), (by first | exact ne_b37_ig | exact ne_ig_b37.symm), (by first | exact ne_b30_b | exact ne_b_b30.symm), (by first | exact ne_b30_bi | exact ne_bi_b30.symm), (by first | exact ne_b30_ig | exact ne_ig_b30.symm), (by first | exact ne_b_bi | exact ne_bi_b.symm), (by first | exact ne_b_ig | exact ne_ig_b.symm), (by first | exact ne_bi_ig | exact ne_ig_bi.symm), ap_Q24_b37, ap_Q24_b30, ap_Q24_b, ap_Q24_bi, ap_Q24_ig, (apart_none b37), (apart_none b30), (apart_none b), (apart_none bi), (apart_none ig), (fun k _ h => apart_none k h)⟩⟩ OQ26) ?_
  rintro _ w59 ⟨rfl, hN60⟩
  replace hB := hB.new hN60
  replace hI := hI.new hN60
  replace hM := hM.new hN60
  replace H := H.new hN60
  replace B4 := B4.new hN60
  replace B9 := B9.new hN60
  replace B14 := B14.new hN60
  replace OQ26 := OQ26.new hN60
  replace B33 := B33.new hN60
  replace B40 := B40.new hN60
  replace M45 := M45.new hN60
  replace hF := hF.trNew hN60
  refine fx_pt ?_
  refine fx_panD1 fr rfl (caught_stop B9 B14 ne_b6_b11 220) [.cell 4 23, .cell 5 37] [.slice none 0 0, .int .i64 220] rfl ?_
  rintro w9 ⟨hC9, hK9, hO9⟩
  replace hB := hB.only hO9 (fun h => h.elim (by first | exact ne_b_b6 | exact ne_b6_b.symm | (show ¬ b = b6; omega)) (by first | exact ne_b_b11 | exact ne_b11_b.symm | (show ¬ b = b11; omega)))
  replace hI := hI.only hO9 (fun h => h.elim (by first | exact ne_bi_b6 | exact ne_b6_bi.symm | (show ¬ bi = b6; omega)) (by first | exact ne_bi_b11 | exact ne_b11_bi.symm | (show ¬ bi = b11; omega))) (fun h => h.elim (by first | exact ne_ig_b6 | exact ne_b6_ig.symm | (show ¬ ig = b6; omega)) (by first | exact ne_ig_b11 | exact ne_b11_ig.symm | (show ¬ ig = b11; omega)))
  replace hM := hM.only hO9 (fun g hg => (fun h => h.elim ((ne1P ap_FpE_b6) g hg) ((ne1P ap_FpE_b11) g hg)))
  replace H := H.only hO9 (fun g hg => (fun h => h.elim ((ne1P ap_Fp_b6) g hg) ((ne1P ap_Fp_b11) g hg)))
  replace B4 := B4.only hO9 (fun h => h.elim (by first | exact ne_b1_b6 | exact ne_b6_b1.symm | (show ¬ b1 = b6; omega)) (by first | exact ne_b1_b11 | exact ne_b11_b1.symm | (show ¬ b1 = b11; omega)))
  replace OQ26 := OQ26.only hO9 (fun g hg => (fun h => h.elim ((Apart.ne1 ap_Q24_b6) g hg) ((Apart.ne1 ap_Q24_b11) g hg)))
  replace B33 := B33.only hO9 (fun h => h.elim (by first | exact ne_b30_b6 | exact ne_b6_b30.symm | (show ¬ b30 = b6; omega)) (by first | exact ne_b30_b11 | exact ne_b11_b30.symm | (show ¬ b30 = b11; omega)))
  replace B40 := B40.only hO9 (fun h => h.elim (by first | exact ne_b37_b6 | exact ne_b6_b37.symm | (show ¬ b37 = b6; omega)) (by first | exact ne_b37_b11 | exact ne_b11_b37.symm | (show ¬ b37 = b11; omega)))
  replace M45 := M45.only hO9 (fun h => h.elim (by first | exact ne_r42_b6 | exact ne_b6_r42.symm | (show ¬ r42 = b6; omega)) (by first | exact ne_r42_b11 | exact ne_b11_r42.symm | (show ¬ r42 = b11; omega)))
  replace hF := hF.locS hO9 (fun i => (fun h => h.elim (fun e => by rw [e]; exact (.inr g_b6)) (fun e => by rw [e]; exact (.inr g_b11))))
  refine ⟨⟨⟨_, rfl, x_loadV1 pl23 (hC9.cell 0 rfl)⟩, ⟨_, rfl, x_loadV1 pl37 (hK9.cell 0 rfl)⟩, trivial⟩, ?_⟩
  exact ⟨_, rfl, rfl, H, hF⟩
end Go.Proofs.Ytdiaemlgghfecaa
namespace Go.Proofs.Ytdiaemlgghfecaa
open Go.RowKit
theorem w_req_n {w : World} {bw be bh bi ig cap r : Nat} {d : Ent} {Q : Option Addr} {qc : Nat} {bs : List UInt8} {m : Msg} (R : WorkR w bw be bh bi ig cap r m.line d Q qc none 0 [] bs) (hsrc : 0 ≤ m.src ∧ m.src < 4) (hb : d.busy = false) (hk : 1 ≤ m.kind ∧ m.kind ≤ 3) : Calls Try.prog 32 #[.pointer (some ⟨bw, 0, none⟩), .agg (msgE.arr m)] w (Ret fun v w' => v = .tuple #[] ∧ HRet w w' bw be bh bi ig cap r m.line Q none [] (beginF bs d m)) := by
  obtain ⟨o, sh, busy, asks, kind, waits, told, q⟩ := d
  dsimp only at *
  subst hb
  exact req_n m R (by simp) hsrc hk
theorem w_req_b {w : World} {bw be bh bi ig cap r : Nat} {d : Ent} {Q : Option Addr} {qc : Nat} {bs : List UInt8} {m : Msg} (R : WorkR w bw be bh bi ig cap r m.line d Q qc none 0 [] bs) (hsrc : 0 ≤ m.src ∧ m.src < 4) (hb : d.busy = true) (OQ : Own msgE w Q qc d.q) (hl : d.q.length ≤ 1000000) : Calls Try.prog 32 #[.pointer (some ⟨bw, 0, none⟩), .agg (msgE.arr m)] w (Ret fun v w' => v = .tuple #[] ∧ HRet w w' bw be bh bi ig cap r m.line Q none [] ({ d with q := d.q ++ [m] }, bs, ([] : List Msg))) := by
  obtain ⟨o, sh, busy, asks, kind, waits, told, q⟩ := d
  dsimp only at *
  subst hb
  exact req_b m R (by simp) hsrc OQ hl
theorem w_back {w : World} {bw be bh bi ig cap r : Nat} {d : Ent} {Q : Option Addr} {qc : Nat} {bs : List UInt8} {m : Msg} (R : WorkR w bw be bh bi ig cap r m.line d Q qc none 0 [] bs) (hsrc : 0 ≤ m.src ∧ m.src < 4) (hs : strayF d m = false) (hk : m.kind = 11) (hask : 0 ≤ d.asks ∧ d.asks < 4) (hkk : d.busy = true → d.kind = 1 ∨ d.kind = 2) : Calls Try.prog 33 #[.pointer (some ⟨bw, 0, none⟩), .agg (msgE.arr m)] w (Ret fun v w' => v = .tuple #[] ∧ HRet w w' bw be bh bi ig cap r m.line Q none [] (otherF bs d m)) := by
  obtain ⟨o, sh, busy, asks, kind, waits, told, q⟩ := d
  dsimp only at *
  simp [strayF, hk] at hs
  obtain ⟨⟨rfl, h1⟩, h2⟩ := hs
  exact back_ok m R (by simp) hsrc hask hk (by omega) h2 (hkk rfl)
theorem w_ack {w : World} {bw be bh bi ig cap r : Nat} {d : Ent} {Q : Option Addr} {qc : Nat} {bs : List UInt8} {m : Msg} (R : WorkR w bw be bh bi ig cap r m.line d Q qc none 0 [] bs) (hsrc : 0 ≤ m.src ∧ m.src < 4) (hs : strayF d m = false) (hk : m.kind = 12) (hask : 0 ≤ d.asks ∧ d.asks < 4) (hw4 : d.waits ≤ 4) : Calls Try.prog 34 #[.pointer (some ⟨bw, 0, none⟩), .agg (msgE.arr m)] w (Ret fun v w' => v = .tuple #[] ∧ HRet w w' bw be bh bi ig cap r m.line Q none [] (otherF bs d m)) := by
  obtain ⟨o, sh, busy, asks, kind, waits, told, q⟩ := d
  dsimp only at *
  simp [strayF, hk] at hs
  obtain ⟨⟨rfl, h1⟩, ⟨h2, h3⟩, h4⟩ := hs
  exact ack_ok m R (by simp) hsrc hask hk (by omega) h2 h3 h4
theorem w_done {w : World} {bw be bh bi ig cap r : Nat} {d : Ent} {Q : Option Addr} {qc : Nat} {bs : List UInt8} {m : Msg} (R : WorkR w bw be bh bi ig cap r m.line d Q qc none 0 [] bs) (hsrc : 0 ≤ m.src ∧ m.src < 4) (hs : strayF d m = false) (hk : m.kind = 13) (ht : d.told = true → d.waits = 0) (hq : ∀ x ∈ d.q, QOk m.line x) (hl : d.q.length ≤ 100000) : Calls Try.prog 35 #[.pointer (some ⟨bw, 0, none⟩), .agg (msgE.arr m)] w (Ret fun v w' => v = .tuple #[] ∧ HRet w w' bw be bh bi ig cap r m.line Q none [] (otherF bs d m)) := by
  obtain ⟨o, sh, busy, asks, kind, waits, told, q⟩ := d
  dsimp only at *
  simp [strayF, hk] at hs
  obtain ⟨rfl, rfl, h4⟩ := hs
  obtain rfl := ht rfl
  exact done_ok m R (by simp) hsrc hk h4 hq (by simp; omega)
theorem begin_bs {bs : List UInt8} {d : Ent} {m : Msg} : (beginF bs d m).2.1.length = bs.length := by
  unfold beginF; dsimp only
  split
  · show (if d.o = m.src then setLn bs m.line m.bs else bs).length = _
    split
    · exact setLn_length _ _ _
    · rfl
  · split
    · rfl
    · split
      · split <;> rfl
      · split <;> rfl
theorem drain_bs : ∀ (q : List Msg) (bs : List UInt8) (d : Ent), (drainF q bs d).2.1.length = bs.length
  | [], bs, d => rfl
  | m :: r, bs, d => by
    unfold drainF
    split
    · rfl
    · dsimp only
      rw [drain_bs r, begin_bs]
theorem other_bs {bs : List UInt8} {d : Ent} {m : Msg} : (otherF bs d m).2.1.length = bs.length := by
  unfold otherF
  split
  · exact drain_bs _ _ _
  · split
    · dsimp only
      split <;> exact setLn_length _ _ _
    · split <;> rfl
def HOk (h : HD) : Prop := ∀ n, n < h.E.length → EOk n (entOf h.E n) ∧ (entOf h.E n).q.length ≤ 100000
theorem chk_home {m : Msg} (h : chk m = 0) (hd : m.dst = 4) : homeK m.kind = true ∧ 0 ≤ m.src ∧ m.src < 4 := by
  unfold chk goodMsg at h
  have hx := home_not m.kind
  have h2 : isCache m.dst = false := by rw [hd]; rfl
  simp [hd, h2, isCache] at h
  exact ⟨h.1, h.2.1, by have := h.2.2.1; omega⟩
theorem take_c {w : World} {Fp : Nat → Prop} {b : Nat} {h : HD} (H : HomeAt w Fp b h) (m : Msg) (hok : HOk h) : Calls Try.prog 12 #[.pointer (some ⟨b, 0, none⟩), .agg (msgE.arr m)] w (Ret fun v w' => TakeH w Fp b (takeH h m) v w') := by
  have hlen := H.len
  by_cases h1 : chk m ≠ 0
  · refine (take_a1 H m h1).mono ?_
    rintro e w' ⟨v, rfl, hv, hC, hn⟩
    exact ⟨v, rfl, takeH_no 2 (by unfold takeH; rw [if_pos (.inl h1)]) hv hC hn⟩
  by_cases h2 : m.dst ≠ 4
  · refine (take_a2 H m h1 h2).mono ?_
    rintro e w' ⟨v, rfl, hv, hC, hn⟩
    exact ⟨v, rfl, takeH_no 2 (by unfold takeH; rw [if_pos (.inr h2)]) hv hC hn⟩
  have h0 : ¬ (chk m ≠ 0 ∨ m.dst ≠ 4) := fun h => h.elim h1 h2
  have hmn := m.hn
  by_cases h3 : ((h.bs.length / 16 : Nat) : Int) ≤ m.line
  · refine (take_r H m h1 h2 h3).mono ?_
    rintro e w' ⟨v, rfl, hv, hC, hn⟩
    exact ⟨v, rfl, takeH_no 4 (by unfold takeH; rw [if_neg h0, if_pos (by rw [hlen.1]; exact h3)]) hv hC hn⟩
  have h3' : ¬ (h.E.length : Int) ≤ m.line := by rw [hlen.1]; exact h3
  have hn : m.line.toNat < h.E.length := by omega
  obtain ⟨hE, hql⟩ := hok _ hn
  obtain ⟨hhome, hsrc⟩ := chk_home (Decidable.not_not.1 h1) (Decidable.not_not.1 h2)
  have hkn : (((entOf h.E m.line.toNat) : Ent)) = h.E.getD m.line.toNat ent0 := rfl
  have hq : ∀ x ∈ (entOf h.E m.line.toNat).q, QOk m.line x := fun x hx => by
    obtain ⟨a1, a2, a3, a4, a5⟩ := hE.q x hx
    exact ⟨a1, a2, ⟨a3, a4⟩, by rw [a5, Int.toNat_of_nonneg hmn.1]⟩
  have hreq : m.kind ≤ 3 → 1 ≤ m.kind → ∃ f fn, Try.prog.funcs[f]? = some fn ∧ (fn.name == "runtime.NumGoroutine") = false ∧ fn.body.isNone = false ∧ f = 32 ∧ (∀ b, (Instr.findNow (.int .i64) (.int .i64 m.kind) (takeEs b).toList 0).map (fun q => (match q with | some (_, u) => u | none => .nilFunc, q.isSome)) = some (.func (.func f) #[.pointer (some ⟨b, 0, none⟩)] #[], true)) := fun ha hb => by
    refine ⟨32, _, Try.func32, nm32, rfl, rfl, fun b => ?_⟩
    have : m.kind = 1 ∨ m.kind = 2 ∨ m.kind = 3 := by omega
    rcases this with hk | hk | hk <;> rw [hk] <;> rfl
  unfold homeK at hhome
  simp only [Bool.or_eq_true, decide_eq_true_eq] at hhome
  by_cases hk3 : m.kind ≤ 3
  · have hk1 : 1 ≤ m.kind := by omega
    obtain ⟨f, fn, hfn, hnm, hbd, rfl, hes⟩ := hreq hk3 hk1
    cases hb : (entOf h.E m.line.toNat).busy with
    | true =>
      refine (take_ret (x := ({ (entOf h.E m.line.toNat) with q := (entOf h.E m.line.toNat).q ++ [m] }, h.bs, [])) H m h1 h2 h3 hql hfn hnm hbd hes rfl fun w1 bw be bi ig cap r Q qc R OQ => w_req_b R hsrc hb OQ (by omega)).mono ?_
      rintro e w' ⟨v, rfl, hv⟩
      refine ⟨v, rfl, ?_⟩
      unfold takeH
      rw [if_neg h0, if_neg h3']
      dsimp only
      rw [if_pos hk3, ← hkn, if_pos hb]
      exact hv
    | false =>
      refine (take_ret (x := beginF h.bs (entOf h.E m.line.toNat) m) H m h1 h2 h3 hql hfn hnm hbd hes begin_bs fun w1 bw be bi ig cap r Q qc R OQ => w_req_n R hsrc hb ⟨hk1, hk3⟩).mono ?_
      rintro e w' ⟨v, rfl, hv⟩
      refine ⟨v, rfl, ?_⟩
      unfold takeH
      rw [if_neg h0, if_neg h3']
      dsimp only
      rw [if_pos hk3, ← hkn, if_neg (by rw [hb]; decide)]
      exact hv
  · have hks : m.kind = 11 ∨ m.kind = 12 ∨ m.kind = 13 := by omega
    cases hs : strayF (entOf h.E m.line.toNat) m with
    | true =>
      have hp : Calls Try.prog 12 #[.pointer (some ⟨b, 0, none⟩), .agg (msgE.arr m)] w (Ret fun v w' => v = .tuple #[.slice none 0 0, .int .i64 220] ∧ HomeAt w' Fp b h ∧ New w w') := by
        rcases hks with hk | hk | hk
        · exact take_pan H m h1 h2 h3 hql (f := 33) Try.func33 nm33 rfl (fun _ => by rw [hk]; rfl) fun w1 bw be bi ig cap r Q qc R OQ => back_no m R (by simp) hsrc hk hs
        · exact take_pan H m h1 h2 h3 hql (f := 34) Try.func34 nm34 rfl (fun _ => by rw [hk]; rfl) fun w1 bw be bi ig cap r Q qc R OQ => ack_no m R (by simp) hsrc hk hs
        · exact take_pan H m h1 h2 h3 hql (f := 35) Try.func35 nm35 rfl (fun _ => by rw [hk]; rfl) fun w1 bw be bi ig cap r Q qc R OQ => done_no m R (by simp) hsrc hk hs
      refine hp.mono ?_
      rintro e w' ⟨v, rfl, hv, hC, hn⟩
      exact ⟨v, rfl, takeH_no 220 (by unfold takeH; rw [if_neg h0, if_neg h3']; dsimp only; rw [if_neg hk3, ← hkn, if_pos hs]) hv hC hn⟩
    | false =>
      have hp : Calls Try.prog 12 #[.pointer (some ⟨b, 0, none⟩), .agg (msgE.arr m)] w (Ret fun v w' => TakeH w Fp b (⟨(otherF h.bs (entOf h.E m.line.toNat) m).2.1, h.E.set m.line.toNat (otherF h.bs (entOf h.E m.line.toNat) m).1⟩, (otherF h.bs (entOf h.E m.line.toNat) m).2.2, 0) v w') := by
        rcases hks with hk | hk | hk
        · exact take_ret H m h1 h2 h3 hql (f := 33) Try.func33 nm33 rfl (fun _ => by rw [hk]; rfl) other_bs fun w1 bw be bi ig cap r Q qc R OQ => w_back R hsrc hs hk hE.asks hE.kind
        · exact take_ret H m h1 h2 h3 hql (f := 34) Try.func34 nm34 rfl (fun _ => by rw [hk]; rfl) other_bs fun w1 bw be bi ig cap r Q qc R OQ => w_ack R hsrc hs hk hE.asks hE.waits.2
        · exact take_ret H m h1 h2 h3 hql (f := 35) Try.func35 nm35 rfl (fun _ => by rw [hk]; rfl) other_bs fun w1 bw be bi ig cap r Q qc R OQ => w_done R hsrc hs hk hE.told hq hql
      refine hp.mono ?_
      rintro e w' ⟨v, rfl, hv⟩
      refine ⟨v, rfl, ?_⟩
      unfold takeH
      rw [if_neg h0, if_neg h3']
      dsimp only
      rw [if_neg hk3, ← hkn, if_neg (by rw [hs]; decide)]
      exact hv
end Go.Proofs.Ytdiaemlgghfecaa
namespace Go.Proofs.Ytdiaemlgghfecaa
open Go.RowKit
theorem nodup_len : ∀ (l m : List Slot), l.Nodup → (∀ x ∈ l, x ∈ m) → l.length ≤ m.length
  | [], _, _, _ => Nat.zero_le _
  | x :: l, m, hn, hs => by
    rw [List.nodup_cons] at hn
    have hx : x ∈ m := hs x (by simp)
    have h2 := nodup_len l (m.erase x) hn.2 fun y hy => (List.mem_erase_of_ne (fun e : y = x => hn.1 (e ▸ hy))).2 (hs y (by simp [hy]))
    rw [List.length_erase_of_mem hx] at h2
    have := List.length_pos_of_mem hx
    simp only [List.length_cons]
    omega
def IterAt (w : World) (it r c : Nat) (pre : List Slot) : Prop := w.heap[it]? = some (.mapIter (some r) c (pre.map Slot.born).toArray c)
section
variable {w w' : World} {S : Nat → Prop} {it r c : Nat} {pre L : List Slot} {es : Array MapEntry}
theorem IterAt.lt (h : IterAt w it r c pre) : it < w.heap.size := (Array.getElem?_eq_some_iff.1 h).1
theorem IterAt.only (h : IterAt w it r c pre) (k : Only S w w') (hs : ¬ S it) : IterAt w' it r c pre := k.heap h hs
theorem IterAt.new (h : IterAt w it r c pre) (k : New w w') : IterAt w' it r c pre := h.only k id
end
section
variable {P : Program} {N : Nat × List Deferred} {T : List (Nat × Value)} {a : Act} {w : World} {Q : Exit → Act → World → Prop} {ops : Array Oper} {rest : List Oper} {o : Oper} {d : Nat}
theorem fx_rangeMap {t K E : TypeId} {x : Operand} {r c : Nat} {es : Array MapEntry} (fr : Fr N T a) (hw : Region.wanted o (yielded ops a.tmps) = true) (ht : P.underlying t = some (.map K E)) (ho : o.op = .range t x) (hd : o.dst = some d) (hN : d < N.1) (hx : a.eval x = .map (some r)) (hM : MapBlk w r es c)
    (next : ∀ it w1, New w w1 → IterAt w1 it r c [] → w.heap.size ≤ it → ∀ a, Fr N ((d, .pointer (some ⟨it, 0, none⟩)) :: T) a → wpList P ops Q rest a w1) : wpList P ops Q (o :: rest) a w := by
  refine fx_val (v := .pointer (some ⟨w.heap.size, 0, none⟩)) (w1 := w.alloc (.mapIter (some r) c #[] c)) fr hw hd hN ?_ fun a fr => next w.heap.size _ ((Only.refl _ w).alloc _) (Go.heap_alloc_new w _) (Nat.le_refl _) a fr
  have := run_range_map w t K E r es c ht hM
  simp [execOp, ho, hx, this]
theorem fx_next_map {x : Operand} {it r c : Nat} {pre L : List Slot} (fr : Fr N T a) (hw : Region.wanted o (yielded ops a.tmps) = true) (ho : o.op = .next x false) (hd : o.dst = some d) (hN : d < N.1) (hx : a.eval x = .pointer (some ⟨it, 0, none⟩)) (hI : IterAt w it r c pre) (hM : MapBlk w r (esOf L) c) (hb : ∀ s ∈ L, s.born < c)
    (no : (∀ s ∈ L, s ∈ pre) → (∀ s ∈ pre, s ∈ L) → ∀ a, Fr N ((d, .tuple #[.bool false]) :: T) a → wpList P ops Q rest a w)
    (yes : ∀ s w1, s ∈ L → s ∉ pre → Only (fun k => k = it) w w1 → IterAt w1 it r c (pre ++ [s]) → MapBlk w1 r (esOf L) c → ∀ a, Fr N ((d, .tuple #[.bool true, .int .u32 ((s.k : Nat) : Int), .pointer (some ⟨s.b, 0, none⟩)]) :: T) a → wpList P ops Q rest a w1)
    (hpre : ∀ s ∈ pre, s ∈ L) (hbs : (L.map Slot.born).Nodup) : wpList P ops Q (o :: rest) a w := by
  have hr : w.heap[it]? = some (.mapIter (some r) c (pre.map Slot.born).toArray c) := hI
  have hne : ¬ it = r := fun e => by subst e; rw [show w.heap[it]? = _ from hM] at hr; cases hr
  have inj : ∀ s ∈ L, ∀ t ∈ L, s.born = t.born → s = t := by
    intro s hs t ht e
    obtain ⟨i, hi, rfl⟩ := List.getElem_of_mem hs
    obtain ⟨j, hj, rfl⟩ := List.getElem_of_mem ht
    have hp := List.pairwise_iff_getElem.1 hbs
    rcases Nat.lt_trichotomy i j with h | h | h
    · exact (hp i j (by simpa using hi) (by simpa using hj) h (by simpa using e)).elim
    · subst h; rfl
    · exact (hp j i (by simpa using hj) (by simpa using hi) h (by simpa using e.symm)).elim
  have hold : ∀ x ∈ (esOf L).toList, x.born < c := by
    intro x hx
    obtain ⟨s, hs, rfl⟩ := List.mem_map.1 (show x ∈ L.map Slot.me from hx)
    exact hb s hs
  rcases run_next_at (P := P) w o.type it r c c _ (esOf L) c hr hM hold (Nat.le_refl _) with ⟨h0, hrun⟩ | ⟨e, he, w1, hw1, hrun⟩
  · refine fx_val (v := .tuple #[.bool false]) (w1 := w) fr hw hd hN (by simp [execOp, ho, hx, hrun]) (no ?_ hpre)
    intro s hs
    have : leftOf (esOf L) (pre.map Slot.born).toArray = #[] := Array.eq_empty_of_size_eq_zero h0
    have h1 := (Array.filter_eq_empty_iff.1 this) s.me (by simp [esOf]; exact ⟨s, hs, rfl⟩)
    simp [Slot.me] at h1
    obtain ⟨t, ht, hte⟩ := h1
    rw [← inj t (hpre t ht) s hs hte]
    exact ht
  · have hel : e ∈ esOf L ∧ (!(pre.map Slot.born).toArray.contains e.born) = true := by
      have := Array.mem_filter.1 (show e ∈ leftOf (esOf L) (pre.map Slot.born).toArray by simpa using he)
      exact this
    obtain ⟨s, hs, rfl⟩ := List.mem_map.1 (show e ∈ L.map Slot.me by simpa [esOf] using hel.1)
    have hns : s ∉ pre := by
      intro hp
      have := hel.2
      simp [Slot.me] at this
      exact this s hp rfl
    have hsz : it < w1.heap.size := by
      have := (Array.getElem?_eq_some_iff.1 hr).1
      rcases hw1 with rfl | rfl <;> exact this
    have hO : Only (fun k => k = it) w (ChangeMaps.setBlock w1 it (.mapIter (some r) c ((pre.map Slot.born).toArray.push s.me.born) c)) := by
      have h1 : Only (fun k => k = it) w w1 := by
        rcases hw1 with rfl | rfl
        · exact Only.refl _ _
        · exact (Only.refl _ _).drew
      exact h1.tr (set_only hsz)
    refine fx_val (v := .tuple #[.bool true, .int .u32 ((s.k : Nat) : Int), .pointer (some ⟨s.b, 0, none⟩)]) (w1 := ChangeMaps.setBlock w1 it (.mapIter (some r) c ((pre.map Slot.born).toArray.push s.me.born) c)) fr hw hd hN (by simp [execOp, ho, hx, hrun]; exact ⟨rfl, rfl⟩) (yes s _ hs hns hO ?_ (hM.only hO fun e => hne e.symm))
    have : (ChangeMaps.setBlock w1 it (.mapIter (some r) c ((pre.map Slot.born).toArray.push s.me.born) c)).heap[it]? = some (.mapIter (some r) c ((pre.map Slot.born).toArray.push s.me.born) c) := by
      simp [ChangeMaps.setBlock, hsz]
    show _ = _
    rw [this]
    simp [Slot.me]
theorem x_entry {ev : Operand → Value} {x : Operand} {it r c : Nat} {pre L : List Slot} {s : Slot} (ho : o.op = .entry x) (hx : ev x = .pointer (some ⟨it, 0, none⟩)) (hI : IterAt w it r c (pre ++ [s])) (hM : MapBlk w r (esOf L) c) (hs : s ∈ L) (hbs : (L.map Slot.born).Nodup) :
    (execOp ev o).run P w = .ok (.value (.tuple #[.int .u32 ((s.k : Nat) : Int), .pointer (some ⟨s.b, 0, none⟩)])) w := by
  have hr2 : w.heap[it]? = some (.mapIter (some r) c ((pre.map Slot.born).toArray.push s.me.born) c) := by
    rw [show w.heap[it]? = _ from hI]
    simp [Slot.me]
  have hn : ((esOf L).toList.map (·.born)).Nodup := by
    have : (esOf L).toList.map (·.born) = L.map Slot.born := by
      show (L.map Slot.me).map (·.born) = _
      rw [List.map_map]
      rfl
    rw [this]
    exact hbs
  have hmem : s.me ∈ (esOf L).toList := by
    show s.me ∈ L.map Slot.me
    exact List.mem_map.2 ⟨s, hs, rfl⟩
  have := run_entry_at (P := P) w it r c _ (esOf L) c s.me hr2 hM hmem hn
  simp [execOp, ho, hx, this]
  exact ⟨rfl, rfl⟩
end
end Go.Proofs.Ytdiaemlgghfecaa
namespace Go.Proofs.Ytdiaemlgghfecaa
open Go.RowKit
set_option maxRecDepth 100000 in
set_option maxHeartbeats 4000000 in
theorem entry_ok {w : World} {b bi r : Nat} (hB : Blk w b 64 #[.pointer (some ⟨bi, 0, none⟩), .map (some r)]) {ig cap : Nat} {bs : List UInt8} (hI : Img 0 w bi ig cap bs) (line : Int) (hln : 0 ≤ line ∧ line < 4294967296) {FpE : Nat → Prop} {E : List Ent} {L : List Slot} {c : Nat} (hM : EntsAt w FpE r E L c) (hr : ¬ ((bs.length / 16 : Nat) : Int) ≤ line) (hl : (entOf E line.toNat).q.length ≤ 1000000) : Calls Try.prog 13 #[.pointer (some ⟨b, 0, none⟩), .int .u32 line] w (Ret fun v w' => ∃ Q' qc', v = .tuple #[.agg (entA (entOf E line.toNat) (.slice Q' (entOf E line.toNat).q.length qc')), .int .i64 0] ∧ Own msgE w' Q' qc' (entOf E line.toNat).q ∧ (∀ g, inA Q' g → w.heap.size ≤ g) ∧ New w w') := by
  have hp := hI.pos
  have ap_FpE_0 := hM.lt_
  have hF := Only.refl (fun _ => False) w
  refine fx_enter Try.func13 rfl (N := (20, [])) (T := [(0, .pointer (some ⟨b, 0, none⟩)), (1, .int .u32 line)]) rfl (show 2 ≤ 20 by decide) ⟨rfl, rfl, trivial⟩ fun a fr => ?_
  refine wp_seq ?_
  refine wp_region_lit ?_  -- region 0
  refine fx_new fr rfl rfl (by first | decide | simp) (x_alloc (z := .agg (#[.int .i64 0, .bool false, .bool false, .bool false, .bool false, .bool false, .int .i64 0, .int .i64 0, .int .i64 0, .bool false, .slice none 0 0])) (cs := #[.int .i64 0, .bool false, .bool false, .bool false, .bool false, .bool false, .int .i64 0, .int .i64 0, .int .i64 0, .bool false, .slice none 0 0]) rfl (by kernel_rfl) rfl) ?_
  clear fr a
  intro b1 w2 hN3 B4 hb5 a fr
  have ne_b_b1 : NE b b1 := NE.mk (Nat.lt_of_lt_of_le hB.lt hb5)
  have ne_bi_b1 : NE bi b1 := NE.mk (Nat.lt_of_lt_of_le hI.lt.1 hb5)
  have ne_ig_b1 : NE ig b1 := NE.mk (Nat.lt_of_lt_of_le hI.lt.2 hb5)
  have ap_FpE_b1 : ¬ FpE b1 := hM.apart hb5
  have g_b1 := Nat.le_trans hF.size hb5
  replace hB := hB.new hN3
  replace hI := hI.new hN3
  replace hM := hM.new hN3
  replace hF := hF.trNew hN3
  refine fx_val (v := .int .i64 0) fr rfl rfl (by first | decide | simp) (x_assign rfl rfl) ?_
  clear fr a; intro a fr
  refine wpList_nil ?_
  refine fx_next ?_
  refine wp_seq ?_
  refine wp_block ?_
  refine wp_seq ?_
  refine wp_region_lit ?_  -- region 1
  refine fx_val (v := .pointer (some ⟨b, 0, none⟩)) fr rfl rfl (by first | decide | simp) (x_move rfl (fr.ev rfl)) ?_
  clear fr a; intro a fr
  refine fx_call fr rfl rfl (by first | decide | simp) (x_call (vs := [.pointer (some ⟨b, 0, none⟩)]) rfl rfl ⟨(fr.ev rfl), trivial⟩ Try.func27 nm27 rfl) (hnone_c hB) ?_
  clear fr a
  rintro v w9 ⟨rfl, hw9⟩ a fr
  obtain rfl := hw9.symm
  refine fx_val (v := .bool false) fr rfl rfl (by first | decide | simp) (x_assign rfl (fr.ev rfl)) ?_
  clear fr a; intro a fr
  refine wpList_nil ?_
  refine fx_next ?_
  refine fx_cond_f fr rfl ?_
  refine wp_seq ?_
  refine wp_region_lit ?_  -- region 3
  refine fx_val (v := .int .u32 line) fr rfl rfl (by first | decide | simp) (x_move rfl (fr.ev rfl)) ?_
  clear fr a; intro a fr
  refine fx_val (v := .int .i64 line) fr rfl rfl (by first | decide | simp) (x_convert Try.underlying24 Try.underlying2 rfl (fr.ev rfl) (i64w (r := line) rfl (by omega))) ?_
  clear fr a; intro a fr
  refine fx_val (v := .pointer (some ⟨b, 0, none⟩)) fr rfl rfl (by first | decide | simp) (x_move rfl (fr.ev rfl)) ?_
  clear fr a; intro a fr
  refine fx_call fr rfl rfl (by first | decide | simp) (x_call (vs := [.pointer (some ⟨b, 0, none⟩)]) rfl rfl ⟨(fr.ev rfl), trivial⟩ Try.func10 nm10 rfl) (lines_r hB hI) ?_
  clear fr a
  rintro v w9 ⟨rfl, hw9⟩ a fr
  obtain rfl := hw9.symm
  refine fx_val (v := .bool false) fr rfl rfl (by first | decide | simp) (x_geq rfl (fr.ev rfl) (fr.ev rfl) (decide_eq_false hr)) ?_
  clear fr a; intro a fr
  refine fx_val (v := .bool false) fr rfl rfl (by first | decide | simp) (x_assign rfl (fr.ev rfl)) ?_
  clear fr a; intro a fr
  refine wpList_nil ?_
  refine fx_next ?_
  refine fx_cond_f fr rfl ?_
  refine wp_skip ?_
  refine fx_blk ?_
  refine fx_next ?_
  refine wp_seq ?_
  refine wp_region_lit ?_  -- region 5
  refine fx_val (v := .pointer (some ⟨b, 0, none⟩)) fr rfl rfl (by first | decide | simp) (x_move rfl (fr.ev rfl)) ?_
  clear fr a; intro a fr
  refine fx_val (v := .int .u32 line) fr rfl rfl (by first | decide | simp) (x_move rfl (fr.ev rfl)) ?_
  clear fr a; intro a fr
  refine fx_call fr rfl rfl (by first | decide | simp) (x_call (vs := [.pointer (some ⟨b, 0, none⟩), .int .u32 line]) rfl rfl ⟨(fr.ev rfl), (fr.ev rfl), trivial⟩ Try.func31 nm31 rfl) (of_c hB hM line (by omega) hl) ?_
  clear fr a
  rintro v w14 ⟨Q10, qc11, rfl, OQ12, hA13, hN15⟩ a fr
  have ap_Q10_b : Apart Q10 b := new_apart hA13 hB.lt
  have ap_Q10_bi : Apart Q10 bi := new_apart hA13 hI.lt.1
  have ap_Q10_ig : Apart Q10 ig := new_apart hA13 hI.lt.2
  have ap2_FpE_Q10 : ∀ k, FpE k → inA Q10 k → False := symP (new_apart2P hA13 fun _ hg => hM.lt hg)
  have ap_Q10_b1 : Apart Q10 b1 := new_apart hA13 B4.lt
  have gA_Q10 := gA_new hF hA13
  have gN_Q10 := fun g (hg : inA Q10 g) => Nat.le_trans hF.size (hA13 g hg)
  replace hB := hB.new hN15
  replace hI := hI.new hN15
  replace hM := hM.new hN15
  replace B4 := B4.new hN15
  replace hF := hF.trNew hN15
  refine fx_storeS sz42 rfl rfl rfl (fr.ev rfl) (fr.ev rfl) (ent_all _ _ _ _) B4 rfl rfl fun w16 hO17 hBq => ?_
  replace hB := hB.only hO17 (by first | exact ne_b_b1 | exact ne_b1_b.symm | (show ¬ b = b1; omega))
  replace hI := hI.only hO17 (by first | exact ne_bi_b1 | exact ne_b1_bi.symm | (show ¬ bi = b1; omega)) (by first | exact ne_ig_b1 | exact ne_b1_ig.symm | (show ¬ ig = b1; omega))
  replace hM := hM.only hO17 (ne1P ap_FpE_b1)
  replace OQ12 := OQ12.only hO17 (Apart.ne1 ap_Q10_b1)
  replace hF := hF.loc hO17 (.inr g_b1)
  replace B4 := hBq
  clear hBq
  refine fx_val (v := .int .i64 0) fr rfl rfl (by first | decide | simp) (x_assign rfl rfl) ?_
  clear fr a; intro a fr
  refine wpList_nil ?_
  refine fx_next ?_
  refine wp_ret ?_
  refine fx_ret fr [.cell 4 42, .tmp 5] [.agg (entA (entOf E line.toNat) (.slice Q10 ((entOf E line.toNat).q.length) qc11)), .int .i64 0] rfl ⟨⟨_, rfl, x_loadV ag42 rfl B4.range⟩, rfl, trivial⟩ rfl ?_
  exact ⟨_, rfl, Q10, qc11, rfl, OQ12, gN_Q10, hF⟩
def home0 (bs : List UInt8) : HD := ⟨bs, List.replicate (bs.length / 16) ent0⟩
theorem ents_nil {w : World} {r : Nat} (h : MapBlk w r #[] 0) (n : Nat) : EntsAt w (fun g => g = r) r (List.replicate n ent0) [] 0 := by
  refine ⟨h, by simp, by simp, by simp, by simp, fun k _ => ?_, fun g => by simp, by simp⟩
  unfold entOf
  simp only [List.getD, List.getElem?_replicate]
  split <;> rfl
set_option maxRecDepth 100000 in
set_option maxHeartbeats 4000000 in
theorem hnew_c {w : World} {bi ig cap : Nat} {bs : List UInt8} (hI : Img 0 w bi ig cap bs) : Calls Try.prog 22 #[.pointer (some ⟨bi, 0, none⟩)] w (Ret fun v w' => ∃ b Fp, v = .tuple #[.pointer (some ⟨b, 0, none⟩), .int .i64 0] ∧ HomeAt w' Fp b (home0 bs) ∧ (∀ g, Fp g → w.heap.size ≤ g) ∧ New w w') := by
  have hF := Only.refl (fun _ => False) w
  refine fx_enter Try.func22 rfl (N := (13, [])) (T := [(0, .pointer (some ⟨bi, 0, none⟩))]) rfl (show 1 ≤ 13 by decide) ⟨rfl, trivial⟩ fun a fr => ?_
  refine wp_seq ?_
  refine wp_region_lit ?_  -- region 0
  refine fx_val (v := .pointer none) fr rfl rfl (by first | decide | simp) (x_assign rfl rfl) ?_
  clear fr a; intro a fr
  refine fx_val (v := .int .i64 0) fr rfl rfl (by first | decide | simp) (x_assign rfl rfl) ?_
  clear fr a; intro a fr
  refine wpList_nil ?_
  refine fx_next ?_
  refine wp_seq ?_
  refine wp_region_lit ?_  -- region 1
  refine fx_val (v := .pointer (some ⟨bi, 0, none⟩)) fr rfl rfl (by first | decide | simp) (x_move rfl (fr.ev rfl)) ?_
  clear fr a; intro a fr
  refine fx_call fr rfl rfl (by first | decide | simp) (x_call (vs := [.pointer (some ⟨bi, 0, none⟩)]) rfl rfl ⟨(fr.ev rfl), trivial⟩ Try.func37 nm37 rfl) (hicopy_c hI) ?_
  clear fr a
  rintro v w8 ⟨bi1, ig2, cap3, rfl, hI4, hb5, hg6, hne7, hN9⟩ a fr
  have ne_bi_bi1 : NE bi bi1 := NE.mk (Nat.lt_of_lt_of_le hI.lt.1 hb5)
  have ne_ig_bi1 : NE ig bi1 := NE.mk (Nat.lt_of_lt_of_le hI.lt.2 hb5)
  have g_bi1 := Nat.le_trans hF.size hb5
  have ne_bi_ig2 : NE bi ig2 := NE.mk (Nat.lt_of_lt_of_le hI.lt.1 hg6)
  have ne_ig_ig2 : NE ig ig2 := NE.mk (Nat.lt_of_lt_of_le hI.lt.2 hg6)
  have g_ig2 := Nat.le_trans hF.size hg6
  replace hI := hI.new hN9
  replace hF := hF.trNew hN9
  have ne_bi1_ig2 := hne7
  refine fx_val (v := .pointer (some ⟨bi1, 0, none⟩)) fr rfl rfl (by first | decide | simp) (x_assign rfl (fr.ev rfl)) ?_
  clear fr a; intro a fr
  refine wpList_nil ?_
  refine fx_next ?_
  refine wp_seq ?_
  refine wp_seq ?_
  refine wp_region_lit ?_  -- region 2
  refine fx_val (v := .pointer (some ⟨bi1, 0, none⟩)) fr rfl rfl (by first | decide | simp) (x_move rfl (fr.ev rfl)) ?_
  clear fr a; intro a fr
  refine fx_val (v := .bool false) fr rfl rfl (by first | decide | simp) (x_peql Try.underlying61 rfl (fr.ev rfl) rfl rfl) ?_
  clear fr a; intro a fr
  refine wpList_nil ?_
  refine fx_next ?_
  refine fx_cond_f fr rfl ?_
  refine wp_skip ?_
  refine fx_next ?_
  refine wp_seq ?_
  refine wp_region_lit ?_  -- region 4
  refine fx_val (v := .pointer (some ⟨bi1, 0, none⟩)) fr rfl rfl (by first | decide | simp) (x_move rfl (fr.ev rfl)) ?_
  clear fr a; intro a fr
  refine fx_makeMap fr rfl rfl rfl (by first | decide | simp) ?_
  clear fr a
  intro r10 w11 hN12 M13 hb14 a fr
  have ne_bi_r10 : NE bi r10 := NE.mk (Nat.lt_of_lt_of_le hI.lt.1 hb14)
  have ne_ig_r10 : NE ig r10 := NE.mk (Nat.lt_of_lt_of_le hI.lt.2 hb14)
  have ne_bi1_r10 : NE bi1 r10 := NE.mk (Nat.lt_of_lt_of_le hI4.lt.1 hb14)
  have ne_ig2_r10 : NE ig2 r10 := NE.mk (Nat.lt_of_lt_of_le hI4.lt.2 hb14)
  have g_r10 := Nat.le_trans hF.size hb14
  replace hI := hI.new hN12
  replace hI4 := hI4.new hN12
  replace hF := hF.trNew hN12
  refine fx_val (v := .agg (#[.pointer (some ⟨bi1, 0, none⟩), .map (some r10)])) fr rfl rfl (by first | decide | simp) (x_build (cells := #[.pointer (some ⟨bi1, 0, none⟩), .map (some r10)]) rfl (by simp only [List.map_toArray, List.map_cons, List.map_nil, show a.eval (.tmp 9) = .pointer (some ⟨bi1, 0, none⟩) from fr.ev rfl, show a.eval (.tmp 10) = .map (some r10) from fr.ev rfl]; kernel_rfl)) ?_
  clear fr a; intro a fr
  refine fx_new fr rfl rfl (by first | decide | simp) (x_box (cs := #[.pointer (some ⟨bi1, 0, none⟩), .map (some r10)]) rfl (fr.ev rfl) rfl) ?_
  clear fr a
  intro b15 w16 hN17 B18 hb19 a fr
  have ne_bi_b15 : NE bi b15 := NE.mk (Nat.lt_of_lt_of_le hI.lt.1 hb19)
  have ne_ig_b15 : NE ig b15 := NE.mk (Nat.lt_of_lt_of_le hI.lt.2 hb19)
  have ne_bi1_b15 : NE bi1 b15 := NE.mk (Nat.lt_of_lt_of_le hI4.lt.1 hb19)
  have ne_ig2_b15 : NE ig2 b15 := NE.mk (Nat.lt_of_lt_of_le hI4.lt.2 hb19)
  have ne_r10_b15 : NE r10 b15 := NE.mk (Nat.lt_of_lt_of_le M13.lt hb19)
  have g_b15 := Nat.le_trans hF.size hb19
  replace hI := hI.new hN17
  replace hI4 := hI4.new hN17
  replace M13 := M13.new hN17
  replace hF := hF.trNew hN17
  refine fx_val (v := .pointer (some ⟨b15, 0, none⟩)) fr rfl rfl (by first | decide | simp) (x_assign rfl (fr.ev rfl)) ?_
  clear fr a; intro a fr
  refine fx_val (v := .int .i64 0) fr rfl rfl (by first | decide | simp) (x_assign rfl rfl) ?_
  clear fr a; intro a fr
  refine wpList_nil ?_
  refine fx_next ?_
  refine wp_ret ?_
  refine fx_ret fr [.tmp 2, .tmp 3] [.pointer (some ⟨b15, 0, none⟩), .int .i64 0] rfl ⟨rfl, rfl, trivial⟩ rfl ?_
  exact ⟨_, rfl, b15, fun k => k = b15 ∨ k = bi1 ∨ k = ig2 ∨ k = r10, rfl, ⟨bi1, ig2, cap3, r10, fun k => k = r10, [], 0, B18, hI4, ents_nil M13 _, ⟨(by first | exact ne_b15_bi1 | exact ne_bi1_b15.symm), (by first | exact ne_b15_ig2 | exact ne_ig2_b15.symm), (by first | exact ne_b15_r10 | exact ne_r10_b15.symm), (by first | exact ne_bi1_r10 | exact ne_r10_bi1.symm), (by first | exact ne_ig2_r10 | exact ne_r10_ig2.symm), fun _ => Iff.rfl⟩, by simp [home0]⟩, fun k hk => hk.elim (fun e => by rw [e]; exact g_b15) fun hk => hk.elim (fun e => by rw [e]; exact g_bi1) fun hk => hk.elim (fun e => by rw [e]; exact g_ig2) fun e => by rw [e]; exact g_r10, hF⟩
theorem nodup_lt {pre L : List Slot} {s : Slot} (hn : pre.Nodup) (hp : ∀ x ∈ pre, x ∈ L) (hs : s ∈ L) (hns : s ∉ pre) : pre.length < L.length := by
  have := nodup_len (s :: pre) L (List.nodup_cons.2 ⟨hns, hn⟩) fun x hx => (List.mem_cons.1 hx).elim (fun e => e ▸ hs) (hp x)
  simp at this
  omega
theorem nodup_snoc {pre : List Slot} {s : Slot} (hn : pre.Nodup) (hns : s ∉ pre) : (pre ++ [s]).Nodup := by
  rw [List.nodup_append]
  exact ⟨hn, by simp, fun x hx y hy e => hns (by simp at hy; exact hy ▸ e ▸ hx)⟩
theorem mem_snoc {pre L : List Slot} {s : Slot} (hp : ∀ x ∈ pre, x ∈ L) (hs : s ∈ L) : ∀ x ∈ pre ++ [s], x ∈ L := fun x hx => by
  rw [List.mem_append] at hx
  rcases hx with hx | hx
  · exact hp x hx
  · simp at hx
    exact hx ▸ hs
end Go.Proofs.Ytdiaemlgghfecaa
namespace Go.Proofs.Ytdiaemlgghfecaa
open Go.RowKit
def onlyE (E : List Ent) (pre : List Slot) : List Ent := (List.range E.length).map fun k => if k ∈ pre.map Slot.k then entOf E k else ent0
theorem onlyE_length (E : List Ent) (pre : List Slot) : (onlyE E pre).length = E.length := by simp [onlyE]
theorem onlyE_nil (E : List Ent) : onlyE E [] = List.replicate E.length ent0 := by
  apply List.ext_getElem
  · simp [onlyE]
  · intro i h1 h2
    simp [onlyE]
theorem onlyE_snoc (E : List Ent) (pre : List Slot) (s : Slot) : (onlyE E pre).set s.k (entOf E s.k) = onlyE E (pre ++ [s]) := by
  apply List.ext_getElem
  · simp [onlyE]
  · intro i h1 h2
    rw [List.getElem_set]
    by_cases h : s.k = i
    · subst h
      simp [onlyE]
    · rw [if_neg h]
      have hi : ¬ i = s.k := fun e => h e.symm
      simp [onlyE, hi]
theorem onlyE_all {E : List Ent} {L pre : List Slot} (no : ∀ k, k ∉ L.map Slot.k → entOf E k = ent0) (h : ∀ s ∈ L, s ∈ pre) : onlyE E pre = E := by
  apply List.ext_getElem
  · simp [onlyE]
  · intro i h1 h2
    have he : entOf E i = E[i] := by simp [entOf, List.getD, h2]
    by_cases hm : i ∈ pre.map Slot.k
    · simp only [onlyE, List.getElem_map, List.getElem_range, if_pos hm]
      exact he
    · have hL : i ∉ L.map Slot.k := fun hc => by
        obtain ⟨s, hs, rfl⟩ := List.mem_map.1 hc
        exact hm (List.mem_map.2 ⟨s, h s hs, rfl⟩)
      simp only [onlyE, List.getElem_map, List.getElem_range, if_neg hm]
      rw [← he, no i hL]
theorem ents_nil_ex {w : World} {r : Nat} (h : MapBlk w r #[] 0) (E : List Ent) : ∃ F, EntsAt w F r (onlyE E []) [] 0 ∧ ∀ g, F g → g = r := ⟨_, by rw [onlyE_nil]; exact ents_nil h _, fun _ h => h⟩
set_option maxRecDepth 100000 in
set_option maxHeartbeats 4000000 in
theorem hcopy_r {w : World} {b bi r : Nat} (hB : Blk w b 64 #[.pointer (some ⟨bi, 0, none⟩), .map (some r)]) {ig cap : Nat} {bs : List UInt8} (hI : Img 0 w bi ig cap bs) {FpE : Nat → Prop} {E : List Ent} {L : List Slot} {c : Nat} (hM : EntsAt w FpE r E L c) (hEn : E.length = bs.length / 16) (hq : ∀ k, (entOf E k).q.length ≤ 1000000) : Calls Try.prog 18 #[.pointer (some ⟨b, 0, none⟩)] w (Ret fun v w' => ∃ b Fp, v = .pointer (some ⟨b, 0, none⟩) ∧ HomeAt w' Fp b ⟨bs, E⟩ ∧ (∀ g, Fp g → w.heap.size ≤ g) ∧ New w w') := by
  have gA_FpE := fun g (hg : FpE g) => (Or.inl trivial : True ∨ w.heap.size ≤ g)
  have hF := Only.refl (fun _ => False) w
  refine fx_enter Try.func18 rfl (N := (37, [])) (T := [(0, .pointer (some ⟨b, 0, none⟩))]) rfl (show 1 ≤ 37 by decide) ⟨rfl, trivial⟩ fun a fr => ?_
  refine wp_seq ?_
  refine wp_region_lit ?_  -- region 0
  refine fx_val (v := .pointer none) fr rfl rfl (by first | decide | simp) (x_assign rfl rfl) ?_
  clear fr a; intro a fr
  refine wpList_nil ?_
  refine fx_next ?_
  refine wp_seq ?_
  refine wp_seq ?_
  refine wp_region_lit ?_  -- region 1
  refine fx_val (v := .pointer (some ⟨b, 0, none⟩)) fr rfl rfl (by first | decide | simp) (x_move rfl (fr.ev rfl)) ?_
  clear fr a; intro a fr
  refine fx_call fr rfl rfl (by first | decide | simp) (x_call (vs := [.pointer (some ⟨b, 0, none⟩)]) rfl rfl ⟨(fr.ev rfl), trivial⟩ Try.func27 nm27 rfl) (hnone_c hB) ?_
  clear fr a
  rintro v w9 ⟨rfl, hw9⟩ a fr
  obtain rfl := hw9.symm
  refine wpList_nil ?_
  refine fx_next ?_
  refine fx_cond_f fr rfl ?_
  refine wp_skip ?_
  refine fx_next ?_
  refine wp_seq ?_
  refine wp_region_lit ?_  -- region 3
  refine fx_val (v := .pointer (some ⟨b, 0, none⟩)) fr rfl rfl (by first | decide | simp) (x_move rfl (fr.ev rfl)) ?_
  clear fr a; intro a fr
  refine fx_val (v := .pointer (some ⟨b, 0, none⟩)) fr rfl rfl (by first | decide | simp) (x_nilCheck rfl (fr.ev rfl)) ?_
  clear fr a; intro a fr
  refine fx_val (v := .pointer (some ⟨b, 0, none⟩)) fr rfl rfl (by first | decide | simp) (x_fieldAddr fo64_0 rfl (fr.ev rfl) rfl) ?_
  clear fr a; intro a fr
  refine fx_val (v := .pointer (some ⟨bi, 0, none⟩)) fr rfl rfl (by first | decide | simp) (x_load1 pl61 rfl (fr.ev rfl) (hB.cell 0 rfl)) ?_
  clear fr a; intro a fr
  refine fx_call fr rfl rfl (by first | decide | simp) (x_call (vs := [.pointer (some ⟨bi, 0, none⟩)]) rfl rfl ⟨(fr.ev rfl), trivial⟩ Try.func37 nm37 rfl) (hicopy_c hI) ?_
  clear fr a
  rintro v w10 ⟨bi3, ig4, cap5, rfl, hI6, hb7, hg8, hne9, hN11⟩ a fr
  have ne_b_bi3 : NE b bi3 := NE.mk (Nat.lt_of_lt_of_le hB.lt hb7)
  have ne_bi_bi3 : NE bi bi3 := NE.mk (Nat.lt_of_lt_of_le hI.lt.1 hb7)
  have ne_ig_bi3 : NE ig bi3 := NE.mk (Nat.lt_of_lt_of_le hI.lt.2 hb7)
  have ap_FpE_bi3 : ¬ FpE bi3 := hM.apart hb7
  have g_bi3 := Nat.le_trans hF.size hb7
  have ne_b_ig4 : NE b ig4 := NE.mk (Nat.lt_of_lt_of_le hB.lt hg8)
  have ne_bi_ig4 : NE bi ig4 := NE.mk (Nat.lt_of_lt_of_le hI.lt.1 hg8)
  have ne_ig_ig4 : NE ig ig4 := NE.mk (Nat.lt_of_lt_of_le hI.lt.2 hg8)
  have ap_FpE_ig4 : ¬ FpE ig4 := hM.apart hg8
  have g_ig4 := Nat.le_trans hF.size hg8
  replace hB := hB.new hN11
  replace hI := hI.new hN11
  replace hM := hM.new hN11
  replace hF := hF.trNew hN11
  have ne_bi3_ig4 := hne9
  refine fx_makeMap fr rfl rfl rfl (by first | decide | simp) ?_
  clear fr a
  intro r12 w13 hN14 M15 hb16 a fr
  have ne_b_r12 : NE b r12 := NE.mk (Nat.lt_of_lt_of_le hB.lt hb16)
  have ne_bi_r12 : NE bi r12 := NE.mk (Nat.lt_of_lt_of_le hI.lt.1 hb16)
  have ne_ig_r12 : NE ig r12 := NE.mk (Nat.lt_of_lt_of_le hI.lt.2 hb16)
  have ap_FpE_r12 : ¬ FpE r12 := hM.apart hb16
  have ne_bi3_r12 : NE bi3 r12 := NE.mk (Nat.lt_of_lt_of_le hI6.lt.1 hb16)
  have ne_ig4_r12 : NE ig4 r12 := NE.mk (Nat.lt_of_lt_of_le hI6.lt.2 hb16)
  have g_r12 := Nat.le_trans hF.size hb16
  replace hB := hB.new hN14
  replace hI := hI.new hN14
  replace hM := hM.new hN14
  replace hI6 := hI6.new hN14
  replace hF := hF.trNew hN14
  refine fx_val (v := .agg (#[.pointer (some ⟨bi3, 0, none⟩), .map (some r12)])) fr rfl rfl (by first | decide | simp) (x_build (cells := #[.pointer (some ⟨bi3, 0, none⟩), .map (some r12)]) rfl (by simp only [List.map_toArray, List.map_cons, List.map_nil, show a.eval (.tmp 13) = .pointer (some ⟨bi3, 0, none⟩) from fr.ev rfl, show a.eval (.tmp 14) = .map (some r12) from fr.ev rfl]; kernel_rfl)) ?_
  clear fr a; intro a fr
  refine fx_new fr rfl rfl (by first | decide | simp) (x_box (cs := #[.pointer (some ⟨bi3, 0, none⟩), .map (some r12)]) rfl (fr.ev rfl) rfl) ?_
  clear fr a
  intro b17 w18 hN19 B20 hb21 a fr
  have ne_b_b17 : NE b b17 := NE.mk (Nat.lt_of_lt_of_le hB.lt hb21)
  have ne_bi_b17 : NE bi b17 := NE.mk (Nat.lt_of_lt_of_le hI.lt.1 hb21)
  have ne_ig_b17 : NE ig b17 := NE.mk (Nat.lt_of_lt_of_le hI.lt.2 hb21)
  have ap_FpE_b17 : ¬ FpE b17 := hM.apart hb21
  have ne_bi3_b17 : NE bi3 b17 := NE.mk (Nat.lt_of_lt_of_le hI6.lt.1 hb21)
  have ne_ig4_b17 : NE ig4 b17 := NE.mk (Nat.lt_of_lt_of_le hI6.lt.2 hb21)
  have ne_r12_b17 : NE r12 b17 := NE.mk (Nat.lt_of_lt_of_le M15.lt hb21)
  have g_b17 := Nat.le_trans hF.size hb21
  replace hB := hB.new hN19
  replace hI := hI.new hN19
  replace hM := hM.new hN19
  replace hI6 := hI6.new hN19
  replace M15 := M15.new hN19
  replace hF := hF.trNew hN19
  refine fx_val (v := .pointer (some ⟨b17, 0, none⟩)) fr rfl rfl (by first | decide | simp) (x_assign rfl (fr.ev rfl)) ?_
  clear fr a; intro a fr
  refine wpList_nil ?_
  refine fx_next ?_
  refine wp_seq ?_
  refine wp_seq ?_
  refine wp_region_lit ?_  -- region 4
  refine fx_val (v := .pointer (some ⟨b, 0, none⟩)) fr rfl rfl (by first | decide | simp) (x_move rfl (fr.ev rfl)) ?_
  clear fr a; intro a fr
  refine fx_val (v := .pointer (some ⟨b, 0, none⟩)) fr rfl rfl (by first | decide | simp) (x_nilCheck rfl (fr.ev rfl)) ?_
  clear fr a; intro a fr
  refine fx_val (v := .pointer (some ⟨b, 1, none⟩)) fr rfl rfl (by first | decide | simp) (x_fieldAddr fo64_1 rfl (fr.ev rfl) rfl) ?_
  clear fr a; intro a fr
  refine fx_val (v := .map (some r)) fr rfl rfl (by first | decide | simp) (x_load1 pl62 rfl (fr.ev rfl) (hB.cell 1 rfl)) ?_
  clear fr a; intro a fr
  refine fx_rangeMap fr rfl Try.underlying62 rfl rfl (by first | decide | simp) (fr.ev rfl) hM.map ?_
  clear fr a
  intro it w22 hN23 hit hge a fr
  have ne_b_it : NE b it := NE.mk (Nat.lt_of_lt_of_le hB.lt hge)
  have ne_bi_it : NE bi it := NE.mk (Nat.lt_of_lt_of_le hI.lt.1 hge)
  have ne_ig_it : NE ig it := NE.mk (Nat.lt_of_lt_of_le hI.lt.2 hge)
  have ap_FpE_it : ¬ FpE it := hM.apart hge
  have ne_bi3_it : NE bi3 it := NE.mk (Nat.lt_of_lt_of_le hI6.lt.1 hge)
  have ne_ig4_it : NE ig4 it := NE.mk (Nat.lt_of_lt_of_le hI6.lt.2 hge)
  have ne_r12_it : NE r12 it := NE.mk (Nat.lt_of_lt_of_le M15.lt hge)
  have ne_b17_it : NE b17 it := NE.mk (Nat.lt_of_lt_of_le B20.lt hge)
  have g_it := Nat.le_trans hF.size hge
  replace hB := hB.new hN23
  replace hI := hI.new hN23
  replace hM := hM.new hN23
  replace hI6 := hI6.new hN23
  replace M15 := M15.new hN23
  replace B20 := B20.new hN23
  replace hF := hF.trNew hN23
  obtain ⟨FpN0, hN0, hFN0⟩ := ents_nil_ex M15 E
  have ap_FpN0_b : ¬ FpN0 b := fun h => absurd (hFN0 _ h) (by first | exact ne_b_r12 | exact ne_r12_b.symm)
  have ap_FpN0_bi : ¬ FpN0 bi := fun h => absurd (hFN0 _ h) (by first | exact ne_bi_r12 | exact ne_r12_bi.symm)
  have ap_FpN0_ig : ¬ FpN0 ig := fun h => absurd (hFN0 _ h) (by first | exact ne_ig_r12 | exact ne_r12_ig.symm)
  have ap2_FpE_FpN0 : ∀ k, FpE k → FpN0 k → False := fun k h1 h2 => ap_FpE_r12 (hFN0 _ h2 ▸ h1)
  have ap_FpN0_bi3 : ¬ FpN0 bi3 := fun h => absurd (hFN0 _ h) (by first | exact ne_bi3_r12 | exact ne_r12_bi3.symm)
  have ap_FpN0_ig4 : ¬ FpN0 ig4 := fun h => absurd (hFN0 _ h) (by first | exact ne_ig4_r12 | exact ne_r12_ig4.symm)
  have ap_FpN0_b17 : ¬ FpN0 b17 := fun h => absurd (hFN0 _ h) (by first | exact ne_b17_r12 | exact ne_r12_b17.symm)
  have ap_FpN0_it : ¬ FpN0 it := fun h => absurd (hFN0 _ h) (by first | exact ne_it_r12 | exact ne_r12_it.symm)
  have gA_FpN0 : ∀ g, FpN0 g → (fun _ => False) g ∨ w.heap.size ≤ g := fun g hg => .inr (by rw [hFN0 g hg]; exact g_r12)
  refine wpList_nil ?_
  refine fx_next ?_
  refine wp_block ?_
  refine fx_loop (fun nM a wL => ∃ pre : List Slot, ∃ FpN : Nat → Prop, ∃ LN : List Slot, ∃ cN : Nat, nM = L.length - pre.length ∧ Fr (37, []) [(3, .pointer (some ⟨b17, 0, none⟩)), (21, .pointer (some ⟨it, 0, none⟩))] a ∧ Only (fun _ => False) w wL ∧ EntsAt wL FpE r E L c ∧ EntsAt wL FpN r12 (onlyE E pre) LN cN ∧ Blk wL b17 64 (#[.pointer (some ⟨bi3, 0, none⟩), .map (some r12)]) ∧ Img 0 wL bi3 ig4 cap5 bs ∧ IterAt wL it r c pre ∧ (∀ x ∈ pre, x ∈ L) ∧ pre.Nodup ∧ (∀ k, FpE k → FpN k → False) ∧ (¬ FpN b17) ∧ (¬ FpN bi3) ∧ (¬ FpN ig4) ∧ (¬ FpN it) ∧ (∀ g, FpN g → (fun _ => False) g ∨ w.heap.size ≤ g)) (n0 := _) ⟨[], FpN0, [], 0, rfl, fr.sub ⟨rfl, rfl, trivial⟩, hF, hM, hN0, B20, hI6, hit, (by simp), (by simp), ap2_FpE_FpN0, ap_FpN0_b17, ap_FpN0_bi3, ap_FpN0_ig4, ap_FpN0_it, gA_FpN0⟩ ?_
  rintro n25 a w24 ⟨pre, FpN, LN, cN, rfl, fr, hF, hM, hN0, B20, hI6, hit, hpre, hnd, ap2_FpE_FpN, ap_FpN_b17, ap_FpN_bi3, ap_FpN_ig4, ap_FpN_it, gA_FpN⟩
  refine wp_seq ?_
  refine wp_region_lit ?_  -- region 5
  refine fx_next_map fr rfl rfl rfl (by first | decide | simp) (fr.ev rfl) hit hM.map (fun s hs => (hM.lt_ s hs).2) (fun hall _ a fr => ?_) (fun s w2 hs hns hO9 hit9 _ a fr => ?_) hpre hM.borns
  · skip
    refine fx_val (v := .bool false) fr rfl rfl (by first | decide | simp) (x_extract rfl (fr.ev rfl) rfl) ?_
    clear fr a; intro a fr
    refine wpList_nil ?_
    refine fx_next ?_
    refine wp_seq ?_
    refine fx_cond_f fr rfl ?_
    refine wp_exit ?_
    refine fx_xt ?_
    refine fx_xt ?_
    refine fx_xx ?_
    refine fx_next ?_
    refine wp_seq ?_
    refine wp_region_lit ?_  -- region 9
    refine fx_val (v := .pointer (some ⟨b17, 0, none⟩)) fr rfl rfl (by first | decide | simp) (x_move rfl (fr.ev rfl)) ?_
    clear fr a; intro a fr
    refine fx_val (v := .pointer (some ⟨b17, 0, none⟩)) fr rfl rfl (by first | decide | simp) (x_assign rfl (fr.ev rfl)) ?_
    clear fr a; intro a fr
    refine wpList_nil ?_
    refine fx_next ?_
    refine wp_ret ?_
    refine fx_ret fr [.tmp 2] [.pointer (some ⟨b17, 0, none⟩)] rfl ⟨rfl, trivial⟩ rfl ?_
    rw [onlyE_all hM.no hall] at hN0
    exact ⟨_, rfl, b17, fun k => k = b17 ∨ k = bi3 ∨ k = ig4 ∨ FpN k, rfl, ⟨bi3, ig4, cap5, r12, FpN, LN, cN, B20, hI6, hN0, ⟨(by first | exact ne_b17_bi3 | exact ne_bi3_b17.symm), (by first | exact ne_b17_ig4 | exact ne_ig4_b17.symm), ap_FpN_b17, ap_FpN_bi3, ap_FpN_ig4, fun _ => Iff.rfl⟩, hEn⟩, fun k hk => hk.elim (fun e => by rw [e]; exact g_b17) fun hk => hk.elim (fun e => by rw [e]; exact g_bi3) fun hk => hk.elim (fun e => by rw [e]; exact g_ig4) fun h => (gA_FpN k h).resolve_left (fun h => h), hF⟩
  · skip
    obtain ⟨sk, sb, sA, scap, sborn⟩ := s
    dsimp only at fr
    replace hM := hM.only hO9 (ne1P ap_FpE_it)
    replace hN0 := hN0.only hO9 (ne1P ap_FpN_it)
    replace B20 := B20.only hO9 (by first | exact ne_b17_it | exact ne_it_b17.symm | (show ¬ b17 = it; omega))
    replace hI6 := hI6.only hO9 (by first | exact ne_bi3_it | exact ne_it_bi3.symm | (show ¬ bi3 = it; omega)) (by first | exact ne_ig4_it | exact ne_it_ig4.symm | (show ¬ ig4 = it; omega))
    replace hF := hF.loc hO9 (.inr g_it)
    replace hit := hit9
    have hlen := nodup_lt hnd hpre hs hns
    obtain ⟨hES, hQS⟩ := hM.at_ _ hs
    dsimp only at hES hQS
    have hskl : sk < E.length := (hM.lt_ _ hs).1
    have hql9 := hq sk
    refine fx_val (v := .bool true) fr rfl rfl (by first | decide | simp) (x_extract rfl (fr.ev rfl) rfl) ?_
    clear fr a; intro a fr
    refine wpList_nil ?_
    refine fx_next ?_
    refine wp_seq ?_
    refine fx_cond_t fr rfl ?_
    refine wp_skip ?_
    refine fx_next ?_
    refine wp_block ?_
    refine wp_seq ?_
    refine wp_region_lit ?_  -- region 6
    refine fx_val (v := .tuple #[.int .u32 ((sk : Nat) : Int), .pointer (some ⟨sb, 0, none⟩)]) fr rfl rfl (by first | decide | simp) (x_entry (s := ⟨sk, sb, sA, scap, sborn⟩) rfl (fr.ev rfl) hit hM.map hs hM.borns) ?_
    clear fr a; intro a fr
    refine fx_val (v := .int .u32 ((sk : Nat) : Int)) fr rfl rfl (by first | decide | simp) (x_extract rfl (fr.ev rfl) rfl) ?_
    clear fr a; intro a fr
    refine fx_val (v := .pointer (some ⟨sb, 0, none⟩)) fr rfl rfl (by first | decide | simp) (x_extract rfl (fr.ev rfl) rfl) ?_
    clear fr a; intro a fr
    refine fx_val (v := .int .u32 ((sk : Nat) : Int)) fr rfl rfl (by first | decide | simp) (x_assign rfl (fr.ev rfl)) ?_
    clear fr a; intro a fr
    refine fx_val (v := .pointer (some ⟨sb, 0, none⟩)) fr rfl rfl (by first | decide | simp) (x_assign rfl (fr.ev rfl)) ?_
    clear fr a; intro a fr
    refine wpList_nil ?_
    refine fx_next ?_
    refine wp_seq ?_
    refine wp_region_lit ?_  -- region 7
    refine fx_val (v := .pointer (some ⟨sb, 0, none⟩)) fr rfl rfl (by first | decide | simp) (x_move rfl (fr.ev rfl)) ?_
    clear fr a; intro a fr
    refine fx_val (v := .pointer (some ⟨sb, 0, none⟩)) fr rfl rfl (by first | decide | simp) (x_nilCheck rfl (fr.ev rfl)) ?_
    clear fr a; intro a fr
    refine fx_val (v := .agg (entA (entOf E sk) (.slice sA ((entOf E sk).q.length) scap))) fr rfl rfl (by first | decide | simp) (x_loadS ag42 rfl (fr.ev rfl) rfl hES.range) ?_
    clear fr a; intro a fr
    refine fx_call fr rfl rfl (by first | decide | simp) (x_call (vs := [.agg (entA (entOf E sk) (.slice sA ((entOf E sk).q.length) scap))]) rfl rfl ⟨(fr.ev rfl), trivial⟩ Try.func38 nm38 rfl) (copied_c (d := (entOf E sk)) hQS (by omega)) ?_
    clear fr a
    rintro v w30 ⟨Q26, qc27, rfl, OQ28, hA29, hN31⟩ a fr
    have ap2_FpE_Q26 : ∀ k, FpE k → inA Q26 k → False := symP (new_apart2P hA29 fun _ hg => hM.lt hg)
    have ap2_FpN_Q26 : ∀ k, FpN k → inA Q26 k → False := symP (new_apart2P hA29 fun _ hg => hN0.lt hg)
    have ap_Q26_b17 : Apart Q26 b17 := new_apart hA29 B20.lt
    have ap_Q26_bi3 : Apart Q26 bi3 := new_apart hA29 hI6.lt.1
    have ap_Q26_ig4 : Apart Q26 ig4 := new_apart hA29 hI6.lt.2
    have ap_Q26_it : Apart Q26 it := new_apart hA29 hit.lt
    have ap_Q26_sb : Apart Q26 sb := new_apart hA29 hES.lt
    have ap2_sA_Q26 : Apart2 sA Q26 := (new_apart2 hA29 fun _ hg => hQS.lt hg).symm
    have gA_Q26 := gA_new hF hA29
    have gN_Q26 := fun g (hg : inA Q26 g) => Nat.le_trans hF.size (hA29 g hg)
    replace hM := hM.new hN31
    replace hN0 := hN0.new hN31
    replace B20 := B20.new hN31
    replace hI6 := hI6.new hN31
    replace hit := hit.new hN31
    replace hES := hES.new hN31
    replace hQS := hQS.new hN31
    replace hF := hF.trNew hN31
    refine fx_new fr rfl rfl (by first | decide | simp) (x_alloc (z := .agg (#[.int .i64 0, .bool false, .bool false, .bool false, .bool false, .bool false, .int .i64 0, .int .i64 0, .int .i64 0, .bool false, .slice none 0 0])) (cs := #[.int .i64 0, .bool false, .bool false, .bool false, .bool false, .bool false, .int .i64 0, .int .i64 0, .int .i64 0, .bool false, .slice none 0 0]) rfl (by kernel_rfl) rfl) ?_
    clear fr a
    intro b32 w33 hN34 B35 hb36 a fr
    have ap_FpE_b32 : ¬ FpE b32 := hM.apart hb36
    have ap_FpN_b32 : ¬ FpN b32 := hN0.apart hb36
    have ne_b17_b32 : NE b17 b32 := NE.mk (Nat.lt_of_lt_of_le B20.lt hb36)
    have ne_bi3_b32 : NE bi3 b32 := NE.mk (Nat.lt_of_lt_of_le hI6.lt.1 hb36)
    have ne_ig4_b32 : NE ig4 b32 := NE.mk (Nat.lt_of_lt_of_le hI6.lt.2 hb36)
    have ne_it_b32 : NE it b32 := NE.mk (Nat.lt_of_lt_of_le hit.lt hb36)
    have ne_sb_b32 : NE sb b32 := NE.mk (Nat.lt_of_lt_of_le hES.lt hb36)
    have ap_sA_b32 : Apart sA b32 := hQS.apart hb36
    have ap_Q26_b32 : Apart Q26 b32 := OQ28.apart hb36
    have g_b32 := Nat.le_trans hF.size hb36
    replace hM := hM.new hN34
    replace hN0 := hN0.new hN34
    replace B20 := B20.new hN34
    replace hI6 := hI6.new hN34
    replace hit := hit.new hN34
    replace hES := hES.new hN34
    replace hQS := hQS.new hN34
    replace OQ28 := OQ28.new hN34
    replace hF := hF.trNew hN34
    refine fx_storeS sz42 rfl rfl rfl (fr.ev rfl) (fr.ev rfl) (ent_all _ _ _ _) B35 rfl rfl fun w37 hO38 hBq => ?_
    replace hM := hM.only hO38 (ne1P ap_FpE_b32)
    replace hN0 := hN0.only hO38 (ne1P ap_FpN_b32)
    replace B20 := B20.only hO38 (by first | exact ne_b17_b32 | exact ne_b32_b17.symm | (show ¬ b17 = b32; omega))
    replace hI6 := hI6.only hO38 (by first | exact ne_bi3_b32 | exact ne_b32_bi3.symm | (show ¬ bi3 = b32; omega)) (by first | exact ne_ig4_b32 | exact ne_b32_ig4.symm | (show ¬ ig4 = b32; omega))
    replace hit := hit.only hO38 (by first | exact ne_it_b32 | exact ne_b32_it.symm | (show ¬ it = b32; omega))
    replace hES := hES.only hO38 (by first | exact ne_sb_b32 | exact ne_b32_sb.symm | (show ¬ sb = b32; omega))
    replace hQS := hQS.only hO38 (Apart.ne1 ap_sA_b32)
    replace OQ28 := OQ28.only hO38 (Apart.ne1 ap_Q26_b32)
    replace hF := hF.loc hO38 (.inr g_b32)
    replace B35 := hBq
    clear hBq
    refine wpList_nil ?_
    refine fx_next ?_
    refine wp_region_lit ?_  -- region 8
    refine fx_val (v := .pointer (some ⟨b17, 0, none⟩)) fr rfl rfl (by first | decide | simp) (x_move rfl (fr.ev rfl)) ?_
    clear fr a; intro a fr
    refine fx_val (v := .pointer (some ⟨b17, 0, none⟩)) fr rfl rfl (by first | decide | simp) (x_nilCheck rfl (fr.ev rfl)) ?_
    clear fr a; intro a fr
    refine fx_val (v := .pointer (some ⟨b17, 1, none⟩)) fr rfl rfl (by first | decide | simp) (x_fieldAddr fo64_1 rfl (fr.ev rfl) rfl) ?_
    clear fr a; intro a fr
    refine fx_val (v := .map (some r12)) fr rfl rfl (by first | decide | simp) (x_load1 pl62 rfl (fr.ev rfl) (B20.cell 1 rfl)) ?_
    clear fr a; intro a fr
    refine fx_val (v := .int .u32 ((sk : Nat) : Int)) fr rfl rfl (by first | decide | simp) (x_move rfl (fr.ev rfl)) ?_
    clear fr a; intro a fr
    have hrN := (hN0.foot r12).2 (.inl rfl)
    refine fx_entPut (n := sk) rfl rfl rfl (fr.ev rfl) (fr.ev rfl) (fr.ev rfl) hN0 (by rw [onlyE_length]; exact hskl) B35 OQ28.view (fun e => ap_FpN_b32 (by rw [e]; exact hrN)) (fun h => ap2_FpN_Q26 _ hrN h) ?_
    intro w39 L40 c41 FpE42 hO43 hM44 hF245
    have ap_FpE_r12 : ¬ FpE r12 := fun h => ap2_FpE_FpN _ h hrN
    have ap2_FpE_FpE42 : ∀ k, FpE k → FpE42 k → False := fun k h1 h2 => (hF245 k h2).elim (ap2_FpE_FpN k h1) fun h => h.elim (fun e => ap_FpE_b32 (e ▸ h1)) (ap2_FpE_Q26 k h1)
    have ne_b17_r12 : NE b17 r12 := fun e => ap_FpN_b17 (by rw [e]; exact hrN)
    have ap_FpE42_b17 : ¬ FpE42 b17 := fun h => (hF245 b17 h).elim ap_FpN_b17 fun h => h.elim (fun e => absurd e (by first | exact ne_b17_b32 | exact ne_b32_b17.symm)) ap_Q26_b17
    have ne_bi3_r12 : NE bi3 r12 := fun e => ap_FpN_bi3 (by rw [e]; exact hrN)
    have ap_FpE42_bi3 : ¬ FpE42 bi3 := fun h => (hF245 bi3 h).elim ap_FpN_bi3 fun h => h.elim (fun e => absurd e (by first | exact ne_bi3_b32 | exact ne_b32_bi3.symm)) ap_Q26_bi3
    have ne_ig4_r12 : NE ig4 r12 := fun e => ap_FpN_ig4 (by rw [e]; exact hrN)
    have ap_FpE42_ig4 : ¬ FpE42 ig4 := fun h => (hF245 ig4 h).elim ap_FpN_ig4 fun h => h.elim (fun e => absurd e (by first | exact ne_ig4_b32 | exact ne_b32_ig4.symm)) ap_Q26_ig4
    have ne_it_r12 : NE it r12 := fun e => ap_FpN_it (by rw [e]; exact hrN)
    have ap_FpE42_it : ¬ FpE42 it := fun h => (hF245 it h).elim ap_FpN_it fun h => h.elim (fun e => absurd e (by first | exact ne_it_b32 | exact ne_b32_it.symm)) ap_Q26_it
    have gA_FpE42 : ∀ g, FpE42 g → (fun _ => False) g ∨ w.heap.size ≤ g := fun g hg => (hF245 g hg).elim (gA_FpN g) fun h => h.elim (fun e => .inr (by rw [e]; exact g_b32)) (gA_Q26 g)
    replace hM := hM.only hO43 (ne1P ap_FpE_r12)
    replace B20 := B20.only hO43 (by first | exact ne_b17_r12 | exact ne_r12_b17.symm | (show ¬ b17 = r12; omega))
    replace hI6 := hI6.only hO43 (by first | exact ne_bi3_r12 | exact ne_r12_bi3.symm | (show ¬ bi3 = r12; omega)) (by first | exact ne_ig4_r12 | exact ne_r12_ig4.symm | (show ¬ ig4 = r12; omega))
    replace hit := hit.only hO43 (by first | exact ne_it_r12 | exact ne_r12_it.symm | (show ¬ it = r12; omega))
    replace hF := hF.loc hO43 (gA_FpN r12 hrN)
    clear hN0
    rw [show (onlyE E pre).set sk (entOf E sk) = onlyE E (pre ++ [⟨sk, sb, sA, scap, sborn⟩]) from onlyE_snoc E pre ⟨sk, sb, sA, scap, sborn⟩] at hM44
    refine wpList_nil ?_
    refine fx_blk ?_
    refine fx_next ?_
    exact ⟨_, (by rw [List.length_append]; simp; omega), (pre ++ [⟨sk, sb, sA, scap, sborn⟩]), FpE42, L40, c41, rfl, fr.sub ⟨rfl, rfl, trivial⟩, hF, hM, hM44, B20, hI6, hit, mem_snoc hpre hs, nodup_snoc hnd hns, ap2_FpE_FpE42, ap_FpE42_b17, ap_FpE42_bi3, ap_FpE42_ig4, ap_FpE42_it, gA_FpE42⟩
end Go.Proofs.Ytdiaemlgghfecaa
namespace Go.Proofs.Ytdiaemlgghfecaa
open Go.RowKit
theorem lines_h {w : World} {Fp : Nat → Prop} {b : Nat} {h : HD} (H : HomeAt w Fp b h) : Calls Try.prog 10 #[.pointer (some ⟨b, 0, none⟩)] w (Ret fun v w' => v = .int .i64 ((h.E.length : Nat) : Int) ∧ w' = w) := by
  obtain ⟨bi, ig, cap, r, F, L, c, hB, hI, hM, hP, hEn⟩ := H
  rw [hEn]
  exact lines_r hB hI
theorem copy_h {w : World} {Fp : Nat → Prop} {b : Nat} {h : HD} (H : HomeAt w Fp b h) (hq : ∀ k, (entOf h.E k).q.length ≤ 1000000) : Calls Try.prog 18 #[.pointer (some ⟨b, 0, none⟩)] w (Ret fun v w' => ∃ b Fp, v = .pointer (some ⟨b, 0, none⟩) ∧ HomeAt w' Fp b h ∧ (∀ g, Fp g → w.heap.size ≤ g) ∧ New w w') := by
  obtain ⟨bi, ig, cap, r, F, L, c, hB, hI, hM, hP, hEn⟩ := H
  exact hcopy_r hB hI hM hEn hq
theorem entry_h {w : World} {Fp : Nat → Prop} {b : Nat} {h : HD} (H : HomeAt w Fp b h) (line : Int) (hln : 0 ≤ line ∧ line < 4294967296) (hr : line < h.E.length) (hq : (entOf h.E line.toNat).q.length ≤ 1000000) : Calls Try.prog 13 #[.pointer (some ⟨b, 0, none⟩), .int .u32 line] w (Ret fun v w' => ∃ Q' qc', v = .tuple #[.agg (entA (entOf h.E line.toNat) (.slice Q' (entOf h.E line.toNat).q.length qc')), .int .i64 0] ∧ Own msgE w' Q' qc' (entOf h.E line.toNat).q ∧ (∀ g, inA Q' g → w.heap.size ≤ g) ∧ New w w') := by
  obtain ⟨bi, ig, cap, r, F, L, c, hB, hI, hM, hP, hEn⟩ := H
  exact entry_ok hB hI line hln hM (by rw [← hEn]; omega) hq
theorem entOf_rep (n k : Nat) : entOf (List.replicate n ent0) k = ent0 := by
  unfold entOf
  simp only [List.getD, List.getElem?_replicate]
  split <;> rfl
theorem ent0_ok (n : Int) : EOk n ent0 := ⟨by decide, (by intro h; cases h), by decide, (by intro m hm; cases hm), by decide, (by intro h; cases h)⟩
theorem home0_ok (bs : List UInt8) : HOk (home0 bs) := fun n _ => by
  rw [show entOf (home0 bs).E n = ent0 from entOf_rep _ _]
  exact ⟨ent0_ok _, Nat.zero_le _⟩
theorem imgnew_c (n : Nat) (w : World) (hn : okSize n = true) : Calls Try.prog 23 #[.int .i64 ((n : Nat) : Int)] w (Ret fun v w' => ∃ b g c, v = .tuple #[.pointer (some ⟨b, 0, none⟩), .int .i64 0] ∧ Img 0 w' b g c (List.replicate n 0) ∧ w.heap.size ≤ b ∧ w.heap.size ≤ g ∧ NE b g ∧ New w w') :=
  (new_yes n w hn).mono fun _ _ ⟨b, g, c, h1, h2, h3⟩ => ⟨_, h1, b, g, c, rfl, h2.mono (Nat.zero_le _), h2.hb, h2.hg, h2.ne, h3⟩
theorem known_take : (takeH (home0 (List.replicate 32 0)) (mkM 1 2 4 1 b16z (by decide))).2.1 = [sendM (mkM 1 2 4 1 b16z (by decide)) 9 2 (lineB (List.replicate 32 0) 1)] ∧ (takeH (home0 (List.replicate 32 0)) (mkM 1 2 4 1 b16z (by decide))).2.2 = 0 ∧ (takeH (home0 (List.replicate 32 0)) (mkM 1 2 4 1 b16z (by decide))).1.E.length = 2 := by
  refine ⟨?_, ?_, ?_⟩ <;> decide
set_option maxRecDepth 100000 in
set_option maxHeartbeats 4000000 in
theorem known_c (w : World) : Calls Try.prog 11 #[] w (Ret fun v w' => v = .bool true ∧ New w w') := by
  have hF := Only.refl (fun _ => False) w
  refine fx_enter Try.func11 rfl (N := (52, [])) (T := []) rfl (show 0 ≤ 52 by decide) trivial fun a fr => ?_
  refine wp_seq ?_
  refine wp_region_lit ?_  -- region 0
  refine fx_val (v := .bool false) fr rfl rfl (by first | decide | simp) (x_assign rfl rfl) ?_
  clear fr a; intro a fr
  refine wpList_nil ?_
  refine fx_next ?_
  refine wp_seq ?_
  refine wp_region_lit ?_  -- region 1
  refine fx_call fr rfl rfl (by first | decide | simp) (x_call (vs := [.int .i64 32]) rfl rfl ⟨rfl, trivial⟩ Try.func23 nm23 rfl) (imgnew_c 32 _ (by decide)) ?_
  clear fr a
  rintro v w8 ⟨bi1, ig2, cap3, rfl, hI4, hb5, hg6, hne7, hN9⟩ a fr
  have g_bi1 := Nat.le_trans hF.size hb5
  have g_ig2 := Nat.le_trans hF.size hg6
  replace hF := hF.trNew hN9
  have ne_bi1_ig2 := hne7
  refine fx_val (v := .tuple #[.pointer (some ⟨bi1, 0, none⟩), .int .i64 0]) fr rfl rfl (by first | decide | simp) (x_move rfl (fr.ev rfl)) ?_
  clear fr a; intro a fr
  refine fx_val (v := .pointer (some ⟨bi1, 0, none⟩)) fr rfl rfl (by first | decide | simp) (x_extract rfl (fr.ev rfl) rfl) ?_
  clear fr a; intro a fr
  refine fx_val (v := .int .i64 0) fr rfl rfl (by first | decide | simp) (x_extract rfl (fr.ev rfl) rfl) ?_
  clear fr a; intro a fr
  refine fx_val (v := .pointer (some ⟨bi1, 0, none⟩)) fr rfl rfl (by first | decide | simp) (x_assign rfl (fr.ev rfl)) ?_
  clear fr a; intro a fr
  refine fx_val (v := .int .i64 0) fr rfl rfl (by first | decide | simp) (x_assign rfl (fr.ev rfl)) ?_
  clear fr a; intro a fr
  refine wpList_nil ?_
  refine fx_next ?_
  refine wp_seq ?_
  refine wp_region_lit ?_  -- region 2
  refine fx_val (v := .pointer (some ⟨bi1, 0, none⟩)) fr rfl rfl (by first | decide | simp) (x_move rfl (fr.ev rfl)) ?_
  clear fr a; intro a fr
  refine fx_call fr rfl rfl (by first | decide | simp) (x_call (vs := [.pointer (some ⟨bi1, 0, none⟩)]) rfl rfl ⟨(fr.ev rfl), trivial⟩ Try.func22 nm22 rfl) (hnew_c hI4) ?_
  clear fr a
  rintro v w14 ⟨hb10, Fp11, rfl, H12, hf13, hN15⟩ a fr
  have ap_Fp11_bi1 : ¬ Fp11 bi1 := new_apartP hf13 hI4.lt.1
  have ap_Fp11_ig2 : ¬ Fp11 ig2 := new_apartP hf13 hI4.lt.2
  have gA_Fp11 := gA_newP hF hf13
  have gN_Fp11 := fun g (hg : Fp11 g) => Nat.le_trans hF.size (hf13 g hg)
  replace hI4 := hI4.new hN15
  replace hF := hF.trNew hN15
  refine fx_val (v := .tuple #[.pointer (some ⟨hb10, 0, none⟩), .int .i64 0]) fr rfl rfl (by first | decide | simp) (x_move rfl (fr.ev rfl)) ?_
  clear fr a; intro a fr
  refine fx_val (v := .pointer (some ⟨hb10, 0, none⟩)) fr rfl rfl (by first | decide | simp) (x_extract rfl (fr.ev rfl) rfl) ?_
  clear fr a; intro a fr
  refine fx_val (v := .int .i64 0) fr rfl rfl (by first | decide | simp) (x_extract rfl (fr.ev rfl) rfl) ?_
  clear fr a; intro a fr
  refine fx_val (v := .pointer (some ⟨hb10, 0, none⟩)) fr rfl rfl (by first | decide | simp) (x_assign rfl (fr.ev rfl)) ?_
  clear fr a; intro a fr
  refine fx_val (v := .int .i64 0) fr rfl rfl (by first | decide | simp) (x_assign rfl (fr.ev rfl)) ?_
  clear fr a; intro a fr
  refine wpList_nil ?_
  refine fx_next ?_
  refine wp_seq ?_
  refine wp_region_lit ?_  -- region 3
  refine fx_val (v := .pointer (some ⟨hb10, 0, none⟩)) fr rfl rfl (by first | decide | simp) (x_move rfl (fr.ev rfl)) ?_
  clear fr a; intro a fr
  refine fx_val (v := .agg (msgE.arr (mkM 1 2 4 1 b16z (by decide)))) fr rfl rfl (by first | decide | simp) (x_build (cells := msgE.arr (mkM 1 2 4 1 b16z (by decide))) rfl (by kernel_rfl)) ?_
  clear fr a; intro a fr
  refine fx_call fr rfl rfl (by first | decide | simp) (x_call (vs := [.pointer (some ⟨hb10, 0, none⟩), .agg (msgE.arr (mkM 1 2 4 1 b16z (by decide)))]) rfl rfl ⟨(fr.ev rfl), (fr.ev rfl), trivial⟩ Try.func12 nm12 rfl) (take_c H12 (mkM 1 2 4 1 b16z (by decide)) (home0_ok _)) ?_
  clear fr a
  rintro v w24 ⟨A16, ac17, Fp18, rfl, O19, hA20, H21, hs22, hi23, hN25⟩ a fr
  clear H12
  have ap_Fp18_bi1 : ¬ Fp18 bi1 := moved_apartP hi23 ap_Fp11_bi1 hI4.lt.1
  have ap_A16_bi1 : Apart A16 bi1 := new_apart hA20 hI4.lt.1
  have ap_Fp18_ig2 : ¬ Fp18 ig2 := moved_apartP hi23 ap_Fp11_ig2 hI4.lt.2
  have ap_A16_ig2 : Apart A16 ig2 := new_apart hA20 hI4.lt.2
  have ap2_Fp18_A16 : ∀ k, Fp18 k → inA A16 k → False := hs22
  have gA_Fp18 := gA_movedP hF hi23 gA_Fp11
  have gA_A16 := gA_new hF hA20
  replace hI4 := hI4.only hN25 ap_Fp11_bi1 ap_Fp11_ig2
  replace hF := hF.locP hN25 gA_Fp11
  obtain ⟨hk1, hk2, hk3⟩ := known_take
  rw [hk1] at O19
  rw [hk1, hk2] at fr
  refine fx_val (v := .tuple #[.slice A16 1 ac17, .int .i64 0]) fr rfl rfl (by first | decide | simp) (x_move rfl (fr.ev rfl)) ?_
  clear fr a; intro a fr
  refine fx_val (v := .slice A16 1 ac17) fr rfl rfl (by first | decide | simp) (x_extract rfl (fr.ev rfl) rfl) ?_
  clear fr a; intro a fr
  refine fx_val (v := .int .i64 0) fr rfl rfl (by first | decide | simp) (x_extract rfl (fr.ev rfl) rfl) ?_
  clear fr a; intro a fr
  refine fx_val (v := .slice A16 1 ac17) fr rfl rfl (by first | decide | simp) (x_assign rfl (fr.ev rfl)) ?_
  clear fr a; intro a fr
  refine fx_val (v := .int .i64 0) fr rfl rfl (by first | decide | simp) (x_assign rfl (fr.ev rfl)) ?_
  clear fr a; intro a fr
  refine wpList_nil ?_
  refine fx_next ?_
  refine wp_seq ?_
  refine wp_region_lit ?_  -- region 4
  refine fx_val (v := .int .i64 0) fr rfl rfl (by first | decide | simp) (x_move rfl (fr.ev rfl)) ?_
  clear fr a; intro a fr
  refine fx_val (v := .bool true) fr rfl rfl (by first | decide | simp) (x_eql rfl (fr.ev rfl) rfl rfl) ?_
  clear fr a; intro a fr
  refine fx_val (v := .bool true) fr rfl rfl (by first | decide | simp) (x_move rfl (fr.ev rfl)) ?_
  clear fr a; intro a fr
  refine fx_val (v := .int .i64 0) fr (fr.want rfl rfl rfl) rfl (by first | decide | simp) (x_move rfl (fr.ev rfl)) ?_
  clear fr a; intro a fr
  refine fx_val (v := .bool true) fr (fr.want rfl rfl rfl) rfl (by first | decide | simp) (x_eql rfl (fr.ev rfl) rfl rfl) ?_
  clear fr a; intro a fr
  refine fx_val (v := .bool true) fr rfl rfl (by first | decide | simp) (x_pick_t rfl (fr.ev rfl) (fr.ev rfl)) ?_
  clear fr a; intro a fr
  refine fx_val (v := .bool true) fr rfl rfl (by first | decide | simp) (x_move rfl (fr.ev rfl)) ?_
  clear fr a; intro a fr
  refine fx_val (v := .slice A16 1 ac17) fr (fr.want rfl rfl rfl) rfl (by first | decide | simp) (x_move rfl (fr.ev rfl)) ?_
  clear fr a; intro a fr
  refine fx_val (v := .int .i64 ((1 : Nat) : Int)) fr (fr.want rfl rfl rfl) rfl (by first | decide | simp) (x_len Try.underlying23 rfl (fr.ev rfl)) ?_
  clear fr a; intro a fr
  refine fx_val (v := .bool true) fr (fr.want rfl rfl rfl) rfl (by first | decide | simp) (x_eql rfl (fr.ev rfl) rfl rfl) ?_
  clear fr a; intro a fr
  refine fx_val (v := .bool true) fr rfl rfl (by first | decide | simp) (x_pick_t rfl (fr.ev rfl) (fr.ev rfl)) ?_
  clear fr a; intro a fr
  refine fx_val (v := .bool true) fr rfl rfl (by first | decide | simp) (x_move rfl (fr.ev rfl)) ?_
  clear fr a; intro a fr
  refine fx_val (v := .slice A16 1 ac17) fr (fr.want rfl rfl rfl) rfl (by first | decide | simp) (x_move rfl (fr.ev rfl)) ?_
  clear fr a; intro a fr
  obtain ⟨g26, o27, hA28⟩ := (O19.view).some_ (by first | omega | decide)
  refine fx_val (v := .pointer (some ⟨g26, o27 + 0 * 20, none⟩)) fr (fr.want rfl rfl rfl) rfl (by first | decide | simp) (x_indexV Try.underlying23 sz36 rfl (fr.ev rfl) hA28 rfl (by decide) rfl) ?_
  clear fr a; intro a fr
  refine fx_val (v := .pointer (some ⟨g26, o27 + 0 * 20, none⟩)) fr (fr.want rfl rfl rfl) rfl (by first | decide | simp) (x_fieldAddr fo36_0 rfl (fr.ev rfl) rfl) ?_
  clear fr a; intro a fr
  refine fx_val (v := .int .i64 9) fr (fr.want rfl rfl rfl) rfl (by first | decide | simp) (x_load1 pl33 rfl (fr.ev rfl) (range_cell ((O19.view).elem hA28 0 msg0 (by first | omega | decide)) 0 rfl rfl)) ?_
  clear fr a; intro a fr
  refine fx_val (v := .bool true) fr (fr.want rfl rfl rfl) rfl (by first | decide | simp) (x_eql rfl (fr.ev rfl) rfl rfl) ?_
  clear fr a; intro a fr
  refine fx_val (v := .bool true) fr rfl rfl (by first | decide | simp) (x_pick_t rfl (fr.ev rfl) (fr.ev rfl)) ?_
  clear fr a; intro a fr
  refine fx_val (v := .bool true) fr rfl rfl (by first | decide | simp) (x_move rfl (fr.ev rfl)) ?_
  clear fr a; intro a fr
  refine fx_val (v := .slice A16 1 ac17) fr (fr.want rfl rfl rfl) rfl (by first | decide | simp) (x_move rfl (fr.ev rfl)) ?_
  clear fr a; intro a fr
  refine fx_val (v := .pointer (some ⟨g26, o27 + 0 * 20, none⟩)) fr (fr.want rfl rfl rfl) rfl (by first | decide | simp) (x_indexV Try.underlying23 sz36 rfl (fr.ev rfl) hA28 rfl (by decide) rfl) ?_
  clear fr a; intro a fr
  refine fx_val (v := .pointer (some ⟨g26, o27 + 0 * 20 + 2, none⟩)) fr (fr.want rfl rfl rfl) rfl (by first | decide | simp) (x_fieldAddr fo36_2 rfl (fr.ev rfl) rfl) ?_
  clear fr a; intro a fr
  refine fx_val (v := .int .i64 2) fr (fr.want rfl rfl rfl) rfl (by first | decide | simp) (x_load1 pl3 rfl (fr.ev rfl) (range_cell ((O19.view).elem hA28 0 msg0 (by first | omega | decide)) 2 rfl rfl)) ?_
  clear fr a; intro a fr
  refine fx_val (v := .bool true) fr (fr.want rfl rfl rfl) rfl (by first | decide | simp) (x_eql rfl (fr.ev rfl) rfl rfl) ?_
  clear fr a; intro a fr
  refine fx_val (v := .bool true) fr rfl rfl (by first | decide | simp) (x_pick_t rfl (fr.ev rfl) (fr.ev rfl)) ?_
  clear fr a; intro a fr
  refine fx_val (v := .bool true) fr rfl rfl (by first | decide | simp) (x_move rfl (fr.ev rfl)) ?_
  clear fr a; intro a fr
  refine fx_val (v := .pointer (some ⟨hb10, 0, none⟩)) fr (fr.want rfl rfl rfl) rfl (by first | decide | simp) (x_move rfl (fr.ev rfl)) ?_
  clear fr a; intro a fr
  refine fx_call fr (fr.want rfl rfl rfl) rfl (by first | decide | simp) (x_call (vs := [.pointer (some ⟨hb10, 0, none⟩)]) rfl rfl ⟨(fr.ev rfl), trivial⟩ Try.func10 nm10 rfl) (lines_h H21) ?_
  clear fr a
  rintro v w9 ⟨rfl, hw9⟩ a fr
  obtain rfl := hw9.symm
  refine fx_val (v := .bool true) fr (fr.want rfl rfl rfl) rfl (by first | decide | simp) (x_eql rfl (fr.ev rfl) rfl (decide_eq_true (by rw [hk3]; rfl))) ?_
  clear fr a; intro a fr
  refine fx_val (v := .bool true) fr rfl rfl (by first | decide | simp) (x_pick_t rfl (fr.ev rfl) (fr.ev rfl)) ?_
  clear fr a; intro a fr
  refine fx_val (v := .bool true) fr rfl rfl (by first | decide | simp) (x_assign rfl (fr.ev rfl)) ?_
  clear fr a; intro a fr
  refine wpList_nil ?_
  refine fx_next ?_
  refine wp_ret ?_
  refine fx_ret fr [.tmp 0] [.bool true] rfl ⟨rfl, trivial⟩ rfl ?_
  exact ⟨_, rfl, rfl, hF⟩
end Go.Proofs.Ytdiaemlgghfecaa
namespace Go.Proofs.Ytdiaemlgghfecaa
open Go.RowKit
def byE : Enc Try.prog UInt8 where
  T := 5
  n := 1
  cells := fun x => [u8v x]
  len := fun _ => rfl
  one := fun x v hv => by
    simp at hv
    subst hv
    rfl
  pos := by decide
theorem elBy : ElemI byE 22 1 := ⟨Try.underlying22, by
  obtain ⟨i0, hi, hz0, hz1, hz2⟩ := info_parts (show (Try.prog.info? 5).map (fun i => (i.zero, i.size, i.bytes)) = some (some (.int .u8 0), 1, 1) by kernel_rfl)
  exact ⟨i0, _, hi, hz0, hz1, hz2, rfl⟩⟩
theorem by_flat (bs : List UInt8) : bs.flatMap byE.cells = bs.map u8v := by
  induction bs with
  | nil => rfl
  | cons x r ih => rw [List.flatMap_cons, ih]; rfl
structure Hact where
  cache : Int
  line : Int
  kind : Int
  byte : Int
  hb : 0 ≤ byte ∧ byte < 256
theorem Hact.ext_iff' (m m' : Hact) : m = m' ↔ m.cache = m'.cache ∧ m.line = m'.line ∧ m.kind = m'.kind ∧ m.byte = m'.byte := by
  constructor
  · rintro rfl; simp
  · rintro ⟨h1, h2, h3, h4⟩
    cases m; cases m'
    simp only [Hact.mk.injEq]
    exact ⟨h1, h2, h3, h4⟩
instance : DecidableEq Hact := fun s t => decidable_of_iff _ (Hact.ext_iff' s t).symm
def Hact.cells (q : Hact) : List Value := [.int .i64 q.cache, .int .i64 q.line, .int .i64 q.kind, .int .u8 q.byte]
structure EC where
  o : Int
  sh : Sh
  busy : Bool
  asks : Int
  kind : Int
  waits : Int
  told : Bool
  A : Option Addr
  n : Nat
  c : Nat
  deriving DecidableEq
def EC.cells (x : EC) : List Value := [.int .i64 x.o, .bool x.sh.a, .bool x.sh.b, .bool x.sh.c, .bool x.sh.d, .bool x.busy, .int .i64 x.asks, .int .i64 x.kind, .int .i64 x.waits, .bool x.told, .slice x.A x.n x.c]
def ecE : Enc Try.prog EC where
  T := 42
  n := 11
  cells := EC.cells
  len := fun q => rfl
  one := fun q v hv => by
    simp only [EC.cells, List.mem_cons, List.mem_nil_iff, or_false] at hv
    rcases hv with rfl | rfl | rfl | rfl | rfl | rfl | rfl | rfl | rfl | rfl | rfl <;> rfl
  pos := by decide
def ec0 : EC := ⟨-1, sh0, false, 0, 0, 0, false, none, 0, 0⟩
def ecz : EC := ⟨0, sh0, false, 0, 0, 0, false, none, 0, 0⟩
theorem elEc : ElemI ecE 26 72 := ⟨Try.underlying26, by
  obtain ⟨i0, hi, hz0, hz1, hz2⟩ := info_parts (show (Try.prog.info? 42).map (fun i => (i.zero, i.size, i.bytes)) = some (some (.agg (ecE.arr ecz)), 11, 72) by kernel_rfl)
  exact ⟨i0, _, hi, hz0, hz1, hz2, by rw [show (Value.agg (ecE.arr ecz)).cells = ecE.arr ecz from rfl, ecE.size]⟩⟩
def ecOf (d : Ent) (A : Option Addr) (c : Nat) : EC := ⟨d.o, d.sh, d.busy, d.asks, d.kind, d.waits, d.told, A, d.q.length, c⟩
structure RefAt (w : World) (F : Nat → Prop) (A : Option Addr) (cap : Nat) (B : Option Addr) (cb : Nat) (h : HD) (X : List EC) : Prop where
  vb : View byE w A cap h.bs
  ve : View ecE w B cb X
  len : X.length = h.E.length
  at_ : ∀ i, i < X.length → ∃ Q qc, X.getD i ec0 = ecOf (entOf h.E i) Q qc ∧ View msgE w Q qc (entOf h.E i).q ∧ ∀ g, inA Q g → F g
  fa : ∀ g, inA A g → F g
  fb : ∀ g, inA B g → F g
  lt : ∀ {g}, F g → g < w.heap.size
section
variable {w w' : World} {F S : Nat → Prop} {A B : Option Addr} {cap cb : Nat} {h : HD} {X : List EC}
theorem RefAt.only (H : RefAt w F A cap B cb h X) (k : Only S w w') (hs : ∀ g, F g → ¬ S g) : RefAt w' F A cap B cb h X :=
  ⟨H.vb.only k fun g hg => hs g (H.fa g hg), H.ve.only k fun g hg => hs g (H.fb g hg), H.len, fun i hi => by
    obtain ⟨Q, qc, h1, h2, h3⟩ := H.at_ i hi
    exact ⟨Q, qc, h1, h2.only k fun g hg => hs g (h3 g hg), h3⟩, H.fa, H.fb, fun hg => Nat.lt_of_lt_of_le (H.lt hg) k.size⟩
theorem RefAt.new (H : RefAt w F A cap B cb h X) (k : New w w') : RefAt w' F A cap B cb h X := H.only k fun _ _ => id
theorem RefAt.apart (H : RefAt w F A cap B cb h X) {c : Nat} (hc : w.heap.size ≤ c) : ¬ F c := fun hi => by have := H.lt hi; omega
end
end Go.Proofs.Ytdiaemlgghfecaa
namespace Go.Proofs.Ytdiaemlgghfecaa
open Go.RowKit
structure EI (n : Int) (d : Ent) : Prop where
  ok : EOk n d
  apart : 0 ≤ d.o → d.sh = sh0
  idle : d.busy = false → d.waits = 0 ∧ d.told = false
theorem nb {b : Bool} {P : Prop} (h : b = true) (h' : b = false) : P := by rw [h] at h'; cases h'
theorem pO : -1 ≤ (-1 : Int) ∧ (-1 : Int) < 4 := by decide
theorem pW0 : 0 ≤ (0 : Int) ∧ (0 : Int) ≤ 4 := by decide
theorem pW1 : 0 ≤ (1 : Int) ∧ (1 : Int) ≤ 4 := by decide
theorem pN : ¬ 0 ≤ (-1 : Int) := by decide
theorem EI.ent0 (n : Int) : EI n ent0 := ⟨ent0_ok n, fun h => absurd h (by decide), fun _ => ⟨rfl, rfl⟩⟩
structure ROk (n : Int) (m : Msg) : Prop where
  kind : 1 ≤ m.kind ∧ m.kind ≤ 3
  src : 0 ≤ m.src ∧ m.src < 4
  line : m.line = n
theorem EOk.rest {n : Int} {d : Ent} (h : EOk n d) : ∀ m ∈ d.q, ROk n m := fun m hm => by
  obtain ⟨a, b, c, e, f⟩ := h.q m hm
  exact ⟨⟨a, b⟩, ⟨c, e⟩, f⟩
theorem leave_ok {n : Int} {d : Ent} {r : Int} (h : EI n d) : EI n (leaveF d r) := by
  unfold leaveF
  split
  · exact ⟨⟨h.ok.asks, h.ok.told, pO, h.ok.q, h.ok.waits, h.ok.kind⟩, fun h' => absurd h' pN, h.idle⟩
  · exact h
theorem begin_ei {n : Int} {d : Ent} {bs : List UInt8} {m : Msg} (h : EI n d) (_hb : d.busy = false) (hm : ROk n m) : EI n (beginF bs d m).1 := by
  have hl := leave_ok (r := m.src) h
  by_cases h3 : m.kind = 3
  · rw [begin_put h3]; exact hl
  have hk12 : m.kind = 1 ∨ m.kind = 2 := by have := hm.kind; omega
  have own : EI n (busyF (ownF (leaveF d m.src) m.src) m 0 true) := ⟨⟨hm.src, fun _ => rfl, (by show -1 ≤ m.src ∧ m.src < 4; have := hm.src; omega), hl.ok.q, pW0, fun _ => hk12⟩, fun _ => rfl, fun h => (by cases h)⟩
  by_cases h0 : 0 ≤ (leaveF d m.src).o
  · have : EI n (busyF (leaveF d m.src) m 1 false) := ⟨⟨hm.src, fun h => (by cases h), hl.ok.own, hl.ok.q, pW1, fun _ => hk12⟩, hl.apart, fun h => (by cases h)⟩
    rcases hk12 with hk | hk
    · rw [begin_s1 hk h0]; exact this
    · rw [begin_m1 hk h0]; exact this
  rcases hk12 with hk | hk
  · by_cases h1 : 0 < (othersF (leaveF d m.src).sh m.src).length
    · rw [begin_s2 hk h0 h1]
      exact ⟨⟨hm.src, fun _ => rfl, hl.ok.own, hl.ok.q, pW0, fun _ => .inl hk⟩, fun h => absurd h h0, fun h => (by cases h)⟩
    · rw [begin_s3 hk h0 h1]; exact own
  · by_cases h1 : (othersF (leaveF d m.src).sh m.src).length = 0
    · rw [begin_m3 hk h0 h1]; exact own
    · rw [begin_m2 hk h0 h1]
      have := othK_len (leaveF d m.src).sh m.src 4
      exact ⟨⟨hm.src, fun h => (by cases h), hl.ok.own, hl.ok.q, (by show 0 ≤ (((othersF (leaveF d m.src).sh m.src).length : Nat) : Int) ∧ (((othersF (leaveF d m.src).sh m.src).length : Nat) : Int) ≤ 4; unfold othersF; omega), fun _ => .inr hk⟩, fun h => absurd h h0, fun h => (by cases h)⟩
theorem drain_cons {m : Msg} {r : List Msg} {bs : List UInt8} {d : Ent} : drainF (m :: r) bs d = if d.busy then ({ d with q := m :: r }, bs, []) else ((drainF r (beginF bs { d with q := r } m).2.1 (beginF bs { d with q := r } m).1).1, (drainF r (beginF bs { d with q := r } m).2.1 (beginF bs { d with q := r } m).1).2.1, (beginF bs { d with q := r } m).2.2 ++ (drainF r (beginF bs { d with q := r } m).2.1 (beginF bs { d with q := r } m).1).2.2) := by
  rw [drainF]
theorem EI.queue {n : Int} {d : Ent} (h : EI n d) (q : List Msg) (hq : ∀ m ∈ q, ROk n m) : EI n { d with q := q } :=
  ⟨⟨h.ok.asks, h.ok.told, h.ok.own, fun m hm => (⟨(hq m hm).kind.1, (hq m hm).kind.2, (hq m hm).src.1, (hq m hm).src.2, (hq m hm).line⟩), h.ok.waits, h.ok.kind⟩, h.apart, h.idle⟩
abbrev NoQ (d : Ent) : Prop := d.busy = false → d.q = []
theorem drain_ei {n : Int} : ∀ (q : List Msg) (bs : List UInt8) (d : Ent), EI n d → (∀ m ∈ q, ROk n m) → EI n (drainF q bs d).1 ∧ NoQ (drainF q bs d).1 ∧ (drainF q bs d).1.q.length ≤ q.length
  | [], bs, d, h, hq => ⟨h.queue [] hq, fun _ => rfl, Nat.le_refl _⟩
  | m :: r, bs, d, h, hq => by
    have hr : ∀ x ∈ r, ROk n x := fun x hx => hq x (List.mem_cons_of_mem _ hx)
    rw [drain_cons]
    cases hb : d.busy with
    | true =>
      rw [if_pos rfl]
      refine ⟨?_, fun h' => ?_, Nat.le_refl _⟩
      · have := h.queue (m :: r) hq
        rwa [hb] at this
      · cases h'
    | false =>
      rw [if_neg (by decide)]
      have hb1 := begin_ei (bs := bs) (m := m) (h.queue r hr) (show ({ d with q := r } : Ent).busy = false from hb) (hq m (List.mem_cons_self ..))
      rw [hb] at hb1
      obtain ⟨i1, i2, i3⟩ := drain_ei r (beginF bs { o := d.o, sh := d.sh, busy := false, asks := d.asks, kind := d.kind, waits := d.waits, told := d.told, q := r } m).2.1 _ hb1 hr
      exact ⟨i1, i2, by simp only [List.length_cons]; omega⟩
theorem other_ei {n : Int} {d : Ent} {bs : List UInt8} {m : Msg} (h : EI n d) (hs : strayF d m = false) (hk : m.kind = 11 ∨ m.kind = 12 ∨ m.kind = 13) : EI n (otherF bs d m).1 ∧ NoQ (otherF bs d m).1 ∧ (otherF bs d m).1.q.length ≤ d.q.length := by
  have hbusy : d.busy = true := by
    unfold strayF at hs
    cases hb : d.busy
    · rw [hb] at hs; simp at hs
    · rfl
  rcases hk with hk | hk | hk
  · by_cases h1 : d.kind = 1
    · rw [other_b1 hk h1]
      exact ⟨⟨⟨h.ok.asks, fun _ => rfl, pO, h.ok.q, pW0, h.ok.kind⟩, fun h' => absurd h' pN, fun h' => nb hbusy h'⟩, fun h' => nb hbusy h', Nat.le_refl _⟩
    · rw [other_b2 hk h1]
      exact ⟨⟨⟨h.ok.asks, fun _ => rfl, (by show -1 ≤ d.asks ∧ d.asks < 4; have := h.ok.asks; omega), h.ok.q, pW0, h.ok.kind⟩, fun _ => rfl, fun h' => nb hbusy h'⟩, fun h' => nb hbusy h', Nat.le_refl _⟩
  · have hw := h.ok.waits
    simp [strayF, hk] at hs
    obtain ⟨⟨-, h1⟩, ⟨h2, h3⟩, h4⟩ := hs
    by_cases h1 : d.waits = 1
    · rw [other_a1 hk h1]
      exact ⟨⟨⟨h.ok.asks, fun _ => rfl, (by show -1 ≤ d.asks ∧ d.asks < 4; have := h.ok.asks; omega), h.ok.q, pW0, h.ok.kind⟩, fun _ => rfl, fun h' => nb hbusy h'⟩, fun h' => nb hbusy h', Nat.le_refl _⟩
    · rw [other_a2 hk h1]
      exact ⟨⟨⟨h.ok.asks, fun ht => (by have := h.ok.told ht; omega), h.ok.own, h.ok.q, (by show 0 ≤ d.waits - 1 ∧ d.waits - 1 ≤ 4; omega), h.ok.kind⟩, fun h' => absurd h' (by show ¬ 0 ≤ d.o; omega), fun h' => nb hbusy h'⟩, fun h' => nb hbusy h', Nat.le_refl _⟩
  · rw [other_d hk]
    have h' : EI n { d with busy := false, asks := 0, kind := 0, waits := 0, told := false } := ⟨⟨by show (0 : Int) ≤ 0 ∧ (0 : Int) < 4; decide, fun _ => rfl, h.ok.own, h.ok.q, (by show (0 : Int) ≤ 0 ∧ (0 : Int) ≤ 4; decide), fun h => (by cases h)⟩, h.apart, fun _ => ⟨rfl, rfl⟩⟩
    exact drain_ei d.q bs _ h' h.ok.rest
theorem take_cases (h : HD) (m : Msg) : (∃ e, takeH h m = (h, [], e) ∧ e ≠ 0) ∨
    (chk m = 0 ∧ m.dst = 4 ∧ (0 ≤ m.src ∧ m.src < 4) ∧ m.line.toNat < h.E.length ∧ m.line = ((m.line.toNat : Nat) : Int) ∧
      ∃ x : Ent × List UInt8 × List Msg, takeH h m = (⟨x.2.1, h.E.set m.line.toNat x.1⟩, x.2.2, 0) ∧
        ((1 ≤ m.kind ∧ m.kind ≤ 3 ∧ (entOf h.E m.line.toNat).busy = true ∧ x = ({ entOf h.E m.line.toNat with q := (entOf h.E m.line.toNat).q ++ [m] }, h.bs, [])) ∨
         (1 ≤ m.kind ∧ m.kind ≤ 3 ∧ (entOf h.E m.line.toNat).busy = false ∧ x = beginF h.bs (entOf h.E m.line.toNat) m) ∨
         ((m.kind = 11 ∨ m.kind = 12 ∨ m.kind = 13) ∧ strayF (entOf h.E m.line.toNat) m = false ∧ x = otherF h.bs (entOf h.E m.line.toNat) m))) := by
  have hmn := m.hn
  by_cases h0 : chk m ≠ 0 ∨ m.dst ≠ 4
  · exact .inl ⟨2, by unfold takeH; rw [if_pos h0], by decide⟩
  by_cases h3 : (h.E.length : Int) ≤ m.line
  · exact .inl ⟨4, by unfold takeH; rw [if_neg h0, if_pos h3], by decide⟩
  have h1 : chk m = 0 := Decidable.not_not.1 fun h => h0 (.inl h)
  have h2 : m.dst = 4 := Decidable.not_not.1 fun h => h0 (.inr h)
  obtain ⟨hhome, hsrc⟩ := chk_home h1 h2
  unfold homeK at hhome
  simp only [Bool.or_eq_true, decide_eq_true_eq] at hhome
  have hT : takeH h m = if m.kind ≤ 3 then (if (entOf h.E m.line.toNat).busy then (⟨h.bs, h.E.set m.line.toNat { entOf h.E m.line.toNat with q := (entOf h.E m.line.toNat).q ++ [m] }⟩, [], 0) else (⟨(beginF h.bs (entOf h.E m.line.toNat) m).2.1, h.E.set m.line.toNat (beginF h.bs (entOf h.E m.line.toNat) m).1⟩, (beginF h.bs (entOf h.E m.line.toNat) m).2.2, 0)) else if strayF (entOf h.E m.line.toNat) m then (h, [], 220) else (⟨(otherF h.bs (entOf h.E m.line.toNat) m).2.1, h.E.set m.line.toNat (otherF h.bs (entOf h.E m.line.toNat) m).1⟩, (otherF h.bs (entOf h.E m.line.toNat) m).2.2, 0) := by
    unfold takeH
    rw [if_neg h0, if_neg h3]
    rfl
  by_cases hk : m.kind ≤ 3
  · rw [hT, if_pos hk]
    refine .inr ⟨h1, h2, hsrc, by omega, by omega, ?_⟩
    cases hb : (entOf h.E m.line.toNat).busy with
    | true => exact ⟨({ entOf h.E m.line.toNat with q := (entOf h.E m.line.toNat).q ++ [m] }, h.bs, []), by rw [if_pos rfl], .inl ⟨by omega, hk, rfl, rfl⟩⟩
    | false => exact ⟨beginF h.bs (entOf h.E m.line.toNat) m, by rw [if_neg (by decide)], .inr (.inl ⟨by omega, hk, rfl, rfl⟩)⟩
  · rw [hT, if_neg hk]
    cases hs : strayF (entOf h.E m.line.toNat) m with
    | true => exact .inl ⟨220, by rw [if_pos rfl], by decide⟩
    | false => exact .inr ⟨h1, h2, hsrc, by omega, by omega, otherF h.bs (entOf h.E m.line.toNat) m, by rw [if_neg (by decide)], .inr (.inr ⟨by omega, rfl, rfl⟩)⟩
def HI (k : Nat) (h : HD) : Prop := h.E.length = h.bs.length / 16 ∧ ∀ n, n < h.E.length → EI (n : Int) (entOf h.E n) ∧ NoQ (entOf h.E n) ∧ (entOf h.E n).q.length ≤ k
theorem HI.home0 (bs : List UInt8) : HI 0 (home0 bs) := ⟨by simp [Go.Proofs.Ytdiaemlgghfecaa.home0], fun n _ => by
  rw [show entOf (Go.Proofs.Ytdiaemlgghfecaa.home0 bs).E n = Go.Proofs.Ytdiaemlgghfecaa.ent0 from entOf_rep _ _]
  exact ⟨EI.ent0 _, fun _ => rfl, Nat.le_refl _⟩⟩
theorem HI.ok {k : Nat} {h : HD} (hi : HI k h) (hk : k ≤ 100000) : HOk h := fun n hn => ⟨(hi.2 n hn).1.ok, Nat.le_trans (hi.2 n hn).2.2 hk⟩
theorem HI.mono {k k' : Nat} {h : HD} (hi : HI k h) (hk : k ≤ k') : HI k' h := ⟨hi.1, fun n hn => ⟨(hi.2 n hn).1, (hi.2 n hn).2.1, Nat.le_trans (hi.2 n hn).2.2 hk⟩⟩
theorem HI.put {k k' : Nat} {h : HD} (hi : HI k h) (hk : k ≤ k') {n : Nat} (hn : n < h.E.length) {x : Ent × List UInt8 × List Msg} (hl : x.2.1.length = h.bs.length) (he : EI (n : Int) x.1 ∧ NoQ x.1 ∧ x.1.q.length ≤ k') : HI k' ⟨x.2.1, h.E.set n x.1⟩ :=
  ⟨by show (h.E.set n x.1).length = x.2.1.length / 16; rw [List.length_set, hl, hi.1], fun i hI => by
    rw [List.length_set] at hI
    show EI (i : Int) (entOf (h.E.set n x.1) i) ∧ NoQ (entOf (h.E.set n x.1) i) ∧ (entOf (h.E.set n x.1) i).q.length ≤ k'
    rw [entOf_set hn]
    split
    · rename_i h; subst h; exact he
    · exact ⟨(hi.2 i hI).1, (hi.2 i hI).2.1, Nat.le_trans (hi.2 i hI).2.2 hk⟩⟩
theorem take_ei {k : Nat} {h : HD} {m : Msg} (hi : HI k h) (hsrc : 0 ≤ m.src ∧ m.src < 4) (hn : m.line.toNat < h.E.length) (hmn : m.line = ((m.line.toNat : Nat) : Int)) {x : Ent × List UInt8 × List Msg} (hx : (1 ≤ m.kind ∧ m.kind ≤ 3 ∧ (entOf h.E m.line.toNat).busy = true ∧ x = ({ entOf h.E m.line.toNat with q := (entOf h.E m.line.toNat).q ++ [m] }, h.bs, [])) ∨
         (1 ≤ m.kind ∧ m.kind ≤ 3 ∧ (entOf h.E m.line.toNat).busy = false ∧ x = beginF h.bs (entOf h.E m.line.toNat) m) ∨
         ((m.kind = 11 ∨ m.kind = 12 ∨ m.kind = 13) ∧ strayF (entOf h.E m.line.toNat) m = false ∧ x = otherF h.bs (entOf h.E m.line.toNat) m)) : EI (m.line.toNat : Int) x.1 ∧ NoQ x.1 ∧ x.1.q.length ≤ k + 1 ∧ x.2.1.length = h.bs.length := by
  obtain ⟨e1, e2, e3⟩ := hi.2 _ hn
  rcases hx with ⟨a, b, c, rfl⟩ | ⟨a, b, c, rfl⟩ | ⟨a, b, rfl⟩
  · refine ⟨e1.queue _ fun y hy => ?_, fun h' => ?_, ?_, rfl⟩
    · rw [List.mem_append] at hy
      rcases hy with hy | hy
      · exact e1.ok.rest y hy
      · simp at hy; subst hy; exact ⟨⟨a, b⟩, hsrc, hmn⟩
    · rw [show (entOf h.E m.line.toNat).busy = false from h'] at c; cases c
    · show ((entOf h.E m.line.toNat).q ++ [m]).length ≤ _
      simp; omega
  · refine ⟨begin_ei e1 c ⟨⟨a, b⟩, hsrc, hmn⟩, fun h' => ?_, ?_, begin_bs⟩
    · rw [begin_q]; exact e2 c
    · rw [begin_q]; omega
  · obtain ⟨f1, f2, f3⟩ := other_ei (bs := h.bs) e1 b a
    exact ⟨f1, f2, by omega, other_bs⟩
theorem HI.take {k : Nat} {h : HD} (hi : HI k h) (m : Msg) : HI (k + 1) (takeH h m).1 := by
  rcases take_cases h m with ⟨e, he, _⟩ | ⟨_, _, hsrc, hn, hmn, x, hx, hc⟩
  · rw [he]; exact hi.mono (Nat.le_succ _)
  · rw [hx]
    obtain ⟨f1, f2, f3, f4⟩ := take_ei hi hsrc hn hmn hc
    exact hi.put (Nat.le_succ _) hn f4 ⟨f1, f2, f3⟩
theorem take_len (h : HD) (m : Msg) : (takeH h m).1.E.length = h.E.length := by
  rcases take_cases h m with ⟨e, he, _⟩ | ⟨_, _, hsrc, hn, hmn, x, hx, hc⟩
  · rw [he]
  · rw [hx]; exact List.length_set
theorem take_refused {h : HD} {m : Msg} (he : (takeH h m).2.2 ≠ 0) : (takeH h m).1 = h := by
  rcases take_cases h m with ⟨e, he, _⟩ | ⟨_, _, hsrc, hn, hmn, x, hx, hc⟩
  · rw [he]
  · rw [hx] at he; exact absurd rfl he
def pickAt (pick : Int) (n : Nat) : Nat := (Int.tmod (Int.tmod pick n + n) n).toNat
theorem tmod_bd (p : Int) (n : Nat) (h : 0 < n) : -(n : Int) < Int.tmod p n ∧ Int.tmod p n < n := by
  have h1 := Int.tmod_lt_of_pos p (show (0 : Int) < n by omega)
  have h2 := Int.lt_tmod_of_pos p (show (0 : Int) < n by omega)
  omega
theorem pickAt_eq (p : Int) (n : Nat) (h : 0 < n) : Int.tmod (Int.tmod p n + n) n = ((pickAt p n : Nat) : Int) := by
  have h1 := tmod_bd p n h
  have h2 : 0 ≤ Int.tmod (Int.tmod p n + n) n := Int.tmod_nonneg _ (by omega)
  unfold pickAt
  omega
theorem pickAt_lt (p : Int) (n : Nat) (h : 0 < n) : pickAt p n < n := by
  have h1 := pickAt_eq p n h
  have h2 := (tmod_bd (Int.tmod p n + n) n h).2
  omega
theorem pick_neg {p : Int} {n : Nat} (h : 0 < n) (hn : Int.tmod p n < 0) : Int.tmod p n + n = ((pickAt p n : Nat) : Int) := by
  have h1 := tmod_bd p n h
  rw [← pickAt_eq p n h]
  generalize Int.tmod p n = q at *
  exact (Int.tmod_eq_of_lt (by omega) (by omega)).symm
theorem pick_pos {p : Int} {n : Nat} (h : 0 < n) (hn : ¬ Int.tmod p n < 0) : Int.tmod p n = ((pickAt p n : Nat) : Int) := by
  have h1 := tmod_bd p n h
  rw [← pickAt_eq p n h]
  generalize Int.tmod p n = q at *
  rw [Int.tmod_eq_emod_of_nonneg (by omega), Int.add_emod_right]
  exact (Int.emod_eq_of_lt (by omega) (by omega)).symm
end Go.Proofs.Ytdiaemlgghfecaa
namespace Go.Proofs.Ytdiaemlgghfecaa
open Go.RowKit
theorem run_part_bool {P : Program} (w : World) {e : TypeId} (he : P.underlying e = some .bool) (cs : Array Value) (i : Nat) (v : Value) (h : cs[i]? = some v) : (part e cs i).run P w = .ok v w := by
  simp [part, isAgg, run_underlying he, h]
theorem run_equalIn_bool {P : Program} (w : World) (d : Nat) (t : TypeId) (a b : Bool) (h : P.underlying t = some .bool) : (Op.equalIn (d + 1) t (.bool a) (.bool b)).run P w = .ok (a == b) w := by
  unfold Op.equalIn
  simp [run_underlying h]
theorem run_equal_bools {P : Program} (w : World) (d : Nat) {t e : TypeId} (ht : P.underlying t = some (.array 4 e)) (he : P.underlying e = some .bool) (hs : (P.info? e).map (·.size) = some 1) (s s' : Sh) :
    (Op.equalIn (d + 2) t (.agg #[.bool s.a, .bool s.b, .bool s.c, .bool s.d]) (.agg #[.bool s'.a, .bool s'.b, .bool s'.c, .bool s'.d])).run P w = .ok (decide (s = s')) w := by
  have hsz : (sizeOf e).run P w = .ok 1 w := by
    cases hq : P.info? e with
    | none => simp [hq] at hs
    | some i => simp [hq] at hs; simp [sizeOf, typeInfo, hq, hs]
  have hb : ∀ x y, (Op.equalIn (d + 1) e (.bool x) (.bool y)).run P w = .ok (x == y) w := fun x y => run_equalIn_bool w d e x y he
  have p0 : ∀ a b c f, (part e #[.bool a, .bool b, .bool c, .bool f] 0).run P w = .ok (.bool a) w := fun _ _ _ _ => run_part_bool w he _ _ _ rfl
  have p1 : ∀ a b c f, (part e #[.bool a, .bool b, .bool c, .bool f] 1).run P w = .ok (.bool b) w := fun _ _ _ _ => run_part_bool w he _ _ _ rfl
  have p2 : ∀ a b c f, (part e #[.bool a, .bool b, .bool c, .bool f] 2).run P w = .ok (.bool c) w := fun _ _ _ _ => run_part_bool w he _ _ _ rfl
  have p3 : ∀ a b c f, (part e #[.bool a, .bool b, .bool c, .bool f] 3).run P w = .ok (.bool f) w := fun _ _ _ _ => run_part_bool w he _ _ _ rfl
  obtain ⟨a, b, c, f⟩ := s
  obtain ⟨a', b', c', f'⟩ := s'
  unfold Op.equalIn
  simp only [Sem.run_bind, run_underlying ht, Result.andThen_ok, hsz, Nat.mul_one]
  rw [Std.Legacy.Range.forIn_eq_forIn_range']
  have e1 : (List.range' (Std.Legacy.Range.mk 0 4 1 (by decide)).start (Std.Legacy.Range.mk 0 4 1 (by decide)).size (Std.Legacy.Range.mk 0 4 1 (by decide)).step) = [0, 1, 2, 3] := by
    simp [Std.Legacy.Range.size]
    decide
  rw [e1]
  by_cases h1 : a = a' <;> by_cases h2 : b = b' <;> by_cases h3 : c = c' <;> by_cases h4 : f = f' <;> simp [h1, h2, h3, h4, hb, p0, p1, p2, p3, Sem.run_bind]
theorem sizeBool : (Try.prog.info? 4).map (·.size) = some 1 := by kernel_rfl
theorem x_eqSh {w : World} {ev : Operand → Value} {o : Oper} {x y : Operand} {T' : TypeId} (ho : o.op = .binOp .eql 40 x y T') {s s' : Sh} (hx : ev x = .agg #[.bool s.a, .bool s.b, .bool s.c, .bool s.d]) (hy : ev y = .agg #[.bool s'.a, .bool s'.b, .bool s'.c, .bool s'.d]) {b : Bool} (hb : decide (s = s') = b) : (execOp ev o).run Try.prog w = .ok (.value (.bool b)) w := by
  subst hb
  exact x_eq_of ho hx hy (run_eqGuard_calm _ _ _ _ _ (by kernel_rfl)) rfl (run_equal_bools (P := Try.prog) w 9998 Try.underlying40 Try.underlying4 sizeBool s s')
theorem Ent.eq_iff (d d' : Ent) : d = d' ↔ d.o = d'.o ∧ d.sh = d'.sh ∧ d.busy = d'.busy ∧ d.asks = d'.asks ∧ d.kind = d'.kind ∧ d.waits = d'.waits ∧ d.told = d'.told ∧ d.q = d'.q := by
  constructor
  · rintro rfl; simp
  · rintro ⟨h1, h2, h3, h4, h5, h6, h7, h8⟩
    cases d; cases d'
    simp_all
theorem View.addr {P : Program} {α : Type} [DecidableEq α] {E : Enc P α} {w : World} {A : Option Addr} {c : Nat} {l : List α} (h : View E w A c l) (hl : 0 < l.length) : ∃ b o, A = some ⟨b, o, none⟩ ∧ w.rangeAt b o (l.flatMap E.cells) := by
  obtain ⟨h1, h2, ⟨h3, h4⟩ | ⟨g, o, rfl, _, hr⟩⟩ := h
  · omega
  · exact ⟨g, o, rfl, hr⟩
theorem imgof_no {A : Option Addr} {c : Nat} {bs : List UInt8} (h : okSize (bs.length : Int) = false) (w : World) : Calls Try.prog 25 #[.slice A bs.length c] w (Ret fun v w' => v = .tuple #[.pointer none, .int .i64 2] ∧ w' = w) :=
  (of_no _ A bs.length c rfl w h).mono fun _ _ ⟨h1, h2⟩ => ⟨_, h1, rfl, h2.symm⟩
theorem imgof_yes {w : World} {A : Option Addr} {c : Nat} {bs : List UInt8} (hV : View byE w A c bs) (h : okSize (bs.length : Int) = true) : Calls Try.prog 25 #[.slice A bs.length c] w (Ret fun v w' => ∃ b g cap, v = .tuple #[.pointer (some ⟨b, 0, none⟩), .int .i64 0] ∧ Img 0 w' b g cap bs ∧ w.heap.size ≤ b ∧ w.heap.size ≤ g ∧ NE b g ∧ New w w') := by
  have hr := okSize_range h
  obtain ⟨b, o, rfl, hc⟩ := hV.addr (by omega)
  rw [by_flat] at hc
  exact (of_yes b o bs.length c bs w rfl hc h).mono fun _ _ ⟨b, g, cap, h1, h2, h3⟩ => ⟨_, h1, b, g, cap, rfl, h2.mono (Nat.zero_le _), h2.hb, h2.hg, h2.ne, h3⟩
def sizeB (bs : List UInt8) : Bool := okSize (bs.length : Int) && decide (bs.length ≤ 128)
def RefH (w : World) (F : Nat → Prop) (A : Option Addr) (cap : Nat) (B : Option Addr) (cb : Nat) (h : HD) : Prop := ∃ X, RefAt w F A cap B cb h X
section
variable {w w' : World} {F S : Nat → Prop} {A B : Option Addr} {cap cb : Nat} {h : HD}
theorem RefH.only (H : RefH w F A cap B cb h) (k : Only S w w') (hs : ∀ g, F g → ¬ S g) : RefH w' F A cap B cb h := by
  obtain ⟨X, H⟩ := H
  exact ⟨X, H.only k hs⟩
theorem RefH.new (H : RefH w F A cap B cb h) (k : New w w') : RefH w' F A cap B cb h := H.only k fun _ _ => id
theorem RefH.lt (H : RefH w F A cap B cb h) {g : Nat} (hg : F g) : g < w.heap.size := by
  obtain ⟨X, H⟩ := H
  exact H.lt hg
theorem RefH.apart (H : RefH w F A cap B cb h) {c : Nat} (hc : w.heap.size ≤ c) : ¬ F c := fun hi => by have := H.lt hi; omega
end
theorem ref_new {w : World} {A B : Option Addr} {cap cb : Nat} {bs : List UInt8} (hv : View byE w A cap bs) (he : View ecE w B cb (List.replicate (bs.length / 16) ec0)) : RefH w (fun g => inA A g ∨ inA B g) A cap B cb (home0 bs) :=
  ⟨_, hv, he, by simp [home0], fun i hi => ⟨none, 0, by
    rw [show entOf (home0 bs).E i = ent0 from entOf_rep _ _]
    rw [List.length_replicate] at hi
    simp [List.getD, hi]
    rfl, by
    rw [show entOf (home0 bs).E i = ent0 from entOf_rep _ _]
    exact View.nil, fun g hg => absurd hg (apart_none g)⟩, fun g => .inl, fun g => .inr, fun hg => hg.elim (fun h => hv.lt h) (fun h => he.lt h)⟩
def B16.put (B : B16) (i : Nat) (b : Int) (hb : 0 ≤ b ∧ b < 256) : B16 := ⟨B.1.set i b, by rw [List.length_set]; exact B.2.1, fun a ha => by
  rcases List.mem_or_eq_of_mem_set ha with h | rfl
  · exact B.2.2 a h
  · exact hb⟩
def modF (p : Int) (n : Int) : Int := if n < 1 then 0 else ((pickAt p n.toNat : Nat) : Int)
theorem modF_nat (p : Int) (n : Nat) (h : 1 ≤ n) : ∃ k : Nat, modF p ((n : Nat) : Int) = ((k : Nat) : Int) ∧ k < n :=
  ⟨pickAt p n, by unfold modF; rw [if_neg (by omega), Int.toNat_natCast], pickAt_lt p n h⟩
theorem HI.all {k : Nat} {h : HD} (hi : HI k h) (hk : k ≤ 1000000) (n : Nat) : (entOf h.E n).q.length ≤ 1000000 := by
  by_cases hn : n < h.E.length
  · exact Nat.le_trans (hi.2 n hn).2.2 hk
  · have : entOf h.E n = ent0 := by unfold entOf; simp [List.getD, List.getElem?_eq_none (Nat.le_of_not_lt hn)]
    rw [this]
    exact Nat.zero_le _
theorem size_bd {bs : List UInt8} (h : sizeB bs = true) : 16 ≤ bs.length ∧ bs.length ≤ 128 := by
  simp only [sizeB, Bool.and_eq_true, decide_eq_true_eq] at h
  have := okSize_range h.1
  omega
end Go.Proofs.Ytdiaemlgghfecaa
namespace Go.Proofs.Ytdiaemlgghfecaa
open Go.RowKit
set_option maxRecDepth 100000 in
set_option maxHeartbeats 4000000 in
theorem msgs_c {w : World} {A B : Option Addr} {ca cb : Nat} {la lb : List Msg} (hV : View msgE w A ca la) (hW : View msgE w B cb lb) : Calls Try.prog 20 #[.slice A la.length ca, .slice B lb.length cb] w (Ret fun v w' => v = .bool (decide (la = lb)) ∧ New w w') := by
  have hVl := hV.len
  have hWl := hW.len
  unfold maxLen at hVl hWl
  have hF := Only.refl (fun _ => False) w
  refine fx_enter Try.func20 rfl (N := (26, [])) (T := [(0, .slice A la.length ca), (1, .slice B lb.length cb)]) rfl (show 2 ≤ 26 by decide) ⟨rfl, rfl, trivial⟩ fun a fr => ?_
  refine wp_seq ?_
  refine wp_region_lit ?_  -- region 0
  refine fx_val (v := .bool false) fr rfl rfl (by first | decide | simp) (x_assign rfl rfl) ?_
  clear fr a; intro a fr
  refine wpList_nil ?_
  refine fx_next ?_
  refine wp_seq ?_
  refine wp_seq ?_
  refine wp_region_lit ?_  -- region 1
  refine fx_val (v := .slice A la.length ca) fr rfl rfl (by first | decide | simp) (x_move rfl (fr.ev rfl)) ?_
  clear fr a; intro a fr
  refine fx_val (v := .int .i64 ((la.length : Nat) : Int)) fr rfl rfl (by first | decide | simp) (x_len Try.underlying23 rfl (fr.ev rfl)) ?_
  clear fr a; intro a fr
  refine fx_val (v := .slice B lb.length cb) fr rfl rfl (by first | decide | simp) (x_move rfl (fr.ev rfl)) ?_
  clear fr a; intro a fr
  refine fx_val (v := .int .i64 ((lb.length : Nat) : Int)) fr rfl rfl (by first | decide | simp) (x_len Try.underlying23 rfl (fr.ev rfl)) ?_
  clear fr a; intro a fr
  refine fx_val (v := .bool (decide (((la.length : Nat) : Int) ≠ ((lb.length : Nat) : Int)))) fr rfl rfl (by first | decide | simp) (x_neq rfl (fr.ev rfl) (fr.ev rfl) rfl) ?_
  clear fr a; intro a fr
  refine wpList_nil ?_
  refine fx_next ?_
  refine fx_cond fr rfl (fun hc1 => ?_) (fun hc1 => ?_)
  · skip
    have hc1 := of_decide_eq_true hc1
    refine wp_seq ?_
    refine wp_region_lit ?_  -- region 2
    refine fx_val (v := .bool false) fr rfl rfl (by first | decide | simp) (x_assign rfl rfl) ?_
    clear fr a; intro a fr
    refine wpList_nil ?_
    refine fx_next ?_
    refine wp_ret ?_
    refine fx_rt ?_
    refine fx_ret fr [.tmp 4] [.bool false] rfl ⟨rfl, trivial⟩ rfl ?_
    exact ⟨_, rfl, congrArg Value.bool (decide_eq_false fun he => hc1 (by rw [he])).symm, hF⟩
  · skip
    have hc1 := of_decide_eq_false hc1
    refine wp_skip ?_
    refine fx_next ?_
    refine wp_seq ?_
    refine wp_seq ?_
    refine wp_region_lit ?_  -- region 3
    refine fx_val (v := .int .i64 0) fr rfl rfl (by first | decide | simp) (x_assign rfl rfl) ?_
    clear fr a; intro a fr
    refine wpList_nil ?_
    refine fx_next ?_
    refine wp_block ?_
    refine fx_loop (fun nM a wL => ∃ i : Nat, nM = la.length - i ∧ Fr (26, []) [(0, .slice A la.length ca), (1, .slice B lb.length cb), (5, .int .i64 ((i : Nat) : Int)), (4, .bool false)] a ∧ Only (fun _ => False) w wL ∧ View msgE wL A ca la ∧ View msgE wL B cb lb ∧ i ≤ la.length ∧ (∀ j, j < i → la.getD j msg0 = lb.getD j msg0)) (n0 := _) ⟨0, rfl, fr.sub ⟨rfl, rfl, rfl, rfl, trivial⟩, hF, hV, hW, by omega, (fun j hj => absurd hj (by omega))⟩ ?_
    rintro n3 a w2 ⟨i, rfl, fr, hF, hV, hW, hi, hall⟩
    refine wp_seq ?_
    refine wp_seq ?_
    refine wp_region_lit ?_  -- region 4
    refine fx_val (v := .int .i64 ((i : Nat) : Int)) fr rfl rfl (by first | decide | simp) (x_move rfl (fr.ev rfl)) ?_
    clear fr a; intro a fr
    refine fx_val (v := .slice A la.length ca) fr rfl rfl (by first | decide | simp) (x_move rfl (fr.ev rfl)) ?_
    clear fr a; intro a fr
    refine fx_val (v := .int .i64 ((la.length : Nat) : Int)) fr rfl rfl (by first | decide | simp) (x_len Try.underlying23 rfl (fr.ev rfl)) ?_
    clear fr a; intro a fr
    refine fx_val (v := .bool (decide (((i : Nat) : Int) < ((la.length : Nat) : Int)))) fr rfl rfl (by first | decide | simp) (x_lss rfl (fr.ev rfl) (fr.ev rfl) rfl) ?_
    clear fr a; intro a fr
    refine wpList_nil ?_
    refine fx_next ?_
    refine fx_cond fr rfl (fun hc4 => ?_) (fun hc4 => ?_)
    · skip
      have hc4 := of_decide_eq_true hc4
      refine wp_skip ?_
      refine fx_next ?_
      refine wp_seq ?_
      refine wp_block ?_
      refine wp_seq ?_
      refine fx_held (n := 9) (fun w => View msgE w A ca la ∧ View msgE w B cb lb ∧ True) (by kernel_rfl) rfl ?_  -- region 6
      intro w5 hN6
      replace hV := hV.new hN6
      replace hW := hW.new hN6
      replace hF := hF.trNew hN6
      refine fx_take (i := 0) (v := .slice A la.length ca) fr rfl (by kernel_rfl) rfl rfl (by first | decide | simp) (fun _ _ _ h => h) (fun _ ⟨hV, hW, _⟩ => x_move rfl (fr.ev rfl)) ⟨hV, hW, trivial⟩ ?_
      clear fr a; intro a fr
      refine fx_take (i := 1) (v := .int .i64 ((i : Nat) : Int)) fr rfl (by kernel_rfl) rfl rfl (by first | decide | simp) (fun _ _ _ h => h) (fun _ ⟨hV, hW, _⟩ => x_move rfl (fr.ev rfl)) ⟨hV, hW, trivial⟩ ?_
      clear fr a; intro a fr
      obtain ⟨g7, o8, hA9⟩ := (hV).some_ (by first | omega | decide)
      refine fx_take (i := 2) (v := .pointer (some ⟨g7, o8 + i * 20, none⟩)) fr rfl (by kernel_rfl) rfl rfl (by first | decide | simp) (fun _ _ _ h => h) (fun _ ⟨hV, hW, _⟩ => x_indexV Try.underlying23 sz36 rfl (fr.ev rfl) hA9 (fr.ev rfl) (by first | omega | decide) rfl) ⟨hV, hW, trivial⟩ ?_
      clear fr a; intro a fr
      refine fx_take (i := 3) (v := .agg (msgE.arr (la.getD i msg0))) fr rfl (by kernel_rfl) rfl rfl (by first | decide | simp) (fun _ _ _ h => h) (fun _ ⟨hV, hW, _⟩ => x_loadE (E := msgE) ag36 rfl rfl (fr.ev rfl) ((hV).elem hA9 i msg0 (by omega))) ⟨hV, hW, trivial⟩ ?_
      clear fr a; intro a fr
      refine fx_take (i := 4) (v := .slice B lb.length cb) fr rfl (by kernel_rfl) rfl rfl (by first | decide | simp) (fun _ _ _ h => h) (fun _ ⟨hV, hW, _⟩ => x_move rfl (fr.ev rfl)) ⟨hV, hW, trivial⟩ ?_
      clear fr a; intro a fr
      refine fx_take (i := 5) (v := .int .i64 ((i : Nat) : Int)) fr rfl (by kernel_rfl) rfl rfl (by first | decide | simp) (fun _ _ _ h => h) (fun _ ⟨hV, hW, _⟩ => x_move rfl (fr.ev rfl)) ⟨hV, hW, trivial⟩ ?_
      clear fr a; intro a fr
      obtain ⟨g10, o11, hA12⟩ := (hW).some_ (by first | omega | decide)
      refine fx_take (i := 6) (v := .pointer (some ⟨g10, o11 + i * 20, none⟩)) fr rfl (by kernel_rfl) rfl rfl (by first | decide | simp) (fun _ _ _ h => h) (fun _ ⟨hV, hW, _⟩ => x_indexV Try.underlying23 sz36 rfl (fr.ev rfl) hA12 (fr.ev rfl) (by first | omega | decide) rfl) ⟨hV, hW, trivial⟩ ?_
      clear fr a; intro a fr
      refine fx_take (i := 7) (v := .agg (msgE.arr (lb.getD i msg0))) fr rfl (by kernel_rfl) rfl rfl (by first | decide | simp) (fun _ _ _ h => h) (fun _ ⟨hV, hW, _⟩ => x_loadE (E := msgE) ag36 rfl rfl (fr.ev rfl) ((hW).elem hA12 i msg0 (by omega))) ⟨hV, hW, trivial⟩ ?_
      clear fr a; intro a fr
      refine fx_take (i := 8) (v := .bool (!decide ((la.getD i msg0) = (lb.getD i msg0)))) fr rfl (by kernel_rfl) rfl rfl (by first | decide | simp) (fun _ _ _ h => h) (fun _ ⟨hV, hW, _⟩ => x_neE msgER rfl rfl (fr.ev rfl) (fr.ev rfl) rfl) ⟨hV, hW, trivial⟩ ?_
      clear fr a; intro a fr
      refine fx_hdone (by kernel_rfl) ?_
      refine fx_next ?_
      refine fx_cond fr rfl (fun hc13 => ?_) (fun hc13 => ?_)
      · skip
        refine wp_seq ?_
        refine wp_region_lit ?_  -- region 7
        refine fx_val (v := .bool false) fr rfl rfl (by first | decide | simp) (x_assign rfl rfl) ?_
        clear fr a; intro a fr
        refine wpList_nil ?_
        refine fx_next ?_
        refine wp_ret ?_
        refine fx_rb ?_
        refine fx_rt ?_
        refine fx_rt ?_
        refine fx_rb ?_
        refine fx_rt ?_
        refine fx_ret fr [.tmp 4] [.bool false] rfl ⟨rfl, trivial⟩ rfl ?_
        exact ⟨_, rfl, congrArg Value.bool (decide_eq_false fun he => by rw [he] at hc13; simp at hc13).symm, hF⟩
      · skip
        refine wp_skip ?_
        refine fx_blk ?_
        refine fx_next ?_
        refine wp_region_lit ?_  -- region 5
        refine fx_val (v := .int .i64 ((i : Nat) : Int)) fr rfl rfl (by first | decide | simp) (x_move rfl (fr.ev rfl)) ?_
        clear fr a; intro a fr
        refine fx_val (v := .int .i64 ((i + 1 : Nat) : Int)) fr rfl rfl (by first | decide | simp) (x_add rfl (fr.ev rfl) rfl (i64w (r := ((i + 1 : Nat) : Int)) (by omega) (by omega))) ?_
        clear fr a; intro a fr
        refine fx_val (v := .int .i64 ((i + 1 : Nat) : Int)) fr rfl rfl (by first | decide | simp) (x_assign rfl (fr.ev rfl)) ?_
        clear fr a; intro a fr
        refine wpList_nil ?_
        refine fx_next ?_
        exact ⟨_, by omega, (i + 1), rfl, fr.sub ⟨rfl, rfl, rfl, rfl, trivial⟩, hF, hV, hW, by omega, fun j hj => by rcases Nat.lt_succ_iff_lt_or_eq.1 hj with h | rfl; exact hall j h; simpa using hc13⟩
    · skip
      have hc4 := of_decide_eq_false hc4
      refine wp_exit ?_
      refine fx_xt ?_
      refine fx_xt ?_
      refine fx_xx ?_
      refine fx_next ?_
      refine wp_seq ?_
      refine wp_region_lit ?_  -- region 8
      refine fx_val (v := .bool true) fr rfl rfl (by first | decide | simp) (x_assign rfl rfl) ?_
      clear fr a; intro a fr
      refine wpList_nil ?_
      refine fx_next ?_
      refine wp_ret ?_
      refine fx_ret fr [.tmp 4] [.bool true] rfl ⟨rfl, trivial⟩ rfl ?_
      exact ⟨_, rfl, congrArg Value.bool (decide_eq_true (ext_getD msg0 (by omega) fun j hj => hall j (by omega))).symm, hF⟩
theorem sament_t {d e : Ent} (h : ((((((decide (d.o = e.o) && decide (d.sh = e.sh)) && (d.busy == e.busy)) && decide (d.asks = e.asks)) && decide (d.kind = e.kind)) && decide (d.waits = e.waits)) && (d.told == e.told)) = true) : decide (d.q = e.q) = decide (d = e) := by
  simp only [Bool.and_eq_true, decide_eq_true_eq, beq_iff_eq] at h
  obtain ⟨⟨⟨⟨⟨⟨h1, h2⟩, h3⟩, h4⟩, h5⟩, h6⟩, h7⟩ := h
  by_cases hq : d.q = e.q
  · rw [decide_eq_true hq, decide_eq_true ((Ent.eq_iff d e).2 ⟨h1, h2, h3, h4, h5, h6, h7, hq⟩)]
  · rw [decide_eq_false hq, decide_eq_false fun h => hq (by rw [h])]
theorem sament_f {d e : Ent} (h : ((((((decide (d.o = e.o) && decide (d.sh = e.sh)) && (d.busy == e.busy)) && decide (d.asks = e.asks)) && decide (d.kind = e.kind)) && decide (d.waits = e.waits)) && (d.told == e.told)) = false) : false = decide (d = e) := by
  refine (decide_eq_false fun hde => ?_).symm
  subst hde
  simp at h
set_option maxRecDepth 100000 in
set_option maxHeartbeats 4000000 in
theorem sament_c {w : World} {Q R : Option Addr} {qc rc : Nat} {d e : Ent} (hQ : View msgE w Q qc d.q) (hR : View msgE w R rc e.q) : Calls Try.prog 14 #[.agg (entA d (.slice Q d.q.length qc)), .agg (entA e (.slice R e.q.length rc))] w (Ret fun v w' => v = .bool (decide (d = e)) ∧ New w w') := by
  have hF := Only.refl (fun _ => False) w
  refine fx_enter Try.func14 rfl (N := (59, [])) (T := [(0, .agg (entA d (.slice Q d.q.length qc))), (1, .agg (entA e (.slice R e.q.length rc)))]) rfl (show 2 ≤ 59 by decide) ⟨rfl, rfl, trivial⟩ fun a fr => ?_
  refine wp_seq ?_
  refine wp_region_lit ?_  -- region 0
  refine fx_new fr rfl rfl (by first | decide | simp) (x_box (cs := entA d (.slice Q d.q.length qc)) rfl (fr.ev rfl) rfl) ?_
  clear fr a
  intro b1 w2 hN3 B4 hb5 a fr
  have ap_Q_b1 : Apart Q b1 := hQ.apart hb5
  have ap_R_b1 : Apart R b1 := hR.apart hb5
  have g_b1 := Nat.le_trans hF.size hb5
  replace hQ := hQ.new hN3
  replace hR := hR.new hN3
  replace hF := hF.trNew hN3
  refine fx_new fr rfl rfl (by first | decide | simp) (x_box (cs := entA e (.slice R e.q.length rc)) rfl (fr.ev rfl) rfl) ?_
  clear fr a
  intro b6 w7 hN8 B9 hb10 a fr
  have ap_Q_b6 : Apart Q b6 := hQ.apart hb10
  have ap_R_b6 : Apart R b6 := hR.apart hb10
  have ne_b1_b6 : NE b1 b6 := NE.mk (Nat.lt_of_lt_of_le B4.lt hb10)
  have g_b6 := Nat.le_trans hF.size hb10
  replace hQ := hQ.new hN8
  replace hR := hR.new hN8
  replace B4 := B4.new hN8
  replace hF := hF.trNew hN8
  refine fx_val (v := .bool false) fr rfl rfl (by first | decide | simp) (x_assign rfl rfl) ?_
  clear fr a; intro a fr
  refine wpList_nil ?_
  refine fx_next ?_
  refine wp_seq ?_
  refine wp_region_lit ?_  -- region 1
  refine fx_val (v := .pointer (some ⟨b1, 0, none⟩)) fr rfl rfl (by first | decide | simp) (x_fieldAddr fo42_0 rfl (fr.ev rfl) rfl) ?_
  clear fr a; intro a fr
  refine fx_val (v := .int .i64 d.o) fr rfl rfl (by first | decide | simp) (x_load1 pl3 rfl (fr.ev rfl) (B4.cell 0 rfl)) ?_
  clear fr a; intro a fr
  refine fx_val (v := .pointer (some ⟨b6, 0, none⟩)) fr rfl rfl (by first | decide | simp) (x_fieldAddr fo42_0 rfl (fr.ev rfl) rfl) ?_
  clear fr a; intro a fr
  refine fx_val (v := .int .i64 e.o) fr rfl rfl (by first | decide | simp) (x_load1 pl3 rfl (fr.ev rfl) (B9.cell 0 rfl)) ?_
  clear fr a; intro a fr
  refine fx_val (v := .bool (decide (d.o = e.o))) fr rfl rfl (by first | decide | simp) (x_eql rfl (fr.ev rfl) (fr.ev rfl) rfl) ?_
  clear fr a; intro a fr
  refine fx_val (v := .bool (decide (d.o = e.o))) fr rfl rfl (by first | decide | simp) (x_move rfl (fr.ev rfl)) ?_
  clear fr a; intro a fr
  refine fx_may (g := (decide (d.o = e.o))) (v := .pointer (some ⟨b1, 1, none⟩)) fr rfl rfl rfl (by simp) rfl (by first | decide | simp) (fun hg => x_fieldAddr fo42_1 rfl (fr.ev rfl) rfl) ?_
  clear fr a; intro a fr
  refine fx_may (g := (decide (d.o = e.o))) (v := .agg (#[.bool d.sh.a, .bool d.sh.b, .bool d.sh.c, .bool d.sh.d])) fr rfl rfl rfl (by simp) rfl (by first | decide | simp) (fun hg => x_loadS ag40 rfl ((fr.ev rfl).trans (onlyIf_t hg)) rfl (B4.part (q := 1) (n := 4) rfl)) ?_
  clear fr a; intro a fr
  refine fx_may (g := (decide (d.o = e.o))) (v := .pointer (some ⟨b6, 1, none⟩)) fr rfl rfl rfl (by simp) rfl (by first | decide | simp) (fun hg => x_fieldAddr fo42_1 rfl (fr.ev rfl) rfl) ?_
  clear fr a; intro a fr
  refine fx_may (g := (decide (d.o = e.o))) (v := .agg (#[.bool e.sh.a, .bool e.sh.b, .bool e.sh.c, .bool e.sh.d])) fr rfl rfl rfl (by simp) rfl (by first | decide | simp) (fun hg => x_loadS ag40 rfl ((fr.ev rfl).trans (onlyIf_t hg)) rfl (B9.part (q := 1) (n := 4) rfl)) ?_
  clear fr a; intro a fr
  refine fx_may (g := (decide (d.o = e.o))) (v := .bool (decide (d.sh = e.sh))) fr rfl rfl rfl (by simp) rfl (by first | decide | simp) (fun hg => x_eqSh (s := d.sh) (s' := e.sh) rfl ((fr.ev rfl).trans (onlyIf_t hg)) ((fr.ev rfl).trans (onlyIf_t hg)) rfl) ?_
  clear fr a; intro a fr
  refine fx_val (v := .bool ((decide (d.o = e.o)) && (decide (d.sh = e.sh)))) fr rfl rfl (by first | decide | simp) (x_pick_and rfl (fr.ev rfl) (fun hb => ((fr.ev rfl)).trans (onlyIf_t (by simp_all))) (fun _ => rfl) rfl) ?_
  clear fr a; intro a fr
  refine fx_val (v := .bool ((decide (d.o = e.o)) && (decide (d.sh = e.sh)))) fr rfl rfl (by first | decide | simp) (x_move rfl (fr.ev rfl)) ?_
  clear fr a; intro a fr
  refine fx_may (g := ((decide (d.o = e.o)) && (decide (d.sh = e.sh)))) (v := .pointer (some ⟨b1, 5, none⟩)) fr rfl rfl rfl (by simp) rfl (by first | decide | simp) (fun hg => x_fieldAddr fo42_2 rfl (fr.ev rfl) rfl) ?_
  clear fr a; intro a fr
  refine fx_may (g := ((decide (d.o = e.o)) && (decide (d.sh = e.sh)))) (v := .bool d.busy) fr rfl rfl rfl (by simp) rfl (by first | decide | simp) (fun hg => x_load1 pl4 rfl ((fr.ev rfl).trans (onlyIf_t hg)) (B4.cell 5 rfl)) ?_
  clear fr a; intro a fr
  refine fx_may (g := ((decide (d.o = e.o)) && (decide (d.sh = e.sh)))) (v := .pointer (some ⟨b6, 5, none⟩)) fr rfl rfl rfl (by simp) rfl (by first | decide | simp) (fun hg => x_fieldAddr fo42_2 rfl (fr.ev rfl) rfl) ?_
  clear fr a; intro a fr
  refine fx_may (g := ((decide (d.o = e.o)) && (decide (d.sh = e.sh)))) (v := .bool e.busy) fr rfl rfl rfl (by simp) rfl (by first | decide | simp) (fun hg => x_load1 pl4 rfl ((fr.ev rfl).trans (onlyIf_t hg)) (B9.cell 5 rfl)) ?_
  clear fr a; intro a fr
  refine fx_may (g := ((decide (d.o = e.o)) && (decide (d.sh = e.sh)))) (v := .bool (d.busy == e.busy)) fr rfl rfl rfl (by simp) rfl (by first | decide | simp) (fun hg => x_beql Try.underlying4 rfl ((fr.ev rfl).trans (onlyIf_t hg)) ((fr.ev rfl).trans (onlyIf_t hg)) rfl) ?_
  clear fr a; intro a fr
  refine fx_val (v := .bool (((decide (d.o = e.o)) && (decide (d.sh = e.sh))) && (d.busy == e.busy))) fr rfl rfl (by first | decide | simp) (x_pick_and rfl (fr.ev rfl) (fun hb => ((fr.ev rfl)).trans (onlyIf_t (by simp_all))) (fun _ => rfl) rfl) ?_
  clear fr a; intro a fr
  refine fx_val (v := .bool (((decide (d.o = e.o)) && (decide (d.sh = e.sh))) && (d.busy == e.busy))) fr rfl rfl (by first | decide | simp) (x_move rfl (fr.ev rfl)) ?_
  clear fr a; intro a fr
  refine fx_may (g := (((decide (d.o = e.o)) && (decide (d.sh = e.sh))) && (d.busy == e.busy))) (v := .pointer (some ⟨b1, 6, none⟩)) fr rfl rfl rfl (by simp) rfl (by first | decide | simp) (fun hg => x_fieldAddr fo42_3 rfl (fr.ev rfl) rfl) ?_
  clear fr a; intro a fr
  refine fx_may (g := (((decide (d.o = e.o)) && (decide (d.sh = e.sh))) && (d.busy == e.busy))) (v := .int .i64 d.asks) fr rfl rfl rfl (by simp) rfl (by first | decide | simp) (fun hg => x_load1 pl3 rfl ((fr.ev rfl).trans (onlyIf_t hg)) (B4.cell 6 rfl)) ?_
  clear fr a; intro a fr
  refine fx_may (g := (((decide (d.o = e.o)) && (decide (d.sh = e.sh))) && (d.busy == e.busy))) (v := .pointer (some ⟨b6, 6, none⟩)) fr rfl rfl rfl (by simp) rfl (by first | decide | simp) (fun hg => x_fieldAddr fo42_3 rfl (fr.ev rfl) rfl) ?_
  clear fr a; intro a fr
  refine fx_may (g := (((decide (d.o = e.o)) && (decide (d.sh = e.sh))) && (d.busy == e.busy))) (v := .int .i64 e.asks) fr rfl rfl rfl (by simp) rfl (by first | decide | simp) (fun hg => x_load1 pl3 rfl ((fr.ev rfl).trans (onlyIf_t hg)) (B9.cell 6 rfl)) ?_
  clear fr a; intro a fr
  refine fx_may (g := (((decide (d.o = e.o)) && (decide (d.sh = e.sh))) && (d.busy == e.busy))) (v := .bool (decide (d.asks = e.asks))) fr rfl rfl rfl (by simp) rfl (by first | decide | simp) (fun hg => x_eql rfl ((fr.ev rfl).trans (onlyIf_t hg)) ((fr.ev rfl).trans (onlyIf_t hg)) rfl) ?_
  clear fr a; intro a fr
  refine fx_val (v := .bool ((((decide (d.o = e.o)) && (decide (d.sh = e.sh))) && (d.busy == e.busy)) && (decide (d.asks = e.asks)))) fr rfl rfl (by first | decide | simp) (x_pick_and rfl (fr.ev rfl) (fun hb => ((fr.ev rfl)).trans (onlyIf_t (by simp_all))) (fun _ => rfl) rfl) ?_
  clear fr a; intro a fr
  refine fx_val (v := .bool ((((decide (d.o = e.o)) && (decide (d.sh = e.sh))) && (d.busy == e.busy)) && (decide (d.asks = e.asks)))) fr rfl rfl (by first | decide | simp) (x_move rfl (fr.ev rfl)) ?_
  clear fr a; intro a fr
  refine fx_may (g := ((((decide (d.o = e.o)) && (decide (d.sh = e.sh))) && (d.busy == e.busy)) && (decide (d.asks = e.asks)))) (v := .pointer (some ⟨b1, 7, none⟩)) fr rfl rfl rfl (by simp) rfl (by first | decide | simp) (fun hg => x_fieldAddr fo42_4 rfl (fr.ev rfl) rfl) ?_
  clear fr a; intro a fr
  refine fx_may (g := ((((decide (d.o = e.o)) && (decide (d.sh = e.sh))) && (d.busy == e.busy)) && (decide (d.asks = e.asks)))) (v := .int .i64 d.kind) fr rfl rfl rfl (by simp) rfl (by first | decide | simp) (fun hg => x_load1 pl33 rfl ((fr.ev rfl).trans (onlyIf_t hg)) (B4.cell 7 rfl)) ?_
  clear fr a; intro a fr
  refine fx_may (g := ((((decide (d.o = e.o)) && (decide (d.sh = e.sh))) && (d.busy == e.busy)) && (decide (d.asks = e.asks)))) (v := .pointer (some ⟨b6, 7, none⟩)) fr rfl rfl rfl (by simp) rfl (by first | decide | simp) (fun hg => x_fieldAddr fo42_4 rfl (fr.ev rfl) rfl) ?_
  clear fr a; intro a fr
  refine fx_may (g := ((((decide (d.o = e.o)) && (decide (d.sh = e.sh))) && (d.busy == e.busy)) && (decide (d.asks = e.asks)))) (v := .int .i64 e.kind) fr rfl rfl rfl (by simp) rfl (by first | decide | simp) (fun hg => x_load1 pl33 rfl ((fr.ev rfl).trans (onlyIf_t hg)) (B9.cell 7 rfl)) ?_
  clear fr a; intro a fr
  refine fx_may (g := ((((decide (d.o = e.o)) && (decide (d.sh = e.sh))) && (d.busy == e.busy)) && (decide (d.asks = e.asks)))) (v := .bool (decide (d.kind = e.kind))) fr rfl rfl rfl (by simp) rfl (by first | decide | simp) (fun hg => x_eql rfl ((fr.ev rfl).trans (onlyIf_t hg)) ((fr.ev rfl).trans (onlyIf_t hg)) rfl) ?_
  clear fr a; intro a fr
  refine fx_val (v := .bool (((((decide (d.o = e.o)) && (decide (d.sh = e.sh))) && (d.busy == e.busy)) && (decide (d.asks = e.asks))) && (decide (d.kind = e.kind)))) fr rfl rfl (by first | decide | simp) (x_pick_and rfl (fr.ev rfl) (fun hb => ((fr.ev rfl)).trans (onlyIf_t (by simp_all))) (fun _ => rfl) rfl) ?_
  clear fr a; intro a fr
  refine fx_val (v := .bool (((((decide (d.o = e.o)) && (decide (d.sh = e.sh))) && (d.busy == e.busy)) && (decide (d.asks = e.asks))) && (decide (d.kind = e.kind)))) fr rfl rfl (by first | decide | simp) (x_move rfl (fr.ev rfl)) ?_
  clear fr a; intro a fr
  refine fx_may (g := (((((decide (d.o = e.o)) && (decide (d.sh = e.sh))) && (d.busy == e.busy)) && (decide (d.asks = e.asks))) && (decide (d.kind = e.kind)))) (v := .pointer (some ⟨b1, 8, none⟩)) fr rfl rfl rfl (by simp) rfl (by first | decide | simp) (fun hg => x_fieldAddr fo42_5 rfl (fr.ev rfl) rfl) ?_
  clear fr a; intro a fr
  refine fx_may (g := (((((decide (d.o = e.o)) && (decide (d.sh = e.sh))) && (d.busy == e.busy)) && (decide (d.asks = e.asks))) && (decide (d.kind = e.kind)))) (v := .int .i64 d.waits) fr rfl rfl rfl (by simp) rfl (by first | decide | simp) (fun hg => x_load1 pl3 rfl ((fr.ev rfl).trans (onlyIf_t hg)) (B4.cell 8 rfl)) ?_
  clear fr a; intro a fr
  refine fx_may (g := (((((decide (d.o = e.o)) && (decide (d.sh = e.sh))) && (d.busy == e.busy)) && (decide (d.asks = e.asks))) && (decide (d.kind = e.kind)))) (v := .pointer (some ⟨b6, 8, none⟩)) fr rfl rfl rfl (by simp) rfl (by first | decide | simp) (fun hg => x_fieldAddr fo42_5 rfl (fr.ev rfl) rfl) ?_
  clear fr a; intro a fr
  refine fx_may (g := (((((decide (d.o = e.o)) && (decide (d.sh = e.sh))) && (d.busy == e.busy)) && (decide (d.asks = e.asks))) && (decide (d.kind = e.kind)))) (v := .int .i64 e.waits) fr rfl rfl rfl (by simp) rfl (by first | decide | simp) (fun hg => x_load1 pl3 rfl ((fr.ev rfl).trans (onlyIf_t hg)) (B9.cell 8 rfl)) ?_
  clear fr a; intro a fr
  refine fx_may (g := (((((decide (d.o = e.o)) && (decide (d.sh = e.sh))) && (d.busy == e.busy)) && (decide (d.asks = e.asks))) && (decide (d.kind = e.kind)))) (v := .bool (decide (d.waits = e.waits))) fr rfl rfl rfl (by simp) rfl (by first | decide | simp) (fun hg => x_eql rfl ((fr.ev rfl).trans (onlyIf_t hg)) ((fr.ev rfl).trans (onlyIf_t hg)) rfl) ?_
  clear fr a; intro a fr
  refine fx_val (v := .bool ((((((decide (d.o = e.o)) && (decide (d.sh = e.sh))) && (d.busy == e.busy)) && (decide (d.asks = e.asks))) && (decide (d.kind = e.kind))) && (decide (d.waits = e.waits)))) fr rfl rfl (by first | decide | simp) (x_pick_and rfl (fr.ev rfl) (fun hb => ((fr.ev rfl)).trans (onlyIf_t (by simp_all))) (fun _ => rfl) rfl) ?_
  clear fr a; intro a fr
  refine fx_val (v := .bool ((((((decide (d.o = e.o)) && (decide (d.sh = e.sh))) && (d.busy == e.busy)) && (decide (d.asks = e.asks))) && (decide (d.kind = e.kind))) && (decide (d.waits = e.waits)))) fr rfl rfl (by first | decide | simp) (x_move rfl (fr.ev rfl)) ?_
  clear fr a; intro a fr
  refine fx_may (g := ((((((decide (d.o = e.o)) && (decide (d.sh = e.sh))) && (d.busy == e.busy)) && (decide (d.asks = e.asks))) && (decide (d.kind = e.kind))) && (decide (d.waits = e.waits)))) (v := .pointer (some ⟨b1, 9, none⟩)) fr rfl rfl rfl (by simp) rfl (by first | decide | simp) (fun hg => x_fieldAddr fo42_6 rfl (fr.ev rfl) rfl) ?_
  clear fr a; intro a fr
  refine fx_may (g := ((((((decide (d.o = e.o)) && (decide (d.sh = e.sh))) && (d.busy == e.busy)) && (decide (d.asks = e.asks))) && (decide (d.kind = e.kind))) && (decide (d.waits = e.waits)))) (v := .bool d.told) fr rfl rfl rfl (by simp) rfl (by first | decide | simp) (fun hg => x_load1 pl4 rfl ((fr.ev rfl).trans (onlyIf_t hg)) (B4.cell 9 rfl)) ?_
  clear fr a; intro a fr
  refine fx_may (g := ((((((decide (d.o = e.o)) && (decide (d.sh = e.sh))) && (d.busy == e.busy)) && (decide (d.asks = e.asks))) && (decide (d.kind = e.kind))) && (decide (d.waits = e.waits)))) (v := .pointer (some ⟨b6, 9, none⟩)) fr rfl rfl rfl (by simp) rfl (by first | decide | simp) (fun hg => x_fieldAddr fo42_6 rfl (fr.ev rfl) rfl) ?_
  clear fr a; intro a fr
  refine fx_may (g := ((((((decide (d.o = e.o)) && (decide (d.sh = e.sh))) && (d.busy == e.busy)) && (decide (d.asks = e.asks))) && (decide (d.kind = e.kind))) && (decide (d.waits = e.waits)))) (v := .bool e.told) fr rfl rfl rfl (by simp) rfl (by first | decide | simp) (fun hg => x_load1 pl4 rfl ((fr.ev rfl).trans (onlyIf_t hg)) (B9.cell 9 rfl)) ?_
  clear fr a; intro a fr
  refine fx_may (g := ((((((decide (d.o = e.o)) && (decide (d.sh = e.sh))) && (d.busy == e.busy)) && (decide (d.asks = e.asks))) && (decide (d.kind = e.kind))) && (decide (d.waits = e.waits)))) (v := .bool (d.told == e.told)) fr rfl rfl rfl (by simp) rfl (by first | decide | simp) (fun hg => x_beql Try.underlying4 rfl ((fr.ev rfl).trans (onlyIf_t hg)) ((fr.ev rfl).trans (onlyIf_t hg)) rfl) ?_
  clear fr a; intro a fr
  refine fx_val (v := .bool (((((((decide (d.o = e.o)) && (decide (d.sh = e.sh))) && (d.busy == e.busy)) && (decide (d.asks = e.asks))) && (decide (d.kind = e.kind))) && (decide (d.waits = e.waits))) && (d.told == e.told))) fr rfl rfl (by first | decide | simp) (x_pick_and rfl (fr.ev rfl) (fun hb => ((fr.ev rfl)).trans (onlyIf_t (by simp_all))) (fun _ => rfl) rfl) ?_
  clear fr a; intro a fr
  refine fx_val (v := .bool (((((((decide (d.o = e.o)) && (decide (d.sh = e.sh))) && (d.busy == e.busy)) && (decide (d.asks = e.asks))) && (decide (d.kind = e.kind))) && (decide (d.waits = e.waits))) && (d.told == e.told))) fr rfl rfl (by first | decide | simp) (x_move rfl (fr.ev rfl)) ?_
  clear fr a; intro a fr
  refine fx_may (g := (((((((decide (d.o = e.o)) && (decide (d.sh = e.sh))) && (d.busy == e.busy)) && (decide (d.asks = e.asks))) && (decide (d.kind = e.kind))) && (decide (d.waits = e.waits))) && (d.told == e.told))) (v := .pointer (some ⟨b1, 10, none⟩)) fr rfl rfl rfl (by simp) rfl (by first | decide | simp) (fun hg => x_fieldAddr fo42_7 rfl (fr.ev rfl) rfl) ?_
  clear fr a; intro a fr
  refine fx_may (g := (((((((decide (d.o = e.o)) && (decide (d.sh = e.sh))) && (d.busy == e.busy)) && (decide (d.asks = e.asks))) && (decide (d.kind = e.kind))) && (decide (d.waits = e.waits))) && (d.told == e.told))) (v := .slice Q d.q.length qc) fr rfl rfl rfl (by simp) rfl (by first | decide | simp) (fun hg => x_load1 pl23 rfl ((fr.ev rfl).trans (onlyIf_t hg)) (B4.cell 10 rfl)) ?_
  clear fr a; intro a fr
  refine fx_may (g := (((((((decide (d.o = e.o)) && (decide (d.sh = e.sh))) && (d.busy == e.busy)) && (decide (d.asks = e.asks))) && (decide (d.kind = e.kind))) && (decide (d.waits = e.waits))) && (d.told == e.told))) (v := .pointer (some ⟨b6, 10, none⟩)) fr rfl rfl rfl (by simp) rfl (by first | decide | simp) (fun hg => x_fieldAddr fo42_7 rfl (fr.ev rfl) rfl) ?_
  clear fr a; intro a fr
  refine fx_may (g := (((((((decide (d.o = e.o)) && (decide (d.sh = e.sh))) && (d.busy == e.busy)) && (decide (d.asks = e.asks))) && (decide (d.kind = e.kind))) && (decide (d.waits = e.waits))) && (d.told == e.told))) (v := .slice R e.q.length rc) fr rfl rfl rfl (by simp) rfl (by first | decide | simp) (fun hg => x_load1 pl23 rfl ((fr.ev rfl).trans (onlyIf_t hg)) (B9.cell 10 rfl)) ?_
  clear fr a; intro a fr
  rcases Bool.eq_false_or_eq_true (((((((decide (d.o = e.o)) && (decide (d.sh = e.sh))) && (d.busy == e.busy)) && (decide (d.asks = e.asks))) && (decide (d.kind = e.kind))) && (decide (d.waits = e.waits))) && (d.told == e.told)) with hc11 | hc11
  · skip
    rw [hc11] at fr
    have hc11s := hc11
    try simp at hc11s
    refine fx_call fr (fr.want rfl rfl rfl) rfl (by first | decide | simp) (x_call (vs := [.slice Q d.q.length qc, .slice R e.q.length rc]) rfl rfl ⟨((fr.ev rfl).trans (onlyIf_t rfl)), ((fr.ev rfl).trans (onlyIf_t rfl)), trivial⟩ Try.func20 nm20 rfl) (msgs_c (la := d.q) (lb := e.q) (hQ) (hR)) ?_
    clear fr a
    rintro v w12 ⟨rfl, hN13⟩ a fr
    replace hQ := hQ.new hN13
    replace hR := hR.new hN13
    replace B4 := B4.new hN13
    replace B9 := B9.new hN13
    replace hF := hF.trNew hN13
    refine fx_val (v := .bool (decide (d.q = e.q))) fr rfl rfl (by first | decide | simp) (x_pick_t rfl (fr.ev rfl) (fr.ev rfl)) ?_
    clear fr a; intro a fr
    refine fx_val (v := .bool (decide (d.q = e.q))) fr rfl rfl (by first | decide | simp) (x_assign rfl (fr.ev rfl)) ?_
    clear fr a; intro a fr
    refine wpList_nil ?_
    refine fx_next ?_
    refine wp_ret ?_
    refine fx_ret fr [.tmp 4] [.bool (decide (d.q = e.q))] rfl ⟨rfl, trivial⟩ rfl ?_
    exact ⟨_, rfl, congrArg Value.bool (sament_t hc11), hF⟩
  · skip
    rw [hc11] at fr
    have hc11s := hc11
    try simp at hc11s
    refine fx_skip fr (fr.unwant rfl rfl rfl (by decide)) rfl (by first | decide | simp) ?_
    clear fr a; intro a fr
    refine fx_val (v := .bool false) fr rfl rfl (by first | decide | simp) (x_pick_f rfl (fr.ev rfl) rfl) ?_
    clear fr a; intro a fr
    refine fx_val (v := .bool false) fr rfl rfl (by first | decide | simp) (x_assign rfl (fr.ev rfl)) ?_
    clear fr a; intro a fr
    refine wpList_nil ?_
    refine fx_next ?_
    refine wp_ret ?_
    refine fx_ret fr [.tmp 4] [.bool false] rfl ⟨rfl, trivial⟩ rfl ?_
    exact ⟨_, rfl, congrArg Value.bool (sament_f hc11), hF⟩
set_option maxRecDepth 100000 in
set_option maxHeartbeats 4000000 in
theorem mod_p (p : Int) (n : Nat) (h1 : 1 ≤ n) (hn : n ≤ 1000000) (w : World) : Calls Try.prog 15 #[.int .i64 p, .int .i64 ((n : Nat) : Int)] w (Ret fun v w' => v = .int .i64 (modF p ((n : Nat) : Int)) ∧ w' = w) := by
  have hbd := tmod_bd p n h1
  have h1n : ¬ ((n : Nat) : Int) < 1 := by omega
  refine fx_enter Try.func15 rfl (N := (17, [])) (T := [(0, .int .i64 p), (1, .int .i64 ((n : Nat) : Int))]) rfl (show 2 ≤ 17 by decide) ⟨rfl, rfl, trivial⟩ fun a fr => ?_
  refine wp_seq ?_
  refine wp_region_lit ?_  -- region 0
  refine fx_val (v := .int .i64 0) fr rfl rfl (by first | decide | simp) (x_assign rfl rfl) ?_
  clear fr a; intro a fr
  refine wpList_nil ?_
  refine fx_next ?_
  refine wp_seq ?_
  refine wp_seq ?_
  refine wp_region_lit ?_  -- region 1
  refine fx_val (v := .int .i64 ((n : Nat) : Int)) fr rfl rfl (by first | decide | simp) (x_move rfl (fr.ev rfl)) ?_
  clear fr a; intro a fr
  refine fx_val (v := .bool false) fr rfl rfl (by first | decide | simp) (x_lss rfl (fr.ev rfl) rfl (decide_eq_false h1n)) ?_
  clear fr a; intro a fr
  refine wpList_nil ?_
  refine fx_next ?_
  refine fx_cond_f fr rfl ?_
  refine wp_skip ?_
  refine fx_next ?_
  refine wp_seq ?_
  refine wp_region_lit ?_  -- region 3
  refine fx_val (v := .int .i64 p) fr rfl rfl (by first | decide | simp) (x_move rfl (fr.ev rfl)) ?_
  clear fr a; intro a fr
  refine fx_val (v := .int .i64 ((n : Nat) : Int)) fr rfl rfl (by first | decide | simp) (x_move rfl (fr.ev rfl)) ?_
  clear fr a; intro a fr
  refine fx_val (v := .int .i64 (Int.tmod p ((n : Nat) : Int))) fr rfl rfl (by first | decide | simp) (x_rem rfl (fr.ev rfl) (fr.ev rfl) (by omega) rfl) ?_
  clear fr a; intro a fr
  refine fx_val (v := .int .i64 (Int.tmod p ((n : Nat) : Int))) fr rfl rfl (by first | decide | simp) (x_assign rfl (fr.ev rfl)) ?_
  clear fr a; intro a fr
  refine wpList_nil ?_
  refine fx_next ?_
  refine wp_seq ?_
  refine wp_seq ?_
  refine wp_region_lit ?_  -- region 4
  refine fx_val (v := .int .i64 (Int.tmod p ((n : Nat) : Int))) fr rfl rfl (by first | decide | simp) (x_move rfl (fr.ev rfl)) ?_
  clear fr a; intro a fr
  refine fx_val (v := .bool (decide (Int.tmod p ((n : Nat) : Int) < 0))) fr rfl rfl (by first | decide | simp) (x_lss rfl (fr.ev rfl) rfl rfl) ?_
  clear fr a; intro a fr
  refine wpList_nil ?_
  refine fx_next ?_
  refine fx_cond fr rfl (fun hc1 => ?_) (fun hc1 => ?_)
  · skip
    have hc1 := of_decide_eq_true hc1
    refine wp_region_lit ?_  -- region 5
    refine fx_val (v := .int .i64 (Int.tmod p ((n : Nat) : Int))) fr rfl rfl (by first | decide | simp) (x_move rfl (fr.ev rfl)) ?_
    clear fr a; intro a fr
    refine fx_val (v := .int .i64 ((n : Nat) : Int)) fr rfl rfl (by first | decide | simp) (x_move rfl (fr.ev rfl)) ?_
    clear fr a; intro a fr
    refine fx_val (v := .int .i64 (Int.tmod p ((n : Nat) : Int) + ((n : Nat) : Int))) fr rfl rfl (by first | decide | simp) (x_add rfl (fr.ev rfl) (fr.ev rfl) (i64w (r := Int.tmod p ((n : Nat) : Int) + ((n : Nat) : Int)) (by omega) (by omega))) ?_
    clear fr a; intro a fr
    refine fx_val (v := .int .i64 (Int.tmod p ((n : Nat) : Int) + ((n : Nat) : Int))) fr rfl rfl (by first | decide | simp) (x_assign rfl (fr.ev rfl)) ?_
    clear fr a; intro a fr
    refine wpList_nil ?_
    refine fx_next ?_
    refine wp_seq ?_
    refine wp_region_lit ?_  -- region 6
    refine fx_val (v := .int .i64 (Int.tmod p ((n : Nat) : Int) + ((n : Nat) : Int))) fr rfl rfl (by first | decide | simp) (x_move rfl (fr.ev rfl)) ?_
    clear fr a; intro a fr
    refine fx_val (v := .int .i64 (Int.tmod p ((n : Nat) : Int) + ((n : Nat) : Int))) fr rfl rfl (by first | decide | simp) (x_assign rfl (fr.ev rfl)) ?_
    clear fr a; intro a fr
    refine wpList_nil ?_
    refine fx_next ?_
    refine wp_ret ?_
    refine fx_ret fr [.tmp 4] [.int .i64 (Int.tmod p ((n : Nat) : Int) + ((n : Nat) : Int))] rfl ⟨rfl, trivial⟩ rfl ?_
    exact ⟨_, rfl, congrArg (Value.int .i64) (by rw [modF, if_neg (by omega), Int.toNat_natCast]; exact pick_neg (by omega) hc1), rfl⟩
  · skip
    have hc1 := of_decide_eq_false hc1
    refine wp_skip ?_
    refine fx_next ?_
    refine wp_seq ?_
    refine wp_region_lit ?_  -- region 6
    refine fx_val (v := .int .i64 (Int.tmod p ((n : Nat) : Int))) fr rfl rfl (by first | decide | simp) (x_move rfl (fr.ev rfl)) ?_
    clear fr a; intro a fr
    refine fx_val (v := .int .i64 (Int.tmod p ((n : Nat) : Int))) fr rfl rfl (by first | decide | simp) (x_assign rfl (fr.ev rfl)) ?_
    clear fr a; intro a fr
    refine wpList_nil ?_
    refine fx_next ?_
    refine wp_ret ?_
    refine fx_ret fr [.tmp 4] [.int .i64 (Int.tmod p ((n : Nat) : Int))] rfl ⟨rfl, trivial⟩ rfl ?_
    exact ⟨_, rfl, congrArg (Value.int .i64) (by rw [modF, if_neg (by omega), Int.toNat_natCast]; exact pick_pos (by omega) hc1), rfl⟩
set_option maxRecDepth 100000 in
set_option maxHeartbeats 4000000 in
theorem rnew_c {w : World} {A : Option Addr} {cap : Nat} {bs : List UInt8} (hV : View byE w A cap bs) (hl : bs.length ≤ 4096) : Calls Try.prog 26 #[.slice A bs.length cap] w (Ret fun v w' => ∃ A' c' B' cb', v = .agg #[.slice A' bs.length c', .slice B' (bs.length / 16) cb'] ∧ View byE w' A' c' bs ∧ View ecE w' B' cb' (List.replicate (bs.length / 16) ec0) ∧ (∀ g, inA A' g → w.heap.size ≤ g) ∧ (∀ g, inA B' g → w.heap.size ≤ g) ∧ New w w') := by
  have hF := Only.refl (fun _ => False) w
  refine fx_enter Try.func26 rfl (N := (22, [])) (T := [(0, .slice A bs.length cap)]) rfl (show 1 ≤ 22 by decide) ⟨rfl, trivial⟩ fun a fr => ?_
  refine wp_seq ?_
  refine wp_region_lit ?_  -- region 0
  refine fx_new fr rfl rfl (by first | decide | simp) (x_alloc (z := .agg (#[.slice none 0 0, .slice none 0 0])) (cs := #[.slice none 0 0, .slice none 0 0]) rfl (by kernel_rfl) rfl) ?_
  clear fr a
  intro b1 w2 hN3 B4 hb5 a fr
  have ap_A_b1 : Apart A b1 := hV.apart hb5
  have g_b1 := Nat.le_trans hF.size hb5
  replace hV := hV.new hN3
  replace hF := hF.trNew hN3
  refine wpList_nil ?_
  refine fx_next ?_
  refine wp_seq ?_
  refine wp_region_lit ?_  -- region 1
  refine fx_val (v := .slice A bs.length cap) fr rfl rfl (by first | decide | simp) (x_move rfl (fr.ev rfl)) ?_
  clear fr a; intro a fr
  refine fx_append (E := byE) (l := []) (l' := bs) elBy fr rfl rfl (by decide) rfl rfl (fr.ev rfl) (by first | rfl | (simp; done) | (simp; omega)) (by first | rfl | (simp; done) | (simp; omega)) Own.nil hV (by first | omega | (simp only [List.length_replicate, List.length_cons, List.length_nil]; omega) | (simp; omega)) (by first | (unfold maxLen; done) | (unfold maxLen; first | omega | (simp only [List.length_append, List.length_cons, List.length_nil]; omega) | (simp; done) | (simp; omega))) ?_
  clear fr a
  intro A6 cap7 w8 O9 hO10 mv11 a fr
  have ap2_A6_A : Apart2 A6 A := moved_apart2 mv11 (fun k h _ => apart_none k h) fun _ hg => hV.lt hg
  have ap_A6_b1 : Apart A6 b1 := moved_apart mv11 (apart_none b1) B4.lt
  have gA_A6 := gA_moved hF mv11 gA_none
  have gN_A6 := fun g (hg : inA A6 g) => (mv11 g hg).elim (fun h => absurd h (apart_none g)) (fun h => Nat.le_trans hF.size h)
  replace hO10 := only_none hO10
  replace hV := hV.new hO10
  replace B4 := B4.new hO10
  replace hF := hF.trNew hO10
  simp only [List.nil_append] at fr O9
  refine fx_val (v := .agg (#[.slice A6 bs.length cap7, .slice none 0 0])) fr rfl rfl (by first | decide | simp) (x_build (cells := #[.slice A6 bs.length cap7, .slice none 0 0]) rfl (by simp only [List.map_toArray, List.map_cons, List.map_nil, show a.eval (.tmp 6) = .slice A6 bs.length cap7 from fr.ev rfl]; kernel_rfl)) ?_
  clear fr a; intro a fr
  refine fx_new fr rfl rfl (by first | decide | simp) (x_alloc (z := .agg (#[.slice none 0 0, .slice none 0 0])) (cs := #[.slice none 0 0, .slice none 0 0]) rfl (by kernel_rfl) rfl) ?_
  clear fr a
  intro b12 w13 hN14 B15 hb16 a fr
  have ap_A_b12 : Apart A b12 := hV.apart hb16
  have ne_b1_b12 : NE b1 b12 := NE.mk (Nat.lt_of_lt_of_le B4.lt hb16)
  have ap_A6_b12 : Apart A6 b12 := O9.apart hb16
  have g_b12 := Nat.le_trans hF.size hb16
  replace hV := hV.new hN14
  replace B4 := B4.new hN14
  replace O9 := O9.new hN14
  replace hF := hF.trNew hN14
  refine fx_storeS sz28 rfl rfl rfl (fr.ev rfl) (fr.ev rfl) (by simp [Value.oneCell']) B15 rfl rfl fun w17 hO18 hBq => ?_
  replace hV := hV.only hO18 (Apart.ne1 ap_A_b12)
  replace B4 := B4.only hO18 (by first | exact ne_b1_b12 | exact ne_b12_b1.symm | (show ¬ b1 = b12; omega))
  replace O9 := O9.only hO18 (Apart.ne1 ap_A6_b12)
  replace hF := hF.loc hO18 (.inr g_b12)
  replace B15 := hBq
  clear hBq
  refine wpList_nil ?_
  refine fx_next ?_
  refine wp_seq ?_
  refine wp_seq ?_
  refine wp_region_lit ?_  -- region 2
  refine fx_val (v := .int .i64 0) fr rfl rfl (by first | decide | simp) (x_assign rfl rfl) ?_
  clear fr a; intro a fr
  refine wpList_nil ?_
  refine fx_next ?_
  refine wp_block ?_
  refine fx_loop (fun nM a wL => ∃ i : Nat, ∃ Bq : Option Addr, ∃ cbq : Nat, nM = bs.length / 16 - i ∧ Fr (22, []) [(0, .slice A bs.length cap), (2, .pointer (some ⟨b1, 0, none⟩)), (3, .pointer (some ⟨b12, 0, none⟩)), (4, .int .i64 ((i : Nat) : Int))] a ∧ Only (fun _ => False) w wL ∧ View byE wL A cap bs ∧ Blk wL b1 28 (#[.slice none 0 0, .slice none 0 0]) ∧ Own byE wL A6 cap7 bs ∧ Blk wL b12 28 (#[.slice A6 bs.length cap7, .slice Bq i cbq]) ∧ Own ecE wL Bq cbq (List.replicate i ec0) ∧ i ≤ bs.length / 16 ∧ (Apart2 A Bq) ∧ (Apart Bq b1) ∧ (Apart2 A6 Bq) ∧ (Apart Bq b12) ∧ (∀ g, inA Bq g → (fun _ => False) g ∨ w.heap.size ≤ g)) (n0 := _) ⟨0, none, 0, rfl, fr.sub ⟨rfl, rfl, rfl, rfl, trivial⟩, hF, hV, B4, O9, B15, Own.nil, by omega, (fun k _ h => apart_none k h), (apart_none b1), (fun k _ h => apart_none k h), (apart_none b12), gA_none⟩ ?_
  rintro n20 a w19 ⟨i, Bq, cbq, rfl, fr, hF, hV, B4, O9, B15, OE, hi, ap2_A_Bq, ap_Bq_b1, ap2_A6_Bq, ap_Bq_b12, gA_Bq⟩
  refine wp_seq ?_
  refine wp_seq ?_
  refine wp_region_lit ?_  -- region 3
  refine fx_val (v := .int .i64 ((i : Nat) : Int)) fr rfl rfl (by first | decide | simp) (x_move rfl (fr.ev rfl)) ?_
  clear fr a; intro a fr
  refine fx_val (v := .slice A bs.length cap) fr rfl rfl (by first | decide | simp) (x_move rfl (fr.ev rfl)) ?_
  clear fr a; intro a fr
  refine fx_val (v := .int .i64 ((bs.length : Nat) : Int)) fr rfl rfl (by first | decide | simp) (x_len Try.underlying22 rfl (fr.ev rfl)) ?_
  clear fr a; intro a fr
  refine fx_val (v := .int .i64 ((bs.length / 16 : Nat) : Int)) fr rfl rfl (by first | decide | simp) (x_quo rfl (fr.ev rfl) rfl (by decide) (quo_nat _ _ (by omega))) ?_
  clear fr a; intro a fr
  refine fx_val (v := .bool (decide (((i : Nat) : Int) < ((bs.length / 16 : Nat) : Int)))) fr rfl rfl (by first | decide | simp) (x_lss rfl (fr.ev rfl) (fr.ev rfl) rfl) ?_
  clear fr a; intro a fr
  refine wpList_nil ?_
  refine fx_next ?_
  refine fx_cond fr rfl (fun hc21 => ?_) (fun hc21 => ?_)
  · skip
    have hc21 := of_decide_eq_true hc21
    refine wp_skip ?_
    refine fx_next ?_
    refine wp_seq ?_
    refine wp_block ?_
    refine wp_region_lit ?_  -- region 5
    refine fx_val (v := .pointer (some ⟨b12, 1, none⟩)) fr rfl rfl (by first | decide | simp) (x_fieldAddr fo28_1 rfl (fr.ev rfl) rfl) ?_
    clear fr a; intro a fr
    refine fx_val (v := .slice Bq i cbq) fr rfl rfl (by first | decide | simp) (x_load1 pl26 rfl (fr.ev rfl) (B15.cell 1 rfl)) ?_
    clear fr a; intro a fr
    refine fx_val (v := .agg (#[.int .i64 (-1), .bool false, .bool false, .bool false, .bool false, .bool false, .int .i64 0, .int .i64 0, .int .i64 0, .bool false, .slice none 0 0])) fr rfl rfl (by first | decide | simp) (x_build (cells := #[.int .i64 (-1), .bool false, .bool false, .bool false, .bool false, .bool false, .int .i64 0, .int .i64 0, .int .i64 0, .bool false, .slice none 0 0]) rfl (by kernel_rfl)) ?_
    clear fr a; intro a fr
    refine fx_build1 (E := ecE) (p := ec0) elEc (by decide) fr rfl rfl (by decide) rfl (fr.ev rfl) ?_
    clear fr a
    intro A22 w23 hN24 O25 hA26 a fr
    have ap2_A_A22 : Apart2 A A22 := (new_apart2 hA26 fun _ hg => hV.lt hg).symm
    have ap_A22_b1 : Apart A22 b1 := new_apart hA26 B4.lt
    have ap2_A6_A22 : Apart2 A6 A22 := (new_apart2 hA26 fun _ hg => O9.lt hg).symm
    have ap_A22_b12 : Apart A22 b12 := new_apart hA26 B15.lt
    have ap2_Bq_A22 : Apart2 Bq A22 := (new_apart2 hA26 fun _ hg => OE.lt hg).symm
    have gA_A22 := gA_new hF hA26
    have gN_A22 := fun g (hg : inA A22 g) => Nat.le_trans hF.size (hA26 g hg)
    replace hV := hV.new hN24
    replace B4 := B4.new hN24
    replace O9 := O9.new hN24
    replace B15 := B15.new hN24
    replace OE := OE.new hN24
    replace hF := hF.trNew hN24
    refine fx_append (E := ecE) (l := (List.replicate i ec0)) (l' := [ec0]) elEc fr rfl rfl (by decide) rfl (fr.ev rfl) (fr.ev rfl) (by first | rfl | (simp; done) | (simp; omega)) (by first | rfl | (simp; done) | (simp; omega)) OE O25.view (by first | omega | (simp only [List.length_replicate, List.length_cons, List.length_nil]; omega) | (simp; omega)) (by first | (unfold maxLen; done) | (unfold maxLen; first | omega | (simp only [List.length_append, List.length_cons, List.length_nil]; omega) | (simp; done) | (simp; omega))) ?_
    clear fr a
    intro A27 cap28 w29 O30 hO31 mv32 a fr
    have ap2_A27_A : Apart2 A27 A := moved_apart2 mv32 ap2_A_Bq.symm fun _ hg => hV.lt hg
    have ap_A27_b1 : Apart A27 b1 := moved_apart mv32 ap_Bq_b1 B4.lt
    have ap2_A27_A6 : Apart2 A27 A6 := moved_apart2 mv32 ap2_A6_Bq.symm fun _ hg => O9.lt hg
    have ap_A27_b12 : Apart A27 b12 := moved_apart mv32 ap_Bq_b12 B15.lt
    have ap2_A27_A22 : Apart2 A27 A22 := moved_apart2 mv32 ap2_Bq_A22 fun _ hg => O25.lt hg
    have gA_A27 := gA_moved hF mv32 gA_Bq
    replace hV := hV.only hO31 (fun g h1 h2 => ap2_A_Bq g h1 h2)
    replace B4 := B4.only hO31 ap_Bq_b1
    replace O9 := O9.only hO31 (fun g h1 h2 => ap2_A6_Bq g h1 h2)
    replace B15 := B15.only hO31 ap_Bq_b12
    replace O25 := O25.only hO31 (fun g h1 h2 => ap2_Bq_A22.symm g h1 h2)
    replace hF := hF.locA hO31 gA_Bq
    clear OE
    refine fx_val (v := .pointer (some ⟨b12, 1, none⟩)) fr rfl rfl (by first | decide | simp) (x_fieldAddr fo28_1 rfl (fr.ev rfl) rfl) ?_
    clear fr a; intro a fr
    refine fx_store1 sz26 rfl rfl rfl (fr.ev rfl) (fr.ev rfl) rfl B15 (show 1 < 2 by decide) (cs' := #[.slice A6 bs.length cap7, .slice A27 (((List.replicate i ec0) ++ ([ec0])).length) cap28]) rfl fun w33 hO34 hBq => ?_
    replace hV := hV.only hO34 (Apart.ne1 ap_A_b12)
    replace B4 := B4.only hO34 (by first | exact ne_b1_b12 | exact ne_b12_b1.symm | (show ¬ b1 = b12; omega))
    replace O9 := O9.only hO34 (Apart.ne1 ap_A6_b12)
    replace O25 := O25.only hO34 (Apart.ne1 ap_A22_b12)
    replace O30 := O30.only hO34 (Apart.ne1 ap_A27_b12)
    replace hF := hF.loc hO34 (.inr g_b12)
    replace B15 := hBq
    clear hBq
    refine wpList_nil ?_
    refine fx_blk ?_
    refine fx_next ?_
    refine wp_region_lit ?_  -- region 4
    refine fx_val (v := .int .i64 ((i : Nat) : Int)) fr rfl rfl (by first | decide | simp) (x_move rfl (fr.ev rfl)) ?_
    clear fr a; intro a fr
    refine fx_val (v := .int .i64 ((i + 1 : Nat) : Int)) fr rfl rfl (by first | decide | simp) (x_add rfl (fr.ev rfl) rfl (i64w (r := ((i + 1 : Nat) : Int)) (by omega) (by omega))) ?_
    clear fr a; intro a fr
    refine fx_val (v := .int .i64 ((i + 1 : Nat) : Int)) fr rfl rfl (by first | decide | simp) (x_assign rfl (fr.ev rfl)) ?_
    clear fr a; intro a fr
    refine wpList_nil ?_
    refine fx_next ?_
    exact ⟨_, by omega, (i + 1), A27, cap28, rfl, fr.sub ⟨rfl, rfl, rfl, rfl, trivial⟩, hF, hV, B4, O9, (by have h9 := B15; rw [List.length_append, List.length_replicate] at h9; exact h9), (by have h9 := O30; rw [← List.replicate_succ'] at h9; exact h9), by omega, ap2_A27_A.symm, ap_A27_b1, ap2_A27_A6.symm, ap_A27_b12, gA_A27⟩
  · skip
    have hc21 := of_decide_eq_false hc21
    refine wp_exit ?_
    refine fx_xt ?_
    refine fx_xt ?_
    refine fx_xx ?_
    refine fx_next ?_
    refine wp_seq ?_
    refine wp_region_lit ?_  -- region 6
    refine fx_val (v := .agg (#[.slice A6 bs.length cap7, .slice Bq i cbq])) fr rfl rfl (by first | decide | simp) (x_loadS ag28 rfl (fr.ev rfl) rfl B15.range) ?_
    clear fr a; intro a fr
    refine fx_storeS sz28 rfl rfl rfl (fr.ev rfl) (fr.ev rfl) (by simp [Value.oneCell']) B4 rfl rfl fun w35 hO36 hBq => ?_
    replace hV := hV.only hO36 (Apart.ne1 ap_A_b1)
    replace O9 := O9.only hO36 (Apart.ne1 ap_A6_b1)
    replace B15 := B15.only hO36 (by first | exact ne_b12_b1 | exact ne_b1_b12.symm | (show ¬ b12 = b1; omega))
    replace OE := OE.only hO36 (Apart.ne1 ap_Bq_b1)
    replace hF := hF.loc hO36 (.inr g_b1)
    replace B4 := hBq
    clear hBq
    refine wpList_nil ?_
    refine fx_next ?_
    refine wp_ret ?_
    refine fx_ret fr [.cell 2 28] [.agg (#[.slice A6 bs.length cap7, .slice Bq i cbq])] rfl ⟨⟨_, rfl, x_loadV ag28 rfl B4.range⟩, trivial⟩ rfl ?_
    obtain rfl : i = bs.length / 16 := by omega
    exact ⟨_, rfl, A6, cap7, Bq, cbq, rfl, O9.view, OE.view, gN_A6, fun g hg => (gA_Bq g hg).resolve_left (fun h => h), hF⟩
end Go.Proofs.Ytdiaemlgghfecaa
namespace Go.Proofs.Ytdiaemlgghfecaa
open Go.RowKit
set_option maxRecDepth 100000 in
set_option maxHeartbeats 4000000 in
theorem made_1 {w : World} {A : Option Addr} {cap : Nat} {bs : List UInt8} (hV : View byE w A cap bs) (hok : okSize (bs.length : Int) = true) (h128 : ¬ 128 < ((bs.length : Nat) : Int)) : Calls Try.prog 9 #[.slice A bs.length cap] w (Ret fun v w' => ∃ b Fp A1 c1 B1 cb1 FR, v = .tuple #[.pointer (some ⟨b, 0, none⟩), .agg #[.slice A1 bs.length c1, .slice B1 (bs.length / 16) cb1], .bool true] ∧ HomeAt w' Fp b (home0 bs) ∧ RefH w' FR A1 c1 B1 cb1 (home0 bs) ∧ (∀ g, Fp g → w.heap.size ≤ g) ∧ (∀ g, FR g → w.heap.size ≤ g) ∧ (∀ k, Fp k → FR k → False) ∧ New w w') := by
  have hF := Only.refl (fun _ => False) w
  refine fx_enter Try.func9 rfl (N := (36, [])) (T := [(0, .slice A bs.length cap)]) rfl (show 1 ≤ 36 by decide) ⟨rfl, trivial⟩ fun a fr => ?_
  refine wp_seq ?_
  refine wp_region_lit ?_  -- region 0
  refine fx_val (v := .pointer none) fr rfl rfl (by first | decide | simp) (x_assign rfl rfl) ?_
  clear fr a; intro a fr
  refine fx_new fr rfl rfl (by first | decide | simp) (x_alloc (z := .agg (#[.slice none 0 0, .slice none 0 0])) (cs := #[.slice none 0 0, .slice none 0 0]) rfl (by kernel_rfl) rfl) ?_
  clear fr a
  intro b1 w2 hN3 B4 hb5 a fr
  have ap_A_b1 : Apart A b1 := hV.apart hb5
  have g_b1 := Nat.le_trans hF.size hb5
  replace hV := hV.new hN3
  replace hF := hF.trNew hN3
  refine fx_val (v := .bool false) fr rfl rfl (by first | decide | simp) (x_assign rfl rfl) ?_
  clear fr a; intro a fr
  refine wpList_nil ?_
  refine fx_next ?_
  refine wp_seq ?_
  refine wp_region_lit ?_  -- region 1
  refine fx_val (v := .slice A bs.length cap) fr rfl rfl (by first | decide | simp) (x_move rfl (fr.ev rfl)) ?_
  clear fr a; intro a fr
  refine fx_call fr rfl rfl (by first | decide | simp) (x_call (vs := [.slice A bs.length cap]) rfl rfl ⟨(fr.ev rfl), trivial⟩ Try.func25 nm25 rfl) (imgof_yes hV hok) ?_
  clear fr a
  rintro v w13 ⟨bi6, ig7, cap8, rfl, hI9, hb10, hg11, hne12, hN14⟩ a fr
  have ap_A_bi6 : Apart A bi6 := hV.apart hb10
  have ne_b1_bi6 : NE b1 bi6 := NE.mk (Nat.lt_of_lt_of_le B4.lt hb10)
  have g_bi6 := Nat.le_trans hF.size hb10
  have ap_A_ig7 : Apart A ig7 := hV.apart hg11
  have ne_b1_ig7 : NE b1 ig7 := NE.mk (Nat.lt_of_lt_of_le B4.lt hg11)
  have g_ig7 := Nat.le_trans hF.size hg11
  replace hV := hV.new hN14
  replace B4 := B4.new hN14
  replace hF := hF.trNew hN14
  have ne_bi6_ig7 := hne12
  refine fx_val (v := .tuple #[.pointer (some ⟨bi6, 0, none⟩), .int .i64 0]) fr rfl rfl (by first | decide | simp) (x_move rfl (fr.ev rfl)) ?_
  clear fr a; intro a fr
  refine fx_val (v := .pointer (some ⟨bi6, 0, none⟩)) fr rfl rfl (by first | decide | simp) (x_extract rfl (fr.ev rfl) rfl) ?_
  clear fr a; intro a fr
  refine fx_val (v := .int .i64 0) fr rfl rfl (by first | decide | simp) (x_extract rfl (fr.ev rfl) rfl) ?_
  clear fr a; intro a fr
  refine fx_val (v := .pointer (some ⟨bi6, 0, none⟩)) fr rfl rfl (by first | decide | simp) (x_assign rfl (fr.ev rfl)) ?_
  clear fr a; intro a fr
  refine fx_val (v := .int .i64 0) fr rfl rfl (by first | decide | simp) (x_assign rfl (fr.ev rfl)) ?_
  clear fr a; intro a fr
  refine wpList_nil ?_
  refine fx_next ?_
  refine wp_seq ?_
  refine wp_seq ?_
  refine wp_region_lit ?_  -- region 2
  refine fx_val (v := .int .i64 0) fr rfl rfl (by first | decide | simp) (x_move rfl (fr.ev rfl)) ?_
  clear fr a; intro a fr
  refine fx_val (v := .bool false) fr rfl rfl (by first | decide | simp) (x_neq rfl (fr.ev rfl) rfl rfl) ?_
  clear fr a; intro a fr
  refine fx_val (v := .bool false) fr rfl rfl (by first | decide | simp) (x_move rfl (fr.ev rfl)) ?_
  clear fr a; intro a fr
  refine fx_val (v := .slice A bs.length cap) fr (fr.want rfl rfl rfl) rfl (by first | decide | simp) (x_move rfl (fr.ev rfl)) ?_
  clear fr a; intro a fr
  refine fx_val (v := .int .i64 ((bs.length : Nat) : Int)) fr (fr.want rfl rfl rfl) rfl (by first | decide | simp) (x_len Try.underlying22 rfl (fr.ev rfl)) ?_
  clear fr a; intro a fr
  refine fx_val (v := .bool false) fr (fr.want rfl rfl rfl) rfl (by first | decide | simp) (x_gtr rfl (fr.ev rfl) rfl (decide_eq_false h128)) ?_
  clear fr a; intro a fr
  refine fx_val (v := .bool false) fr rfl rfl (by first | decide | simp) (x_pick_f rfl (fr.ev rfl) (fr.ev rfl)) ?_
  clear fr a; intro a fr
  refine wpList_nil ?_
  refine fx_next ?_
  refine fx_cond_f fr rfl ?_
  refine wp_skip ?_
  refine fx_next ?_
  refine wp_seq ?_
  refine wp_region_lit ?_  -- region 4
  refine fx_val (v := .pointer (some ⟨bi6, 0, none⟩)) fr rfl rfl (by first | decide | simp) (x_move rfl (fr.ev rfl)) ?_
  clear fr a; intro a fr
  refine fx_call fr rfl rfl (by first | decide | simp) (x_call (vs := [.pointer (some ⟨bi6, 0, none⟩)]) rfl rfl ⟨(fr.ev rfl), trivial⟩ Try.func22 nm22 rfl) (hnew_c hI9) ?_
  clear fr a
  rintro v w19 ⟨hb15, Fp16, rfl, H17, hf18, hN20⟩ a fr
  have ap2_A_Fp16 : ∀ k, inA A k → Fp16 k → False := symP (new_apart2P hf18 fun _ hg => hV.lt hg)
  have ap_Fp16_b1 : ¬ Fp16 b1 := new_apartP hf18 B4.lt
  have ap_Fp16_bi6 : ¬ Fp16 bi6 := new_apartP hf18 hI9.lt.1
  have ap_Fp16_ig7 : ¬ Fp16 ig7 := new_apartP hf18 hI9.lt.2
  have gA_Fp16 := gA_newP hF hf18
  have gN_Fp16 := fun g (hg : Fp16 g) => Nat.le_trans hF.size (hf18 g hg)
  replace hV := hV.new hN20
  replace B4 := B4.new hN20
  replace hI9 := hI9.new hN20
  replace hF := hF.trNew hN20
  refine fx_val (v := .tuple #[.pointer (some ⟨hb15, 0, none⟩), .int .i64 0]) fr rfl rfl (by first | decide | simp) (x_move rfl (fr.ev rfl)) ?_
  clear fr a; intro a fr
  refine fx_val (v := .pointer (some ⟨hb15, 0, none⟩)) fr rfl rfl (by first | decide | simp) (x_extract rfl (fr.ev rfl) rfl) ?_
  clear fr a; intro a fr
  refine fx_val (v := .int .i64 0) fr rfl rfl (by first | decide | simp) (x_extract rfl (fr.ev rfl) rfl) ?_
  clear fr a; intro a fr
  refine fx_val (v := .pointer (some ⟨hb15, 0, none⟩)) fr rfl rfl (by first | decide | simp) (x_assign rfl (fr.ev rfl)) ?_
  clear fr a; intro a fr
  refine fx_val (v := .int .i64 0) fr rfl rfl (by first | decide | simp) (x_assign rfl (fr.ev rfl)) ?_
  clear fr a; intro a fr
  refine wpList_nil ?_
  refine fx_next ?_
  refine wp_seq ?_
  refine wp_region_lit ?_  -- region 5
  refine fx_val (v := .pointer (some ⟨hb15, 0, none⟩)) fr rfl rfl (by first | decide | simp) (x_move rfl (fr.ev rfl)) ?_
  clear fr a; intro a fr
  refine fx_val (v := .slice A bs.length cap) fr rfl rfl (by first | decide | simp) (x_move rfl (fr.ev rfl)) ?_
  clear fr a; intro a fr
  refine fx_call fr rfl rfl (by first | decide | simp) (x_call (vs := [.slice A bs.length cap]) rfl rfl ⟨(fr.ev rfl), trivial⟩ Try.func26 nm26 rfl) (rnew_c hV (by omega)) ?_
  clear fr a
  rintro v w29 ⟨A21, cap22, B23, cb24, rfl, V25, V26, hA27, hB28, hN30⟩ a fr
  have ap2_A_A21 : Apart2 A A21 := (new_apart2 hA27 fun _ hg => hV.lt hg).symm
  have ap_A21_b1 : Apart A21 b1 := new_apart hA27 B4.lt
  have ap_A21_bi6 : Apart A21 bi6 := new_apart hA27 hI9.lt.1
  have ap_A21_ig7 : Apart A21 ig7 := new_apart hA27 hI9.lt.2
  have ap2_Fp16_A21 : ∀ k, Fp16 k → inA A21 k → False := symP (new_apart2P hA27 fun _ hg => H17.lt hg)
  have gA_A21 := gA_new hF hA27
  have gN_A21 := fun g (hg : inA A21 g) => Nat.le_trans hF.size (hA27 g hg)
  have ap2_A_B23 : Apart2 A B23 := (new_apart2 hB28 fun _ hg => hV.lt hg).symm
  have ap_B23_b1 : Apart B23 b1 := new_apart hB28 B4.lt
  have ap_B23_bi6 : Apart B23 bi6 := new_apart hB28 hI9.lt.1
  have ap_B23_ig7 : Apart B23 ig7 := new_apart hB28 hI9.lt.2
  have ap2_Fp16_B23 : ∀ k, Fp16 k → inA B23 k → False := symP (new_apart2P hB28 fun _ hg => H17.lt hg)
  have gA_B23 := gA_new hF hB28
  have gN_B23 := fun g (hg : inA B23 g) => Nat.le_trans hF.size (hB28 g hg)
  replace hV := hV.new hN30
  replace B4 := B4.new hN30
  replace hI9 := hI9.new hN30
  replace H17 := H17.new hN30
  replace hF := hF.trNew hN30
  refine fx_val (v := .int .i64 0) fr rfl rfl (by first | decide | simp) (x_move rfl (fr.ev rfl)) ?_
  clear fr a; intro a fr
  refine fx_val (v := .bool true) fr rfl rfl (by first | decide | simp) (x_eql rfl (fr.ev rfl) rfl rfl) ?_
  clear fr a; intro a fr
  refine fx_val (v := .bool true) fr rfl rfl (by first | decide | simp) (x_move rfl (fr.ev rfl)) ?_
  clear fr a; intro a fr
  refine fx_val (v := .pointer (some ⟨hb15, 0, none⟩)) fr (fr.want rfl rfl rfl) rfl (by first | decide | simp) (x_move rfl (fr.ev rfl)) ?_
  clear fr a; intro a fr
  refine fx_val (v := .bool true) fr (fr.want rfl rfl rfl) rfl (by first | decide | simp) (x_pneq Try.underlying25 rfl (fr.ev rfl) rfl rfl) ?_
  clear fr a; intro a fr
  refine fx_val (v := .bool true) fr rfl rfl (by first | decide | simp) (x_pick_t rfl (fr.ev rfl) (fr.ev rfl)) ?_
  clear fr a; intro a fr
  refine fx_val (v := .pointer (some ⟨hb15, 0, none⟩)) fr rfl rfl (by first | decide | simp) (x_assign rfl (fr.ev rfl)) ?_
  clear fr a; intro a fr
  refine fx_storeS sz28 rfl rfl rfl (fr.ev rfl) (fr.ev rfl) (by simp [Value.oneCell']) B4 rfl rfl fun w31 hO32 hBq => ?_
  replace hV := hV.only hO32 (Apart.ne1 ap_A_b1)
  replace hI9 := hI9.only hO32 (by first | exact ne_bi6_b1 | exact ne_b1_bi6.symm | (show ¬ bi6 = b1; omega)) (by first | exact ne_ig7_b1 | exact ne_b1_ig7.symm | (show ¬ ig7 = b1; omega))
  replace H17 := H17.only hO32 (ne1P ap_Fp16_b1)
  replace V25 := V25.only hO32 (Apart.ne1 ap_A21_b1)
  replace V26 := V26.only hO32 (Apart.ne1 ap_B23_b1)
  replace hF := hF.loc hO32 (.inr g_b1)
  replace B4 := hBq
  clear hBq
  refine fx_val (v := .bool true) fr rfl rfl (by first | decide | simp) (x_assign rfl (fr.ev rfl)) ?_
  clear fr a; intro a fr
  refine wpList_nil ?_
  refine fx_next ?_
  refine wp_ret ?_
  refine fx_ret fr [.tmp 2, .cell 3 28, .tmp 4] [.pointer (some ⟨hb15, 0, none⟩), .agg (#[.slice A21 bs.length cap22, .slice B23 (bs.length / 16) cb24]), .bool true] rfl ⟨rfl, ⟨_, rfl, x_loadV ag28 rfl B4.range⟩, rfl, trivial⟩ rfl ?_
  exact ⟨_, rfl, hb15, Fp16, A21, cap22, B23, cb24, _, rfl, H17, ref_new V25 V26, gN_Fp16, fun g hg => hg.elim (gN_A21 g) (gN_B23 g), fun k h1 h2 => h2.elim (ap2_Fp16_A21 k h1) (ap2_Fp16_B23 k h1), hF⟩
set_option maxRecDepth 100000 in
set_option maxHeartbeats 4000000 in
theorem made_2 {w : World} {A : Option Addr} {cap : Nat} {bs : List UInt8} (hV : View byE w A cap bs) (hok : okSize (bs.length : Int) = true) (h128 : 128 < ((bs.length : Nat) : Int)) : Calls Try.prog 9 #[.slice A bs.length cap] w (Ret fun v w' => v = .tuple #[.pointer none, .agg #[.slice none 0 0, .slice none 0 0], .bool false] ∧ New w w') := by
  have hF := Only.refl (fun _ => False) w
  refine fx_enter Try.func9 rfl (N := (36, [])) (T := [(0, .slice A bs.length cap)]) rfl (show 1 ≤ 36 by decide) ⟨rfl, trivial⟩ fun a fr => ?_
  refine wp_seq ?_
  refine wp_region_lit ?_  -- region 0
  refine fx_val (v := .pointer none) fr rfl rfl (by first | decide | simp) (x_assign rfl rfl) ?_
  clear fr a; intro a fr
  refine fx_new fr rfl rfl (by first | decide | simp) (x_alloc (z := .agg (#[.slice none 0 0, .slice none 0 0])) (cs := #[.slice none 0 0, .slice none 0 0]) rfl (by kernel_rfl) rfl) ?_
  clear fr a
  intro b1 w2 hN3 B4 hb5 a fr
  have ap_A_b1 : Apart A b1 := hV.apart hb5
  have g_b1 := Nat.le_trans hF.size hb5
  replace hV := hV.new hN3
  replace hF := hF.trNew hN3
  refine fx_val (v := .bool false) fr rfl rfl (by first | decide | simp) (x_assign rfl rfl) ?_
  clear fr a; intro a fr
  refine wpList_nil ?_
  refine fx_next ?_
  refine wp_seq ?_
  refine wp_region_lit ?_  -- region 1
  refine fx_val (v := .slice A bs.length cap) fr rfl rfl (by first | decide | simp) (x_move rfl (fr.ev rfl)) ?_
  clear fr a; intro a fr
  refine fx_call fr rfl rfl (by first | decide | simp) (x_call (vs := [.slice A bs.length cap]) rfl rfl ⟨(fr.ev rfl), trivial⟩ Try.func25 nm25 rfl) (imgof_yes hV hok) ?_
  clear fr a
  rintro v w13 ⟨bi6, ig7, cap8, rfl, hI9, hb10, hg11, hne12, hN14⟩ a fr
  have ap_A_bi6 : Apart A bi6 := hV.apart hb10
  have ne_b1_bi6 : NE b1 bi6 := NE.mk (Nat.lt_of_lt_of_le B4.lt hb10)
  have g_bi6 := Nat.le_trans hF.size hb10
  have ap_A_ig7 : Apart A ig7 := hV.apart hg11
  have ne_b1_ig7 : NE b1 ig7 := NE.mk (Nat.lt_of_lt_of_le B4.lt hg11)
  have g_ig7 := Nat.le_trans hF.size hg11
  replace hV := hV.new hN14
  replace B4 := B4.new hN14
  replace hF := hF.trNew hN14
  have ne_bi6_ig7 := hne12
  refine fx_val (v := .tuple #[.pointer (some ⟨bi6, 0, none⟩), .int .i64 0]) fr rfl rfl (by first | decide | simp) (x_move rfl (fr.ev rfl)) ?_
  clear fr a; intro a fr
  refine fx_val (v := .pointer (some ⟨bi6, 0, none⟩)) fr rfl rfl (by first | decide | simp) (x_extract rfl (fr.ev rfl) rfl) ?_
  clear fr a; intro a fr
  refine fx_val (v := .int .i64 0) fr rfl rfl (by first | decide | simp) (x_extract rfl (fr.ev rfl) rfl) ?_
  clear fr a; intro a fr
  refine fx_val (v := .pointer (some ⟨bi6, 0, none⟩)) fr rfl rfl (by first | decide | simp) (x_assign rfl (fr.ev rfl)) ?_
  clear fr a; intro a fr
  refine fx_val (v := .int .i64 0) fr rfl rfl (by first | decide | simp) (x_assign rfl (fr.ev rfl)) ?_
  clear fr a; intro a fr
  refine wpList_nil ?_
  refine fx_next ?_
  refine wp_seq ?_
  refine wp_seq ?_
  refine wp_region_lit ?_  -- region 2
  refine fx_val (v := .int .i64 0) fr rfl rfl (by first | decide | simp) (x_move rfl (fr.ev rfl)) ?_
  clear fr a; intro a fr
  refine fx_val (v := .bool false) fr rfl rfl (by first | decide | simp) (x_neq rfl (fr.ev rfl) rfl rfl) ?_
  clear fr a; intro a fr
  refine fx_val (v := .bool false) fr rfl rfl (by first | decide | simp) (x_move rfl (fr.ev rfl)) ?_
  clear fr a; intro a fr
  refine fx_val (v := .slice A bs.length cap) fr (fr.want rfl rfl rfl) rfl (by first | decide | simp) (x_move rfl (fr.ev rfl)) ?_
  clear fr a; intro a fr
  refine fx_val (v := .int .i64 ((bs.length : Nat) : Int)) fr (fr.want rfl rfl rfl) rfl (by first | decide | simp) (x_len Try.underlying22 rfl (fr.ev rfl)) ?_
  clear fr a; intro a fr
  refine fx_val (v := .bool true) fr (fr.want rfl rfl rfl) rfl (by first | decide | simp) (x_gtr rfl (fr.ev rfl) rfl (decide_eq_true h128)) ?_
  clear fr a; intro a fr
  refine fx_val (v := .bool true) fr rfl rfl (by first | decide | simp) (x_pick_f rfl (fr.ev rfl) (fr.ev rfl)) ?_
  clear fr a; intro a fr
  refine wpList_nil ?_
  refine fx_next ?_
  refine fx_cond_t fr rfl ?_
  refine wp_seq ?_
  refine wp_region_lit ?_  -- region 3
  refine fx_val (v := .agg (#[.slice none 0 0, .slice none 0 0])) fr rfl rfl (by first | decide | simp) (x_build (cells := #[.slice none 0 0, .slice none 0 0]) rfl (by kernel_rfl)) ?_
  clear fr a; intro a fr
  refine fx_val (v := .pointer none) fr rfl rfl (by first | decide | simp) (x_assign rfl rfl) ?_
  clear fr a; intro a fr
  refine fx_storeS sz28 rfl rfl rfl (fr.ev rfl) (fr.ev rfl) (by simp [Value.oneCell']) B4 rfl rfl fun w15 hO16 hBq => ?_
  replace hV := hV.only hO16 (Apart.ne1 ap_A_b1)
  replace hI9 := hI9.only hO16 (by first | exact ne_bi6_b1 | exact ne_b1_bi6.symm | (show ¬ bi6 = b1; omega)) (by first | exact ne_ig7_b1 | exact ne_b1_ig7.symm | (show ¬ ig7 = b1; omega))
  replace hF := hF.loc hO16 (.inr g_b1)
  replace B4 := hBq
  clear hBq
  refine fx_val (v := .bool false) fr rfl rfl (by first | decide | simp) (x_assign rfl rfl) ?_
  clear fr a; intro a fr
  refine wpList_nil ?_
  refine fx_next ?_
  refine wp_ret ?_
  refine fx_rt ?_
  refine fx_ret fr [.tmp 2, .cell 3 28, .tmp 4] [.pointer none, .agg (#[.slice none 0 0, .slice none 0 0]), .bool false] rfl ⟨rfl, ⟨_, rfl, x_loadV ag28 rfl B4.range⟩, rfl, trivial⟩ rfl ?_
  exact ⟨_, rfl, rfl, hF⟩
set_option maxRecDepth 100000 in
set_option maxHeartbeats 4000000 in
theorem made_3 {w : World} {A : Option Addr} {cap : Nat} {bs : List UInt8} (hV : View byE w A cap bs) (hok : okSize (bs.length : Int) = false) : Calls Try.prog 9 #[.slice A bs.length cap] w (Ret fun v w' => v = .tuple #[.pointer none, .agg #[.slice none 0 0, .slice none 0 0], .bool false] ∧ New w w') := by
  have hF := Only.refl (fun _ => False) w
  refine fx_enter Try.func9 rfl (N := (36, [])) (T := [(0, .slice A bs.length cap)]) rfl (show 1 ≤ 36 by decide) ⟨rfl, trivial⟩ fun a fr => ?_
  refine wp_seq ?_
  refine wp_region_lit ?_  -- region 0
  refine fx_val (v := .pointer none) fr rfl rfl (by first | decide | simp) (x_assign rfl rfl) ?_
  clear fr a; intro a fr
  refine fx_new fr rfl rfl (by first | decide | simp) (x_alloc (z := .agg (#[.slice none 0 0, .slice none 0 0])) (cs := #[.slice none 0 0, .slice none 0 0]) rfl (by kernel_rfl) rfl) ?_
  clear fr a
  intro b1 w2 hN3 B4 hb5 a fr
  have ap_A_b1 : Apart A b1 := hV.apart hb5
  have g_b1 := Nat.le_trans hF.size hb5
  replace hV := hV.new hN3
  replace hF := hF.trNew hN3
  refine fx_val (v := .bool false) fr rfl rfl (by first | decide | simp) (x_assign rfl rfl) ?_
  clear fr a; intro a fr
  refine wpList_nil ?_
  refine fx_next ?_
  refine wp_seq ?_
  refine wp_region_lit ?_  -- region 1
  refine fx_val (v := .slice A bs.length cap) fr rfl rfl (by first | decide | simp) (x_move rfl (fr.ev rfl)) ?_
  clear fr a; intro a fr
  refine fx_call fr rfl rfl (by first | decide | simp) (x_call (vs := [.slice A bs.length cap]) rfl rfl ⟨(fr.ev rfl), trivial⟩ Try.func25 nm25 rfl) (imgof_no hok _) ?_
  clear fr a
  rintro v w9 ⟨rfl, hw9⟩ a fr
  obtain rfl := hw9.symm
  refine fx_val (v := .tuple #[.pointer none, .int .i64 2]) fr rfl rfl (by first | decide | simp) (x_move rfl (fr.ev rfl)) ?_
  clear fr a; intro a fr
  refine fx_val (v := .pointer none) fr rfl rfl (by first | decide | simp) (x_extract rfl (fr.ev rfl) rfl) ?_
  clear fr a; intro a fr
  refine fx_val (v := .int .i64 2) fr rfl rfl (by first | decide | simp) (x_extract rfl (fr.ev rfl) rfl) ?_
  clear fr a; intro a fr
  refine fx_val (v := .pointer none) fr rfl rfl (by first | decide | simp) (x_assign rfl (fr.ev rfl)) ?_
  clear fr a; intro a fr
  refine fx_val (v := .int .i64 2) fr rfl rfl (by first | decide | simp) (x_assign rfl (fr.ev rfl)) ?_
  clear fr a; intro a fr
  refine wpList_nil ?_
  refine fx_next ?_
  refine wp_seq ?_
  refine wp_seq ?_
  refine wp_region_lit ?_  -- region 2
  refine fx_val (v := .int .i64 2) fr rfl rfl (by first | decide | simp) (x_move rfl (fr.ev rfl)) ?_
  clear fr a; intro a fr
  refine fx_val (v := .bool true) fr rfl rfl (by first | decide | simp) (x_neq rfl (fr.ev rfl) rfl rfl) ?_
  clear fr a; intro a fr
  refine fx_val (v := .bool true) fr rfl rfl (by first | decide | simp) (x_move rfl (fr.ev rfl)) ?_
  clear fr a; intro a fr
  refine fx_skip fr (fr.unwant rfl rfl rfl (by decide)) rfl (by first | decide | simp) ?_
  clear fr a; intro a fr
  refine fx_skip fr (fr.unwant rfl rfl rfl (by decide)) rfl (by first | decide | simp) ?_
  clear fr a; intro a fr
  refine fx_skip fr (fr.unwant rfl rfl rfl (by decide)) rfl (by first | decide | simp) ?_
  clear fr a; intro a fr
  refine fx_val (v := .bool true) fr rfl rfl (by first | decide | simp) (x_pick_t rfl (fr.ev rfl) rfl) ?_
  clear fr a; intro a fr
  refine wpList_nil ?_
  refine fx_next ?_
  refine fx_cond_t fr rfl ?_
  refine wp_seq ?_
  refine wp_region_lit ?_  -- region 3
  refine fx_val (v := .agg (#[.slice none 0 0, .slice none 0 0])) fr rfl rfl (by first | decide | simp) (x_build (cells := #[.slice none 0 0, .slice none 0 0]) rfl (by kernel_rfl)) ?_
  clear fr a; intro a fr
  refine fx_val (v := .pointer none) fr rfl rfl (by first | decide | simp) (x_assign rfl rfl) ?_
  clear fr a; intro a fr
  refine fx_storeS sz28 rfl rfl rfl (fr.ev rfl) (fr.ev rfl) (by simp [Value.oneCell']) B4 rfl rfl fun w8 hO9 hBq => ?_
  replace hV := hV.only hO9 (Apart.ne1 ap_A_b1)
  replace hF := hF.loc hO9 (.inr g_b1)
  replace B4 := hBq
  clear hBq
  refine fx_val (v := .bool false) fr rfl rfl (by first | decide | simp) (x_assign rfl rfl) ?_
  clear fr a; intro a fr
  refine wpList_nil ?_
  refine fx_next ?_
  refine wp_ret ?_
  refine fx_rt ?_
  refine fx_ret fr [.tmp 2, .cell 3 28, .tmp 4] [.pointer none, .agg (#[.slice none 0 0, .slice none 0 0]), .bool false] rfl ⟨rfl, ⟨_, rfl, x_loadV ag28 rfl B4.range⟩, rfl, trivial⟩ rfl ?_
  exact ⟨_, rfl, rfl, hF⟩
theorem made_yes {w : World} {A : Option Addr} {cap : Nat} {bs : List UInt8} (hV : View byE w A cap bs) (hs : sizeB bs = true) : Calls Try.prog 9 #[.slice A bs.length cap] w (Ret fun v w' => ∃ b Fp A1 c1 B1 cb1 FR, v = .tuple #[.pointer (some ⟨b, 0, none⟩), .agg #[.slice A1 bs.length c1, .slice B1 (bs.length / 16) cb1], .bool true] ∧ HomeAt w' Fp b (home0 bs) ∧ RefH w' FR A1 c1 B1 cb1 (home0 bs) ∧ (∀ g, Fp g → w.heap.size ≤ g) ∧ (∀ g, FR g → w.heap.size ≤ g) ∧ (∀ k, Fp k → FR k → False) ∧ New w w') := by
  simp only [sizeB, Bool.and_eq_true, decide_eq_true_eq] at hs
  exact made_1 hV hs.1 (by omega)
theorem made_no {w : World} {A : Option Addr} {cap : Nat} {bs : List UInt8} (hV : View byE w A cap bs) (hs : sizeB bs = false) : Calls Try.prog 9 #[.slice A bs.length cap] w (Ret fun v w' => v = .tuple #[.pointer none, .agg #[.slice none 0 0, .slice none 0 0], .bool false] ∧ New w w') := by
  cases hok : okSize (bs.length : Int) with
  | false => exact made_3 hV hok
  | true =>
    refine made_2 hV hok ?_
    simp only [sizeB, hok, Bool.true_and, decide_eq_false_iff_not] at hs
    omega
end Go.Proofs.Ytdiaemlgghfecaa
