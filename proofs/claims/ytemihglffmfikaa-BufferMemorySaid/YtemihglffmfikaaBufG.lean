/-
  works, is, played; BufferOne, BufferPushes. Printed by gen_g.py.
-/
import Derived.Test.YtemihglffmfikaaBufR
namespace Go.Proofs.Ytemihglffmfikaa
open Go.RowKit

set_option maxRecDepth 100000 in
set_option maxHeartbeats 4000000 in
theorem works_c (w : World) : Calls Try.prog 15 #[] w (Ret fun v w' => v = .bool true ∧ New w w') := by
  have hF := Only.refl (fun _ => False) w
  refine fx_enter Try.func15 rfl (N := (74, [])) (T := []) rfl (show 0 ≤ 74 by decide) trivial fun a fr => ?_
  refine wp_seq ?_
  refine wp_region_lit ?_  -- region 0
  refine fx_val (v := .bool false) fr rfl rfl (by first | decide | simp) (x_assign rfl rfl) ?_
  clear fr a; intro a fr
  refine wpList_nil ?_
  refine fx_next ?_
  refine wp_seq ?_
  refine wp_region_lit ?_  -- region 1
  refine fx_call fr rfl rfl (by first | decide | simp) (x_call (vs := []) rfl rfl trivial Try.func9 nm9 rfl) (new_c _) ?_
  clear fr a
  rintro v w4 ⟨b1, rfl, H2, hb3, hN5⟩ a fr
  have g_b1 := Nat.le_trans hF.size hb3
  replace hF := hF.trNew hN5
  refine fx_val (v := .pointer (some ⟨b1, 0, none⟩)) fr rfl rfl (by first | decide | simp) (x_assign rfl (fr.ev rfl)) ?_
  clear fr a; intro a fr
  refine wpList_nil ?_
  refine fx_next ?_
  refine wp_seq ?_
  refine wp_region_lit ?_  -- region 2
  refine fx_val (v := .pointer (some ⟨b1, 0, none⟩)) fr rfl rfl (by first | decide | simp) (x_move rfl (fr.ev rfl)) ?_
  clear fr a; intro a fr
  refine fx_val (v := .agg (stE.arr (mkS 8 4 305419896))) fr rfl rfl (by first | decide | simp) (x_build (cells := stE.arr (mkS 8 4 305419896)) rfl (by kernel_rfl)) ?_
  clear fr a; intro a fr
  refine fx_call fr rfl rfl (by first | decide | simp) (x_call (vs := [.pointer (some ⟨b1, 0, none⟩), .agg (stE.arr (mkS 8 4 305419896))]) rfl rfl ⟨(fr.ev rfl), (fr.ev rfl), trivial⟩ Try.func10 nm10 rfl) (push_c (mkS 8 4 305419896) H2) ?_
  clear fr a
  rintro v w7 ⟨rfl, H6, hN8⟩ a fr
  replace hF := hF.loc hN8 (.inr g_b1)
  clear H2
  rw [show pushL ([]) (mkS 8 4 305419896) = [wv1] from pw1] at H6
  rw [show pushE ([]) (mkS 8 4 305419896) = 0 from pe1] at fr
  refine fx_val (v := .int .i64 0) fr rfl rfl (by first | decide | simp) (x_assign rfl (fr.ev rfl)) ?_
  clear fr a; intro a fr
  refine wpList_nil ?_
  refine fx_next ?_
  refine wp_seq ?_
  refine wp_region_lit ?_  -- region 3
  refine fx_val (v := .pointer (some ⟨b1, 0, none⟩)) fr rfl rfl (by first | decide | simp) (x_move rfl (fr.ev rfl)) ?_
  clear fr a; intro a fr
  refine fx_val (v := .agg (stE.arr (mkS 9 1 5))) fr rfl rfl (by first | decide | simp) (x_build (cells := stE.arr (mkS 9 1 5)) rfl (by kernel_rfl)) ?_
  clear fr a; intro a fr
  refine fx_call fr rfl rfl (by first | decide | simp) (x_call (vs := [.pointer (some ⟨b1, 0, none⟩), .agg (stE.arr (mkS 9 1 5))]) rfl rfl ⟨(fr.ev rfl), (fr.ev rfl), trivial⟩ Try.func10 nm10 rfl) (push_c (mkS 9 1 5) H6) ?_
  clear fr a
  rintro v w10 ⟨rfl, H9, hN11⟩ a fr
  replace hF := hF.loc hN11 (.inr g_b1)
  clear H6
  rw [show pushL ([wv1]) (mkS 9 1 5) = [wv1, wv2] from pw2] at H9
  rw [show pushE ([wv1]) (mkS 9 1 5) = 0 from pe2] at fr
  refine fx_val (v := .int .i64 0) fr rfl rfl (by first | decide | simp) (x_assign rfl (fr.ev rfl)) ?_
  clear fr a; intro a fr
  refine wpList_nil ?_
  refine fx_next ?_
  refine wp_seq ?_
  refine wp_region_lit ?_  -- region 4
  refine fx_val (v := .pointer (some ⟨b1, 0, none⟩)) fr rfl rfl (by first | decide | simp) (x_move rfl (fr.ev rfl)) ?_
  clear fr a; intro a fr
  refine fx_call fr rfl rfl (by first | decide | simp) (x_call (vs := [.pointer (some ⟨b1, 0, none⟩), .int .u32 10, .int .i64 2]) rfl rfl ⟨(fr.ev rfl), rfl, rfl, trivial⟩ Try.func11 nm11 rfl) (forward_c H9 10 2 (by omega)) ?_
  clear fr a
  rintro v w12 ⟨rfl, hN13⟩ a fr
  replace H9 := H9.new hN13
  replace hF := hF.trNew hN13
  rw [show (fwd ([wv1, wv2]) 10 2) = (4660, 1) by decide +kernel] at fr
  refine fx_val (v := .tuple #[.int .u32 4660, .int .i64 1]) fr rfl rfl (by first | decide | simp) (x_move rfl (fr.ev rfl)) ?_
  clear fr a; intro a fr
  refine fx_val (v := .int .u32 4660) fr rfl rfl (by first | decide | simp) (x_extract rfl (fr.ev rfl) rfl) ?_
  clear fr a; intro a fr
  refine fx_val (v := .int .i64 1) fr rfl rfl (by first | decide | simp) (x_extract rfl (fr.ev rfl) rfl) ?_
  clear fr a; intro a fr
  refine fx_val (v := .int .u32 4660) fr rfl rfl (by first | decide | simp) (x_assign rfl (fr.ev rfl)) ?_
  clear fr a; intro a fr
  refine fx_val (v := .int .i64 1) fr rfl rfl (by first | decide | simp) (x_assign rfl (fr.ev rfl)) ?_
  clear fr a; intro a fr
  refine wpList_nil ?_
  refine fx_next ?_
  refine wp_seq ?_
  refine wp_region_lit ?_  -- region 5
  refine fx_val (v := .pointer (some ⟨b1, 0, none⟩)) fr rfl rfl (by first | decide | simp) (x_move rfl (fr.ev rfl)) ?_
  clear fr a; intro a fr
  refine fx_call fr rfl rfl (by first | decide | simp) (x_call (vs := [.pointer (some ⟨b1, 0, none⟩), .int .u32 8, .int .i64 4]) rfl rfl ⟨(fr.ev rfl), rfl, rfl, trivial⟩ Try.func11 nm11 rfl) (forward_c H9 8 4 (by omega)) ?_
  clear fr a
  rintro v w14 ⟨rfl, hN15⟩ a fr
  replace H9 := H9.new hN15
  replace hF := hF.trNew hN15
  rw [show (fwd ([wv1, wv2]) 8 4) = (0, 2) by decide +kernel] at fr
  refine fx_val (v := .tuple #[.int .u32 0, .int .i64 2]) fr rfl rfl (by first | decide | simp) (x_move rfl (fr.ev rfl)) ?_
  clear fr a; intro a fr
  refine fx_val (v := .int .u32 0) fr rfl rfl (by first | decide | simp) (x_extract rfl (fr.ev rfl) rfl) ?_
  clear fr a; intro a fr
  refine fx_val (v := .int .i64 2) fr rfl rfl (by first | decide | simp) (x_extract rfl (fr.ev rfl) rfl) ?_
  clear fr a; intro a fr
  refine fx_val (v := .int .u32 0) fr rfl rfl (by first | decide | simp) (x_assign rfl (fr.ev rfl)) ?_
  clear fr a; intro a fr
  refine fx_val (v := .int .i64 2) fr rfl rfl (by first | decide | simp) (x_assign rfl (fr.ev rfl)) ?_
  clear fr a; intro a fr
  refine wpList_nil ?_
  refine fx_next ?_
  refine wp_seq ?_
  refine wp_region_lit ?_  -- region 6
  refine fx_val (v := .pointer (some ⟨b1, 0, none⟩)) fr rfl rfl (by first | decide | simp) (x_move rfl (fr.ev rfl)) ?_
  clear fr a; intro a fr
  refine fx_call fr rfl rfl (by first | decide | simp) (x_call (vs := [.pointer (some ⟨b1, 0, none⟩), .int .u32 12, .int .i64 1]) rfl rfl ⟨(fr.ev rfl), rfl, rfl, trivial⟩ Try.func11 nm11 rfl) (forward_c H9 12 1 (by omega)) ?_
  clear fr a
  rintro v w16 ⟨rfl, hN17⟩ a fr
  replace H9 := H9.new hN17
  replace hF := hF.trNew hN17
  rw [show (fwd ([wv1, wv2]) 12 1) = (0, 0) by decide +kernel] at fr
  refine fx_val (v := .tuple #[.int .u32 0, .int .i64 0]) fr rfl rfl (by first | decide | simp) (x_move rfl (fr.ev rfl)) ?_
  clear fr a; intro a fr
  refine fx_val (v := .int .u32 0) fr rfl rfl (by first | decide | simp) (x_extract rfl (fr.ev rfl) rfl) ?_
  clear fr a; intro a fr
  refine fx_val (v := .int .i64 0) fr rfl rfl (by first | decide | simp) (x_extract rfl (fr.ev rfl) rfl) ?_
  clear fr a; intro a fr
  refine fx_val (v := .int .u32 0) fr rfl rfl (by first | decide | simp) (x_assign rfl (fr.ev rfl)) ?_
  clear fr a; intro a fr
  refine fx_val (v := .int .i64 0) fr rfl rfl (by first | decide | simp) (x_assign rfl (fr.ev rfl)) ?_
  clear fr a; intro a fr
  refine wpList_nil ?_
  refine fx_next ?_
  refine wp_seq ?_
  refine wp_region_lit ?_  -- region 7
  refine fx_val (v := .pointer (some ⟨b1, 0, none⟩)) fr rfl rfl (by first | decide | simp) (x_move rfl (fr.ev rfl)) ?_
  clear fr a; intro a fr
  refine fx_call fr rfl rfl (by first | decide | simp) (x_call (vs := [.pointer (some ⟨b1, 0, none⟩)]) rfl rfl ⟨(fr.ev rfl), trivial⟩ Try.func18 nm18 rfl) (pop_c H9) ?_
  clear fr a
  rintro v w19 ⟨rfl, H18, hN20⟩ a fr
  replace hF := hF.loc hN20 (.inr g_b1)
  clear H9
  rw [show ([wv1, wv2]).tail = [wv2] from rfl] at H18
  rw [show hdS ([wv1, wv2]) = (mkS 8 4 305419896) from rfl, show decide (([wv1, wv2] : List VSt) ≠ []) = true from by decide +kernel] at fr
  refine fx_val (v := .tuple #[.agg (stE.arr (mkS 8 4 305419896)), .bool true]) fr rfl rfl (by first | decide | simp) (x_move rfl (fr.ev rfl)) ?_
  clear fr a; intro a fr
  refine fx_val (v := .agg (stE.arr (mkS 8 4 305419896))) fr rfl rfl (by first | decide | simp) (x_extract rfl (fr.ev rfl) rfl) ?_
  clear fr a; intro a fr
  refine fx_val (v := .bool true) fr rfl rfl (by first | decide | simp) (x_extract rfl (fr.ev rfl) rfl) ?_
  clear fr a; intro a fr
  refine fx_new fr rfl rfl (by first | decide | simp) (x_alloc (z := .agg (#[.int .u32 0, .int .i64 0, .int .u32 0])) (cs := stE.arr st0) rfl (by kernel_rfl) rfl) ?_
  clear fr a
  intro b21 w22 hN23 B24 hb25 a fr
  have ne_b1_b21 : NE b1 b21 := NE.mk (Nat.lt_of_lt_of_le H18.lt hb25)
  have g_b21 := Nat.le_trans hF.size hb25
  replace H18 := H18.new hN23
  replace hF := hF.trNew hN23
  refine fx_storeS sz24 rfl rfl rfl (fr.ev rfl) (fr.ev rfl) (stE.all _) B24 (stE.size _) (stE.size _) fun w26 hO27 hBq => ?_
  replace H18 := H18.only hO27 (by first | exact ne_b1_b21 | exact ne_b21_b1.symm | (show ¬ b1 = b21; omega))
  replace hF := hF.loc hO27 (.inr g_b21)
  replace B24 := hBq
  clear hBq
  refine fx_val (v := .bool true) fr rfl rfl (by first | decide | simp) (x_assign rfl (fr.ev rfl)) ?_
  clear fr a; intro a fr
  refine wpList_nil ?_
  refine fx_next ?_
  refine wp_seq ?_
  refine wp_region_lit ?_  -- region 8
  refine fx_val (v := .int .i64 0) fr rfl rfl (by first | decide | simp) (x_move rfl (fr.ev rfl)) ?_
  clear fr a; intro a fr
  refine fx_call fr rfl rfl (by first | decide | simp) (x_call (vs := [.int .i64 0]) rfl rfl ⟨(fr.ev rfl), trivial⟩ Try.func14 nm14 rfl) (num_c 0 _) ?_
  clear fr a
  rintro v w9 ⟨rfl, hw9⟩ a fr
  obtain rfl := hw9.symm
  refine fx_val (v := .int .i64 0) fr rfl rfl (by first | decide | simp) (x_move rfl (fr.ev rfl)) ?_
  clear fr a; intro a fr
  refine fx_call fr rfl rfl (by first | decide | simp) (x_call (vs := [.int .i64 0]) rfl rfl ⟨(fr.ev rfl), trivial⟩ Try.func14 nm14 rfl) (num_c 0 _) ?_
  clear fr a
  rintro v w9 ⟨rfl, hw9⟩ a fr
  obtain rfl := hw9.symm
  refine fx_val (v := .int .i64 0) fr rfl rfl (by first | decide | simp) (x_add rfl (fr.ev rfl) (fr.ev rfl) rfl) ?_
  clear fr a; intro a fr
  refine fx_val (v := .bool true) fr rfl rfl (by first | decide | simp) (x_eql rfl (fr.ev rfl) rfl rfl) ?_
  clear fr a; intro a fr
  refine fx_val (v := .bool true) fr rfl rfl (by first | decide | simp) (x_move rfl (fr.ev rfl)) ?_
  clear fr a; intro a fr
  refine fx_val (v := .int .u32 4660) fr (fr.want rfl rfl rfl) rfl (by first | decide | simp) (x_move rfl (fr.ev rfl)) ?_
  clear fr a; intro a fr
  refine fx_val (v := .bool true) fr (fr.want rfl rfl rfl) rfl (by first | decide | simp) (x_eql rfl (fr.ev rfl) rfl rfl) ?_
  clear fr a; intro a fr
  refine fx_val (v := .bool true) fr rfl rfl (by first | decide | simp) (x_pick_t rfl (fr.ev rfl) (fr.ev rfl)) ?_
  clear fr a; intro a fr
  refine fx_val (v := .bool true) fr rfl rfl (by first | decide | simp) (x_move rfl (fr.ev rfl)) ?_
  clear fr a; intro a fr
  refine fx_val (v := .int .i64 1) fr (fr.want rfl rfl rfl) rfl (by first | decide | simp) (x_move rfl (fr.ev rfl)) ?_
  clear fr a; intro a fr
  refine fx_val (v := .bool true) fr (fr.want rfl rfl rfl) rfl (by first | decide | simp) (x_eql rfl (fr.ev rfl) rfl rfl) ?_
  clear fr a; intro a fr
  refine fx_val (v := .bool true) fr rfl rfl (by first | decide | simp) (x_pick_t rfl (fr.ev rfl) (fr.ev rfl)) ?_
  clear fr a; intro a fr
  refine fx_val (v := .bool true) fr rfl rfl (by first | decide | simp) (x_move rfl (fr.ev rfl)) ?_
  clear fr a; intro a fr
  refine fx_val (v := .int .i64 2) fr (fr.want rfl rfl rfl) rfl (by first | decide | simp) (x_move rfl (fr.ev rfl)) ?_
  clear fr a; intro a fr
  refine fx_val (v := .bool true) fr (fr.want rfl rfl rfl) rfl (by first | decide | simp) (x_eql rfl (fr.ev rfl) rfl rfl) ?_
  clear fr a; intro a fr
  refine fx_val (v := .bool true) fr rfl rfl (by first | decide | simp) (x_pick_t rfl (fr.ev rfl) (fr.ev rfl)) ?_
  clear fr a; intro a fr
  refine fx_val (v := .bool true) fr rfl rfl (by first | decide | simp) (x_move rfl (fr.ev rfl)) ?_
  clear fr a; intro a fr
  refine fx_val (v := .int .i64 0) fr (fr.want rfl rfl rfl) rfl (by first | decide | simp) (x_move rfl (fr.ev rfl)) ?_
  clear fr a; intro a fr
  refine fx_val (v := .bool true) fr (fr.want rfl rfl rfl) rfl (by first | decide | simp) (x_eql rfl (fr.ev rfl) rfl rfl) ?_
  clear fr a; intro a fr
  refine fx_val (v := .bool true) fr rfl rfl (by first | decide | simp) (x_pick_t rfl (fr.ev rfl) (fr.ev rfl)) ?_
  clear fr a; intro a fr
  refine fx_val (v := .bool true) fr rfl rfl (by first | decide | simp) (x_move rfl (fr.ev rfl)) ?_
  clear fr a; intro a fr
  refine fx_val (v := .pointer (some ⟨b21, 1, none⟩)) fr (fr.want rfl rfl rfl) rfl (by first | decide | simp) (x_fieldAddr fo24_1 rfl (fr.ev rfl) rfl) ?_
  clear fr a; intro a fr
  refine fx_val (v := .int .i64 4) fr (fr.want rfl rfl rfl) rfl (by first | decide | simp) (x_load1 pl3 rfl (fr.ev rfl) (B24.cell 1 rfl)) ?_
  clear fr a; intro a fr
  refine fx_val (v := .bool true) fr (fr.want rfl rfl rfl) rfl (by first | decide | simp) (x_eql rfl (fr.ev rfl) rfl rfl) ?_
  clear fr a; intro a fr
  refine fx_val (v := .bool true) fr rfl rfl (by first | decide | simp) (x_pick_t rfl (fr.ev rfl) (fr.ev rfl)) ?_
  clear fr a; intro a fr
  refine fx_val (v := .bool true) fr rfl rfl (by first | decide | simp) (x_move rfl (fr.ev rfl)) ?_
  clear fr a; intro a fr
  refine fx_val (v := .bool true) fr (fr.want rfl rfl rfl) rfl (by first | decide | simp) (x_move rfl (fr.ev rfl)) ?_
  clear fr a; intro a fr
  refine fx_val (v := .bool true) fr rfl rfl (by first | decide | simp) (x_pick_t rfl (fr.ev rfl) (fr.ev rfl)) ?_
  clear fr a; intro a fr
  refine fx_val (v := .bool true) fr rfl rfl (by first | decide | simp) (x_move rfl (fr.ev rfl)) ?_
  clear fr a; intro a fr
  refine fx_val (v := .pointer (some ⟨b1, 0, none⟩)) fr (fr.want rfl rfl rfl) rfl (by first | decide | simp) (x_move rfl (fr.ev rfl)) ?_
  clear fr a; intro a fr
  refine fx_call fr (fr.want rfl rfl rfl) rfl (by first | decide | simp) (x_call (vs := [.pointer (some ⟨b1, 0, none⟩)]) rfl rfl ⟨(fr.ev rfl), trivial⟩ Try.func21 nm21 rfl) (len_c H18) ?_
  clear fr a
  rintro v w9 ⟨rfl, hw9⟩ a fr
  obtain rfl := hw9.symm
  refine fx_val (v := .bool true) fr (fr.want rfl rfl rfl) rfl (by first | decide | simp) (x_eql rfl (fr.ev rfl) rfl rfl) ?_
  clear fr a; intro a fr
  refine fx_val (v := .bool true) fr rfl rfl (by first | decide | simp) (x_pick_t rfl (fr.ev rfl) (fr.ev rfl)) ?_
  clear fr a; intro a fr
  refine fx_val (v := .bool true) fr rfl rfl (by first | decide | simp) (x_assign rfl (fr.ev rfl)) ?_
  clear fr a; intro a fr
  refine wpList_nil ?_
  refine fx_next ?_
  refine wp_ret ?_
  refine fx_ret fr [.tmp 0] [.bool true] rfl ⟨rfl, trivial⟩ rfl ?_
  exact ⟨_, rfl, rfl, hF⟩
set_option maxRecDepth 100000 in
set_option maxHeartbeats 4000000 in
theorem one_c (s : St) (addr wide : Int) (ha : 0 ≤ addr ∧ addr < 4294967296) (w : World) : Calls Try.prog 3 #[.agg (stE.arr s), .int .u32 addr, .int .i64 wide] w (Ret fun v w' => v = .bool true ∧ New w w') := by
  have hF := Only.refl (fun _ => False) w
  refine fx_enter Try.func3 rfl (N := (55, [])) (T := [(0, .agg (stE.arr s)), (1, .int .u32 addr), (2, .int .i64 wide)]) rfl (show 3 ≤ 55 by decide) ⟨rfl, rfl, rfl, trivial⟩ fun a fr => ?_
  refine wp_seq ?_
  refine wp_region_lit ?_  -- region 0
  refine fx_new fr rfl rfl (by first | decide | simp) (x_box (cs := stE.arr s) rfl (fr.ev rfl) rfl) ?_
  clear fr a
  intro b1 w2 hN3 B4 hb5 a fr
  have g_b1 := Nat.le_trans hF.size hb5
  replace hF := hF.trNew hN3
  refine fx_val (v := .bool false) fr rfl rfl (by first | decide | simp) (x_assign rfl rfl) ?_
  clear fr a; intro a fr
  refine wpList_nil ?_
  refine fx_next ?_
  refine wp_seq ?_
  refine wp_region_lit ?_  -- region 1
  refine fx_call fr rfl rfl (by first | decide | simp) (x_call (vs := []) rfl rfl trivial Try.func9 nm9 rfl) (new_c _) ?_
  clear fr a
  rintro v w9 ⟨b6, rfl, H7, hb8, hN10⟩ a fr
  have ne_b1_b6 : NE b1 b6 := NE.mk (Nat.lt_of_lt_of_le B4.lt hb8)
  have g_b6 := Nat.le_trans hF.size hb8
  replace B4 := B4.new hN10
  replace hF := hF.trNew hN10
  refine fx_val (v := .pointer (some ⟨b6, 0, none⟩)) fr rfl rfl (by first | decide | simp) (x_assign rfl (fr.ev rfl)) ?_
  clear fr a; intro a fr
  refine wpList_nil ?_
  refine fx_next ?_
  refine wp_seq ?_
  refine wp_region_lit ?_  -- region 2
  refine fx_val (v := .pointer (some ⟨b6, 0, none⟩)) fr rfl rfl (by first | decide | simp) (x_move rfl (fr.ev rfl)) ?_
  clear fr a; intro a fr
  refine fx_val (v := .agg (stE.arr s)) fr rfl rfl (by first | decide | simp) (x_loadE (E := stE) ag24 rfl rfl (fr.ev rfl) (B4.rangeE (P := Try.prog) stE)) ?_
  clear fr a; intro a fr
  refine fx_call fr rfl rfl (by first | decide | simp) (x_call (vs := [.pointer (some ⟨b6, 0, none⟩), .agg (stE.arr s)]) rfl rfl ⟨(fr.ev rfl), (fr.ev rfl), trivial⟩ Try.func10 nm10 rfl) (push_c s H7) ?_
  clear fr a
  rintro v w12 ⟨rfl, H11, hN13⟩ a fr
  replace B4 := B4.only hN13 (by first | exact ne_b1_b6 | exact ne_b6_b1.symm | (show ¬ b1 = b6; omega))
  replace hF := hF.loc hN13 (.inr g_b6)
  clear H7
  refine fx_val (v := .int .i64 (pushE ([]) s)) fr rfl rfl (by first | decide | simp) (x_assign rfl (fr.ev rfl)) ?_
  clear fr a; intro a fr
  refine wpList_nil ?_
  refine fx_next ?_
  refine wp_seq ?_
  refine wp_region_lit ?_  -- region 3
  refine fx_val (v := .pointer (some ⟨b6, 0, none⟩)) fr rfl rfl (by first | decide | simp) (x_move rfl (fr.ev rfl)) ?_
  clear fr a; intro a fr
  refine fx_val (v := .int .u32 addr) fr rfl rfl (by first | decide | simp) (x_move rfl (fr.ev rfl)) ?_
  clear fr a; intro a fr
  refine fx_val (v := .int .i64 wide) fr rfl rfl (by first | decide | simp) (x_move rfl (fr.ev rfl)) ?_
  clear fr a; intro a fr
  refine fx_call fr rfl rfl (by first | decide | simp) (x_call (vs := [.pointer (some ⟨b6, 0, none⟩), .int .u32 addr, .int .i64 wide]) rfl rfl ⟨(fr.ev rfl), (fr.ev rfl), (fr.ev rfl), trivial⟩ Try.func11 nm11 rfl) (forward_c H11 addr wide (by omega)) ?_
  clear fr a
  rintro v w14 ⟨rfl, hN15⟩ a fr
  replace B4 := B4.new hN15
  replace H11 := H11.new hN15
  replace hF := hF.trNew hN15
  refine fx_val (v := .tuple #[.int .u32 ((fwd (pushL ([]) s) addr wide).1), .int .i64 ((fwd (pushL ([]) s) addr wide).2)]) fr rfl rfl (by first | decide | simp) (x_move rfl (fr.ev rfl)) ?_
  clear fr a; intro a fr
  refine fx_val (v := .int .u32 ((fwd (pushL ([]) s) addr wide).1)) fr rfl rfl (by first | decide | simp) (x_extract rfl (fr.ev rfl) rfl) ?_
  clear fr a; intro a fr
  refine fx_val (v := .int .i64 ((fwd (pushL ([]) s) addr wide).2)) fr rfl rfl (by first | decide | simp) (x_extract rfl (fr.ev rfl) rfl) ?_
  clear fr a; intro a fr
  refine fx_val (v := .int .u32 ((fwd (pushL ([]) s) addr wide).1)) fr rfl rfl (by first | decide | simp) (x_assign rfl (fr.ev rfl)) ?_
  clear fr a; intro a fr
  refine fx_val (v := .int .i64 ((fwd (pushL ([]) s) addr wide).2)) fr rfl rfl (by first | decide | simp) (x_assign rfl (fr.ev rfl)) ?_
  clear fr a; intro a fr
  refine wpList_nil ?_
  refine fx_next ?_
  refine wp_seq ?_
  refine wp_region_lit ?_  -- region 4
  refine fx_val (v := .agg (stE.arr s)) fr rfl rfl (by first | decide | simp) (x_loadE (E := stE) ag24 rfl rfl (fr.ev rfl) (B4.rangeE (P := Try.prog) stE)) ?_
  clear fr a; intro a fr
  refine fx_call fr rfl rfl (by first | decide | simp) (x_call (vs := [.slice none 0 0, .agg (stE.arr s)]) rfl rfl ⟨rfl, (fr.ev rfl), trivial⟩ Try.func12 nm12 rfl) (rpush_c s (l := []) (View.nil) (by first | omega | (simp; done) | (simp; omega))) ?_
  clear fr a
  rintro v w20 ⟨A16, cap17, rfl, V18, mv19, hN21⟩ a fr
  have ap_A16_b1 : Apart A16 b1 := moved_apart mv19 (apart_none b1) B4.lt
  have ap_A16_b6 : Apart A16 b6 := moved_apart mv19 (apart_none b6) H11.lt
  have gA_A16 := gA_moved hF mv19 gA_none
  replace B4 := B4.new hN21
  replace H11 := H11.new hN21
  replace hF := hF.trNew hN21
  refine fx_val (v := .tuple #[.slice A16 ((vals (pushL ([]) s)).length) cap17, .int .i64 (pushE ([]) s)]) fr rfl rfl (by first | decide | simp) (x_move rfl (fr.ev rfl)) ?_
  clear fr a; intro a fr
  refine fx_val (v := .slice A16 ((vals (pushL ([]) s)).length) cap17) fr rfl rfl (by first | decide | simp) (x_extract rfl (fr.ev rfl) rfl) ?_
  clear fr a; intro a fr
  refine fx_val (v := .int .i64 (pushE ([]) s)) fr rfl rfl (by first | decide | simp) (x_extract rfl (fr.ev rfl) rfl) ?_
  clear fr a; intro a fr
  refine fx_val (v := .slice A16 ((vals (pushL ([]) s)).length) cap17) fr rfl rfl (by first | decide | simp) (x_assign rfl (fr.ev rfl)) ?_
  clear fr a; intro a fr
  refine fx_val (v := .int .i64 (pushE ([]) s)) fr rfl rfl (by first | decide | simp) (x_assign rfl (fr.ev rfl)) ?_
  clear fr a; intro a fr
  refine wpList_nil ?_
  refine fx_next ?_
  refine wp_seq ?_
  refine wp_region_lit ?_  -- region 5
  refine fx_val (v := .slice A16 ((vals (pushL ([]) s)).length) cap17) fr rfl rfl (by first | decide | simp) (x_move rfl (fr.ev rfl)) ?_
  clear fr a; intro a fr
  refine fx_val (v := .int .u32 addr) fr rfl rfl (by first | decide | simp) (x_move rfl (fr.ev rfl)) ?_
  clear fr a; intro a fr
  refine fx_val (v := .int .i64 wide) fr rfl rfl (by first | decide | simp) (x_move rfl (fr.ev rfl)) ?_
  clear fr a; intro a fr
  refine fx_call fr rfl rfl (by first | decide | simp) (x_call (vs := [.slice A16 ((vals (pushL ([]) s)).length) cap17, .int .u32 addr, .int .i64 wide]) rfl rfl ⟨(fr.ev rfl), (fr.ev rfl), (fr.ev rfl), trivial⟩ Try.func13 nm13 rfl) (rforward_c (l := (pushL ([]) s)) (V18) addr wide (by omega)) ?_
  clear fr a
  rintro v w22 ⟨rfl, hN23⟩ a fr
  replace B4 := B4.new hN23
  replace H11 := H11.new hN23
  replace V18 := V18.new hN23
  replace hF := hF.trNew hN23
  refine fx_val (v := .tuple #[.int .u32 ((fwd (pushL ([]) s) addr wide).1), .int .i64 ((fwd (pushL ([]) s) addr wide).2)]) fr rfl rfl (by first | decide | simp) (x_move rfl (fr.ev rfl)) ?_
  clear fr a; intro a fr
  refine fx_val (v := .int .u32 ((fwd (pushL ([]) s) addr wide).1)) fr rfl rfl (by first | decide | simp) (x_extract rfl (fr.ev rfl) rfl) ?_
  clear fr a; intro a fr
  refine fx_val (v := .int .i64 ((fwd (pushL ([]) s) addr wide).2)) fr rfl rfl (by first | decide | simp) (x_extract rfl (fr.ev rfl) rfl) ?_
  clear fr a; intro a fr
  refine fx_val (v := .int .u32 ((fwd (pushL ([]) s) addr wide).1)) fr rfl rfl (by first | decide | simp) (x_assign rfl (fr.ev rfl)) ?_
  clear fr a; intro a fr
  refine fx_val (v := .int .i64 ((fwd (pushL ([]) s) addr wide).2)) fr rfl rfl (by first | decide | simp) (x_assign rfl (fr.ev rfl)) ?_
  clear fr a; intro a fr
  refine wpList_nil ?_
  refine fx_next ?_
  refine wp_seq ?_
  refine wp_region_lit ?_  -- region 6
  refine fx_val (v := .int .i64 (pushE ([]) s)) fr rfl rfl (by first | decide | simp) (x_move rfl (fr.ev rfl)) ?_
  clear fr a; intro a fr
  refine fx_call fr rfl rfl (by first | decide | simp) (x_call (vs := [.int .i64 (pushE ([]) s)]) rfl rfl ⟨(fr.ev rfl), trivial⟩ Try.func14 nm14 rfl) (num_c (pushE ([]) s) _) ?_
  clear fr a
  rintro v w9 ⟨rfl, hw9⟩ a fr
  obtain rfl := hw9.symm
  refine fx_val (v := .int .i64 (pushE ([]) s)) fr rfl rfl (by first | decide | simp) (x_move rfl (fr.ev rfl)) ?_
  clear fr a; intro a fr
  refine fx_val (v := .bool true) fr rfl rfl (by first | decide | simp) (x_eql rfl (fr.ev rfl) (fr.ev rfl) (by simp)) ?_
  clear fr a; intro a fr
  refine fx_val (v := .bool true) fr rfl rfl (by first | decide | simp) (x_move rfl (fr.ev rfl)) ?_
  clear fr a; intro a fr
  refine fx_val (v := .int .u32 ((fwd (pushL ([]) s) addr wide).1)) fr (fr.want rfl rfl rfl) rfl (by first | decide | simp) (x_move rfl (fr.ev rfl)) ?_
  clear fr a; intro a fr
  refine fx_val (v := .int .u32 ((fwd (pushL ([]) s) addr wide).1)) fr (fr.want rfl rfl rfl) rfl (by first | decide | simp) (x_move rfl (fr.ev rfl)) ?_
  clear fr a; intro a fr
  refine fx_val (v := .bool true) fr (fr.want rfl rfl rfl) rfl (by first | decide | simp) (x_eql rfl (fr.ev rfl) (fr.ev rfl) (by simp)) ?_
  clear fr a; intro a fr
  refine fx_val (v := .bool true) fr rfl rfl (by first | decide | simp) (x_pick_t rfl (fr.ev rfl) (fr.ev rfl)) ?_
  clear fr a; intro a fr
  refine fx_val (v := .bool true) fr rfl rfl (by first | decide | simp) (x_move rfl (fr.ev rfl)) ?_
  clear fr a; intro a fr
  refine fx_val (v := .int .i64 ((fwd (pushL ([]) s) addr wide).2)) fr (fr.want rfl rfl rfl) rfl (by first | decide | simp) (x_move rfl (fr.ev rfl)) ?_
  clear fr a; intro a fr
  refine fx_val (v := .int .i64 ((fwd (pushL ([]) s) addr wide).2)) fr (fr.want rfl rfl rfl) rfl (by first | decide | simp) (x_move rfl (fr.ev rfl)) ?_
  clear fr a; intro a fr
  refine fx_val (v := .bool true) fr (fr.want rfl rfl rfl) rfl (by first | decide | simp) (x_eql rfl (fr.ev rfl) (fr.ev rfl) (by simp)) ?_
  clear fr a; intro a fr
  refine fx_val (v := .bool true) fr rfl rfl (by first | decide | simp) (x_pick_t rfl (fr.ev rfl) (fr.ev rfl)) ?_
  clear fr a; intro a fr
  refine fx_val (v := .bool true) fr rfl rfl (by first | decide | simp) (x_move rfl (fr.ev rfl)) ?_
  clear fr a; intro a fr
  refine fx_call fr (fr.want rfl rfl rfl) rfl (by first | decide | simp) (x_call (vs := []) rfl rfl trivial Try.func15 nm15 rfl) (works_c _) ?_
  clear fr a
  rintro v w26 ⟨rfl, hN27⟩ a fr
  replace B4 := B4.new hN27
  replace H11 := H11.new hN27
  replace V18 := V18.new hN27
  replace hF := hF.trNew hN27
  refine fx_val (v := .bool true) fr rfl rfl (by first | decide | simp) (x_pick_t rfl (fr.ev rfl) (fr.ev rfl)) ?_
  clear fr a; intro a fr
  refine fx_val (v := .bool true) fr rfl rfl (by first | decide | simp) (x_assign rfl (fr.ev rfl)) ?_
  clear fr a; intro a fr
  refine wpList_nil ?_
  refine fx_next ?_
  refine wp_ret ?_
  refine fx_ret fr [.tmp 6] [.bool true] rfl ⟨rfl, trivial⟩ rfl ?_
  exact ⟨_, rfl, rfl, hF⟩
set_option maxRecDepth 100000 in
set_option maxHeartbeats 4000000 in
theorem is_c {w : World} {b : Nat} {l : List VSt} (H : BufAt w b l) {V : Option Addr} {vc : Nat} (hW : View stE w V vc (vals l)) : Calls Try.prog 17 #[.pointer (some ⟨b, 0, none⟩), .slice V ((vals l).length) vc] w (Ret fun v w' => v = .bool true ∧ New w w') := by
  have hF := Only.refl (fun _ => False) w
  refine fx_enter Try.func17 rfl (N := (40, [])) (T := [(0, .pointer (some ⟨b, 0, none⟩)), (1, .slice V ((vals l).length) vc)]) rfl (show 2 ≤ 40 by decide) ⟨rfl, rfl, trivial⟩ fun a fr => ?_
  refine wp_seq ?_
  refine wp_region_lit ?_  -- region 0
  refine fx_val (v := .bool false) fr rfl rfl (by first | decide | simp) (x_assign rfl rfl) ?_
  clear fr a; intro a fr
  refine wpList_nil ?_
  refine fx_next ?_
  refine wp_seq ?_
  refine wp_region_lit ?_  -- region 1
  refine fx_val (v := .pointer (some ⟨b, 0, none⟩)) fr rfl rfl (by first | decide | simp) (x_move rfl (fr.ev rfl)) ?_
  clear fr a; intro a fr
  refine fx_call fr rfl rfl (by first | decide | simp) (x_call (vs := [.pointer (some ⟨b, 0, none⟩)]) rfl rfl ⟨(fr.ev rfl), trivial⟩ Try.func20 nm20 rfl) (head_c H) ?_
  clear fr a
  rintro v w1 ⟨rfl, hN2⟩ a fr
  replace H := H.new hN2
  replace hW := hW.new hN2
  replace hF := hF.trNew hN2
  refine fx_val (v := .tuple #[.agg (stE.arr (hdS l)), .bool (decide (l ≠ []))]) fr rfl rfl (by first | decide | simp) (x_move rfl (fr.ev rfl)) ?_
  clear fr a; intro a fr
  refine fx_val (v := .agg (stE.arr (hdS l))) fr rfl rfl (by first | decide | simp) (x_extract rfl (fr.ev rfl) rfl) ?_
  clear fr a; intro a fr
  refine fx_val (v := .bool (decide (l ≠ []))) fr rfl rfl (by first | decide | simp) (x_extract rfl (fr.ev rfl) rfl) ?_
  clear fr a; intro a fr
  refine fx_new fr rfl rfl (by first | decide | simp) (x_alloc (z := .agg (#[.int .u32 0, .int .i64 0, .int .u32 0])) (cs := stE.arr st0) rfl (by kernel_rfl) rfl) ?_
  clear fr a
  intro b3 w4 hN5 B6 hb7 a fr
  have ne_b_b3 : NE b b3 := NE.mk (Nat.lt_of_lt_of_le H.lt hb7)
  have ap_V_b3 : Apart V b3 := hW.apart hb7
  have g_b3 := Nat.le_trans hF.size hb7
  replace H := H.new hN5
  replace hW := hW.new hN5
  replace hF := hF.trNew hN5
  refine fx_storeS sz24 rfl rfl rfl (fr.ev rfl) (fr.ev rfl) (stE.all _) B6 (stE.size _) (stE.size _) fun w8 hO9 hBq => ?_
  replace H := H.only hO9 (by first | exact ne_b_b3 | exact ne_b3_b.symm | (show ¬ b = b3; omega))
  replace hW := hW.only hO9 (Apart.ne1 ap_V_b3)
  replace hF := hF.loc hO9 (.inr g_b3)
  replace B6 := hBq
  clear hBq
  refine fx_val (v := .bool (decide (l ≠ []))) fr rfl rfl (by first | decide | simp) (x_assign rfl (fr.ev rfl)) ?_
  clear fr a; intro a fr
  refine wpList_nil ?_
  refine fx_next ?_
  refine wp_seq ?_
  refine wp_region_lit ?_  -- region 2
  refine fx_val (v := .slice V ((vals l).length) vc) fr rfl rfl (by first | decide | simp) (x_move rfl (fr.ev rfl)) ?_
  clear fr a; intro a fr
  refine fx_call fr rfl rfl (by first | decide | simp) (x_call (vs := [.slice V ((vals l).length) vc]) rfl rfl ⟨(fr.ev rfl), trivial⟩ Try.func34 nm34 rfl) (rhead_c (l := l) (hW)) ?_
  clear fr a
  rintro v w10 ⟨rfl, hN11⟩ a fr
  replace H := H.new hN11
  replace hW := hW.new hN11
  replace B6 := B6.new hN11
  replace hF := hF.trNew hN11
  refine fx_val (v := .tuple #[.agg (stE.arr (hdS l)), .bool (decide (l ≠ []))]) fr rfl rfl (by first | decide | simp) (x_move rfl (fr.ev rfl)) ?_
  clear fr a; intro a fr
  refine fx_val (v := .agg (stE.arr (hdS l))) fr rfl rfl (by first | decide | simp) (x_extract rfl (fr.ev rfl) rfl) ?_
  clear fr a; intro a fr
  refine fx_val (v := .bool (decide (l ≠ []))) fr rfl rfl (by first | decide | simp) (x_extract rfl (fr.ev rfl) rfl) ?_
  clear fr a; intro a fr
  refine fx_new fr rfl rfl (by first | decide | simp) (x_alloc (z := .agg (#[.int .u32 0, .int .i64 0, .int .u32 0])) (cs := stE.arr st0) rfl (by kernel_rfl) rfl) ?_
  clear fr a
  intro b12 w13 hN14 B15 hb16 a fr
  have ne_b_b12 : NE b b12 := NE.mk (Nat.lt_of_lt_of_le H.lt hb16)
  have ap_V_b12 : Apart V b12 := hW.apart hb16
  have ne_b3_b12 : NE b3 b12 := NE.mk (Nat.lt_of_lt_of_le B6.lt hb16)
  have g_b12 := Nat.le_trans hF.size hb16
  replace H := H.new hN14
  replace hW := hW.new hN14
  replace B6 := B6.new hN14
  replace hF := hF.trNew hN14
  refine fx_storeS sz24 rfl rfl rfl (fr.ev rfl) (fr.ev rfl) (stE.all _) B15 (stE.size _) (stE.size _) fun w17 hO18 hBq => ?_
  replace H := H.only hO18 (by first | exact ne_b_b12 | exact ne_b12_b.symm | (show ¬ b = b12; omega))
  replace hW := hW.only hO18 (Apart.ne1 ap_V_b12)
  replace B6 := B6.only hO18 (by first | exact ne_b3_b12 | exact ne_b12_b3.symm | (show ¬ b3 = b12; omega))
  replace hF := hF.loc hO18 (.inr g_b12)
  replace B15 := hBq
  clear hBq
  refine fx_val (v := .bool (decide (l ≠ []))) fr rfl rfl (by first | decide | simp) (x_assign rfl (fr.ev rfl)) ?_
  clear fr a; intro a fr
  refine wpList_nil ?_
  refine fx_next ?_
  refine wp_seq ?_
  refine wp_region_lit ?_  -- region 3
  refine fx_val (v := .agg (stE.arr (hdS l))) fr rfl rfl (by first | decide | simp) (x_loadE (E := stE) ag24 rfl rfl (fr.ev rfl) (B6.rangeE (P := Try.prog) stE)) ?_
  clear fr a; intro a fr
  refine fx_val (v := .agg (stE.arr (hdS l))) fr rfl rfl (by first | decide | simp) (x_loadE (E := stE) ag24 rfl rfl (fr.ev rfl) (B15.rangeE (P := Try.prog) stE)) ?_
  clear fr a; intro a fr
  refine fx_val (v := .bool true) fr rfl rfl (by first | decide | simp) (x_eqE stER rfl rfl (fr.ev rfl) (fr.ev rfl) (by simp)) ?_
  clear fr a; intro a fr
  refine fx_val (v := .bool true) fr rfl rfl (by first | decide | simp) (x_move rfl (fr.ev rfl)) ?_
  clear fr a; intro a fr
  refine fx_val (v := .bool (decide (l ≠ []))) fr (fr.want rfl rfl rfl) rfl (by first | decide | simp) (x_move rfl (fr.ev rfl)) ?_
  clear fr a; intro a fr
  refine fx_val (v := .bool (decide (l ≠ []))) fr (fr.want rfl rfl rfl) rfl (by first | decide | simp) (x_move rfl (fr.ev rfl)) ?_
  clear fr a; intro a fr
  refine fx_val (v := .bool true) fr (fr.want rfl rfl rfl) rfl (by first | decide | simp) (x_beql Try.underlying4 rfl (fr.ev rfl) (fr.ev rfl) (by simp)) ?_
  clear fr a; intro a fr
  refine fx_val (v := .bool true) fr rfl rfl (by first | decide | simp) (x_pick_t rfl (fr.ev rfl) (fr.ev rfl)) ?_
  clear fr a; intro a fr
  refine fx_val (v := .bool true) fr rfl rfl (by first | decide | simp) (x_move rfl (fr.ev rfl)) ?_
  clear fr a; intro a fr
  refine fx_val (v := .pointer (some ⟨b, 0, none⟩)) fr (fr.want rfl rfl rfl) rfl (by first | decide | simp) (x_move rfl (fr.ev rfl)) ?_
  clear fr a; intro a fr
  refine fx_call fr (fr.want rfl rfl rfl) rfl (by first | decide | simp) (x_call (vs := [.pointer (some ⟨b, 0, none⟩)]) rfl rfl ⟨(fr.ev rfl), trivial⟩ Try.func19 nm19 rfl) (all_c H) ?_
  clear fr a
  rintro v w23 ⟨A19, cap20, rfl, O21, hA22, hN24⟩ a fr
  have ap_A19_b : Apart A19 b := new_apart hA22 H.lt
  have ap2_V_A19 : Apart2 V A19 := (new_apart2 hA22 fun _ hg => hW.lt hg).symm
  have ap_A19_b3 : Apart A19 b3 := new_apart hA22 B6.lt
  have ap_A19_b12 : Apart A19 b12 := new_apart hA22 B15.lt
  have gA_A19 := gA_new hF hA22
  replace H := H.new hN24
  replace hW := hW.new hN24
  replace B6 := B6.new hN24
  replace B15 := B15.new hN24
  replace hF := hF.trNew hN24
  refine fx_val (v := .slice V ((vals l).length) vc) fr (fr.want rfl rfl rfl) rfl (by first | decide | simp) (x_move rfl (fr.ev rfl)) ?_
  clear fr a; intro a fr
  refine fx_call fr (fr.want rfl rfl rfl) rfl (by first | decide | simp) (x_call (vs := [.slice A19 ((vals l).length) cap20, .slice V ((vals l).length) vc]) rfl rfl ⟨(fr.ev rfl), (fr.ev rfl), trivial⟩ Try.func24 nm24 rfl) (rsame_c (O21.view) (hW)) ?_
  clear fr a
  rintro v w25 ⟨rfl, hN26⟩ a fr
  replace H := H.new hN26
  replace hW := hW.new hN26
  replace B6 := B6.new hN26
  replace B15 := B15.new hN26
  replace O21 := O21.new hN26
  replace hF := hF.trNew hN26
  rw [show decide (vals l = vals l) = true from decide_eq_true rfl] at fr
  refine fx_val (v := .bool true) fr rfl rfl (by first | decide | simp) (x_pick_t rfl (fr.ev rfl) (fr.ev rfl)) ?_
  clear fr a; intro a fr
  refine fx_val (v := .bool true) fr rfl rfl (by first | decide | simp) (x_move rfl (fr.ev rfl)) ?_
  clear fr a; intro a fr
  refine fx_val (v := .pointer (some ⟨b, 0, none⟩)) fr (fr.want rfl rfl rfl) rfl (by first | decide | simp) (x_move rfl (fr.ev rfl)) ?_
  clear fr a; intro a fr
  refine fx_call fr (fr.want rfl rfl rfl) rfl (by first | decide | simp) (x_call (vs := [.pointer (some ⟨b, 0, none⟩)]) rfl rfl ⟨(fr.ev rfl), trivial⟩ Try.func21 nm21 rfl) (len_c H) ?_
  clear fr a
  rintro v w9 ⟨rfl, hw9⟩ a fr
  obtain rfl := hw9.symm
  refine fx_val (v := .slice V ((vals l).length) vc) fr (fr.want rfl rfl rfl) rfl (by first | decide | simp) (x_move rfl (fr.ev rfl)) ?_
  clear fr a; intro a fr
  refine fx_val (v := .int .i64 (((vals l).length : Nat) : Int)) fr (fr.want rfl rfl rfl) rfl (by first | decide | simp) (x_len Try.underlying32 rfl (fr.ev rfl)) ?_
  clear fr a; intro a fr
  refine fx_val (v := .bool true) fr (fr.want rfl rfl rfl) rfl (by first | decide | simp) (x_eql rfl (fr.ev rfl) (fr.ev rfl) (by simp [vals_len])) ?_
  clear fr a; intro a fr
  refine fx_val (v := .bool true) fr rfl rfl (by first | decide | simp) (x_pick_t rfl (fr.ev rfl) (fr.ev rfl)) ?_
  clear fr a; intro a fr
  refine fx_val (v := .bool true) fr rfl rfl (by first | decide | simp) (x_assign rfl (fr.ev rfl)) ?_
  clear fr a; intro a fr
  refine wpList_nil ?_
  refine fx_next ?_
  refine wp_ret ?_
  refine fx_ret fr [.tmp 4] [.bool true] rfl ⟨rfl, trivial⟩ rfl ?_
  exact ⟨_, rfl, rfl, hF⟩
set_option maxRecDepth 100000 in
set_option maxHeartbeats 4000000 in
theorem pushes_c {w : World} {P : Option Addr} {cp : Nat} {la : List St} (hV : View stE w P cp la) : Calls Try.prog 5 #[.slice P la.length cp] w (Ret fun v w' => v = .bool true ∧ New w w') := by
  have hVl := hV.len
  unfold maxLen at hVl
  have hF := Only.refl (fun _ => False) w
  refine fx_enter Try.func5 rfl (N := (44, [])) (T := [(0, .slice P la.length cp)]) rfl (show 1 ≤ 44 by decide) ⟨rfl, trivial⟩ fun a fr => ?_
  refine wp_seq ?_
  refine wp_region_lit ?_  -- region 0
  refine fx_val (v := .bool false) fr rfl rfl (by first | decide | simp) (x_assign rfl rfl) ?_
  clear fr a; intro a fr
  refine wpList_nil ?_
  refine fx_next ?_
  refine wp_seq ?_
  refine wp_seq ?_
  refine wp_region_lit ?_  -- region 1
  refine fx_val (v := .slice P la.length cp) fr rfl rfl (by first | decide | simp) (x_move rfl (fr.ev rfl)) ?_
  clear fr a; intro a fr
  refine fx_val (v := .int .i64 ((la.length : Nat) : Int)) fr rfl rfl (by first | decide | simp) (x_len Try.underlying32 rfl (fr.ev rfl)) ?_
  clear fr a; intro a fr
  refine fx_val (v := .bool (decide (20 < ((la.length : Nat) : Int)))) fr rfl rfl (by first | decide | simp) (x_gtr rfl (fr.ev rfl) rfl rfl) ?_
  clear fr a; intro a fr
  refine wpList_nil ?_
  refine fx_next ?_
  refine fx_cond fr rfl (fun hc1 => ?_) (fun hc1 => ?_)
  · skip
    have hc1 := of_decide_eq_true hc1
    refine wp_seq ?_
    refine wp_region_lit ?_  -- region 2
    refine fx_call fr rfl rfl (by first | decide | simp) (x_call (vs := []) rfl rfl trivial Try.func15 nm15 rfl) (works_c _) ?_
    clear fr a
    rintro v w2 ⟨rfl, hN3⟩ a fr
    replace hV := hV.new hN3
    replace hF := hF.trNew hN3
    refine fx_val (v := .bool true) fr rfl rfl (by first | decide | simp) (x_assign rfl (fr.ev rfl)) ?_
    clear fr a; intro a fr
    refine wpList_nil ?_
    refine fx_next ?_
    refine wp_ret ?_
    refine fx_rt ?_
    refine fx_ret fr [.tmp 2] [.bool true] rfl ⟨rfl, trivial⟩ rfl ?_
    exact ⟨_, rfl, rfl, hF⟩
  · skip
    have hc1 := of_decide_eq_false hc1
    refine wp_skip ?_
    refine fx_next ?_
    refine wp_seq ?_
    refine wp_region_lit ?_  -- region 3
    refine fx_call fr rfl rfl (by first | decide | simp) (x_call (vs := []) rfl rfl trivial Try.func9 nm9 rfl) (new_c _) ?_
    clear fr a
    rintro v w7 ⟨b4, rfl, H5, hb6, hN8⟩ a fr
    have ap_P_b4 : Apart P b4 := hV.apart hb6
    have g_b4 := Nat.le_trans hF.size hb6
    replace hV := hV.new hN8
    replace hF := hF.trNew hN8
    refine fx_val (v := .pointer (some ⟨b4, 0, none⟩)) fr rfl rfl (by first | decide | simp) (x_assign rfl (fr.ev rfl)) ?_
    clear fr a; intro a fr
    refine wpList_nil ?_
    refine fx_next ?_
    refine wp_seq ?_
    refine wp_region_lit ?_  -- region 4
    refine fx_val (v := .slice none 0 0) fr rfl rfl (by first | decide | simp) (x_assign rfl rfl) ?_
    clear fr a; intro a fr
    refine wpList_nil ?_
    refine fx_next ?_
    refine wp_seq ?_
    refine wp_seq ?_
    refine wp_region_lit ?_  -- region 5
    refine fx_val (v := .int .i64 0) fr rfl rfl (by first | decide | simp) (x_assign rfl rfl) ?_
    clear fr a; intro a fr
    refine wpList_nil ?_
    refine fx_next ?_
    refine wp_block ?_
    refine fx_loop (fun nM a wL => ∃ l : List VSt, ∃ V : Option Addr, ∃ vc : Nat, ∃ i : Nat, nM = la.length - i ∧ Fr (44, []) [(0, .slice P la.length cp), (2, .bool false), (3, .pointer (some ⟨b4, 0, none⟩)), (4, .slice V ((vals l).length) vc), (5, .int .i64 ((i : Nat) : Int))] a ∧ Only (fun _ => False) w wL ∧ View stE wL P cp la ∧ BufAt wL b4 l ∧ View stE wL V vc (vals l) ∧ i ≤ la.length ∧ (Apart V b4) ∧ (∀ g, inA V g → (fun _ => False) g ∨ w.heap.size ≤ g)) (n0 := _) ⟨[], none, 0, 0, rfl, fr.sub ⟨rfl, rfl, rfl, rfl, rfl, trivial⟩, hF, hV, H5, View.nil, by omega, (apart_none b4), gA_none⟩ ?_
    rintro n10 a w9 ⟨l, V, vc, i, rfl, fr, hF, hV, H, hW, hi, ap_V_b4, gA_V⟩
    have hml := H.len
    refine wp_seq ?_
    refine wp_seq ?_
    refine wp_region_lit ?_  -- region 6
    refine fx_val (v := .int .i64 ((i : Nat) : Int)) fr rfl rfl (by first | decide | simp) (x_move rfl (fr.ev rfl)) ?_
    clear fr a; intro a fr
    refine fx_val (v := .slice P la.length cp) fr rfl rfl (by first | decide | simp) (x_move rfl (fr.ev rfl)) ?_
    clear fr a; intro a fr
    refine fx_val (v := .int .i64 ((la.length : Nat) : Int)) fr rfl rfl (by first | decide | simp) (x_len Try.underlying32 rfl (fr.ev rfl)) ?_
    clear fr a; intro a fr
    refine fx_val (v := .bool (decide (((i : Nat) : Int) < ((la.length : Nat) : Int)))) fr rfl rfl (by first | decide | simp) (x_lss rfl (fr.ev rfl) (fr.ev rfl) rfl) ?_
    clear fr a; intro a fr
    refine wpList_nil ?_
    refine fx_next ?_
    refine fx_cond fr rfl (fun hc11 => ?_) (fun hc11 => ?_)
    · skip
      have hc11 := of_decide_eq_true hc11
      refine wp_skip ?_
      refine fx_next ?_
      refine wp_seq ?_
      refine wp_block ?_
      refine wp_seq ?_
      refine wp_region_lit ?_  -- region 8
      refine fx_val (v := .slice V ((vals l).length) vc) fr rfl rfl (by first | decide | simp) (x_move rfl (fr.ev rfl)) ?_
      clear fr a; intro a fr
      refine fx_val (v := .slice P la.length cp) fr rfl rfl (by first | decide | simp) (x_move rfl (fr.ev rfl)) ?_
      clear fr a; intro a fr
      refine fx_val (v := .int .i64 ((i : Nat) : Int)) fr rfl rfl (by first | decide | simp) (x_move rfl (fr.ev rfl)) ?_
      clear fr a; intro a fr
      obtain ⟨g12, o13, hA14⟩ := (hV).some_ (by omega)
      refine fx_val (v := .pointer (some ⟨g12, o13 + i * 3, none⟩)) fr rfl rfl (by first | decide | simp) (x_indexV Try.underlying32 sz24 rfl (fr.ev rfl) hA14 (fr.ev rfl) (by omega) rfl) ?_
      clear fr a; intro a fr
      refine fx_val (v := .agg (stE.arr (la.getD i st0))) fr rfl rfl (by first | decide | simp) (x_loadE (E := stE) ag24 rfl rfl (fr.ev rfl) ((hV).elem hA14 i st0 (by omega))) ?_
      clear fr a; intro a fr
      refine fx_call fr rfl rfl (by first | decide | simp) (x_call (vs := [.slice V ((vals l).length) vc, .agg (stE.arr (la.getD i st0))]) rfl rfl ⟨(fr.ev rfl), (fr.ev rfl), trivial⟩ Try.func12 nm12 rfl) (rpush_c (la.getD i st0) (l := l) (hW) (by first | omega | (simp; done) | (simp; omega))) ?_
      clear fr a
      rintro v w19 ⟨A15, cap16, rfl, V17, mv18, hN20⟩ a fr
      have ap_A15_b4 : Apart A15 b4 := moved_apart mv18 ap_V_b4 H.lt
      have gA_A15 := gA_moved hF mv18 gA_V
      replace hV := hV.new hN20
      replace H := H.new hN20
      replace hW := hW.new hN20
      replace hF := hF.trNew hN20
      refine fx_val (v := .tuple #[.slice A15 ((vals (pushL l (la.getD i st0))).length) cap16, .int .i64 (pushE l (la.getD i st0))]) fr rfl rfl (by first | decide | simp) (x_move rfl (fr.ev rfl)) ?_
      clear fr a; intro a fr
      refine fx_val (v := .slice A15 ((vals (pushL l (la.getD i st0))).length) cap16) fr rfl rfl (by first | decide | simp) (x_extract rfl (fr.ev rfl) rfl) ?_
      clear fr a; intro a fr
      refine fx_val (v := .int .i64 (pushE l (la.getD i st0))) fr rfl rfl (by first | decide | simp) (x_extract rfl (fr.ev rfl) rfl) ?_
      clear fr a; intro a fr
      refine fx_val (v := .slice A15 ((vals (pushL l (la.getD i st0))).length) cap16) fr rfl rfl (by first | decide | simp) (x_assign rfl (fr.ev rfl)) ?_
      clear fr a; intro a fr
      refine fx_val (v := .int .i64 (pushE l (la.getD i st0))) fr rfl rfl (by first | decide | simp) (x_assign rfl (fr.ev rfl)) ?_
      clear fr a; intro a fr
      refine wpList_nil ?_
      refine fx_next ?_
      refine wp_seq ?_
      refine wp_region_lit ?_  -- region 9
      refine fx_val (v := .slice A15 ((vals (pushL l (la.getD i st0))).length) cap16) fr rfl rfl (by first | decide | simp) (x_move rfl (fr.ev rfl)) ?_
      clear fr a; intro a fr
      refine fx_val (v := .slice A15 ((vals (pushL l (la.getD i st0))).length) cap16) fr rfl rfl (by first | decide | simp) (x_assign rfl (fr.ev rfl)) ?_
      clear fr a; intro a fr
      refine wpList_nil ?_
      refine fx_next ?_
      refine wp_seq ?_
      refine wp_region_lit ?_  -- region 10
      refine fx_val (v := .pointer (some ⟨b4, 0, none⟩)) fr rfl rfl (by first | decide | simp) (x_move rfl (fr.ev rfl)) ?_
      clear fr a; intro a fr
      refine fx_val (v := .slice P la.length cp) fr rfl rfl (by first | decide | simp) (x_move rfl (fr.ev rfl)) ?_
      clear fr a; intro a fr
      refine fx_val (v := .int .i64 ((i : Nat) : Int)) fr rfl rfl (by first | decide | simp) (x_move rfl (fr.ev rfl)) ?_
      clear fr a; intro a fr
      refine fx_val (v := .pointer (some ⟨g12, o13 + i * 3, none⟩)) fr rfl rfl (by first | decide | simp) (x_indexV Try.underlying32 sz24 rfl (fr.ev rfl) hA14 (fr.ev rfl) (by omega) rfl) ?_
      clear fr a; intro a fr
      refine fx_val (v := .agg (stE.arr (la.getD i st0))) fr rfl rfl (by first | decide | simp) (x_loadE (E := stE) ag24 rfl rfl (fr.ev rfl) ((hV).elem hA14 i st0 (by omega))) ?_
      clear fr a; intro a fr
      refine fx_call fr rfl rfl (by first | decide | simp) (x_call (vs := [.pointer (some ⟨b4, 0, none⟩), .agg (stE.arr (la.getD i st0))]) rfl rfl ⟨(fr.ev rfl), (fr.ev rfl), trivial⟩ Try.func10 nm10 rfl) (push_c (la.getD i st0) H) ?_
      clear fr a
      rintro v w22 ⟨rfl, H21, hN23⟩ a fr
      replace hV := hV.only hN23 (Apart.ne1 ap_P_b4)
      replace hW := hW.only hN23 (Apart.ne1 ap_V_b4)
      replace V17 := V17.only hN23 (Apart.ne1 ap_A15_b4)
      replace hF := hF.loc hN23 (.inr g_b4)
      clear H
      refine fx_call fr rfl rfl (by first | decide | simp) (x_call (vs := [.int .i64 (pushE l (la.getD i st0))]) rfl rfl ⟨(fr.ev rfl), trivial⟩ Try.func14 nm14 rfl) (num_c (pushE l (la.getD i st0)) _) ?_
      clear fr a
      rintro v w9 ⟨rfl, hw9⟩ a fr
      obtain rfl := hw9.symm
      refine fx_val (v := .int .i64 (pushE l (la.getD i st0))) fr rfl rfl (by first | decide | simp) (x_move rfl (fr.ev rfl)) ?_
      clear fr a; intro a fr
      refine fx_val (v := .bool false) fr rfl rfl (by first | decide | simp) (x_neq rfl (fr.ev rfl) (fr.ev rfl) (by simp)) ?_
      clear fr a; intro a fr
      refine wpList_nil ?_
      refine fx_next ?_
      refine fx_cond_f fr rfl ?_
      refine wp_skip ?_
      refine fx_blk ?_
      refine fx_next ?_
      refine wp_region_lit ?_  -- region 7
      refine fx_val (v := .int .i64 ((i : Nat) : Int)) fr rfl rfl (by first | decide | simp) (x_move rfl (fr.ev rfl)) ?_
      clear fr a; intro a fr
      refine fx_val (v := .int .i64 ((i + 1 : Nat) : Int)) fr rfl rfl (by first | decide | simp) (x_add rfl (fr.ev rfl) rfl (i64w (r := ((i + 1 : Nat) : Int)) (by omega) (by omega))) ?_
      clear fr a; intro a fr
      refine fx_val (v := .int .i64 ((i + 1 : Nat) : Int)) fr rfl rfl (by first | decide | simp) (x_assign rfl (fr.ev rfl)) ?_
      clear fr a; intro a fr
      refine wpList_nil ?_
      refine fx_next ?_
      exact ⟨_, by omega, (pushL l (la.getD i st0)), A15, cap16, (i + 1), rfl, fr.sub ⟨rfl, rfl, rfl, rfl, rfl, trivial⟩, hF, hV, H21, V17, by omega, ap_A15_b4, gA_A15⟩
    · skip
      have hc11 := of_decide_eq_false hc11
      refine wp_exit ?_
      refine fx_xt ?_
      refine fx_xt ?_
      refine fx_xx ?_
      refine fx_next ?_
      refine wp_seq ?_
      refine wp_region_lit ?_  -- region 12
      refine fx_val (v := .pointer (some ⟨b4, 0, none⟩)) fr rfl rfl (by first | decide | simp) (x_move rfl (fr.ev rfl)) ?_
      clear fr a; intro a fr
      refine fx_val (v := .slice V ((vals l).length) vc) fr rfl rfl (by first | decide | simp) (x_move rfl (fr.ev rfl)) ?_
      clear fr a; intro a fr
      refine fx_call fr rfl rfl (by first | decide | simp) (x_call (vs := [.pointer (some ⟨b4, 0, none⟩), .slice V ((vals l).length) vc]) rfl rfl ⟨(fr.ev rfl), (fr.ev rfl), trivial⟩ Try.func17 nm17 rfl) (is_c H (hW)) ?_
      clear fr a
      rintro v w26 ⟨rfl, hN27⟩ a fr
      replace hV := hV.new hN27
      replace H := H.new hN27
      replace hW := hW.new hN27
      replace hF := hF.trNew hN27
      refine fx_val (v := .bool true) fr rfl rfl (by first | decide | simp) (x_move rfl (fr.ev rfl)) ?_
      clear fr a; intro a fr
      refine fx_call fr (fr.want rfl rfl rfl) rfl (by first | decide | simp) (x_call (vs := []) rfl rfl trivial Try.func15 nm15 rfl) (works_c _) ?_
      clear fr a
      rintro v w28 ⟨rfl, hN29⟩ a fr
      replace hV := hV.new hN29
      replace H := H.new hN29
      replace hW := hW.new hN29
      replace hF := hF.trNew hN29
      refine fx_val (v := .bool true) fr rfl rfl (by first | decide | simp) (x_pick_t rfl (fr.ev rfl) (fr.ev rfl)) ?_
      clear fr a; intro a fr
      refine fx_val (v := .bool true) fr rfl rfl (by first | decide | simp) (x_assign rfl (fr.ev rfl)) ?_
      clear fr a; intro a fr
      refine wpList_nil ?_
      refine fx_next ?_
      refine wp_ret ?_
      refine fx_ret fr [.tmp 2] [.bool true] rfl ⟨rfl, trivial⟩ rfl ?_
      exact ⟨_, rfl, rfl, hF⟩
set_option maxRecDepth 100000 in
set_option maxHeartbeats 4000000 in
theorem played_c {w : World} {P : Option Addr} {cp : Nat} {la : List BAct} (hV : View actE w P cp la) : Calls Try.prog 16 #[.slice P la.length cp] w (Ret fun v w' => ∃ b l V vc, v = .tuple #[.pointer (some ⟨b, 0, none⟩), .slice V (vals l).length vc, .bool true] ∧ BufAt w' b l ∧ View stE w' V vc (vals l) ∧ w.heap.size ≤ b ∧ (∀ g, inA V g → w.heap.size ≤ g) ∧ Apart V b ∧ New w w') := by
  have hVl := hV.len
  unfold maxLen at hVl
  have hF := Only.refl (fun _ => False) w
  refine fx_enter Try.func16 rfl (N := (77, [])) (T := [(0, .slice P la.length cp)]) rfl (show 1 ≤ 77 by decide) ⟨rfl, trivial⟩ fun a fr => ?_
  refine wp_seq ?_
  refine wp_region_lit ?_  -- region 0
  refine fx_val (v := .pointer none) fr rfl rfl (by first | decide | simp) (x_assign rfl rfl) ?_
  clear fr a; intro a fr
  refine fx_val (v := .slice none 0 0) fr rfl rfl (by first | decide | simp) (x_assign rfl rfl) ?_
  clear fr a; intro a fr
  refine fx_val (v := .bool false) fr rfl rfl (by first | decide | simp) (x_assign rfl rfl) ?_
  clear fr a; intro a fr
  refine wpList_nil ?_
  refine fx_next ?_
  refine wp_seq ?_
  refine wp_region_lit ?_  -- region 1
  refine fx_call fr rfl rfl (by first | decide | simp) (x_call (vs := []) rfl rfl trivial Try.func9 nm9 rfl) (new_c _) ?_
  clear fr a
  rintro v w4 ⟨b1, rfl, H2, hb3, hN5⟩ a fr
  have ap_P_b1 : Apart P b1 := hV.apart hb3
  have g_b1 := Nat.le_trans hF.size hb3
  replace hV := hV.new hN5
  replace hF := hF.trNew hN5
  refine fx_val (v := .pointer (some ⟨b1, 0, none⟩)) fr rfl rfl (by first | decide | simp) (x_assign rfl (fr.ev rfl)) ?_
  clear fr a; intro a fr
  refine wpList_nil ?_
  refine fx_next ?_
  refine wp_seq ?_
  refine wp_region_lit ?_  -- region 2
  refine fx_val (v := .slice none 0 0) fr rfl rfl (by first | decide | simp) (x_assign rfl rfl) ?_
  clear fr a; intro a fr
  refine wpList_nil ?_
  refine fx_next ?_
  refine wp_seq ?_
  refine wp_seq ?_
  refine wp_region_lit ?_  -- region 3
  refine fx_val (v := .int .i64 0) fr rfl rfl (by first | decide | simp) (x_assign rfl rfl) ?_
  clear fr a; intro a fr
  refine wpList_nil ?_
  refine fx_next ?_
  refine wp_block ?_
  refine fx_loop (fun nM a wL => ∃ l : List VSt, ∃ V : Option Addr, ∃ vc : Nat, ∃ i : Nat, nM = la.length - i ∧ Fr (77, []) [(0, .slice P la.length cp), (2, .pointer none), (3, .slice none 0 0), (4, .bool false), (5, .pointer (some ⟨b1, 0, none⟩)), (6, .slice V ((vals l).length) vc), (7, .int .i64 ((i : Nat) : Int))] a ∧ Only (fun _ => False) w wL ∧ View actE wL P cp la ∧ BufAt wL b1 l ∧ View stE wL V vc (vals l) ∧ i ≤ la.length ∧ (Apart V b1) ∧ (∀ g, inA V g → (fun _ => False) g ∨ w.heap.size ≤ g)) (n0 := _) ⟨[], none, 0, 0, rfl, fr.sub ⟨rfl, rfl, rfl, rfl, rfl, rfl, rfl, trivial⟩, hF, hV, H2, View.nil, by omega, (apart_none b1), gA_none⟩ ?_
  rintro n7 a w6 ⟨l, V, vc, i, rfl, fr, hF, hV, H, hW, hi, ap_V_b1, gA_V⟩
  have hml := H.len
  refine wp_seq ?_
  refine wp_seq ?_
  refine wp_region_lit ?_  -- region 4
  refine fx_val (v := .int .i64 ((i : Nat) : Int)) fr rfl rfl (by first | decide | simp) (x_move rfl (fr.ev rfl)) ?_
  clear fr a; intro a fr
  refine fx_val (v := .slice P la.length cp) fr rfl rfl (by first | decide | simp) (x_move rfl (fr.ev rfl)) ?_
  clear fr a; intro a fr
  refine fx_val (v := .int .i64 ((la.length : Nat) : Int)) fr rfl rfl (by first | decide | simp) (x_len Try.underlying40 rfl (fr.ev rfl)) ?_
  clear fr a; intro a fr
  refine fx_val (v := .bool (decide (((i : Nat) : Int) < ((la.length : Nat) : Int)))) fr rfl rfl (by first | decide | simp) (x_lss rfl (fr.ev rfl) (fr.ev rfl) rfl) ?_
  clear fr a; intro a fr
  refine wpList_nil ?_
  refine fx_next ?_
  refine fx_cond fr rfl (fun hc8 => ?_) (fun hc8 => ?_)
  · skip
    have hc8 := of_decide_eq_true hc8
    refine wp_skip ?_
    refine fx_next ?_
    refine wp_seq ?_
    refine wp_block ?_
    refine wp_seq ?_
    refine wp_seq ?_
    refine wp_region_lit ?_  -- region 6
    refine fx_val (v := .slice P la.length cp) fr rfl rfl (by first | decide | simp) (x_move rfl (fr.ev rfl)) ?_
    clear fr a; intro a fr
    refine fx_val (v := .int .i64 ((i : Nat) : Int)) fr rfl rfl (by first | decide | simp) (x_move rfl (fr.ev rfl)) ?_
    clear fr a; intro a fr
    obtain ⟨g9, o10, hA11⟩ := (hV).some_ (by omega)
    refine fx_val (v := .pointer (some ⟨g9, o10 + i * 4, none⟩)) fr rfl rfl (by first | decide | simp) (x_indexV Try.underlying40 sz48 rfl (fr.ev rfl) hA11 (fr.ev rfl) (by omega) rfl) ?_
    clear fr a; intro a fr
    refine fx_val (v := .pointer (some ⟨g9, o10 + i * 4, none⟩)) fr rfl rfl (by first | decide | simp) (x_fieldAddr fo48_0 rfl (fr.ev rfl) rfl) ?_
    clear fr a; intro a fr
    refine fx_val (v := .int .i64 ((la.getD i act0).what)) fr rfl rfl (by first | decide | simp) (x_load1 pl3 rfl (fr.ev rfl) (range_cell ((hV).elem hA11 i act0 (by omega)) 0 rfl rfl)) ?_
    clear fr a; intro a fr
    refine fx_val (v := .bool (decide ((la.getD i act0).what ≠ 0))) fr rfl rfl (by first | decide | simp) (x_neq rfl (fr.ev rfl) rfl rfl) ?_
    clear fr a; intro a fr
    refine wpList_nil ?_
    refine fx_next ?_
    refine fx_cond fr rfl (fun hc12 => ?_) (fun hc12 => ?_)
    · skip
      have hc12 := of_decide_eq_true hc12
      refine wp_seq ?_
      refine wp_region_lit ?_  -- region 7
      refine fx_val (v := .slice V ((vals l).length) vc) fr rfl rfl (by first | decide | simp) (x_move rfl (fr.ev rfl)) ?_
      clear fr a; intro a fr
      refine fx_call fr rfl rfl (by first | decide | simp) (x_call (vs := [.slice V ((vals l).length) vc]) rfl rfl ⟨(fr.ev rfl), trivial⟩ Try.func34 nm34 rfl) (rhead_c (l := l) (hW)) ?_
      clear fr a
      rintro v w13 ⟨rfl, hN14⟩ a fr
      replace hV := hV.new hN14
      replace H := H.new hN14
      replace hW := hW.new hN14
      replace hF := hF.trNew hN14
      refine fx_val (v := .tuple #[.agg (stE.arr (hdS l)), .bool (decide (l ≠ []))]) fr rfl rfl (by first | decide | simp) (x_move rfl (fr.ev rfl)) ?_
      clear fr a; intro a fr
      refine fx_val (v := .agg (stE.arr (hdS l))) fr rfl rfl (by first | decide | simp) (x_extract rfl (fr.ev rfl) rfl) ?_
      clear fr a; intro a fr
      refine fx_val (v := .bool (decide (l ≠ []))) fr rfl rfl (by first | decide | simp) (x_extract rfl (fr.ev rfl) rfl) ?_
      clear fr a; intro a fr
      refine fx_new fr rfl rfl (by first | decide | simp) (x_alloc (z := .agg (#[.int .u32 0, .int .i64 0, .int .u32 0])) (cs := stE.arr st0) rfl (by kernel_rfl) rfl) ?_
      clear fr a
      intro b15 w16 hN17 B18 hb19 a fr
      have ap_P_b15 : Apart P b15 := hV.apart hb19
      have ne_b1_b15 : NE b1 b15 := NE.mk (Nat.lt_of_lt_of_le H.lt hb19)
      have ap_V_b15 : Apart V b15 := hW.apart hb19
      have g_b15 := Nat.le_trans hF.size hb19
      replace hV := hV.new hN17
      replace H := H.new hN17
      replace hW := hW.new hN17
      replace hF := hF.trNew hN17
      refine fx_storeS sz24 rfl rfl rfl (fr.ev rfl) (fr.ev rfl) (stE.all _) B18 (stE.size _) (stE.size _) fun w20 hO21 hBq => ?_
      replace hV := hV.only hO21 (Apart.ne1 ap_P_b15)
      replace H := H.only hO21 (by first | exact ne_b1_b15 | exact ne_b15_b1.symm | (show ¬ b1 = b15; omega))
      replace hW := hW.only hO21 (Apart.ne1 ap_V_b15)
      replace hF := hF.loc hO21 (.inr g_b15)
      replace B18 := hBq
      clear hBq
      refine fx_val (v := .bool (decide (l ≠ []))) fr rfl rfl (by first | decide | simp) (x_assign rfl (fr.ev rfl)) ?_
      clear fr a; intro a fr
      refine wpList_nil ?_
      refine fx_next ?_
      refine wp_seq ?_
      refine wp_region_lit ?_  -- region 8
      refine fx_val (v := .pointer (some ⟨b1, 0, none⟩)) fr rfl rfl (by first | decide | simp) (x_move rfl (fr.ev rfl)) ?_
      clear fr a; intro a fr
      refine fx_call fr rfl rfl (by first | decide | simp) (x_call (vs := [.pointer (some ⟨b1, 0, none⟩)]) rfl rfl ⟨(fr.ev rfl), trivial⟩ Try.func18 nm18 rfl) (pop_c H) ?_
      clear fr a
      rintro v w23 ⟨rfl, H22, hN24⟩ a fr
      replace hV := hV.only hN24 (Apart.ne1 ap_P_b1)
      replace hW := hW.only hN24 (Apart.ne1 ap_V_b1)
      replace B18 := B18.only hN24 (by first | exact ne_b15_b1 | exact ne_b1_b15.symm | (show ¬ b15 = b1; omega))
      replace hF := hF.loc hN24 (.inr g_b1)
      clear H
      refine fx_val (v := .tuple #[.agg (stE.arr (hdS l)), .bool (decide (l ≠ []))]) fr rfl rfl (by first | decide | simp) (x_move rfl (fr.ev rfl)) ?_
      clear fr a; intro a fr
      refine fx_val (v := .agg (stE.arr (hdS l))) fr rfl rfl (by first | decide | simp) (x_extract rfl (fr.ev rfl) rfl) ?_
      clear fr a; intro a fr
      refine fx_val (v := .bool (decide (l ≠ []))) fr rfl rfl (by first | decide | simp) (x_extract rfl (fr.ev rfl) rfl) ?_
      clear fr a; intro a fr
      refine fx_new fr rfl rfl (by first | decide | simp) (x_alloc (z := .agg (#[.int .u32 0, .int .i64 0, .int .u32 0])) (cs := stE.arr st0) rfl (by kernel_rfl) rfl) ?_
      clear fr a
      intro b25 w26 hN27 B28 hb29 a fr
      have ap_P_b25 : Apart P b25 := hV.apart hb29
      have ap_V_b25 : Apart V b25 := hW.apart hb29
      have ne_b15_b25 : NE b15 b25 := NE.mk (Nat.lt_of_lt_of_le B18.lt hb29)
      have ne_b1_b25 : NE b1 b25 := NE.mk (Nat.lt_of_lt_of_le H22.lt hb29)
      have g_b25 := Nat.le_trans hF.size hb29
      replace hV := hV.new hN27
      replace hW := hW.new hN27
      replace B18 := B18.new hN27
      replace H22 := H22.new hN27
      replace hF := hF.trNew hN27
      refine fx_storeS sz24 rfl rfl rfl (fr.ev rfl) (fr.ev rfl) (stE.all _) B28 (stE.size _) (stE.size _) fun w30 hO31 hBq => ?_
      replace hV := hV.only hO31 (Apart.ne1 ap_P_b25)
      replace hW := hW.only hO31 (Apart.ne1 ap_V_b25)
      replace B18 := B18.only hO31 (by first | exact ne_b15_b25 | exact ne_b25_b15.symm | (show ¬ b15 = b25; omega))
      replace H22 := H22.only hO31 (by first | exact ne_b1_b25 | exact ne_b25_b1.symm | (show ¬ b1 = b25; omega))
      replace hF := hF.loc hO31 (.inr g_b25)
      replace B28 := hBq
      clear hBq
      refine fx_val (v := .bool (decide (l ≠ []))) fr rfl rfl (by first | decide | simp) (x_assign rfl (fr.ev rfl)) ?_
      clear fr a; intro a fr
      refine wpList_nil ?_
      refine fx_next ?_
      refine wp_seq ?_
      refine wp_region_lit ?_  -- region 9
      refine fx_val (v := .slice V ((vals l).length) vc) fr rfl rfl (by first | decide | simp) (x_move rfl (fr.ev rfl)) ?_
      clear fr a; intro a fr
      refine fx_val (v := .slice V ((vals l).length) vc) fr rfl rfl (by first | decide | simp) (x_move rfl (fr.ev rfl)) ?_
      clear fr a; intro a fr
      refine fx_val (v := .int .i64 (((vals l).length : Nat) : Int)) fr rfl rfl (by first | decide | simp) (x_len Try.underlying32 rfl (fr.ev rfl)) ?_
      clear fr a; intro a fr
      refine fx_val (v := .int .i64 ((min 1 ((vals l).length) : Nat) : Int)) fr rfl rfl (by first | decide | simp) (x_min rfl rfl (fr.ev rfl) (r := ((min 1 ((vals l).length) : Nat) : Int)) (by omega)) ?_
      clear fr a; intro a fr
      refine fx_val (v := .slice (cutA V vc (min 1 ((vals l).length)) 3) (((vals l).length) - (min 1 ((vals l).length))) (vc - (min 1 ((vals l).length)))) fr rfl rfl (by first | decide | simp) (x_slice_from Try.underlying32 sz24 rfl (fr.ev rfl) (fr.ev rfl) (by omega)) ?_
      clear fr a; intro a fr
      refine fx_val (v := .slice (cutA V vc (min 1 ((vals l).length)) 3) (((vals l).length) - (min 1 ((vals l).length))) (vc - (min 1 ((vals l).length)))) fr rfl rfl (by first | decide | simp) (x_assign rfl (fr.ev rfl)) ?_
      clear fr a; intro a fr
      refine wpList_nil ?_
      refine fx_next ?_
      refine wp_seq ?_
      refine wp_seq ?_
      obtain ⟨V32, vc33, he34, hW35, mv36⟩ := tail_slice hW
      rw [he34] at fr
      have ap_V32_b15 : Apart V32 b15 := moved_apart mv36 ap_V_b15 B18.lt
      have ap_V32_b1 : Apart V32 b1 := moved_apart mv36 ap_V_b1 H22.lt
      have ap_V32_b25 : Apart V32 b25 := moved_apart mv36 ap_V_b25 B28.lt
      have gA_V32 := gA_moved hF mv36 gA_V
      refine wp_region_lit ?_  -- region 10
      refine fx_val (v := .agg (stE.arr (hdS l))) fr rfl rfl (by first | decide | simp) (x_loadE (E := stE) ag24 rfl rfl (fr.ev rfl) (B18.rangeE (P := Try.prog) stE)) ?_
      clear fr a; intro a fr
      refine fx_val (v := .agg (stE.arr (hdS l))) fr rfl rfl (by first | decide | simp) (x_loadE (E := stE) ag24 rfl rfl (fr.ev rfl) (B28.rangeE (P := Try.prog) stE)) ?_
      clear fr a; intro a fr
      refine fx_val (v := .bool false) fr rfl rfl (by first | decide | simp) (x_neE stER rfl rfl (fr.ev rfl) (fr.ev rfl) (by simp)) ?_
      clear fr a; intro a fr
      refine fx_val (v := .bool false) fr rfl rfl (by first | decide | simp) (x_move rfl (fr.ev rfl)) ?_
      clear fr a; intro a fr
      refine fx_val (v := .bool (decide (l ≠ []))) fr (fr.want rfl rfl rfl) rfl (by first | decide | simp) (x_move rfl (fr.ev rfl)) ?_
      clear fr a; intro a fr
      refine fx_val (v := .bool (decide (l ≠ []))) fr (fr.want rfl rfl rfl) rfl (by first | decide | simp) (x_move rfl (fr.ev rfl)) ?_
      clear fr a; intro a fr
      refine fx_val (v := .bool false) fr (fr.want rfl rfl rfl) rfl (by first | decide | simp) (x_bneq Try.underlying4 rfl (fr.ev rfl) (fr.ev rfl) (by simp)) ?_
      clear fr a; intro a fr
      refine fx_val (v := .bool false) fr rfl rfl (by first | decide | simp) (x_pick_f rfl (fr.ev rfl) (fr.ev rfl)) ?_
      clear fr a; intro a fr
      refine wpList_nil ?_
      refine fx_next ?_
      refine fx_cond_f fr rfl ?_
      refine wp_skip ?_
      refine fx_next ?_
      refine wp_exit ?_
      refine fx_xt ?_
      refine fx_xx ?_
      refine fx_next ?_
      refine wp_region_lit ?_  -- region 5
      refine fx_val (v := .int .i64 ((i : Nat) : Int)) fr rfl rfl (by first | decide | simp) (x_move rfl (fr.ev rfl)) ?_
      clear fr a; intro a fr
      refine fx_val (v := .int .i64 ((i + 1 : Nat) : Int)) fr rfl rfl (by first | decide | simp) (x_add rfl (fr.ev rfl) rfl (i64w (r := ((i + 1 : Nat) : Int)) (by omega) (by omega))) ?_
      clear fr a; intro a fr
      refine fx_val (v := .int .i64 ((i + 1 : Nat) : Int)) fr rfl rfl (by first | decide | simp) (x_assign rfl (fr.ev rfl)) ?_
      clear fr a; intro a fr
      refine wpList_nil ?_
      refine fx_next ?_
      exact ⟨_, by omega, l.tail, V32, vc33, (i + 1), rfl, fr.sub ⟨rfl, rfl, rfl, rfl, rfl, rfl, rfl, trivial⟩, hF, hV, H22, hW35, by omega, ap_V32_b1, gA_V32⟩
    · skip
      have hc12 := of_decide_eq_false hc12
      refine wp_skip ?_
      refine fx_next ?_
      refine wp_seq ?_
      refine wp_region_lit ?_  -- region 12
      refine fx_val (v := .slice V ((vals l).length) vc) fr rfl rfl (by first | decide | simp) (x_move rfl (fr.ev rfl)) ?_
      clear fr a; intro a fr
      refine fx_val (v := .slice P la.length cp) fr rfl rfl (by first | decide | simp) (x_move rfl (fr.ev rfl)) ?_
      clear fr a; intro a fr
      refine fx_val (v := .int .i64 ((i : Nat) : Int)) fr rfl rfl (by first | decide | simp) (x_move rfl (fr.ev rfl)) ?_
      clear fr a; intro a fr
      refine fx_val (v := .pointer (some ⟨g9, o10 + i * 4, none⟩)) fr rfl rfl (by first | decide | simp) (x_indexV Try.underlying40 sz48 rfl (fr.ev rfl) hA11 (fr.ev rfl) (by omega) rfl) ?_
      clear fr a; intro a fr
      refine fx_val (v := .pointer (some ⟨g9, o10 + i * 4 + 1, none⟩)) fr rfl rfl (by first | decide | simp) (x_fieldAddr fo48_1 rfl (fr.ev rfl) rfl) ?_
      clear fr a; intro a fr
      refine fx_val (v := .agg (stE.arr ((la.getD i act0).st))) fr rfl rfl (by first | decide | simp) (x_loadE (E := stE) ag24 rfl rfl (fr.ev rfl) (range_sub ((hV).elem hA11 i act0 (by omega)) 1 3 rfl rfl)) ?_
      clear fr a; intro a fr
      refine fx_call fr rfl rfl (by first | decide | simp) (x_call (vs := [.slice V ((vals l).length) vc, .agg (stE.arr ((la.getD i act0).st))]) rfl rfl ⟨(fr.ev rfl), (fr.ev rfl), trivial⟩ Try.func12 nm12 rfl) (rpush_c ((la.getD i act0).st) (l := l) (hW) (by first | omega | (simp; done) | (simp; omega))) ?_
      clear fr a
      rintro v w41 ⟨A37, cap38, rfl, V39, mv40, hN42⟩ a fr
      have ap_A37_b1 : Apart A37 b1 := moved_apart mv40 ap_V_b1 H.lt
      have gA_A37 := gA_moved hF mv40 gA_V
      replace hV := hV.new hN42
      replace H := H.new hN42
      replace hW := hW.new hN42
      replace hF := hF.trNew hN42
      refine fx_val (v := .tuple #[.slice A37 ((vals (pushL l ((la.getD i act0).st))).length) cap38, .int .i64 (pushE l ((la.getD i act0).st))]) fr rfl rfl (by first | decide | simp) (x_move rfl (fr.ev rfl)) ?_
      clear fr a; intro a fr
      refine fx_val (v := .slice A37 ((vals (pushL l ((la.getD i act0).st))).length) cap38) fr rfl rfl (by first | decide | simp) (x_extract rfl (fr.ev rfl) rfl) ?_
      clear fr a; intro a fr
      refine fx_val (v := .int .i64 (pushE l ((la.getD i act0).st))) fr rfl rfl (by first | decide | simp) (x_extract rfl (fr.ev rfl) rfl) ?_
      clear fr a; intro a fr
      refine fx_val (v := .slice A37 ((vals (pushL l ((la.getD i act0).st))).length) cap38) fr rfl rfl (by first | decide | simp) (x_assign rfl (fr.ev rfl)) ?_
      clear fr a; intro a fr
      refine fx_val (v := .int .i64 (pushE l ((la.getD i act0).st))) fr rfl rfl (by first | decide | simp) (x_assign rfl (fr.ev rfl)) ?_
      clear fr a; intro a fr
      refine wpList_nil ?_
      refine fx_next ?_
      refine wp_seq ?_
      refine wp_region_lit ?_  -- region 13
      refine fx_val (v := .slice A37 ((vals (pushL l ((la.getD i act0).st))).length) cap38) fr rfl rfl (by first | decide | simp) (x_move rfl (fr.ev rfl)) ?_
      clear fr a; intro a fr
      refine fx_val (v := .slice A37 ((vals (pushL l ((la.getD i act0).st))).length) cap38) fr rfl rfl (by first | decide | simp) (x_assign rfl (fr.ev rfl)) ?_
      clear fr a; intro a fr
      refine wpList_nil ?_
      refine fx_next ?_
      refine wp_seq ?_
      refine wp_region_lit ?_  -- region 14
      refine fx_val (v := .pointer (some ⟨b1, 0, none⟩)) fr rfl rfl (by first | decide | simp) (x_move rfl (fr.ev rfl)) ?_
      clear fr a; intro a fr
      refine fx_val (v := .slice P la.length cp) fr rfl rfl (by first | decide | simp) (x_move rfl (fr.ev rfl)) ?_
      clear fr a; intro a fr
      refine fx_val (v := .int .i64 ((i : Nat) : Int)) fr rfl rfl (by first | decide | simp) (x_move rfl (fr.ev rfl)) ?_
      clear fr a; intro a fr
      refine fx_val (v := .pointer (some ⟨g9, o10 + i * 4, none⟩)) fr rfl rfl (by first | decide | simp) (x_indexV Try.underlying40 sz48 rfl (fr.ev rfl) hA11 (fr.ev rfl) (by omega) rfl) ?_
      clear fr a; intro a fr
      refine fx_val (v := .pointer (some ⟨g9, o10 + i * 4 + 1, none⟩)) fr rfl rfl (by first | decide | simp) (x_fieldAddr fo48_1 rfl (fr.ev rfl) rfl) ?_
      clear fr a; intro a fr
      refine fx_val (v := .agg (stE.arr ((la.getD i act0).st))) fr rfl rfl (by first | decide | simp) (x_loadE (E := stE) ag24 rfl rfl (fr.ev rfl) (range_sub ((hV).elem hA11 i act0 (by omega)) 1 3 rfl rfl)) ?_
      clear fr a; intro a fr
      refine fx_call fr rfl rfl (by first | decide | simp) (x_call (vs := [.pointer (some ⟨b1, 0, none⟩), .agg (stE.arr ((la.getD i act0).st))]) rfl rfl ⟨(fr.ev rfl), (fr.ev rfl), trivial⟩ Try.func10 nm10 rfl) (push_c ((la.getD i act0).st) H) ?_
      clear fr a
      rintro v w44 ⟨rfl, H43, hN45⟩ a fr
      replace hV := hV.only hN45 (Apart.ne1 ap_P_b1)
      replace hW := hW.only hN45 (Apart.ne1 ap_V_b1)
      replace V39 := V39.only hN45 (Apart.ne1 ap_A37_b1)
      replace hF := hF.loc hN45 (.inr g_b1)
      clear H
      refine fx_call fr rfl rfl (by first | decide | simp) (x_call (vs := [.int .i64 (pushE l ((la.getD i act0).st))]) rfl rfl ⟨(fr.ev rfl), trivial⟩ Try.func14 nm14 rfl) (num_c (pushE l ((la.getD i act0).st)) _) ?_
      clear fr a
      rintro v w9 ⟨rfl, hw9⟩ a fr
      obtain rfl := hw9.symm
      refine fx_val (v := .int .i64 (pushE l ((la.getD i act0).st))) fr rfl rfl (by first | decide | simp) (x_move rfl (fr.ev rfl)) ?_
      clear fr a; intro a fr
      refine fx_val (v := .bool false) fr rfl rfl (by first | decide | simp) (x_neq rfl (fr.ev rfl) (fr.ev rfl) (by simp)) ?_
      clear fr a; intro a fr
      refine wpList_nil ?_
      refine fx_next ?_
      refine fx_cond_f fr rfl ?_
      refine wp_skip ?_
      refine fx_blk ?_
      refine fx_next ?_
      refine wp_region_lit ?_  -- region 5
      refine fx_val (v := .int .i64 ((i : Nat) : Int)) fr rfl rfl (by first | decide | simp) (x_move rfl (fr.ev rfl)) ?_
      clear fr a; intro a fr
      refine fx_val (v := .int .i64 ((i + 1 : Nat) : Int)) fr rfl rfl (by first | decide | simp) (x_add rfl (fr.ev rfl) rfl (i64w (r := ((i + 1 : Nat) : Int)) (by omega) (by omega))) ?_
      clear fr a; intro a fr
      refine fx_val (v := .int .i64 ((i + 1 : Nat) : Int)) fr rfl rfl (by first | decide | simp) (x_assign rfl (fr.ev rfl)) ?_
      clear fr a; intro a fr
      refine wpList_nil ?_
      refine fx_next ?_
      exact ⟨_, by omega, (pushL l ((la.getD i act0).st)), A37, cap38, (i + 1), rfl, fr.sub ⟨rfl, rfl, rfl, rfl, rfl, rfl, rfl, trivial⟩, hF, hV, H43, V39, by omega, ap_A37_b1, gA_A37⟩
  · skip
    have hc8 := of_decide_eq_false hc8
    refine wp_exit ?_
    refine fx_xt ?_
    refine fx_xt ?_
    refine fx_xx ?_
    refine fx_next ?_
    refine wp_seq ?_
    refine wp_region_lit ?_  -- region 16
    refine fx_val (v := .pointer (some ⟨b1, 0, none⟩)) fr rfl rfl (by first | decide | simp) (x_move rfl (fr.ev rfl)) ?_
    clear fr a; intro a fr
    refine fx_val (v := .slice V ((vals l).length) vc) fr rfl rfl (by first | decide | simp) (x_move rfl (fr.ev rfl)) ?_
    clear fr a; intro a fr
    refine fx_val (v := .pointer (some ⟨b1, 0, none⟩)) fr rfl rfl (by first | decide | simp) (x_assign rfl (fr.ev rfl)) ?_
    clear fr a; intro a fr
    refine fx_val (v := .slice V ((vals l).length) vc) fr rfl rfl (by first | decide | simp) (x_assign rfl (fr.ev rfl)) ?_
    clear fr a; intro a fr
    refine fx_val (v := .bool true) fr rfl rfl (by first | decide | simp) (x_assign rfl rfl) ?_
    clear fr a; intro a fr
    refine wpList_nil ?_
    refine fx_next ?_
    refine wp_ret ?_
    refine fx_ret fr [.tmp 2, .tmp 3, .tmp 4] [.pointer (some ⟨b1, 0, none⟩), .slice V ((vals l).length) vc, .bool true] rfl ⟨rfl, rfl, rfl, trivial⟩ rfl ?_
    exact ⟨_, rfl, b1, l, V, vc, rfl, H, hW, g_b1, (fun g hg => (gA_V g hg).resolve_left id), ap_V_b1, hF⟩
end Go.Proofs.Ytemihglffmfikaa
