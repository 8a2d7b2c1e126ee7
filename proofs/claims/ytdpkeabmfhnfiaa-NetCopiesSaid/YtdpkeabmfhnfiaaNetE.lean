/-
  The walks of works and NetChecks. Printed by gen_e.py.
-/
import Derived.Test.YtdpkeabmfhnfiaaNetD
namespace Go.Proofs.Ytdpkeabmfhnfiaa
open Go.RowKit

set_option maxRecDepth 100000 in
set_option maxHeartbeats 4000000 in
theorem works_c (w : World) : Calls Try.prog 13 #[] w (Ret fun v w' => v = .bool true ∧ New w w') := by
  have hF := Only.refl (fun _ => False) w
  refine fx_enter Try.func13 rfl (N := (57, [])) (T := []) rfl (show 0 ≤ 57 by decide) trivial fun a fr => ?_
  refine wp_seq ?_
  refine wp_region_lit ?_  -- region 0
  refine fx_val (v := .bool false) fr rfl rfl (by first | decide | simp) (x_assign rfl rfl) ?_
  clear fr a; intro a fr
  refine wpList_nil ?_
  refine fx_next ?_
  refine wp_seq ?_
  refine wp_region_lit ?_  -- region 1
  refine fx_call fr rfl rfl (by first | decide | simp) (x_call (vs := [.int .i64 2]) rfl rfl ⟨rfl, trivial⟩ Try.func14 nm14 rfl) (new_yes 2 _ (by omega) (by omega)) ?_
  clear fr a
  rintro v w7 ⟨b1, A2, cap3, rfl, H4, hb5, hA6, hN8⟩ a fr
  have g_b1 := Nat.le_trans hF.size hb5
  have gA_A2 := gA_new hF hA6
  replace hF := hF.trNew hN8
  refine fx_val (v := .tuple #[.pointer (some ⟨b1, 0, none⟩), .int .i64 0]) fr rfl rfl (by first | decide | simp) (x_move rfl (fr.ev rfl)) ?_
  clear fr a; intro a fr
  refine fx_val (v := .pointer (some ⟨b1, 0, none⟩)) fr rfl rfl (by first | decide | simp) (x_extract rfl (fr.ev rfl) rfl) ?_
  clear fr a; intro a fr
  refine fx_val (v := .int .i64 0) fr rfl rfl (by first | decide | simp) (x_extract rfl (fr.ev rfl) rfl) ?_
  clear fr a; intro a fr
  refine fx_val (v := .pointer (some ⟨b1, 0, none⟩)) fr rfl rfl (by first | decide | simp) (x_assign rfl (fr.ev rfl)) ?_
  clear fr a; intro a fr
  refine fx_val (v := .int .i64 0) fr rfl rfl (by first | decide | simp) (x_assign rfl (fr.ev rfl)) ?_
  clear fr a; intro a fr
  refine wpList_nil ?_
  refine fx_next ?_
  refine wp_seq ?_
  refine wp_region_lit ?_  -- region 2
  refine fx_val (v := .agg (msgE.arr (⟨1, 0, 4, 3, bs0⟩))) fr rfl rfl (by first | decide | simp) (x_build (cells := msgE.arr (⟨1, 0, 4, 3, bs0⟩)) rfl (by kernel_rfl)) ?_
  clear fr a; intro a fr
  refine fx_new fr rfl rfl (by first | decide | simp) (x_alloc (z := .agg (#[.int .i64 0, .int .i64 0, .int .i64 0, .int .u32 0, .int .u8 0, .int .u8 0, .int .u8 0, .int .u8 0, .int .u8 0, .int .u8 0, .int .u8 0, .int .u8 0, .int .u8 0, .int .u8 0, .int .u8 0, .int .u8 0, .int .u8 0, .int .u8 0, .int .u8 0, .int .u8 0])) (cs := msgE.arr msg0) rfl (by kernel_rfl) rfl) ?_
  clear fr a
  intro b9 w10 hN11 B12 hb13 a fr
  have ne_b1_b9 : ¬ b1 = b9 := Nat.ne_of_lt (Nat.lt_of_lt_of_le H4.ltb hb13)
  have ap_A2_b9 : Apart A2 b9 := H4.apart hb13
  have g_b9 := Nat.le_trans hF.size hb13
  replace H4 := H4.new hN11
  replace hF := hF.trNew hN11
  refine fx_storeS sz26 rfl rfl rfl (fr.ev rfl) (fr.ev rfl) (msgE.all _) B12 (msgE.size _) (msgE.size _) fun w14 hO15 hBq => ?_
  replace H4 := H4.only hO15 (by show ¬ b1 = b9; omega) (Apart.ne1 ap_A2_b9)
  replace hF := hF.loc hO15 (.inr g_b9)
  replace B12 := hBq
  clear hBq
  refine wpList_nil ?_
  refine fx_next ?_
  refine wp_seq ?_
  refine wp_region_lit ?_  -- region 3
  refine fx_val (v := .agg (msgE.arr (⟨2, 1, 4, 3, bs0⟩))) fr rfl rfl (by first | decide | simp) (x_build (cells := msgE.arr (⟨2, 1, 4, 3, bs0⟩)) rfl (by kernel_rfl)) ?_
  clear fr a; intro a fr
  refine fx_new fr rfl rfl (by first | decide | simp) (x_alloc (z := .agg (#[.int .i64 0, .int .i64 0, .int .i64 0, .int .u32 0, .int .u8 0, .int .u8 0, .int .u8 0, .int .u8 0, .int .u8 0, .int .u8 0, .int .u8 0, .int .u8 0, .int .u8 0, .int .u8 0, .int .u8 0, .int .u8 0, .int .u8 0, .int .u8 0, .int .u8 0, .int .u8 0])) (cs := msgE.arr msg0) rfl (by kernel_rfl) rfl) ?_
  clear fr a
  intro b16 w17 hN18 B19 hb20 a fr
  have ne_b1_b16 : ¬ b1 = b16 := Nat.ne_of_lt (Nat.lt_of_lt_of_le H4.ltb hb20)
  have ap_A2_b16 : Apart A2 b16 := H4.apart hb20
  have ne_b9_b16 : ¬ b9 = b16 := Nat.ne_of_lt (Nat.lt_of_lt_of_le B12.lt hb20)
  have g_b16 := Nat.le_trans hF.size hb20
  replace H4 := H4.new hN18
  replace B12 := B12.new hN18
  replace hF := hF.trNew hN18
  refine fx_storeS sz26 rfl rfl rfl (fr.ev rfl) (fr.ev rfl) (msgE.all _) B19 (msgE.size _) (msgE.size _) fun w21 hO22 hBq => ?_
  replace H4 := H4.only hO22 (by show ¬ b1 = b16; omega) (Apart.ne1 ap_A2_b16)
  replace B12 := B12.only hO22 (by show ¬ b9 = b16; omega)
  replace hF := hF.loc hO22 (.inr g_b16)
  replace B19 := hBq
  clear hBq
  refine wpList_nil ?_
  refine fx_next ?_
  refine wp_seq ?_
  refine wp_region_lit ?_  -- region 4
  refine fx_val (v := .pointer (some ⟨b1, 0, none⟩)) fr rfl rfl (by first | decide | simp) (x_move rfl (fr.ev rfl)) ?_
  clear fr a; intro a fr
  refine fx_val (v := .agg (msgE.arr (⟨1, 0, 4, 3, bs0⟩))) fr rfl rfl (by first | decide | simp) (x_loadE (E := msgE) ag26 rfl rfl (fr.ev rfl) (B12.rangeE msgE)) ?_
  clear fr a; intro a fr
  refine fx_call fr rfl rfl (by first | decide | simp) (x_call (vs := [.pointer (some ⟨b1, 0, none⟩), .agg (msgE.arr (⟨1, 0, 4, 3, bs0⟩))]) rfl rfl ⟨(fr.ev rfl), (fr.ev rfl), trivial⟩ Try.func15 nm15 rfl) (send_c (⟨1, 0, 4, 3, bs0⟩) H4 (by omega) (by decide)) ?_
  clear fr a
  rintro v w27 ⟨rfl, A23, cap24, H25, hN28, mv26⟩ a fr
  have ap_A23_b9 : Apart A23 b9 := moved_apart mv26 ap_A2_b9 B12.lt
  have ap_A23_b16 : Apart A23 b16 := moved_apart mv26 ap_A2_b16 B19.lt
  have gA_A23 := gA_moved hF mv26 gA_A2
  replace B12 := B12.only hN28 (fun h => h.elim (by show ¬ b9 = b1; omega) ap_A2_b9)
  replace B19 := B19.only hN28 (fun h => h.elim (by show ¬ b16 = b1; omega) ap_A2_b16)
  replace hF := hF.loc2 hN28 (.inr g_b1) gA_A2
  clear H4
  rw [show sendL 2 ([]) (⟨1, 0, 4, 3, bs0⟩) = [(⟨1, 0, 4, 3, bs0⟩)] from rfl] at H25
  rw [show sendE 2 ([]) (⟨1, 0, 4, 3, bs0⟩) = 0 from rfl] at fr
  refine fx_val (v := .int .i64 0) fr rfl rfl (by first | decide | simp) (x_assign rfl (fr.ev rfl)) ?_
  clear fr a; intro a fr
  refine wpList_nil ?_
  refine fx_next ?_
  refine wp_seq ?_
  refine wp_region_lit ?_  -- region 5
  refine fx_val (v := .pointer (some ⟨b1, 0, none⟩)) fr rfl rfl (by first | decide | simp) (x_move rfl (fr.ev rfl)) ?_
  clear fr a; intro a fr
  refine fx_val (v := .agg (msgE.arr (⟨2, 1, 4, 3, bs0⟩))) fr rfl rfl (by first | decide | simp) (x_loadE (E := msgE) ag26 rfl rfl (fr.ev rfl) (B19.rangeE msgE)) ?_
  clear fr a; intro a fr
  refine fx_call fr rfl rfl (by first | decide | simp) (x_call (vs := [.pointer (some ⟨b1, 0, none⟩), .agg (msgE.arr (⟨2, 1, 4, 3, bs0⟩))]) rfl rfl ⟨(fr.ev rfl), (fr.ev rfl), trivial⟩ Try.func15 nm15 rfl) (send_c (⟨2, 1, 4, 3, bs0⟩) H25 (by omega) (by decide)) ?_
  clear fr a
  rintro v w33 ⟨rfl, A29, cap30, H31, hN34, mv32⟩ a fr
  have ap_A29_b9 : Apart A29 b9 := moved_apart mv32 ap_A23_b9 B12.lt
  have ap_A29_b16 : Apart A29 b16 := moved_apart mv32 ap_A23_b16 B19.lt
  have gA_A29 := gA_moved hF mv32 gA_A23
  replace B12 := B12.only hN34 (fun h => h.elim (by show ¬ b9 = b1; omega) ap_A23_b9)
  replace B19 := B19.only hN34 (fun h => h.elim (by show ¬ b16 = b1; omega) ap_A23_b16)
  replace hF := hF.loc2 hN34 (.inr g_b1) gA_A23
  clear H25
  rw [show sendL 2 ([(⟨1, 0, 4, 3, bs0⟩)]) (⟨2, 1, 4, 3, bs0⟩) = [(⟨1, 0, 4, 3, bs0⟩), (⟨2, 1, 4, 3, bs0⟩)] from rfl] at H31
  rw [show sendE 2 ([(⟨1, 0, 4, 3, bs0⟩)]) (⟨2, 1, 4, 3, bs0⟩) = 0 from rfl] at fr
  refine fx_val (v := .int .i64 0) fr rfl rfl (by first | decide | simp) (x_assign rfl (fr.ev rfl)) ?_
  clear fr a; intro a fr
  refine wpList_nil ?_
  refine fx_next ?_
  refine wp_seq ?_
  refine wp_region_lit ?_  -- region 6
  refine fx_val (v := .pointer (some ⟨b1, 0, none⟩)) fr rfl rfl (by first | decide | simp) (x_move rfl (fr.ev rfl)) ?_
  clear fr a; intro a fr
  refine fx_val (v := .agg (msgE.arr (⟨1, 0, 4, 3, bs0⟩))) fr rfl rfl (by first | decide | simp) (x_loadE (E := msgE) ag26 rfl rfl (fr.ev rfl) (B12.rangeE msgE)) ?_
  clear fr a; intro a fr
  refine fx_call fr rfl rfl (by first | decide | simp) (x_call (vs := [.pointer (some ⟨b1, 0, none⟩), .agg (msgE.arr (⟨1, 0, 4, 3, bs0⟩))]) rfl rfl ⟨(fr.ev rfl), (fr.ev rfl), trivial⟩ Try.func15 nm15 rfl) (send_c (⟨1, 0, 4, 3, bs0⟩) H31 (by omega) (by decide)) ?_
  clear fr a
  rintro v w39 ⟨rfl, A35, cap36, H37, hN40, mv38⟩ a fr
  have ap_A35_b9 : Apart A35 b9 := moved_apart mv38 ap_A29_b9 B12.lt
  have ap_A35_b16 : Apart A35 b16 := moved_apart mv38 ap_A29_b16 B19.lt
  have gA_A35 := gA_moved hF mv38 gA_A29
  replace B12 := B12.only hN40 (fun h => h.elim (by show ¬ b9 = b1; omega) ap_A29_b9)
  replace B19 := B19.only hN40 (fun h => h.elim (by show ¬ b16 = b1; omega) ap_A29_b16)
  replace hF := hF.loc2 hN40 (.inr g_b1) gA_A29
  clear H31
  rw [show sendL 2 ([(⟨1, 0, 4, 3, bs0⟩), (⟨2, 1, 4, 3, bs0⟩)]) (⟨1, 0, 4, 3, bs0⟩) = [(⟨1, 0, 4, 3, bs0⟩), (⟨2, 1, 4, 3, bs0⟩)] from rfl] at H37
  rw [show sendE 2 ([(⟨1, 0, 4, 3, bs0⟩), (⟨2, 1, 4, 3, bs0⟩)]) (⟨1, 0, 4, 3, bs0⟩) = 210 from rfl] at fr
  refine fx_val (v := .int .i64 210) fr rfl rfl (by first | decide | simp) (x_assign rfl (fr.ev rfl)) ?_
  clear fr a; intro a fr
  refine wpList_nil ?_
  refine fx_next ?_
  refine wp_seq ?_
  refine wp_region_lit ?_  -- region 7
  refine fx_val (v := .pointer (some ⟨b1, 0, none⟩)) fr rfl rfl (by first | decide | simp) (x_move rfl (fr.ev rfl)) ?_
  clear fr a; intro a fr
  refine fx_call fr rfl rfl (by first | decide | simp) (x_call (vs := [.pointer (some ⟨b1, 0, none⟩), .int .i64 (-1)]) rfl rfl ⟨(fr.ev rfl), rfl, trivial⟩ Try.func16 nm16 rfl) (deliver_c (-1) H37 (by omega) (by decide)) ?_
  clear fr a
  rintro v w45 ⟨rfl, A41, cap42, H43, hN46, mv44⟩ a fr
  have ap_A41_b9 : Apart A41 b9 := moved_apart mv44 ap_A35_b9 B12.lt
  have ap_A41_b16 : Apart A41 b16 := moved_apart mv44 ap_A35_b16 B19.lt
  have gA_A41 := gA_moved hF mv44 gA_A35
  replace B12 := B12.only hN46 (fun h => h.elim (by show ¬ b9 = b1; omega) ap_A35_b9)
  replace B19 := B19.only hN46 (fun h => h.elim (by show ¬ b16 = b1; omega) ap_A35_b16)
  replace hF := hF.loc2 hN46 (.inr g_b1) gA_A35
  clear H37
  rw [show delL (-1) ([(⟨1, 0, 4, 3, bs0⟩), (⟨2, 1, 4, 3, bs0⟩)]) = [⟨1, 0, 4, 3, bs0⟩] from rfl] at H43
  rw [show delM (-1) ([(⟨1, 0, 4, 3, bs0⟩), (⟨2, 1, 4, 3, bs0⟩)]) = ⟨2, 1, 4, 3, bs0⟩ from rfl, show decide (([(⟨1, 0, 4, 3, bs0⟩), (⟨2, 1, 4, 3, bs0⟩)] : List Msg) ≠ []) = true from rfl] at fr
  refine fx_val (v := .tuple #[.agg (msgE.arr (⟨2, 1, 4, 3, bs0⟩)), .bool true]) fr rfl rfl (by first | decide | simp) (x_move rfl (fr.ev rfl)) ?_
  clear fr a; intro a fr
  refine fx_val (v := .agg (msgE.arr (⟨2, 1, 4, 3, bs0⟩))) fr rfl rfl (by first | decide | simp) (x_extract rfl (fr.ev rfl) rfl) ?_
  clear fr a; intro a fr
  refine fx_val (v := .bool true) fr rfl rfl (by first | decide | simp) (x_extract rfl (fr.ev rfl) rfl) ?_
  clear fr a; intro a fr
  refine fx_new fr rfl rfl (by first | decide | simp) (x_alloc (z := .agg (#[.int .i64 0, .int .i64 0, .int .i64 0, .int .u32 0, .int .u8 0, .int .u8 0, .int .u8 0, .int .u8 0, .int .u8 0, .int .u8 0, .int .u8 0, .int .u8 0, .int .u8 0, .int .u8 0, .int .u8 0, .int .u8 0, .int .u8 0, .int .u8 0, .int .u8 0, .int .u8 0])) (cs := msgE.arr msg0) rfl (by kernel_rfl) rfl) ?_
  clear fr a
  intro b47 w48 hN49 B50 hb51 a fr
  have ne_b9_b47 : ¬ b9 = b47 := Nat.ne_of_lt (Nat.lt_of_lt_of_le B12.lt hb51)
  have ne_b16_b47 : ¬ b16 = b47 := Nat.ne_of_lt (Nat.lt_of_lt_of_le B19.lt hb51)
  have ne_b1_b47 : ¬ b1 = b47 := Nat.ne_of_lt (Nat.lt_of_lt_of_le H43.ltb hb51)
  have ap_A41_b47 : Apart A41 b47 := H43.apart hb51
  have g_b47 := Nat.le_trans hF.size hb51
  replace B12 := B12.new hN49
  replace B19 := B19.new hN49
  replace H43 := H43.new hN49
  replace hF := hF.trNew hN49
  refine fx_storeS sz26 rfl rfl rfl (fr.ev rfl) (fr.ev rfl) (msgE.all _) B50 (msgE.size _) (msgE.size _) fun w52 hO53 hBq => ?_
  replace B12 := B12.only hO53 (by show ¬ b9 = b47; omega)
  replace B19 := B19.only hO53 (by show ¬ b16 = b47; omega)
  replace H43 := H43.only hO53 (by show ¬ b1 = b47; omega) (Apart.ne1 ap_A41_b47)
  replace hF := hF.loc hO53 (.inr g_b47)
  replace B50 := hBq
  clear hBq
  refine fx_val (v := .bool true) fr rfl rfl (by first | decide | simp) (x_assign rfl (fr.ev rfl)) ?_
  clear fr a; intro a fr
  refine wpList_nil ?_
  refine fx_next ?_
  refine wp_seq ?_
  refine wp_region_lit ?_  -- region 8
  refine fx_val (v := .int .i64 0) fr rfl rfl (by first | decide | simp) (x_move rfl (fr.ev rfl)) ?_
  clear fr a; intro a fr
  refine fx_call fr rfl rfl (by first | decide | simp) (x_call (vs := [.int .i64 0]) rfl rfl ⟨(fr.ev rfl), trivial⟩ Try.func10 nm10 rfl) (num_c 0 _) ?_
  clear fr a
  rintro v _ ⟨rfl, rfl⟩ a fr
  refine fx_val (v := .int .i64 0) fr rfl rfl (by first | decide | simp) (x_move rfl (fr.ev rfl)) ?_
  clear fr a; intro a fr
  refine fx_call fr rfl rfl (by first | decide | simp) (x_call (vs := [.int .i64 0]) rfl rfl ⟨(fr.ev rfl), trivial⟩ Try.func10 nm10 rfl) (num_c 0 _) ?_
  clear fr a
  rintro v _ ⟨rfl, rfl⟩ a fr
  refine fx_val (v := .int .i64 0) fr rfl rfl (by first | decide | simp) (x_add rfl (fr.ev rfl) (fr.ev rfl) rfl) ?_
  clear fr a; intro a fr
  refine fx_val (v := .int .i64 0) fr rfl rfl (by first | decide | simp) (x_move rfl (fr.ev rfl)) ?_
  clear fr a; intro a fr
  refine fx_call fr rfl rfl (by first | decide | simp) (x_call (vs := [.int .i64 0]) rfl rfl ⟨(fr.ev rfl), trivial⟩ Try.func10 nm10 rfl) (num_c 0 _) ?_
  clear fr a
  rintro v _ ⟨rfl, rfl⟩ a fr
  refine fx_val (v := .int .i64 0) fr rfl rfl (by first | decide | simp) (x_add rfl (fr.ev rfl) (fr.ev rfl) rfl) ?_
  clear fr a; intro a fr
  refine fx_val (v := .bool true) fr rfl rfl (by first | decide | simp) (x_eql rfl (fr.ev rfl) rfl rfl) ?_
  clear fr a; intro a fr
  refine fx_val (v := .bool true) fr rfl rfl (by first | decide | simp) (x_move rfl (fr.ev rfl)) ?_
  clear fr a; intro a fr
  refine fx_val (v := .int .i64 210) fr (fr.want rfl rfl rfl) rfl (by first | decide | simp) (x_move rfl (fr.ev rfl)) ?_
  clear fr a; intro a fr
  refine fx_call fr (fr.want rfl rfl rfl) rfl (by first | decide | simp) (x_call (vs := [.int .i64 210]) rfl rfl ⟨(fr.ev rfl), trivial⟩ Try.func10 nm10 rfl) (num_c 210 _) ?_
  clear fr a
  rintro v _ ⟨rfl, rfl⟩ a fr
  refine fx_val (v := .bool true) fr (fr.want rfl rfl rfl) rfl (by first | decide | simp) (x_eql rfl (fr.ev rfl) rfl rfl) ?_
  clear fr a; intro a fr
  refine fx_val (v := .bool true) fr rfl rfl (by first | decide | simp) (x_pick_t rfl (fr.ev rfl) (fr.ev rfl)) ?_
  clear fr a; intro a fr
  refine fx_val (v := .bool true) fr rfl rfl (by first | decide | simp) (x_move rfl (fr.ev rfl)) ?_
  clear fr a; intro a fr
  refine fx_val (v := .agg (msgE.arr (⟨2, 1, 4, 3, bs0⟩))) fr (fr.want rfl rfl rfl) rfl (by first | decide | simp) (x_loadE (E := msgE) ag26 rfl rfl (fr.ev rfl) (B50.rangeE msgE)) ?_
  clear fr a; intro a fr
  refine fx_val (v := .agg (msgE.arr (⟨2, 1, 4, 3, bs0⟩))) fr (fr.want rfl rfl rfl) rfl (by first | decide | simp) (x_loadE (E := msgE) ag26 rfl rfl (fr.ev rfl) (B19.rangeE msgE)) ?_
  clear fr a; intro a fr
  refine fx_val (v := .bool true) fr (fr.want rfl rfl rfl) rfl (by first | decide | simp) (x_eqE msgER rfl rfl (fr.ev rfl) (fr.ev rfl) (by simp)) ?_
  clear fr a; intro a fr
  refine fx_val (v := .bool true) fr rfl rfl (by first | decide | simp) (x_pick_t rfl (fr.ev rfl) (fr.ev rfl)) ?_
  clear fr a; intro a fr
  refine fx_val (v := .bool true) fr rfl rfl (by first | decide | simp) (x_move rfl (fr.ev rfl)) ?_
  clear fr a; intro a fr
  refine fx_val (v := .bool true) fr (fr.want rfl rfl rfl) rfl (by first | decide | simp) (x_move rfl (fr.ev rfl)) ?_
  clear fr a; intro a fr
  refine fx_val (v := .bool true) fr rfl rfl (by first | decide | simp) (x_pick_t rfl (fr.ev rfl) (fr.ev rfl)) ?_
  clear fr a; intro a fr
  refine fx_val (v := .bool true) fr rfl rfl (by first | decide | simp) (x_move rfl (fr.ev rfl)) ?_
  clear fr a; intro a fr
  refine fx_val (v := .pointer (some ⟨b1, 0, none⟩)) fr (fr.want rfl rfl rfl) rfl (by first | decide | simp) (x_move rfl (fr.ev rfl)) ?_
  clear fr a; intro a fr
  refine fx_call fr (fr.want rfl rfl rfl) rfl (by first | decide | simp) (x_call (vs := [.pointer (some ⟨b1, 0, none⟩)]) rfl rfl ⟨(fr.ev rfl), trivial⟩ Try.func19 nm19 rfl) (len_c H43 (by omega)) ?_
  clear fr a
  rintro v _ ⟨rfl, rfl⟩ a fr
  refine fx_val (v := .bool true) fr (fr.want rfl rfl rfl) rfl (by first | decide | simp) (x_eql rfl (fr.ev rfl) rfl rfl) ?_
  clear fr a; intro a fr
  refine fx_val (v := .bool true) fr rfl rfl (by first | decide | simp) (x_pick_t rfl (fr.ev rfl) (fr.ev rfl)) ?_
  clear fr a; intro a fr
  refine fx_val (v := .bool true) fr rfl rfl (by first | decide | simp) (x_assign rfl (fr.ev rfl)) ?_
  clear fr a; intro a fr
  refine wpList_nil ?_
  refine fx_next ?_
  refine wp_ret ?_
  refine fx_ret fr [.tmp 0] [.bool true] rfl ⟨rfl, trivial⟩ rfl ?_
  exact ⟨_, rfl, rfl, hF⟩
set_option maxRecDepth 100000 in
set_option maxHeartbeats 4000000 in
theorem checks_c (m : Msg) (w : World) : Calls Try.prog 3 #[.agg (msgE.arr m)] w (Ret fun v w' => v = .bool true ∧ New w w') := by
  have hF := Only.refl (fun _ => False) w
  refine fx_enter Try.func3 rfl (N := (12, [])) (T := [(0, .agg (msgE.arr m))]) rfl (show 1 ≤ 12 by decide) ⟨rfl, trivial⟩ fun a fr => ?_
  refine wp_seq ?_
  refine wp_region_lit ?_  -- region 0
  refine fx_new fr rfl rfl (by first | decide | simp) (x_box (cs := msgE.arr m) rfl (fr.ev rfl) rfl) ?_
  clear fr a
  intro b1 w2 hN3 B4 hb5 a fr
  have g_b1 := Nat.le_trans hF.size hb5
  replace hF := hF.trNew hN3
  refine fx_val (v := .bool false) fr rfl rfl (by first | decide | simp) (x_assign rfl rfl) ?_
  clear fr a; intro a fr
  refine wpList_nil ?_
  refine fx_next ?_
  refine wp_seq ?_
  refine fx_heldT (n := 9) (k := 9) (fun w => Blk w b1 26 (msgE.arr m) ∧ True) (by kernel_rfl) (by kernel_rfl) rfl ?_  -- region 1
  intro w6 hN7
  replace B4 := B4.new hN7
  replace hF := hF.trNew hN7
  refine fx_take (i := 0) (v := .agg (msgE.arr m)) fr rfl (by kernel_rfl) rfl rfl (by first | decide | simp) (fun _ _ _ h => h) (fun _ ⟨B4, _⟩ => x_loadE (E := msgE) ag26 rfl rfl (fr.ev rfl) (B4.rangeE msgE)) ⟨B4, trivial⟩ ?_
  clear fr a; intro a fr
  refine fx_take (i := 3) (v := .agg (msgE.arr m)) fr rfl (by kernel_rfl) rfl rfl (by first | decide | simp) (fun _ _ _ h => h) (fun _ ⟨B4, _⟩ => x_loadE (E := msgE) ag26 rfl rfl (fr.ev rfl) (B4.rangeE msgE)) ⟨B4, trivial⟩ ?_
  clear fr a; intro a fr
  refine fx_one (i := 1) (by kernel_rfl) (fx_op rfl ?_)
  refine fx_call fr rfl rfl (by first | decide | simp) (x_call (vs := [.agg (msgE.arr m)]) rfl rfl ⟨(fr.ev rfl), trivial⟩ Try.func11 nm11 rfl) (chk_c m _) ?_
  clear fr a
  rintro v w8 ⟨rfl, hN9⟩ a fr
  replace B4 := B4.new hN9
  replace hF := hF.trNew hN9
  refine wpList_nil ?_
  refine ⟨⟨B4, trivial⟩, ?_⟩
  refine fx_one (i := 2) (by kernel_rfl) (fx_op rfl ?_)
  refine fx_call fr rfl rfl (by first | decide | simp) (x_call (vs := [.int .i64 (chk m)]) rfl rfl ⟨(fr.ev rfl), trivial⟩ Try.func10 nm10 rfl) (num_c (chk m) _) ?_
  clear fr a
  rintro v _ ⟨rfl, rfl⟩ a fr
  refine wpList_nil ?_
  refine ⟨⟨B4, trivial⟩, ?_⟩
  refine fx_one (i := 4) (by kernel_rfl) (fx_op rfl ?_)
  refine fx_call fr rfl rfl (by first | decide | simp) (x_call (vs := [.agg (msgE.arr m)]) rfl rfl ⟨(fr.ev rfl), trivial⟩ Try.func12 nm12 rfl) (refchk_c m _) ?_
  clear fr a
  rintro v w12 ⟨rfl, hN13⟩ a fr
  replace B4 := B4.new hN13
  replace hF := hF.trNew hN13
  refine wpList_nil ?_
  refine ⟨⟨B4, trivial⟩, ?_⟩
  refine fx_take (i := 5) (v := .bool true) fr rfl (by kernel_rfl) rfl rfl (by first | decide | simp) (fun _ _ _ h => h) (fun _ ⟨B4, _⟩ => x_eql rfl (fr.ev rfl) (fr.ev rfl) (by simp)) ⟨B4, trivial⟩ ?_
  clear fr a; intro a fr
  refine fx_take (i := 6) (v := .bool true) fr rfl (by kernel_rfl) rfl rfl (by first | decide | simp) (fun _ _ _ h => h) (fun _ ⟨B4, _⟩ => x_move rfl (fr.ev rfl)) ⟨B4, trivial⟩ ?_
  clear fr a; intro a fr
  refine fx_one (i := 7) (by kernel_rfl) (fx_op rfl ?_)
  refine fx_call fr (fr.want rfl rfl rfl) rfl (by first | decide | simp) (x_call (vs := []) rfl rfl trivial Try.func13 nm13 rfl) (works_c _) ?_
  clear fr a
  rintro v w14 ⟨rfl, hN15⟩ a fr
  replace B4 := B4.new hN15
  replace hF := hF.trNew hN15
  refine wpList_nil ?_
  refine ⟨⟨B4, trivial⟩, ?_⟩
  refine fx_take (i := 8) (v := .bool true) fr rfl (by kernel_rfl) rfl rfl (by first | decide | simp) (fun _ _ _ h => h) (fun _ ⟨B4, _⟩ => x_pick_t rfl (fr.ev rfl) (fr.ev rfl)) ⟨B4, trivial⟩ ?_
  clear fr a; intro a fr
  refine fx_hdone (by kernel_rfl) ?_
  refine fx_tail ?_
  refine fx_val (v := .bool true) fr rfl rfl (by first | decide | simp) (x_assign rfl (fr.ev rfl)) ?_
  clear fr a; intro a fr
  refine wpList_nil ?_
  refine fx_next ?_
  refine wp_ret ?_
  refine fx_ret fr [.tmp 2] [.bool true] rfl ⟨rfl, trivial⟩ rfl ?_
  exact ⟨_, rfl, rfl, hF⟩
end Go.Proofs.Ytdpkeabmfhnfiaa
