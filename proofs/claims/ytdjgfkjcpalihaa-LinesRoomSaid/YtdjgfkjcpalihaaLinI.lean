/-
  LinesMakes, LinesDrops, LinesTells. Printed by gen_i.py.
-/
import Derived.Test.YtdjgfkjcpalihaaLinI0
namespace Go.Proofs.Ytdjgfkjcpalihaa
open Go.RowKit

set_option maxRecDepth 100000 in
set_option maxHeartbeats 4000000 in
theorem makes_no (sets ways : Int) (hr : rightB sets ways = false) (w : World) : Calls Try.prog 8 #[.int .i64 sets, .int .i64 ways] w (Ret fun v w' => v = .bool true ∧ New w w') := by
  have hF := Only.refl (fun _ => False) w
  refine fx_enter Try.func8 rfl (N := (117, [])) (T := [(0, .int .i64 sets), (1, .int .i64 ways)]) rfl (show 2 ≤ 117 by decide) ⟨rfl, rfl, trivial⟩ fun a fr => ?_
  refine wp_seq ?_
  refine wp_region_lit ?_  -- region 0
  refine fx_val (v := .bool false) fr rfl rfl (by first | decide | simp) (x_assign rfl rfl) ?_
  clear fr a; intro a fr
  refine wpList_nil ?_
  refine fx_next ?_
  refine wp_seq ?_
  refine wp_region_lit ?_  -- region 1
  refine fx_val (v := .int .i64 sets) fr rfl rfl (by first | decide | simp) (x_move rfl (fr.ev rfl)) ?_
  clear fr a; intro a fr
  refine fx_val (v := .int .i64 ways) fr rfl rfl (by first | decide | simp) (x_move rfl (fr.ev rfl)) ?_
  clear fr a; intro a fr
  refine fx_call fr rfl rfl (by first | decide | simp) (x_call (vs := [.int .i64 sets, .int .i64 ways]) rfl rfl ⟨(fr.ev rfl), (fr.ev rfl), trivial⟩ Try.func18 nm18 rfl) (new_no sets ways _ hr) ?_
  clear fr a
  rintro v w5 ⟨rfl, hN6⟩ a fr
  replace hF := hF.trNew hN6
  refine fx_val (v := .tuple #[.pointer none, .int .i64 2]) fr rfl rfl (by first | decide | simp) (x_move rfl (fr.ev rfl)) ?_
  clear fr a; intro a fr
  refine fx_val (v := .pointer none) fr rfl rfl (by first | decide | simp) (x_extract rfl (fr.ev rfl) rfl) ?_
  clear fr a; intro a fr
  refine fx_val (v := .int .i64 2) fr rfl rfl (by first | decide | simp) (x_extract rfl (fr.ev rfl) rfl) ?_
  clear fr a; intro a fr
  refine fx_val (v := .pointer none) fr rfl rfl (by first | decide | simp) (x_assign rfl (fr.ev rfl)) ?_
  clear fr a; intro a fr
  refine fx_val (v := .int .i64 2) fr rfl rfl (by first | decide | simp) (x_assign rfl (fr.ev rfl)) ?_
  clear fr a; intro a fr
  refine wpList_nil ?_
  refine fx_next ?_
  refine wp_seq ?_
  refine wp_region_lit ?_  -- region 2
  refine fx_val (v := .pointer none) fr rfl rfl (by first | decide | simp) (x_assign rfl rfl) ?_
  clear fr a; intro a fr
  refine wpList_nil ?_
  refine fx_next ?_
  refine wp_seq ?_
  refine wp_region_lit ?_  -- region 3
  refine fx_val (v := .pointer none) fr rfl rfl (by first | decide | simp) (x_move rfl (fr.ev rfl)) ?_
  clear fr a; intro a fr
  refine fx_call fr rfl rfl (by first | decide | simp) (x_call (vs := [.pointer none, .int .u32 1]) rfl rfl ⟨(fr.ev rfl), rfl, trivial⟩ Try.func14 nm14 rfl) (find_nil 1 _) ?_
  clear fr a
  rintro v w7 ⟨rfl, hN8⟩ a fr
  replace hF := hF.trNew hN8
  refine fx_val (v := .tuple #[.agg (lnE.arr ln0), .bool false]) fr rfl rfl (by first | decide | simp) (x_move rfl (fr.ev rfl)) ?_
  clear fr a; intro a fr
  refine fx_val (v := .agg (lnE.arr ln0)) fr rfl rfl (by first | decide | simp) (x_extract rfl (fr.ev rfl) rfl) ?_
  clear fr a; intro a fr
  refine fx_val (v := .bool false) fr rfl rfl (by first | decide | simp) (x_extract rfl (fr.ev rfl) rfl) ?_
  clear fr a; intro a fr
  refine fx_new fr rfl rfl (by first | decide | simp) (x_alloc (z := .agg (#[.int .u32 0, .int .i64 0, .int .u8 0, .int .u8 0, .int .u8 0, .int .u8 0, .int .u8 0, .int .u8 0, .int .u8 0, .int .u8 0, .int .u8 0, .int .u8 0, .int .u8 0, .int .u8 0, .int .u8 0, .int .u8 0, .int .u8 0, .int .u8 0])) (cs := lnE.arr ln0) rfl (by kernel_rfl) rfl) ?_
  clear fr a
  intro b9 w10 hN11 B12 hb13 a fr
  have g_b9 := Nat.le_trans hF.size hb13
  replace hF := hF.trNew hN11
  refine fx_storeS sz39 rfl rfl rfl (fr.ev rfl) (fr.ev rfl) (lnE.all _) B12 (lnE.size _) (lnE.size _) fun w14 hO15 hBq => ?_
  replace hF := hF.loc hO15 (.inr g_b9)
  replace B12 := hBq
  clear hBq
  refine fx_val (v := .bool false) fr rfl rfl (by first | decide | simp) (x_assign rfl (fr.ev rfl)) ?_
  clear fr a; intro a fr
  refine wpList_nil ?_
  refine fx_next ?_
  refine wp_seq ?_
  refine wp_region_lit ?_  -- region 4
  refine fx_val (v := .pointer none) fr rfl rfl (by first | decide | simp) (x_move rfl (fr.ev rfl)) ?_
  clear fr a; intro a fr
  refine fx_call fr rfl rfl (by first | decide | simp) (x_call (vs := [.pointer none, .int .u32 1, .int .i64 0]) rfl rfl ⟨(fr.ev rfl), rfl, rfl, trivial⟩ Try.func15 nm15 rfl) (victim_nil 1 0 _) ?_
  clear fr a
  rintro v w16 ⟨rfl, hN17⟩ a fr
  replace B12 := B12.new hN17
  replace hF := hF.trNew hN17
  refine fx_val (v := .tuple #[.agg (lnE.arr ln0), .bool false]) fr rfl rfl (by first | decide | simp) (x_move rfl (fr.ev rfl)) ?_
  clear fr a; intro a fr
  refine fx_val (v := .agg (lnE.arr ln0)) fr rfl rfl (by first | decide | simp) (x_extract rfl (fr.ev rfl) rfl) ?_
  clear fr a; intro a fr
  refine fx_val (v := .bool false) fr rfl rfl (by first | decide | simp) (x_extract rfl (fr.ev rfl) rfl) ?_
  clear fr a; intro a fr
  refine fx_new fr rfl rfl (by first | decide | simp) (x_alloc (z := .agg (#[.int .u32 0, .int .i64 0, .int .u8 0, .int .u8 0, .int .u8 0, .int .u8 0, .int .u8 0, .int .u8 0, .int .u8 0, .int .u8 0, .int .u8 0, .int .u8 0, .int .u8 0, .int .u8 0, .int .u8 0, .int .u8 0, .int .u8 0, .int .u8 0])) (cs := lnE.arr ln0) rfl (by kernel_rfl) rfl) ?_
  clear fr a
  intro b18 w19 hN20 B21 hb22 a fr
  have ne_b9_b18 : NE b9 b18 := NE.mk (Nat.lt_of_lt_of_le B12.lt hb22)
  have g_b18 := Nat.le_trans hF.size hb22
  replace B12 := B12.new hN20
  replace hF := hF.trNew hN20
  refine fx_storeS sz39 rfl rfl rfl (fr.ev rfl) (fr.ev rfl) (lnE.all _) B21 (lnE.size _) (lnE.size _) fun w23 hO24 hBq => ?_
  replace B12 := B12.only hO24 (by first | exact ne_b9_b18 | exact ne_b18_b9.symm | (show ¬ b9 = b18; omega))
  replace hF := hF.loc hO24 (.inr g_b18)
  replace B21 := hBq
  clear hBq
  refine fx_val (v := .bool false) fr rfl rfl (by first | decide | simp) (x_assign rfl (fr.ev rfl)) ?_
  clear fr a; intro a fr
  refine wpList_nil ?_
  refine fx_next ?_
  refine wp_seq ?_
  refine wp_seq ?_
  refine wp_region_lit ?_  -- region 5
  refine fx_val (v := .agg (lnE.arr ln0)) fr rfl rfl (by first | decide | simp) (x_loadE (E := lnE) ag39 rfl rfl (fr.ev rfl) (B12.rangeE lnE)) ?_
  clear fr a; intro a fr
  refine fx_val (v := .agg (lnE.arr ln0)) fr rfl rfl (by first | decide | simp) (x_build (cells := lnE.arr ln0) rfl (by kernel_rfl)) ?_
  clear fr a; intro a fr
  refine fx_val (v := .bool false) fr rfl rfl (by first | decide | simp) (x_neE lnER rfl rfl (fr.ev rfl) (fr.ev rfl) (by simp)) ?_
  clear fr a; intro a fr
  refine fx_val (v := .bool false) fr rfl rfl (by first | decide | simp) (x_move rfl (fr.ev rfl)) ?_
  clear fr a; intro a fr
  refine fx_val (v := .bool false) fr (fr.want rfl rfl rfl) rfl (by first | decide | simp) (x_move rfl (fr.ev rfl)) ?_
  clear fr a; intro a fr
  refine fx_val (v := .bool false) fr rfl rfl (by first | decide | simp) (x_pick_f rfl (fr.ev rfl) (fr.ev rfl)) ?_
  clear fr a; intro a fr
  refine fx_val (v := .bool false) fr rfl rfl (by first | decide | simp) (x_move rfl (fr.ev rfl)) ?_
  clear fr a; intro a fr
  refine fx_val (v := .agg (lnE.arr ln0)) fr (fr.want rfl rfl rfl) rfl (by first | decide | simp) (x_loadE (E := lnE) ag39 rfl rfl (fr.ev rfl) (B21.rangeE lnE)) ?_
  clear fr a; intro a fr
  refine fx_val (v := .agg (lnE.arr ln0)) fr (fr.want rfl rfl rfl) rfl (by first | decide | simp) (x_build (cells := lnE.arr ln0) rfl (by kernel_rfl)) ?_
  clear fr a; intro a fr
  refine fx_val (v := .bool false) fr (fr.want rfl rfl rfl) rfl (by first | decide | simp) (x_neE lnER rfl rfl (fr.ev rfl) (fr.ev rfl) (by simp)) ?_
  clear fr a; intro a fr
  refine fx_val (v := .bool false) fr rfl rfl (by first | decide | simp) (x_pick_f rfl (fr.ev rfl) (fr.ev rfl)) ?_
  clear fr a; intro a fr
  refine fx_val (v := .bool false) fr rfl rfl (by first | decide | simp) (x_move rfl (fr.ev rfl)) ?_
  clear fr a; intro a fr
  refine fx_val (v := .bool false) fr (fr.want rfl rfl rfl) rfl (by first | decide | simp) (x_move rfl (fr.ev rfl)) ?_
  clear fr a; intro a fr
  refine fx_val (v := .bool false) fr rfl rfl (by first | decide | simp) (x_pick_f rfl (fr.ev rfl) (fr.ev rfl)) ?_
  clear fr a; intro a fr
  refine fx_val (v := .bool false) fr rfl rfl (by first | decide | simp) (x_move rfl (fr.ev rfl)) ?_
  clear fr a; intro a fr
  refine fx_val (v := .pointer none) fr (fr.want rfl rfl rfl) rfl (by first | decide | simp) (x_move rfl (fr.ev rfl)) ?_
  clear fr a; intro a fr
  refine fx_val (v := .agg (lnE.arr (mkL 0 1))) fr (fr.want rfl rfl rfl) rfl (by first | decide | simp) (x_build (cells := lnE.arr (mkL 0 1)) rfl (by kernel_rfl)) ?_
  clear fr a; intro a fr
  refine fx_call fr (fr.want rfl rfl rfl) rfl (by first | decide | simp) (x_call (vs := [.pointer none, .agg (lnE.arr (mkL 0 1))]) rfl rfl ⟨(fr.ev rfl), (fr.ev rfl), trivial⟩ Try.func21 nm21 rfl) (put_nil (mkL 0 1) _) ?_
  clear fr a
  rintro v w25 ⟨rfl, hN26⟩ a fr
  replace B12 := B12.new hN26
  replace B21 := B21.new hN26
  replace hF := hF.trNew hN26
  refine fx_call fr (fr.want rfl rfl rfl) rfl (by first | decide | simp) (x_call (vs := [.int .i64 1]) rfl rfl ⟨(fr.ev rfl), trivial⟩ Try.func20 nm20 rfl) (num_c 1 _) ?_
  clear fr a
  rintro v w9 ⟨rfl, hw9⟩ a fr
  obtain rfl := hw9.symm
  refine fx_val (v := .bool false) fr (fr.want rfl rfl rfl) rfl (by first | decide | simp) (x_neq rfl (fr.ev rfl) rfl rfl) ?_
  clear fr a; intro a fr
  refine fx_val (v := .bool false) fr rfl rfl (by first | decide | simp) (x_pick_f rfl (fr.ev rfl) (fr.ev rfl)) ?_
  clear fr a; intro a fr
  refine fx_val (v := .bool false) fr rfl rfl (by first | decide | simp) (x_move rfl (fr.ev rfl)) ?_
  clear fr a; intro a fr
  refine fx_val (v := .pointer none) fr (fr.want rfl rfl rfl) rfl (by first | decide | simp) (x_move rfl (fr.ev rfl)) ?_
  clear fr a; intro a fr
  refine fx_call fr (fr.want rfl rfl rfl) rfl (by first | decide | simp) (x_call (vs := [.pointer none, .int .u32 1]) rfl rfl ⟨(fr.ev rfl), rfl, trivial⟩ Try.func22 nm22 rfl) (drop_nil 1 _) ?_
  clear fr a
  rintro v w29 ⟨rfl, hN30⟩ a fr
  replace B12 := B12.new hN30
  replace B21 := B21.new hN30
  replace hF := hF.trNew hN30
  refine fx_val (v := .bool false) fr rfl rfl (by first | decide | simp) (x_pick_f rfl (fr.ev rfl) (fr.ev rfl)) ?_
  clear fr a; intro a fr
  refine fx_val (v := .bool false) fr rfl rfl (by first | decide | simp) (x_move rfl (fr.ev rfl)) ?_
  clear fr a; intro a fr
  refine fx_val (v := .pointer none) fr (fr.want rfl rfl rfl) rfl (by first | decide | simp) (x_move rfl (fr.ev rfl)) ?_
  clear fr a; intro a fr
  refine fx_call fr (fr.want rfl rfl rfl) rfl (by first | decide | simp) (x_call (vs := [.pointer none]) rfl rfl ⟨(fr.ev rfl), trivial⟩ Try.func25 nm25 rfl) (len_nil _) ?_
  clear fr a
  rintro v w31 ⟨rfl, hN32⟩ a fr
  replace B12 := B12.new hN32
  replace B21 := B21.new hN32
  replace hF := hF.trNew hN32
  refine fx_val (v := .bool false) fr (fr.want rfl rfl rfl) rfl (by first | decide | simp) (x_neq rfl (fr.ev rfl) rfl rfl) ?_
  clear fr a; intro a fr
  refine fx_val (v := .bool false) fr rfl rfl (by first | decide | simp) (x_pick_f rfl (fr.ev rfl) (fr.ev rfl)) ?_
  clear fr a; intro a fr
  refine fx_val (v := .bool false) fr rfl rfl (by first | decide | simp) (x_move rfl (fr.ev rfl)) ?_
  clear fr a; intro a fr
  refine fx_val (v := .pointer none) fr (fr.want rfl rfl rfl) rfl (by first | decide | simp) (x_move rfl (fr.ev rfl)) ?_
  clear fr a; intro a fr
  refine fx_call fr (fr.want rfl rfl rfl) rfl (by first | decide | simp) (x_call (vs := [.pointer none]) rfl rfl ⟨(fr.ev rfl), trivial⟩ Try.func24 nm24 rfl) (lall_nil _) ?_
  clear fr a
  rintro v w37 ⟨A33, cap34, rfl, hN38⟩ a fr
  replace B12 := B12.new hN38
  replace B21 := B21.new hN38
  replace hF := hF.trNew hN38
  refine fx_val (v := .int .i64 ((0 : Nat) : Int)) fr (fr.want rfl rfl rfl) rfl (by first | decide | simp) (x_len Try.underlying26 rfl (fr.ev rfl)) ?_
  clear fr a; intro a fr
  refine fx_val (v := .bool false) fr (fr.want rfl rfl rfl) rfl (by first | decide | simp) (x_neq rfl (fr.ev rfl) rfl rfl) ?_
  clear fr a; intro a fr
  refine fx_val (v := .bool false) fr rfl rfl (by first | decide | simp) (x_pick_f rfl (fr.ev rfl) (fr.ev rfl)) ?_
  clear fr a; intro a fr
  refine fx_val (v := .bool false) fr rfl rfl (by first | decide | simp) (x_move rfl (fr.ev rfl)) ?_
  clear fr a; intro a fr
  refine fx_val (v := .pointer none) fr (fr.want rfl rfl rfl) rfl (by first | decide | simp) (x_move rfl (fr.ev rfl)) ?_
  clear fr a; intro a fr
  refine fx_call fr (fr.want rfl rfl rfl) rfl (by first | decide | simp) (x_call (vs := [.pointer none]) rfl rfl ⟨(fr.ev rfl), trivial⟩ Try.func26 nm26 rfl) (copy_nil _) ?_
  clear fr a
  rintro v w9 ⟨rfl, hw9⟩ a fr
  obtain rfl := hw9.symm
  refine fx_val (v := .bool false) fr (fr.want rfl rfl rfl) rfl (by first | decide | simp) (x_pneq Try.underlying25 rfl (fr.ev rfl) rfl rfl) ?_
  clear fr a; intro a fr
  refine fx_val (v := .bool false) fr rfl rfl (by first | decide | simp) (x_pick_f rfl (fr.ev rfl) (fr.ev rfl)) ?_
  clear fr a; intro a fr
  refine fx_val (v := .bool false) fr rfl rfl (by first | decide | simp) (x_move rfl (fr.ev rfl)) ?_
  clear fr a; intro a fr
  refine fx_val (v := .pointer none) fr (fr.want rfl rfl rfl) rfl (by first | decide | simp) (x_move rfl (fr.ev rfl)) ?_
  clear fr a; intro a fr
  refine fx_call fr (fr.want rfl rfl rfl) rfl (by first | decide | simp) (x_call (vs := [.pointer none, .pointer none]) rfl rfl ⟨(fr.ev rfl), rfl, trivial⟩ Try.func27 nm27 rfl) (same_nn _) ?_
  clear fr a
  rintro v w9 ⟨rfl, hw9⟩ a fr
  obtain rfl := hw9.symm
  refine fx_val (v := .bool false) fr (fr.want rfl rfl rfl) rfl (by first | decide | simp) (x_not rfl (fr.ev rfl) rfl) ?_
  clear fr a; intro a fr
  refine fx_val (v := .bool false) fr rfl rfl (by first | decide | simp) (x_pick_f rfl (fr.ev rfl) (fr.ev rfl)) ?_
  clear fr a; intro a fr
  refine wpList_nil ?_
  refine fx_next ?_
  refine fx_cond_f fr rfl ?_
  refine wp_skip ?_
  refine fx_next ?_
  refine wp_seq ?_
  refine wp_seq ?_
  refine wp_region_lit ?_  -- region 7
  refine fx_val (v := .int .i64 sets) fr rfl rfl (by first | decide | simp) (x_move rfl (fr.ev rfl)) ?_
  clear fr a; intro a fr
  refine fx_val (v := .int .i64 ways) fr rfl rfl (by first | decide | simp) (x_move rfl (fr.ev rfl)) ?_
  clear fr a; intro a fr
  refine fx_call fr rfl rfl (by first | decide | simp) (x_call (vs := [.int .i64 sets, .int .i64 ways]) rfl rfl ⟨(fr.ev rfl), (fr.ev rfl), trivial⟩ Try.func10 nm10 rfl) (right_c sets ways _) ?_
  clear fr a
  rintro v w43 ⟨rfl, hN44⟩ a fr
  replace B12 := B12.new hN44
  replace B21 := B21.new hN44
  replace hF := hF.trNew hN44
  rw [hr] at fr
  refine fx_val (v := .bool true) fr rfl rfl (by first | decide | simp) (x_not rfl (fr.ev rfl) rfl) ?_
  clear fr a; intro a fr
  refine wpList_nil ?_
  refine fx_next ?_
  refine fx_cond_t fr rfl ?_
  refine wp_seq ?_
  refine wp_region_lit ?_  -- region 8
  refine fx_val (v := .pointer none) fr rfl rfl (by first | decide | simp) (x_move rfl (fr.ev rfl)) ?_
  clear fr a; intro a fr
  refine fx_val (v := .bool true) fr rfl rfl (by first | decide | simp) (x_peql Try.underlying25 rfl (fr.ev rfl) rfl rfl) ?_
  clear fr a; intro a fr
  refine fx_val (v := .bool true) fr rfl rfl (by first | decide | simp) (x_move rfl (fr.ev rfl)) ?_
  clear fr a; intro a fr
  refine fx_val (v := .int .i64 2) fr (fr.want rfl rfl rfl) rfl (by first | decide | simp) (x_move rfl (fr.ev rfl)) ?_
  clear fr a; intro a fr
  refine fx_call fr (fr.want rfl rfl rfl) rfl (by first | decide | simp) (x_call (vs := [.int .i64 2]) rfl rfl ⟨(fr.ev rfl), trivial⟩ Try.func20 nm20 rfl) (num_c 2 _) ?_
  clear fr a
  rintro v w9 ⟨rfl, hw9⟩ a fr
  obtain rfl := hw9.symm
  refine fx_val (v := .bool true) fr (fr.want rfl rfl rfl) rfl (by first | decide | simp) (x_eql rfl (fr.ev rfl) rfl rfl) ?_
  clear fr a; intro a fr
  refine fx_val (v := .bool true) fr rfl rfl (by first | decide | simp) (x_pick_t rfl (fr.ev rfl) (fr.ev rfl)) ?_
  clear fr a; intro a fr
  refine fx_val (v := .bool true) fr rfl rfl (by first | decide | simp) (x_move rfl (fr.ev rfl)) ?_
  clear fr a; intro a fr
  refine fx_call fr (fr.want rfl rfl rfl) rfl (by first | decide | simp) (x_call (vs := []) rfl rfl trivial Try.func11 nm11 rfl) (works_c _) ?_
  clear fr a
  rintro v w47 ⟨rfl, hN48⟩ a fr
  replace B12 := B12.new hN48
  replace B21 := B21.new hN48
  replace hF := hF.trNew hN48
  refine fx_val (v := .bool true) fr rfl rfl (by first | decide | simp) (x_pick_t rfl (fr.ev rfl) (fr.ev rfl)) ?_
  clear fr a; intro a fr
  refine fx_val (v := .bool true) fr rfl rfl (by first | decide | simp) (x_assign rfl (fr.ev rfl)) ?_
  clear fr a; intro a fr
  refine wpList_nil ?_
  refine fx_next ?_
  refine wp_ret ?_
  refine fx_rt ?_
  refine fx_ret fr [.tmp 4] [.bool true] rfl ⟨rfl, trivial⟩ rfl ?_
  exact ⟨_, rfl, rfl, hF⟩
set_option maxRecDepth 100000 in
set_option maxHeartbeats 4000000 in
theorem makes_yes (n : Nat) (ways : Int) (hr : rightB ((n : Nat) : Int) ways = true) (w : World) : Calls Try.prog 8 #[.int .i64 ((n : Nat) : Int), .int .i64 ways] w (Ret fun v w' => v = .bool true ∧ New w w') := by
  have hrb := right_bd hr
  have hF := Only.refl (fun _ => False) w
  refine fx_enter Try.func8 rfl (N := (117, [])) (T := [(0, .int .i64 ((n : Nat) : Int)), (1, .int .i64 ways)]) rfl (show 2 ≤ 117 by decide) ⟨rfl, rfl, trivial⟩ fun a fr => ?_
  refine wp_seq ?_
  refine wp_region_lit ?_  -- region 0
  refine fx_val (v := .bool false) fr rfl rfl (by first | decide | simp) (x_assign rfl rfl) ?_
  clear fr a; intro a fr
  refine wpList_nil ?_
  refine fx_next ?_
  refine wp_seq ?_
  refine wp_region_lit ?_  -- region 1
  refine fx_val (v := .int .i64 ((n : Nat) : Int)) fr rfl rfl (by first | decide | simp) (x_move rfl (fr.ev rfl)) ?_
  clear fr a; intro a fr
  refine fx_val (v := .int .i64 ways) fr rfl rfl (by first | decide | simp) (x_move rfl (fr.ev rfl)) ?_
  clear fr a; intro a fr
  refine fx_call fr rfl rfl (by first | decide | simp) (x_call (vs := [.int .i64 ((n : Nat) : Int), .int .i64 ways]) rfl rfl ⟨(fr.ev rfl), (fr.ev rfl), trivial⟩ Try.func18 nm18 rfl) (new_yes n ways _ hr) ?_
  clear fr a
  rintro v w5 ⟨b1, Fp2, rfl, H3, hb4, hN6⟩ a fr
  have gA_Fp2 := gA_newP hF hb4
  replace hF := hF.trNew hN6
  refine fx_val (v := .tuple #[.pointer (some ⟨b1, 0, none⟩), .int .i64 0]) fr rfl rfl (by first | decide | simp) (x_move rfl (fr.ev rfl)) ?_
  clear fr a; intro a fr
  refine fx_val (v := .pointer (some ⟨b1, 0, none⟩)) fr rfl rfl (by first | decide | simp) (x_extract rfl (fr.ev rfl) rfl) ?_
  clear fr a; intro a fr
  refine fx_val (v := .int .i64 0) fr rfl rfl (by first | decide | simp) (x_extract rfl (fr.ev rfl) rfl) ?_
  clear fr a; intro a fr
  refine fx_val (v := .pointer (some ⟨b1, 0, none⟩)) fr rfl rfl (by first | decide | simp) (x_assign rfl (fr.ev rfl)) ?_
  clear fr a; intro a fr
  refine fx_val (v := .int .i64 0) fr rfl rfl (by first | decide | simp) (x_assign rfl (fr.ev rfl)) ?_
  clear fr a; intro a fr
  refine wpList_nil ?_
  refine fx_next ?_
  refine wp_seq ?_
  refine wp_region_lit ?_  -- region 2
  refine fx_val (v := .pointer none) fr rfl rfl (by first | decide | simp) (x_assign rfl rfl) ?_
  clear fr a; intro a fr
  refine wpList_nil ?_
  refine fx_next ?_
  refine wp_seq ?_
  refine wp_region_lit ?_  -- region 3
  refine fx_val (v := .pointer none) fr rfl rfl (by first | decide | simp) (x_move rfl (fr.ev rfl)) ?_
  clear fr a; intro a fr
  refine fx_call fr rfl rfl (by first | decide | simp) (x_call (vs := [.pointer none, .int .u32 1]) rfl rfl ⟨(fr.ev rfl), rfl, trivial⟩ Try.func14 nm14 rfl) (find_nil 1 _) ?_
  clear fr a
  rintro v w7 ⟨rfl, hN8⟩ a fr
  replace H3 := H3.new hN8
  replace hF := hF.trNew hN8
  refine fx_val (v := .tuple #[.agg (lnE.arr ln0), .bool false]) fr rfl rfl (by first | decide | simp) (x_move rfl (fr.ev rfl)) ?_
  clear fr a; intro a fr
  refine fx_val (v := .agg (lnE.arr ln0)) fr rfl rfl (by first | decide | simp) (x_extract rfl (fr.ev rfl) rfl) ?_
  clear fr a; intro a fr
  refine fx_val (v := .bool false) fr rfl rfl (by first | decide | simp) (x_extract rfl (fr.ev rfl) rfl) ?_
  clear fr a; intro a fr
  refine fx_new fr rfl rfl (by first | decide | simp) (x_alloc (z := .agg (#[.int .u32 0, .int .i64 0, .int .u8 0, .int .u8 0, .int .u8 0, .int .u8 0, .int .u8 0, .int .u8 0, .int .u8 0, .int .u8 0, .int .u8 0, .int .u8 0, .int .u8 0, .int .u8 0, .int .u8 0, .int .u8 0, .int .u8 0, .int .u8 0])) (cs := lnE.arr ln0) rfl (by kernel_rfl) rfl) ?_
  clear fr a
  intro b9 w10 hN11 B12 hb13 a fr
  have ap_Fp2_b9 : ¬ Fp2 b9 := H3.apart hb13
  have g_b9 := Nat.le_trans hF.size hb13
  replace H3 := H3.new hN11
  replace hF := hF.trNew hN11
  refine fx_storeS sz39 rfl rfl rfl (fr.ev rfl) (fr.ev rfl) (lnE.all _) B12 (lnE.size _) (lnE.size _) fun w14 hO15 hBq => ?_
  replace H3 := H3.only hO15 (ne1P ap_Fp2_b9)
  replace hF := hF.loc hO15 (.inr g_b9)
  replace B12 := hBq
  clear hBq
  refine fx_val (v := .bool false) fr rfl rfl (by first | decide | simp) (x_assign rfl (fr.ev rfl)) ?_
  clear fr a; intro a fr
  refine wpList_nil ?_
  refine fx_next ?_
  refine wp_seq ?_
  refine wp_region_lit ?_  -- region 4
  refine fx_val (v := .pointer none) fr rfl rfl (by first | decide | simp) (x_move rfl (fr.ev rfl)) ?_
  clear fr a; intro a fr
  refine fx_call fr rfl rfl (by first | decide | simp) (x_call (vs := [.pointer none, .int .u32 1, .int .i64 0]) rfl rfl ⟨(fr.ev rfl), rfl, rfl, trivial⟩ Try.func15 nm15 rfl) (victim_nil 1 0 _) ?_
  clear fr a
  rintro v w16 ⟨rfl, hN17⟩ a fr
  replace H3 := H3.new hN17
  replace B12 := B12.new hN17
  replace hF := hF.trNew hN17
  refine fx_val (v := .tuple #[.agg (lnE.arr ln0), .bool false]) fr rfl rfl (by first | decide | simp) (x_move rfl (fr.ev rfl)) ?_
  clear fr a; intro a fr
  refine fx_val (v := .agg (lnE.arr ln0)) fr rfl rfl (by first | decide | simp) (x_extract rfl (fr.ev rfl) rfl) ?_
  clear fr a; intro a fr
  refine fx_val (v := .bool false) fr rfl rfl (by first | decide | simp) (x_extract rfl (fr.ev rfl) rfl) ?_
  clear fr a; intro a fr
  refine fx_new fr rfl rfl (by first | decide | simp) (x_alloc (z := .agg (#[.int .u32 0, .int .i64 0, .int .u8 0, .int .u8 0, .int .u8 0, .int .u8 0, .int .u8 0, .int .u8 0, .int .u8 0, .int .u8 0, .int .u8 0, .int .u8 0, .int .u8 0, .int .u8 0, .int .u8 0, .int .u8 0, .int .u8 0, .int .u8 0])) (cs := lnE.arr ln0) rfl (by kernel_rfl) rfl) ?_
  clear fr a
  intro b18 w19 hN20 B21 hb22 a fr
  have ap_Fp2_b18 : ¬ Fp2 b18 := H3.apart hb22
  have ne_b9_b18 : NE b9 b18 := NE.mk (Nat.lt_of_lt_of_le B12.lt hb22)
  have g_b18 := Nat.le_trans hF.size hb22
  replace H3 := H3.new hN20
  replace B12 := B12.new hN20
  replace hF := hF.trNew hN20
  refine fx_storeS sz39 rfl rfl rfl (fr.ev rfl) (fr.ev rfl) (lnE.all _) B21 (lnE.size _) (lnE.size _) fun w23 hO24 hBq => ?_
  replace H3 := H3.only hO24 (ne1P ap_Fp2_b18)
  replace B12 := B12.only hO24 (by first | exact ne_b9_b18 | exact ne_b18_b9.symm | (show ¬ b9 = b18; omega))
  replace hF := hF.loc hO24 (.inr g_b18)
  replace B21 := hBq
  clear hBq
  refine fx_val (v := .bool false) fr rfl rfl (by first | decide | simp) (x_assign rfl (fr.ev rfl)) ?_
  clear fr a; intro a fr
  refine wpList_nil ?_
  refine fx_next ?_
  refine wp_seq ?_
  refine wp_seq ?_
  refine wp_region_lit ?_  -- region 5
  refine fx_val (v := .agg (lnE.arr ln0)) fr rfl rfl (by first | decide | simp) (x_loadE (E := lnE) ag39 rfl rfl (fr.ev rfl) (B12.rangeE lnE)) ?_
  clear fr a; intro a fr
  refine fx_val (v := .agg (lnE.arr ln0)) fr rfl rfl (by first | decide | simp) (x_build (cells := lnE.arr ln0) rfl (by kernel_rfl)) ?_
  clear fr a; intro a fr
  refine fx_val (v := .bool false) fr rfl rfl (by first | decide | simp) (x_neE lnER rfl rfl (fr.ev rfl) (fr.ev rfl) (by simp)) ?_
  clear fr a; intro a fr
  refine fx_val (v := .bool false) fr rfl rfl (by first | decide | simp) (x_move rfl (fr.ev rfl)) ?_
  clear fr a; intro a fr
  refine fx_val (v := .bool false) fr (fr.want rfl rfl rfl) rfl (by first | decide | simp) (x_move rfl (fr.ev rfl)) ?_
  clear fr a; intro a fr
  refine fx_val (v := .bool false) fr rfl rfl (by first | decide | simp) (x_pick_f rfl (fr.ev rfl) (fr.ev rfl)) ?_
  clear fr a; intro a fr
  refine fx_val (v := .bool false) fr rfl rfl (by first | decide | simp) (x_move rfl (fr.ev rfl)) ?_
  clear fr a; intro a fr
  refine fx_val (v := .agg (lnE.arr ln0)) fr (fr.want rfl rfl rfl) rfl (by first | decide | simp) (x_loadE (E := lnE) ag39 rfl rfl (fr.ev rfl) (B21.rangeE lnE)) ?_
  clear fr a; intro a fr
  refine fx_val (v := .agg (lnE.arr ln0)) fr (fr.want rfl rfl rfl) rfl (by first | decide | simp) (x_build (cells := lnE.arr ln0) rfl (by kernel_rfl)) ?_
  clear fr a; intro a fr
  refine fx_val (v := .bool false) fr (fr.want rfl rfl rfl) rfl (by first | decide | simp) (x_neE lnER rfl rfl (fr.ev rfl) (fr.ev rfl) (by simp)) ?_
  clear fr a; intro a fr
  refine fx_val (v := .bool false) fr rfl rfl (by first | decide | simp) (x_pick_f rfl (fr.ev rfl) (fr.ev rfl)) ?_
  clear fr a; intro a fr
  refine fx_val (v := .bool false) fr rfl rfl (by first | decide | simp) (x_move rfl (fr.ev rfl)) ?_
  clear fr a; intro a fr
  refine fx_val (v := .bool false) fr (fr.want rfl rfl rfl) rfl (by first | decide | simp) (x_move rfl (fr.ev rfl)) ?_
  clear fr a; intro a fr
  refine fx_val (v := .bool false) fr rfl rfl (by first | decide | simp) (x_pick_f rfl (fr.ev rfl) (fr.ev rfl)) ?_
  clear fr a; intro a fr
  refine fx_val (v := .bool false) fr rfl rfl (by first | decide | simp) (x_move rfl (fr.ev rfl)) ?_
  clear fr a; intro a fr
  refine fx_val (v := .pointer none) fr (fr.want rfl rfl rfl) rfl (by first | decide | simp) (x_move rfl (fr.ev rfl)) ?_
  clear fr a; intro a fr
  refine fx_val (v := .agg (lnE.arr (mkL 0 1))) fr (fr.want rfl rfl rfl) rfl (by first | decide | simp) (x_build (cells := lnE.arr (mkL 0 1)) rfl (by kernel_rfl)) ?_
  clear fr a; intro a fr
  refine fx_call fr (fr.want rfl rfl rfl) rfl (by first | decide | simp) (x_call (vs := [.pointer none, .agg (lnE.arr (mkL 0 1))]) rfl rfl ⟨(fr.ev rfl), (fr.ev rfl), trivial⟩ Try.func21 nm21 rfl) (put_nil (mkL 0 1) _) ?_
  clear fr a
  rintro v w25 ⟨rfl, hN26⟩ a fr
  replace H3 := H3.new hN26
  replace B12 := B12.new hN26
  replace B21 := B21.new hN26
  replace hF := hF.trNew hN26
  refine fx_call fr (fr.want rfl rfl rfl) rfl (by first | decide | simp) (x_call (vs := [.int .i64 1]) rfl rfl ⟨(fr.ev rfl), trivial⟩ Try.func20 nm20 rfl) (num_c 1 _) ?_
  clear fr a
  rintro v w9 ⟨rfl, hw9⟩ a fr
  obtain rfl := hw9.symm
  refine fx_val (v := .bool false) fr (fr.want rfl rfl rfl) rfl (by first | decide | simp) (x_neq rfl (fr.ev rfl) rfl rfl) ?_
  clear fr a; intro a fr
  refine fx_val (v := .bool false) fr rfl rfl (by first | decide | simp) (x_pick_f rfl (fr.ev rfl) (fr.ev rfl)) ?_
  clear fr a; intro a fr
  refine fx_val (v := .bool false) fr rfl rfl (by first | decide | simp) (x_move rfl (fr.ev rfl)) ?_
  clear fr a; intro a fr
  refine fx_val (v := .pointer none) fr (fr.want rfl rfl rfl) rfl (by first | decide | simp) (x_move rfl (fr.ev rfl)) ?_
  clear fr a; intro a fr
  refine fx_call fr (fr.want rfl rfl rfl) rfl (by first | decide | simp) (x_call (vs := [.pointer none, .int .u32 1]) rfl rfl ⟨(fr.ev rfl), rfl, trivial⟩ Try.func22 nm22 rfl) (drop_nil 1 _) ?_
  clear fr a
  rintro v w29 ⟨rfl, hN30⟩ a fr
  replace H3 := H3.new hN30
  replace B12 := B12.new hN30
  replace B21 := B21.new hN30
  replace hF := hF.trNew hN30
  refine fx_val (v := .bool false) fr rfl rfl (by first | decide | simp) (x_pick_f rfl (fr.ev rfl) (fr.ev rfl)) ?_
  clear fr a; intro a fr
  refine fx_val (v := .bool false) fr rfl rfl (by first | decide | simp) (x_move rfl (fr.ev rfl)) ?_
  clear fr a; intro a fr
  refine fx_val (v := .pointer none) fr (fr.want rfl rfl rfl) rfl (by first | decide | simp) (x_move rfl (fr.ev rfl)) ?_
  clear fr a; intro a fr
  refine fx_call fr (fr.want rfl rfl rfl) rfl (by first | decide | simp) (x_call (vs := [.pointer none]) rfl rfl ⟨(fr.ev rfl), trivial⟩ Try.func25 nm25 rfl) (len_nil _) ?_
  clear fr a
  rintro v w31 ⟨rfl, hN32⟩ a fr
  replace H3 := H3.new hN32
  replace B12 := B12.new hN32
  replace B21 := B21.new hN32
  replace hF := hF.trNew hN32
  refine fx_val (v := .bool false) fr (fr.want rfl rfl rfl) rfl (by first | decide | simp) (x_neq rfl (fr.ev rfl) rfl rfl) ?_
  clear fr a; intro a fr
  refine fx_val (v := .bool false) fr rfl rfl (by first | decide | simp) (x_pick_f rfl (fr.ev rfl) (fr.ev rfl)) ?_
  clear fr a; intro a fr
  refine fx_val (v := .bool false) fr rfl rfl (by first | decide | simp) (x_move rfl (fr.ev rfl)) ?_
  clear fr a; intro a fr
  refine fx_val (v := .pointer none) fr (fr.want rfl rfl rfl) rfl (by first | decide | simp) (x_move rfl (fr.ev rfl)) ?_
  clear fr a; intro a fr
  refine fx_call fr (fr.want rfl rfl rfl) rfl (by first | decide | simp) (x_call (vs := [.pointer none]) rfl rfl ⟨(fr.ev rfl), trivial⟩ Try.func24 nm24 rfl) (lall_nil _) ?_
  clear fr a
  rintro v w37 ⟨A33, cap34, rfl, hN38⟩ a fr
  replace H3 := H3.new hN38
  replace B12 := B12.new hN38
  replace B21 := B21.new hN38
  replace hF := hF.trNew hN38
  refine fx_val (v := .int .i64 ((0 : Nat) : Int)) fr (fr.want rfl rfl rfl) rfl (by first | decide | simp) (x_len Try.underlying26 rfl (fr.ev rfl)) ?_
  clear fr a; intro a fr
  refine fx_val (v := .bool false) fr (fr.want rfl rfl rfl) rfl (by first | decide | simp) (x_neq rfl (fr.ev rfl) rfl rfl) ?_
  clear fr a; intro a fr
  refine fx_val (v := .bool false) fr rfl rfl (by first | decide | simp) (x_pick_f rfl (fr.ev rfl) (fr.ev rfl)) ?_
  clear fr a; intro a fr
  refine fx_val (v := .bool false) fr rfl rfl (by first | decide | simp) (x_move rfl (fr.ev rfl)) ?_
  clear fr a; intro a fr
  refine fx_val (v := .pointer none) fr (fr.want rfl rfl rfl) rfl (by first | decide | simp) (x_move rfl (fr.ev rfl)) ?_
  clear fr a; intro a fr
  refine fx_call fr (fr.want rfl rfl rfl) rfl (by first | decide | simp) (x_call (vs := [.pointer none]) rfl rfl ⟨(fr.ev rfl), trivial⟩ Try.func26 nm26 rfl) (copy_nil _) ?_
  clear fr a
  rintro v w9 ⟨rfl, hw9⟩ a fr
  obtain rfl := hw9.symm
  refine fx_val (v := .bool false) fr (fr.want rfl rfl rfl) rfl (by first | decide | simp) (x_pneq Try.underlying25 rfl (fr.ev rfl) rfl rfl) ?_
  clear fr a; intro a fr
  refine fx_val (v := .bool false) fr rfl rfl (by first | decide | simp) (x_pick_f rfl (fr.ev rfl) (fr.ev rfl)) ?_
  clear fr a; intro a fr
  refine fx_val (v := .bool false) fr rfl rfl (by first | decide | simp) (x_move rfl (fr.ev rfl)) ?_
  clear fr a; intro a fr
  refine fx_val (v := .pointer none) fr (fr.want rfl rfl rfl) rfl (by first | decide | simp) (x_move rfl (fr.ev rfl)) ?_
  clear fr a; intro a fr
  refine fx_call fr (fr.want rfl rfl rfl) rfl (by first | decide | simp) (x_call (vs := [.pointer none, .pointer none]) rfl rfl ⟨(fr.ev rfl), rfl, trivial⟩ Try.func27 nm27 rfl) (same_nn _) ?_
  clear fr a
  rintro v w9 ⟨rfl, hw9⟩ a fr
  obtain rfl := hw9.symm
  refine fx_val (v := .bool false) fr (fr.want rfl rfl rfl) rfl (by first | decide | simp) (x_not rfl (fr.ev rfl) rfl) ?_
  clear fr a; intro a fr
  refine fx_val (v := .bool false) fr rfl rfl (by first | decide | simp) (x_pick_f rfl (fr.ev rfl) (fr.ev rfl)) ?_
  clear fr a; intro a fr
  refine wpList_nil ?_
  refine fx_next ?_
  refine fx_cond_f fr rfl ?_
  refine wp_skip ?_
  refine fx_next ?_
  refine wp_seq ?_
  refine wp_seq ?_
  refine wp_region_lit ?_  -- region 7
  refine fx_val (v := .int .i64 ((n : Nat) : Int)) fr rfl rfl (by first | decide | simp) (x_move rfl (fr.ev rfl)) ?_
  clear fr a; intro a fr
  refine fx_val (v := .int .i64 ways) fr rfl rfl (by first | decide | simp) (x_move rfl (fr.ev rfl)) ?_
  clear fr a; intro a fr
  refine fx_call fr rfl rfl (by first | decide | simp) (x_call (vs := [.int .i64 ((n : Nat) : Int), .int .i64 ways]) rfl rfl ⟨(fr.ev rfl), (fr.ev rfl), trivial⟩ Try.func10 nm10 rfl) (right_c ((n : Nat) : Int) ways _) ?_
  clear fr a
  rintro v w43 ⟨rfl, hN44⟩ a fr
  replace H3 := H3.new hN44
  replace B12 := B12.new hN44
  replace B21 := B21.new hN44
  replace hF := hF.trNew hN44
  rw [hr] at fr
  refine fx_val (v := .bool false) fr rfl rfl (by first | decide | simp) (x_not rfl (fr.ev rfl) rfl) ?_
  clear fr a; intro a fr
  refine wpList_nil ?_
  refine fx_next ?_
  refine fx_cond_f fr rfl ?_
  refine wp_skip ?_
  refine fx_next ?_
  refine wp_seq ?_
  refine wp_region_lit ?_  -- region 9
  refine fx_val (v := .int .i64 0) fr rfl rfl (by first | decide | simp) (x_move rfl (fr.ev rfl)) ?_
  clear fr a; intro a fr
  refine fx_call fr rfl rfl (by first | decide | simp) (x_call (vs := [.int .i64 0]) rfl rfl ⟨(fr.ev rfl), trivial⟩ Try.func20 nm20 rfl) (num_c 0 _) ?_
  clear fr a
  rintro v w9 ⟨rfl, hw9⟩ a fr
  obtain rfl := hw9.symm
  refine fx_val (v := .bool true) fr rfl rfl (by first | decide | simp) (x_eql rfl (fr.ev rfl) rfl rfl) ?_
  clear fr a; intro a fr
  refine fx_val (v := .bool true) fr rfl rfl (by first | decide | simp) (x_move rfl (fr.ev rfl)) ?_
  clear fr a; intro a fr
  refine fx_val (v := .pointer (some ⟨b1, 0, none⟩)) fr (fr.want rfl rfl rfl) rfl (by first | decide | simp) (x_move rfl (fr.ev rfl)) ?_
  clear fr a; intro a fr
  refine fx_call fr (fr.want rfl rfl rfl) rfl (by first | decide | simp) (x_call (vs := [.pointer (some ⟨b1, 0, none⟩)]) rfl rfl ⟨(fr.ev rfl), trivial⟩ Try.func25 nm25 rfl) (len_c H3 (by decide)) ?_
  clear fr a
  rintro v w47 ⟨rfl, hN48⟩ a fr
  replace H3 := H3.new hN48
  replace B12 := B12.new hN48
  replace B21 := B21.new hN48
  replace hF := hF.trNew hN48
  refine fx_val (v := .bool true) fr (fr.want rfl rfl rfl) rfl (by first | decide | simp) (x_eql rfl (fr.ev rfl) rfl (by first | rfl | (rw [allL_nil (by omega)]; rfl))) ?_
  clear fr a; intro a fr
  refine fx_val (v := .bool true) fr rfl rfl (by first | decide | simp) (x_pick_t rfl (fr.ev rfl) (fr.ev rfl)) ?_
  clear fr a; intro a fr
  refine fx_val (v := .bool true) fr rfl rfl (by first | decide | simp) (x_move rfl (fr.ev rfl)) ?_
  clear fr a; intro a fr
  refine fx_val (v := .pointer (some ⟨b1, 0, none⟩)) fr (fr.want rfl rfl rfl) rfl (by first | decide | simp) (x_move rfl (fr.ev rfl)) ?_
  clear fr a; intro a fr
  refine fx_call fr (fr.want rfl rfl rfl) rfl (by first | decide | simp) (x_call (vs := [.pointer (some ⟨b1, 0, none⟩)]) rfl rfl ⟨(fr.ev rfl), trivial⟩ Try.func24 nm24 rfl) (lall_c H3 (by decide)) ?_
  clear fr a
  rintro v w53 ⟨A49, cap50, rfl, O51, hA52, hN54⟩ a fr
  have ap2_Fp2_A49 : ∀ k, Fp2 k → inA A49 k → False := symP (new_apart2P hA52 fun _ hg => H3.lt hg)
  have ap_A49_b9 : Apart A49 b9 := new_apart hA52 B12.lt
  have ap_A49_b18 : Apart A49 b18 := new_apart hA52 B21.lt
  have gA_A49 := gA_new hF hA52
  replace H3 := H3.new hN54
  replace B12 := B12.new hN54
  replace B21 := B21.new hN54
  replace hF := hF.trNew hN54
  refine fx_val (v := .int .i64 (((allL n ([])).length : Nat) : Int)) fr (fr.want rfl rfl rfl) rfl (by first | decide | simp) (x_len Try.underlying26 rfl (fr.ev rfl)) ?_
  clear fr a; intro a fr
  refine fx_val (v := .bool true) fr (fr.want rfl rfl rfl) rfl (by first | decide | simp) (x_eql rfl (fr.ev rfl) rfl (by first | rfl | (rw [allL_nil (by omega)]; rfl))) ?_
  clear fr a; intro a fr
  refine fx_val (v := .bool true) fr rfl rfl (by first | decide | simp) (x_pick_t rfl (fr.ev rfl) (fr.ev rfl)) ?_
  clear fr a; intro a fr
  refine fx_val (v := .bool true) fr rfl rfl (by first | decide | simp) (x_move rfl (fr.ev rfl)) ?_
  clear fr a; intro a fr
  refine fx_val (v := .pointer (some ⟨b1, 0, none⟩)) fr (fr.want rfl rfl rfl) rfl (by first | decide | simp) (x_move rfl (fr.ev rfl)) ?_
  clear fr a; intro a fr
  refine fx_val (v := .pointer none) fr (fr.want rfl rfl rfl) rfl (by first | decide | simp) (x_move rfl (fr.ev rfl)) ?_
  clear fr a; intro a fr
  refine fx_call fr (fr.want rfl rfl rfl) rfl (by first | decide | simp) (x_call (vs := [.pointer (some ⟨b1, 0, none⟩), .pointer none]) rfl rfl ⟨(fr.ev rfl), (fr.ev rfl), trivial⟩ Try.func27 nm27 rfl) (same_xn H3) ?_
  clear fr a
  rintro v w9 ⟨rfl, hw9⟩ a fr
  obtain rfl := hw9.symm
  refine fx_val (v := .bool true) fr (fr.want rfl rfl rfl) rfl (by first | decide | simp) (x_not rfl (fr.ev rfl) rfl) ?_
  clear fr a; intro a fr
  refine fx_val (v := .bool true) fr rfl rfl (by first | decide | simp) (x_pick_t rfl (fr.ev rfl) (fr.ev rfl)) ?_
  clear fr a; intro a fr
  refine fx_val (v := .bool true) fr rfl rfl (by first | decide | simp) (x_move rfl (fr.ev rfl)) ?_
  clear fr a; intro a fr
  refine fx_val (v := .pointer none) fr (fr.want rfl rfl rfl) rfl (by first | decide | simp) (x_move rfl (fr.ev rfl)) ?_
  clear fr a; intro a fr
  refine fx_val (v := .pointer (some ⟨b1, 0, none⟩)) fr (fr.want rfl rfl rfl) rfl (by first | decide | simp) (x_move rfl (fr.ev rfl)) ?_
  clear fr a; intro a fr
  refine fx_call fr (fr.want rfl rfl rfl) rfl (by first | decide | simp) (x_call (vs := [.pointer none, .pointer (some ⟨b1, 0, none⟩)]) rfl rfl ⟨(fr.ev rfl), (fr.ev rfl), trivial⟩ Try.func27 nm27 rfl) (same_nx H3) ?_
  clear fr a
  rintro v w9 ⟨rfl, hw9⟩ a fr
  obtain rfl := hw9.symm
  refine fx_val (v := .bool true) fr (fr.want rfl rfl rfl) rfl (by first | decide | simp) (x_not rfl (fr.ev rfl) rfl) ?_
  clear fr a; intro a fr
  refine fx_val (v := .bool true) fr rfl rfl (by first | decide | simp) (x_pick_t rfl (fr.ev rfl) (fr.ev rfl)) ?_
  clear fr a; intro a fr
  refine fx_val (v := .bool true) fr rfl rfl (by first | decide | simp) (x_move rfl (fr.ev rfl)) ?_
  clear fr a; intro a fr
  refine fx_call fr (fr.want rfl rfl rfl) rfl (by first | decide | simp) (x_call (vs := []) rfl rfl trivial Try.func11 nm11 rfl) (works_c _) ?_
  clear fr a
  rintro v w59 ⟨rfl, hN60⟩ a fr
  replace H3 := H3.new hN60
  replace B12 := B12.new hN60
  replace B21 := B21.new hN60
  replace O51 := O51.new hN60
  replace hF := hF.trNew hN60
  refine fx_val (v := .bool true) fr rfl rfl (by first | decide | simp) (x_pick_t rfl (fr.ev rfl) (fr.ev rfl)) ?_
  clear fr a; intro a fr
  refine fx_val (v := .bool true) fr rfl rfl (by first | decide | simp) (x_assign rfl (fr.ev rfl)) ?_
  clear fr a; intro a fr
  refine wpList_nil ?_
  refine fx_next ?_
  refine wp_ret ?_
  refine fx_ret fr [.tmp 4] [.bool true] rfl ⟨rfl, trivial⟩ rfl ?_
  exact ⟨_, rfl, rfl, hF⟩
set_option maxRecDepth 100000 in
set_option maxHeartbeats 4000000 in
theorem drops_c {w : World} {P : Option Addr} {cp : Nat} {la : List Ln} (hV : View lnE w P cp la) (number : Int) (hnum : 0 ≤ number ∧ number < 4294967296) : Calls Try.prog 6 #[.slice P la.length cp, .int .u32 number] w (Ret fun v w' => v = .bool true ∧ New w w') := by
  have hVl := hV.len
  unfold maxLen at hVl
  have hF := Only.refl (fun _ => False) w
  refine fx_enter Try.func6 rfl (N := (70, [])) (T := [(0, .slice P la.length cp), (1, .int .u32 number)]) rfl (show 2 ≤ 70 by decide) ⟨rfl, rfl, trivial⟩ fun a fr => ?_
  refine wp_seq ?_
  refine wp_region_lit ?_  -- region 0
  refine fx_val (v := .bool false) fr rfl rfl (by first | decide | simp) (x_assign rfl rfl) ?_
  clear fr a; intro a fr
  refine wpList_nil ?_
  refine fx_next ?_
  refine wp_seq ?_
  refine wp_seq ?_
  refine wp_region_lit ?_  -- region 1
  refine fx_val (v := .slice P la.length cp) fr rfl rfl (by first | decide | simp) (x_move rfl (fr.ev rfl)) ?_
  clear fr a; intro a fr
  refine fx_val (v := .int .i64 ((la.length : Nat) : Int)) fr rfl rfl (by first | decide | simp) (x_len Try.underlying26 rfl (fr.ev rfl)) ?_
  clear fr a; intro a fr
  refine fx_val (v := .bool (decide (8 < ((la.length : Nat) : Int)))) fr rfl rfl (by first | decide | simp) (x_gtr rfl (fr.ev rfl) rfl rfl) ?_
  clear fr a; intro a fr
  refine wpList_nil ?_
  refine fx_next ?_
  refine fx_cond fr rfl (fun hc1 => ?_) (fun hc1 => ?_)
  · skip
    have hc1 := of_decide_eq_true hc1
    refine wp_seq ?_
    refine wp_region_lit ?_  -- region 2
    refine fx_call fr rfl rfl (by first | decide | simp) (x_call (vs := []) rfl rfl trivial Try.func11 nm11 rfl) (works_c _) ?_
    clear fr a
    rintro v w2 ⟨rfl, hN3⟩ a fr
    replace hV := hV.new hN3
    replace hF := hF.trNew hN3
    refine fx_val (v := .bool true) fr rfl rfl (by first | decide | simp) (x_assign rfl (fr.ev rfl)) ?_
    clear fr a; intro a fr
    refine wpList_nil ?_
    refine fx_next ?_
    refine wp_ret ?_
    refine fx_rt ?_
    refine fx_ret fr [.tmp 4] [.bool true] rfl ⟨rfl, trivial⟩ rfl ?_
    exact ⟨_, rfl, rfl, hF⟩
  · skip
    have hc1 := of_decide_eq_false hc1
    refine wp_skip ?_
    refine fx_next ?_
    refine wp_seq ?_
    refine wp_region_lit ?_  -- region 3
    refine fx_call fr rfl rfl (by first | decide | simp) (x_call (vs := [.int .i64 1, .int .i64 8]) rfl rfl ⟨rfl, rfl, trivial⟩ Try.func18 nm18 rfl) (new_yes 1 8 _ (by first | rfl | decide | assumption)) ?_
    clear fr a
    rintro v w8 ⟨b4, Fp5, rfl, H6, hb7, hN9⟩ a fr
    have ap2_P_Fp5 : ∀ k, inA P k → Fp5 k → False := symP (new_apart2P hb7 fun _ hg => hV.lt hg)
    have gA_Fp5 := gA_newP hF hb7
    replace hV := hV.new hN9
    replace hF := hF.trNew hN9
    refine fx_val (v := .tuple #[.pointer (some ⟨b4, 0, none⟩), .int .i64 0]) fr rfl rfl (by first | decide | simp) (x_move rfl (fr.ev rfl)) ?_
    clear fr a; intro a fr
    refine fx_val (v := .pointer (some ⟨b4, 0, none⟩)) fr rfl rfl (by first | decide | simp) (x_extract rfl (fr.ev rfl) rfl) ?_
    clear fr a; intro a fr
    refine fx_val (v := .int .i64 0) fr rfl rfl (by first | decide | simp) (x_extract rfl (fr.ev rfl) rfl) ?_
    clear fr a; intro a fr
    refine fx_val (v := .pointer (some ⟨b4, 0, none⟩)) fr rfl rfl (by first | decide | simp) (x_assign rfl (fr.ev rfl)) ?_
    clear fr a; intro a fr
    refine fx_val (v := .int .i64 0) fr rfl rfl (by first | decide | simp) (x_assign rfl (fr.ev rfl)) ?_
    clear fr a; intro a fr
    refine wpList_nil ?_
    refine fx_next ?_
    refine wp_seq ?_
    refine wp_region_lit ?_  -- region 4
    refine fx_val (v := .agg (#[.int .i64 1, .int .i64 8, .slice none 0 0])) fr rfl rfl (by first | decide | simp) (x_build (cells := #[.int .i64 1, .int .i64 8, .slice none 0 0]) rfl (by kernel_rfl)) ?_
    clear fr a; intro a fr
    refine fx_new fr rfl rfl (by first | decide | simp) (x_alloc (z := .agg (#[.int .i64 0, .int .i64 0, .slice none 0 0])) (cs := #[.int .i64 0, .int .i64 0, .slice none 0 0]) rfl (by kernel_rfl) rfl) ?_
    clear fr a
    intro b10 w11 hN12 B13 hb14 a fr
    have ap_P_b10 : Apart P b10 := hV.apart hb14
    have ap_Fp5_b10 : ¬ Fp5 b10 := H6.apart hb14
    have g_b10 := Nat.le_trans hF.size hb14
    replace hV := hV.new hN12
    replace H6 := H6.new hN12
    replace hF := hF.trNew hN12
    refine fx_storeS sz28 rfl rfl rfl (fr.ev rfl) (fr.ev rfl) (by simp [Value.oneCell']) B13 rfl rfl fun w15 hO16 hBq => ?_
    replace hV := hV.only hO16 (Apart.ne1 ap_P_b10)
    replace H6 := H6.only hO16 (ne1P ap_Fp5_b10)
    replace hF := hF.loc hO16 (.inr g_b10)
    replace B13 := hBq
    clear hBq
    refine wpList_nil ?_
    refine fx_next ?_
    refine wp_seq ?_
    refine wp_seq ?_
    refine wp_region_lit ?_  -- region 5
    refine fx_val (v := .int .i64 0) fr rfl rfl (by first | decide | simp) (x_assign rfl rfl) ?_
    clear fr a; intro a fr
    refine wpList_nil ?_
    refine fx_next ?_
    refine wp_block ?_
    refine fx_loop (fun nM a wL => ∃ L : List Ln, ∃ FpX : Nat → Prop, ∃ V : Option Addr, ∃ vc : Nat, ∃ i : Nat, nM = la.length - i ∧ Fr (70, []) [(0, .slice P la.length cp), (1, .int .u32 number), (5, .pointer (some ⟨b4, 0, none⟩)), (6, .int .i64 0), (7, .pointer (some ⟨b10, 0, none⟩)), (8, .int .i64 ((i : Nat) : Int))] a ∧ Only (fun _ => False) w wL ∧ View lnE wL P cp la ∧ LinesAt wL FpX b4 1 8 L ∧ Blk wL b10 28 #[.int .i64 ((1 : Nat) : Int), .int .i64 8, .slice V L.length vc] ∧ View lnE wL V vc L ∧ i ≤ la.length ∧ L.length ≤ i ∧ (∀ k, inA P k → FpX k → False) ∧ (¬ FpX b10) ∧ (∀ k, FpX k → inA V k → False) ∧ (Apart V b10) ∧ (∀ g, FpX g → (fun _ => False) g ∨ w.heap.size ≤ g) ∧ (∀ g, inA V g → (fun _ => False) g ∨ w.heap.size ≤ g)) (n0 := _) ⟨[], Fp5, none, 0, 0, rfl, fr.sub ⟨rfl, rfl, rfl, rfl, rfl, rfl, trivial⟩, hF, hV, H6, B13, View.nil, by omega, Nat.le_refl _, ap2_P_Fp5, ap_Fp5_b10, (fun k _ h => apart_none k h), (apart_none b10), gA_Fp5, gA_none⟩ ?_
    rintro n18 a w17 ⟨L, FpX, V, vc, i, rfl, fr, hF, hV, H, B13, hW, hi, hLi, ap2_P_FpX, ap_FpX_b10, ap2_FpX_V, ap_V_b10, gA_FpX, gA_V⟩
    refine wp_seq ?_
    refine wp_seq ?_
    refine wp_region_lit ?_  -- region 6
    refine fx_val (v := .int .i64 ((i : Nat) : Int)) fr rfl rfl (by first | decide | simp) (x_move rfl (fr.ev rfl)) ?_
    clear fr a; intro a fr
    refine fx_val (v := .slice P la.length cp) fr rfl rfl (by first | decide | simp) (x_move rfl (fr.ev rfl)) ?_
    clear fr a; intro a fr
    refine fx_val (v := .int .i64 ((la.length : Nat) : Int)) fr rfl rfl (by first | decide | simp) (x_len Try.underlying26 rfl (fr.ev rfl)) ?_
    clear fr a; intro a fr
    refine fx_val (v := .bool (decide (((i : Nat) : Int) < ((la.length : Nat) : Int)))) fr rfl rfl (by first | decide | simp) (x_lss rfl (fr.ev rfl) (fr.ev rfl) rfl) ?_
    clear fr a; intro a fr
    refine wpList_nil ?_
    refine fx_next ?_
    refine fx_cond fr rfl (fun hc19 => ?_) (fun hc19 => ?_)
    · skip
      have hc19 := of_decide_eq_true hc19
      refine wp_skip ?_
      refine fx_next ?_
      refine wp_seq ?_
      refine wp_block ?_
      refine wp_seq ?_
      refine fx_held (n := 10) (fun w => View lnE w P cp la ∧ LinesAt w FpX b4 1 8 L ∧ View lnE w V vc L ∧ True) (by kernel_rfl) rfl ?_  -- region 8
      intro w20 hN21
      replace hV := hV.new hN21
      replace H := H.new hN21
      replace B13 := B13.new hN21
      replace hW := hW.new hN21
      replace hF := hF.trNew hN21
      refine fx_take (i := 1) (v := .slice P la.length cp) fr rfl (by kernel_rfl) rfl rfl (by first | decide | simp) (fun _ _ _ h => h) (fun _ ⟨hV, H, hW, _⟩ => x_move rfl (fr.ev rfl)) ⟨hV, H, hW, trivial⟩ ?_
      clear fr a; intro a fr
      refine fx_take (i := 2) (v := .int .i64 ((i : Nat) : Int)) fr rfl (by kernel_rfl) rfl rfl (by first | decide | simp) (fun _ _ _ h => h) (fun _ ⟨hV, H, hW, _⟩ => x_move rfl (fr.ev rfl)) ⟨hV, H, hW, trivial⟩ ?_
      clear fr a; intro a fr
      obtain ⟨g22, o23, hA24⟩ := (hV).some_ (by omega)
      refine fx_take (i := 3) (v := .pointer (some ⟨g22, o23 + i * 18, none⟩)) fr rfl (by kernel_rfl) rfl rfl (by first | decide | simp) (fun _ _ _ h => h) (fun _ ⟨hV, H, hW, _⟩ => x_indexV Try.underlying26 sz39 rfl (fr.ev rfl) hA24 (fr.ev rfl) (by omega) rfl) ⟨hV, H, hW, trivial⟩ ?_
      clear fr a; intro a fr
      refine fx_take (i := 4) (v := .agg (lnE.arr (la.getD i ln0))) fr rfl (by kernel_rfl) rfl rfl (by first | decide | simp) (fun _ _ _ h => h) (fun _ ⟨hV, H, hW, _⟩ => x_loadE (E := lnE) ag39 rfl rfl (fr.ev rfl) ((hV).elem hA24 i ln0 (by omega))) ⟨hV, H, hW, trivial⟩ ?_
      clear fr a; intro a fr
      refine fx_one (i := 0) (by kernel_rfl) (fx_op rfl ?_)
      refine fx_val (v := .agg (#[.int .i64 ((1 : Nat) : Int), .int .i64 8, .slice V L.length vc])) fr rfl rfl (by first | decide | simp) (x_loadS ag28 rfl (fr.ev rfl) rfl B13.range) ?_
      clear fr a; intro a fr
      refine wpList_nil ?_
      refine ⟨⟨hV, H, hW, trivial⟩, ?_⟩
      refine fx_one (i := 5) (by kernel_rfl) (fx_op rfl ?_)
      refine fx_call fr rfl rfl (by first | decide | simp) (x_call (vs := [.agg (#[.int .i64 ((1 : Nat) : Int), .int .i64 8, .slice V L.length vc]), .agg (lnE.arr (la.getD i ln0))]) rfl rfl ⟨(fr.ev rfl), (fr.ev rfl), trivial⟩ Try.func19 nm19 rfl) (rput_c (la.getD i ln0) (n := 1) (ways := 8) (L := L) (hW) (by first | omega | decide) (by omega) (by first | omega | decide)) ?_
      clear fr a
      rintro v w29 ⟨A25, cap26, rfl, V27, mv28, hN30⟩ a fr
      have ap2_A25_FpX : ∀ k, inA A25 k → FpX k → False := moved_apart2P mv28 (symP ap2_FpX_V) fun _ hg => H.lt hg
      have ap_A25_b10 : Apart A25 b10 := moved_apart mv28 ap_V_b10 B13.lt
      have gA_A25 := gA_moved hF mv28 gA_V
      replace hV := hV.new hN30
      replace H := H.new hN30
      replace B13 := B13.new hN30
      replace hW := hW.new hN30
      replace hF := hF.trNew hN30
      refine wpList_nil ?_
      refine ⟨⟨hV, H, hW, trivial⟩, ?_⟩
      refine fx_take (i := 6) (v := .tuple #[.agg (#[.int .i64 ((1 : Nat) : Int), .int .i64 8, .slice A25 ((putL 1 8 L (la.getD i ln0)).length) cap26]), .int .i64 (putE 1 8 L (la.getD i ln0))]) fr rfl (by kernel_rfl) rfl rfl (by first | decide | simp) (fun _ _ _ h => h) (fun _ ⟨hV, H, hW, _⟩ => x_move rfl (fr.ev rfl)) ⟨hV, H, hW, trivial⟩ ?_
      clear fr a; intro a fr
      refine fx_take (i := 7) (v := .agg (#[.int .i64 ((1 : Nat) : Int), .int .i64 8, .slice A25 ((putL 1 8 L (la.getD i ln0)).length) cap26])) fr rfl (by kernel_rfl) rfl rfl (by first | decide | simp) (fun _ _ _ h => h) (fun _ ⟨hV, H, hW, _⟩ => x_extract rfl (fr.ev rfl) rfl) ⟨hV, H, hW, trivial⟩ ?_
      clear fr a; intro a fr
      refine fx_take (i := 8) (v := .int .i64 (putE 1 8 L (la.getD i ln0))) fr rfl (by kernel_rfl) rfl rfl (by first | decide | simp) (fun _ _ _ h => h) (fun _ ⟨hV, H, hW, _⟩ => x_extract rfl (fr.ev rfl) rfl) ⟨hV, H, hW, trivial⟩ ?_
      clear fr a; intro a fr
      refine fx_one (i := 9) (by kernel_rfl) (fx_op rfl ?_)
      refine fx_storeS sz28 rfl rfl rfl (fr.ev rfl) (fr.ev rfl) (by simp [Value.oneCell']) B13 rfl rfl fun w31 hO32 hBq => ?_
      replace hV := hV.only hO32 (Apart.ne1 ap_P_b10)
      replace H := H.only hO32 (ne1P ap_FpX_b10)
      replace hW := hW.only hO32 (Apart.ne1 ap_V_b10)
      replace V27 := V27.only hO32 (Apart.ne1 ap_A25_b10)
      replace hF := hF.loc hO32 (.inr g_b10)
      replace B13 := hBq
      clear hBq
      refine wpList_nil ?_
      refine ⟨⟨hV, H, hW, trivial⟩, ?_⟩
      refine fx_hdone (by kernel_rfl) ?_
      refine fx_next ?_
      refine wp_region_lit ?_  -- region 9
      refine fx_val (v := .pointer (some ⟨b4, 0, none⟩)) fr rfl rfl (by first | decide | simp) (x_move rfl (fr.ev rfl)) ?_
      clear fr a; intro a fr
      refine fx_val (v := .slice P la.length cp) fr rfl rfl (by first | decide | simp) (x_move rfl (fr.ev rfl)) ?_
      clear fr a; intro a fr
      refine fx_val (v := .int .i64 ((i : Nat) : Int)) fr rfl rfl (by first | decide | simp) (x_move rfl (fr.ev rfl)) ?_
      clear fr a; intro a fr
      refine fx_val (v := .pointer (some ⟨g22, o23 + i * 18, none⟩)) fr rfl rfl (by first | decide | simp) (x_indexV Try.underlying26 sz39 rfl (fr.ev rfl) hA24 (fr.ev rfl) (by omega) rfl) ?_
      clear fr a; intro a fr
      refine fx_val (v := .agg (lnE.arr (la.getD i ln0))) fr rfl rfl (by first | decide | simp) (x_loadE (E := lnE) ag39 rfl rfl (fr.ev rfl) ((hV).elem hA24 i ln0 (by omega))) ?_
      clear fr a; intro a fr
      refine fx_call fr rfl rfl (by first | decide | simp) (x_call (vs := [.pointer (some ⟨b4, 0, none⟩), .agg (lnE.arr (la.getD i ln0))]) rfl rfl ⟨(fr.ev rfl), (fr.ev rfl), trivial⟩ Try.func21 nm21 rfl) (put_c (la.getD i ln0) H) ?_
      clear fr a
      rintro v w36 ⟨rfl, Fp33, H34, hN37, mv35⟩ a fr
      have ap2_Fp33_P : ∀ k, Fp33 k → inA P k → False := moved_apart2P mv35 (symP ap2_P_FpX) fun _ hg => hV.lt hg
      have ap2_Fp33_V : ∀ k, Fp33 k → inA V k → False := moved_apart2P mv35 ap2_FpX_V fun _ hg => hW.lt hg
      have ap2_Fp33_A25 : ∀ k, Fp33 k → inA A25 k → False := moved_apart2P mv35 (symP ap2_A25_FpX) fun _ hg => V27.lt hg
      have ap_Fp33_b10 : ¬ Fp33 b10 := moved_apartP mv35 ap_FpX_b10 B13.lt
      have gA_Fp33 := gA_movedP hF mv35 gA_FpX
      replace hV := hV.only hN37 (fun g h1 h2 => ap2_P_FpX g h1 h2)
      replace hW := hW.only hN37 (fun g h1 h2 => (symP ap2_FpX_V) g h1 h2)
      replace V27 := V27.only hN37 (fun g h1 h2 => ap2_A25_FpX g h1 h2)
      replace B13 := B13.only hN37 ap_FpX_b10
      replace hF := hF.locP hN37 gA_FpX
      clear H
      refine wpList_nil ?_
      refine fx_blk ?_
      refine fx_next ?_
      refine wp_region_lit ?_  -- region 7
      refine fx_val (v := .int .i64 ((i : Nat) : Int)) fr rfl rfl (by first | decide | simp) (x_move rfl (fr.ev rfl)) ?_
      clear fr a; intro a fr
      refine fx_val (v := .int .i64 ((i + 1 : Nat) : Int)) fr rfl rfl (by first | decide | simp) (x_add rfl (fr.ev rfl) rfl (i64w (r := ((i + 1 : Nat) : Int)) (by omega) (by omega))) ?_
      clear fr a; intro a fr
      refine fx_val (v := .int .i64 ((i + 1 : Nat) : Int)) fr rfl rfl (by first | decide | simp) (x_assign rfl (fr.ev rfl)) ?_
      clear fr a; intro a fr
      refine wpList_nil ?_
      refine fx_next ?_
      exact ⟨_, by omega, (putL 1 8 L (la.getD i ln0)), Fp33, A25, cap26, (i + 1), rfl, fr.sub ⟨rfl, rfl, rfl, rfl, rfl, rfl, trivial⟩, hF, hV, H34, B13, V27, by omega, (by have := putL_le 1 8 L (la.getD i ln0); omega), (symP ap2_Fp33_P), ap_Fp33_b10, ap2_Fp33_A25, ap_A25_b10, gA_Fp33, gA_A25⟩
    · skip
      have hc19 := of_decide_eq_false hc19
      refine wp_exit ?_
      refine fx_xt ?_
      refine fx_xt ?_
      refine fx_xx ?_
      refine fx_next ?_
      refine wp_seq ?_
      refine wp_region_lit ?_  -- region 10
      refine fx_val (v := .agg (#[.int .i64 ((1 : Nat) : Int), .int .i64 8, .slice V L.length vc])) fr rfl rfl (by first | decide | simp) (x_loadS ag28 rfl (fr.ev rfl) rfl B13.range) ?_
      clear fr a; intro a fr
      refine fx_val (v := .int .u32 number) fr rfl rfl (by first | decide | simp) (x_move rfl (fr.ev rfl)) ?_
      clear fr a; intro a fr
      refine fx_call fr rfl rfl (by first | decide | simp) (x_call (vs := [.agg (#[.int .i64 ((1 : Nat) : Int), .int .i64 8, .slice V L.length vc]), .int .u32 number]) rfl rfl ⟨(fr.ev rfl), (fr.ev rfl), trivial⟩ Try.func17 nm17 rfl) (rfind_c number (n := 1) (ways := 8) (L := L) (hW) (by first | omega | decide)) ?_
      clear fr a
      rintro v w38 ⟨rfl, hN39⟩ a fr
      replace hV := hV.new hN39
      replace H := H.new hN39
      replace B13 := B13.new hN39
      replace hW := hW.new hN39
      replace hF := hF.trNew hN39
      refine fx_val (v := .bool (decide (0 ≤ fndI L number))) fr rfl rfl (by first | decide | simp) (x_geq rfl (fr.ev rfl) rfl rfl) ?_
      clear fr a; intro a fr
      refine fx_val (v := .bool (decide (0 ≤ fndI L number))) fr rfl rfl (by first | decide | simp) (x_assign rfl (fr.ev rfl)) ?_
      clear fr a; intro a fr
      refine wpList_nil ?_
      refine fx_next ?_
      refine wp_seq ?_
      rcases Decidable.em (0 ≤ fndI L number) with hf | hf
      · skip
        rw [decide_eq_true hf] at fr
        refine wp_region_lit ?_  -- region 11
        refine fx_val (v := .int .i64 0) fr rfl rfl (by first | decide | simp) (x_move rfl (fr.ev rfl)) ?_
        clear fr a; intro a fr
        refine fx_call fr rfl rfl (by first | decide | simp) (x_call (vs := [.int .i64 0]) rfl rfl ⟨(fr.ev rfl), trivial⟩ Try.func20 nm20 rfl) (num_c 0 _) ?_
        clear fr a
        rintro v w9 ⟨rfl, hw9⟩ a fr
        obtain rfl := hw9.symm
        refine fx_val (v := .bool true) fr rfl rfl (by first | decide | simp) (x_eql rfl (fr.ev rfl) rfl rfl) ?_
        clear fr a; intro a fr
        refine fx_val (v := .bool true) fr rfl rfl (by first | decide | simp) (x_move rfl (fr.ev rfl)) ?_
        clear fr a; intro a fr
        refine fx_val (v := .pointer (some ⟨b4, 0, none⟩)) fr (fr.want rfl rfl rfl) rfl (by first | decide | simp) (x_move rfl (fr.ev rfl)) ?_
        clear fr a; intro a fr
        refine fx_val (v := .int .u32 number) fr (fr.want rfl rfl rfl) rfl (by first | decide | simp) (x_move rfl (fr.ev rfl)) ?_
        clear fr a; intro a fr
        refine fx_call fr (fr.want rfl rfl rfl) rfl (by first | decide | simp) (x_call (vs := [.pointer (some ⟨b4, 0, none⟩), .int .u32 number]) rfl rfl ⟨(fr.ev rfl), (fr.ev rfl), trivial⟩ Try.func22 nm22 rfl) (drop_c number (by omega) H) ?_
        clear fr a
        rintro v w45 ⟨rfl, Fp42, H43, hN46, mv44⟩ a fr
        have ap2_Fp42_P : ∀ k, Fp42 k → inA P k → False := moved_apart2P mv44 (symP ap2_P_FpX) fun _ hg => hV.lt hg
        have ap_Fp42_b10 : ¬ Fp42 b10 := moved_apartP mv44 ap_FpX_b10 B13.lt
        have ap2_Fp42_V : ∀ k, Fp42 k → inA V k → False := moved_apart2P mv44 ap2_FpX_V fun _ hg => hW.lt hg
        have gA_Fp42 := gA_movedP hF mv44 gA_FpX
        replace hV := hV.only hN46 (fun g h1 h2 => ap2_P_FpX g h1 h2)
        replace B13 := B13.only hN46 ap_FpX_b10
        replace hW := hW.only hN46 (fun g h1 h2 => (symP ap2_FpX_V) g h1 h2)
        replace hF := hF.locP hN46 gA_FpX
        clear H
        rw [fnd_get L number] at fr
        rw [decide_eq_true hf] at fr
        refine fx_val (v := .bool true) fr (fr.want rfl rfl rfl) rfl (by first | decide | simp) (x_move rfl (fr.ev rfl)) ?_
        clear fr a; intro a fr
        refine fx_val (v := .bool true) fr (fr.want rfl rfl rfl) rfl (by first | decide | simp) (x_beql Try.underlying4 rfl (fr.ev rfl) (fr.ev rfl) rfl) ?_
        clear fr a; intro a fr
        refine fx_val (v := .bool true) fr rfl rfl (by first | decide | simp) (x_pick_t rfl (fr.ev rfl) (fr.ev rfl)) ?_
        clear fr a; intro a fr
        refine fx_val (v := .bool true) fr rfl rfl (by first | decide | simp) (x_move rfl (fr.ev rfl)) ?_
        clear fr a; intro a fr
        refine fx_val (v := .pointer (some ⟨b4, 0, none⟩)) fr (fr.want rfl rfl rfl) rfl (by first | decide | simp) (x_move rfl (fr.ev rfl)) ?_
        clear fr a; intro a fr
        refine fx_val (v := .int .u32 number) fr (fr.want rfl rfl rfl) rfl (by first | decide | simp) (x_move rfl (fr.ev rfl)) ?_
        clear fr a; intro a fr
        refine fx_call fr (fr.want rfl rfl rfl) rfl (by first | decide | simp) (x_call (vs := [.pointer (some ⟨b4, 0, none⟩), .int .u32 number]) rfl rfl ⟨(fr.ev rfl), (fr.ev rfl), trivial⟩ Try.func22 nm22 rfl) (drop_c number (by omega) H43) ?_
        clear fr a
        rintro v w50 ⟨rfl, Fp47, H48, hN51, mv49⟩ a fr
        have ap2_Fp47_P : ∀ k, Fp47 k → inA P k → False := moved_apart2P mv49 ap2_Fp42_P fun _ hg => hV.lt hg
        have ap_Fp47_b10 : ¬ Fp47 b10 := moved_apartP mv49 ap_Fp42_b10 B13.lt
        have ap2_Fp47_V : ∀ k, Fp47 k → inA V k → False := moved_apart2P mv49 ap2_Fp42_V fun _ hg => hW.lt hg
        have gA_Fp47 := gA_movedP hF mv49 gA_Fp42
        replace hV := hV.only hN51 (fun g h1 h2 => (symP ap2_Fp42_P) g h1 h2)
        replace B13 := B13.only hN51 ap_Fp42_b10
        replace hW := hW.only hN51 (fun g h1 h2 => (symP ap2_Fp42_V) g h1 h2)
        replace hF := hF.locP hN51 gA_Fp42
        clear H43
        rw [show dropL (dropL L number) number = dropL L number from (drop_twice L number).2] at H48
        rw [show (getN (dropL L number) number).isSome = false from (drop_twice L number).1] at fr
        refine fx_val (v := .bool true) fr (fr.want rfl rfl rfl) rfl (by first | decide | simp) (x_not rfl (fr.ev rfl) rfl) ?_
        clear fr a; intro a fr
        refine fx_val (v := .bool true) fr rfl rfl (by first | decide | simp) (x_pick_t rfl (fr.ev rfl) (fr.ev rfl)) ?_
        clear fr a; intro a fr
        refine fx_val (v := .bool true) fr rfl rfl (by first | decide | simp) (x_move rfl (fr.ev rfl)) ?_
        clear fr a; intro a fr
        refine fx_val (v := .pointer (some ⟨b4, 0, none⟩)) fr (fr.want rfl rfl rfl) rfl (by first | decide | simp) (x_move rfl (fr.ev rfl)) ?_
        clear fr a; intro a fr
        refine fx_val (v := .agg (#[.int .i64 ((1 : Nat) : Int), .int .i64 8, .slice V L.length vc])) fr (fr.want rfl rfl rfl) rfl (by first | decide | simp) (x_loadS ag28 rfl (fr.ev rfl) rfl B13.range) ?_
        clear fr a; intro a fr
        refine fx_val (v := .int .u32 number) fr (fr.want rfl rfl rfl) rfl (by first | decide | simp) (x_move rfl (fr.ev rfl)) ?_
        clear fr a; intro a fr
        refine fx_call fr (fr.want rfl rfl rfl) rfl (by first | decide | simp) (x_call (vs := [.agg (#[.int .i64 ((1 : Nat) : Int), .int .i64 8, .slice V L.length vc]), .int .u32 number]) rfl rfl ⟨(fr.ev rfl), (fr.ev rfl), trivial⟩ Try.func23 nm23 rfl) (rdrop_c number (n := 1) (ways := 8) (L := L) (hW) (by first | omega | decide) (by omega)) ?_
        clear fr a
        rintro v w56 ⟨A52, cap53, rfl, V54, mv55, hN57⟩ a fr
        have ap_A52_b10 : Apart A52 b10 := moved_apart mv55 ap_V_b10 B13.lt
        have ap2_A52_Fp47 : ∀ k, inA A52 k → Fp47 k → False := moved_apart2P mv55 (symP ap2_Fp47_V) fun _ hg => H48.lt hg
        have gA_A52 := gA_moved hF mv55 gA_V
        replace hV := hV.new hN57
        replace B13 := B13.new hN57
        replace hW := hW.new hN57
        replace H48 := H48.new hN57
        replace hF := hF.trNew hN57
        refine fx_call fr (fr.want rfl rfl rfl) rfl (by first | decide | simp) (x_call (vs := [.pointer (some ⟨b4, 0, none⟩), .agg (#[.int .i64 ((1 : Nat) : Int), .int .i64 8, .slice A52 ((dropL L number).length) cap53])]) rfl rfl ⟨(fr.ev rfl), (fr.ev rfl), trivial⟩ Try.func13 nm13 rfl) (is_c H48 (V54) (by have := dropL_le L number; omega)) ?_
        clear fr a
        rintro v w58 ⟨rfl, hN59⟩ a fr
        replace hV := hV.new hN59
        replace B13 := B13.new hN59
        replace hW := hW.new hN59
        replace H48 := H48.new hN59
        replace V54 := V54.new hN59
        replace hF := hF.trNew hN59
        refine fx_val (v := .bool true) fr rfl rfl (by first | decide | simp) (x_pick_t rfl (fr.ev rfl) (fr.ev rfl)) ?_
        clear fr a; intro a fr
        refine fx_val (v := .bool true) fr rfl rfl (by first | decide | simp) (x_move rfl (fr.ev rfl)) ?_
        clear fr a; intro a fr
        refine fx_call fr (fr.want rfl rfl rfl) rfl (by first | decide | simp) (x_call (vs := []) rfl rfl trivial Try.func11 nm11 rfl) (works_c _) ?_
        clear fr a
        rintro v w60 ⟨rfl, hN61⟩ a fr
        replace hV := hV.new hN61
        replace B13 := B13.new hN61
        replace hW := hW.new hN61
        replace H48 := H48.new hN61
        replace V54 := V54.new hN61
        replace hF := hF.trNew hN61
        refine fx_val (v := .bool true) fr rfl rfl (by first | decide | simp) (x_pick_t rfl (fr.ev rfl) (fr.ev rfl)) ?_
        clear fr a; intro a fr
        refine fx_val (v := .bool true) fr rfl rfl (by first | decide | simp) (x_assign rfl (fr.ev rfl)) ?_
        clear fr a; intro a fr
        refine wpList_nil ?_
        refine fx_next ?_
        refine wp_ret ?_
        refine fx_ret fr [.tmp 4] [.bool true] rfl ⟨rfl, trivial⟩ rfl ?_
        exact ⟨_, rfl, rfl, hF⟩
      · skip
        rw [decide_eq_false hf] at fr
        refine wp_region_lit ?_  -- region 11
        refine fx_val (v := .int .i64 0) fr rfl rfl (by first | decide | simp) (x_move rfl (fr.ev rfl)) ?_
        clear fr a; intro a fr
        refine fx_call fr rfl rfl (by first | decide | simp) (x_call (vs := [.int .i64 0]) rfl rfl ⟨(fr.ev rfl), trivial⟩ Try.func20 nm20 rfl) (num_c 0 _) ?_
        clear fr a
        rintro v w9 ⟨rfl, hw9⟩ a fr
        obtain rfl := hw9.symm
        refine fx_val (v := .bool true) fr rfl rfl (by first | decide | simp) (x_eql rfl (fr.ev rfl) rfl rfl) ?_
        clear fr a; intro a fr
        refine fx_val (v := .bool true) fr rfl rfl (by first | decide | simp) (x_move rfl (fr.ev rfl)) ?_
        clear fr a; intro a fr
        refine fx_val (v := .pointer (some ⟨b4, 0, none⟩)) fr (fr.want rfl rfl rfl) rfl (by first | decide | simp) (x_move rfl (fr.ev rfl)) ?_
        clear fr a; intro a fr
        refine fx_val (v := .int .u32 number) fr (fr.want rfl rfl rfl) rfl (by first | decide | simp) (x_move rfl (fr.ev rfl)) ?_
        clear fr a; intro a fr
        refine fx_call fr (fr.want rfl rfl rfl) rfl (by first | decide | simp) (x_call (vs := [.pointer (some ⟨b4, 0, none⟩), .int .u32 number]) rfl rfl ⟨(fr.ev rfl), (fr.ev rfl), trivial⟩ Try.func22 nm22 rfl) (drop_c number (by omega) H) ?_
        clear fr a
        rintro v w67 ⟨rfl, Fp64, H65, hN68, mv66⟩ a fr
        have ap2_Fp64_P : ∀ k, Fp64 k → inA P k → False := moved_apart2P mv66 (symP ap2_P_FpX) fun _ hg => hV.lt hg
        have ap_Fp64_b10 : ¬ Fp64 b10 := moved_apartP mv66 ap_FpX_b10 B13.lt
        have ap2_Fp64_V : ∀ k, Fp64 k → inA V k → False := moved_apart2P mv66 ap2_FpX_V fun _ hg => hW.lt hg
        have gA_Fp64 := gA_movedP hF mv66 gA_FpX
        replace hV := hV.only hN68 (fun g h1 h2 => ap2_P_FpX g h1 h2)
        replace B13 := B13.only hN68 ap_FpX_b10
        replace hW := hW.only hN68 (fun g h1 h2 => (symP ap2_FpX_V) g h1 h2)
        replace hF := hF.locP hN68 gA_FpX
        clear H
        rw [fnd_get L number] at fr
        rw [decide_eq_false hf] at fr
        refine fx_val (v := .bool false) fr (fr.want rfl rfl rfl) rfl (by first | decide | simp) (x_move rfl (fr.ev rfl)) ?_
        clear fr a; intro a fr
        refine fx_val (v := .bool true) fr (fr.want rfl rfl rfl) rfl (by first | decide | simp) (x_beql Try.underlying4 rfl (fr.ev rfl) (fr.ev rfl) rfl) ?_
        clear fr a; intro a fr
        refine fx_val (v := .bool true) fr rfl rfl (by first | decide | simp) (x_pick_t rfl (fr.ev rfl) (fr.ev rfl)) ?_
        clear fr a; intro a fr
        refine fx_val (v := .bool true) fr rfl rfl (by first | decide | simp) (x_move rfl (fr.ev rfl)) ?_
        clear fr a; intro a fr
        refine fx_val (v := .pointer (some ⟨b4, 0, none⟩)) fr (fr.want rfl rfl rfl) rfl (by first | decide | simp) (x_move rfl (fr.ev rfl)) ?_
        clear fr a; intro a fr
        refine fx_val (v := .int .u32 number) fr (fr.want rfl rfl rfl) rfl (by first | decide | simp) (x_move rfl (fr.ev rfl)) ?_
        clear fr a; intro a fr
        refine fx_call fr (fr.want rfl rfl rfl) rfl (by first | decide | simp) (x_call (vs := [.pointer (some ⟨b4, 0, none⟩), .int .u32 number]) rfl rfl ⟨(fr.ev rfl), (fr.ev rfl), trivial⟩ Try.func22 nm22 rfl) (drop_c number (by omega) H65) ?_
        clear fr a
        rintro v w72 ⟨rfl, Fp69, H70, hN73, mv71⟩ a fr
        have ap2_Fp69_P : ∀ k, Fp69 k → inA P k → False := moved_apart2P mv71 ap2_Fp64_P fun _ hg => hV.lt hg
        have ap_Fp69_b10 : ¬ Fp69 b10 := moved_apartP mv71 ap_Fp64_b10 B13.lt
        have ap2_Fp69_V : ∀ k, Fp69 k → inA V k → False := moved_apart2P mv71 ap2_Fp64_V fun _ hg => hW.lt hg
        have gA_Fp69 := gA_movedP hF mv71 gA_Fp64
        replace hV := hV.only hN73 (fun g h1 h2 => (symP ap2_Fp64_P) g h1 h2)
        replace B13 := B13.only hN73 ap_Fp64_b10
        replace hW := hW.only hN73 (fun g h1 h2 => (symP ap2_Fp64_V) g h1 h2)
        replace hF := hF.locP hN73 gA_Fp64
        clear H65
        rw [show dropL (dropL L number) number = dropL L number from (drop_twice L number).2] at H70
        rw [show (getN (dropL L number) number).isSome = false from (drop_twice L number).1] at fr
        refine fx_val (v := .bool true) fr (fr.want rfl rfl rfl) rfl (by first | decide | simp) (x_not rfl (fr.ev rfl) rfl) ?_
        clear fr a; intro a fr
        refine fx_val (v := .bool true) fr rfl rfl (by first | decide | simp) (x_pick_t rfl (fr.ev rfl) (fr.ev rfl)) ?_
        clear fr a; intro a fr
        refine fx_val (v := .bool true) fr rfl rfl (by first | decide | simp) (x_move rfl (fr.ev rfl)) ?_
        clear fr a; intro a fr
        refine fx_val (v := .pointer (some ⟨b4, 0, none⟩)) fr (fr.want rfl rfl rfl) rfl (by first | decide | simp) (x_move rfl (fr.ev rfl)) ?_
        clear fr a; intro a fr
        refine fx_val (v := .agg (#[.int .i64 ((1 : Nat) : Int), .int .i64 8, .slice V L.length vc])) fr (fr.want rfl rfl rfl) rfl (by first | decide | simp) (x_loadS ag28 rfl (fr.ev rfl) rfl B13.range) ?_
        clear fr a; intro a fr
        refine fx_val (v := .int .u32 number) fr (fr.want rfl rfl rfl) rfl (by first | decide | simp) (x_move rfl (fr.ev rfl)) ?_
        clear fr a; intro a fr
        refine fx_call fr (fr.want rfl rfl rfl) rfl (by first | decide | simp) (x_call (vs := [.agg (#[.int .i64 ((1 : Nat) : Int), .int .i64 8, .slice V L.length vc]), .int .u32 number]) rfl rfl ⟨(fr.ev rfl), (fr.ev rfl), trivial⟩ Try.func23 nm23 rfl) (rdrop_c number (n := 1) (ways := 8) (L := L) (hW) (by first | omega | decide) (by omega)) ?_
        clear fr a
        rintro v w78 ⟨A74, cap75, rfl, V76, mv77, hN79⟩ a fr
        have ap_A74_b10 : Apart A74 b10 := moved_apart mv77 ap_V_b10 B13.lt
        have ap2_A74_Fp69 : ∀ k, inA A74 k → Fp69 k → False := moved_apart2P mv77 (symP ap2_Fp69_V) fun _ hg => H70.lt hg
        have gA_A74 := gA_moved hF mv77 gA_V
        replace hV := hV.new hN79
        replace B13 := B13.new hN79
        replace hW := hW.new hN79
        replace H70 := H70.new hN79
        replace hF := hF.trNew hN79
        refine fx_call fr (fr.want rfl rfl rfl) rfl (by first | decide | simp) (x_call (vs := [.pointer (some ⟨b4, 0, none⟩), .agg (#[.int .i64 ((1 : Nat) : Int), .int .i64 8, .slice A74 ((dropL L number).length) cap75])]) rfl rfl ⟨(fr.ev rfl), (fr.ev rfl), trivial⟩ Try.func13 nm13 rfl) (is_c H70 (V76) (by have := dropL_le L number; omega)) ?_
        clear fr a
        rintro v w80 ⟨rfl, hN81⟩ a fr
        replace hV := hV.new hN81
        replace B13 := B13.new hN81
        replace hW := hW.new hN81
        replace H70 := H70.new hN81
        replace V76 := V76.new hN81
        replace hF := hF.trNew hN81
        refine fx_val (v := .bool true) fr rfl rfl (by first | decide | simp) (x_pick_t rfl (fr.ev rfl) (fr.ev rfl)) ?_
        clear fr a; intro a fr
        refine fx_val (v := .bool true) fr rfl rfl (by first | decide | simp) (x_move rfl (fr.ev rfl)) ?_
        clear fr a; intro a fr
        refine fx_call fr (fr.want rfl rfl rfl) rfl (by first | decide | simp) (x_call (vs := []) rfl rfl trivial Try.func11 nm11 rfl) (works_c _) ?_
        clear fr a
        rintro v w82 ⟨rfl, hN83⟩ a fr
        replace hV := hV.new hN83
        replace B13 := B13.new hN83
        replace hW := hW.new hN83
        replace H70 := H70.new hN83
        replace V76 := V76.new hN83
        replace hF := hF.trNew hN83
        refine fx_val (v := .bool true) fr rfl rfl (by first | decide | simp) (x_pick_t rfl (fr.ev rfl) (fr.ev rfl)) ?_
        clear fr a; intro a fr
        refine fx_val (v := .bool true) fr rfl rfl (by first | decide | simp) (x_assign rfl (fr.ev rfl)) ?_
        clear fr a; intro a fr
        refine wpList_nil ?_
        refine fx_next ?_
        refine wp_ret ?_
        refine fx_ret fr [.tmp 4] [.bool true] rfl ⟨rfl, trivial⟩ rfl ?_
        exact ⟨_, rfl, rfl, hF⟩
set_option maxRecDepth 100000 in
set_option maxHeartbeats 4000000 in
theorem tells_no {w : World} {P : Option Addr} {cp : Nat} {la : List LAct} (hV : View actE w P cp la) (qn qp : Int) (hqn : 0 ≤ qn ∧ qn < 4294967296) (sets ways : Int) (hr : rightB sets ways = false) : Calls Try.prog 4 #[.int .i64 sets, .int .i64 ways, .slice P la.length cp, .agg (#[.int .u32 qn, .int .i64 qp])] w (Ret fun v w' => v = .bool true ∧ New w w') := by
  have hF := Only.refl (fun _ => False) w
  refine fx_enter Try.func4 rfl (N := (110, [])) (T := [(0, .int .i64 sets), (1, .int .i64 ways), (2, .slice P la.length cp), (3, .agg (#[.int .u32 qn, .int .i64 qp]))]) rfl (show 4 ≤ 110 by decide) ⟨rfl, rfl, rfl, rfl, trivial⟩ fun a fr => ?_
  refine wp_seq ?_
  refine wp_region_lit ?_  -- region 0
  refine fx_new fr rfl rfl (by first | decide | simp) (x_box (cs := #[.int .u32 qn, .int .i64 qp]) rfl (fr.ev rfl) rfl) ?_
  clear fr a
  intro b1 w2 hN3 B4 hb5 a fr
  have ap_P_b1 : Apart P b1 := hV.apart hb5
  have g_b1 := Nat.le_trans hF.size hb5
  replace hV := hV.new hN3
  replace hF := hF.trNew hN3
  refine fx_val (v := .bool false) fr rfl rfl (by first | decide | simp) (x_assign rfl rfl) ?_
  clear fr a; intro a fr
  refine wpList_nil ?_
  refine fx_next ?_
  refine wp_seq ?_
  refine wp_seq ?_
  refine wp_region_lit ?_  -- region 1
  refine fx_val (v := .int .i64 sets) fr rfl rfl (by first | decide | simp) (x_move rfl (fr.ev rfl)) ?_
  clear fr a; intro a fr
  refine fx_val (v := .int .i64 ways) fr rfl rfl (by first | decide | simp) (x_move rfl (fr.ev rfl)) ?_
  clear fr a; intro a fr
  refine fx_call fr rfl rfl (by first | decide | simp) (x_call (vs := [.int .i64 sets, .int .i64 ways]) rfl rfl ⟨(fr.ev rfl), (fr.ev rfl), trivial⟩ Try.func10 nm10 rfl) (right_c sets ways _) ?_
  clear fr a
  rintro v w6 ⟨rfl, hN7⟩ a fr
  replace hV := hV.new hN7
  replace B4 := B4.new hN7
  replace hF := hF.trNew hN7
  rw [hr] at fr
  refine fx_val (v := .bool true) fr rfl rfl (by first | decide | simp) (x_not rfl (fr.ev rfl) rfl) ?_
  clear fr a; intro a fr
  refine fx_val (v := .bool true) fr rfl rfl (by first | decide | simp) (x_move rfl (fr.ev rfl)) ?_
  clear fr a; intro a fr
  refine fx_skip fr (fr.unwant rfl rfl rfl (by decide)) rfl (by first | decide | simp) ?_
  clear fr a; intro a fr
  refine fx_skip fr (fr.unwant rfl rfl rfl (by decide)) rfl (by first | decide | simp) ?_
  clear fr a; intro a fr
  refine fx_skip fr (fr.unwant rfl rfl rfl (by decide)) rfl (by first | decide | simp) ?_
  clear fr a; intro a fr
  refine fx_val (v := .bool true) fr rfl rfl (by first | decide | simp) (x_pick_t rfl (fr.ev rfl) rfl) ?_
  clear fr a; intro a fr
  refine wpList_nil ?_
  refine fx_next ?_
  refine fx_cond_t fr rfl ?_
  refine wp_seq ?_
  refine wp_region_lit ?_  -- region 2
  refine fx_call fr rfl rfl (by first | decide | simp) (x_call (vs := []) rfl rfl trivial Try.func11 nm11 rfl) (works_c _) ?_
  clear fr a
  rintro v w8 ⟨rfl, hN9⟩ a fr
  replace hV := hV.new hN9
  replace B4 := B4.new hN9
  replace hF := hF.trNew hN9
  refine fx_val (v := .bool true) fr rfl rfl (by first | decide | simp) (x_assign rfl (fr.ev rfl)) ?_
  clear fr a; intro a fr
  refine wpList_nil ?_
  refine fx_next ?_
  refine wp_ret ?_
  refine fx_rt ?_
  refine fx_ret fr [.tmp 8] [.bool true] rfl ⟨rfl, trivial⟩ rfl ?_
  exact ⟨_, rfl, rfl, hF⟩
set_option maxRecDepth 100000 in
set_option maxHeartbeats 4000000 in
theorem tells_yes {w : World} {P : Option Addr} {cp : Nat} {la : List LAct} (hV : View actE w P cp la) (qn qp : Int) (hqn : 0 ≤ qn ∧ qn < 4294967296) (n : Nat) (ways : Int) (hr : rightB ((n : Nat) : Int) ways = true) : Calls Try.prog 4 #[.int .i64 ((n : Nat) : Int), .int .i64 ways, .slice P la.length cp, .agg (#[.int .u32 qn, .int .i64 qp])] w (Ret fun v w' => v = .bool true ∧ New w w') := by
  have hVl := hV.len
  unfold maxLen at hVl
  have hrb := right_bd hr
  have hF := Only.refl (fun _ => False) w
  refine fx_enter Try.func4 rfl (N := (110, [])) (T := [(0, .int .i64 ((n : Nat) : Int)), (1, .int .i64 ways), (2, .slice P la.length cp), (3, .agg (#[.int .u32 qn, .int .i64 qp]))]) rfl (show 4 ≤ 110 by decide) ⟨rfl, rfl, rfl, rfl, trivial⟩ fun a fr => ?_
  refine wp_seq ?_
  refine wp_region_lit ?_  -- region 0
  refine fx_new fr rfl rfl (by first | decide | simp) (x_box (cs := #[.int .u32 qn, .int .i64 qp]) rfl (fr.ev rfl) rfl) ?_
  clear fr a
  intro b1 w2 hN3 B4 hb5 a fr
  have ap_P_b1 : Apart P b1 := hV.apart hb5
  have g_b1 := Nat.le_trans hF.size hb5
  replace hV := hV.new hN3
  replace hF := hF.trNew hN3
  refine fx_val (v := .bool false) fr rfl rfl (by first | decide | simp) (x_assign rfl rfl) ?_
  clear fr a; intro a fr
  refine wpList_nil ?_
  refine fx_next ?_
  refine wp_seq ?_
  refine wp_seq ?_
  refine wp_region_lit ?_  -- region 1
  refine fx_val (v := .int .i64 ((n : Nat) : Int)) fr rfl rfl (by first | decide | simp) (x_move rfl (fr.ev rfl)) ?_
  clear fr a; intro a fr
  refine fx_val (v := .int .i64 ways) fr rfl rfl (by first | decide | simp) (x_move rfl (fr.ev rfl)) ?_
  clear fr a; intro a fr
  refine fx_call fr rfl rfl (by first | decide | simp) (x_call (vs := [.int .i64 ((n : Nat) : Int), .int .i64 ways]) rfl rfl ⟨(fr.ev rfl), (fr.ev rfl), trivial⟩ Try.func10 nm10 rfl) (right_c ((n : Nat) : Int) ways _) ?_
  clear fr a
  rintro v w6 ⟨rfl, hN7⟩ a fr
  replace hV := hV.new hN7
  replace B4 := B4.new hN7
  replace hF := hF.trNew hN7
  rw [hr] at fr
  refine fx_val (v := .bool false) fr rfl rfl (by first | decide | simp) (x_not rfl (fr.ev rfl) rfl) ?_
  clear fr a; intro a fr
  refine fx_val (v := .bool false) fr rfl rfl (by first | decide | simp) (x_move rfl (fr.ev rfl)) ?_
  clear fr a; intro a fr
  refine fx_val (v := .slice P la.length cp) fr (fr.want rfl rfl rfl) rfl (by first | decide | simp) (x_move rfl (fr.ev rfl)) ?_
  clear fr a; intro a fr
  refine fx_val (v := .int .i64 ((la.length : Nat) : Int)) fr (fr.want rfl rfl rfl) rfl (by first | decide | simp) (x_len Try.underlying22 rfl (fr.ev rfl)) ?_
  clear fr a; intro a fr
  refine fx_val (v := .bool (decide (100 < ((la.length : Nat) : Int)))) fr (fr.want rfl rfl rfl) rfl (by first | decide | simp) (x_gtr rfl (fr.ev rfl) rfl rfl) ?_
  clear fr a; intro a fr
  refine fx_val (v := .bool (decide (100 < ((la.length : Nat) : Int)))) fr rfl rfl (by first | decide | simp) (x_pick_f rfl (fr.ev rfl) (fr.ev rfl)) ?_
  clear fr a; intro a fr
  refine wpList_nil ?_
  refine fx_next ?_
  refine fx_cond fr rfl (fun hc8 => ?_) (fun hc8 => ?_)
  · skip
    have hc8 := of_decide_eq_true hc8
    refine wp_seq ?_
    refine wp_region_lit ?_  -- region 2
    refine fx_call fr rfl rfl (by first | decide | simp) (x_call (vs := []) rfl rfl trivial Try.func11 nm11 rfl) (works_c _) ?_
    clear fr a
    rintro v w9 ⟨rfl, hN10⟩ a fr
    replace hV := hV.new hN10
    replace B4 := B4.new hN10
    replace hF := hF.trNew hN10
    refine fx_val (v := .bool true) fr rfl rfl (by first | decide | simp) (x_assign rfl (fr.ev rfl)) ?_
    clear fr a; intro a fr
    refine wpList_nil ?_
    refine fx_next ?_
    refine wp_ret ?_
    refine fx_rt ?_
    refine fx_ret fr [.tmp 8] [.bool true] rfl ⟨rfl, trivial⟩ rfl ?_
    exact ⟨_, rfl, rfl, hF⟩
  · skip
    have hc8 := of_decide_eq_false hc8
    refine wp_skip ?_
    refine fx_next ?_
    refine wp_seq ?_
    refine wp_region_lit ?_  -- region 3
    refine fx_val (v := .int .i64 ((n : Nat) : Int)) fr rfl rfl (by first | decide | simp) (x_move rfl (fr.ev rfl)) ?_
    clear fr a; intro a fr
    refine fx_val (v := .int .i64 ways) fr rfl rfl (by first | decide | simp) (x_move rfl (fr.ev rfl)) ?_
    clear fr a; intro a fr
    refine fx_val (v := .slice P la.length cp) fr rfl rfl (by first | decide | simp) (x_move rfl (fr.ev rfl)) ?_
    clear fr a; intro a fr
    refine fx_call fr rfl rfl (by first | decide | simp) (x_call (vs := [.int .i64 ((n : Nat) : Int), .int .i64 ways, .slice P la.length cp]) rfl rfl ⟨(fr.ev rfl), (fr.ev rfl), (fr.ev rfl), trivial⟩ Try.func12 nm12 rfl) (played_c (hV) hr (by omega)) ?_
    clear fr a
    rintro v w22 ⟨b11, Fp12, L13, V14, vc15, rfl, H16, hW17, hl18, hf19, hV20, q21, hN23⟩ a fr
    have ap2_P_Fp12 : ∀ k, inA P k → Fp12 k → False := symP (new_apart2P hf19 fun _ hg => hV.lt hg)
    have ap_Fp12_b1 : ¬ Fp12 b1 := new_apartP hf19 B4.lt
    have gA_Fp12 := gA_newP hF hf19
    have ap2_P_V14 : Apart2 P V14 := (new_apart2 hV20 fun _ hg => hV.lt hg).symm
    have ap_V14_b1 : Apart V14 b1 := new_apart hV20 B4.lt
    have gA_V14 := gA_new hF hV20
    replace hV := hV.new hN23
    replace B4 := B4.new hN23
    replace hF := hF.trNew hN23
    have ap2_Fp12_V14 := q21
    obtain ⟨hq1, hq2, hq3, hq4⟩ := H16.bd
    refine fx_val (v := .tuple #[.pointer (some ⟨b11, 0, none⟩), .agg (#[.int .i64 ((n : Nat) : Int), .int .i64 ways, .slice V14 L13.length vc15]), .bool true]) fr rfl rfl (by first | decide | simp) (x_move rfl (fr.ev rfl)) ?_
    clear fr a; intro a fr
    refine fx_val (v := .pointer (some ⟨b11, 0, none⟩)) fr rfl rfl (by first | decide | simp) (x_extract rfl (fr.ev rfl) rfl) ?_
    clear fr a; intro a fr
    refine fx_val (v := .agg (#[.int .i64 ((n : Nat) : Int), .int .i64 ways, .slice V14 L13.length vc15])) fr rfl rfl (by first | decide | simp) (x_extract rfl (fr.ev rfl) rfl) ?_
    clear fr a; intro a fr
    refine fx_val (v := .bool true) fr rfl rfl (by first | decide | simp) (x_extract rfl (fr.ev rfl) rfl) ?_
    clear fr a; intro a fr
    refine fx_new fr rfl rfl (by first | decide | simp) (x_alloc (z := .agg (#[.int .i64 0, .int .i64 0, .slice none 0 0])) (cs := #[.int .i64 0, .int .i64 0, .slice none 0 0]) rfl (by kernel_rfl) rfl) ?_
    clear fr a
    intro b24 w25 hN26 B27 hb28 a fr
    have ap_P_b24 : Apart P b24 := hV.apart hb28
    have ne_b1_b24 : NE b1 b24 := NE.mk (Nat.lt_of_lt_of_le B4.lt hb28)
    have ap_Fp12_b24 : ¬ Fp12 b24 := H16.apart hb28
    have ap_V14_b24 : Apart V14 b24 := hW17.apart hb28
    have g_b24 := Nat.le_trans hF.size hb28
    replace hV := hV.new hN26
    replace B4 := B4.new hN26
    replace H16 := H16.new hN26
    replace hW17 := hW17.new hN26
    replace hF := hF.trNew hN26
    refine fx_val (v := .pointer (some ⟨b11, 0, none⟩)) fr rfl rfl (by first | decide | simp) (x_assign rfl (fr.ev rfl)) ?_
    clear fr a; intro a fr
    refine fx_storeS sz28 rfl rfl rfl (fr.ev rfl) (fr.ev rfl) (by simp [Value.oneCell']) B27 rfl rfl fun w29 hO30 hBq => ?_
    replace hV := hV.only hO30 (Apart.ne1 ap_P_b24)
    replace B4 := B4.only hO30 (by first | exact ne_b1_b24 | exact ne_b24_b1.symm | (show ¬ b1 = b24; omega))
    replace H16 := H16.only hO30 (ne1P ap_Fp12_b24)
    replace hW17 := hW17.only hO30 (Apart.ne1 ap_V14_b24)
    replace hF := hF.loc hO30 (.inr g_b24)
    replace B27 := hBq
    clear hBq
    refine fx_val (v := .bool true) fr rfl rfl (by first | decide | simp) (x_assign rfl (fr.ev rfl)) ?_
    clear fr a; intro a fr
    refine wpList_nil ?_
    refine fx_next ?_
    refine wp_seq ?_
    obtain ⟨hq1, hq2, hq3, hq4⟩ := hrb
    rcases fnd_spec L13 qn with ⟨hf, hno⟩ | ⟨i, hf, hi, hin, hall⟩
    · skip
      have hg : getN L13 qn = none := fnd_none ⟨hf, hno⟩
      refine wp_region_lit ?_  -- region 4
      refine fx_val (v := .pointer (some ⟨b11, 0, none⟩)) fr rfl rfl (by first | decide | simp) (x_move rfl (fr.ev rfl)) ?_
      clear fr a; intro a fr
      refine fx_val (v := .pointer (some ⟨b1, 0, none⟩)) fr rfl rfl (by first | decide | simp) (x_fieldAddr fo35_0 rfl (fr.ev rfl) rfl) ?_
      clear fr a; intro a fr
      refine fx_val (v := .int .u32 qn) fr rfl rfl (by first | decide | simp) (x_load1 pl33 rfl (fr.ev rfl) (B4.cell 0 rfl)) ?_
      clear fr a; intro a fr
      refine fx_call fr rfl rfl (by first | decide | simp) (x_call (vs := [.pointer (some ⟨b11, 0, none⟩), .int .u32 qn]) rfl rfl ⟨(fr.ev rfl), (fr.ev rfl), trivial⟩ Try.func14 nm14 rfl) (find_c qn (by omega) H16) ?_
      clear fr a
      rintro v w31 ⟨rfl, hN32⟩ a fr
      replace hV := hV.new hN32
      replace B4 := B4.new hN32
      replace H16 := H16.new hN32
      replace hW17 := hW17.new hN32
      replace B27 := B27.new hN32
      replace hF := hF.trNew hN32
      rw [show getN L13 qn = none from hg] at fr
      simp only [Option.getD_none, Option.isSome_none] at fr
      refine fx_val (v := .tuple #[.agg (lnE.arr ln0), .bool false]) fr rfl rfl (by first | decide | simp) (x_move rfl (fr.ev rfl)) ?_
      clear fr a; intro a fr
      refine fx_val (v := .agg (lnE.arr ln0)) fr rfl rfl (by first | decide | simp) (x_extract rfl (fr.ev rfl) rfl) ?_
      clear fr a; intro a fr
      refine fx_val (v := .bool false) fr rfl rfl (by first | decide | simp) (x_extract rfl (fr.ev rfl) rfl) ?_
      clear fr a; intro a fr
      refine fx_new fr rfl rfl (by first | decide | simp) (x_alloc (z := .agg (#[.int .u32 0, .int .i64 0, .int .u8 0, .int .u8 0, .int .u8 0, .int .u8 0, .int .u8 0, .int .u8 0, .int .u8 0, .int .u8 0, .int .u8 0, .int .u8 0, .int .u8 0, .int .u8 0, .int .u8 0, .int .u8 0, .int .u8 0, .int .u8 0])) (cs := lnE.arr ln0) rfl (by kernel_rfl) rfl) ?_
      clear fr a
      intro b33 w34 hN35 B36 hb37 a fr
      have ap_P_b33 : Apart P b33 := hV.apart hb37
      have ne_b1_b33 : NE b1 b33 := NE.mk (Nat.lt_of_lt_of_le B4.lt hb37)
      have ap_Fp12_b33 : ¬ Fp12 b33 := H16.apart hb37
      have ap_V14_b33 : Apart V14 b33 := hW17.apart hb37
      have ne_b24_b33 : NE b24 b33 := NE.mk (Nat.lt_of_lt_of_le B27.lt hb37)
      have g_b33 := Nat.le_trans hF.size hb37
      replace hV := hV.new hN35
      replace B4 := B4.new hN35
      replace H16 := H16.new hN35
      replace hW17 := hW17.new hN35
      replace B27 := B27.new hN35
      replace hF := hF.trNew hN35
      refine fx_storeS sz39 rfl rfl rfl (fr.ev rfl) (fr.ev rfl) (lnE.all _) B36 (lnE.size _) (lnE.size _) fun w38 hO39 hBq => ?_
      replace hV := hV.only hO39 (Apart.ne1 ap_P_b33)
      replace B4 := B4.only hO39 (by first | exact ne_b1_b33 | exact ne_b33_b1.symm | (show ¬ b1 = b33; omega))
      replace H16 := H16.only hO39 (ne1P ap_Fp12_b33)
      replace hW17 := hW17.only hO39 (Apart.ne1 ap_V14_b33)
      replace B27 := B27.only hO39 (by first | exact ne_b24_b33 | exact ne_b33_b24.symm | (show ¬ b24 = b33; omega))
      replace hF := hF.loc hO39 (.inr g_b33)
      replace B36 := hBq
      clear hBq
      refine fx_val (v := .bool false) fr rfl rfl (by first | decide | simp) (x_assign rfl (fr.ev rfl)) ?_
      clear fr a; intro a fr
      refine wpList_nil ?_
      refine fx_next ?_
      refine wp_seq ?_
      refine wp_region_lit ?_  -- region 5
      refine fx_val (v := .pointer (some ⟨b11, 0, none⟩)) fr rfl rfl (by first | decide | simp) (x_move rfl (fr.ev rfl)) ?_
      clear fr a; intro a fr
      refine fx_val (v := .pointer (some ⟨b1, 0, none⟩)) fr rfl rfl (by first | decide | simp) (x_fieldAddr fo35_0 rfl (fr.ev rfl) rfl) ?_
      clear fr a; intro a fr
      refine fx_val (v := .int .u32 qn) fr rfl rfl (by first | decide | simp) (x_load1 pl33 rfl (fr.ev rfl) (B4.cell 0 rfl)) ?_
      clear fr a; intro a fr
      refine fx_val (v := .pointer (some ⟨b1, 1, none⟩)) fr rfl rfl (by first | decide | simp) (x_fieldAddr fo35_1 rfl (fr.ev rfl) rfl) ?_
      clear fr a; intro a fr
      refine fx_val (v := .int .i64 qp) fr rfl rfl (by first | decide | simp) (x_load1 pl3 rfl (fr.ev rfl) (B4.cell 1 rfl)) ?_
      clear fr a; intro a fr
      refine fx_call fr rfl rfl (by first | decide | simp) (x_call (vs := [.pointer (some ⟨b11, 0, none⟩), .int .u32 qn, .int .i64 qp]) rfl rfl ⟨(fr.ev rfl), (fr.ev rfl), (fr.ev rfl), trivial⟩ Try.func15 nm15 rfl) (victim_c qn (by omega) qp H16) ?_
      clear fr a
      rintro v w40 ⟨rfl, hN41⟩ a fr
      replace hV := hV.new hN41
      replace B4 := B4.new hN41
      replace H16 := H16.new hN41
      replace hW17 := hW17.new hN41
      replace B27 := B27.new hN41
      replace B36 := B36.new hN41
      replace hF := hF.trNew hN41
      refine fx_val (v := .tuple #[.agg (lnE.arr ((vicL n ways L13 qn qp).getD ln0)), .bool ((vicL n ways L13 qn qp).isSome)]) fr rfl rfl (by first | decide | simp) (x_move rfl (fr.ev rfl)) ?_
      clear fr a; intro a fr
      refine fx_val (v := .agg (lnE.arr ((vicL n ways L13 qn qp).getD ln0))) fr rfl rfl (by first | decide | simp) (x_extract rfl (fr.ev rfl) rfl) ?_
      clear fr a; intro a fr
      refine fx_val (v := .bool ((vicL n ways L13 qn qp).isSome)) fr rfl rfl (by first | decide | simp) (x_extract rfl (fr.ev rfl) rfl) ?_
      clear fr a; intro a fr
      refine fx_new fr rfl rfl (by first | decide | simp) (x_alloc (z := .agg (#[.int .u32 0, .int .i64 0, .int .u8 0, .int .u8 0, .int .u8 0, .int .u8 0, .int .u8 0, .int .u8 0, .int .u8 0, .int .u8 0, .int .u8 0, .int .u8 0, .int .u8 0, .int .u8 0, .int .u8 0, .int .u8 0, .int .u8 0, .int .u8 0])) (cs := lnE.arr ln0) rfl (by kernel_rfl) rfl) ?_
      clear fr a
      intro b42 w43 hN44 B45 hb46 a fr
      have ap_P_b42 : Apart P b42 := hV.apart hb46
      have ne_b1_b42 : NE b1 b42 := NE.mk (Nat.lt_of_lt_of_le B4.lt hb46)
      have ap_Fp12_b42 : ¬ Fp12 b42 := H16.apart hb46
      have ap_V14_b42 : Apart V14 b42 := hW17.apart hb46
      have ne_b24_b42 : NE b24 b42 := NE.mk (Nat.lt_of_lt_of_le B27.lt hb46)
      have ne_b33_b42 : NE b33 b42 := NE.mk (Nat.lt_of_lt_of_le B36.lt hb46)
      have g_b42 := Nat.le_trans hF.size hb46
      replace hV := hV.new hN44
      replace B4 := B4.new hN44
      replace H16 := H16.new hN44
      replace hW17 := hW17.new hN44
      replace B27 := B27.new hN44
      replace B36 := B36.new hN44
      replace hF := hF.trNew hN44
      refine fx_storeS sz39 rfl rfl rfl (fr.ev rfl) (fr.ev rfl) (lnE.all _) B45 (lnE.size _) (lnE.size _) fun w47 hO48 hBq => ?_
      replace hV := hV.only hO48 (Apart.ne1 ap_P_b42)
      replace B4 := B4.only hO48 (by first | exact ne_b1_b42 | exact ne_b42_b1.symm | (show ¬ b1 = b42; omega))
      replace H16 := H16.only hO48 (ne1P ap_Fp12_b42)
      replace hW17 := hW17.only hO48 (Apart.ne1 ap_V14_b42)
      replace B27 := B27.only hO48 (by first | exact ne_b24_b42 | exact ne_b42_b24.symm | (show ¬ b24 = b42; omega))
      replace B36 := B36.only hO48 (by first | exact ne_b33_b42 | exact ne_b42_b33.symm | (show ¬ b33 = b42; omega))
      replace hF := hF.loc hO48 (.inr g_b42)
      replace B45 := hBq
      clear hBq
      refine fx_val (v := .bool ((vicL n ways L13 qn qp).isSome)) fr rfl rfl (by first | decide | simp) (x_assign rfl (fr.ev rfl)) ?_
      clear fr a; intro a fr
      refine wpList_nil ?_
      refine fx_next ?_
      refine wp_seq ?_
      refine wp_region_lit ?_  -- region 6
      refine fx_val (v := .agg (#[.int .i64 ((n : Nat) : Int), .int .i64 ways, .slice V14 L13.length vc15])) fr rfl rfl (by first | decide | simp) (x_loadS ag28 rfl (fr.ev rfl) rfl B27.range) ?_
      clear fr a; intro a fr
      refine fx_val (v := .pointer (some ⟨b1, 0, none⟩)) fr rfl rfl (by first | decide | simp) (x_fieldAddr fo35_0 rfl (fr.ev rfl) rfl) ?_
      clear fr a; intro a fr
      refine fx_val (v := .int .u32 qn) fr rfl rfl (by first | decide | simp) (x_load1 pl33 rfl (fr.ev rfl) (B4.cell 0 rfl)) ?_
      clear fr a; intro a fr
      refine fx_val (v := .pointer (some ⟨b1, 1, none⟩)) fr rfl rfl (by first | decide | simp) (x_fieldAddr fo35_1 rfl (fr.ev rfl) rfl) ?_
      clear fr a; intro a fr
      refine fx_val (v := .int .i64 qp) fr rfl rfl (by first | decide | simp) (x_load1 pl3 rfl (fr.ev rfl) (B4.cell 1 rfl)) ?_
      clear fr a; intro a fr
      refine fx_call fr rfl rfl (by first | decide | simp) (x_call (vs := [.agg (#[.int .i64 ((n : Nat) : Int), .int .i64 ways, .slice V14 L13.length vc15]), .int .u32 qn, .int .i64 qp]) rfl rfl ⟨(fr.ev rfl), (fr.ev rfl), (fr.ev rfl), trivial⟩ Try.func16 nm16 rfl) (rvictim_c qn (by omega) qp (n := n) (ways := ways) (L := L13) (hW17) (by first | omega | decide) (by omega) (by first | omega | decide)) ?_
      clear fr a
      rintro v w49 ⟨rfl, hN50⟩ a fr
      replace hV := hV.new hN50
      replace B4 := B4.new hN50
      replace H16 := H16.new hN50
      replace hW17 := hW17.new hN50
      replace B27 := B27.new hN50
      replace B36 := B36.new hN50
      replace B45 := B45.new hN50
      replace hF := hF.trNew hN50
      refine fx_val (v := .tuple #[.agg (lnE.arr ((vicL n ways L13 qn qp).getD ln0)), .bool ((vicL n ways L13 qn qp).isSome)]) fr rfl rfl (by first | decide | simp) (x_move rfl (fr.ev rfl)) ?_
      clear fr a; intro a fr
      refine fx_val (v := .agg (lnE.arr ((vicL n ways L13 qn qp).getD ln0))) fr rfl rfl (by first | decide | simp) (x_extract rfl (fr.ev rfl) rfl) ?_
      clear fr a; intro a fr
      refine fx_val (v := .bool ((vicL n ways L13 qn qp).isSome)) fr rfl rfl (by first | decide | simp) (x_extract rfl (fr.ev rfl) rfl) ?_
      clear fr a; intro a fr
      refine fx_new fr rfl rfl (by first | decide | simp) (x_alloc (z := .agg (#[.int .u32 0, .int .i64 0, .int .u8 0, .int .u8 0, .int .u8 0, .int .u8 0, .int .u8 0, .int .u8 0, .int .u8 0, .int .u8 0, .int .u8 0, .int .u8 0, .int .u8 0, .int .u8 0, .int .u8 0, .int .u8 0, .int .u8 0, .int .u8 0])) (cs := lnE.arr ln0) rfl (by kernel_rfl) rfl) ?_
      clear fr a
      intro b51 w52 hN53 B54 hb55 a fr
      have ap_P_b51 : Apart P b51 := hV.apart hb55
      have ne_b1_b51 : NE b1 b51 := NE.mk (Nat.lt_of_lt_of_le B4.lt hb55)
      have ap_Fp12_b51 : ¬ Fp12 b51 := H16.apart hb55
      have ap_V14_b51 : Apart V14 b51 := hW17.apart hb55
      have ne_b24_b51 : NE b24 b51 := NE.mk (Nat.lt_of_lt_of_le B27.lt hb55)
      have ne_b33_b51 : NE b33 b51 := NE.mk (Nat.lt_of_lt_of_le B36.lt hb55)
      have ne_b42_b51 : NE b42 b51 := NE.mk (Nat.lt_of_lt_of_le B45.lt hb55)
      have g_b51 := Nat.le_trans hF.size hb55
      replace hV := hV.new hN53
      replace B4 := B4.new hN53
      replace H16 := H16.new hN53
      replace hW17 := hW17.new hN53
      replace B27 := B27.new hN53
      replace B36 := B36.new hN53
      replace B45 := B45.new hN53
      replace hF := hF.trNew hN53
      refine fx_storeS sz39 rfl rfl rfl (fr.ev rfl) (fr.ev rfl) (lnE.all _) B54 (lnE.size _) (lnE.size _) fun w56 hO57 hBq => ?_
      replace hV := hV.only hO57 (Apart.ne1 ap_P_b51)
      replace B4 := B4.only hO57 (by first | exact ne_b1_b51 | exact ne_b51_b1.symm | (show ¬ b1 = b51; omega))
      replace H16 := H16.only hO57 (ne1P ap_Fp12_b51)
      replace hW17 := hW17.only hO57 (Apart.ne1 ap_V14_b51)
      replace B27 := B27.only hO57 (by first | exact ne_b24_b51 | exact ne_b51_b24.symm | (show ¬ b24 = b51; omega))
      replace B36 := B36.only hO57 (by first | exact ne_b33_b51 | exact ne_b51_b33.symm | (show ¬ b33 = b51; omega))
      replace B45 := B45.only hO57 (by first | exact ne_b42_b51 | exact ne_b51_b42.symm | (show ¬ b42 = b51; omega))
      replace hF := hF.loc hO57 (.inr g_b51)
      replace B54 := hBq
      clear hBq
      refine fx_val (v := .bool ((vicL n ways L13 qn qp).isSome)) fr rfl rfl (by first | decide | simp) (x_assign rfl (fr.ev rfl)) ?_
      clear fr a; intro a fr
      refine wpList_nil ?_
      refine fx_next ?_
      refine wp_seq ?_
      refine wp_region_lit ?_  -- region 7
      refine fx_val (v := .agg (#[.int .i64 ((n : Nat) : Int), .int .i64 ways, .slice V14 L13.length vc15])) fr rfl rfl (by first | decide | simp) (x_loadS ag28 rfl (fr.ev rfl) rfl B27.range) ?_
      clear fr a; intro a fr
      refine fx_val (v := .pointer (some ⟨b1, 0, none⟩)) fr rfl rfl (by first | decide | simp) (x_fieldAddr fo35_0 rfl (fr.ev rfl) rfl) ?_
      clear fr a; intro a fr
      refine fx_val (v := .int .u32 qn) fr rfl rfl (by first | decide | simp) (x_load1 pl33 rfl (fr.ev rfl) (B4.cell 0 rfl)) ?_
      clear fr a; intro a fr
      refine fx_call fr rfl rfl (by first | decide | simp) (x_call (vs := [.agg (#[.int .i64 ((n : Nat) : Int), .int .i64 ways, .slice V14 L13.length vc15]), .int .u32 qn]) rfl rfl ⟨(fr.ev rfl), (fr.ev rfl), trivial⟩ Try.func17 nm17 rfl) (rfind_c qn (n := n) (ways := ways) (L := L13) (hW17) (by first | omega | decide)) ?_
      clear fr a
      rintro v w58 ⟨rfl, hN59⟩ a fr
      replace hV := hV.new hN59
      replace B4 := B4.new hN59
      replace H16 := H16.new hN59
      replace hW17 := hW17.new hN59
      replace B27 := B27.new hN59
      replace B36 := B36.new hN59
      replace B45 := B45.new hN59
      replace B54 := B54.new hN59
      replace hF := hF.trNew hN59
      rw [hf] at fr
      refine fx_val (v := .int .i64 (-1)) fr rfl rfl (by first | decide | simp) (x_assign rfl (fr.ev rfl)) ?_
      clear fr a; intro a fr
      refine wpList_nil ?_
      refine fx_next ?_
      refine wp_seq ?_
      refine wp_seq ?_
      refine fx_held (n := 25) (fun w => View actE w P cp la ∧ Blk w b1 35 (#[.int .u32 qn, .int .i64 qp]) ∧ LinesAt w Fp12 b11 n ways L13 ∧ View lnE w V14 vc15 L13 ∧ Blk w b24 28 (#[.int .i64 ((n : Nat) : Int), .int .i64 ways, .slice V14 L13.length vc15]) ∧ Blk w b33 39 (lnE.arr ln0) ∧ Blk w b42 39 (lnE.arr ((vicL n ways L13 qn qp).getD ln0)) ∧ Blk w b51 39 (lnE.arr ((vicL n ways L13 qn qp).getD ln0)) ∧ True) (by kernel_rfl) rfl ?_  -- region 8
      intro w60 hN61
      replace hV := hV.new hN61
      replace B4 := B4.new hN61
      replace H16 := H16.new hN61
      replace hW17 := hW17.new hN61
      replace B27 := B27.new hN61
      replace B36 := B36.new hN61
      replace B45 := B45.new hN61
      replace B54 := B54.new hN61
      replace hF := hF.trNew hN61
      refine fx_take (i := 0) (v := .bool false) fr rfl (by kernel_rfl) rfl rfl (by first | decide | simp) (fun _ _ _ h => h) (fun _ ⟨hV, B4, H16, hW17, B27, B36, B45, B54, _⟩ => x_move rfl (fr.ev rfl)) ⟨hV, B4, H16, hW17, B27, B36, B45, B54, trivial⟩ ?_
      clear fr a; intro a fr
      refine fx_take (i := 1) (v := .int .i64 (-1)) fr rfl (by kernel_rfl) rfl rfl (by first | decide | simp) (fun _ _ _ h => h) (fun _ ⟨hV, B4, H16, hW17, B27, B36, B45, B54, _⟩ => x_move rfl (fr.ev rfl)) ⟨hV, B4, H16, hW17, B27, B36, B45, B54, trivial⟩ ?_
      clear fr a; intro a fr
      refine fx_take (i := 2) (v := .bool false) fr rfl (by kernel_rfl) rfl rfl (by first | decide | simp) (fun _ _ _ h => h) (fun _ ⟨hV, B4, H16, hW17, B27, B36, B45, B54, _⟩ => x_geq rfl (fr.ev rfl) rfl rfl) ⟨hV, B4, H16, hW17, B27, B36, B45, B54, trivial⟩ ?_
      clear fr a; intro a fr
      refine fx_take (i := 3) (v := .bool false) fr rfl (by kernel_rfl) rfl rfl (by first | decide | simp) (fun _ _ _ h => h) (fun _ ⟨hV, B4, H16, hW17, B27, B36, B45, B54, _⟩ => x_bneq Try.underlying4 rfl (fr.ev rfl) (fr.ev rfl) rfl) ⟨hV, B4, H16, hW17, B27, B36, B45, B54, trivial⟩ ?_
      clear fr a; intro a fr
      refine fx_take (i := 4) (v := .bool false) fr rfl (by kernel_rfl) rfl rfl (by first | decide | simp) (fun _ _ _ h => h) (fun _ ⟨hV, B4, H16, hW17, B27, B36, B45, B54, _⟩ => x_move rfl (fr.ev rfl)) ⟨hV, B4, H16, hW17, B27, B36, B45, B54, trivial⟩ ?_
      clear fr a; intro a fr
      refine fx_take (i := 5) (v := .bool false) fr rfl (by kernel_rfl) (fr.want rfl rfl rfl) rfl (by first | decide | simp) (fun _ _ _ h => h) (fun _ ⟨hV, B4, H16, hW17, B27, B36, B45, B54, _⟩ => x_move rfl (fr.ev rfl)) ⟨hV, B4, H16, hW17, B27, B36, B45, B54, trivial⟩ ?_
      clear fr a; intro a fr
      refine fx_take (i := 6) (v := .bool false) fr rfl (by kernel_rfl) (fr.want rfl rfl rfl) rfl (by first | decide | simp) (fun _ _ _ h => h) (fun _ ⟨hV, B4, H16, hW17, B27, B36, B45, B54, _⟩ => x_move rfl (fr.ev rfl)) ⟨hV, B4, H16, hW17, B27, B36, B45, B54, trivial⟩ ?_
      clear fr a; intro a fr
      refine fx_takeskip (i := 7) fr rfl (by kernel_rfl) (fr.unwant rfl rfl rfl (by decide)) rfl (by first | decide | simp) (fun _ _ _ h => h) ⟨hV, B4, H16, hW17, B27, B36, B45, B54, trivial⟩ ?_
      clear fr a; intro a fr
      refine fx_takeskip (i := 8) fr rfl (by kernel_rfl) (fr.unwant rfl rfl rfl (by decide)) rfl (by first | decide | simp) (fun _ _ _ h => h) ⟨hV, B4, H16, hW17, B27, B36, B45, B54, trivial⟩ ?_
      clear fr a; intro a fr
      refine fx_takeskip (i := 9) fr rfl (by kernel_rfl) (fr.unwant rfl rfl rfl (by decide)) rfl (by first | decide | simp) (fun _ _ _ h => h) ⟨hV, B4, H16, hW17, B27, B36, B45, B54, trivial⟩ ?_
      clear fr a; intro a fr
      refine fx_takeskip (i := 10) fr rfl (by kernel_rfl) (fr.unwant rfl rfl rfl (by decide)) rfl (by first | decide | simp) (fun _ _ _ h => h) ⟨hV, B4, H16, hW17, B27, B36, B45, B54, trivial⟩ ?_
      clear fr a; intro a fr
      refine fx_takeskip (i := 11) fr rfl (by kernel_rfl) (fr.unwant rfl rfl rfl (by decide)) rfl (by first | decide | simp) (fun _ _ _ h => h) ⟨hV, B4, H16, hW17, B27, B36, B45, B54, trivial⟩ ?_
      clear fr a; intro a fr
      refine fx_takeskip (i := 12) fr rfl (by kernel_rfl) (fr.unwant rfl rfl rfl (by decide)) rfl (by first | decide | simp) (fun _ _ _ h => h) ⟨hV, B4, H16, hW17, B27, B36, B45, B54, trivial⟩ ?_
      clear fr a; intro a fr
      refine fx_takeskip (i := 13) fr rfl (by kernel_rfl) (fr.unwant rfl rfl rfl (by decide)) rfl (by first | decide | simp) (fun _ _ _ h => h) ⟨hV, B4, H16, hW17, B27, B36, B45, B54, trivial⟩ ?_
      clear fr a; intro a fr
      refine fx_take (i := 14) (v := .bool false) fr rfl (by kernel_rfl) (fr.want rfl rfl rfl) rfl (by first | decide | simp) (fun _ _ _ h => h) (fun _ ⟨hV, B4, H16, hW17, B27, B36, B45, B54, _⟩ => x_pick_f rfl (fr.ev rfl) rfl) ⟨hV, B4, H16, hW17, B27, B36, B45, B54, trivial⟩ ?_
      clear fr a; intro a fr
      refine fx_take (i := 15) (v := .bool false) fr rfl (by kernel_rfl) rfl rfl (by first | decide | simp) (fun _ _ _ h => h) (fun _ ⟨hV, B4, H16, hW17, B27, B36, B45, B54, _⟩ => x_pick_f rfl (fr.ev rfl) (fr.ev rfl)) ⟨hV, B4, H16, hW17, B27, B36, B45, B54, trivial⟩ ?_
      clear fr a; intro a fr
      refine fx_take (i := 16) (v := .bool false) fr rfl (by kernel_rfl) rfl rfl (by first | decide | simp) (fun _ _ _ h => h) (fun _ ⟨hV, B4, H16, hW17, B27, B36, B45, B54, _⟩ => x_move rfl (fr.ev rfl)) ⟨hV, B4, H16, hW17, B27, B36, B45, B54, trivial⟩ ?_
      clear fr a; intro a fr
      refine fx_take (i := 17) (v := .bool false) fr rfl (by kernel_rfl) (fr.want rfl rfl rfl) rfl (by first | decide | simp) (fun _ _ _ h => h) (fun _ ⟨hV, B4, H16, hW17, B27, B36, B45, B54, _⟩ => x_move rfl (fr.ev rfl)) ⟨hV, B4, H16, hW17, B27, B36, B45, B54, trivial⟩ ?_
      clear fr a; intro a fr
      refine fx_take (i := 18) (v := .bool true) fr rfl (by kernel_rfl) (fr.want rfl rfl rfl) rfl (by first | decide | simp) (fun _ _ _ h => h) (fun _ ⟨hV, B4, H16, hW17, B27, B36, B45, B54, _⟩ => x_not rfl (fr.ev rfl) rfl) ⟨hV, B4, H16, hW17, B27, B36, B45, B54, trivial⟩ ?_
      clear fr a; intro a fr
      refine fx_take (i := 19) (v := .bool true) fr rfl (by kernel_rfl) (fr.want rfl rfl rfl) rfl (by first | decide | simp) (fun _ _ _ h => h) (fun _ ⟨hV, B4, H16, hW17, B27, B36, B45, B54, _⟩ => x_move rfl (fr.ev rfl)) ⟨hV, B4, H16, hW17, B27, B36, B45, B54, trivial⟩ ?_
      clear fr a; intro a fr
      refine fx_take (i := 20) (v := .agg (lnE.arr ln0)) fr rfl (by kernel_rfl) (fr.want rfl rfl rfl) rfl (by first | decide | simp) (fun _ _ _ h => h) (fun _ ⟨hV, B4, H16, hW17, B27, B36, B45, B54, _⟩ => x_loadE (E := lnE) ag39 rfl rfl (fr.ev rfl) (B36.rangeE lnE)) ⟨hV, B4, H16, hW17, B27, B36, B45, B54, trivial⟩ ?_
      clear fr a; intro a fr
      refine fx_take (i := 21) (v := .agg (lnE.arr ln0)) fr rfl (by kernel_rfl) (fr.want rfl rfl rfl) rfl (by first | decide | simp) (fun _ _ _ h => h) (fun _ ⟨hV, B4, H16, hW17, B27, B36, B45, B54, _⟩ => x_build (cells := lnE.arr ln0) rfl (by kernel_rfl)) ⟨hV, B4, H16, hW17, B27, B36, B45, B54, trivial⟩ ?_
      clear fr a; intro a fr
      refine fx_take (i := 22) (v := .bool false) fr rfl (by kernel_rfl) (fr.want rfl rfl rfl) rfl (by first | decide | simp) (fun _ _ _ h => h) (fun _ ⟨hV, B4, H16, hW17, B27, B36, B45, B54, _⟩ => x_neE lnER rfl rfl (fr.ev rfl) (fr.ev rfl) (by simp)) ⟨hV, B4, H16, hW17, B27, B36, B45, B54, trivial⟩ ?_
      clear fr a; intro a fr
      refine fx_take (i := 23) (v := .bool false) fr rfl (by kernel_rfl) (fr.want rfl rfl rfl) rfl (by first | decide | simp) (fun _ _ _ h => h) (fun _ ⟨hV, B4, H16, hW17, B27, B36, B45, B54, _⟩ => x_pick_t rfl (fr.ev rfl) (fr.ev rfl)) ⟨hV, B4, H16, hW17, B27, B36, B45, B54, trivial⟩ ?_
      clear fr a; intro a fr
      refine fx_take (i := 24) (v := .bool false) fr rfl (by kernel_rfl) rfl rfl (by first | decide | simp) (fun _ _ _ h => h) (fun _ ⟨hV, B4, H16, hW17, B27, B36, B45, B54, _⟩ => x_pick_f rfl (fr.ev rfl) (fr.ev rfl)) ⟨hV, B4, H16, hW17, B27, B36, B45, B54, trivial⟩ ?_
      clear fr a; intro a fr
      refine fx_hdone (by kernel_rfl) ?_
      refine fx_next ?_
      refine fx_cond_f fr rfl ?_
      refine wp_skip ?_
      refine fx_next ?_
      refine wp_seq ?_
      refine wp_region_lit ?_  -- region 10
      refine fx_val (v := .bool true) fr rfl rfl (by first | decide | simp) (x_move rfl (fr.ev rfl)) ?_
      clear fr a; intro a fr
      refine fx_val (v := .bool true) fr rfl rfl (by first | decide | simp) (x_move rfl (fr.ev rfl)) ?_
      clear fr a; intro a fr
      refine fx_val (v := .agg (lnE.arr ((vicL n ways L13 qn qp).getD ln0))) fr (fr.want rfl rfl rfl) rfl (by first | decide | simp) (x_loadE (E := lnE) ag39 rfl rfl (fr.ev rfl) (B45.rangeE lnE)) ?_
      clear fr a; intro a fr
      refine fx_val (v := .agg (lnE.arr ((vicL n ways L13 qn qp).getD ln0))) fr (fr.want rfl rfl rfl) rfl (by first | decide | simp) (x_loadE (E := lnE) ag39 rfl rfl (fr.ev rfl) (B54.rangeE lnE)) ?_
      clear fr a; intro a fr
      refine fx_val (v := .bool true) fr (fr.want rfl rfl rfl) rfl (by first | decide | simp) (x_eqE lnER rfl rfl (fr.ev rfl) (fr.ev rfl) (by simp)) ?_
      clear fr a; intro a fr
      refine fx_val (v := .bool true) fr rfl rfl (by first | decide | simp) (x_pick_t rfl (fr.ev rfl) (fr.ev rfl)) ?_
      clear fr a; intro a fr
      refine fx_val (v := .bool true) fr rfl rfl (by first | decide | simp) (x_move rfl (fr.ev rfl)) ?_
      clear fr a; intro a fr
      refine fx_val (v := .bool ((vicL n ways L13 qn qp).isSome)) fr (fr.want rfl rfl rfl) rfl (by first | decide | simp) (x_move rfl (fr.ev rfl)) ?_
      clear fr a; intro a fr
      refine fx_val (v := .bool ((vicL n ways L13 qn qp).isSome)) fr (fr.want rfl rfl rfl) rfl (by first | decide | simp) (x_move rfl (fr.ev rfl)) ?_
      clear fr a; intro a fr
      refine fx_val (v := .bool true) fr (fr.want rfl rfl rfl) rfl (by first | decide | simp) (x_beql Try.underlying4 rfl (fr.ev rfl) (fr.ev rfl) (by simp)) ?_
      clear fr a; intro a fr
      refine fx_val (v := .bool true) fr rfl rfl (by first | decide | simp) (x_pick_t rfl (fr.ev rfl) (fr.ev rfl)) ?_
      clear fr a; intro a fr
      refine fx_val (v := .bool true) fr rfl rfl (by first | decide | simp) (x_move rfl (fr.ev rfl)) ?_
      clear fr a; intro a fr
      refine fx_val (v := .pointer (some ⟨b11, 0, none⟩)) fr (fr.want rfl rfl rfl) rfl (by first | decide | simp) (x_move rfl (fr.ev rfl)) ?_
      clear fr a; intro a fr
      refine fx_val (v := .agg (#[.int .i64 ((n : Nat) : Int), .int .i64 ways, .slice V14 L13.length vc15])) fr (fr.want rfl rfl rfl) rfl (by first | decide | simp) (x_loadS ag28 rfl (fr.ev rfl) rfl B27.range) ?_
      clear fr a; intro a fr
      refine fx_call fr (fr.want rfl rfl rfl) rfl (by first | decide | simp) (x_call (vs := [.pointer (some ⟨b11, 0, none⟩), .agg (#[.int .i64 ((n : Nat) : Int), .int .i64 ways, .slice V14 L13.length vc15])]) rfl rfl ⟨(fr.ev rfl), (fr.ev rfl), trivial⟩ Try.func13 nm13 rfl) (is_c H16 (hW17) (by omega)) ?_
      clear fr a
      rintro v w62 ⟨rfl, hN63⟩ a fr
      replace hV := hV.new hN63
      replace B4 := B4.new hN63
      replace H16 := H16.new hN63
      replace hW17 := hW17.new hN63
      replace B27 := B27.new hN63
      replace B36 := B36.new hN63
      replace B45 := B45.new hN63
      replace B54 := B54.new hN63
      replace hF := hF.trNew hN63
      refine fx_val (v := .bool true) fr rfl rfl (by first | decide | simp) (x_pick_t rfl (fr.ev rfl) (fr.ev rfl)) ?_
      clear fr a; intro a fr
      refine fx_val (v := .bool true) fr rfl rfl (by first | decide | simp) (x_move rfl (fr.ev rfl)) ?_
      clear fr a; intro a fr
      refine fx_call fr (fr.want rfl rfl rfl) rfl (by first | decide | simp) (x_call (vs := []) rfl rfl trivial Try.func11 nm11 rfl) (works_c _) ?_
      clear fr a
      rintro v w64 ⟨rfl, hN65⟩ a fr
      replace hV := hV.new hN65
      replace B4 := B4.new hN65
      replace H16 := H16.new hN65
      replace hW17 := hW17.new hN65
      replace B27 := B27.new hN65
      replace B36 := B36.new hN65
      replace B45 := B45.new hN65
      replace B54 := B54.new hN65
      replace hF := hF.trNew hN65
      refine fx_val (v := .bool true) fr rfl rfl (by first | decide | simp) (x_pick_t rfl (fr.ev rfl) (fr.ev rfl)) ?_
      clear fr a; intro a fr
      refine fx_val (v := .bool true) fr rfl rfl (by first | decide | simp) (x_assign rfl (fr.ev rfl)) ?_
      clear fr a; intro a fr
      refine wpList_nil ?_
      refine fx_next ?_
      refine wp_ret ?_
      refine fx_ret fr [.tmp 8] [.bool true] rfl ⟨rfl, trivial⟩ rfl ?_
      exact ⟨_, rfl, rfl, hF⟩
    · skip
      have hg : getN L13 qn = some (L13.getD i ln0) := get_at hi hin hall
      have hi1 : 0 ≤ ((i : Nat) : Int) := by omega
      refine wp_region_lit ?_  -- region 4
      refine fx_val (v := .pointer (some ⟨b11, 0, none⟩)) fr rfl rfl (by first | decide | simp) (x_move rfl (fr.ev rfl)) ?_
      clear fr a; intro a fr
      refine fx_val (v := .pointer (some ⟨b1, 0, none⟩)) fr rfl rfl (by first | decide | simp) (x_fieldAddr fo35_0 rfl (fr.ev rfl) rfl) ?_
      clear fr a; intro a fr
      refine fx_val (v := .int .u32 qn) fr rfl rfl (by first | decide | simp) (x_load1 pl33 rfl (fr.ev rfl) (B4.cell 0 rfl)) ?_
      clear fr a; intro a fr
      refine fx_call fr rfl rfl (by first | decide | simp) (x_call (vs := [.pointer (some ⟨b11, 0, none⟩), .int .u32 qn]) rfl rfl ⟨(fr.ev rfl), (fr.ev rfl), trivial⟩ Try.func14 nm14 rfl) (find_c qn (by omega) H16) ?_
      clear fr a
      rintro v w66 ⟨rfl, hN67⟩ a fr
      replace hV := hV.new hN67
      replace B4 := B4.new hN67
      replace H16 := H16.new hN67
      replace hW17 := hW17.new hN67
      replace B27 := B27.new hN67
      replace hF := hF.trNew hN67
      rw [show getN L13 qn = some (L13.getD i ln0) from hg] at fr
      simp only [Option.getD_some, Option.isSome_some] at fr
      refine fx_val (v := .tuple #[.agg (lnE.arr (L13.getD i ln0)), .bool true]) fr rfl rfl (by first | decide | simp) (x_move rfl (fr.ev rfl)) ?_
      clear fr a; intro a fr
      refine fx_val (v := .agg (lnE.arr (L13.getD i ln0))) fr rfl rfl (by first | decide | simp) (x_extract rfl (fr.ev rfl) rfl) ?_
      clear fr a; intro a fr
      refine fx_val (v := .bool true) fr rfl rfl (by first | decide | simp) (x_extract rfl (fr.ev rfl) rfl) ?_
      clear fr a; intro a fr
      refine fx_new fr rfl rfl (by first | decide | simp) (x_alloc (z := .agg (#[.int .u32 0, .int .i64 0, .int .u8 0, .int .u8 0, .int .u8 0, .int .u8 0, .int .u8 0, .int .u8 0, .int .u8 0, .int .u8 0, .int .u8 0, .int .u8 0, .int .u8 0, .int .u8 0, .int .u8 0, .int .u8 0, .int .u8 0, .int .u8 0])) (cs := lnE.arr ln0) rfl (by kernel_rfl) rfl) ?_
      clear fr a
      intro b68 w69 hN70 B71 hb72 a fr
      have ap_P_b68 : Apart P b68 := hV.apart hb72
      have ne_b1_b68 : NE b1 b68 := NE.mk (Nat.lt_of_lt_of_le B4.lt hb72)
      have ap_Fp12_b68 : ¬ Fp12 b68 := H16.apart hb72
      have ap_V14_b68 : Apart V14 b68 := hW17.apart hb72
      have ne_b24_b68 : NE b24 b68 := NE.mk (Nat.lt_of_lt_of_le B27.lt hb72)
      have g_b68 := Nat.le_trans hF.size hb72
      replace hV := hV.new hN70
      replace B4 := B4.new hN70
      replace H16 := H16.new hN70
      replace hW17 := hW17.new hN70
      replace B27 := B27.new hN70
      replace hF := hF.trNew hN70
      refine fx_storeS sz39 rfl rfl rfl (fr.ev rfl) (fr.ev rfl) (lnE.all _) B71 (lnE.size _) (lnE.size _) fun w73 hO74 hBq => ?_
      replace hV := hV.only hO74 (Apart.ne1 ap_P_b68)
      replace B4 := B4.only hO74 (by first | exact ne_b1_b68 | exact ne_b68_b1.symm | (show ¬ b1 = b68; omega))
      replace H16 := H16.only hO74 (ne1P ap_Fp12_b68)
      replace hW17 := hW17.only hO74 (Apart.ne1 ap_V14_b68)
      replace B27 := B27.only hO74 (by first | exact ne_b24_b68 | exact ne_b68_b24.symm | (show ¬ b24 = b68; omega))
      replace hF := hF.loc hO74 (.inr g_b68)
      replace B71 := hBq
      clear hBq
      refine fx_val (v := .bool true) fr rfl rfl (by first | decide | simp) (x_assign rfl (fr.ev rfl)) ?_
      clear fr a; intro a fr
      refine wpList_nil ?_
      refine fx_next ?_
      refine wp_seq ?_
      refine wp_region_lit ?_  -- region 5
      refine fx_val (v := .pointer (some ⟨b11, 0, none⟩)) fr rfl rfl (by first | decide | simp) (x_move rfl (fr.ev rfl)) ?_
      clear fr a; intro a fr
      refine fx_val (v := .pointer (some ⟨b1, 0, none⟩)) fr rfl rfl (by first | decide | simp) (x_fieldAddr fo35_0 rfl (fr.ev rfl) rfl) ?_
      clear fr a; intro a fr
      refine fx_val (v := .int .u32 qn) fr rfl rfl (by first | decide | simp) (x_load1 pl33 rfl (fr.ev rfl) (B4.cell 0 rfl)) ?_
      clear fr a; intro a fr
      refine fx_val (v := .pointer (some ⟨b1, 1, none⟩)) fr rfl rfl (by first | decide | simp) (x_fieldAddr fo35_1 rfl (fr.ev rfl) rfl) ?_
      clear fr a; intro a fr
      refine fx_val (v := .int .i64 qp) fr rfl rfl (by first | decide | simp) (x_load1 pl3 rfl (fr.ev rfl) (B4.cell 1 rfl)) ?_
      clear fr a; intro a fr
      refine fx_call fr rfl rfl (by first | decide | simp) (x_call (vs := [.pointer (some ⟨b11, 0, none⟩), .int .u32 qn, .int .i64 qp]) rfl rfl ⟨(fr.ev rfl), (fr.ev rfl), (fr.ev rfl), trivial⟩ Try.func15 nm15 rfl) (victim_c qn (by omega) qp H16) ?_
      clear fr a
      rintro v w75 ⟨rfl, hN76⟩ a fr
      replace hV := hV.new hN76
      replace B4 := B4.new hN76
      replace H16 := H16.new hN76
      replace hW17 := hW17.new hN76
      replace B27 := B27.new hN76
      replace B71 := B71.new hN76
      replace hF := hF.trNew hN76
      refine fx_val (v := .tuple #[.agg (lnE.arr ((vicL n ways L13 qn qp).getD ln0)), .bool ((vicL n ways L13 qn qp).isSome)]) fr rfl rfl (by first | decide | simp) (x_move rfl (fr.ev rfl)) ?_
      clear fr a; intro a fr
      refine fx_val (v := .agg (lnE.arr ((vicL n ways L13 qn qp).getD ln0))) fr rfl rfl (by first | decide | simp) (x_extract rfl (fr.ev rfl) rfl) ?_
      clear fr a; intro a fr
      refine fx_val (v := .bool ((vicL n ways L13 qn qp).isSome)) fr rfl rfl (by first | decide | simp) (x_extract rfl (fr.ev rfl) rfl) ?_
      clear fr a; intro a fr
      refine fx_new fr rfl rfl (by first | decide | simp) (x_alloc (z := .agg (#[.int .u32 0, .int .i64 0, .int .u8 0, .int .u8 0, .int .u8 0, .int .u8 0, .int .u8 0, .int .u8 0, .int .u8 0, .int .u8 0, .int .u8 0, .int .u8 0, .int .u8 0, .int .u8 0, .int .u8 0, .int .u8 0, .int .u8 0, .int .u8 0])) (cs := lnE.arr ln0) rfl (by kernel_rfl) rfl) ?_
      clear fr a
      intro b77 w78 hN79 B80 hb81 a fr
      have ap_P_b77 : Apart P b77 := hV.apart hb81
      have ne_b1_b77 : NE b1 b77 := NE.mk (Nat.lt_of_lt_of_le B4.lt hb81)
      have ap_Fp12_b77 : ¬ Fp12 b77 := H16.apart hb81
      have ap_V14_b77 : Apart V14 b77 := hW17.apart hb81
      have ne_b24_b77 : NE b24 b77 := NE.mk (Nat.lt_of_lt_of_le B27.lt hb81)
      have ne_b68_b77 : NE b68 b77 := NE.mk (Nat.lt_of_lt_of_le B71.lt hb81)
      have g_b77 := Nat.le_trans hF.size hb81
      replace hV := hV.new hN79
      replace B4 := B4.new hN79
      replace H16 := H16.new hN79
      replace hW17 := hW17.new hN79
      replace B27 := B27.new hN79
      replace B71 := B71.new hN79
      replace hF := hF.trNew hN79
      refine fx_storeS sz39 rfl rfl rfl (fr.ev rfl) (fr.ev rfl) (lnE.all _) B80 (lnE.size _) (lnE.size _) fun w82 hO83 hBq => ?_
      replace hV := hV.only hO83 (Apart.ne1 ap_P_b77)
      replace B4 := B4.only hO83 (by first | exact ne_b1_b77 | exact ne_b77_b1.symm | (show ¬ b1 = b77; omega))
      replace H16 := H16.only hO83 (ne1P ap_Fp12_b77)
      replace hW17 := hW17.only hO83 (Apart.ne1 ap_V14_b77)
      replace B27 := B27.only hO83 (by first | exact ne_b24_b77 | exact ne_b77_b24.symm | (show ¬ b24 = b77; omega))
      replace B71 := B71.only hO83 (by first | exact ne_b68_b77 | exact ne_b77_b68.symm | (show ¬ b68 = b77; omega))
      replace hF := hF.loc hO83 (.inr g_b77)
      replace B80 := hBq
      clear hBq
      refine fx_val (v := .bool ((vicL n ways L13 qn qp).isSome)) fr rfl rfl (by first | decide | simp) (x_assign rfl (fr.ev rfl)) ?_
      clear fr a; intro a fr
      refine wpList_nil ?_
      refine fx_next ?_
      refine wp_seq ?_
      refine wp_region_lit ?_  -- region 6
      refine fx_val (v := .agg (#[.int .i64 ((n : Nat) : Int), .int .i64 ways, .slice V14 L13.length vc15])) fr rfl rfl (by first | decide | simp) (x_loadS ag28 rfl (fr.ev rfl) rfl B27.range) ?_
      clear fr a; intro a fr
      refine fx_val (v := .pointer (some ⟨b1, 0, none⟩)) fr rfl rfl (by first | decide | simp) (x_fieldAddr fo35_0 rfl (fr.ev rfl) rfl) ?_
      clear fr a; intro a fr
      refine fx_val (v := .int .u32 qn) fr rfl rfl (by first | decide | simp) (x_load1 pl33 rfl (fr.ev rfl) (B4.cell 0 rfl)) ?_
      clear fr a; intro a fr
      refine fx_val (v := .pointer (some ⟨b1, 1, none⟩)) fr rfl rfl (by first | decide | simp) (x_fieldAddr fo35_1 rfl (fr.ev rfl) rfl) ?_
      clear fr a; intro a fr
      refine fx_val (v := .int .i64 qp) fr rfl rfl (by first | decide | simp) (x_load1 pl3 rfl (fr.ev rfl) (B4.cell 1 rfl)) ?_
      clear fr a; intro a fr
      refine fx_call fr rfl rfl (by first | decide | simp) (x_call (vs := [.agg (#[.int .i64 ((n : Nat) : Int), .int .i64 ways, .slice V14 L13.length vc15]), .int .u32 qn, .int .i64 qp]) rfl rfl ⟨(fr.ev rfl), (fr.ev rfl), (fr.ev rfl), trivial⟩ Try.func16 nm16 rfl) (rvictim_c qn (by omega) qp (n := n) (ways := ways) (L := L13) (hW17) (by first | omega | decide) (by omega) (by first | omega | decide)) ?_
      clear fr a
      rintro v w84 ⟨rfl, hN85⟩ a fr
      replace hV := hV.new hN85
      replace B4 := B4.new hN85
      replace H16 := H16.new hN85
      replace hW17 := hW17.new hN85
      replace B27 := B27.new hN85
      replace B71 := B71.new hN85
      replace B80 := B80.new hN85
      replace hF := hF.trNew hN85
      refine fx_val (v := .tuple #[.agg (lnE.arr ((vicL n ways L13 qn qp).getD ln0)), .bool ((vicL n ways L13 qn qp).isSome)]) fr rfl rfl (by first | decide | simp) (x_move rfl (fr.ev rfl)) ?_
      clear fr a; intro a fr
      refine fx_val (v := .agg (lnE.arr ((vicL n ways L13 qn qp).getD ln0))) fr rfl rfl (by first | decide | simp) (x_extract rfl (fr.ev rfl) rfl) ?_
      clear fr a; intro a fr
      refine fx_val (v := .bool ((vicL n ways L13 qn qp).isSome)) fr rfl rfl (by first | decide | simp) (x_extract rfl (fr.ev rfl) rfl) ?_
      clear fr a; intro a fr
      refine fx_new fr rfl rfl (by first | decide | simp) (x_alloc (z := .agg (#[.int .u32 0, .int .i64 0, .int .u8 0, .int .u8 0, .int .u8 0, .int .u8 0, .int .u8 0, .int .u8 0, .int .u8 0, .int .u8 0, .int .u8 0, .int .u8 0, .int .u8 0, .int .u8 0, .int .u8 0, .int .u8 0, .int .u8 0, .int .u8 0])) (cs := lnE.arr ln0) rfl (by kernel_rfl) rfl) ?_
      clear fr a
      intro b86 w87 hN88 B89 hb90 a fr
      have ap_P_b86 : Apart P b86 := hV.apart hb90
      have ne_b1_b86 : NE b1 b86 := NE.mk (Nat.lt_of_lt_of_le B4.lt hb90)
      have ap_Fp12_b86 : ¬ Fp12 b86 := H16.apart hb90
      have ap_V14_b86 : Apart V14 b86 := hW17.apart hb90
      have ne_b24_b86 : NE b24 b86 := NE.mk (Nat.lt_of_lt_of_le B27.lt hb90)
      have ne_b68_b86 : NE b68 b86 := NE.mk (Nat.lt_of_lt_of_le B71.lt hb90)
      have ne_b77_b86 : NE b77 b86 := NE.mk (Nat.lt_of_lt_of_le B80.lt hb90)
      have g_b86 := Nat.le_trans hF.size hb90
      replace hV := hV.new hN88
      replace B4 := B4.new hN88
      replace H16 := H16.new hN88
      replace hW17 := hW17.new hN88
      replace B27 := B27.new hN88
      replace B71 := B71.new hN88
      replace B80 := B80.new hN88
      replace hF := hF.trNew hN88
      refine fx_storeS sz39 rfl rfl rfl (fr.ev rfl) (fr.ev rfl) (lnE.all _) B89 (lnE.size _) (lnE.size _) fun w91 hO92 hBq => ?_
      replace hV := hV.only hO92 (Apart.ne1 ap_P_b86)
      replace B4 := B4.only hO92 (by first | exact ne_b1_b86 | exact ne_b86_b1.symm | (show ¬ b1 = b86; omega))
      replace H16 := H16.only hO92 (ne1P ap_Fp12_b86)
      replace hW17 := hW17.only hO92 (Apart.ne1 ap_V14_b86)
      replace B27 := B27.only hO92 (by first | exact ne_b24_b86 | exact ne_b86_b24.symm | (show ¬ b24 = b86; omega))
      replace B71 := B71.only hO92 (by first | exact ne_b68_b86 | exact ne_b86_b68.symm | (show ¬ b68 = b86; omega))
      replace B80 := B80.only hO92 (by first | exact ne_b77_b86 | exact ne_b86_b77.symm | (show ¬ b77 = b86; omega))
      replace hF := hF.loc hO92 (.inr g_b86)
      replace B89 := hBq
      clear hBq
      refine fx_val (v := .bool ((vicL n ways L13 qn qp).isSome)) fr rfl rfl (by first | decide | simp) (x_assign rfl (fr.ev rfl)) ?_
      clear fr a; intro a fr
      refine wpList_nil ?_
      refine fx_next ?_
      refine wp_seq ?_
      refine wp_region_lit ?_  -- region 7
      refine fx_val (v := .agg (#[.int .i64 ((n : Nat) : Int), .int .i64 ways, .slice V14 L13.length vc15])) fr rfl rfl (by first | decide | simp) (x_loadS ag28 rfl (fr.ev rfl) rfl B27.range) ?_
      clear fr a; intro a fr
      refine fx_val (v := .pointer (some ⟨b1, 0, none⟩)) fr rfl rfl (by first | decide | simp) (x_fieldAddr fo35_0 rfl (fr.ev rfl) rfl) ?_
      clear fr a; intro a fr
      refine fx_val (v := .int .u32 qn) fr rfl rfl (by first | decide | simp) (x_load1 pl33 rfl (fr.ev rfl) (B4.cell 0 rfl)) ?_
      clear fr a; intro a fr
      refine fx_call fr rfl rfl (by first | decide | simp) (x_call (vs := [.agg (#[.int .i64 ((n : Nat) : Int), .int .i64 ways, .slice V14 L13.length vc15]), .int .u32 qn]) rfl rfl ⟨(fr.ev rfl), (fr.ev rfl), trivial⟩ Try.func17 nm17 rfl) (rfind_c qn (n := n) (ways := ways) (L := L13) (hW17) (by first | omega | decide)) ?_
      clear fr a
      rintro v w93 ⟨rfl, hN94⟩ a fr
      replace hV := hV.new hN94
      replace B4 := B4.new hN94
      replace H16 := H16.new hN94
      replace hW17 := hW17.new hN94
      replace B27 := B27.new hN94
      replace B71 := B71.new hN94
      replace B80 := B80.new hN94
      replace B89 := B89.new hN94
      replace hF := hF.trNew hN94
      rw [hf] at fr
      refine fx_val (v := .int .i64 ((i : Nat) : Int)) fr rfl rfl (by first | decide | simp) (x_assign rfl (fr.ev rfl)) ?_
      clear fr a; intro a fr
      refine wpList_nil ?_
      refine fx_next ?_
      refine wp_seq ?_
      refine wp_seq ?_
      refine fx_held (n := 25) (fun w => View actE w P cp la ∧ Blk w b1 35 (#[.int .u32 qn, .int .i64 qp]) ∧ LinesAt w Fp12 b11 n ways L13 ∧ View lnE w V14 vc15 L13 ∧ Blk w b24 28 (#[.int .i64 ((n : Nat) : Int), .int .i64 ways, .slice V14 L13.length vc15]) ∧ Blk w b68 39 (lnE.arr (L13.getD i ln0)) ∧ Blk w b77 39 (lnE.arr ((vicL n ways L13 qn qp).getD ln0)) ∧ Blk w b86 39 (lnE.arr ((vicL n ways L13 qn qp).getD ln0)) ∧ True) (by kernel_rfl) rfl ?_  -- region 8
      intro w95 hN96
      replace hV := hV.new hN96
      replace B4 := B4.new hN96
      replace H16 := H16.new hN96
      replace hW17 := hW17.new hN96
      replace B27 := B27.new hN96
      replace B71 := B71.new hN96
      replace B80 := B80.new hN96
      replace B89 := B89.new hN96
      replace hF := hF.trNew hN96
      refine fx_take (i := 0) (v := .bool true) fr rfl (by kernel_rfl) rfl rfl (by first | decide | simp) (fun _ _ _ h => h) (fun _ ⟨hV, B4, H16, hW17, B27, B71, B80, B89, _⟩ => x_move rfl (fr.ev rfl)) ⟨hV, B4, H16, hW17, B27, B71, B80, B89, trivial⟩ ?_
      clear fr a; intro a fr
      refine fx_take (i := 1) (v := .int .i64 ((i : Nat) : Int)) fr rfl (by kernel_rfl) rfl rfl (by first | decide | simp) (fun _ _ _ h => h) (fun _ ⟨hV, B4, H16, hW17, B27, B71, B80, B89, _⟩ => x_move rfl (fr.ev rfl)) ⟨hV, B4, H16, hW17, B27, B71, B80, B89, trivial⟩ ?_
      clear fr a; intro a fr
      refine fx_take (i := 2) (v := .bool true) fr rfl (by kernel_rfl) rfl rfl (by first | decide | simp) (fun _ _ _ h => h) (fun _ ⟨hV, B4, H16, hW17, B27, B71, B80, B89, _⟩ => x_geq rfl (fr.ev rfl) rfl (decide_eq_true hi1)) ⟨hV, B4, H16, hW17, B27, B71, B80, B89, trivial⟩ ?_
      clear fr a; intro a fr
      refine fx_take (i := 3) (v := .bool false) fr rfl (by kernel_rfl) rfl rfl (by first | decide | simp) (fun _ _ _ h => h) (fun _ ⟨hV, B4, H16, hW17, B27, B71, B80, B89, _⟩ => x_bneq Try.underlying4 rfl (fr.ev rfl) (fr.ev rfl) rfl) ⟨hV, B4, H16, hW17, B27, B71, B80, B89, trivial⟩ ?_
      clear fr a; intro a fr
      refine fx_take (i := 4) (v := .bool false) fr rfl (by kernel_rfl) rfl rfl (by first | decide | simp) (fun _ _ _ h => h) (fun _ ⟨hV, B4, H16, hW17, B27, B71, B80, B89, _⟩ => x_move rfl (fr.ev rfl)) ⟨hV, B4, H16, hW17, B27, B71, B80, B89, trivial⟩ ?_
      clear fr a; intro a fr
      refine fx_take (i := 5) (v := .bool true) fr rfl (by kernel_rfl) (fr.want rfl rfl rfl) rfl (by first | decide | simp) (fun _ _ _ h => h) (fun _ ⟨hV, B4, H16, hW17, B27, B71, B80, B89, _⟩ => x_move rfl (fr.ev rfl)) ⟨hV, B4, H16, hW17, B27, B71, B80, B89, trivial⟩ ?_
      clear fr a; intro a fr
      refine fx_take (i := 6) (v := .bool true) fr rfl (by kernel_rfl) (fr.want rfl rfl rfl) rfl (by first | decide | simp) (fun _ _ _ h => h) (fun _ ⟨hV, B4, H16, hW17, B27, B71, B80, B89, _⟩ => x_move rfl (fr.ev rfl)) ⟨hV, B4, H16, hW17, B27, B71, B80, B89, trivial⟩ ?_
      clear fr a; intro a fr
      refine fx_take (i := 7) (v := .agg (lnE.arr (L13.getD i ln0))) fr rfl (by kernel_rfl) (fr.want rfl rfl rfl) rfl (by first | decide | simp) (fun _ _ _ h => h) (fun _ ⟨hV, B4, H16, hW17, B27, B71, B80, B89, _⟩ => x_loadE (E := lnE) ag39 rfl rfl (fr.ev rfl) (B71.rangeE lnE)) ⟨hV, B4, H16, hW17, B27, B71, B80, B89, trivial⟩ ?_
      clear fr a; intro a fr
      refine fx_take (i := 8) (v := .pointer (some ⟨b24, 2, none⟩)) fr rfl (by kernel_rfl) (fr.want rfl rfl rfl) rfl (by first | decide | simp) (fun _ _ _ h => h) (fun _ ⟨hV, B4, H16, hW17, B27, B71, B80, B89, _⟩ => x_fieldAddr fo28_2 rfl (fr.ev rfl) rfl) ⟨hV, B4, H16, hW17, B27, B71, B80, B89, trivial⟩ ?_
      clear fr a; intro a fr
      refine fx_take (i := 9) (v := .slice V14 L13.length vc15) fr rfl (by kernel_rfl) (fr.want rfl rfl rfl) rfl (by first | decide | simp) (fun _ _ _ h => h) (fun _ ⟨hV, B4, H16, hW17, B27, B71, B80, B89, _⟩ => x_load1 pl26 rfl (fr.ev rfl) (B27.cell 2 rfl)) ⟨hV, B4, H16, hW17, B27, B71, B80, B89, trivial⟩ ?_
      clear fr a; intro a fr
      refine fx_take (i := 10) (v := .int .i64 ((i : Nat) : Int)) fr rfl (by kernel_rfl) (fr.want rfl rfl rfl) rfl (by first | decide | simp) (fun _ _ _ h => h) (fun _ ⟨hV, B4, H16, hW17, B27, B71, B80, B89, _⟩ => x_move rfl (fr.ev rfl)) ⟨hV, B4, H16, hW17, B27, B71, B80, B89, trivial⟩ ?_
      clear fr a; intro a fr
      obtain ⟨g97, o98, hA99⟩ := (hW17).some_ (by omega)
      refine fx_take (i := 11) (v := .pointer (some ⟨g97, o98 + i * 18, none⟩)) fr rfl (by kernel_rfl) (fr.want rfl rfl rfl) rfl (by first | decide | simp) (fun _ _ _ h => h) (fun _ ⟨hV, B4, H16, hW17, B27, B71, B80, B89, _⟩ => x_indexV Try.underlying26 sz39 rfl (fr.ev rfl) hA99 (fr.ev rfl) (by omega) rfl) ⟨hV, B4, H16, hW17, B27, B71, B80, B89, trivial⟩ ?_
      clear fr a; intro a fr
      refine fx_take (i := 12) (v := .agg (lnE.arr (L13.getD i ln0))) fr rfl (by kernel_rfl) (fr.want rfl rfl rfl) rfl (by first | decide | simp) (fun _ _ _ h => h) (fun _ ⟨hV, B4, H16, hW17, B27, B71, B80, B89, _⟩ => x_loadE (E := lnE) ag39 rfl rfl (fr.ev rfl) ((hW17).elem hA99 i ln0 (by omega))) ⟨hV, B4, H16, hW17, B27, B71, B80, B89, trivial⟩ ?_
      clear fr a; intro a fr
      refine fx_take (i := 13) (v := .bool false) fr rfl (by kernel_rfl) (fr.want rfl rfl rfl) rfl (by first | decide | simp) (fun _ _ _ h => h) (fun _ ⟨hV, B4, H16, hW17, B27, B71, B80, B89, _⟩ => x_neE lnER rfl rfl (fr.ev rfl) (fr.ev rfl) (by simp)) ⟨hV, B4, H16, hW17, B27, B71, B80, B89, trivial⟩ ?_
      clear fr a; intro a fr
      refine fx_take (i := 14) (v := .bool false) fr rfl (by kernel_rfl) (fr.want rfl rfl rfl) rfl (by first | decide | simp) (fun _ _ _ h => h) (fun _ ⟨hV, B4, H16, hW17, B27, B71, B80, B89, _⟩ => x_pick_t rfl (fr.ev rfl) (fr.ev rfl)) ⟨hV, B4, H16, hW17, B27, B71, B80, B89, trivial⟩ ?_
      clear fr a; intro a fr
      refine fx_take (i := 15) (v := .bool false) fr rfl (by kernel_rfl) rfl rfl (by first | decide | simp) (fun _ _ _ h => h) (fun _ ⟨hV, B4, H16, hW17, B27, B71, B80, B89, _⟩ => x_pick_f rfl (fr.ev rfl) (fr.ev rfl)) ⟨hV, B4, H16, hW17, B27, B71, B80, B89, trivial⟩ ?_
      clear fr a; intro a fr
      refine fx_take (i := 16) (v := .bool false) fr rfl (by kernel_rfl) rfl rfl (by first | decide | simp) (fun _ _ _ h => h) (fun _ ⟨hV, B4, H16, hW17, B27, B71, B80, B89, _⟩ => x_move rfl (fr.ev rfl)) ⟨hV, B4, H16, hW17, B27, B71, B80, B89, trivial⟩ ?_
      clear fr a; intro a fr
      refine fx_take (i := 17) (v := .bool true) fr rfl (by kernel_rfl) (fr.want rfl rfl rfl) rfl (by first | decide | simp) (fun _ _ _ h => h) (fun _ ⟨hV, B4, H16, hW17, B27, B71, B80, B89, _⟩ => x_move rfl (fr.ev rfl)) ⟨hV, B4, H16, hW17, B27, B71, B80, B89, trivial⟩ ?_
      clear fr a; intro a fr
      refine fx_take (i := 18) (v := .bool false) fr rfl (by kernel_rfl) (fr.want rfl rfl rfl) rfl (by first | decide | simp) (fun _ _ _ h => h) (fun _ ⟨hV, B4, H16, hW17, B27, B71, B80, B89, _⟩ => x_not rfl (fr.ev rfl) rfl) ⟨hV, B4, H16, hW17, B27, B71, B80, B89, trivial⟩ ?_
      clear fr a; intro a fr
      refine fx_take (i := 19) (v := .bool false) fr rfl (by kernel_rfl) (fr.want rfl rfl rfl) rfl (by first | decide | simp) (fun _ _ _ h => h) (fun _ ⟨hV, B4, H16, hW17, B27, B71, B80, B89, _⟩ => x_move rfl (fr.ev rfl)) ⟨hV, B4, H16, hW17, B27, B71, B80, B89, trivial⟩ ?_
      clear fr a; intro a fr
      refine fx_takeskip (i := 20) fr rfl (by kernel_rfl) (fr.unwant rfl rfl rfl (by decide)) rfl (by first | decide | simp) (fun _ _ _ h => h) ⟨hV, B4, H16, hW17, B27, B71, B80, B89, trivial⟩ ?_
      clear fr a; intro a fr
      refine fx_takeskip (i := 21) fr rfl (by kernel_rfl) (fr.unwant rfl rfl rfl (by decide)) rfl (by first | decide | simp) (fun _ _ _ h => h) ⟨hV, B4, H16, hW17, B27, B71, B80, B89, trivial⟩ ?_
      clear fr a; intro a fr
      refine fx_takeskip (i := 22) fr rfl (by kernel_rfl) (fr.unwant rfl rfl rfl (by decide)) rfl (by first | decide | simp) (fun _ _ _ h => h) ⟨hV, B4, H16, hW17, B27, B71, B80, B89, trivial⟩ ?_
      clear fr a; intro a fr
      refine fx_take (i := 23) (v := .bool false) fr rfl (by kernel_rfl) (fr.want rfl rfl rfl) rfl (by first | decide | simp) (fun _ _ _ h => h) (fun _ ⟨hV, B4, H16, hW17, B27, B71, B80, B89, _⟩ => x_pick_f rfl (fr.ev rfl) rfl) ⟨hV, B4, H16, hW17, B27, B71, B80, B89, trivial⟩ ?_
      clear fr a; intro a fr
      refine fx_take (i := 24) (v := .bool false) fr rfl (by kernel_rfl) rfl rfl (by first | decide | simp) (fun _ _ _ h => h) (fun _ ⟨hV, B4, H16, hW17, B27, B71, B80, B89, _⟩ => x_pick_f rfl (fr.ev rfl) (fr.ev rfl)) ⟨hV, B4, H16, hW17, B27, B71, B80, B89, trivial⟩ ?_
      clear fr a; intro a fr
      refine fx_hdone (by kernel_rfl) ?_
      refine fx_next ?_
      refine fx_cond_f fr rfl ?_
      refine wp_skip ?_
      refine fx_next ?_
      refine wp_seq ?_
      refine wp_region_lit ?_  -- region 10
      refine fx_val (v := .bool true) fr rfl rfl (by first | decide | simp) (x_move rfl (fr.ev rfl)) ?_
      clear fr a; intro a fr
      refine fx_val (v := .bool true) fr rfl rfl (by first | decide | simp) (x_move rfl (fr.ev rfl)) ?_
      clear fr a; intro a fr
      refine fx_val (v := .agg (lnE.arr ((vicL n ways L13 qn qp).getD ln0))) fr (fr.want rfl rfl rfl) rfl (by first | decide | simp) (x_loadE (E := lnE) ag39 rfl rfl (fr.ev rfl) (B80.rangeE lnE)) ?_
      clear fr a; intro a fr
      refine fx_val (v := .agg (lnE.arr ((vicL n ways L13 qn qp).getD ln0))) fr (fr.want rfl rfl rfl) rfl (by first | decide | simp) (x_loadE (E := lnE) ag39 rfl rfl (fr.ev rfl) (B89.rangeE lnE)) ?_
      clear fr a; intro a fr
      refine fx_val (v := .bool true) fr (fr.want rfl rfl rfl) rfl (by first | decide | simp) (x_eqE lnER rfl rfl (fr.ev rfl) (fr.ev rfl) (by simp)) ?_
      clear fr a; intro a fr
      refine fx_val (v := .bool true) fr rfl rfl (by first | decide | simp) (x_pick_t rfl (fr.ev rfl) (fr.ev rfl)) ?_
      clear fr a; intro a fr
      refine fx_val (v := .bool true) fr rfl rfl (by first | decide | simp) (x_move rfl (fr.ev rfl)) ?_
      clear fr a; intro a fr
      refine fx_val (v := .bool ((vicL n ways L13 qn qp).isSome)) fr (fr.want rfl rfl rfl) rfl (by first | decide | simp) (x_move rfl (fr.ev rfl)) ?_
      clear fr a; intro a fr
      refine fx_val (v := .bool ((vicL n ways L13 qn qp).isSome)) fr (fr.want rfl rfl rfl) rfl (by first | decide | simp) (x_move rfl (fr.ev rfl)) ?_
      clear fr a; intro a fr
      refine fx_val (v := .bool true) fr (fr.want rfl rfl rfl) rfl (by first | decide | simp) (x_beql Try.underlying4 rfl (fr.ev rfl) (fr.ev rfl) (by simp)) ?_
      clear fr a; intro a fr
      refine fx_val (v := .bool true) fr rfl rfl (by first | decide | simp) (x_pick_t rfl (fr.ev rfl) (fr.ev rfl)) ?_
      clear fr a; intro a fr
      refine fx_val (v := .bool true) fr rfl rfl (by first | decide | simp) (x_move rfl (fr.ev rfl)) ?_
      clear fr a; intro a fr
      refine fx_val (v := .pointer (some ⟨b11, 0, none⟩)) fr (fr.want rfl rfl rfl) rfl (by first | decide | simp) (x_move rfl (fr.ev rfl)) ?_
      clear fr a; intro a fr
      refine fx_val (v := .agg (#[.int .i64 ((n : Nat) : Int), .int .i64 ways, .slice V14 L13.length vc15])) fr (fr.want rfl rfl rfl) rfl (by first | decide | simp) (x_loadS ag28 rfl (fr.ev rfl) rfl B27.range) ?_
      clear fr a; intro a fr
      refine fx_call fr (fr.want rfl rfl rfl) rfl (by first | decide | simp) (x_call (vs := [.pointer (some ⟨b11, 0, none⟩), .agg (#[.int .i64 ((n : Nat) : Int), .int .i64 ways, .slice V14 L13.length vc15])]) rfl rfl ⟨(fr.ev rfl), (fr.ev rfl), trivial⟩ Try.func13 nm13 rfl) (is_c H16 (hW17) (by omega)) ?_
      clear fr a
      rintro v w100 ⟨rfl, hN101⟩ a fr
      replace hV := hV.new hN101
      replace B4 := B4.new hN101
      replace H16 := H16.new hN101
      replace hW17 := hW17.new hN101
      replace B27 := B27.new hN101
      replace B71 := B71.new hN101
      replace B80 := B80.new hN101
      replace B89 := B89.new hN101
      replace hF := hF.trNew hN101
      refine fx_val (v := .bool true) fr rfl rfl (by first | decide | simp) (x_pick_t rfl (fr.ev rfl) (fr.ev rfl)) ?_
      clear fr a; intro a fr
      refine fx_val (v := .bool true) fr rfl rfl (by first | decide | simp) (x_move rfl (fr.ev rfl)) ?_
      clear fr a; intro a fr
      refine fx_call fr (fr.want rfl rfl rfl) rfl (by first | decide | simp) (x_call (vs := []) rfl rfl trivial Try.func11 nm11 rfl) (works_c _) ?_
      clear fr a
      rintro v w102 ⟨rfl, hN103⟩ a fr
      replace hV := hV.new hN103
      replace B4 := B4.new hN103
      replace H16 := H16.new hN103
      replace hW17 := hW17.new hN103
      replace B27 := B27.new hN103
      replace B71 := B71.new hN103
      replace B80 := B80.new hN103
      replace B89 := B89.new hN103
      replace hF := hF.trNew hN103
      refine fx_val (v := .bool true) fr rfl rfl (by first | decide | simp) (x_pick_t rfl (fr.ev rfl) (fr.ev rfl)) ?_
      clear fr a; intro a fr
      refine fx_val (v := .bool true) fr rfl rfl (by first | decide | simp) (x_assign rfl (fr.ev rfl)) ?_
      clear fr a; intro a fr
      refine wpList_nil ?_
      refine fx_next ?_
      refine wp_ret ?_
      refine fx_ret fr [.tmp 8] [.bool true] rfl ⟨rfl, trivial⟩ rfl ?_
      exact ⟨_, rfl, rfl, hF⟩
end Go.Proofs.Ytdjgfkjcpalihaa
