/-
  What is told of no net; copies; which nets are the same; NetMakes. Printed by gen_l.py.
-/
import Derived.Test.YtdpkeabmfhnfiaaNetK
namespace Go.Proofs.Ytdpkeabmfhnfiaa
open Go.RowKit

set_option maxRecDepth 100000 in
set_option maxHeartbeats 4000000 in
theorem len_nil (w : World) : Calls Try.prog 19 #[.pointer none] w (Ret fun v w' => v = .int .i64 0 ∧ w' = w) := by
  refine fx_enter Try.func19 rfl (N := (10, [])) (T := [(0, .pointer none)]) rfl (show 1 ≤ 10 by decide) ⟨rfl, trivial⟩ fun a fr => ?_
  refine wp_seq ?_
  refine wp_region_lit ?_  -- region 0
  refine fx_val (v := .int .i64 0) fr rfl rfl (by first | decide | simp) (x_assign rfl rfl) ?_
  clear fr a; intro a fr
  refine wpList_nil ?_
  refine fx_next ?_
  refine wp_seq ?_
  refine wp_seq ?_
  refine wp_region_lit ?_  -- region 1
  refine fx_val (v := .pointer none) fr rfl rfl (by first | decide | simp) (x_move rfl (fr.ev rfl)) ?_
  clear fr a; intro a fr
  refine fx_call fr rfl rfl (by first | decide | simp) (x_call (vs := [.pointer none]) rfl rfl ⟨(fr.ev rfl), trivial⟩ Try.func30 nm30 rfl) (none_nil _) ?_
  clear fr a
  rintro v _ ⟨rfl, rfl⟩ a fr
  refine wpList_nil ?_
  refine fx_next ?_
  refine fx_cond_t fr rfl ?_
  refine wp_seq ?_
  refine wp_region_lit ?_  -- region 2
  refine fx_val (v := .int .i64 0) fr rfl rfl (by first | decide | simp) (x_assign rfl rfl) ?_
  clear fr a; intro a fr
  refine wpList_nil ?_
  refine fx_next ?_
  refine wp_ret ?_
  refine fx_rt ?_
  refine fx_ret fr [.tmp 2] [.int .i64 0] rfl ⟨rfl, trivial⟩ rfl ?_
  exact ⟨_, rfl, rfl, rfl⟩
set_option maxRecDepth 100000 in
set_option maxHeartbeats 4000000 in
theorem deliver_nil (k : Int) (w : World) : Calls Try.prog 16 #[.pointer none, .int .i64 k] w (Ret fun v w' => v = .tuple #[.agg (msgE.arr msg0), .bool false] ∧ New w w') := by
  have hF := Only.refl (fun _ => False) w
  refine fx_enter Try.func16 rfl (N := (47, [])) (T := [(0, .pointer none), (1, .int .i64 k)]) rfl (show 2 ≤ 47 by decide) ⟨rfl, rfl, trivial⟩ fun a fr => ?_
  refine wp_seq ?_
  refine wp_region_lit ?_  -- region 0
  refine fx_new fr rfl rfl (by first | decide | simp) (x_alloc (z := .agg (#[.int .i64 0, .int .i64 0, .int .i64 0, .int .u32 0, .int .u8 0, .int .u8 0, .int .u8 0, .int .u8 0, .int .u8 0, .int .u8 0, .int .u8 0, .int .u8 0, .int .u8 0, .int .u8 0, .int .u8 0, .int .u8 0, .int .u8 0, .int .u8 0, .int .u8 0, .int .u8 0])) (cs := msgE.arr msg0) rfl (by kernel_rfl) rfl) ?_
  clear fr a
  intro b1 w2 hN3 B4 hb5 a fr
  have g_b1 := Nat.le_trans hF.size hb5
  replace hF := hF.trNew hN3
  refine fx_val (v := .bool false) fr rfl rfl (by first | decide | simp) (x_assign rfl rfl) ?_
  clear fr a; intro a fr
  refine wpList_nil ?_
  refine fx_next ?_
  refine wp_seq ?_
  refine wp_region_lit ?_  -- region 1
  refine fx_val (v := .pointer none) fr rfl rfl (by first | decide | simp) (x_move rfl (fr.ev rfl)) ?_
  clear fr a; intro a fr
  refine fx_call fr rfl rfl (by first | decide | simp) (x_call (vs := [.pointer none]) rfl rfl ⟨(fr.ev rfl), trivial⟩ Try.func19 nm19 rfl) (len_nil _) ?_
  clear fr a
  rintro v _ ⟨rfl, rfl⟩ a fr
  refine fx_val (v := .int .i64 0) fr rfl rfl (by first | decide | simp) (x_assign rfl (fr.ev rfl)) ?_
  clear fr a; intro a fr
  refine wpList_nil ?_
  refine fx_next ?_
  refine wp_seq ?_
  refine wp_seq ?_
  refine wp_region_lit ?_  -- region 2
  refine fx_val (v := .int .i64 0) fr rfl rfl (by first | decide | simp) (x_move rfl (fr.ev rfl)) ?_
  clear fr a; intro a fr
  refine fx_val (v := .bool true) fr rfl rfl (by first | decide | simp) (x_eql rfl (fr.ev rfl) rfl rfl) ?_
  clear fr a; intro a fr
  refine wpList_nil ?_
  refine fx_next ?_
  refine fx_cond_t fr rfl ?_
  refine wp_seq ?_
  refine wp_region_lit ?_  -- region 3
  refine fx_val (v := .agg (msgE.arr (⟨0, 0, 0, 0, bs0⟩))) fr rfl rfl (by first | decide | simp) (x_build (cells := msgE.arr (⟨0, 0, 0, 0, bs0⟩)) rfl (by kernel_rfl)) ?_
  clear fr a; intro a fr
  refine fx_storeS sz26 rfl rfl rfl (fr.ev rfl) (fr.ev rfl) (msgE.all _) B4 (msgE.size _) (msgE.size _) fun w8 hO9 hBq => ?_
  replace hF := hF.loc hO9 (.inr g_b1)
  replace B4 := hBq
  clear hBq
  refine fx_val (v := .bool false) fr rfl rfl (by first | decide | simp) (x_assign rfl rfl) ?_
  clear fr a; intro a fr
  refine wpList_nil ?_
  refine fx_next ?_
  refine wp_ret ?_
  refine fx_rt ?_
  refine fx_ret fr [.cell 4 26, .tmp 5] [.agg (msgE.arr (⟨0, 0, 0, 0, bs0⟩)), .bool false] rfl ⟨⟨_, rfl, loadV_E (E := msgE) ag26 rfl (B4.rangeE msgE)⟩, rfl, trivial⟩ rfl ?_
  exact ⟨_, rfl, rfl, hF⟩
set_option maxRecDepth 100000 in
set_option maxHeartbeats 4000000 in
theorem send_nil (m : Msg) (w : World) : Calls Try.prog 15 #[.pointer none, .agg (msgE.arr m)] w (Ret fun v w' => v = .int .i64 1 ∧ New w w') := by
  have hF := Only.refl (fun _ => False) w
  refine fx_enter Try.func15 rfl (N := (33, [])) (T := [(0, .pointer none), (1, .agg (msgE.arr m))]) rfl (show 2 ≤ 33 by decide) ⟨rfl, rfl, trivial⟩ fun a fr => ?_
  refine wp_seq ?_
  refine wp_region_lit ?_  -- region 0
  refine fx_new fr rfl rfl (by first | decide | simp) (x_box (cs := msgE.arr m) rfl (fr.ev rfl) rfl) ?_
  clear fr a
  intro b1 w2 hN3 B4 hb5 a fr
  have g_b1 := Nat.le_trans hF.size hb5
  replace hF := hF.trNew hN3
  refine fx_val (v := .int .i64 0) fr rfl rfl (by first | decide | simp) (x_assign rfl rfl) ?_
  clear fr a; intro a fr
  refine wpList_nil ?_
  refine fx_next ?_
  refine wp_seq ?_
  refine wp_seq ?_
  refine wp_region_lit ?_  -- region 1
  refine fx_val (v := .pointer none) fr rfl rfl (by first | decide | simp) (x_move rfl (fr.ev rfl)) ?_
  clear fr a; intro a fr
  refine fx_call fr rfl rfl (by first | decide | simp) (x_call (vs := [.pointer none]) rfl rfl ⟨(fr.ev rfl), trivial⟩ Try.func30 nm30 rfl) (none_nil _) ?_
  clear fr a
  rintro v _ ⟨rfl, rfl⟩ a fr
  refine wpList_nil ?_
  refine fx_next ?_
  refine fx_cond_t fr rfl ?_
  refine wp_seq ?_
  refine wp_region_lit ?_  -- region 2
  refine fx_val (v := .int .i64 1) fr rfl rfl (by first | decide | simp) (x_assign rfl rfl) ?_
  clear fr a; intro a fr
  refine wpList_nil ?_
  refine fx_next ?_
  refine wp_ret ?_
  refine fx_rt ?_
  refine fx_ret fr [.tmp 4] [.int .i64 1] rfl ⟨rfl, trivial⟩ rfl ?_
  exact ⟨_, rfl, rfl, hF⟩
set_option maxRecDepth 100000 in
set_option maxHeartbeats 4000000 in
theorem ready_nil (w : World) : Calls Try.prog 17 #[.pointer none] w (Ret fun v w' => v = .slice none 0 0 ∧ w' = w) := by
  refine fx_enter Try.func17 rfl (N := (10, [])) (T := [(0, .pointer none)]) rfl (show 1 ≤ 10 by decide) ⟨rfl, trivial⟩ fun a fr => ?_
  refine wp_seq ?_
  refine wp_region_lit ?_  -- region 0
  refine fx_val (v := .slice none 0 0) fr rfl rfl (by first | decide | simp) (x_assign rfl rfl) ?_
  clear fr a; intro a fr
  refine wpList_nil ?_
  refine fx_next ?_
  refine wp_seq ?_
  refine wp_seq ?_
  refine wp_region_lit ?_  -- region 1
  refine fx_val (v := .pointer none) fr rfl rfl (by first | decide | simp) (x_move rfl (fr.ev rfl)) ?_
  clear fr a; intro a fr
  refine fx_call fr rfl rfl (by first | decide | simp) (x_call (vs := [.pointer none]) rfl rfl ⟨(fr.ev rfl), trivial⟩ Try.func30 nm30 rfl) (none_nil _) ?_
  clear fr a
  rintro v _ ⟨rfl, rfl⟩ a fr
  refine wpList_nil ?_
  refine fx_next ?_
  refine fx_cond_t fr rfl ?_
  refine wp_seq ?_
  refine wp_region_lit ?_  -- region 2
  refine fx_val (v := .slice none 0 0) fr rfl rfl (by first | decide | simp) (x_assign rfl rfl) ?_
  clear fr a; intro a fr
  refine wpList_nil ?_
  refine fx_next ?_
  refine wp_ret ?_
  refine fx_rt ?_
  refine fx_ret fr [.tmp 2] [.slice none 0 0] rfl ⟨rfl, trivial⟩ rfl ?_
  exact ⟨_, rfl, rfl, rfl⟩
set_option maxRecDepth 100000 in
set_option maxHeartbeats 4000000 in
theorem copy_nil (w : World) : Calls Try.prog 26 #[.pointer none] w (Ret fun v w' => v = .pointer none ∧ w' = w) := by
  refine fx_enter Try.func26 rfl (N := (13, [])) (T := [(0, .pointer none)]) rfl (show 1 ≤ 13 by decide) ⟨rfl, trivial⟩ fun a fr => ?_
  refine wp_seq ?_
  refine wp_region_lit ?_  -- region 0
  refine fx_val (v := .pointer none) fr rfl rfl (by first | decide | simp) (x_assign rfl rfl) ?_
  clear fr a; intro a fr
  refine wpList_nil ?_
  refine fx_next ?_
  refine wp_seq ?_
  refine wp_seq ?_
  refine wp_region_lit ?_  -- region 1
  refine fx_val (v := .pointer none) fr rfl rfl (by first | decide | simp) (x_move rfl (fr.ev rfl)) ?_
  clear fr a; intro a fr
  refine fx_call fr rfl rfl (by first | decide | simp) (x_call (vs := [.pointer none]) rfl rfl ⟨(fr.ev rfl), trivial⟩ Try.func30 nm30 rfl) (none_nil _) ?_
  clear fr a
  rintro v _ ⟨rfl, rfl⟩ a fr
  refine wpList_nil ?_
  refine fx_next ?_
  refine fx_cond_t fr rfl ?_
  refine wp_seq ?_
  refine wp_region_lit ?_  -- region 2
  refine fx_val (v := .pointer none) fr rfl rfl (by first | decide | simp) (x_assign rfl rfl) ?_
  clear fr a; intro a fr
  refine wpList_nil ?_
  refine fx_next ?_
  refine wp_ret ?_
  refine fx_rt ?_
  refine fx_ret fr [.tmp 2] [.pointer none] rfl ⟨rfl, trivial⟩ rfl ?_
  exact ⟨_, rfl, rfl, rfl⟩
set_option maxRecDepth 100000 in
set_option maxHeartbeats 4000000 in
theorem same_nn (w : World) : Calls Try.prog 27 #[.pointer none, .pointer none] w (Ret fun v w' => v = .bool true ∧ w' = w) := by
  refine fx_enter Try.func27 rfl (N := (37, [])) (T := [(0, .pointer none), (1, .pointer none)]) rfl (show 2 ≤ 37 by decide) ⟨rfl, rfl, trivial⟩ fun a fr => ?_
  refine wp_seq ?_
  refine wp_region_lit ?_  -- region 0
  refine fx_val (v := .bool false) fr rfl rfl (by first | decide | simp) (x_assign rfl rfl) ?_
  clear fr a; intro a fr
  refine wpList_nil ?_
  refine fx_next ?_
  refine wp_seq ?_
  refine wp_seq ?_
  refine wp_region_lit ?_  -- region 1
  refine fx_val (v := .pointer none) fr rfl rfl (by first | decide | simp) (x_move rfl (fr.ev rfl)) ?_
  clear fr a; intro a fr
  refine fx_call fr rfl rfl (by first | decide | simp) (x_call (vs := [.pointer none]) rfl rfl ⟨(fr.ev rfl), trivial⟩ Try.func30 nm30 rfl) (none_nil _) ?_
  clear fr a
  rintro v _ ⟨rfl, rfl⟩ a fr
  refine fx_val (v := .bool true) fr rfl rfl (by first | decide | simp) (x_move rfl (fr.ev rfl)) ?_
  clear fr a; intro a fr
  refine fx_skip fr (fr.unwant rfl rfl rfl (by decide)) rfl (by first | decide | simp) ?_
  clear fr a; intro a fr
  refine fx_skip fr (fr.unwant rfl rfl rfl (by decide)) rfl (by first | decide | simp) ?_
  clear fr a; intro a fr
  refine fx_val (v := .bool true) fr rfl rfl (by first | decide | simp) (x_pick_t rfl (fr.ev rfl) rfl) ?_
  clear fr a; intro a fr
  refine wpList_nil ?_
  refine fx_next ?_
  refine fx_cond_t fr rfl ?_
  refine wp_seq ?_
  refine wp_region_lit ?_  -- region 2
  refine fx_val (v := .pointer none) fr rfl rfl (by first | decide | simp) (x_move rfl (fr.ev rfl)) ?_
  clear fr a; intro a fr
  refine fx_call fr rfl rfl (by first | decide | simp) (x_call (vs := [.pointer none]) rfl rfl ⟨(fr.ev rfl), trivial⟩ Try.func30 nm30 rfl) (none_nil _) ?_
  clear fr a
  rintro v _ ⟨rfl, rfl⟩ a fr
  refine fx_val (v := .bool true) fr rfl rfl (by first | decide | simp) (x_move rfl (fr.ev rfl)) ?_
  clear fr a; intro a fr
  refine fx_val (v := .pointer none) fr (fr.want rfl rfl rfl) rfl (by first | decide | simp) (x_move rfl (fr.ev rfl)) ?_
  clear fr a; intro a fr
  refine fx_call fr (fr.want rfl rfl rfl) rfl (by first | decide | simp) (x_call (vs := [.pointer none]) rfl rfl ⟨(fr.ev rfl), trivial⟩ Try.func30 nm30 rfl) (none_nil _) ?_
  clear fr a
  rintro v _ ⟨rfl, rfl⟩ a fr
  refine fx_val (v := .bool true) fr rfl rfl (by first | decide | simp) (x_pick_t rfl (fr.ev rfl) (fr.ev rfl)) ?_
  clear fr a; intro a fr
  refine fx_val (v := .bool true) fr rfl rfl (by first | decide | simp) (x_assign rfl (fr.ev rfl)) ?_
  clear fr a; intro a fr
  refine wpList_nil ?_
  refine fx_next ?_
  refine wp_ret ?_
  refine fx_rt ?_
  refine fx_ret fr [.tmp 4] [.bool true] rfl ⟨rfl, trivial⟩ rfl ?_
  exact ⟨_, rfl, rfl, rfl⟩
set_option maxRecDepth 100000 in
set_option maxHeartbeats 4000000 in
theorem same_nx {w : World} {b : Nat} {A : Option Addr} {cap : Nat} {most : Int} {l : List Msg} (h : NetAt w b A cap most l) (hm : most ≠ 0) : Calls Try.prog 27 #[.pointer none, .pointer (some ⟨b, 0, none⟩)] w (Ret fun v w' => v = .bool false ∧ w' = w) := by
  obtain ⟨hB, hO, ap_A_b⟩ := h
  refine fx_enter Try.func27 rfl (N := (37, [])) (T := [(0, .pointer none), (1, .pointer (some ⟨b, 0, none⟩))]) rfl (show 2 ≤ 37 by decide) ⟨rfl, rfl, trivial⟩ fun a fr => ?_
  refine wp_seq ?_
  refine wp_region_lit ?_  -- region 0
  refine fx_val (v := .bool false) fr rfl rfl (by first | decide | simp) (x_assign rfl rfl) ?_
  clear fr a; intro a fr
  refine wpList_nil ?_
  refine fx_next ?_
  refine wp_seq ?_
  refine wp_seq ?_
  refine wp_region_lit ?_  -- region 1
  refine fx_val (v := .pointer none) fr rfl rfl (by first | decide | simp) (x_move rfl (fr.ev rfl)) ?_
  clear fr a; intro a fr
  refine fx_call fr rfl rfl (by first | decide | simp) (x_call (vs := [.pointer none]) rfl rfl ⟨(fr.ev rfl), trivial⟩ Try.func30 nm30 rfl) (none_nil _) ?_
  clear fr a
  rintro v _ ⟨rfl, rfl⟩ a fr
  refine fx_val (v := .bool true) fr rfl rfl (by first | decide | simp) (x_move rfl (fr.ev rfl)) ?_
  clear fr a; intro a fr
  refine fx_skip fr (fr.unwant rfl rfl rfl (by decide)) rfl (by first | decide | simp) ?_
  clear fr a; intro a fr
  refine fx_skip fr (fr.unwant rfl rfl rfl (by decide)) rfl (by first | decide | simp) ?_
  clear fr a; intro a fr
  refine fx_val (v := .bool true) fr rfl rfl (by first | decide | simp) (x_pick_t rfl (fr.ev rfl) rfl) ?_
  clear fr a; intro a fr
  refine wpList_nil ?_
  refine fx_next ?_
  refine fx_cond_t fr rfl ?_
  refine wp_seq ?_
  refine wp_region_lit ?_  -- region 2
  refine fx_val (v := .pointer none) fr rfl rfl (by first | decide | simp) (x_move rfl (fr.ev rfl)) ?_
  clear fr a; intro a fr
  refine fx_call fr rfl rfl (by first | decide | simp) (x_call (vs := [.pointer none]) rfl rfl ⟨(fr.ev rfl), trivial⟩ Try.func30 nm30 rfl) (none_nil _) ?_
  clear fr a
  rintro v _ ⟨rfl, rfl⟩ a fr
  refine fx_val (v := .bool true) fr rfl rfl (by first | decide | simp) (x_move rfl (fr.ev rfl)) ?_
  clear fr a; intro a fr
  refine fx_val (v := .pointer (some ⟨b, 0, none⟩)) fr (fr.want rfl rfl rfl) rfl (by first | decide | simp) (x_move rfl (fr.ev rfl)) ?_
  clear fr a; intro a fr
  refine fx_call fr (fr.want rfl rfl rfl) rfl (by first | decide | simp) (x_call (vs := [.pointer (some ⟨b, 0, none⟩)]) rfl rfl ⟨(fr.ev rfl), trivial⟩ Try.func30 nm30 rfl) (none_some hB hm) ?_
  clear fr a
  rintro v _ ⟨rfl, rfl⟩ a fr
  refine fx_val (v := .bool false) fr rfl rfl (by first | decide | simp) (x_pick_t rfl (fr.ev rfl) (fr.ev rfl)) ?_
  clear fr a; intro a fr
  refine fx_val (v := .bool false) fr rfl rfl (by first | decide | simp) (x_assign rfl (fr.ev rfl)) ?_
  clear fr a; intro a fr
  refine wpList_nil ?_
  refine fx_next ?_
  refine wp_ret ?_
  refine fx_rt ?_
  refine fx_ret fr [.tmp 4] [.bool false] rfl ⟨rfl, trivial⟩ rfl ?_
  exact ⟨_, rfl, rfl, rfl⟩
set_option maxRecDepth 100000 in
set_option maxHeartbeats 4000000 in
theorem same_xn {w : World} {b : Nat} {A : Option Addr} {cap : Nat} {most : Int} {l : List Msg} (h : NetAt w b A cap most l) (hm : most ≠ 0) : Calls Try.prog 27 #[.pointer (some ⟨b, 0, none⟩), .pointer none] w (Ret fun v w' => v = .bool false ∧ w' = w) := by
  obtain ⟨hB, hO, ap_A_b⟩ := h
  refine fx_enter Try.func27 rfl (N := (37, [])) (T := [(0, .pointer (some ⟨b, 0, none⟩)), (1, .pointer none)]) rfl (show 2 ≤ 37 by decide) ⟨rfl, rfl, trivial⟩ fun a fr => ?_
  refine wp_seq ?_
  refine wp_region_lit ?_  -- region 0
  refine fx_val (v := .bool false) fr rfl rfl (by first | decide | simp) (x_assign rfl rfl) ?_
  clear fr a; intro a fr
  refine wpList_nil ?_
  refine fx_next ?_
  refine wp_seq ?_
  refine wp_seq ?_
  refine wp_region_lit ?_  -- region 1
  refine fx_val (v := .pointer (some ⟨b, 0, none⟩)) fr rfl rfl (by first | decide | simp) (x_move rfl (fr.ev rfl)) ?_
  clear fr a; intro a fr
  refine fx_call fr rfl rfl (by first | decide | simp) (x_call (vs := [.pointer (some ⟨b, 0, none⟩)]) rfl rfl ⟨(fr.ev rfl), trivial⟩ Try.func30 nm30 rfl) (none_some hB hm) ?_
  clear fr a
  rintro v _ ⟨rfl, rfl⟩ a fr
  refine fx_val (v := .bool false) fr rfl rfl (by first | decide | simp) (x_move rfl (fr.ev rfl)) ?_
  clear fr a; intro a fr
  refine fx_val (v := .pointer none) fr (fr.want rfl rfl rfl) rfl (by first | decide | simp) (x_move rfl (fr.ev rfl)) ?_
  clear fr a; intro a fr
  refine fx_call fr (fr.want rfl rfl rfl) rfl (by first | decide | simp) (x_call (vs := [.pointer none]) rfl rfl ⟨(fr.ev rfl), trivial⟩ Try.func30 nm30 rfl) (none_nil _) ?_
  clear fr a
  rintro v _ ⟨rfl, rfl⟩ a fr
  refine fx_val (v := .bool true) fr rfl rfl (by first | decide | simp) (x_pick_f rfl (fr.ev rfl) (fr.ev rfl)) ?_
  clear fr a; intro a fr
  refine wpList_nil ?_
  refine fx_next ?_
  refine fx_cond_t fr rfl ?_
  refine wp_seq ?_
  refine wp_region_lit ?_  -- region 2
  refine fx_val (v := .pointer (some ⟨b, 0, none⟩)) fr rfl rfl (by first | decide | simp) (x_move rfl (fr.ev rfl)) ?_
  clear fr a; intro a fr
  refine fx_call fr rfl rfl (by first | decide | simp) (x_call (vs := [.pointer (some ⟨b, 0, none⟩)]) rfl rfl ⟨(fr.ev rfl), trivial⟩ Try.func30 nm30 rfl) (none_some hB hm) ?_
  clear fr a
  rintro v _ ⟨rfl, rfl⟩ a fr
  refine fx_val (v := .bool false) fr rfl rfl (by first | decide | simp) (x_move rfl (fr.ev rfl)) ?_
  clear fr a; intro a fr
  refine fx_skip fr (fr.unwant rfl rfl rfl (by decide)) rfl (by first | decide | simp) ?_
  clear fr a; intro a fr
  refine fx_skip fr (fr.unwant rfl rfl rfl (by decide)) rfl (by first | decide | simp) ?_
  clear fr a; intro a fr
  refine fx_val (v := .bool false) fr rfl rfl (by first | decide | simp) (x_pick_f rfl (fr.ev rfl) rfl) ?_
  clear fr a; intro a fr
  refine fx_val (v := .bool false) fr rfl rfl (by first | decide | simp) (x_assign rfl (fr.ev rfl)) ?_
  clear fr a; intro a fr
  refine wpList_nil ?_
  refine fx_next ?_
  refine wp_ret ?_
  refine fx_rt ?_
  refine fx_ret fr [.tmp 4] [.bool false] rfl ⟨rfl, trivial⟩ rfl ?_
  exact ⟨_, rfl, rfl, rfl⟩
set_option maxRecDepth 100000 in
set_option maxHeartbeats 4000000 in
theorem iter_nil (node : Int) {w : World} : Calls Try.prog 33 #[.pointer none, .int .i64 node] w (Ret fun v w' => ∃ bn bk, v = .func (.func 35) #[] #[.pointer (some ⟨bn, 0, none⟩), .pointer (some ⟨bk, 0, none⟩)] ∧ Blk w' bn 35 #[.pointer none] ∧ Blk w' bk 3 #[.int .i64 node] ∧ w.heap.size ≤ bn ∧ w.heap.size ≤ bk ∧ bn ≠ bk ∧ New w w') := by
  have hF := Only.refl (fun _ => False) w
  refine fx_enter Try.func33 rfl (N := (6, [])) (T := [(0, .pointer none), (1, .int .i64 node)]) rfl (show 2 ≤ 6 by decide) ⟨rfl, rfl, trivial⟩ fun a fr => ?_
  refine wp_seq ?_
  refine wp_region_lit ?_  -- region 0
  refine fx_new fr rfl rfl (by first | decide | simp) (x_box (cs := #[.pointer none]) rfl (fr.ev rfl) rfl) ?_
  clear fr a
  intro b1 w2 hN3 B4 hb5 a fr
  have g_b1 := Nat.le_trans hF.size hb5
  replace hF := hF.trNew hN3
  refine fx_new fr rfl rfl (by first | decide | simp) (x_box (cs := #[.int .i64 node]) rfl (fr.ev rfl) rfl) ?_
  clear fr a
  intro b6 w7 hN8 B9 hb10 a fr
  have ne_b1_b6 : ¬ b1 = b6 := Nat.ne_of_lt (Nat.lt_of_lt_of_le B4.lt hb10)
  have g_b6 := Nat.le_trans hF.size hb10
  replace B4 := B4.new hN8
  replace hF := hF.trNew hN8
  refine fx_val (v := .nilFunc) fr rfl rfl (by first | decide | simp) (x_assign rfl rfl) ?_
  clear fr a; intro a fr
  refine wpList_nil ?_
  refine fx_next ?_
  refine wp_seq ?_
  refine wp_region_lit ?_  -- region 1
  refine fx_val (v := .func (.func 35) #[] #[.pointer (some ⟨b1, 0, none⟩), .pointer (some ⟨b6, 0, none⟩)]) fr rfl rfl (by first | decide | simp) (x_makeFunc (vs := [.pointer (some ⟨b1, 0, none⟩), .pointer (some ⟨b6, 0, none⟩)]) rfl ⟨(fr.ev rfl), (fr.ev rfl), trivial⟩) ?_
  clear fr a; intro a fr
  refine fx_val (v := .func (.func 35) #[] #[.pointer (some ⟨b1, 0, none⟩), .pointer (some ⟨b6, 0, none⟩)]) fr rfl rfl (by first | decide | simp) (x_assign rfl (fr.ev rfl)) ?_
  clear fr a; intro a fr
  refine wpList_nil ?_
  refine fx_next ?_
  refine wp_ret ?_
  refine fx_ret fr [.tmp 4] [.func (.func 35) #[] #[.pointer (some ⟨b1, 0, none⟩), .pointer (some ⟨b6, 0, none⟩)]] rfl ⟨rfl, trivial⟩ rfl ?_
  exact ⟨_, rfl, b1, b6, rfl, B4, B9, (g_b1), (g_b6), ne_b1_b6, hF⟩
set_option maxRecDepth 100000 in
set_option maxHeartbeats 4000000 in
theorem all_stops_nil (node : Int) {w : World} {bn bk : Nat} (Bn : Blk w bn 35 #[.pointer none]) (Bk : Blk w bk 3 #[.int .i64 node]) {S : Nat → Prop} : SeqStopsK Fence.wide 8 Try.prog 35 #[.pointer (some ⟨bn, 0, none⟩), .pointer (some ⟨bk, 0, none⟩)] (fun x => #[.agg (msgE.arr x)]) (Only S) (fun ys => ys = []) (fun pre => pre <+: []) ([] : List Msg).length w := by
  intro y J Jx w1 hW hJ hJx hY h0
  have hn := below_new hW
  replace Bn := Bn.new hn
  replace Bk := Bk.new hn
  show CallsIn Fence.wide 8 Try.prog 35 #[.func (.yield y) #[] #[], .pointer (some ⟨bn, 0, none⟩), .pointer (some ⟨bk, 0, none⟩)] w1 _
  refine (callsIn_wide (n := 8)).2 ?_
  refine fx_enter Try.func35 rfl (N := (28, [])) (T := [(0, .func (.yield y) #[] #[]), (1, .pointer (some ⟨bn, 0, none⟩)), (2, .pointer (some ⟨bk, 0, none⟩))]) rfl (show 3 ≤ 28 by decide) ⟨rfl, rfl, rfl, trivial⟩ fun a fr => ?_
  refine wp_scope_straight ?_
  refine wp_seq ?_
  refine wp_seq ?_
  refine wp_region_lit ?_  -- region 0
  refine fx_val (v := .pointer none) fr rfl rfl (by first | decide | simp) (x_load1 pl35 rfl (fr.ev rfl) (Bn.cell 0 rfl)) ?_
  clear fr a; intro a fr
  refine fx_call fr rfl rfl (by first | decide | simp) (x_call (vs := [.pointer none]) rfl rfl ⟨(fr.ev rfl), trivial⟩ Try.func30 nm30 rfl) (none_nil _) ?_
  clear fr a
  rintro v _ ⟨rfl, rfl⟩ a fr
  refine wpList_nil ?_
  refine fx_next ?_
  refine fx_cond_t fr rfl ?_
  refine wp_ret ?_
  refine fx_rt ?_
  refine fx_sr ?_
  refine fx_ret fr [] [] rfl trivial rfl ?_
  exact ⟨⟨_, rfl⟩, .inl ⟨_, rfl, h0⟩⟩
set_option maxRecDepth 100000 in
set_option maxHeartbeats 4000000 in
theorem to_nil (node : Int) {w : World} : Calls Try.prog 25 #[.pointer none, .int .i64 node] w (Ret fun v w' => ∃ A' cap', v = .slice A' 0 cap' ∧ New w w') := by
  have hF := Only.refl (fun _ => False) w
  refine fx_enterM Try.func25 rfl (N := (16, [])) (T := [(0, .pointer none), (1, .int .i64 node)]) rfl (show 2 ≤ 16 by decide) ⟨rfl, rfl, trivial⟩ fun a fr => ?_
  refine wp_seq ?_
  refine wp_region_lit ?_  -- region 0
  refine fx_val (v := .slice none 0 0) fr rfl rfl (by first | decide | simp) (x_assign rfl rfl) ?_
  clear fr a; intro a fr
  refine wpList_nil ?_
  refine fx_next ?_
  refine wp_seq ?_
  refine wp_region_lit ?_  -- region 1
  refine fx_new fr rfl rfl (by first | decide | simp) (x_alloc (z := .slice none 0 0) (cs := #[.slice none 0 0]) rfl (by kernel_rfl) rfl) ?_
  clear fr a
  intro b1 w2 hN3 B4 hb5 a fr
  have g_b1 := Nat.le_trans hF.size hb5
  replace hF := hF.trNew hN3
  refine wpList_nil ?_
  refine fx_next ?_
  refine wp_seq ?_
  refine wp_seq ?_
  refine wp_region_lit ?_  -- region 2
  refine fx_val (v := .pointer none) fr rfl rfl (by first | decide | simp) (x_move rfl (fr.ev rfl)) ?_
  clear fr a; intro a fr
  refine fx_val (v := .int .i64 node) fr rfl rfl (by first | decide | simp) (x_move rfl (fr.ev rfl)) ?_
  clear fr a; intro a fr
  refine fx_call fr rfl rfl (by first | decide | simp) (x_call (vs := [.pointer none, .int .i64 node]) rfl rfl ⟨(fr.ev rfl), (fr.ev rfl), trivial⟩ Try.func33 nm33 rfl) (iter_nil node) ?_
  clear fr a
  rintro v w6 ⟨bn, bk, rfl, Bn, Bk, hbn, hbk, hnk, hN7⟩ a fr
  have ne_b1_bn : ¬ b1 = bn := Nat.ne_of_lt (Nat.lt_of_lt_of_le B4.lt hbn)
  have g_bn := Nat.le_trans hF.size hbn
  have ne_b1_bk : ¬ b1 = bk := Nat.ne_of_lt (Nat.lt_of_lt_of_le B4.lt hbk)
  have g_bk := Nat.le_trans hF.size hbk
  replace B4 := B4.new hN7
  replace hF := hF.trNew hN7
  refine wpList_nil ?_
  refine fx_next ?_
  refine wp_block ?_
  refine fx_collect (E := msgE) (xs := []) (bo := b1) (z := .agg (msgE.arr msg0)) el38 ag26 sz26 sz38 pl38 (by kernel_rfl) (msgE.size _) (by decide) fr rfl rfl (enters_of Try.func35 nm35 rfl) (all_stops_nil node Bn Bk) B4 (by simp) (by simp) (by decide) (by decide) rfl rfl rfl rfl rfl rfl rfl rfl rfl rfl rfl rfl rfl rfl rfl rfl rfl rfl rfl rfl rfl ?_
  clear fr a
  intro D A1 c1 w1 hD hD_D Bo1 O1 hA1 hC a fr
  have g_D := Nat.le_trans hF.size hD
  have ap_A1_b1 : Apart A1 b1 := new_apart hA1 B4.lt
  have ap_A1_bn : Apart A1 bn := new_apart hA1 Bn.lt
  have ap_A1_bk : Apart A1 bk := new_apart hA1 Bk.lt
  have gA_A1 := gA_new hF hA1
  replace Bn := Bn.only hC (by show ¬ bn = b1; omega)
  replace Bk := Bk.only hC (by show ¬ bk = b1; omega)
  replace hF := hF.loc hC (.inr g_b1)
  refine fx_blk ?_
  refine fx_next ?_
  refine wp_seq ?_
  refine wp_region_lit ?_  -- region 5
  refine fx_val (v := .slice A1 (([] : List Msg).length) c1) fr rfl rfl (by first | decide | simp) (x_load1 pl38 rfl (fr.ev rfl) (Bo1.cell 0 rfl)) ?_
  clear fr a; intro a fr
  refine fx_val (v := .slice A1 (([] : List Msg).length) c1) fr rfl rfl (by first | decide | simp) (x_assign rfl (fr.ev rfl)) ?_
  clear fr a; intro a fr
  refine wpList_nil ?_
  refine fx_next ?_
  refine wp_ret ?_
  refine fx_retM1 fr g_D hD_D [.tmp 4] [.slice A1 (([] : List Msg).length) c1] rfl rfl ?_
  intro wE hT
  replace Bn := Bn.turn hT
  replace Bk := Bk.turn hT
  replace Bo1 := Bo1.turn hT
  replace O1 := O1.turn hT
  replace hF := hF.turn hT (Nat.le_refl _)
  refine ⟨⟨rfl, trivial⟩, ?_⟩
  exact ⟨_, rfl, A1, c1, rfl, hF⟩
set_option maxRecDepth 100000 in
set_option maxHeartbeats 4000000 in
theorem copy_c {w : World} {b : Nat} {A : Option Addr} {cap : Nat} {most : Int} {l : List Msg} (h : NetAt w b A cap most l) (hm : most ≠ 0) (hl : l.length ≤ 100000) : Calls Try.prog 26 #[.pointer (some ⟨b, 0, none⟩)] w (Ret fun v w' => ∃ b' A' cap', v = .pointer (some ⟨b', 0, none⟩) ∧ NetAt w' b' A' cap' most l ∧ w.heap.size ≤ b' ∧ (∀ g, inA A' g → w.heap.size ≤ g) ∧ New w w') := by
  obtain ⟨hB, hO, ap_A_b⟩ := h
  have hF := Only.refl (fun _ => False) w
  refine fx_enter Try.func26 rfl (N := (13, [])) (T := [(0, .pointer (some ⟨b, 0, none⟩))]) rfl (show 1 ≤ 13 by decide) ⟨rfl, trivial⟩ fun a fr => ?_
  refine wp_seq ?_
  refine wp_region_lit ?_  -- region 0
  refine fx_val (v := .pointer none) fr rfl rfl (by first | decide | simp) (x_assign rfl rfl) ?_
  clear fr a; intro a fr
  refine wpList_nil ?_
  refine fx_next ?_
  refine wp_seq ?_
  refine wp_seq ?_
  refine wp_region_lit ?_  -- region 1
  refine fx_val (v := .pointer (some ⟨b, 0, none⟩)) fr rfl rfl (by first | decide | simp) (x_move rfl (fr.ev rfl)) ?_
  clear fr a; intro a fr
  refine fx_call fr rfl rfl (by first | decide | simp) (x_call (vs := [.pointer (some ⟨b, 0, none⟩)]) rfl rfl ⟨(fr.ev rfl), trivial⟩ Try.func30 nm30 rfl) (none_some hB hm) ?_
  clear fr a
  rintro v _ ⟨rfl, rfl⟩ a fr
  refine wpList_nil ?_
  refine fx_next ?_
  refine fx_cond_f fr rfl ?_
  refine wp_skip ?_
  refine fx_next ?_
  refine wp_seq ?_
  refine fx_heldT (n := 8) (k := 8) (fun w => Blk w b 71 #[.slice A l.length cap, .int .i64 most] ∧ Own msgE w A cap l ∧ True) (by kernel_rfl) (by kernel_rfl) rfl ?_  -- region 3
  intro w3 hN4
  replace hB := hB.new hN4
  replace hO := hO.new hN4
  replace hF := hF.trNew hN4
  refine fx_take (i := 0) (v := .pointer (some ⟨b, 0, none⟩)) fr rfl (by kernel_rfl) rfl rfl (by first | decide | simp) (fun _ _ _ h => h) (fun _ ⟨hB, hO, _⟩ => x_move rfl (fr.ev rfl)) ⟨hB, hO, trivial⟩ ?_
  clear fr a; intro a fr
  refine fx_take (i := 2) (v := .pointer (some ⟨b, 0, none⟩)) fr rfl (by kernel_rfl) rfl rfl (by first | decide | simp) (fun _ _ _ h => h) (fun _ ⟨hB, hO, _⟩ => x_move rfl (fr.ev rfl)) ⟨hB, hO, trivial⟩ ?_
  clear fr a; intro a fr
  refine fx_take (i := 3) (v := .pointer (some ⟨b, 0, none⟩)) fr rfl (by kernel_rfl) rfl rfl (by first | decide | simp) (fun _ _ _ h => h) (fun _ ⟨hB, hO, _⟩ => x_nilCheck rfl (fr.ev rfl)) ⟨hB, hO, trivial⟩ ?_
  clear fr a; intro a fr
  refine fx_take (i := 4) (v := .pointer (some ⟨b, 1, none⟩)) fr rfl (by kernel_rfl) rfl rfl (by first | decide | simp) (fun _ _ _ h => h) (fun _ ⟨hB, hO, _⟩ => x_fieldAddr fo71_1 rfl (fr.ev rfl) rfl) ⟨hB, hO, trivial⟩ ?_
  clear fr a; intro a fr
  refine fx_take (i := 5) (v := .int .i64 most) fr rfl (by kernel_rfl) rfl rfl (by first | decide | simp) (fun _ _ _ h => h) (fun _ ⟨hB, hO, _⟩ => x_load1 pl3 rfl (fr.ev rfl) (hB.cell 1 rfl)) ⟨hB, hO, trivial⟩ ?_
  clear fr a; intro a fr
  refine fx_one (i := 1) (by kernel_rfl) (fx_op rfl ?_)
  refine fx_call fr rfl rfl (by first | decide | simp) (x_call (vs := [.pointer (some ⟨b, 0, none⟩)]) rfl rfl ⟨(fr.ev rfl), trivial⟩ Try.func17 nm17 rfl) (ready_c ⟨hB, hO, ap_A_b⟩ hm hl) ?_
  clear fr a
  rintro v w5 ⟨A1, c1, rfl, O1, hA1, hN6⟩ a fr
  have ap_A1_b : Apart A1 b := new_apart hA1 hB.lt
  have ap2_A_A1 : Apart2 A A1 := (new_apart2 hA1 fun _ hg => hO.lt hg).symm
  have gA_A1 := gA_new hF hA1
  replace hB := hB.new hN6
  replace hO := hO.new hN6
  replace hF := hF.trNew hN6
  refine wpList_nil ?_
  refine ⟨⟨hB, hO, trivial⟩, ?_⟩
  refine fx_take (i := 6) (v := .agg (#[.slice A1 l.length c1, .int .i64 most])) fr rfl (by kernel_rfl) rfl rfl (by first | decide | simp) (fun _ _ _ h => h) (fun _ ⟨hB, hO, _⟩ => x_build (cells := #[.slice A1 l.length c1, .int .i64 most]) rfl (by simp only [List.map_toArray, List.map_cons, List.map_nil, show a.eval (.tmp 6) = .slice A1 l.length c1 from fr.ev rfl, show a.eval (.tmp 10) = .int .i64 most from fr.ev rfl]; kernel_rfl)) ⟨hB, hO, trivial⟩ ?_
  clear fr a; intro a fr
  refine fx_one (i := 7) (by kernel_rfl) (fx_op rfl ?_)
  refine fx_new fr rfl rfl (by first | decide | simp) (x_box (cs := #[.slice A1 l.length c1, .int .i64 most]) rfl (fr.ev rfl) rfl) ?_
  clear fr a
  intro b7 w8 hN9 B10 hb11 a fr
  have ne_b_b7 : ¬ b = b7 := Nat.ne_of_lt (Nat.lt_of_lt_of_le hB.lt hb11)
  have ap_A_b7 : Apart A b7 := hO.apart hb11
  have ap_A1_b7 : Apart A1 b7 := O1.apart hb11
  have g_b7 := Nat.le_trans hF.size hb11
  replace hB := hB.new hN9
  replace hO := hO.new hN9
  replace O1 := O1.new hN9
  replace hF := hF.trNew hN9
  refine wpList_nil ?_
  refine ⟨⟨hB, hO, trivial⟩, ?_⟩
  refine fx_hdone (by kernel_rfl) ?_
  refine fx_tail ?_
  refine fx_val (v := .pointer (some ⟨b7, 0, none⟩)) fr rfl rfl (by first | decide | simp) (x_assign rfl (fr.ev rfl)) ?_
  clear fr a; intro a fr
  refine wpList_nil ?_
  refine fx_next ?_
  refine wp_ret ?_
  refine fx_ret fr [.tmp 2] [.pointer (some ⟨b7, 0, none⟩)] rfl ⟨rfl, trivial⟩ rfl ?_
  exact ⟨_, rfl, b7, A1, c1, rfl, ⟨B10, O1, ap_A1_b7⟩, (g_b7), (fun g hg => (gA_A1 g hg).resolve_left id), hF⟩
set_option maxRecDepth 100000 in
set_option maxHeartbeats 4000000 in
theorem same_xx {w : World} {b b2 : Nat} {A A2 : Option Addr} {cap cap2 : Nat} {most most2 : Int} {l l2 : List Msg} (h : NetAt w b A cap most l) (h2 : NetAt w b2 A2 cap2 most2 l2) (hm : most ≠ 0) (hm2 : most2 ≠ 0) : Calls Try.prog 27 #[.pointer (some ⟨b, 0, none⟩), .pointer (some ⟨b2, 0, none⟩)] w (Ret fun v w' => v = .bool (decide (most = most2) && decide (l = l2)) ∧ New w w') := by
  obtain ⟨hB, hO, ap_A_b⟩ := h
  obtain ⟨hB2, hO2, ap_A2_b2⟩ := h2
  have hF := Only.refl (fun _ => False) w
  refine fx_enter Try.func27 rfl (N := (37, [])) (T := [(0, .pointer (some ⟨b, 0, none⟩)), (1, .pointer (some ⟨b2, 0, none⟩))]) rfl (show 2 ≤ 37 by decide) ⟨rfl, rfl, trivial⟩ fun a fr => ?_
  refine wp_seq ?_
  refine wp_region_lit ?_  -- region 0
  refine fx_val (v := .bool false) fr rfl rfl (by first | decide | simp) (x_assign rfl rfl) ?_
  clear fr a; intro a fr
  refine wpList_nil ?_
  refine fx_next ?_
  refine wp_seq ?_
  refine wp_seq ?_
  refine wp_region_lit ?_  -- region 1
  refine fx_val (v := .pointer (some ⟨b, 0, none⟩)) fr rfl rfl (by first | decide | simp) (x_move rfl (fr.ev rfl)) ?_
  clear fr a; intro a fr
  refine fx_call fr rfl rfl (by first | decide | simp) (x_call (vs := [.pointer (some ⟨b, 0, none⟩)]) rfl rfl ⟨(fr.ev rfl), trivial⟩ Try.func30 nm30 rfl) (none_some hB hm) ?_
  clear fr a
  rintro v _ ⟨rfl, rfl⟩ a fr
  refine fx_val (v := .bool false) fr rfl rfl (by first | decide | simp) (x_move rfl (fr.ev rfl)) ?_
  clear fr a; intro a fr
  refine fx_val (v := .pointer (some ⟨b2, 0, none⟩)) fr (fr.want rfl rfl rfl) rfl (by first | decide | simp) (x_move rfl (fr.ev rfl)) ?_
  clear fr a; intro a fr
  refine fx_call fr (fr.want rfl rfl rfl) rfl (by first | decide | simp) (x_call (vs := [.pointer (some ⟨b2, 0, none⟩)]) rfl rfl ⟨(fr.ev rfl), trivial⟩ Try.func30 nm30 rfl) (none_some hB2 hm2) ?_
  clear fr a
  rintro v _ ⟨rfl, rfl⟩ a fr
  refine fx_val (v := .bool false) fr rfl rfl (by first | decide | simp) (x_pick_f rfl (fr.ev rfl) (fr.ev rfl)) ?_
  clear fr a; intro a fr
  refine wpList_nil ?_
  refine fx_next ?_
  refine fx_cond_f fr rfl ?_
  refine wp_skip ?_
  refine fx_next ?_
  refine wp_seq ?_
  rcases Decidable.em (most = most2) with hq | hq
  · skip
    refine fx_heldT (n := 20) (k := 20) (fun w => Blk w b 71 #[.slice A l.length cap, .int .i64 most] ∧ Own msgE w A cap l ∧ Blk w b2 71 #[.slice A2 l2.length cap2, .int .i64 most2] ∧ Own msgE w A2 cap2 l2 ∧ True) (by kernel_rfl) (by kernel_rfl) rfl ?_  -- region 3
    intro w5 hN6
    replace hB := hB.new hN6
    replace hO := hO.new hN6
    replace hB2 := hB2.new hN6
    replace hO2 := hO2.new hN6
    replace hF := hF.trNew hN6
    refine fx_take (i := 0) (v := .pointer (some ⟨b, 0, none⟩)) fr rfl (by kernel_rfl) rfl rfl (by first | decide | simp) (fun _ _ _ h => h) (fun _ ⟨hB, hO, hB2, hO2, _⟩ => x_move rfl (fr.ev rfl)) ⟨hB, hO, hB2, hO2, trivial⟩ ?_
    clear fr a; intro a fr
    refine fx_take (i := 1) (v := .pointer (some ⟨b, 0, none⟩)) fr rfl (by kernel_rfl) rfl rfl (by first | decide | simp) (fun _ _ _ h => h) (fun _ ⟨hB, hO, hB2, hO2, _⟩ => x_nilCheck rfl (fr.ev rfl)) ⟨hB, hO, hB2, hO2, trivial⟩ ?_
    clear fr a; intro a fr
    refine fx_take (i := 2) (v := .pointer (some ⟨b, 1, none⟩)) fr rfl (by kernel_rfl) rfl rfl (by first | decide | simp) (fun _ _ _ h => h) (fun _ ⟨hB, hO, hB2, hO2, _⟩ => x_fieldAddr fo71_1 rfl (fr.ev rfl) rfl) ⟨hB, hO, hB2, hO2, trivial⟩ ?_
    clear fr a; intro a fr
    refine fx_take (i := 3) (v := .int .i64 most) fr rfl (by kernel_rfl) rfl rfl (by first | decide | simp) (fun _ _ _ h => h) (fun _ ⟨hB, hO, hB2, hO2, _⟩ => x_load1 pl3 rfl (fr.ev rfl) (hB.cell 1 rfl)) ⟨hB, hO, hB2, hO2, trivial⟩ ?_
    clear fr a; intro a fr
    refine fx_take (i := 4) (v := .pointer (some ⟨b2, 0, none⟩)) fr rfl (by kernel_rfl) rfl rfl (by first | decide | simp) (fun _ _ _ h => h) (fun _ ⟨hB, hO, hB2, hO2, _⟩ => x_move rfl (fr.ev rfl)) ⟨hB, hO, hB2, hO2, trivial⟩ ?_
    clear fr a; intro a fr
    refine fx_take (i := 5) (v := .pointer (some ⟨b2, 0, none⟩)) fr rfl (by kernel_rfl) rfl rfl (by first | decide | simp) (fun _ _ _ h => h) (fun _ ⟨hB, hO, hB2, hO2, _⟩ => x_nilCheck rfl (fr.ev rfl)) ⟨hB, hO, hB2, hO2, trivial⟩ ?_
    clear fr a; intro a fr
    refine fx_take (i := 6) (v := .pointer (some ⟨b2, 1, none⟩)) fr rfl (by kernel_rfl) rfl rfl (by first | decide | simp) (fun _ _ _ h => h) (fun _ ⟨hB, hO, hB2, hO2, _⟩ => x_fieldAddr fo71_1 rfl (fr.ev rfl) rfl) ⟨hB, hO, hB2, hO2, trivial⟩ ?_
    clear fr a; intro a fr
    refine fx_take (i := 7) (v := .int .i64 most2) fr rfl (by kernel_rfl) rfl rfl (by first | decide | simp) (fun _ _ _ h => h) (fun _ ⟨hB, hO, hB2, hO2, _⟩ => x_load1 pl3 rfl (fr.ev rfl) (hB2.cell 1 rfl)) ⟨hB, hO, hB2, hO2, trivial⟩ ?_
    clear fr a; intro a fr
    refine fx_take (i := 8) (v := .bool true) fr rfl (by kernel_rfl) rfl rfl (by first | decide | simp) (fun _ _ _ h => h) (fun _ ⟨hB, hO, hB2, hO2, _⟩ => x_eql rfl (fr.ev rfl) (fr.ev rfl) (decide_eq_true hq)) ⟨hB, hO, hB2, hO2, trivial⟩ ?_
    clear fr a; intro a fr
    refine fx_take (i := 9) (v := .bool true) fr rfl (by kernel_rfl) rfl rfl (by first | decide | simp) (fun _ _ _ h => h) (fun _ ⟨hB, hO, hB2, hO2, _⟩ => x_move rfl (fr.ev rfl)) ⟨hB, hO, hB2, hO2, trivial⟩ ?_
    clear fr a; intro a fr
    refine fx_take (i := 10) (v := .pointer (some ⟨b, 0, none⟩)) fr rfl (by kernel_rfl) (fr.want rfl rfl rfl) rfl (by first | decide | simp) (fun _ _ _ h => h) (fun _ ⟨hB, hO, hB2, hO2, _⟩ => x_move rfl (fr.ev rfl)) ⟨hB, hO, hB2, hO2, trivial⟩ ?_
    clear fr a; intro a fr
    refine fx_take (i := 11) (v := .pointer (some ⟨b, 0, none⟩)) fr rfl (by kernel_rfl) (fr.want rfl rfl rfl) rfl (by first | decide | simp) (fun _ _ _ h => h) (fun _ ⟨hB, hO, hB2, hO2, _⟩ => x_nilCheck rfl (fr.ev rfl)) ⟨hB, hO, hB2, hO2, trivial⟩ ?_
    clear fr a; intro a fr
    refine fx_take (i := 12) (v := .pointer (some ⟨b, 0, none⟩)) fr rfl (by kernel_rfl) (fr.want rfl rfl rfl) rfl (by first | decide | simp) (fun _ _ _ h => h) (fun _ ⟨hB, hO, hB2, hO2, _⟩ => x_fieldAddr fo71_0 rfl (fr.ev rfl) rfl) ⟨hB, hO, hB2, hO2, trivial⟩ ?_
    clear fr a; intro a fr
    refine fx_take (i := 13) (v := .slice A l.length cap) fr rfl (by kernel_rfl) (fr.want rfl rfl rfl) rfl (by first | decide | simp) (fun _ _ _ h => h) (fun _ ⟨hB, hO, hB2, hO2, _⟩ => x_load1 pl38 rfl (fr.ev rfl) (hB.cell 0 rfl)) ⟨hB, hO, hB2, hO2, trivial⟩ ?_
    clear fr a; intro a fr
    refine fx_take (i := 14) (v := .pointer (some ⟨b2, 0, none⟩)) fr rfl (by kernel_rfl) (fr.want rfl rfl rfl) rfl (by first | decide | simp) (fun _ _ _ h => h) (fun _ ⟨hB, hO, hB2, hO2, _⟩ => x_move rfl (fr.ev rfl)) ⟨hB, hO, hB2, hO2, trivial⟩ ?_
    clear fr a; intro a fr
    refine fx_take (i := 15) (v := .pointer (some ⟨b2, 0, none⟩)) fr rfl (by kernel_rfl) (fr.want rfl rfl rfl) rfl (by first | decide | simp) (fun _ _ _ h => h) (fun _ ⟨hB, hO, hB2, hO2, _⟩ => x_nilCheck rfl (fr.ev rfl)) ⟨hB, hO, hB2, hO2, trivial⟩ ?_
    clear fr a; intro a fr
    refine fx_take (i := 16) (v := .pointer (some ⟨b2, 0, none⟩)) fr rfl (by kernel_rfl) (fr.want rfl rfl rfl) rfl (by first | decide | simp) (fun _ _ _ h => h) (fun _ ⟨hB, hO, hB2, hO2, _⟩ => x_fieldAddr fo71_0 rfl (fr.ev rfl) rfl) ⟨hB, hO, hB2, hO2, trivial⟩ ?_
    clear fr a; intro a fr
    refine fx_take (i := 17) (v := .slice A2 l2.length cap2) fr rfl (by kernel_rfl) (fr.want rfl rfl rfl) rfl (by first | decide | simp) (fun _ _ _ h => h) (fun _ ⟨hB, hO, hB2, hO2, _⟩ => x_load1 pl38 rfl (fr.ev rfl) (hB2.cell 0 rfl)) ⟨hB, hO, hB2, hO2, trivial⟩ ?_
    clear fr a; intro a fr
    refine fx_one (i := 18) (by kernel_rfl) (fx_op rfl ?_)
    refine fx_call fr (fr.want rfl rfl rfl) rfl (by first | decide | simp) (x_call (vs := [.slice A l.length cap, .slice A2 l2.length cap2]) rfl rfl ⟨(fr.ev rfl), (fr.ev rfl), trivial⟩ Try.func34 nm34 rfl) (equal_c (hO.view) (hO2.view)) ?_
    clear fr a
    rintro v w7 ⟨rfl, hN8⟩ a fr
    replace hB := hB.new hN8
    replace hO := hO.new hN8
    replace hB2 := hB2.new hN8
    replace hO2 := hO2.new hN8
    replace hF := hF.trNew hN8
    refine wpList_nil ?_
    refine ⟨⟨hB, hO, hB2, hO2, trivial⟩, ?_⟩
    refine fx_take (i := 19) (v := .bool (decide (l = l2))) fr rfl (by kernel_rfl) rfl rfl (by first | decide | simp) (fun _ _ _ h => h) (fun _ ⟨hB, hO, hB2, hO2, _⟩ => x_pick_t rfl (fr.ev rfl) (fr.ev rfl)) ⟨hB, hO, hB2, hO2, trivial⟩ ?_
    clear fr a; intro a fr
    refine fx_hdone (by kernel_rfl) ?_
    refine fx_tail ?_
    refine fx_val (v := .bool (decide (l = l2))) fr rfl rfl (by first | decide | simp) (x_assign rfl (fr.ev rfl)) ?_
    clear fr a; intro a fr
    refine wpList_nil ?_
    refine fx_next ?_
    refine wp_ret ?_
    refine fx_ret fr [.tmp 4] [.bool (decide (l = l2))] rfl ⟨rfl, trivial⟩ rfl ?_
    exact ⟨_, rfl, congrArg Value.bool (by simp [hq]), hF⟩
  · skip
    refine fx_heldT (n := 20) (k := 20) (fun w => Blk w b 71 #[.slice A l.length cap, .int .i64 most] ∧ Own msgE w A cap l ∧ Blk w b2 71 #[.slice A2 l2.length cap2, .int .i64 most2] ∧ Own msgE w A2 cap2 l2 ∧ True) (by kernel_rfl) (by kernel_rfl) rfl ?_  -- region 3
    intro w9 hN10
    replace hB := hB.new hN10
    replace hO := hO.new hN10
    replace hB2 := hB2.new hN10
    replace hO2 := hO2.new hN10
    replace hF := hF.trNew hN10
    refine fx_take (i := 0) (v := .pointer (some ⟨b, 0, none⟩)) fr rfl (by kernel_rfl) rfl rfl (by first | decide | simp) (fun _ _ _ h => h) (fun _ ⟨hB, hO, hB2, hO2, _⟩ => x_move rfl (fr.ev rfl)) ⟨hB, hO, hB2, hO2, trivial⟩ ?_
    clear fr a; intro a fr
    refine fx_take (i := 1) (v := .pointer (some ⟨b, 0, none⟩)) fr rfl (by kernel_rfl) rfl rfl (by first | decide | simp) (fun _ _ _ h => h) (fun _ ⟨hB, hO, hB2, hO2, _⟩ => x_nilCheck rfl (fr.ev rfl)) ⟨hB, hO, hB2, hO2, trivial⟩ ?_
    clear fr a; intro a fr
    refine fx_take (i := 2) (v := .pointer (some ⟨b, 1, none⟩)) fr rfl (by kernel_rfl) rfl rfl (by first | decide | simp) (fun _ _ _ h => h) (fun _ ⟨hB, hO, hB2, hO2, _⟩ => x_fieldAddr fo71_1 rfl (fr.ev rfl) rfl) ⟨hB, hO, hB2, hO2, trivial⟩ ?_
    clear fr a; intro a fr
    refine fx_take (i := 3) (v := .int .i64 most) fr rfl (by kernel_rfl) rfl rfl (by first | decide | simp) (fun _ _ _ h => h) (fun _ ⟨hB, hO, hB2, hO2, _⟩ => x_load1 pl3 rfl (fr.ev rfl) (hB.cell 1 rfl)) ⟨hB, hO, hB2, hO2, trivial⟩ ?_
    clear fr a; intro a fr
    refine fx_take (i := 4) (v := .pointer (some ⟨b2, 0, none⟩)) fr rfl (by kernel_rfl) rfl rfl (by first | decide | simp) (fun _ _ _ h => h) (fun _ ⟨hB, hO, hB2, hO2, _⟩ => x_move rfl (fr.ev rfl)) ⟨hB, hO, hB2, hO2, trivial⟩ ?_
    clear fr a; intro a fr
    refine fx_take (i := 5) (v := .pointer (some ⟨b2, 0, none⟩)) fr rfl (by kernel_rfl) rfl rfl (by first | decide | simp) (fun _ _ _ h => h) (fun _ ⟨hB, hO, hB2, hO2, _⟩ => x_nilCheck rfl (fr.ev rfl)) ⟨hB, hO, hB2, hO2, trivial⟩ ?_
    clear fr a; intro a fr
    refine fx_take (i := 6) (v := .pointer (some ⟨b2, 1, none⟩)) fr rfl (by kernel_rfl) rfl rfl (by first | decide | simp) (fun _ _ _ h => h) (fun _ ⟨hB, hO, hB2, hO2, _⟩ => x_fieldAddr fo71_1 rfl (fr.ev rfl) rfl) ⟨hB, hO, hB2, hO2, trivial⟩ ?_
    clear fr a; intro a fr
    refine fx_take (i := 7) (v := .int .i64 most2) fr rfl (by kernel_rfl) rfl rfl (by first | decide | simp) (fun _ _ _ h => h) (fun _ ⟨hB, hO, hB2, hO2, _⟩ => x_load1 pl3 rfl (fr.ev rfl) (hB2.cell 1 rfl)) ⟨hB, hO, hB2, hO2, trivial⟩ ?_
    clear fr a; intro a fr
    refine fx_take (i := 8) (v := .bool false) fr rfl (by kernel_rfl) rfl rfl (by first | decide | simp) (fun _ _ _ h => h) (fun _ ⟨hB, hO, hB2, hO2, _⟩ => x_eql rfl (fr.ev rfl) (fr.ev rfl) (decide_eq_false hq)) ⟨hB, hO, hB2, hO2, trivial⟩ ?_
    clear fr a; intro a fr
    refine fx_take (i := 9) (v := .bool false) fr rfl (by kernel_rfl) rfl rfl (by first | decide | simp) (fun _ _ _ h => h) (fun _ ⟨hB, hO, hB2, hO2, _⟩ => x_move rfl (fr.ev rfl)) ⟨hB, hO, hB2, hO2, trivial⟩ ?_
    clear fr a; intro a fr
    refine fx_takeskip (i := 10) fr rfl (by kernel_rfl) (fr.unwant rfl rfl rfl (by decide)) rfl (by first | decide | simp) (fun _ _ _ h => h) ⟨hB, hO, hB2, hO2, trivial⟩ ?_
    clear fr a; intro a fr
    refine fx_takeskip (i := 11) fr rfl (by kernel_rfl) (fr.unwant rfl rfl rfl (by decide)) rfl (by first | decide | simp) (fun _ _ _ h => h) ⟨hB, hO, hB2, hO2, trivial⟩ ?_
    clear fr a; intro a fr
    refine fx_takeskip (i := 12) fr rfl (by kernel_rfl) (fr.unwant rfl rfl rfl (by decide)) rfl (by first | decide | simp) (fun _ _ _ h => h) ⟨hB, hO, hB2, hO2, trivial⟩ ?_
    clear fr a; intro a fr
    refine fx_takeskip (i := 13) fr rfl (by kernel_rfl) (fr.unwant rfl rfl rfl (by decide)) rfl (by first | decide | simp) (fun _ _ _ h => h) ⟨hB, hO, hB2, hO2, trivial⟩ ?_
    clear fr a; intro a fr
    refine fx_takeskip (i := 14) fr rfl (by kernel_rfl) (fr.unwant rfl rfl rfl (by decide)) rfl (by first | decide | simp) (fun _ _ _ h => h) ⟨hB, hO, hB2, hO2, trivial⟩ ?_
    clear fr a; intro a fr
    refine fx_takeskip (i := 15) fr rfl (by kernel_rfl) (fr.unwant rfl rfl rfl (by decide)) rfl (by first | decide | simp) (fun _ _ _ h => h) ⟨hB, hO, hB2, hO2, trivial⟩ ?_
    clear fr a; intro a fr
    refine fx_takeskip (i := 16) fr rfl (by kernel_rfl) (fr.unwant rfl rfl rfl (by decide)) rfl (by first | decide | simp) (fun _ _ _ h => h) ⟨hB, hO, hB2, hO2, trivial⟩ ?_
    clear fr a; intro a fr
    refine fx_takeskip (i := 17) fr rfl (by kernel_rfl) (fr.unwant rfl rfl rfl (by decide)) rfl (by first | decide | simp) (fun _ _ _ h => h) ⟨hB, hO, hB2, hO2, trivial⟩ ?_
    clear fr a; intro a fr
    refine fx_takeskip (i := 18) fr rfl (by kernel_rfl) (fr.unwant rfl rfl rfl (by decide)) rfl (by first | decide | simp) (fun _ _ _ h => h) ⟨hB, hO, hB2, hO2, trivial⟩ ?_
    clear fr a; intro a fr
    refine fx_take (i := 19) (v := .bool false) fr rfl (by kernel_rfl) rfl rfl (by first | decide | simp) (fun _ _ _ h => h) (fun _ ⟨hB, hO, hB2, hO2, _⟩ => x_pick_f rfl (fr.ev rfl) rfl) ⟨hB, hO, hB2, hO2, trivial⟩ ?_
    clear fr a; intro a fr
    refine fx_hdone (by kernel_rfl) ?_
    refine fx_tail ?_
    refine fx_val (v := .bool false) fr rfl rfl (by first | decide | simp) (x_assign rfl (fr.ev rfl)) ?_
    clear fr a; intro a fr
    refine wpList_nil ?_
    refine fx_next ?_
    refine wp_ret ?_
    refine fx_ret fr [.tmp 4] [.bool false] rfl ⟨rfl, trivial⟩ rfl ?_
    exact ⟨_, rfl, congrArg Value.bool (by simp [hq]), hF⟩
set_option maxRecDepth 100000 in
set_option maxHeartbeats 4000000 in
theorem makes_no (most : Int) (w : World) (h : most < 1 ∨ 1024 < most) : Calls Try.prog 8 #[.int .i64 most] w (Ret fun v w' => v = .bool true ∧ New w w') := by
  have hF := Only.refl (fun _ => False) w
  refine fx_enter Try.func8 rfl (N := (95, [])) (T := [(0, .int .i64 most)]) rfl (show 1 ≤ 95 by decide) ⟨rfl, trivial⟩ fun a fr => ?_
  refine wp_seq ?_
  refine wp_region_lit ?_  -- region 0
  refine fx_val (v := .bool false) fr rfl rfl (by first | decide | simp) (x_assign rfl rfl) ?_
  clear fr a; intro a fr
  refine wpList_nil ?_
  refine fx_next ?_
  refine wp_seq ?_
  refine wp_region_lit ?_  -- region 1
  refine fx_val (v := .int .i64 most) fr rfl rfl (by first | decide | simp) (x_move rfl (fr.ev rfl)) ?_
  clear fr a; intro a fr
  refine fx_call fr rfl rfl (by first | decide | simp) (x_call (vs := [.int .i64 most]) rfl rfl ⟨(fr.ev rfl), trivial⟩ Try.func14 nm14 rfl) (new_no most _ h) ?_
  clear fr a
  rintro v w1 ⟨rfl, hN2⟩ a fr
  replace hF := hF.trNew hN2
  refine fx_val (v := .tuple #[.pointer none, .int .i64 2]) fr rfl rfl (by first | decide | simp) (x_move rfl (fr.ev rfl)) ?_
  clear fr a; intro a fr
  refine fx_val (v := .pointer none) fr rfl rfl (by first | decide | simp) (x_extract rfl (fr.ev rfl) rfl) ?_
  clear fr a; intro a fr
  refine fx_val (v := .int .i64 2) fr rfl rfl (by first | decide | simp) (x_extract rfl (fr.ev rfl) rfl) ?_
  clear fr a; intro a fr
  refine fx_val (v := .pointer none) fr rfl rfl (by first | decide | simp) (x_assign rfl (fr.ev rfl)) ?_
  clear fr a; intro a fr
  refine fx_val (v := .int .i64 2) fr rfl rfl (by first | decide | simp) (x_assign rfl (fr.ev rfl)) ?_
  clear fr a; intro a fr
  refine wpList_nil ?_
  refine fx_next ?_
  refine wp_seq ?_
  refine wp_region_lit ?_  -- region 2
  refine fx_val (v := .pointer none) fr rfl rfl (by first | decide | simp) (x_assign rfl rfl) ?_
  clear fr a; intro a fr
  refine wpList_nil ?_
  refine fx_next ?_
  refine wp_seq ?_
  refine wp_region_lit ?_  -- region 3
  refine fx_val (v := .pointer none) fr rfl rfl (by first | decide | simp) (x_move rfl (fr.ev rfl)) ?_
  clear fr a; intro a fr
  refine fx_call fr rfl rfl (by first | decide | simp) (x_call (vs := [.pointer none, .int .i64 0]) rfl rfl ⟨(fr.ev rfl), rfl, trivial⟩ Try.func16 nm16 rfl) (deliver_nil 0 _) ?_
  clear fr a
  rintro v w3 ⟨rfl, hN4⟩ a fr
  replace hF := hF.trNew hN4
  refine fx_val (v := .tuple #[.agg (msgE.arr msg0), .bool false]) fr rfl rfl (by first | decide | simp) (x_move rfl (fr.ev rfl)) ?_
  clear fr a; intro a fr
  refine fx_val (v := .agg (msgE.arr msg0)) fr rfl rfl (by first | decide | simp) (x_extract rfl (fr.ev rfl) rfl) ?_
  clear fr a; intro a fr
  refine fx_val (v := .bool false) fr rfl rfl (by first | decide | simp) (x_extract rfl (fr.ev rfl) rfl) ?_
  clear fr a; intro a fr
  refine fx_new fr rfl rfl (by first | decide | simp) (x_alloc (z := .agg (#[.int .i64 0, .int .i64 0, .int .i64 0, .int .u32 0, .int .u8 0, .int .u8 0, .int .u8 0, .int .u8 0, .int .u8 0, .int .u8 0, .int .u8 0, .int .u8 0, .int .u8 0, .int .u8 0, .int .u8 0, .int .u8 0, .int .u8 0, .int .u8 0, .int .u8 0, .int .u8 0])) (cs := msgE.arr msg0) rfl (by kernel_rfl) rfl) ?_
  clear fr a
  intro b5 w6 hN7 B8 hb9 a fr
  have g_b5 := Nat.le_trans hF.size hb9
  replace hF := hF.trNew hN7
  refine fx_storeS sz26 rfl rfl rfl (fr.ev rfl) (fr.ev rfl) (msgE.all _) B8 (msgE.size _) (msgE.size _) fun w10 hO11 hBq => ?_
  replace hF := hF.loc hO11 (.inr g_b5)
  replace B8 := hBq
  clear hBq
  refine fx_val (v := .bool false) fr rfl rfl (by first | decide | simp) (x_assign rfl (fr.ev rfl)) ?_
  clear fr a; intro a fr
  refine wpList_nil ?_
  refine fx_next ?_
  refine wp_seq ?_
  refine wp_seq ?_
  have hz : msg0 = (⟨0, 0, 0, 0, bs0⟩ : Msg) := rfl
  refine wp_region_lit ?_  -- region 4
  refine fx_val (v := .agg (msgE.arr msg0)) fr rfl rfl (by first | decide | simp) (x_loadE (E := msgE) ag26 rfl rfl (fr.ev rfl) (B8.rangeE msgE)) ?_
  clear fr a; intro a fr
  refine fx_val (v := .agg (msgE.arr (⟨0, 0, 0, 0, bs0⟩))) fr rfl rfl (by first | decide | simp) (x_build (cells := msgE.arr (⟨0, 0, 0, 0, bs0⟩)) rfl (by kernel_rfl)) ?_
  clear fr a; intro a fr
  refine fx_val (v := .bool false) fr rfl rfl (by first | decide | simp) (x_neE msgER rfl rfl (fr.ev rfl) (fr.ev rfl) (by rw [decide_eq_true hz]; try rfl)) ?_
  clear fr a; intro a fr
  refine fx_val (v := .bool false) fr rfl rfl (by first | decide | simp) (x_move rfl (fr.ev rfl)) ?_
  clear fr a; intro a fr
  refine fx_val (v := .bool false) fr (fr.want rfl rfl rfl) rfl (by first | decide | simp) (x_move rfl (fr.ev rfl)) ?_
  clear fr a; intro a fr
  refine fx_val (v := .bool false) fr rfl rfl (by first | decide | simp) (x_pick_f rfl (fr.ev rfl) (fr.ev rfl)) ?_
  clear fr a; intro a fr
  refine fx_val (v := .bool false) fr rfl rfl (by first | decide | simp) (x_move rfl (fr.ev rfl)) ?_
  clear fr a; intro a fr
  refine fx_val (v := .pointer none) fr (fr.want rfl rfl rfl) rfl (by first | decide | simp) (x_move rfl (fr.ev rfl)) ?_
  clear fr a; intro a fr
  refine fx_val (v := .agg (msgE.arr (⟨0, 0, 0, 0, bs0⟩))) fr (fr.want rfl rfl rfl) rfl (by first | decide | simp) (x_build (cells := msgE.arr (⟨0, 0, 0, 0, bs0⟩)) rfl (by kernel_rfl)) ?_
  clear fr a; intro a fr
  refine fx_call fr (fr.want rfl rfl rfl) rfl (by first | decide | simp) (x_call (vs := [.pointer none, .agg (msgE.arr (⟨0, 0, 0, 0, bs0⟩))]) rfl rfl ⟨(fr.ev rfl), (fr.ev rfl), trivial⟩ Try.func15 nm15 rfl) (send_nil (⟨0, 0, 0, 0, bs0⟩) _) ?_
  clear fr a
  rintro v w12 ⟨rfl, hN13⟩ a fr
  replace B8 := B8.new hN13
  replace hF := hF.trNew hN13
  refine fx_call fr (fr.want rfl rfl rfl) rfl (by first | decide | simp) (x_call (vs := [.int .i64 1]) rfl rfl ⟨(fr.ev rfl), trivial⟩ Try.func10 nm10 rfl) (num_c 1 _) ?_
  clear fr a
  rintro v _ ⟨rfl, rfl⟩ a fr
  refine fx_val (v := .bool false) fr (fr.want rfl rfl rfl) rfl (by first | decide | simp) (x_neq rfl (fr.ev rfl) rfl rfl) ?_
  clear fr a; intro a fr
  refine fx_val (v := .bool false) fr rfl rfl (by first | decide | simp) (x_pick_f rfl (fr.ev rfl) (fr.ev rfl)) ?_
  clear fr a; intro a fr
  refine fx_val (v := .bool false) fr rfl rfl (by first | decide | simp) (x_move rfl (fr.ev rfl)) ?_
  clear fr a; intro a fr
  refine fx_val (v := .pointer none) fr (fr.want rfl rfl rfl) rfl (by first | decide | simp) (x_move rfl (fr.ev rfl)) ?_
  clear fr a; intro a fr
  refine fx_call fr (fr.want rfl rfl rfl) rfl (by first | decide | simp) (x_call (vs := [.pointer none]) rfl rfl ⟨(fr.ev rfl), trivial⟩ Try.func19 nm19 rfl) (len_nil _) ?_
  clear fr a
  rintro v _ ⟨rfl, rfl⟩ a fr
  refine fx_val (v := .bool false) fr (fr.want rfl rfl rfl) rfl (by first | decide | simp) (x_neq rfl (fr.ev rfl) rfl rfl) ?_
  clear fr a; intro a fr
  refine fx_val (v := .bool false) fr rfl rfl (by first | decide | simp) (x_pick_f rfl (fr.ev rfl) (fr.ev rfl)) ?_
  clear fr a; intro a fr
  refine fx_val (v := .bool false) fr rfl rfl (by first | decide | simp) (x_move rfl (fr.ev rfl)) ?_
  clear fr a; intro a fr
  refine fx_val (v := .pointer none) fr (fr.want rfl rfl rfl) rfl (by first | decide | simp) (x_move rfl (fr.ev rfl)) ?_
  clear fr a; intro a fr
  refine fx_call fr (fr.want rfl rfl rfl) rfl (by first | decide | simp) (x_call (vs := [.pointer none]) rfl rfl ⟨(fr.ev rfl), trivial⟩ Try.func17 nm17 rfl) (ready_nil _) ?_
  clear fr a
  rintro v _ ⟨rfl, rfl⟩ a fr
  refine fx_val (v := .int .i64 ((0 : Nat) : Int)) fr (fr.want rfl rfl rfl) rfl (by first | decide | simp) (x_len Try.underlying38 rfl (fr.ev rfl)) ?_
  clear fr a; intro a fr
  refine fx_val (v := .pointer none) fr (fr.want rfl rfl rfl) rfl (by first | decide | simp) (x_move rfl (fr.ev rfl)) ?_
  clear fr a; intro a fr
  refine fx_call fr (fr.want rfl rfl rfl) rfl (by first | decide | simp) (x_call (vs := [.pointer none, .int .i64 0]) rfl rfl ⟨(fr.ev rfl), rfl, trivial⟩ Try.func25 nm25 rfl) (to_nil 0) ?_
  clear fr a
  rintro v w22 ⟨A20, cap21, rfl, hN23⟩ a fr
  replace B8 := B8.new hN23
  replace hF := hF.trNew hN23
  refine fx_val (v := .int .i64 ((0 : Nat) : Int)) fr (fr.want rfl rfl rfl) rfl (by first | decide | simp) (x_len Try.underlying38 rfl (fr.ev rfl)) ?_
  clear fr a; intro a fr
  refine fx_val (v := .int .i64 0) fr (fr.want rfl rfl rfl) rfl (by first | decide | simp) (x_add rfl (fr.ev rfl) (fr.ev rfl) rfl) ?_
  clear fr a; intro a fr
  refine fx_val (v := .bool false) fr (fr.want rfl rfl rfl) rfl (by first | decide | simp) (x_neq rfl (fr.ev rfl) rfl rfl) ?_
  clear fr a; intro a fr
  refine fx_val (v := .bool false) fr rfl rfl (by first | decide | simp) (x_pick_f rfl (fr.ev rfl) (fr.ev rfl)) ?_
  clear fr a; intro a fr
  refine fx_val (v := .bool false) fr rfl rfl (by first | decide | simp) (x_move rfl (fr.ev rfl)) ?_
  clear fr a; intro a fr
  refine fx_val (v := .pointer none) fr (fr.want rfl rfl rfl) rfl (by first | decide | simp) (x_move rfl (fr.ev rfl)) ?_
  clear fr a; intro a fr
  refine fx_call fr (fr.want rfl rfl rfl) rfl (by first | decide | simp) (x_call (vs := [.pointer none]) rfl rfl ⟨(fr.ev rfl), trivial⟩ Try.func26 nm26 rfl) (copy_nil _) ?_
  clear fr a
  rintro v _ ⟨rfl, rfl⟩ a fr
  refine fx_val (v := .bool false) fr (fr.want rfl rfl rfl) rfl (by first | decide | simp) (x_pneq Try.underlying35 rfl (fr.ev rfl) rfl rfl) ?_
  clear fr a; intro a fr
  refine fx_val (v := .bool false) fr rfl rfl (by first | decide | simp) (x_pick_f rfl (fr.ev rfl) (fr.ev rfl)) ?_
  clear fr a; intro a fr
  refine fx_val (v := .bool false) fr rfl rfl (by first | decide | simp) (x_move rfl (fr.ev rfl)) ?_
  clear fr a; intro a fr
  refine fx_val (v := .pointer none) fr (fr.want rfl rfl rfl) rfl (by first | decide | simp) (x_move rfl (fr.ev rfl)) ?_
  clear fr a; intro a fr
  refine fx_call fr (fr.want rfl rfl rfl) rfl (by first | decide | simp) (x_call (vs := [.pointer none, .pointer none]) rfl rfl ⟨(fr.ev rfl), rfl, trivial⟩ Try.func27 nm27 rfl) (same_nn _) ?_
  clear fr a
  rintro v _ ⟨rfl, rfl⟩ a fr
  refine fx_val (v := .bool false) fr (fr.want rfl rfl rfl) rfl (by first | decide | simp) (x_not rfl (fr.ev rfl) rfl) ?_
  clear fr a; intro a fr
  refine fx_val (v := .bool false) fr rfl rfl (by first | decide | simp) (x_pick_f rfl (fr.ev rfl) (fr.ev rfl)) ?_
  clear fr a; intro a fr
  refine wpList_nil ?_
  refine fx_next ?_
  refine fx_cond_f fr rfl ?_
  refine wp_skip ?_
  refine fx_next ?_
  refine wp_seq ?_
  refine wp_seq ?_
  rcases h with h | h
  · skip
    refine wp_region_lit ?_  -- region 6
    refine fx_val (v := .int .i64 most) fr rfl rfl (by first | decide | simp) (x_move rfl (fr.ev rfl)) ?_
    clear fr a; intro a fr
    refine fx_val (v := .bool true) fr rfl rfl (by first | decide | simp) (x_lss rfl (fr.ev rfl) rfl (decide_eq_true h)) ?_
    clear fr a; intro a fr
    refine fx_val (v := .bool true) fr rfl rfl (by first | decide | simp) (x_move rfl (fr.ev rfl)) ?_
    clear fr a; intro a fr
    refine fx_skip fr (fr.unwant rfl rfl rfl (by decide)) rfl (by first | decide | simp) ?_
    clear fr a; intro a fr
    refine fx_skip fr (fr.unwant rfl rfl rfl (by decide)) rfl (by first | decide | simp) ?_
    clear fr a; intro a fr
    refine fx_val (v := .bool true) fr rfl rfl (by first | decide | simp) (x_pick_t rfl (fr.ev rfl) rfl) ?_
    clear fr a; intro a fr
    refine wpList_nil ?_
    refine fx_next ?_
    refine fx_cond_t fr rfl ?_
    refine wp_seq ?_
    refine wp_region_lit ?_  -- region 7
    refine fx_val (v := .pointer none) fr rfl rfl (by first | decide | simp) (x_move rfl (fr.ev rfl)) ?_
    clear fr a; intro a fr
    refine fx_val (v := .bool true) fr rfl rfl (by first | decide | simp) (x_peql Try.underlying35 rfl (fr.ev rfl) rfl rfl) ?_
    clear fr a; intro a fr
    refine fx_val (v := .bool true) fr rfl rfl (by first | decide | simp) (x_move rfl (fr.ev rfl)) ?_
    clear fr a; intro a fr
    refine fx_val (v := .int .i64 2) fr (fr.want rfl rfl rfl) rfl (by first | decide | simp) (x_move rfl (fr.ev rfl)) ?_
    clear fr a; intro a fr
    refine fx_call fr (fr.want rfl rfl rfl) rfl (by first | decide | simp) (x_call (vs := [.int .i64 2]) rfl rfl ⟨(fr.ev rfl), trivial⟩ Try.func10 nm10 rfl) (num_c 2 _) ?_
    clear fr a
    rintro v _ ⟨rfl, rfl⟩ a fr
    refine fx_val (v := .bool true) fr (fr.want rfl rfl rfl) rfl (by first | decide | simp) (x_eql rfl (fr.ev rfl) rfl rfl) ?_
    clear fr a; intro a fr
    refine fx_val (v := .bool true) fr rfl rfl (by first | decide | simp) (x_pick_t rfl (fr.ev rfl) (fr.ev rfl)) ?_
    clear fr a; intro a fr
    refine fx_val (v := .bool true) fr rfl rfl (by first | decide | simp) (x_move rfl (fr.ev rfl)) ?_
    clear fr a; intro a fr
    refine fx_call fr (fr.want rfl rfl rfl) rfl (by first | decide | simp) (x_call (vs := []) rfl rfl trivial Try.func13 nm13 rfl) (works_c _) ?_
    clear fr a
    rintro v w30 ⟨rfl, hN31⟩ a fr
    replace B8 := B8.new hN31
    replace hF := hF.trNew hN31
    refine fx_val (v := .bool true) fr rfl rfl (by first | decide | simp) (x_pick_t rfl (fr.ev rfl) (fr.ev rfl)) ?_
    clear fr a; intro a fr
    refine fx_val (v := .bool true) fr rfl rfl (by first | decide | simp) (x_assign rfl (fr.ev rfl)) ?_
    clear fr a; intro a fr
    refine wpList_nil ?_
    refine fx_next ?_
    refine wp_ret ?_
    refine fx_rt ?_
    refine fx_ret fr [.tmp 2] [.bool true] rfl ⟨rfl, trivial⟩ rfl ?_
    exact ⟨_, rfl, rfl, hF⟩
  · skip
    have h1 : ¬ most < 1 := by omega
    refine wp_region_lit ?_  -- region 6
    refine fx_val (v := .int .i64 most) fr rfl rfl (by first | decide | simp) (x_move rfl (fr.ev rfl)) ?_
    clear fr a; intro a fr
    refine fx_val (v := .bool false) fr rfl rfl (by first | decide | simp) (x_lss rfl (fr.ev rfl) rfl (decide_eq_false h1)) ?_
    clear fr a; intro a fr
    refine fx_val (v := .bool false) fr rfl rfl (by first | decide | simp) (x_move rfl (fr.ev rfl)) ?_
    clear fr a; intro a fr
    refine fx_val (v := .int .i64 most) fr (fr.want rfl rfl rfl) rfl (by first | decide | simp) (x_move rfl (fr.ev rfl)) ?_
    clear fr a; intro a fr
    refine fx_val (v := .bool true) fr (fr.want rfl rfl rfl) rfl (by first | decide | simp) (x_gtr rfl (fr.ev rfl) rfl (decide_eq_true h)) ?_
    clear fr a; intro a fr
    refine fx_val (v := .bool true) fr rfl rfl (by first | decide | simp) (x_pick_f rfl (fr.ev rfl) (fr.ev rfl)) ?_
    clear fr a; intro a fr
    refine wpList_nil ?_
    refine fx_next ?_
    refine fx_cond_t fr rfl ?_
    refine wp_seq ?_
    refine wp_region_lit ?_  -- region 7
    refine fx_val (v := .pointer none) fr rfl rfl (by first | decide | simp) (x_move rfl (fr.ev rfl)) ?_
    clear fr a; intro a fr
    refine fx_val (v := .bool true) fr rfl rfl (by first | decide | simp) (x_peql Try.underlying35 rfl (fr.ev rfl) rfl rfl) ?_
    clear fr a; intro a fr
    refine fx_val (v := .bool true) fr rfl rfl (by first | decide | simp) (x_move rfl (fr.ev rfl)) ?_
    clear fr a; intro a fr
    refine fx_val (v := .int .i64 2) fr (fr.want rfl rfl rfl) rfl (by first | decide | simp) (x_move rfl (fr.ev rfl)) ?_
    clear fr a; intro a fr
    refine fx_call fr (fr.want rfl rfl rfl) rfl (by first | decide | simp) (x_call (vs := [.int .i64 2]) rfl rfl ⟨(fr.ev rfl), trivial⟩ Try.func10 nm10 rfl) (num_c 2 _) ?_
    clear fr a
    rintro v _ ⟨rfl, rfl⟩ a fr
    refine fx_val (v := .bool true) fr (fr.want rfl rfl rfl) rfl (by first | decide | simp) (x_eql rfl (fr.ev rfl) rfl rfl) ?_
    clear fr a; intro a fr
    refine fx_val (v := .bool true) fr rfl rfl (by first | decide | simp) (x_pick_t rfl (fr.ev rfl) (fr.ev rfl)) ?_
    clear fr a; intro a fr
    refine fx_val (v := .bool true) fr rfl rfl (by first | decide | simp) (x_move rfl (fr.ev rfl)) ?_
    clear fr a; intro a fr
    refine fx_call fr (fr.want rfl rfl rfl) rfl (by first | decide | simp) (x_call (vs := []) rfl rfl trivial Try.func13 nm13 rfl) (works_c _) ?_
    clear fr a
    rintro v w34 ⟨rfl, hN35⟩ a fr
    replace B8 := B8.new hN35
    replace hF := hF.trNew hN35
    refine fx_val (v := .bool true) fr rfl rfl (by first | decide | simp) (x_pick_t rfl (fr.ev rfl) (fr.ev rfl)) ?_
    clear fr a; intro a fr
    refine fx_val (v := .bool true) fr rfl rfl (by first | decide | simp) (x_assign rfl (fr.ev rfl)) ?_
    clear fr a; intro a fr
    refine wpList_nil ?_
    refine fx_next ?_
    refine wp_ret ?_
    refine fx_rt ?_
    refine fx_ret fr [.tmp 2] [.bool true] rfl ⟨rfl, trivial⟩ rfl ?_
    exact ⟨_, rfl, rfl, hF⟩
set_option maxRecDepth 100000 in
set_option maxHeartbeats 4000000 in
theorem makes_yes (most : Int) (w : World) (h1 : 1 ≤ most) (h2 : most ≤ 1024) : Calls Try.prog 8 #[.int .i64 most] w (Ret fun v w' => v = .bool true ∧ New w w') := by
  have hF := Only.refl (fun _ => False) w
  refine fx_enter Try.func8 rfl (N := (95, [])) (T := [(0, .int .i64 most)]) rfl (show 1 ≤ 95 by decide) ⟨rfl, trivial⟩ fun a fr => ?_
  refine wp_seq ?_
  refine wp_region_lit ?_  -- region 0
  refine fx_val (v := .bool false) fr rfl rfl (by first | decide | simp) (x_assign rfl rfl) ?_
  clear fr a; intro a fr
  refine wpList_nil ?_
  refine fx_next ?_
  refine wp_seq ?_
  refine wp_region_lit ?_  -- region 1
  refine fx_val (v := .int .i64 most) fr rfl rfl (by first | decide | simp) (x_move rfl (fr.ev rfl)) ?_
  clear fr a; intro a fr
  refine fx_call fr rfl rfl (by first | decide | simp) (x_call (vs := [.int .i64 most]) rfl rfl ⟨(fr.ev rfl), trivial⟩ Try.func14 nm14 rfl) (new_yes most _ (by omega) (by omega)) ?_
  clear fr a
  rintro v w7 ⟨b1, A2, cap3, rfl, H4, hb5, hA6, hN8⟩ a fr
  have g_b1 := Nat.le_trans hF.size hb5
  have gA_A2 := gA_new hF hA6
  replace hF := hF.trNew hN8
  refine fx_val (v := .tuple #[.pointer (some ⟨b1, 0, none⟩), .int .i64 0]) fr rfl rfl (by first | decide | simp) (x_move rfl (fr.ev rfl)) ?_
  clear fr a; intro a fr
  refine fx_val (v := .pointer (some ⟨b1, 0, none⟩)) fr rfl rfl (by first | decide | simp) (x_extract rfl (fr.ev rfl) rfl) ?_
  clear fr a; intro a fr
  refine fx_val (v := .int .i64 0) fr rfl rfl (by first | decide | simp) (x_extract rfl (fr.ev rfl) rfl) ?_
  clear fr a; intro a fr
  refine fx_val (v := .pointer (some ⟨b1, 0, none⟩)) fr rfl rfl (by first | decide | simp) (x_assign rfl (fr.ev rfl)) ?_
  clear fr a; intro a fr
  refine fx_val (v := .int .i64 0) fr rfl rfl (by first | decide | simp) (x_assign rfl (fr.ev rfl)) ?_
  clear fr a; intro a fr
  refine wpList_nil ?_
  refine fx_next ?_
  refine wp_seq ?_
  refine wp_region_lit ?_  -- region 2
  refine fx_val (v := .pointer none) fr rfl rfl (by first | decide | simp) (x_assign rfl rfl) ?_
  clear fr a; intro a fr
  refine wpList_nil ?_
  refine fx_next ?_
  refine wp_seq ?_
  refine wp_region_lit ?_  -- region 3
  refine fx_val (v := .pointer none) fr rfl rfl (by first | decide | simp) (x_move rfl (fr.ev rfl)) ?_
  clear fr a; intro a fr
  refine fx_call fr rfl rfl (by first | decide | simp) (x_call (vs := [.pointer none, .int .i64 0]) rfl rfl ⟨(fr.ev rfl), rfl, trivial⟩ Try.func16 nm16 rfl) (deliver_nil 0 _) ?_
  clear fr a
  rintro v w9 ⟨rfl, hN10⟩ a fr
  replace H4 := H4.new hN10
  replace hF := hF.trNew hN10
  refine fx_val (v := .tuple #[.agg (msgE.arr msg0), .bool false]) fr rfl rfl (by first | decide | simp) (x_move rfl (fr.ev rfl)) ?_
  clear fr a; intro a fr
  refine fx_val (v := .agg (msgE.arr msg0)) fr rfl rfl (by first | decide | simp) (x_extract rfl (fr.ev rfl) rfl) ?_
  clear fr a; intro a fr
  refine fx_val (v := .bool false) fr rfl rfl (by first | decide | simp) (x_extract rfl (fr.ev rfl) rfl) ?_
  clear fr a; intro a fr
  refine fx_new fr rfl rfl (by first | decide | simp) (x_alloc (z := .agg (#[.int .i64 0, .int .i64 0, .int .i64 0, .int .u32 0, .int .u8 0, .int .u8 0, .int .u8 0, .int .u8 0, .int .u8 0, .int .u8 0, .int .u8 0, .int .u8 0, .int .u8 0, .int .u8 0, .int .u8 0, .int .u8 0, .int .u8 0, .int .u8 0, .int .u8 0, .int .u8 0])) (cs := msgE.arr msg0) rfl (by kernel_rfl) rfl) ?_
  clear fr a
  intro b11 w12 hN13 B14 hb15 a fr
  have ne_b1_b11 : ¬ b1 = b11 := Nat.ne_of_lt (Nat.lt_of_lt_of_le H4.ltb hb15)
  have ap_A2_b11 : Apart A2 b11 := H4.apart hb15
  have g_b11 := Nat.le_trans hF.size hb15
  replace H4 := H4.new hN13
  replace hF := hF.trNew hN13
  refine fx_storeS sz26 rfl rfl rfl (fr.ev rfl) (fr.ev rfl) (msgE.all _) B14 (msgE.size _) (msgE.size _) fun w16 hO17 hBq => ?_
  replace H4 := H4.only hO17 (by show ¬ b1 = b11; omega) (Apart.ne1 ap_A2_b11)
  replace hF := hF.loc hO17 (.inr g_b11)
  replace B14 := hBq
  clear hBq
  refine fx_val (v := .bool false) fr rfl rfl (by first | decide | simp) (x_assign rfl (fr.ev rfl)) ?_
  clear fr a; intro a fr
  refine wpList_nil ?_
  refine fx_next ?_
  refine wp_seq ?_
  refine wp_seq ?_
  have hz : msg0 = (⟨0, 0, 0, 0, bs0⟩ : Msg) := rfl
  refine wp_region_lit ?_  -- region 4
  refine fx_val (v := .agg (msgE.arr msg0)) fr rfl rfl (by first | decide | simp) (x_loadE (E := msgE) ag26 rfl rfl (fr.ev rfl) (B14.rangeE msgE)) ?_
  clear fr a; intro a fr
  refine fx_val (v := .agg (msgE.arr (⟨0, 0, 0, 0, bs0⟩))) fr rfl rfl (by first | decide | simp) (x_build (cells := msgE.arr (⟨0, 0, 0, 0, bs0⟩)) rfl (by kernel_rfl)) ?_
  clear fr a; intro a fr
  refine fx_val (v := .bool false) fr rfl rfl (by first | decide | simp) (x_neE msgER rfl rfl (fr.ev rfl) (fr.ev rfl) (by rw [decide_eq_true hz]; try rfl)) ?_
  clear fr a; intro a fr
  refine fx_val (v := .bool false) fr rfl rfl (by first | decide | simp) (x_move rfl (fr.ev rfl)) ?_
  clear fr a; intro a fr
  refine fx_val (v := .bool false) fr (fr.want rfl rfl rfl) rfl (by first | decide | simp) (x_move rfl (fr.ev rfl)) ?_
  clear fr a; intro a fr
  refine fx_val (v := .bool false) fr rfl rfl (by first | decide | simp) (x_pick_f rfl (fr.ev rfl) (fr.ev rfl)) ?_
  clear fr a; intro a fr
  refine fx_val (v := .bool false) fr rfl rfl (by first | decide | simp) (x_move rfl (fr.ev rfl)) ?_
  clear fr a; intro a fr
  refine fx_val (v := .pointer none) fr (fr.want rfl rfl rfl) rfl (by first | decide | simp) (x_move rfl (fr.ev rfl)) ?_
  clear fr a; intro a fr
  refine fx_val (v := .agg (msgE.arr (⟨0, 0, 0, 0, bs0⟩))) fr (fr.want rfl rfl rfl) rfl (by first | decide | simp) (x_build (cells := msgE.arr (⟨0, 0, 0, 0, bs0⟩)) rfl (by kernel_rfl)) ?_
  clear fr a; intro a fr
  refine fx_call fr (fr.want rfl rfl rfl) rfl (by first | decide | simp) (x_call (vs := [.pointer none, .agg (msgE.arr (⟨0, 0, 0, 0, bs0⟩))]) rfl rfl ⟨(fr.ev rfl), (fr.ev rfl), trivial⟩ Try.func15 nm15 rfl) (send_nil (⟨0, 0, 0, 0, bs0⟩) _) ?_
  clear fr a
  rintro v w18 ⟨rfl, hN19⟩ a fr
  replace H4 := H4.new hN19
  replace B14 := B14.new hN19
  replace hF := hF.trNew hN19
  refine fx_call fr (fr.want rfl rfl rfl) rfl (by first | decide | simp) (x_call (vs := [.int .i64 1]) rfl rfl ⟨(fr.ev rfl), trivial⟩ Try.func10 nm10 rfl) (num_c 1 _) ?_
  clear fr a
  rintro v _ ⟨rfl, rfl⟩ a fr
  refine fx_val (v := .bool false) fr (fr.want rfl rfl rfl) rfl (by first | decide | simp) (x_neq rfl (fr.ev rfl) rfl rfl) ?_
  clear fr a; intro a fr
  refine fx_val (v := .bool false) fr rfl rfl (by first | decide | simp) (x_pick_f rfl (fr.ev rfl) (fr.ev rfl)) ?_
  clear fr a; intro a fr
  refine fx_val (v := .bool false) fr rfl rfl (by first | decide | simp) (x_move rfl (fr.ev rfl)) ?_
  clear fr a; intro a fr
  refine fx_val (v := .pointer none) fr (fr.want rfl rfl rfl) rfl (by first | decide | simp) (x_move rfl (fr.ev rfl)) ?_
  clear fr a; intro a fr
  refine fx_call fr (fr.want rfl rfl rfl) rfl (by first | decide | simp) (x_call (vs := [.pointer none]) rfl rfl ⟨(fr.ev rfl), trivial⟩ Try.func19 nm19 rfl) (len_nil _) ?_
  clear fr a
  rintro v _ ⟨rfl, rfl⟩ a fr
  refine fx_val (v := .bool false) fr (fr.want rfl rfl rfl) rfl (by first | decide | simp) (x_neq rfl (fr.ev rfl) rfl rfl) ?_
  clear fr a; intro a fr
  refine fx_val (v := .bool false) fr rfl rfl (by first | decide | simp) (x_pick_f rfl (fr.ev rfl) (fr.ev rfl)) ?_
  clear fr a; intro a fr
  refine fx_val (v := .bool false) fr rfl rfl (by first | decide | simp) (x_move rfl (fr.ev rfl)) ?_
  clear fr a; intro a fr
  refine fx_val (v := .pointer none) fr (fr.want rfl rfl rfl) rfl (by first | decide | simp) (x_move rfl (fr.ev rfl)) ?_
  clear fr a; intro a fr
  refine fx_call fr (fr.want rfl rfl rfl) rfl (by first | decide | simp) (x_call (vs := [.pointer none]) rfl rfl ⟨(fr.ev rfl), trivial⟩ Try.func17 nm17 rfl) (ready_nil _) ?_
  clear fr a
  rintro v _ ⟨rfl, rfl⟩ a fr
  refine fx_val (v := .int .i64 ((0 : Nat) : Int)) fr (fr.want rfl rfl rfl) rfl (by first | decide | simp) (x_len Try.underlying38 rfl (fr.ev rfl)) ?_
  clear fr a; intro a fr
  refine fx_val (v := .pointer none) fr (fr.want rfl rfl rfl) rfl (by first | decide | simp) (x_move rfl (fr.ev rfl)) ?_
  clear fr a; intro a fr
  refine fx_call fr (fr.want rfl rfl rfl) rfl (by first | decide | simp) (x_call (vs := [.pointer none, .int .i64 0]) rfl rfl ⟨(fr.ev rfl), rfl, trivial⟩ Try.func25 nm25 rfl) (to_nil 0) ?_
  clear fr a
  rintro v w28 ⟨A26, cap27, rfl, hN29⟩ a fr
  replace H4 := H4.new hN29
  replace B14 := B14.new hN29
  replace hF := hF.trNew hN29
  refine fx_val (v := .int .i64 ((0 : Nat) : Int)) fr (fr.want rfl rfl rfl) rfl (by first | decide | simp) (x_len Try.underlying38 rfl (fr.ev rfl)) ?_
  clear fr a; intro a fr
  refine fx_val (v := .int .i64 0) fr (fr.want rfl rfl rfl) rfl (by first | decide | simp) (x_add rfl (fr.ev rfl) (fr.ev rfl) rfl) ?_
  clear fr a; intro a fr
  refine fx_val (v := .bool false) fr (fr.want rfl rfl rfl) rfl (by first | decide | simp) (x_neq rfl (fr.ev rfl) rfl rfl) ?_
  clear fr a; intro a fr
  refine fx_val (v := .bool false) fr rfl rfl (by first | decide | simp) (x_pick_f rfl (fr.ev rfl) (fr.ev rfl)) ?_
  clear fr a; intro a fr
  refine fx_val (v := .bool false) fr rfl rfl (by first | decide | simp) (x_move rfl (fr.ev rfl)) ?_
  clear fr a; intro a fr
  refine fx_val (v := .pointer none) fr (fr.want rfl rfl rfl) rfl (by first | decide | simp) (x_move rfl (fr.ev rfl)) ?_
  clear fr a; intro a fr
  refine fx_call fr (fr.want rfl rfl rfl) rfl (by first | decide | simp) (x_call (vs := [.pointer none]) rfl rfl ⟨(fr.ev rfl), trivial⟩ Try.func26 nm26 rfl) (copy_nil _) ?_
  clear fr a
  rintro v _ ⟨rfl, rfl⟩ a fr
  refine fx_val (v := .bool false) fr (fr.want rfl rfl rfl) rfl (by first | decide | simp) (x_pneq Try.underlying35 rfl (fr.ev rfl) rfl rfl) ?_
  clear fr a; intro a fr
  refine fx_val (v := .bool false) fr rfl rfl (by first | decide | simp) (x_pick_f rfl (fr.ev rfl) (fr.ev rfl)) ?_
  clear fr a; intro a fr
  refine fx_val (v := .bool false) fr rfl rfl (by first | decide | simp) (x_move rfl (fr.ev rfl)) ?_
  clear fr a; intro a fr
  refine fx_val (v := .pointer none) fr (fr.want rfl rfl rfl) rfl (by first | decide | simp) (x_move rfl (fr.ev rfl)) ?_
  clear fr a; intro a fr
  refine fx_call fr (fr.want rfl rfl rfl) rfl (by first | decide | simp) (x_call (vs := [.pointer none, .pointer none]) rfl rfl ⟨(fr.ev rfl), rfl, trivial⟩ Try.func27 nm27 rfl) (same_nn _) ?_
  clear fr a
  rintro v _ ⟨rfl, rfl⟩ a fr
  refine fx_val (v := .bool false) fr (fr.want rfl rfl rfl) rfl (by first | decide | simp) (x_not rfl (fr.ev rfl) rfl) ?_
  clear fr a; intro a fr
  refine fx_val (v := .bool false) fr rfl rfl (by first | decide | simp) (x_pick_f rfl (fr.ev rfl) (fr.ev rfl)) ?_
  clear fr a; intro a fr
  refine wpList_nil ?_
  refine fx_next ?_
  refine fx_cond_f fr rfl ?_
  refine wp_skip ?_
  refine fx_next ?_
  refine wp_seq ?_
  refine wp_seq ?_
  have q1 : ¬ most < 1 := by omega
  have q2 : ¬ 1024 < most := by omega
  refine wp_region_lit ?_  -- region 6
  refine fx_val (v := .int .i64 most) fr rfl rfl (by first | decide | simp) (x_move rfl (fr.ev rfl)) ?_
  clear fr a; intro a fr
  refine fx_val (v := .bool false) fr rfl rfl (by first | decide | simp) (x_lss rfl (fr.ev rfl) rfl (decide_eq_false q1)) ?_
  clear fr a; intro a fr
  refine fx_val (v := .bool false) fr rfl rfl (by first | decide | simp) (x_move rfl (fr.ev rfl)) ?_
  clear fr a; intro a fr
  refine fx_val (v := .int .i64 most) fr (fr.want rfl rfl rfl) rfl (by first | decide | simp) (x_move rfl (fr.ev rfl)) ?_
  clear fr a; intro a fr
  refine fx_val (v := .bool false) fr (fr.want rfl rfl rfl) rfl (by first | decide | simp) (x_gtr rfl (fr.ev rfl) rfl (decide_eq_false q2)) ?_
  clear fr a; intro a fr
  refine fx_val (v := .bool false) fr rfl rfl (by first | decide | simp) (x_pick_f rfl (fr.ev rfl) (fr.ev rfl)) ?_
  clear fr a; intro a fr
  refine wpList_nil ?_
  refine fx_next ?_
  refine fx_cond_f fr rfl ?_
  refine wp_skip ?_
  refine fx_next ?_
  refine wp_seq ?_
  refine wp_region_lit ?_  -- region 8
  refine fx_val (v := .int .i64 0) fr rfl rfl (by first | decide | simp) (x_move rfl (fr.ev rfl)) ?_
  clear fr a; intro a fr
  refine fx_call fr rfl rfl (by first | decide | simp) (x_call (vs := [.int .i64 0]) rfl rfl ⟨(fr.ev rfl), trivial⟩ Try.func10 nm10 rfl) (num_c 0 _) ?_
  clear fr a
  rintro v _ ⟨rfl, rfl⟩ a fr
  refine fx_val (v := .bool true) fr rfl rfl (by first | decide | simp) (x_eql rfl (fr.ev rfl) rfl rfl) ?_
  clear fr a; intro a fr
  refine fx_val (v := .bool true) fr rfl rfl (by first | decide | simp) (x_move rfl (fr.ev rfl)) ?_
  clear fr a; intro a fr
  refine fx_val (v := .pointer (some ⟨b1, 0, none⟩)) fr (fr.want rfl rfl rfl) rfl (by first | decide | simp) (x_move rfl (fr.ev rfl)) ?_
  clear fr a; intro a fr
  refine fx_call fr (fr.want rfl rfl rfl) rfl (by first | decide | simp) (x_call (vs := [.pointer (some ⟨b1, 0, none⟩)]) rfl rfl ⟨(fr.ev rfl), trivial⟩ Try.func19 nm19 rfl) (len_c H4 (by omega)) ?_
  clear fr a
  rintro v _ ⟨rfl, rfl⟩ a fr
  refine fx_val (v := .bool true) fr (fr.want rfl rfl rfl) rfl (by first | decide | simp) (x_eql rfl (fr.ev rfl) rfl rfl) ?_
  clear fr a; intro a fr
  refine fx_val (v := .bool true) fr rfl rfl (by first | decide | simp) (x_pick_t rfl (fr.ev rfl) (fr.ev rfl)) ?_
  clear fr a; intro a fr
  refine fx_val (v := .bool true) fr rfl rfl (by first | decide | simp) (x_move rfl (fr.ev rfl)) ?_
  clear fr a; intro a fr
  refine fx_val (v := .pointer (some ⟨b1, 0, none⟩)) fr (fr.want rfl rfl rfl) rfl (by first | decide | simp) (x_move rfl (fr.ev rfl)) ?_
  clear fr a; intro a fr
  refine fx_val (v := .pointer none) fr (fr.want rfl rfl rfl) rfl (by first | decide | simp) (x_move rfl (fr.ev rfl)) ?_
  clear fr a; intro a fr
  refine fx_call fr (fr.want rfl rfl rfl) rfl (by first | decide | simp) (x_call (vs := [.pointer (some ⟨b1, 0, none⟩), .pointer none]) rfl rfl ⟨(fr.ev rfl), (fr.ev rfl), trivial⟩ Try.func27 nm27 rfl) (same_xn H4 (by omega)) ?_
  clear fr a
  rintro v _ ⟨rfl, rfl⟩ a fr
  refine fx_val (v := .bool true) fr (fr.want rfl rfl rfl) rfl (by first | decide | simp) (x_not rfl (fr.ev rfl) rfl) ?_
  clear fr a; intro a fr
  refine fx_val (v := .bool true) fr rfl rfl (by first | decide | simp) (x_pick_t rfl (fr.ev rfl) (fr.ev rfl)) ?_
  clear fr a; intro a fr
  refine fx_val (v := .bool true) fr rfl rfl (by first | decide | simp) (x_move rfl (fr.ev rfl)) ?_
  clear fr a; intro a fr
  refine fx_val (v := .pointer none) fr (fr.want rfl rfl rfl) rfl (by first | decide | simp) (x_move rfl (fr.ev rfl)) ?_
  clear fr a; intro a fr
  refine fx_val (v := .pointer (some ⟨b1, 0, none⟩)) fr (fr.want rfl rfl rfl) rfl (by first | decide | simp) (x_move rfl (fr.ev rfl)) ?_
  clear fr a; intro a fr
  refine fx_call fr (fr.want rfl rfl rfl) rfl (by first | decide | simp) (x_call (vs := [.pointer none, .pointer (some ⟨b1, 0, none⟩)]) rfl rfl ⟨(fr.ev rfl), (fr.ev rfl), trivial⟩ Try.func27 nm27 rfl) (same_nx H4 (by omega)) ?_
  clear fr a
  rintro v _ ⟨rfl, rfl⟩ a fr
  refine fx_val (v := .bool true) fr (fr.want rfl rfl rfl) rfl (by first | decide | simp) (x_not rfl (fr.ev rfl) rfl) ?_
  clear fr a; intro a fr
  refine fx_val (v := .bool true) fr rfl rfl (by first | decide | simp) (x_pick_t rfl (fr.ev rfl) (fr.ev rfl)) ?_
  clear fr a; intro a fr
  refine fx_val (v := .bool true) fr rfl rfl (by first | decide | simp) (x_move rfl (fr.ev rfl)) ?_
  clear fr a; intro a fr
  refine fx_call fr (fr.want rfl rfl rfl) rfl (by first | decide | simp) (x_call (vs := []) rfl rfl trivial Try.func13 nm13 rfl) (works_c _) ?_
  clear fr a
  rintro v w42 ⟨rfl, hN43⟩ a fr
  replace H4 := H4.new hN43
  replace B14 := B14.new hN43
  replace hF := hF.trNew hN43
  refine fx_val (v := .bool true) fr rfl rfl (by first | decide | simp) (x_pick_t rfl (fr.ev rfl) (fr.ev rfl)) ?_
  clear fr a; intro a fr
  refine fx_val (v := .bool true) fr rfl rfl (by first | decide | simp) (x_assign rfl (fr.ev rfl)) ?_
  clear fr a; intro a fr
  refine wpList_nil ?_
  refine fx_next ?_
  refine wp_ret ?_
  refine fx_ret fr [.tmp 2] [.bool true] rfl ⟨rfl, trivial⟩ rfl ?_
  exact ⟨_, rfl, rfl, hF⟩
end Go.Proofs.Ytdpkeabmfhnfiaa
