/-
  Same; BufferForwards, BufferPlays. Printed by gen_h.py.
-/
import Derived.Test.YtemihglffmfikaaBufG
namespace Go.Proofs.Ytemihglffmfikaa
open Go.RowKit

set_option maxRecDepth 100000 in
set_option maxHeartbeats 4000000 in
theorem same_nn (w : World) : Calls Try.prog 23 #[.pointer none, .pointer none] w (Ret fun v w' => v = .bool true ∧ w' = w) := by
  refine fx_enter Try.func23 rfl (N := (22, [])) (T := [(0, .pointer none), (1, .pointer none)]) rfl (show 2 ≤ 22 by decide) ⟨rfl, rfl, trivial⟩ fun a fr => ?_
  refine wp_seq ?_
  refine wp_region_lit ?_  -- region 0
  refine fx_val (v := .bool false) fr rfl rfl (by first | decide | simp) (x_assign rfl rfl) ?_
  clear fr a; intro a fr
  refine wpList_nil ?_
  refine fx_next ?_
  refine wp_seq ?_
  refine wp_seq ?_
  refine wp_region_lit ?_  -- region 1
  refine fx_val (v := .pointer none) fr rfl rfl (by first | decide | simp) (x_move rfl (fr.ev rfl)) ?_
  clear fr a; intro a fr
  refine fx_val (v := .bool true) fr rfl rfl (by first | decide | simp) (x_peql Try.underlying25 rfl (fr.ev rfl) rfl rfl) ?_
  clear fr a; intro a fr
  refine fx_val (v := .bool true) fr rfl rfl (by first | decide | simp) (x_move rfl (fr.ev rfl)) ?_
  clear fr a; intro a fr
  refine fx_skip fr (fr.unwant rfl rfl rfl (by decide)) rfl (by first | decide | simp) ?_
  clear fr a; intro a fr
  refine fx_skip fr (fr.unwant rfl rfl rfl (by decide)) rfl (by first | decide | simp) ?_
  clear fr a; intro a fr
  refine fx_val (v := .bool true) fr rfl rfl (by first | decide | simp) (x_pick_t rfl (fr.ev rfl) rfl) ?_
  clear fr a; intro a fr
  refine wpList_nil ?_
  refine fx_next ?_
  refine fx_cond_t fr rfl ?_
  refine wp_seq ?_
  refine wp_region_lit ?_  -- region 2
  refine fx_val (v := .pointer none) fr rfl rfl (by first | decide | simp) (x_move rfl (fr.ev rfl)) ?_
  clear fr a; intro a fr
  refine fx_val (v := .bool true) fr rfl rfl (by first | decide | simp) (x_peql Try.underlying25 rfl (fr.ev rfl) rfl rfl) ?_
  clear fr a; intro a fr
  refine fx_val (v := .bool true) fr rfl rfl (by first | decide | simp) (x_move rfl (fr.ev rfl)) ?_
  clear fr a; intro a fr
  refine fx_val (v := .pointer none) fr (fr.want rfl rfl rfl) rfl (by first | decide | simp) (x_move rfl (fr.ev rfl)) ?_
  clear fr a; intro a fr
  refine fx_val (v := .bool true) fr (fr.want rfl rfl rfl) rfl (by first | decide | simp) (x_peql Try.underlying25 rfl (fr.ev rfl) rfl rfl) ?_
  clear fr a; intro a fr
  refine fx_val (v := .bool true) fr rfl rfl (by first | decide | simp) (x_pick_t rfl (fr.ev rfl) (fr.ev rfl)) ?_
  clear fr a; intro a fr
  refine fx_val (v := .bool true) fr rfl rfl (by first | decide | simp) (x_assign rfl (fr.ev rfl)) ?_
  clear fr a; intro a fr
  refine wpList_nil ?_
  refine fx_next ?_
  refine wp_ret ?_
  refine fx_rt ?_
  refine fx_ret fr [.tmp 4] [.bool true] rfl ⟨rfl, trivial⟩ rfl ?_
  exact ⟨_, rfl, rfl, rfl⟩
set_option maxRecDepth 100000 in
set_option maxHeartbeats 4000000 in
theorem same_nx {b : Nat} (w : World) : Calls Try.prog 23 #[.pointer none, .pointer (some ⟨b, 0, none⟩)] w (Ret fun v w' => v = .bool false ∧ w' = w) := by
  refine fx_enter Try.func23 rfl (N := (22, [])) (T := [(0, .pointer none), (1, .pointer (some ⟨b, 0, none⟩))]) rfl (show 2 ≤ 22 by decide) ⟨rfl, rfl, trivial⟩ fun a fr => ?_
  refine wp_seq ?_
  refine wp_region_lit ?_  -- region 0
  refine fx_val (v := .bool false) fr rfl rfl (by first | decide | simp) (x_assign rfl rfl) ?_
  clear fr a; intro a fr
  refine wpList_nil ?_
  refine fx_next ?_
  refine wp_seq ?_
  refine wp_seq ?_
  refine wp_region_lit ?_  -- region 1
  refine fx_val (v := .pointer none) fr rfl rfl (by first | decide | simp) (x_move rfl (fr.ev rfl)) ?_
  clear fr a; intro a fr
  refine fx_val (v := .bool true) fr rfl rfl (by first | decide | simp) (x_peql Try.underlying25 rfl (fr.ev rfl) rfl rfl) ?_
  clear fr a; intro a fr
  refine fx_val (v := .bool true) fr rfl rfl (by first | decide | simp) (x_move rfl (fr.ev rfl)) ?_
  clear fr a; intro a fr
  refine fx_skip fr (fr.unwant rfl rfl rfl (by decide)) rfl (by first | decide | simp) ?_
  clear fr a; intro a fr
  refine fx_skip fr (fr.unwant rfl rfl rfl (by decide)) rfl (by first | decide | simp) ?_
  clear fr a; intro a fr
  refine fx_val (v := .bool true) fr rfl rfl (by first | decide | simp) (x_pick_t rfl (fr.ev rfl) rfl) ?_
  clear fr a; intro a fr
  refine wpList_nil ?_
  refine fx_next ?_
  refine fx_cond_t fr rfl ?_
  refine wp_seq ?_
  refine wp_region_lit ?_  -- region 2
  refine fx_val (v := .pointer none) fr rfl rfl (by first | decide | simp) (x_move rfl (fr.ev rfl)) ?_
  clear fr a; intro a fr
  refine fx_val (v := .bool true) fr rfl rfl (by first | decide | simp) (x_peql Try.underlying25 rfl (fr.ev rfl) rfl rfl) ?_
  clear fr a; intro a fr
  refine fx_val (v := .bool true) fr rfl rfl (by first | decide | simp) (x_move rfl (fr.ev rfl)) ?_
  clear fr a; intro a fr
  refine fx_val (v := .pointer (some ⟨b, 0, none⟩)) fr (fr.want rfl rfl rfl) rfl (by first | decide | simp) (x_move rfl (fr.ev rfl)) ?_
  clear fr a; intro a fr
  refine fx_val (v := .bool false) fr (fr.want rfl rfl rfl) rfl (by first | decide | simp) (x_peql Try.underlying25 rfl (fr.ev rfl) rfl rfl) ?_
  clear fr a; intro a fr
  refine fx_val (v := .bool false) fr rfl rfl (by first | decide | simp) (x_pick_t rfl (fr.ev rfl) (fr.ev rfl)) ?_
  clear fr a; intro a fr
  refine fx_val (v := .bool false) fr rfl rfl (by first | decide | simp) (x_assign rfl (fr.ev rfl)) ?_
  clear fr a; intro a fr
  refine wpList_nil ?_
  refine fx_next ?_
  refine wp_ret ?_
  refine fx_rt ?_
  refine fx_ret fr [.tmp 4] [.bool false] rfl ⟨rfl, trivial⟩ rfl ?_
  exact ⟨_, rfl, rfl, rfl⟩
set_option maxRecDepth 100000 in
set_option maxHeartbeats 4000000 in
theorem same_xn {b : Nat} (w : World) : Calls Try.prog 23 #[.pointer (some ⟨b, 0, none⟩), .pointer none] w (Ret fun v w' => v = .bool false ∧ w' = w) := by
  refine fx_enter Try.func23 rfl (N := (22, [])) (T := [(0, .pointer (some ⟨b, 0, none⟩)), (1, .pointer none)]) rfl (show 2 ≤ 22 by decide) ⟨rfl, rfl, trivial⟩ fun a fr => ?_
  refine wp_seq ?_
  refine wp_region_lit ?_  -- region 0
  refine fx_val (v := .bool false) fr rfl rfl (by first | decide | simp) (x_assign rfl rfl) ?_
  clear fr a; intro a fr
  refine wpList_nil ?_
  refine fx_next ?_
  refine wp_seq ?_
  refine wp_seq ?_
  refine wp_region_lit ?_  -- region 1
  refine fx_val (v := .pointer (some ⟨b, 0, none⟩)) fr rfl rfl (by first | decide | simp) (x_move rfl (fr.ev rfl)) ?_
  clear fr a; intro a fr
  refine fx_val (v := .bool false) fr rfl rfl (by first | decide | simp) (x_peql Try.underlying25 rfl (fr.ev rfl) rfl rfl) ?_
  clear fr a; intro a fr
  refine fx_val (v := .bool false) fr rfl rfl (by first | decide | simp) (x_move rfl (fr.ev rfl)) ?_
  clear fr a; intro a fr
  refine fx_val (v := .pointer none) fr (fr.want rfl rfl rfl) rfl (by first | decide | simp) (x_move rfl (fr.ev rfl)) ?_
  clear fr a; intro a fr
  refine fx_val (v := .bool true) fr (fr.want rfl rfl rfl) rfl (by first | decide | simp) (x_peql Try.underlying25 rfl (fr.ev rfl) rfl rfl) ?_
  clear fr a; intro a fr
  refine fx_val (v := .bool true) fr rfl rfl (by first | decide | simp) (x_pick_f rfl (fr.ev rfl) (fr.ev rfl)) ?_
  clear fr a; intro a fr
  refine wpList_nil ?_
  refine fx_next ?_
  refine fx_cond_t fr rfl ?_
  refine wp_seq ?_
  refine wp_region_lit ?_  -- region 2
  refine fx_val (v := .pointer (some ⟨b, 0, none⟩)) fr rfl rfl (by first | decide | simp) (x_move rfl (fr.ev rfl)) ?_
  clear fr a; intro a fr
  refine fx_val (v := .bool false) fr rfl rfl (by first | decide | simp) (x_peql Try.underlying25 rfl (fr.ev rfl) rfl rfl) ?_
  clear fr a; intro a fr
  refine fx_val (v := .bool false) fr rfl rfl (by first | decide | simp) (x_move rfl (fr.ev rfl)) ?_
  clear fr a; intro a fr
  refine fx_skip fr (fr.unwant rfl rfl rfl (by decide)) rfl (by first | decide | simp) ?_
  clear fr a; intro a fr
  refine fx_skip fr (fr.unwant rfl rfl rfl (by decide)) rfl (by first | decide | simp) ?_
  clear fr a; intro a fr
  refine fx_val (v := .bool false) fr rfl rfl (by first | decide | simp) (x_pick_f rfl (fr.ev rfl) rfl) ?_
  clear fr a; intro a fr
  refine fx_val (v := .bool false) fr rfl rfl (by first | decide | simp) (x_assign rfl (fr.ev rfl)) ?_
  clear fr a; intro a fr
  refine wpList_nil ?_
  refine fx_next ?_
  refine wp_ret ?_
  refine fx_rt ?_
  refine fx_ret fr [.tmp 4] [.bool false] rfl ⟨rfl, trivial⟩ rfl ?_
  exact ⟨_, rfl, rfl, rfl⟩
set_option maxRecDepth 100000 in
set_option maxHeartbeats 4000000 in
theorem same_xx {w : World} {b b2 : Nat} {l l2 : List VSt} (H : BufAt w b l) (H2 : BufAt w b2 l2) : Calls Try.prog 23 #[.pointer (some ⟨b, 0, none⟩), .pointer (some ⟨b2, 0, none⟩)] w (Ret fun v w' => v = .bool (decide (vals l = vals l2)) ∧ New w w') := by
  have hF := Only.refl (fun _ => False) w
  refine fx_enter Try.func23 rfl (N := (22, [])) (T := [(0, .pointer (some ⟨b, 0, none⟩)), (1, .pointer (some ⟨b2, 0, none⟩))]) rfl (show 2 ≤ 22 by decide) ⟨rfl, rfl, trivial⟩ fun a fr => ?_
  refine wp_seq ?_
  refine wp_region_lit ?_  -- region 0
  refine fx_val (v := .bool false) fr rfl rfl (by first | decide | simp) (x_assign rfl rfl) ?_
  clear fr a; intro a fr
  refine wpList_nil ?_
  refine fx_next ?_
  refine wp_seq ?_
  refine wp_seq ?_
  refine wp_region_lit ?_  -- region 1
  refine fx_val (v := .pointer (some ⟨b, 0, none⟩)) fr rfl rfl (by first | decide | simp) (x_move rfl (fr.ev rfl)) ?_
  clear fr a; intro a fr
  refine fx_val (v := .bool false) fr rfl rfl (by first | decide | simp) (x_peql Try.underlying25 rfl (fr.ev rfl) rfl rfl) ?_
  clear fr a; intro a fr
  refine fx_val (v := .bool false) fr rfl rfl (by first | decide | simp) (x_move rfl (fr.ev rfl)) ?_
  clear fr a; intro a fr
  refine fx_val (v := .pointer (some ⟨b2, 0, none⟩)) fr (fr.want rfl rfl rfl) rfl (by first | decide | simp) (x_move rfl (fr.ev rfl)) ?_
  clear fr a; intro a fr
  refine fx_val (v := .bool false) fr (fr.want rfl rfl rfl) rfl (by first | decide | simp) (x_peql Try.underlying25 rfl (fr.ev rfl) rfl rfl) ?_
  clear fr a; intro a fr
  refine fx_val (v := .bool false) fr rfl rfl (by first | decide | simp) (x_pick_f rfl (fr.ev rfl) (fr.ev rfl)) ?_
  clear fr a; intro a fr
  refine wpList_nil ?_
  refine fx_next ?_
  refine fx_cond_f fr rfl ?_
  refine wp_skip ?_
  refine fx_next ?_
  refine wp_seq ?_
  refine wp_region_lit ?_  -- region 3
  refine fx_val (v := .pointer (some ⟨b, 0, none⟩)) fr rfl rfl (by first | decide | simp) (x_move rfl (fr.ev rfl)) ?_
  clear fr a; intro a fr
  refine fx_call fr rfl rfl (by first | decide | simp) (x_call (vs := [.pointer (some ⟨b, 0, none⟩)]) rfl rfl ⟨(fr.ev rfl), trivial⟩ Try.func19 nm19 rfl) (all_c H) ?_
  clear fr a
  rintro v w5 ⟨A1, cap2, rfl, O3, hA4, hN6⟩ a fr
  have ap_A1_b : Apart A1 b := new_apart hA4 H.lt
  have ap_A1_b2 : Apart A1 b2 := new_apart hA4 H2.lt
  have gA_A1 := gA_new hF hA4
  replace H := H.new hN6
  replace H2 := H2.new hN6
  replace hF := hF.trNew hN6
  refine fx_val (v := .pointer (some ⟨b2, 0, none⟩)) fr rfl rfl (by first | decide | simp) (x_move rfl (fr.ev rfl)) ?_
  clear fr a; intro a fr
  refine fx_call fr rfl rfl (by first | decide | simp) (x_call (vs := [.pointer (some ⟨b2, 0, none⟩)]) rfl rfl ⟨(fr.ev rfl), trivial⟩ Try.func19 nm19 rfl) (all_c H2) ?_
  clear fr a
  rintro v w11 ⟨A7, cap8, rfl, O9, hA10, hN12⟩ a fr
  have ap_A7_b : Apart A7 b := new_apart hA10 H.lt
  have ap_A7_b2 : Apart A7 b2 := new_apart hA10 H2.lt
  have ap2_A1_A7 : Apart2 A1 A7 := (new_apart2 hA10 fun _ hg => O3.lt hg).symm
  have gA_A7 := gA_new hF hA10
  replace H := H.new hN12
  replace H2 := H2.new hN12
  replace O3 := O3.new hN12
  replace hF := hF.trNew hN12
  refine fx_call fr rfl rfl (by first | decide | simp) (x_call (vs := [.slice A1 ((vals l).length) cap2, .slice A7 ((vals l2).length) cap8]) rfl rfl ⟨(fr.ev rfl), (fr.ev rfl), trivial⟩ Try.func36 nm36 rfl) (equal_c (O3.view) (O9.view)) ?_
  clear fr a
  rintro v w13 ⟨rfl, hN14⟩ a fr
  replace H := H.new hN14
  replace H2 := H2.new hN14
  replace O3 := O3.new hN14
  replace O9 := O9.new hN14
  replace hF := hF.trNew hN14
  refine fx_val (v := .bool (decide (vals l = vals l2))) fr rfl rfl (by first | decide | simp) (x_assign rfl (fr.ev rfl)) ?_
  clear fr a; intro a fr
  refine wpList_nil ?_
  refine fx_next ?_
  refine wp_ret ?_
  refine fx_ret fr [.tmp 4] [.bool (decide (vals l = vals l2))] rfl ⟨rfl, trivial⟩ rfl ?_
  exact ⟨_, rfl, rfl, hF⟩
set_option maxRecDepth 100000 in
set_option maxHeartbeats 4000000 in
theorem forwards_c {w : World} {P : Option Addr} {cp : Nat} {la : List BAct} (hV : View actE w P cp la) (addr wide : Int) (ha : 0 ≤ addr ∧ addr < 4294967296) : Calls Try.prog 4 #[.slice P la.length cp, .int .u32 addr, .int .i64 wide] w (Ret fun v w' => v = .bool true ∧ New w w') := by
  have hVl := hV.len
  unfold maxLen at hVl
  have hF := Only.refl (fun _ => False) w
  refine fx_enter Try.func4 rfl (N := (57, [])) (T := [(0, .slice P la.length cp), (1, .int .u32 addr), (2, .int .i64 wide)]) rfl (show 3 ≤ 57 by decide) ⟨rfl, rfl, rfl, trivial⟩ fun a fr => ?_
  refine wp_seq ?_
  refine wp_region_lit ?_  -- region 0
  refine fx_val (v := .bool false) fr rfl rfl (by first | decide | simp) (x_assign rfl rfl) ?_
  clear fr a; intro a fr
  refine wpList_nil ?_
  refine fx_next ?_
  refine wp_seq ?_
  refine wp_seq ?_
  refine wp_region_lit ?_  -- region 1
  refine fx_val (v := .slice P la.length cp) fr rfl rfl (by first | decide | simp) (x_move rfl (fr.ev rfl)) ?_
  clear fr a; intro a fr
  refine fx_val (v := .int .i64 ((la.length : Nat) : Int)) fr rfl rfl (by first | decide | simp) (x_len Try.underlying40 rfl (fr.ev rfl)) ?_
  clear fr a; intro a fr
  refine fx_val (v := .bool (decide (100 < ((la.length : Nat) : Int)))) fr rfl rfl (by first | decide | simp) (x_gtr rfl (fr.ev rfl) rfl rfl) ?_
  clear fr a; intro a fr
  refine wpList_nil ?_
  refine fx_next ?_
  refine fx_cond fr rfl (fun hc1 => ?_) (fun hc1 => ?_)
  · skip
    have hc1 := of_decide_eq_true hc1
    refine wp_seq ?_
    refine wp_region_lit ?_  -- region 2
    refine fx_call fr rfl rfl (by first | decide | simp) (x_call (vs := []) rfl rfl trivial Try.func15 nm15 rfl) (works_c _) ?_
    clear fr a
    rintro v w2 ⟨rfl, hN3⟩ a fr
    replace hV := hV.new hN3
    replace hF := hF.trNew hN3
    refine fx_val (v := .bool true) fr rfl rfl (by first | decide | simp) (x_assign rfl (fr.ev rfl)) ?_
    clear fr a; intro a fr
    refine wpList_nil ?_
    refine fx_next ?_
    refine wp_ret ?_
    refine fx_rt ?_
    refine fx_ret fr [.tmp 6] [.bool true] rfl ⟨rfl, trivial⟩ rfl ?_
    exact ⟨_, rfl, rfl, hF⟩
  · skip
    have hc1 := of_decide_eq_false hc1
    refine wp_skip ?_
    refine fx_next ?_
    refine wp_seq ?_
    refine wp_region_lit ?_  -- region 3
    refine fx_val (v := .slice P la.length cp) fr rfl rfl (by first | decide | simp) (x_move rfl (fr.ev rfl)) ?_
    clear fr a; intro a fr
    refine fx_call fr rfl rfl (by first | decide | simp) (x_call (vs := [.slice P la.length cp]) rfl rfl ⟨(fr.ev rfl), trivial⟩ Try.func16 nm16 rfl) (played_c (hV)) ?_
    clear fr a
    rintro v w13 ⟨b4, l5, V6, vc7, rfl, H8, hW9, hb10, hV11, q12, hN14⟩ a fr
    have ap_P_b4 : Apart P b4 := hV.apart hb10
    have g_b4 := Nat.le_trans hF.size hb10
    have ap2_P_V6 : Apart2 P V6 := (new_apart2 hV11 fun _ hg => hV.lt hg).symm
    have gA_V6 := gA_new hF hV11
    replace hV := hV.new hN14
    replace hF := hF.trNew hN14
    have ap_V6_b4 := q12
    have hml := H8.len
    refine fx_val (v := .tuple #[.pointer (some ⟨b4, 0, none⟩), .slice V6 ((vals l5).length) vc7, .bool true]) fr rfl rfl (by first | decide | simp) (x_move rfl (fr.ev rfl)) ?_
    clear fr a; intro a fr
    refine fx_val (v := .pointer (some ⟨b4, 0, none⟩)) fr rfl rfl (by first | decide | simp) (x_extract rfl (fr.ev rfl) rfl) ?_
    clear fr a; intro a fr
    refine fx_val (v := .slice V6 ((vals l5).length) vc7) fr rfl rfl (by first | decide | simp) (x_extract rfl (fr.ev rfl) rfl) ?_
    clear fr a; intro a fr
    refine fx_val (v := .bool true) fr rfl rfl (by first | decide | simp) (x_extract rfl (fr.ev rfl) rfl) ?_
    clear fr a; intro a fr
    refine fx_val (v := .pointer (some ⟨b4, 0, none⟩)) fr rfl rfl (by first | decide | simp) (x_assign rfl (fr.ev rfl)) ?_
    clear fr a; intro a fr
    refine fx_val (v := .slice V6 ((vals l5).length) vc7) fr rfl rfl (by first | decide | simp) (x_assign rfl (fr.ev rfl)) ?_
    clear fr a; intro a fr
    refine fx_val (v := .bool true) fr rfl rfl (by first | decide | simp) (x_assign rfl (fr.ev rfl)) ?_
    clear fr a; intro a fr
    refine wpList_nil ?_
    refine fx_next ?_
    refine wp_seq ?_
    refine wp_region_lit ?_  -- region 4
    refine fx_val (v := .pointer (some ⟨b4, 0, none⟩)) fr rfl rfl (by first | decide | simp) (x_move rfl (fr.ev rfl)) ?_
    clear fr a; intro a fr
    refine fx_val (v := .int .u32 addr) fr rfl rfl (by first | decide | simp) (x_move rfl (fr.ev rfl)) ?_
    clear fr a; intro a fr
    refine fx_val (v := .int .i64 wide) fr rfl rfl (by first | decide | simp) (x_move rfl (fr.ev rfl)) ?_
    clear fr a; intro a fr
    refine fx_call fr rfl rfl (by first | decide | simp) (x_call (vs := [.pointer (some ⟨b4, 0, none⟩), .int .u32 addr, .int .i64 wide]) rfl rfl ⟨(fr.ev rfl), (fr.ev rfl), (fr.ev rfl), trivial⟩ Try.func11 nm11 rfl) (forward_c H8 addr wide (by omega)) ?_
    clear fr a
    rintro v w15 ⟨rfl, hN16⟩ a fr
    replace hV := hV.new hN16
    replace H8 := H8.new hN16
    replace hW9 := hW9.new hN16
    replace hF := hF.trNew hN16
    refine fx_val (v := .tuple #[.int .u32 ((fwd l5 addr wide).1), .int .i64 ((fwd l5 addr wide).2)]) fr rfl rfl (by first | decide | simp) (x_move rfl (fr.ev rfl)) ?_
    clear fr a; intro a fr
    refine fx_val (v := .int .u32 ((fwd l5 addr wide).1)) fr rfl rfl (by first | decide | simp) (x_extract rfl (fr.ev rfl) rfl) ?_
    clear fr a; intro a fr
    refine fx_val (v := .int .i64 ((fwd l5 addr wide).2)) fr rfl rfl (by first | decide | simp) (x_extract rfl (fr.ev rfl) rfl) ?_
    clear fr a; intro a fr
    refine fx_val (v := .int .u32 ((fwd l5 addr wide).1)) fr rfl rfl (by first | decide | simp) (x_assign rfl (fr.ev rfl)) ?_
    clear fr a; intro a fr
    refine fx_val (v := .int .i64 ((fwd l5 addr wide).2)) fr rfl rfl (by first | decide | simp) (x_assign rfl (fr.ev rfl)) ?_
    clear fr a; intro a fr
    refine wpList_nil ?_
    refine fx_next ?_
    refine wp_seq ?_
    refine wp_region_lit ?_  -- region 5
    refine fx_val (v := .slice V6 ((vals l5).length) vc7) fr rfl rfl (by first | decide | simp) (x_move rfl (fr.ev rfl)) ?_
    clear fr a; intro a fr
    refine fx_val (v := .int .u32 addr) fr rfl rfl (by first | decide | simp) (x_move rfl (fr.ev rfl)) ?_
    clear fr a; intro a fr
    refine fx_val (v := .int .i64 wide) fr rfl rfl (by first | decide | simp) (x_move rfl (fr.ev rfl)) ?_
    clear fr a; intro a fr
    refine fx_call fr rfl rfl (by first | decide | simp) (x_call (vs := [.slice V6 ((vals l5).length) vc7, .int .u32 addr, .int .i64 wide]) rfl rfl ⟨(fr.ev rfl), (fr.ev rfl), (fr.ev rfl), trivial⟩ Try.func13 nm13 rfl) (rforward_c (l := l5) (hW9) addr wide (by omega)) ?_
    clear fr a
    rintro v w17 ⟨rfl, hN18⟩ a fr
    replace hV := hV.new hN18
    replace H8 := H8.new hN18
    replace hW9 := hW9.new hN18
    replace hF := hF.trNew hN18
    refine fx_val (v := .tuple #[.int .u32 ((fwd l5 addr wide).1), .int .i64 ((fwd l5 addr wide).2)]) fr rfl rfl (by first | decide | simp) (x_move rfl (fr.ev rfl)) ?_
    clear fr a; intro a fr
    refine fx_val (v := .int .u32 ((fwd l5 addr wide).1)) fr rfl rfl (by first | decide | simp) (x_extract rfl (fr.ev rfl) rfl) ?_
    clear fr a; intro a fr
    refine fx_val (v := .int .i64 ((fwd l5 addr wide).2)) fr rfl rfl (by first | decide | simp) (x_extract rfl (fr.ev rfl) rfl) ?_
    clear fr a; intro a fr
    refine fx_val (v := .int .u32 ((fwd l5 addr wide).1)) fr rfl rfl (by first | decide | simp) (x_assign rfl (fr.ev rfl)) ?_
    clear fr a; intro a fr
    refine fx_val (v := .int .i64 ((fwd l5 addr wide).2)) fr rfl rfl (by first | decide | simp) (x_assign rfl (fr.ev rfl)) ?_
    clear fr a; intro a fr
    refine wpList_nil ?_
    refine fx_next ?_
    refine wp_seq ?_
    refine wp_region_lit ?_  -- region 6
    refine fx_val (v := .bool true) fr rfl rfl (by first | decide | simp) (x_move rfl (fr.ev rfl)) ?_
    clear fr a; intro a fr
    refine fx_val (v := .bool true) fr rfl rfl (by first | decide | simp) (x_move rfl (fr.ev rfl)) ?_
    clear fr a; intro a fr
    refine fx_val (v := .int .u32 ((fwd l5 addr wide).1)) fr (fr.want rfl rfl rfl) rfl (by first | decide | simp) (x_move rfl (fr.ev rfl)) ?_
    clear fr a; intro a fr
    refine fx_val (v := .int .u32 ((fwd l5 addr wide).1)) fr (fr.want rfl rfl rfl) rfl (by first | decide | simp) (x_move rfl (fr.ev rfl)) ?_
    clear fr a; intro a fr
    refine fx_val (v := .bool true) fr (fr.want rfl rfl rfl) rfl (by first | decide | simp) (x_eql rfl (fr.ev rfl) (fr.ev rfl) (by simp)) ?_
    clear fr a; intro a fr
    refine fx_val (v := .bool true) fr rfl rfl (by first | decide | simp) (x_pick_t rfl (fr.ev rfl) (fr.ev rfl)) ?_
    clear fr a; intro a fr
    refine fx_val (v := .bool true) fr rfl rfl (by first | decide | simp) (x_move rfl (fr.ev rfl)) ?_
    clear fr a; intro a fr
    refine fx_val (v := .int .i64 ((fwd l5 addr wide).2)) fr (fr.want rfl rfl rfl) rfl (by first | decide | simp) (x_move rfl (fr.ev rfl)) ?_
    clear fr a; intro a fr
    refine fx_val (v := .int .i64 ((fwd l5 addr wide).2)) fr (fr.want rfl rfl rfl) rfl (by first | decide | simp) (x_move rfl (fr.ev rfl)) ?_
    clear fr a; intro a fr
    refine fx_val (v := .bool true) fr (fr.want rfl rfl rfl) rfl (by first | decide | simp) (x_eql rfl (fr.ev rfl) (fr.ev rfl) (by simp)) ?_
    clear fr a; intro a fr
    refine fx_val (v := .bool true) fr rfl rfl (by first | decide | simp) (x_pick_t rfl (fr.ev rfl) (fr.ev rfl)) ?_
    clear fr a; intro a fr
    refine fx_val (v := .bool true) fr rfl rfl (by first | decide | simp) (x_move rfl (fr.ev rfl)) ?_
    clear fr a; intro a fr
    refine fx_val (v := .pointer (some ⟨b4, 0, none⟩)) fr (fr.want rfl rfl rfl) rfl (by first | decide | simp) (x_move rfl (fr.ev rfl)) ?_
    clear fr a; intro a fr
    refine fx_val (v := .slice V6 ((vals l5).length) vc7) fr (fr.want rfl rfl rfl) rfl (by first | decide | simp) (x_move rfl (fr.ev rfl)) ?_
    clear fr a; intro a fr
    refine fx_call fr (fr.want rfl rfl rfl) rfl (by first | decide | simp) (x_call (vs := [.pointer (some ⟨b4, 0, none⟩), .slice V6 ((vals l5).length) vc7]) rfl rfl ⟨(fr.ev rfl), (fr.ev rfl), trivial⟩ Try.func17 nm17 rfl) (is_c H8 (hW9)) ?_
    clear fr a
    rintro v w19 ⟨rfl, hN20⟩ a fr
    replace hV := hV.new hN20
    replace H8 := H8.new hN20
    replace hW9 := hW9.new hN20
    replace hF := hF.trNew hN20
    refine fx_val (v := .bool true) fr rfl rfl (by first | decide | simp) (x_pick_t rfl (fr.ev rfl) (fr.ev rfl)) ?_
    clear fr a; intro a fr
    refine fx_val (v := .bool true) fr rfl rfl (by first | decide | simp) (x_move rfl (fr.ev rfl)) ?_
    clear fr a; intro a fr
    refine fx_call fr (fr.want rfl rfl rfl) rfl (by first | decide | simp) (x_call (vs := []) rfl rfl trivial Try.func15 nm15 rfl) (works_c _) ?_
    clear fr a
    rintro v w21 ⟨rfl, hN22⟩ a fr
    replace hV := hV.new hN22
    replace H8 := H8.new hN22
    replace hW9 := hW9.new hN22
    replace hF := hF.trNew hN22
    refine fx_val (v := .bool true) fr rfl rfl (by first | decide | simp) (x_pick_t rfl (fr.ev rfl) (fr.ev rfl)) ?_
    clear fr a; intro a fr
    refine fx_val (v := .bool true) fr rfl rfl (by first | decide | simp) (x_assign rfl (fr.ev rfl)) ?_
    clear fr a; intro a fr
    refine wpList_nil ?_
    refine fx_next ?_
    refine wp_ret ?_
    refine fx_ret fr [.tmp 6] [.bool true] rfl ⟨rfl, trivial⟩ rfl ?_
    exact ⟨_, rfl, rfl, hF⟩
set_option maxRecDepth 100000 in
set_option maxHeartbeats 4000000 in
theorem plays_c {w : World} {P : Option Addr} {cp : Nat} {la : List BAct} (hV : View actE w P cp la) : Calls Try.prog 7 #[.slice P la.length cp] w (Ret fun v w' => v = .bool true ∧ New w w') := by
  have hVl := hV.len
  unfold maxLen at hVl
  have hF := Only.refl (fun _ => False) w
  refine fx_enter Try.func7 rfl (N := (93, [])) (T := [(0, .slice P la.length cp)]) rfl (show 1 ≤ 93 by decide) ⟨rfl, trivial⟩ fun a fr => ?_
  refine wp_seq ?_
  refine wp_region_lit ?_  -- region 0
  refine fx_val (v := .bool false) fr rfl rfl (by first | decide | simp) (x_assign rfl rfl) ?_
  clear fr a; intro a fr
  refine wpList_nil ?_
  refine fx_next ?_
  refine wp_seq ?_
  refine wp_seq ?_
  refine wp_region_lit ?_  -- region 1
  refine fx_val (v := .slice P la.length cp) fr rfl rfl (by first | decide | simp) (x_move rfl (fr.ev rfl)) ?_
  clear fr a; intro a fr
  refine fx_val (v := .int .i64 ((la.length : Nat) : Int)) fr rfl rfl (by first | decide | simp) (x_len Try.underlying40 rfl (fr.ev rfl)) ?_
  clear fr a; intro a fr
  refine fx_val (v := .bool (decide (100 < ((la.length : Nat) : Int)))) fr rfl rfl (by first | decide | simp) (x_gtr rfl (fr.ev rfl) rfl rfl) ?_
  clear fr a; intro a fr
  refine wpList_nil ?_
  refine fx_next ?_
  refine fx_cond fr rfl (fun hc1 => ?_) (fun hc1 => ?_)
  · skip
    have hc1 := of_decide_eq_true hc1
    refine wp_seq ?_
    refine wp_region_lit ?_  -- region 2
    refine fx_call fr rfl rfl (by first | decide | simp) (x_call (vs := []) rfl rfl trivial Try.func15 nm15 rfl) (works_c _) ?_
    clear fr a
    rintro v w2 ⟨rfl, hN3⟩ a fr
    replace hV := hV.new hN3
    replace hF := hF.trNew hN3
    refine fx_val (v := .bool true) fr rfl rfl (by first | decide | simp) (x_assign rfl (fr.ev rfl)) ?_
    clear fr a; intro a fr
    refine wpList_nil ?_
    refine fx_next ?_
    refine wp_ret ?_
    refine fx_rt ?_
    refine fx_ret fr [.tmp 2] [.bool true] rfl ⟨rfl, trivial⟩ rfl ?_
    exact ⟨_, rfl, rfl, hF⟩
  · skip
    have hc1 := of_decide_eq_false hc1
    refine wp_skip ?_
    refine fx_next ?_
    refine wp_seq ?_
    refine wp_region_lit ?_  -- region 3
    refine fx_val (v := .slice P la.length cp) fr rfl rfl (by first | decide | simp) (x_move rfl (fr.ev rfl)) ?_
    clear fr a; intro a fr
    refine fx_call fr rfl rfl (by first | decide | simp) (x_call (vs := [.slice P la.length cp]) rfl rfl ⟨(fr.ev rfl), trivial⟩ Try.func16 nm16 rfl) (played_c (hV)) ?_
    clear fr a
    rintro v w13 ⟨b4, l5, V6, vc7, rfl, H8, hW9, hb10, hV11, q12, hN14⟩ a fr
    have ap_P_b4 : Apart P b4 := hV.apart hb10
    have g_b4 := Nat.le_trans hF.size hb10
    have ap2_P_V6 : Apart2 P V6 := (new_apart2 hV11 fun _ hg => hV.lt hg).symm
    have gA_V6 := gA_new hF hV11
    replace hV := hV.new hN14
    replace hF := hF.trNew hN14
    have ap_V6_b4 := q12
    have hml := H8.len
    refine fx_val (v := .tuple #[.pointer (some ⟨b4, 0, none⟩), .slice V6 ((vals l5).length) vc7, .bool true]) fr rfl rfl (by first | decide | simp) (x_move rfl (fr.ev rfl)) ?_
    clear fr a; intro a fr
    refine fx_val (v := .pointer (some ⟨b4, 0, none⟩)) fr rfl rfl (by first | decide | simp) (x_extract rfl (fr.ev rfl) rfl) ?_
    clear fr a; intro a fr
    refine fx_val (v := .slice V6 ((vals l5).length) vc7) fr rfl rfl (by first | decide | simp) (x_extract rfl (fr.ev rfl) rfl) ?_
    clear fr a; intro a fr
    refine fx_val (v := .bool true) fr rfl rfl (by first | decide | simp) (x_extract rfl (fr.ev rfl) rfl) ?_
    clear fr a; intro a fr
    refine fx_val (v := .pointer (some ⟨b4, 0, none⟩)) fr rfl rfl (by first | decide | simp) (x_assign rfl (fr.ev rfl)) ?_
    clear fr a; intro a fr
    refine fx_val (v := .slice V6 ((vals l5).length) vc7) fr rfl rfl (by first | decide | simp) (x_assign rfl (fr.ev rfl)) ?_
    clear fr a; intro a fr
    refine fx_val (v := .bool true) fr rfl rfl (by first | decide | simp) (x_assign rfl (fr.ev rfl)) ?_
    clear fr a; intro a fr
    refine wpList_nil ?_
    refine fx_next ?_
    refine wp_seq ?_
    refine wp_region_lit ?_  -- region 4
    refine fx_val (v := .pointer none) fr rfl rfl (by first | decide | simp) (x_assign rfl rfl) ?_
    clear fr a; intro a fr
    refine wpList_nil ?_
    refine fx_next ?_
    refine wp_seq ?_
    refine wp_region_lit ?_  -- region 5
    refine fx_val (v := .pointer none) fr rfl rfl (by first | decide | simp) (x_move rfl (fr.ev rfl)) ?_
    clear fr a; intro a fr
    refine fx_call fr rfl rfl (by first | decide | simp) (x_call (vs := [.pointer none]) rfl rfl ⟨(fr.ev rfl), trivial⟩ Try.func20 nm20 rfl) (head_nil _) ?_
    clear fr a
    rintro v w15 ⟨rfl, hN16⟩ a fr
    replace hV := hV.new hN16
    replace H8 := H8.new hN16
    replace hW9 := hW9.new hN16
    replace hF := hF.trNew hN16
    refine fx_val (v := .tuple #[.agg (stE.arr st0), .bool false]) fr rfl rfl (by first | decide | simp) (x_move rfl (fr.ev rfl)) ?_
    clear fr a; intro a fr
    refine fx_val (v := .agg (stE.arr st0)) fr rfl rfl (by first | decide | simp) (x_extract rfl (fr.ev rfl) rfl) ?_
    clear fr a; intro a fr
    refine fx_val (v := .bool false) fr rfl rfl (by first | decide | simp) (x_extract rfl (fr.ev rfl) rfl) ?_
    clear fr a; intro a fr
    refine fx_new fr rfl rfl (by first | decide | simp) (x_alloc (z := .agg (#[.int .u32 0, .int .i64 0, .int .u32 0])) (cs := stE.arr st0) rfl (by kernel_rfl) rfl) ?_
    clear fr a
    intro b17 w18 hN19 B20 hb21 a fr
    have ap_P_b17 : Apart P b17 := hV.apart hb21
    have ne_b4_b17 : NE b4 b17 := NE.mk (Nat.lt_of_lt_of_le H8.lt hb21)
    have ap_V6_b17 : Apart V6 b17 := hW9.apart hb21
    have g_b17 := Nat.le_trans hF.size hb21
    replace hV := hV.new hN19
    replace H8 := H8.new hN19
    replace hW9 := hW9.new hN19
    replace hF := hF.trNew hN19
    refine fx_storeS sz24 rfl rfl rfl (fr.ev rfl) (fr.ev rfl) (stE.all _) B20 (stE.size _) (stE.size _) fun w22 hO23 hBq => ?_
    replace hV := hV.only hO23 (Apart.ne1 ap_P_b17)
    replace H8 := H8.only hO23 (by first | exact ne_b4_b17 | exact ne_b17_b4.symm | (show ¬ b4 = b17; omega))
    replace hW9 := hW9.only hO23 (Apart.ne1 ap_V6_b17)
    replace hF := hF.loc hO23 (.inr g_b17)
    replace B20 := hBq
    clear hBq
    refine fx_val (v := .bool false) fr rfl rfl (by first | decide | simp) (x_assign rfl (fr.ev rfl)) ?_
    clear fr a; intro a fr
    refine wpList_nil ?_
    refine fx_next ?_
    refine wp_seq ?_
    refine wp_region_lit ?_  -- region 6
    refine fx_val (v := .pointer none) fr rfl rfl (by first | decide | simp) (x_move rfl (fr.ev rfl)) ?_
    clear fr a; intro a fr
    refine fx_call fr rfl rfl (by first | decide | simp) (x_call (vs := [.pointer none]) rfl rfl ⟨(fr.ev rfl), trivial⟩ Try.func18 nm18 rfl) (pop_nil _) ?_
    clear fr a
    rintro v w24 ⟨rfl, hN25⟩ a fr
    replace hV := hV.new hN25
    replace H8 := H8.new hN25
    replace hW9 := hW9.new hN25
    replace B20 := B20.new hN25
    replace hF := hF.trNew hN25
    refine fx_val (v := .tuple #[.agg (stE.arr st0), .bool false]) fr rfl rfl (by first | decide | simp) (x_move rfl (fr.ev rfl)) ?_
    clear fr a; intro a fr
    refine fx_val (v := .agg (stE.arr st0)) fr rfl rfl (by first | decide | simp) (x_extract rfl (fr.ev rfl) rfl) ?_
    clear fr a; intro a fr
    refine fx_val (v := .bool false) fr rfl rfl (by first | decide | simp) (x_extract rfl (fr.ev rfl) rfl) ?_
    clear fr a; intro a fr
    refine fx_new fr rfl rfl (by first | decide | simp) (x_alloc (z := .agg (#[.int .u32 0, .int .i64 0, .int .u32 0])) (cs := stE.arr st0) rfl (by kernel_rfl) rfl) ?_
    clear fr a
    intro b26 w27 hN28 B29 hb30 a fr
    have ap_P_b26 : Apart P b26 := hV.apart hb30
    have ne_b4_b26 : NE b4 b26 := NE.mk (Nat.lt_of_lt_of_le H8.lt hb30)
    have ap_V6_b26 : Apart V6 b26 := hW9.apart hb30
    have ne_b17_b26 : NE b17 b26 := NE.mk (Nat.lt_of_lt_of_le B20.lt hb30)
    have g_b26 := Nat.le_trans hF.size hb30
    replace hV := hV.new hN28
    replace H8 := H8.new hN28
    replace hW9 := hW9.new hN28
    replace B20 := B20.new hN28
    replace hF := hF.trNew hN28
    refine fx_storeS sz24 rfl rfl rfl (fr.ev rfl) (fr.ev rfl) (stE.all _) B29 (stE.size _) (stE.size _) fun w31 hO32 hBq => ?_
    replace hV := hV.only hO32 (Apart.ne1 ap_P_b26)
    replace H8 := H8.only hO32 (by first | exact ne_b4_b26 | exact ne_b26_b4.symm | (show ¬ b4 = b26; omega))
    replace hW9 := hW9.only hO32 (Apart.ne1 ap_V6_b26)
    replace B20 := B20.only hO32 (by first | exact ne_b17_b26 | exact ne_b26_b17.symm | (show ¬ b17 = b26; omega))
    replace hF := hF.loc hO32 (.inr g_b26)
    replace B29 := hBq
    clear hBq
    refine fx_val (v := .bool false) fr rfl rfl (by first | decide | simp) (x_assign rfl (fr.ev rfl)) ?_
    clear fr a; intro a fr
    refine wpList_nil ?_
    refine fx_next ?_
    refine wp_seq ?_
    refine wp_region_lit ?_  -- region 7
    refine fx_val (v := .pointer none) fr rfl rfl (by first | decide | simp) (x_move rfl (fr.ev rfl)) ?_
    clear fr a; intro a fr
    refine fx_call fr rfl rfl (by first | decide | simp) (x_call (vs := [.pointer none, .int .u32 0, .int .i64 4]) rfl rfl ⟨(fr.ev rfl), rfl, rfl, trivial⟩ Try.func11 nm11 rfl) (forward_nil _ 0 4 (by omega)) ?_
    clear fr a
    rintro v w33 ⟨rfl, hN34⟩ a fr
    replace hV := hV.new hN34
    replace H8 := H8.new hN34
    replace hW9 := hW9.new hN34
    replace B20 := B20.new hN34
    replace B29 := B29.new hN34
    replace hF := hF.trNew hN34
    rw [show (fwd ([]) 0 4) = (0, 0) by decide +kernel] at fr
    refine fx_val (v := .tuple #[.int .u32 0, .int .i64 0]) fr rfl rfl (by first | decide | simp) (x_move rfl (fr.ev rfl)) ?_
    clear fr a; intro a fr
    refine fx_val (v := .int .u32 0) fr rfl rfl (by first | decide | simp) (x_extract rfl (fr.ev rfl) rfl) ?_
    clear fr a; intro a fr
    refine fx_val (v := .int .i64 0) fr rfl rfl (by first | decide | simp) (x_extract rfl (fr.ev rfl) rfl) ?_
    clear fr a; intro a fr
    refine fx_val (v := .int .u32 0) fr rfl rfl (by first | decide | simp) (x_assign rfl (fr.ev rfl)) ?_
    clear fr a; intro a fr
    refine fx_val (v := .int .i64 0) fr rfl rfl (by first | decide | simp) (x_assign rfl (fr.ev rfl)) ?_
    clear fr a; intro a fr
    refine wpList_nil ?_
    refine fx_next ?_
    refine wp_seq ?_
    refine wp_seq ?_
    refine wp_region_lit ?_  -- region 8
    refine fx_val (v := .bool false) fr rfl rfl (by first | decide | simp) (x_move rfl (fr.ev rfl)) ?_
    clear fr a; intro a fr
    refine fx_val (v := .bool false) fr rfl rfl (by first | decide | simp) (x_move rfl (fr.ev rfl)) ?_
    clear fr a; intro a fr
    refine fx_val (v := .bool false) fr (fr.want rfl rfl rfl) rfl (by first | decide | simp) (x_move rfl (fr.ev rfl)) ?_
    clear fr a; intro a fr
    refine fx_val (v := .bool false) fr rfl rfl (by first | decide | simp) (x_pick_f rfl (fr.ev rfl) (fr.ev rfl)) ?_
    clear fr a; intro a fr
    refine fx_val (v := .bool false) fr rfl rfl (by first | decide | simp) (x_move rfl (fr.ev rfl)) ?_
    clear fr a; intro a fr
    refine fx_val (v := .int .i64 0) fr (fr.want rfl rfl rfl) rfl (by first | decide | simp) (x_move rfl (fr.ev rfl)) ?_
    clear fr a; intro a fr
    refine fx_val (v := .bool false) fr (fr.want rfl rfl rfl) rfl (by first | decide | simp) (x_neq rfl (fr.ev rfl) rfl rfl) ?_
    clear fr a; intro a fr
    refine fx_val (v := .bool false) fr rfl rfl (by first | decide | simp) (x_pick_f rfl (fr.ev rfl) (fr.ev rfl)) ?_
    clear fr a; intro a fr
    refine fx_val (v := .bool false) fr rfl rfl (by first | decide | simp) (x_move rfl (fr.ev rfl)) ?_
    clear fr a; intro a fr
    refine fx_val (v := .pointer none) fr (fr.want rfl rfl rfl) rfl (by first | decide | simp) (x_move rfl (fr.ev rfl)) ?_
    clear fr a; intro a fr
    refine fx_val (v := .agg (stE.arr (mkS 0 1 0))) fr (fr.want rfl rfl rfl) rfl (by first | decide | simp) (x_build (cells := stE.arr (mkS 0 1 0)) rfl (by kernel_rfl)) ?_
    clear fr a; intro a fr
    refine fx_call fr (fr.want rfl rfl rfl) rfl (by first | decide | simp) (x_call (vs := [.pointer none, .agg (stE.arr (mkS 0 1 0))]) rfl rfl ⟨(fr.ev rfl), (fr.ev rfl), trivial⟩ Try.func10 nm10 rfl) (push_nil (mkS 0 1 0) _) ?_
    clear fr a
    rintro v w35 ⟨rfl, hN36⟩ a fr
    replace hV := hV.new hN36
    replace H8 := H8.new hN36
    replace hW9 := hW9.new hN36
    replace B20 := B20.new hN36
    replace B29 := B29.new hN36
    replace hF := hF.trNew hN36
    refine fx_call fr (fr.want rfl rfl rfl) rfl (by first | decide | simp) (x_call (vs := [.int .i64 1]) rfl rfl ⟨(fr.ev rfl), trivial⟩ Try.func14 nm14 rfl) (num_c 1 _) ?_
    clear fr a
    rintro v w9 ⟨rfl, hw9⟩ a fr
    obtain rfl := hw9.symm
    refine fx_val (v := .bool false) fr (fr.want rfl rfl rfl) rfl (by first | decide | simp) (x_neq rfl (fr.ev rfl) rfl rfl) ?_
    clear fr a; intro a fr
    refine fx_val (v := .bool false) fr rfl rfl (by first | decide | simp) (x_pick_f rfl (fr.ev rfl) (fr.ev rfl)) ?_
    clear fr a; intro a fr
    refine fx_val (v := .bool false) fr rfl rfl (by first | decide | simp) (x_move rfl (fr.ev rfl)) ?_
    clear fr a; intro a fr
    refine fx_val (v := .pointer none) fr (fr.want rfl rfl rfl) rfl (by first | decide | simp) (x_move rfl (fr.ev rfl)) ?_
    clear fr a; intro a fr
    refine fx_call fr (fr.want rfl rfl rfl) rfl (by first | decide | simp) (x_call (vs := [.pointer none]) rfl rfl ⟨(fr.ev rfl), trivial⟩ Try.func21 nm21 rfl) (len_nil _) ?_
    clear fr a
    rintro v w9 ⟨rfl, hw9⟩ a fr
    obtain rfl := hw9.symm
    refine fx_val (v := .bool false) fr (fr.want rfl rfl rfl) rfl (by first | decide | simp) (x_neq rfl (fr.ev rfl) rfl rfl) ?_
    clear fr a; intro a fr
    refine fx_val (v := .bool false) fr rfl rfl (by first | decide | simp) (x_pick_f rfl (fr.ev rfl) (fr.ev rfl)) ?_
    clear fr a; intro a fr
    refine fx_val (v := .bool false) fr rfl rfl (by first | decide | simp) (x_move rfl (fr.ev rfl)) ?_
    clear fr a; intro a fr
    refine fx_val (v := .pointer none) fr (fr.want rfl rfl rfl) rfl (by first | decide | simp) (x_move rfl (fr.ev rfl)) ?_
    clear fr a; intro a fr
    refine fx_call fr (fr.want rfl rfl rfl) rfl (by first | decide | simp) (x_call (vs := [.pointer none]) rfl rfl ⟨(fr.ev rfl), trivial⟩ Try.func19 nm19 rfl) (all_nil _) ?_
    clear fr a
    rintro v w43 ⟨A41, cap42, rfl, hN44⟩ a fr
    replace hV := hV.new hN44
    replace H8 := H8.new hN44
    replace hW9 := hW9.new hN44
    replace B20 := B20.new hN44
    replace B29 := B29.new hN44
    replace hF := hF.trNew hN44
    refine fx_val (v := .int .i64 ((0 : Nat) : Int)) fr (fr.want rfl rfl rfl) rfl (by first | decide | simp) (x_len Try.underlying32 rfl (fr.ev rfl)) ?_
    clear fr a; intro a fr
    refine fx_val (v := .bool false) fr (fr.want rfl rfl rfl) rfl (by first | decide | simp) (x_neq rfl (fr.ev rfl) rfl rfl) ?_
    clear fr a; intro a fr
    refine fx_val (v := .bool false) fr rfl rfl (by first | decide | simp) (x_pick_f rfl (fr.ev rfl) (fr.ev rfl)) ?_
    clear fr a; intro a fr
    refine fx_val (v := .bool false) fr rfl rfl (by first | decide | simp) (x_move rfl (fr.ev rfl)) ?_
    clear fr a; intro a fr
    refine fx_val (v := .pointer none) fr (fr.want rfl rfl rfl) rfl (by first | decide | simp) (x_move rfl (fr.ev rfl)) ?_
    clear fr a; intro a fr
    refine fx_call fr (fr.want rfl rfl rfl) rfl (by first | decide | simp) (x_call (vs := [.pointer none]) rfl rfl ⟨(fr.ev rfl), trivial⟩ Try.func22 nm22 rfl) (copy_nil _) ?_
    clear fr a
    rintro v w9 ⟨rfl, hw9⟩ a fr
    obtain rfl := hw9.symm
    refine fx_val (v := .bool false) fr (fr.want rfl rfl rfl) rfl (by first | decide | simp) (x_pneq Try.underlying25 rfl (fr.ev rfl) rfl rfl) ?_
    clear fr a; intro a fr
    refine fx_val (v := .bool false) fr rfl rfl (by first | decide | simp) (x_pick_f rfl (fr.ev rfl) (fr.ev rfl)) ?_
    clear fr a; intro a fr
    refine fx_val (v := .bool false) fr rfl rfl (by first | decide | simp) (x_move rfl (fr.ev rfl)) ?_
    clear fr a; intro a fr
    refine fx_val (v := .pointer none) fr (fr.want rfl rfl rfl) rfl (by first | decide | simp) (x_move rfl (fr.ev rfl)) ?_
    clear fr a; intro a fr
    refine fx_call fr (fr.want rfl rfl rfl) rfl (by first | decide | simp) (x_call (vs := [.pointer none, .pointer none]) rfl rfl ⟨(fr.ev rfl), rfl, trivial⟩ Try.func23 nm23 rfl) (same_nn _) ?_
    clear fr a
    rintro v w9 ⟨rfl, hw9⟩ a fr
    obtain rfl := hw9.symm
    refine fx_val (v := .bool false) fr (fr.want rfl rfl rfl) rfl (by first | decide | simp) (x_not rfl (fr.ev rfl) rfl) ?_
    clear fr a; intro a fr
    refine fx_val (v := .bool false) fr rfl rfl (by first | decide | simp) (x_pick_f rfl (fr.ev rfl) (fr.ev rfl)) ?_
    clear fr a; intro a fr
    refine fx_val (v := .bool false) fr rfl rfl (by first | decide | simp) (x_move rfl (fr.ev rfl)) ?_
    clear fr a; intro a fr
    refine fx_val (v := .pointer none) fr (fr.want rfl rfl rfl) rfl (by first | decide | simp) (x_move rfl (fr.ev rfl)) ?_
    clear fr a; intro a fr
    refine fx_val (v := .pointer (some ⟨b4, 0, none⟩)) fr (fr.want rfl rfl rfl) rfl (by first | decide | simp) (x_move rfl (fr.ev rfl)) ?_
    clear fr a; intro a fr
    refine fx_call fr (fr.want rfl rfl rfl) rfl (by first | decide | simp) (x_call (vs := [.pointer none, .pointer (some ⟨b4, 0, none⟩)]) rfl rfl ⟨(fr.ev rfl), (fr.ev rfl), trivial⟩ Try.func23 nm23 rfl) (same_nx _) ?_
    clear fr a
    rintro v w9 ⟨rfl, hw9⟩ a fr
    obtain rfl := hw9.symm
    refine fx_val (v := .bool false) fr rfl rfl (by first | decide | simp) (x_pick_f rfl (fr.ev rfl) (fr.ev rfl)) ?_
    clear fr a; intro a fr
    refine fx_val (v := .bool false) fr rfl rfl (by first | decide | simp) (x_move rfl (fr.ev rfl)) ?_
    clear fr a; intro a fr
    refine fx_val (v := .pointer (some ⟨b4, 0, none⟩)) fr (fr.want rfl rfl rfl) rfl (by first | decide | simp) (x_move rfl (fr.ev rfl)) ?_
    clear fr a; intro a fr
    refine fx_val (v := .pointer none) fr (fr.want rfl rfl rfl) rfl (by first | decide | simp) (x_move rfl (fr.ev rfl)) ?_
    clear fr a; intro a fr
    refine fx_call fr (fr.want rfl rfl rfl) rfl (by first | decide | simp) (x_call (vs := [.pointer (some ⟨b4, 0, none⟩), .pointer none]) rfl rfl ⟨(fr.ev rfl), (fr.ev rfl), trivial⟩ Try.func23 nm23 rfl) (same_xn _) ?_
    clear fr a
    rintro v w9 ⟨rfl, hw9⟩ a fr
    obtain rfl := hw9.symm
    refine fx_val (v := .bool false) fr rfl rfl (by first | decide | simp) (x_pick_f rfl (fr.ev rfl) (fr.ev rfl)) ?_
    clear fr a; intro a fr
    refine wpList_nil ?_
    refine fx_next ?_
    refine fx_cond_f fr rfl ?_
    refine wp_skip ?_
    refine fx_next ?_
    refine wp_seq ?_
    refine wp_region_lit ?_  -- region 10
    refine fx_val (v := .bool true) fr rfl rfl (by first | decide | simp) (x_move rfl (fr.ev rfl)) ?_
    clear fr a; intro a fr
    refine fx_val (v := .bool true) fr rfl rfl (by first | decide | simp) (x_move rfl (fr.ev rfl)) ?_
    clear fr a; intro a fr
    refine fx_val (v := .pointer (some ⟨b4, 0, none⟩)) fr (fr.want rfl rfl rfl) rfl (by first | decide | simp) (x_move rfl (fr.ev rfl)) ?_
    clear fr a; intro a fr
    refine fx_val (v := .slice V6 ((vals l5).length) vc7) fr (fr.want rfl rfl rfl) rfl (by first | decide | simp) (x_move rfl (fr.ev rfl)) ?_
    clear fr a; intro a fr
    refine fx_call fr (fr.want rfl rfl rfl) rfl (by first | decide | simp) (x_call (vs := [.pointer (some ⟨b4, 0, none⟩), .slice V6 ((vals l5).length) vc7]) rfl rfl ⟨(fr.ev rfl), (fr.ev rfl), trivial⟩ Try.func17 nm17 rfl) (is_c H8 (hW9)) ?_
    clear fr a
    rintro v w53 ⟨rfl, hN54⟩ a fr
    replace hV := hV.new hN54
    replace H8 := H8.new hN54
    replace hW9 := hW9.new hN54
    replace B20 := B20.new hN54
    replace B29 := B29.new hN54
    replace hF := hF.trNew hN54
    refine fx_val (v := .bool true) fr rfl rfl (by first | decide | simp) (x_pick_t rfl (fr.ev rfl) (fr.ev rfl)) ?_
    clear fr a; intro a fr
    refine fx_val (v := .bool true) fr rfl rfl (by first | decide | simp) (x_move rfl (fr.ev rfl)) ?_
    clear fr a; intro a fr
    refine fx_call fr (fr.want rfl rfl rfl) rfl (by first | decide | simp) (x_call (vs := []) rfl rfl trivial Try.func15 nm15 rfl) (works_c _) ?_
    clear fr a
    rintro v w55 ⟨rfl, hN56⟩ a fr
    replace hV := hV.new hN56
    replace H8 := H8.new hN56
    replace hW9 := hW9.new hN56
    replace B20 := B20.new hN56
    replace B29 := B29.new hN56
    replace hF := hF.trNew hN56
    refine fx_val (v := .bool true) fr rfl rfl (by first | decide | simp) (x_pick_t rfl (fr.ev rfl) (fr.ev rfl)) ?_
    clear fr a; intro a fr
    refine fx_val (v := .bool true) fr rfl rfl (by first | decide | simp) (x_assign rfl (fr.ev rfl)) ?_
    clear fr a; intro a fr
    refine wpList_nil ?_
    refine fx_next ?_
    refine wp_ret ?_
    refine fx_ret fr [.tmp 2] [.bool true] rfl ⟨rfl, trivial⟩ rfl ?_
    exact ⟨_, rfl, rfl, hF⟩
set_option maxRecDepth 100000 in
set_option maxHeartbeats 4000000 in
theorem copies_c {w : World} {P : Option Addr} {cp : Nat} {la : List BAct} (hV : View actE w P cp la) (x : BAct) : Calls Try.prog 8 #[.slice P la.length cp, .agg (actE.arr x)] w (Ret fun v w' => v = .bool true ∧ New w w') := by
  have hVl := hV.len
  unfold maxLen at hVl
  have hF := Only.refl (fun _ => False) w
  refine fx_enter Try.func8 rfl (N := (101, [])) (T := [(0, .slice P la.length cp), (1, .agg (actE.arr x))]) rfl (show 2 ≤ 101 by decide) ⟨rfl, rfl, trivial⟩ fun a fr => ?_
  refine wp_seq ?_
  refine wp_region_lit ?_  -- region 0
  refine fx_new fr rfl rfl (by first | decide | simp) (x_box (cs := actE.arr x) rfl (fr.ev rfl) rfl) ?_
  clear fr a
  intro b1 w2 hN3 B4 hb5 a fr
  have ap_P_b1 : Apart P b1 := hV.apart hb5
  have g_b1 := Nat.le_trans hF.size hb5
  replace hV := hV.new hN3
  replace hF := hF.trNew hN3
  refine fx_val (v := .bool false) fr rfl rfl (by first | decide | simp) (x_assign rfl rfl) ?_
  clear fr a; intro a fr
  refine wpList_nil ?_
  refine fx_next ?_
  refine wp_seq ?_
  refine wp_seq ?_
  refine wp_region_lit ?_  -- region 1
  refine fx_val (v := .slice P la.length cp) fr rfl rfl (by first | decide | simp) (x_move rfl (fr.ev rfl)) ?_
  clear fr a; intro a fr
  refine fx_val (v := .int .i64 ((la.length : Nat) : Int)) fr rfl rfl (by first | decide | simp) (x_len Try.underlying40 rfl (fr.ev rfl)) ?_
  clear fr a; intro a fr
  refine fx_val (v := .bool (decide (100 < ((la.length : Nat) : Int)))) fr rfl rfl (by first | decide | simp) (x_gtr rfl (fr.ev rfl) rfl rfl) ?_
  clear fr a; intro a fr
  refine wpList_nil ?_
  refine fx_next ?_
  refine fx_cond fr rfl (fun hc6 => ?_) (fun hc6 => ?_)
  · skip
    have hc6 := of_decide_eq_true hc6
    refine wp_seq ?_
    refine wp_region_lit ?_  -- region 2
    refine fx_call fr rfl rfl (by first | decide | simp) (x_call (vs := []) rfl rfl trivial Try.func15 nm15 rfl) (works_c _) ?_
    clear fr a
    rintro v w7 ⟨rfl, hN8⟩ a fr
    replace hV := hV.new hN8
    replace B4 := B4.new hN8
    replace hF := hF.trNew hN8
    refine fx_val (v := .bool true) fr rfl rfl (by first | decide | simp) (x_assign rfl (fr.ev rfl)) ?_
    clear fr a; intro a fr
    refine wpList_nil ?_
    refine fx_next ?_
    refine wp_ret ?_
    refine fx_rt ?_
    refine fx_ret fr [.tmp 4] [.bool true] rfl ⟨rfl, trivial⟩ rfl ?_
    exact ⟨_, rfl, rfl, hF⟩
  · skip
    have hc6 := of_decide_eq_false hc6
    refine wp_skip ?_
    refine fx_next ?_
    refine wp_seq ?_
    refine wp_region_lit ?_  -- region 3
    refine fx_val (v := .slice P la.length cp) fr rfl rfl (by first | decide | simp) (x_move rfl (fr.ev rfl)) ?_
    clear fr a; intro a fr
    refine fx_call fr rfl rfl (by first | decide | simp) (x_call (vs := [.slice P la.length cp]) rfl rfl ⟨(fr.ev rfl), trivial⟩ Try.func16 nm16 rfl) (played_c (hV)) ?_
    clear fr a
    rintro v w18 ⟨b9, l10, V11, vc12, rfl, H13, hW14, hb15, hV16, q17, hN19⟩ a fr
    have ap_P_b9 : Apart P b9 := hV.apart hb15
    have ne_b1_b9 : NE b1 b9 := NE.mk (Nat.lt_of_lt_of_le B4.lt hb15)
    have g_b9 := Nat.le_trans hF.size hb15
    have ap2_P_V11 : Apart2 P V11 := (new_apart2 hV16 fun _ hg => hV.lt hg).symm
    have ap_V11_b1 : Apart V11 b1 := new_apart hV16 B4.lt
    have gA_V11 := gA_new hF hV16
    replace hV := hV.new hN19
    replace B4 := B4.new hN19
    replace hF := hF.trNew hN19
    have ap_V11_b9 := q17
    have hml := H13.len
    refine fx_val (v := .tuple #[.pointer (some ⟨b9, 0, none⟩), .slice V11 ((vals l10).length) vc12, .bool true]) fr rfl rfl (by first | decide | simp) (x_move rfl (fr.ev rfl)) ?_
    clear fr a; intro a fr
    refine fx_val (v := .pointer (some ⟨b9, 0, none⟩)) fr rfl rfl (by first | decide | simp) (x_extract rfl (fr.ev rfl) rfl) ?_
    clear fr a; intro a fr
    refine fx_val (v := .slice V11 ((vals l10).length) vc12) fr rfl rfl (by first | decide | simp) (x_extract rfl (fr.ev rfl) rfl) ?_
    clear fr a; intro a fr
    refine fx_val (v := .bool true) fr rfl rfl (by first | decide | simp) (x_extract rfl (fr.ev rfl) rfl) ?_
    clear fr a; intro a fr
    refine fx_val (v := .pointer (some ⟨b9, 0, none⟩)) fr rfl rfl (by first | decide | simp) (x_assign rfl (fr.ev rfl)) ?_
    clear fr a; intro a fr
    refine fx_val (v := .slice V11 ((vals l10).length) vc12) fr rfl rfl (by first | decide | simp) (x_assign rfl (fr.ev rfl)) ?_
    clear fr a; intro a fr
    refine fx_val (v := .bool true) fr rfl rfl (by first | decide | simp) (x_assign rfl (fr.ev rfl)) ?_
    clear fr a; intro a fr
    refine wpList_nil ?_
    refine fx_next ?_
    refine wp_seq ?_
    refine wp_region_lit ?_  -- region 4
    refine fx_val (v := .pointer (some ⟨b9, 0, none⟩)) fr rfl rfl (by first | decide | simp) (x_move rfl (fr.ev rfl)) ?_
    clear fr a; intro a fr
    refine fx_call fr rfl rfl (by first | decide | simp) (x_call (vs := [.pointer (some ⟨b9, 0, none⟩)]) rfl rfl ⟨(fr.ev rfl), trivial⟩ Try.func22 nm22 rfl) (copy_c H13) ?_
    clear fr a
    rintro v w23 ⟨b20, rfl, H21, hb22, hN24⟩ a fr
    have ap_P_b20 : Apart P b20 := hV.apart hb22
    have ne_b1_b20 : NE b1 b20 := NE.mk (Nat.lt_of_lt_of_le B4.lt hb22)
    have ne_b9_b20 : NE b9 b20 := NE.mk (Nat.lt_of_lt_of_le H13.lt hb22)
    have ap_V11_b20 : Apart V11 b20 := hW14.apart hb22
    have g_b20 := Nat.le_trans hF.size hb22
    replace hV := hV.new hN24
    replace B4 := B4.new hN24
    replace H13 := H13.new hN24
    replace hW14 := hW14.new hN24
    replace hF := hF.trNew hN24
    refine fx_val (v := .pointer (some ⟨b20, 0, none⟩)) fr rfl rfl (by first | decide | simp) (x_assign rfl (fr.ev rfl)) ?_
    clear fr a; intro a fr
    refine wpList_nil ?_
    refine fx_next ?_
    refine wp_seq ?_
    refine wp_seq ?_
    refine wp_region_lit ?_  -- region 5
    refine fx_val (v := .bool true) fr rfl rfl (by first | decide | simp) (x_move rfl (fr.ev rfl)) ?_
    clear fr a; intro a fr
    refine fx_val (v := .bool false) fr rfl rfl (by first | decide | simp) (x_not rfl (fr.ev rfl) rfl) ?_
    clear fr a; intro a fr
    refine fx_val (v := .bool false) fr rfl rfl (by first | decide | simp) (x_move rfl (fr.ev rfl)) ?_
    clear fr a; intro a fr
    refine fx_val (v := .pointer (some ⟨b9, 0, none⟩)) fr (fr.want rfl rfl rfl) rfl (by first | decide | simp) (x_move rfl (fr.ev rfl)) ?_
    clear fr a; intro a fr
    refine fx_val (v := .pointer (some ⟨b20, 0, none⟩)) fr (fr.want rfl rfl rfl) rfl (by first | decide | simp) (x_move rfl (fr.ev rfl)) ?_
    clear fr a; intro a fr
    refine fx_call fr (fr.want rfl rfl rfl) rfl (by first | decide | simp) (x_call (vs := [.pointer (some ⟨b9, 0, none⟩), .pointer (some ⟨b20, 0, none⟩)]) rfl rfl ⟨(fr.ev rfl), (fr.ev rfl), trivial⟩ Try.func23 nm23 rfl) (same_xx H13 H21) ?_
    clear fr a
    rintro v w25 ⟨rfl, hN26⟩ a fr
    replace hV := hV.new hN26
    replace B4 := B4.new hN26
    replace H13 := H13.new hN26
    replace hW14 := hW14.new hN26
    replace H21 := H21.new hN26
    replace hF := hF.trNew hN26
    rw [show decide (vals l10 = vals l10) = true from decide_eq_true rfl] at fr
    refine fx_val (v := .bool false) fr (fr.want rfl rfl rfl) rfl (by first | decide | simp) (x_not rfl (fr.ev rfl) rfl) ?_
    clear fr a; intro a fr
    refine fx_val (v := .bool false) fr rfl rfl (by first | decide | simp) (x_pick_f rfl (fr.ev rfl) (fr.ev rfl)) ?_
    clear fr a; intro a fr
    refine wpList_nil ?_
    refine fx_next ?_
    refine fx_cond_f fr rfl ?_
    refine wp_skip ?_
    refine fx_next ?_
    refine wp_seq ?_
    refine wp_region_lit ?_  -- region 7
    refine fx_val (v := .slice V11 ((vals l10).length) vc12) fr rfl rfl (by first | decide | simp) (x_move rfl (fr.ev rfl)) ?_
    clear fr a; intro a fr
    refine fx_val (v := .slice V11 ((vals l10).length) vc12) fr rfl rfl (by first | decide | simp) (x_assign rfl (fr.ev rfl)) ?_
    clear fr a; intro a fr
    refine wpList_nil ?_
    refine fx_next ?_
    refine wp_seq ?_
    refine wp_seq ?_
    refine wp_region_lit ?_  -- region 8
    refine fx_val (v := .pointer (some ⟨b1, 0, none⟩)) fr rfl rfl (by first | decide | simp) (x_fieldAddr fo48_0 rfl (fr.ev rfl) rfl) ?_
    clear fr a; intro a fr
    refine fx_val (v := .int .i64 x.what) fr rfl rfl (by first | decide | simp) (x_load1 pl3 rfl (fr.ev rfl) (B4.cell 0 rfl)) ?_
    clear fr a; intro a fr
    refine fx_val (v := .bool (decide (x.what ≠ 0))) fr rfl rfl (by first | decide | simp) (x_neq rfl (fr.ev rfl) rfl rfl) ?_
    clear fr a; intro a fr
    refine wpList_nil ?_
    refine fx_next ?_
    refine fx_cond fr rfl (fun hc27 => ?_) (fun hc27 => ?_)
    · skip
      have hc27 := of_decide_eq_true hc27
      refine wp_seq ?_
      refine wp_region_lit ?_  -- region 9
      refine fx_val (v := .slice V11 ((vals l10).length) vc12) fr rfl rfl (by first | decide | simp) (x_move rfl (fr.ev rfl)) ?_
      clear fr a; intro a fr
      refine fx_val (v := .slice V11 ((vals l10).length) vc12) fr rfl rfl (by first | decide | simp) (x_move rfl (fr.ev rfl)) ?_
      clear fr a; intro a fr
      refine fx_val (v := .int .i64 (((vals l10).length : Nat) : Int)) fr rfl rfl (by first | decide | simp) (x_len Try.underlying32 rfl (fr.ev rfl)) ?_
      clear fr a; intro a fr
      refine fx_val (v := .int .i64 ((min 1 ((vals l10).length) : Nat) : Int)) fr rfl rfl (by first | decide | simp) (x_min rfl rfl (fr.ev rfl) (r := ((min 1 ((vals l10).length) : Nat) : Int)) (by omega)) ?_
      clear fr a; intro a fr
      refine fx_val (v := .slice (cutA V11 vc12 (min 1 ((vals l10).length)) 3) (((vals l10).length) - (min 1 ((vals l10).length))) (vc12 - (min 1 ((vals l10).length)))) fr rfl rfl (by first | decide | simp) (x_slice_from Try.underlying32 sz24 rfl (fr.ev rfl) (fr.ev rfl) (by omega)) ?_
      clear fr a; intro a fr
      refine fx_val (v := .slice (cutA V11 vc12 (min 1 ((vals l10).length)) 3) (((vals l10).length) - (min 1 ((vals l10).length))) (vc12 - (min 1 ((vals l10).length)))) fr rfl rfl (by first | decide | simp) (x_assign rfl (fr.ev rfl)) ?_
      clear fr a; intro a fr
      refine wpList_nil ?_
      refine fx_next ?_
      obtain ⟨V28, vc29, he30, hW31, mv32⟩ := tail_slice hW14
      rw [he30] at fr
      have ap_V28_b1 : Apart V28 b1 := moved_apart mv32 ap_V11_b1 B4.lt
      have ap_V28_b9 : Apart V28 b9 := moved_apart mv32 ap_V11_b9 H13.lt
      have ap_V28_b20 : Apart V28 b20 := moved_apart mv32 ap_V11_b20 H21.lt
      have gA_V28 := gA_moved hF mv32 gA_V11
      refine wp_region_lit ?_  -- region 10
      refine fx_val (v := .pointer (some ⟨b9, 0, none⟩)) fr rfl rfl (by first | decide | simp) (x_move rfl (fr.ev rfl)) ?_
      clear fr a; intro a fr
      refine fx_call fr rfl rfl (by first | decide | simp) (x_call (vs := [.pointer (some ⟨b9, 0, none⟩)]) rfl rfl ⟨(fr.ev rfl), trivial⟩ Try.func18 nm18 rfl) (pop_c H13) ?_
      clear fr a
      rintro v w34 ⟨rfl, H33, hN35⟩ a fr
      replace hV := hV.only hN35 (Apart.ne1 ap_P_b9)
      replace B4 := B4.only hN35 (by first | exact ne_b1_b9 | exact ne_b9_b1.symm | (show ¬ b1 = b9; omega))
      replace hW14 := hW14.only hN35 (Apart.ne1 ap_V11_b9)
      replace H21 := H21.only hN35 (by first | exact ne_b20_b9 | exact ne_b9_b20.symm | (show ¬ b20 = b9; omega))
      replace hW31 := hW31.only hN35 (Apart.ne1 ap_V28_b9)
      replace hF := hF.loc hN35 (.inr g_b9)
      clear H13
      refine wpList_nil ?_
      refine fx_next ?_
      refine wp_seq ?_
      refine wp_region_lit ?_  -- region 13
      refine fx_val (v := .pointer (some ⟨b20, 0, none⟩)) fr rfl rfl (by first | decide | simp) (x_move rfl (fr.ev rfl)) ?_
      clear fr a; intro a fr
      refine fx_call fr rfl rfl (by first | decide | simp) (x_call (vs := [.pointer (some ⟨b20, 0, none⟩)]) rfl rfl ⟨(fr.ev rfl), trivial⟩ Try.func19 nm19 rfl) (all_c H21) ?_
      clear fr a
      rintro v w40 ⟨A36, cap37, rfl, O38, hA39, hN41⟩ a fr
      have ap2_P_A36 : Apart2 P A36 := (new_apart2 hA39 fun _ hg => hV.lt hg).symm
      have ap_A36_b1 : Apart A36 b1 := new_apart hA39 B4.lt
      have ap2_V11_A36 : Apart2 V11 A36 := (new_apart2 hA39 fun _ hg => hW14.lt hg).symm
      have ap_A36_b20 : Apart A36 b20 := new_apart hA39 H21.lt
      have ap2_V28_A36 : Apart2 V28 A36 := (new_apart2 hA39 fun _ hg => hW31.lt hg).symm
      have ap_A36_b9 : Apart A36 b9 := new_apart hA39 H33.lt
      have gA_A36 := gA_new hF hA39
      replace hV := hV.new hN41
      replace B4 := B4.new hN41
      replace hW14 := hW14.new hN41
      replace H21 := H21.new hN41
      replace hW31 := hW31.new hN41
      replace H33 := H33.new hN41
      replace hF := hF.trNew hN41
      refine fx_val (v := .slice A36 ((vals l10).length) cap37) fr rfl rfl (by first | decide | simp) (x_assign rfl (fr.ev rfl)) ?_
      clear fr a; intro a fr
      refine wpList_nil ?_
      refine fx_next ?_
      refine wp_seq ?_
      refine wp_seq ?_
      refine wp_region_lit ?_  -- region 14
      refine fx_val (v := .int .i64 0) fr rfl rfl (by first | decide | simp) (x_assign rfl rfl) ?_
      clear fr a; intro a fr
      refine wpList_nil ?_
      refine fx_next ?_
      refine wp_block ?_
      refine fx_loop (fun nM a wL => ∃ i : Nat, ∃ ll : List St, nM = (vals l10).length - i ∧ Fr (101, []) [(0, .slice P la.length cp), (1, .agg (actE.arr x)), (3, .pointer (some ⟨b1, 0, none⟩)), (4, .bool false), (13, .slice P la.length cp), (14, .int .i64 ((la.length : Nat) : Int)), (15, .bool (decide (100 < ((la.length : Nat) : Int)))), (18, .slice P la.length cp), (19, .tuple #[.pointer (some ⟨b9, 0, none⟩), .slice V11 ((vals l10).length) vc12, .bool true]), (17, .tuple #[.pointer (some ⟨b9, 0, none⟩), .slice V11 ((vals l10).length) vc12, .bool true]), (20, .pointer (some ⟨b9, 0, none⟩)), (21, .slice V11 ((vals l10).length) vc12), (22, .bool true), (5, .pointer (some ⟨b9, 0, none⟩)), (6, .slice V11 ((vals l10).length) vc12), (7, .bool true), (23, .pointer (some ⟨b9, 0, none⟩)), (24, .pointer (some ⟨b20, 0, none⟩)), (8, .pointer (some ⟨b20, 0, none⟩)), (25, .bool true), (26, .bool false), (27, .bool false), (28, .pointer (some ⟨b9, 0, none⟩)), (29, .pointer (some ⟨b20, 0, none⟩)), (30, .bool true), (31, .bool false), (32, .bool false), (33, .slice V11 ((vals l10).length) vc12), (9, .slice V28 ((vals l10.tail).length) vc29), (34, .pointer (some ⟨b1, 0, none⟩)), (35, .int .i64 x.what), (36, .bool (decide (x.what ≠ 0))), (37, .slice V11 ((vals l10).length) vc12), (38, .slice V11 ((vals l10).length) vc12), (39, .int .i64 (((vals l10).length : Nat) : Int)), (40, .int .i64 ((min 1 ((vals l10).length) : Nat) : Int)), (41, .slice V28 ((vals l10.tail).length) vc29), (42, .pointer (some ⟨b9, 0, none⟩)), (43, .tuple #[.agg (stE.arr (hdS l10)), .bool (decide (l10 ≠ []))]), (55, .pointer (some ⟨b20, 0, none⟩)), (56, .slice A36 ((vals l10).length) cap37), (10, .slice A36 ((vals l10).length) cap37), (11, .int .i64 ((i : Nat) : Int))] a ∧ Only (fun _ => False) w wL ∧ View actE wL P cp la ∧ Blk wL b1 48 (actE.arr x) ∧ View stE wL V11 vc12 (vals l10) ∧ BufAt wL b20 l10 ∧ View stE wL V28 vc29 (vals l10.tail) ∧ BufAt wL b9 l10.tail ∧ Own stE wL A36 cap37 ll ∧ i ≤ (vals l10).length ∧ ll.length = (vals l10).length) (n0 := _) ⟨0, vals l10, rfl, fr.sub ⟨rfl, rfl, rfl, rfl, rfl, rfl, rfl, rfl, rfl, rfl, rfl, rfl, rfl, rfl, rfl, rfl, rfl, rfl, rfl, rfl, rfl, rfl, rfl, rfl, rfl, rfl, rfl, rfl, rfl, rfl, rfl, rfl, rfl, rfl, rfl, rfl, rfl, rfl, rfl, rfl, rfl, rfl, rfl, trivial⟩, hF, hV, B4, hW14, H21, hW31, H33, O38, by omega, rfl⟩ ?_
      rintro n43 a w42 ⟨i, ll, rfl, fr, hF, hV, B4, hW14, H21, hW31, H33, OL, hi, hll⟩
      have hvl9 := vals_len l10
      refine wp_seq ?_
      refine wp_seq ?_
      refine wp_region_lit ?_  -- region 15
      refine fx_val (v := .int .i64 ((i : Nat) : Int)) fr rfl rfl (by first | decide | simp) (x_move rfl (fr.ev rfl)) ?_
      clear fr a; intro a fr
      refine fx_val (v := .slice A36 ((vals l10).length) cap37) fr rfl rfl (by first | decide | simp) (x_move rfl (fr.ev rfl)) ?_
      clear fr a; intro a fr
      refine fx_val (v := .int .i64 (((vals l10).length : Nat) : Int)) fr rfl rfl (by first | decide | simp) (x_len Try.underlying32 rfl (fr.ev rfl)) ?_
      clear fr a; intro a fr
      refine fx_val (v := .bool (decide (((i : Nat) : Int) < (((vals l10).length : Nat) : Int)))) fr rfl rfl (by first | decide | simp) (x_lss rfl (fr.ev rfl) (fr.ev rfl) rfl) ?_
      clear fr a; intro a fr
      refine wpList_nil ?_
      refine fx_next ?_
      refine fx_cond fr rfl (fun hc44 => ?_) (fun hc44 => ?_)
      · skip
        have hc44 := of_decide_eq_true hc44
        refine wp_skip ?_
        refine fx_next ?_
        refine wp_seq ?_
        refine wp_block ?_
        refine wp_region_lit ?_  -- region 17
        refine fx_val (v := .slice A36 ((vals l10).length) cap37) fr rfl rfl (by first | decide | simp) (x_move rfl (fr.ev rfl)) ?_
        clear fr a; intro a fr
        refine fx_val (v := .int .i64 ((i : Nat) : Int)) fr rfl rfl (by first | decide | simp) (x_move rfl (fr.ev rfl)) ?_
        clear fr a; intro a fr
        refine fx_val (v := .slice A36 ((vals l10).length) cap37) fr rfl rfl (by first | decide | simp) (x_move rfl (fr.ev rfl)) ?_
        clear fr a; intro a fr
        refine fx_val (v := .int .i64 ((i : Nat) : Int)) fr rfl rfl (by first | decide | simp) (x_move rfl (fr.ev rfl)) ?_
        clear fr a; intro a fr
        obtain ⟨g45, o46, hA47⟩ := (OL.view).some_ (by omega)
        refine fx_val (v := .pointer (some ⟨g45, o46 + i * 3, none⟩)) fr rfl rfl (by first | decide | simp) (x_indexV Try.underlying32 sz24 rfl (fr.ev rfl) hA47 (fr.ev rfl) (by omega) rfl) ?_
        clear fr a; intro a fr
        refine fx_val (v := .pointer (some ⟨g45, o46 + i * 3 + 2, none⟩)) fr rfl rfl (by first | decide | simp) (x_fieldAddr fo24_2 rfl (fr.ev rfl) rfl) ?_
        clear fr a; intro a fr
        refine fx_val (v := .int .u32 ((ll.getD i st0).value)) fr rfl rfl (by first | decide | simp) (x_load1 pl22 rfl (fr.ev rfl) (range_cell ((OL.view).elem hA47 i st0 (by omega)) 2 rfl rfl)) ?_
        clear fr a; intro a fr
        refine fx_val (v := .int .u32 (IntKind.u32.wrap ((ll.getD i st0).value + 1))) fr rfl rfl (by first | decide | simp) (x_add rfl (fr.ev rfl) rfl rfl) ?_
        clear fr a; intro a fr
        refine fx_val (v := .pointer (some ⟨g45, o46 + i * 3, none⟩)) fr rfl rfl (by first | decide | simp) (x_indexV Try.underlying32 sz24 rfl (fr.ev rfl) hA47 (fr.ev rfl) (by omega) rfl) ?_
        clear fr a; intro a fr
        refine fx_val (v := .pointer (some ⟨g45, o46 + i * 3 + 2, none⟩)) fr rfl rfl (by first | decide | simp) (x_fieldAddr fo24_2 rfl (fr.ev rfl) rfl) ?_
        clear fr a; intro a fr
        refine fx_storeEl (E := stE) (d := st0) (q := 2) (x' := (⟨(ll.getD i st0).addr, (ll.getD i st0).width, IntKind.u32.wrap ((ll.getD i st0).value + 1), (ll.getD i st0).ha, u32r _⟩ : St)) sz22 rfl rfl rfl hA47 OL (by omega) (by decide) (fr.ev rfl) rfl (fr.ev rfl) rfl rfl fun w48 hO49 hBq => ?_
        replace hV := hV.only hO49 (fun g h1 h2 => ap2_P_A36 g h1 h2)
        replace B4 := B4.only hO49 ap_A36_b1
        replace hW14 := hW14.only hO49 (fun g h1 h2 => ap2_V11_A36 g h1 h2)
        replace H21 := H21.only hO49 ap_A36_b20
        replace hW31 := hW31.only hO49 (fun g h1 h2 => ap2_V28_A36 g h1 h2)
        replace H33 := H33.only hO49 ap_A36_b9
        replace hF := hF.locA hO49 gA_A36
        replace OL := hBq
        clear hBq
        refine wpList_nil ?_
        refine fx_blk ?_
        refine fx_next ?_
        refine wp_region_lit ?_  -- region 16
        refine fx_val (v := .int .i64 ((i : Nat) : Int)) fr rfl rfl (by first | decide | simp) (x_move rfl (fr.ev rfl)) ?_
        clear fr a; intro a fr
        refine fx_val (v := .int .i64 ((i + 1 : Nat) : Int)) fr rfl rfl (by first | decide | simp) (x_add rfl (fr.ev rfl) rfl (i64w (r := ((i + 1 : Nat) : Int)) (by omega) (by omega))) ?_
        clear fr a; intro a fr
        refine fx_val (v := .int .i64 ((i + 1 : Nat) : Int)) fr rfl rfl (by first | decide | simp) (x_assign rfl (fr.ev rfl)) ?_
        clear fr a; intro a fr
        refine wpList_nil ?_
        refine fx_next ?_
        exact ⟨_, by omega, (i + 1), (ll.set i (⟨(ll.getD i st0).addr, (ll.getD i st0).width, IntKind.u32.wrap ((ll.getD i st0).value + 1), (ll.getD i st0).ha, u32r _⟩ : St)), rfl, fr.sub ⟨rfl, rfl, rfl, rfl, rfl, rfl, rfl, rfl, rfl, rfl, rfl, rfl, rfl, rfl, rfl, rfl, rfl, rfl, rfl, rfl, rfl, rfl, rfl, rfl, rfl, rfl, rfl, rfl, rfl, rfl, rfl, rfl, rfl, rfl, rfl, rfl, rfl, rfl, rfl, rfl, rfl, rfl, rfl, trivial⟩, hF, hV, B4, hW14, H21, hW31, H33, OL, by omega, (by rw [List.length_set]; exact hll)⟩
      · skip
        have hc44 := of_decide_eq_false hc44
        refine wp_exit ?_
        refine fx_xt ?_
        refine fx_xt ?_
        refine fx_xx ?_
        refine fx_next ?_
        refine wp_seq ?_
        refine wp_region_lit ?_  -- region 18
        refine fx_val (v := .slice V28 ((vals l10.tail).length) vc29) fr rfl rfl (by first | decide | simp) (x_move rfl (fr.ev rfl)) ?_
        clear fr a; intro a fr
        refine fx_val (v := .slice V11 ((vals l10).length) vc12) fr rfl rfl (by first | decide | simp) (x_move rfl (fr.ev rfl)) ?_
        clear fr a; intro a fr
        refine fx_call fr rfl rfl (by first | decide | simp) (x_call (vs := [.slice V28 ((vals l10.tail).length) vc29, .slice V11 ((vals l10).length) vc12]) rfl rfl ⟨(fr.ev rfl), (fr.ev rfl), trivial⟩ Try.func24 nm24 rfl) (rsame_c (hW31) (hW14)) ?_
        clear fr a
        rintro v w50 ⟨rfl, hN51⟩ a fr
        replace hV := hV.new hN51
        replace B4 := B4.new hN51
        replace hW14 := hW14.new hN51
        replace H21 := H21.new hN51
        replace hW31 := hW31.new hN51
        replace H33 := H33.new hN51
        replace OL := OL.new hN51
        replace hF := hF.trNew hN51
        refine fx_val (v := .bool (decide (vals l10.tail = vals l10))) fr rfl rfl (by first | decide | simp) (x_assign rfl (fr.ev rfl)) ?_
        clear fr a; intro a fr
        refine wpList_nil ?_
        refine fx_next ?_
        refine wp_seq ?_
        refine wp_region_lit ?_  -- region 19
        refine fx_val (v := .pointer (some ⟨b20, 0, none⟩)) fr rfl rfl (by first | decide | simp) (x_move rfl (fr.ev rfl)) ?_
        clear fr a; intro a fr
        refine fx_val (v := .slice V11 ((vals l10).length) vc12) fr rfl rfl (by first | decide | simp) (x_move rfl (fr.ev rfl)) ?_
        clear fr a; intro a fr
        refine fx_call fr rfl rfl (by first | decide | simp) (x_call (vs := [.pointer (some ⟨b20, 0, none⟩), .slice V11 ((vals l10).length) vc12]) rfl rfl ⟨(fr.ev rfl), (fr.ev rfl), trivial⟩ Try.func17 nm17 rfl) (is_c H21 (hW14)) ?_
        clear fr a
        rintro v w52 ⟨rfl, hN53⟩ a fr
        replace hV := hV.new hN53
        replace B4 := B4.new hN53
        replace hW14 := hW14.new hN53
        replace H21 := H21.new hN53
        replace hW31 := hW31.new hN53
        replace H33 := H33.new hN53
        replace OL := OL.new hN53
        replace hF := hF.trNew hN53
        refine fx_val (v := .bool true) fr rfl rfl (by first | decide | simp) (x_move rfl (fr.ev rfl)) ?_
        clear fr a; intro a fr
        refine fx_val (v := .pointer (some ⟨b9, 0, none⟩)) fr (fr.want rfl rfl rfl) rfl (by first | decide | simp) (x_move rfl (fr.ev rfl)) ?_
        clear fr a; intro a fr
        refine fx_val (v := .slice V28 ((vals l10.tail).length) vc29) fr (fr.want rfl rfl rfl) rfl (by first | decide | simp) (x_move rfl (fr.ev rfl)) ?_
        clear fr a; intro a fr
        refine fx_call fr (fr.want rfl rfl rfl) rfl (by first | decide | simp) (x_call (vs := [.pointer (some ⟨b9, 0, none⟩), .slice V28 ((vals l10.tail).length) vc29]) rfl rfl ⟨(fr.ev rfl), (fr.ev rfl), trivial⟩ Try.func17 nm17 rfl) (is_c H33 (hW31)) ?_
        clear fr a
        rintro v w54 ⟨rfl, hN55⟩ a fr
        replace hV := hV.new hN55
        replace B4 := B4.new hN55
        replace hW14 := hW14.new hN55
        replace H21 := H21.new hN55
        replace hW31 := hW31.new hN55
        replace H33 := H33.new hN55
        replace OL := OL.new hN55
        replace hF := hF.trNew hN55
        refine fx_val (v := .bool true) fr rfl rfl (by first | decide | simp) (x_pick_t rfl (fr.ev rfl) (fr.ev rfl)) ?_
        clear fr a; intro a fr
        refine fx_val (v := .bool true) fr rfl rfl (by first | decide | simp) (x_move rfl (fr.ev rfl)) ?_
        clear fr a; intro a fr
        refine fx_val (v := .pointer (some ⟨b9, 0, none⟩)) fr (fr.want rfl rfl rfl) rfl (by first | decide | simp) (x_move rfl (fr.ev rfl)) ?_
        clear fr a; intro a fr
        refine fx_val (v := .pointer (some ⟨b20, 0, none⟩)) fr (fr.want rfl rfl rfl) rfl (by first | decide | simp) (x_move rfl (fr.ev rfl)) ?_
        clear fr a; intro a fr
        refine fx_call fr (fr.want rfl rfl rfl) rfl (by first | decide | simp) (x_call (vs := [.pointer (some ⟨b9, 0, none⟩), .pointer (some ⟨b20, 0, none⟩)]) rfl rfl ⟨(fr.ev rfl), (fr.ev rfl), trivial⟩ Try.func23 nm23 rfl) (same_xx H33 H21) ?_
        clear fr a
        rintro v w56 ⟨rfl, hN57⟩ a fr
        replace hV := hV.new hN57
        replace B4 := B4.new hN57
        replace hW14 := hW14.new hN57
        replace H21 := H21.new hN57
        replace hW31 := hW31.new hN57
        replace H33 := H33.new hN57
        replace OL := OL.new hN57
        replace hF := hF.trNew hN57
        refine fx_val (v := .bool (decide (vals l10.tail = vals l10))) fr (fr.want rfl rfl rfl) rfl (by first | decide | simp) (x_move rfl (fr.ev rfl)) ?_
        clear fr a; intro a fr
        refine fx_val (v := .bool true) fr (fr.want rfl rfl rfl) rfl (by first | decide | simp) (x_beql Try.underlying4 rfl (fr.ev rfl) (fr.ev rfl) (by simp)) ?_
        clear fr a; intro a fr
        refine fx_val (v := .bool true) fr rfl rfl (by first | decide | simp) (x_pick_t rfl (fr.ev rfl) (fr.ev rfl)) ?_
        clear fr a; intro a fr
        refine fx_val (v := .bool true) fr rfl rfl (by first | decide | simp) (x_move rfl (fr.ev rfl)) ?_
        clear fr a; intro a fr
        refine fx_val (v := .pointer (some ⟨b20, 0, none⟩)) fr (fr.want rfl rfl rfl) rfl (by first | decide | simp) (x_move rfl (fr.ev rfl)) ?_
        clear fr a; intro a fr
        refine fx_val (v := .pointer (some ⟨b9, 0, none⟩)) fr (fr.want rfl rfl rfl) rfl (by first | decide | simp) (x_move rfl (fr.ev rfl)) ?_
        clear fr a; intro a fr
        refine fx_call fr (fr.want rfl rfl rfl) rfl (by first | decide | simp) (x_call (vs := [.pointer (some ⟨b20, 0, none⟩), .pointer (some ⟨b9, 0, none⟩)]) rfl rfl ⟨(fr.ev rfl), (fr.ev rfl), trivial⟩ Try.func23 nm23 rfl) (same_xx H21 H33) ?_
        clear fr a
        rintro v w58 ⟨rfl, hN59⟩ a fr
        replace hV := hV.new hN59
        replace B4 := B4.new hN59
        replace hW14 := hW14.new hN59
        replace H21 := H21.new hN59
        replace hW31 := hW31.new hN59
        replace H33 := H33.new hN59
        replace OL := OL.new hN59
        replace hF := hF.trNew hN59
        rw [show decide (vals l10 = vals l10.tail) = decide (vals l10.tail = vals l10) from by simp [eq_comm]] at fr
        refine fx_val (v := .bool (decide (vals l10.tail = vals l10))) fr (fr.want rfl rfl rfl) rfl (by first | decide | simp) (x_move rfl (fr.ev rfl)) ?_
        clear fr a; intro a fr
        refine fx_val (v := .bool true) fr (fr.want rfl rfl rfl) rfl (by first | decide | simp) (x_beql Try.underlying4 rfl (fr.ev rfl) (fr.ev rfl) (by simp)) ?_
        clear fr a; intro a fr
        refine fx_val (v := .bool true) fr rfl rfl (by first | decide | simp) (x_pick_t rfl (fr.ev rfl) (fr.ev rfl)) ?_
        clear fr a; intro a fr
        refine fx_val (v := .bool true) fr rfl rfl (by first | decide | simp) (x_move rfl (fr.ev rfl)) ?_
        clear fr a; intro a fr
        refine fx_call fr (fr.want rfl rfl rfl) rfl (by first | decide | simp) (x_call (vs := []) rfl rfl trivial Try.func15 nm15 rfl) (works_c _) ?_
        clear fr a
        rintro v w60 ⟨rfl, hN61⟩ a fr
        replace hV := hV.new hN61
        replace B4 := B4.new hN61
        replace hW14 := hW14.new hN61
        replace H21 := H21.new hN61
        replace hW31 := hW31.new hN61
        replace H33 := H33.new hN61
        replace OL := OL.new hN61
        replace hF := hF.trNew hN61
        refine fx_val (v := .bool true) fr rfl rfl (by first | decide | simp) (x_pick_t rfl (fr.ev rfl) (fr.ev rfl)) ?_
        clear fr a; intro a fr
        refine fx_val (v := .bool true) fr rfl rfl (by first | decide | simp) (x_assign rfl (fr.ev rfl)) ?_
        clear fr a; intro a fr
        refine wpList_nil ?_
        refine fx_next ?_
        refine wp_ret ?_
        refine fx_ret fr [.tmp 4] [.bool true] rfl ⟨rfl, trivial⟩ rfl ?_
        exact ⟨_, rfl, rfl, hF⟩
    · skip
      have hc27 := of_decide_eq_false hc27
      refine wp_seq ?_
      refine wp_region_lit ?_  -- region 11
      refine fx_val (v := .slice V11 ((vals l10).length) vc12) fr rfl rfl (by first | decide | simp) (x_move rfl (fr.ev rfl)) ?_
      clear fr a; intro a fr
      refine fx_val (v := .pointer (some ⟨b1, 1, none⟩)) fr rfl rfl (by first | decide | simp) (x_fieldAddr fo48_1 rfl (fr.ev rfl) rfl) ?_
      clear fr a; intro a fr
      refine fx_val (v := .agg (stE.arr x.st)) fr rfl rfl (by first | decide | simp) (x_loadE (E := stE) ag24 rfl rfl (fr.ev rfl) (B4.part (n := 3) rfl)) ?_
      clear fr a; intro a fr
      refine fx_call fr rfl rfl (by first | decide | simp) (x_call (vs := [.slice V11 ((vals l10).length) vc12, .agg (stE.arr x.st)]) rfl rfl ⟨(fr.ev rfl), (fr.ev rfl), trivial⟩ Try.func12 nm12 rfl) (rpush_c x.st (l := l10) (hW14) (by first | omega | (simp; done) | (simp; omega))) ?_
      clear fr a
      rintro v w66 ⟨A62, cap63, rfl, V64, mv65, hN67⟩ a fr
      have ap_A62_b1 : Apart A62 b1 := moved_apart mv65 ap_V11_b1 B4.lt
      have ap_A62_b9 : Apart A62 b9 := moved_apart mv65 ap_V11_b9 H13.lt
      have ap_A62_b20 : Apart A62 b20 := moved_apart mv65 ap_V11_b20 H21.lt
      have gA_A62 := gA_moved hF mv65 gA_V11
      replace hV := hV.new hN67
      replace B4 := B4.new hN67
      replace H13 := H13.new hN67
      replace hW14 := hW14.new hN67
      replace H21 := H21.new hN67
      replace hF := hF.trNew hN67
      refine fx_val (v := .tuple #[.slice A62 ((vals (pushL l10 x.st)).length) cap63, .int .i64 (pushE l10 x.st)]) fr rfl rfl (by first | decide | simp) (x_move rfl (fr.ev rfl)) ?_
      clear fr a; intro a fr
      refine fx_val (v := .slice A62 ((vals (pushL l10 x.st)).length) cap63) fr rfl rfl (by first | decide | simp) (x_extract rfl (fr.ev rfl) rfl) ?_
      clear fr a; intro a fr
      refine fx_val (v := .int .i64 (pushE l10 x.st)) fr rfl rfl (by first | decide | simp) (x_extract rfl (fr.ev rfl) rfl) ?_
      clear fr a; intro a fr
      refine fx_val (v := .slice A62 ((vals (pushL l10 x.st)).length) cap63) fr rfl rfl (by first | decide | simp) (x_assign rfl (fr.ev rfl)) ?_
      clear fr a; intro a fr
      refine wpList_nil ?_
      refine fx_next ?_
      refine wp_region_lit ?_  -- region 12
      refine fx_val (v := .pointer (some ⟨b9, 0, none⟩)) fr rfl rfl (by first | decide | simp) (x_move rfl (fr.ev rfl)) ?_
      clear fr a; intro a fr
      refine fx_val (v := .pointer (some ⟨b1, 1, none⟩)) fr rfl rfl (by first | decide | simp) (x_fieldAddr fo48_1 rfl (fr.ev rfl) rfl) ?_
      clear fr a; intro a fr
      refine fx_val (v := .agg (stE.arr x.st)) fr rfl rfl (by first | decide | simp) (x_loadE (E := stE) ag24 rfl rfl (fr.ev rfl) (B4.part (n := 3) rfl)) ?_
      clear fr a; intro a fr
      refine fx_call fr rfl rfl (by first | decide | simp) (x_call (vs := [.pointer (some ⟨b9, 0, none⟩), .agg (stE.arr x.st)]) rfl rfl ⟨(fr.ev rfl), (fr.ev rfl), trivial⟩ Try.func10 nm10 rfl) (push_c x.st H13) ?_
      clear fr a
      rintro v w69 ⟨rfl, H68, hN70⟩ a fr
      replace hV := hV.only hN70 (Apart.ne1 ap_P_b9)
      replace B4 := B4.only hN70 (by first | exact ne_b1_b9 | exact ne_b9_b1.symm | (show ¬ b1 = b9; omega))
      replace hW14 := hW14.only hN70 (Apart.ne1 ap_V11_b9)
      replace H21 := H21.only hN70 (by first | exact ne_b20_b9 | exact ne_b9_b20.symm | (show ¬ b20 = b9; omega))
      replace V64 := V64.only hN70 (Apart.ne1 ap_A62_b9)
      replace hF := hF.loc hN70 (.inr g_b9)
      clear H13
      refine wpList_nil ?_
      refine fx_next ?_
      refine wp_seq ?_
      refine wp_region_lit ?_  -- region 13
      refine fx_val (v := .pointer (some ⟨b20, 0, none⟩)) fr rfl rfl (by first | decide | simp) (x_move rfl (fr.ev rfl)) ?_
      clear fr a; intro a fr
      refine fx_call fr rfl rfl (by first | decide | simp) (x_call (vs := [.pointer (some ⟨b20, 0, none⟩)]) rfl rfl ⟨(fr.ev rfl), trivial⟩ Try.func19 nm19 rfl) (all_c H21) ?_
      clear fr a
      rintro v w75 ⟨A71, cap72, rfl, O73, hA74, hN76⟩ a fr
      have ap2_P_A71 : Apart2 P A71 := (new_apart2 hA74 fun _ hg => hV.lt hg).symm
      have ap_A71_b1 : Apart A71 b1 := new_apart hA74 B4.lt
      have ap2_V11_A71 : Apart2 V11 A71 := (new_apart2 hA74 fun _ hg => hW14.lt hg).symm
      have ap_A71_b20 : Apart A71 b20 := new_apart hA74 H21.lt
      have ap2_A62_A71 : Apart2 A62 A71 := (new_apart2 hA74 fun _ hg => V64.lt hg).symm
      have ap_A71_b9 : Apart A71 b9 := new_apart hA74 H68.lt
      have gA_A71 := gA_new hF hA74
      replace hV := hV.new hN76
      replace B4 := B4.new hN76
      replace hW14 := hW14.new hN76
      replace H21 := H21.new hN76
      replace V64 := V64.new hN76
      replace H68 := H68.new hN76
      replace hF := hF.trNew hN76
      refine fx_val (v := .slice A71 ((vals l10).length) cap72) fr rfl rfl (by first | decide | simp) (x_assign rfl (fr.ev rfl)) ?_
      clear fr a; intro a fr
      refine wpList_nil ?_
      refine fx_next ?_
      refine wp_seq ?_
      refine wp_seq ?_
      refine wp_region_lit ?_  -- region 14
      refine fx_val (v := .int .i64 0) fr rfl rfl (by first | decide | simp) (x_assign rfl rfl) ?_
      clear fr a; intro a fr
      refine wpList_nil ?_
      refine fx_next ?_
      refine wp_block ?_
      refine fx_loop (fun nM a wL => ∃ i : Nat, ∃ ll : List St, nM = (vals l10).length - i ∧ Fr (101, []) [(0, .slice P la.length cp), (1, .agg (actE.arr x)), (3, .pointer (some ⟨b1, 0, none⟩)), (4, .bool false), (13, .slice P la.length cp), (14, .int .i64 ((la.length : Nat) : Int)), (15, .bool (decide (100 < ((la.length : Nat) : Int)))), (18, .slice P la.length cp), (19, .tuple #[.pointer (some ⟨b9, 0, none⟩), .slice V11 ((vals l10).length) vc12, .bool true]), (17, .tuple #[.pointer (some ⟨b9, 0, none⟩), .slice V11 ((vals l10).length) vc12, .bool true]), (20, .pointer (some ⟨b9, 0, none⟩)), (21, .slice V11 ((vals l10).length) vc12), (22, .bool true), (5, .pointer (some ⟨b9, 0, none⟩)), (6, .slice V11 ((vals l10).length) vc12), (7, .bool true), (23, .pointer (some ⟨b9, 0, none⟩)), (24, .pointer (some ⟨b20, 0, none⟩)), (8, .pointer (some ⟨b20, 0, none⟩)), (25, .bool true), (26, .bool false), (27, .bool false), (28, .pointer (some ⟨b9, 0, none⟩)), (29, .pointer (some ⟨b20, 0, none⟩)), (30, .bool true), (31, .bool false), (32, .bool false), (33, .slice V11 ((vals l10).length) vc12), (9, .slice A62 ((vals (pushL l10 x.st)).length) cap63), (34, .pointer (some ⟨b1, 0, none⟩)), (35, .int .i64 x.what), (36, .bool (decide (x.what ≠ 0))), (45, .slice V11 ((vals l10).length) vc12), (46, .pointer (some ⟨b1, 1, none⟩)), (47, .agg (stE.arr x.st)), (48, .tuple #[.slice A62 ((vals (pushL l10 x.st)).length) cap63, .int .i64 (pushE l10 x.st)]), (44, .tuple #[.slice A62 ((vals (pushL l10 x.st)).length) cap63, .int .i64 (pushE l10 x.st)]), (49, .slice A62 ((vals (pushL l10 x.st)).length) cap63), (50, .int .i64 (pushE l10 x.st)), (51, .pointer (some ⟨b9, 0, none⟩)), (52, .pointer (some ⟨b1, 1, none⟩)), (53, .agg (stE.arr x.st)), (54, .int .i64 (pushE l10 x.st)), (55, .pointer (some ⟨b20, 0, none⟩)), (56, .slice A71 ((vals l10).length) cap72), (10, .slice A71 ((vals l10).length) cap72), (11, .int .i64 ((i : Nat) : Int))] a ∧ Only (fun _ => False) w wL ∧ View actE wL P cp la ∧ Blk wL b1 48 (actE.arr x) ∧ View stE wL V11 vc12 (vals l10) ∧ BufAt wL b20 l10 ∧ View stE wL A62 cap63 (vals (pushL l10 x.st)) ∧ BufAt wL b9 (pushL l10 x.st) ∧ Own stE wL A71 cap72 ll ∧ i ≤ (vals l10).length ∧ ll.length = (vals l10).length) (n0 := _) ⟨0, vals l10, rfl, fr.sub ⟨rfl, rfl, rfl, rfl, rfl, rfl, rfl, rfl, rfl, rfl, rfl, rfl, rfl, rfl, rfl, rfl, rfl, rfl, rfl, rfl, rfl, rfl, rfl, rfl, rfl, rfl, rfl, rfl, rfl, rfl, rfl, rfl, rfl, rfl, rfl, rfl, rfl, rfl, rfl, rfl, rfl, rfl, rfl, rfl, rfl, rfl, rfl, trivial⟩, hF, hV, B4, hW14, H21, V64, H68, O73, by omega, rfl⟩ ?_
      rintro n78 a w77 ⟨i, ll, rfl, fr, hF, hV, B4, hW14, H21, V64, H68, OL, hi, hll⟩
      have hvl9 := vals_len l10
      refine wp_seq ?_
      refine wp_seq ?_
      refine wp_region_lit ?_  -- region 15
      refine fx_val (v := .int .i64 ((i : Nat) : Int)) fr rfl rfl (by first | decide | simp) (x_move rfl (fr.ev rfl)) ?_
      clear fr a; intro a fr
      refine fx_val (v := .slice A71 ((vals l10).length) cap72) fr rfl rfl (by first | decide | simp) (x_move rfl (fr.ev rfl)) ?_
      clear fr a; intro a fr
      refine fx_val (v := .int .i64 (((vals l10).length : Nat) : Int)) fr rfl rfl (by first | decide | simp) (x_len Try.underlying32 rfl (fr.ev rfl)) ?_
      clear fr a; intro a fr
      refine fx_val (v := .bool (decide (((i : Nat) : Int) < (((vals l10).length : Nat) : Int)))) fr rfl rfl (by first | decide | simp) (x_lss rfl (fr.ev rfl) (fr.ev rfl) rfl) ?_
      clear fr a; intro a fr
      refine wpList_nil ?_
      refine fx_next ?_
      refine fx_cond fr rfl (fun hc79 => ?_) (fun hc79 => ?_)
      · skip
        have hc79 := of_decide_eq_true hc79
        refine wp_skip ?_
        refine fx_next ?_
        refine wp_seq ?_
        refine wp_block ?_
        refine wp_region_lit ?_  -- region 17
        refine fx_val (v := .slice A71 ((vals l10).length) cap72) fr rfl rfl (by first | decide | simp) (x_move rfl (fr.ev rfl)) ?_
        clear fr a; intro a fr
        refine fx_val (v := .int .i64 ((i : Nat) : Int)) fr rfl rfl (by first | decide | simp) (x_move rfl (fr.ev rfl)) ?_
        clear fr a; intro a fr
        refine fx_val (v := .slice A71 ((vals l10).length) cap72) fr rfl rfl (by first | decide | simp) (x_move rfl (fr.ev rfl)) ?_
        clear fr a; intro a fr
        refine fx_val (v := .int .i64 ((i : Nat) : Int)) fr rfl rfl (by first | decide | simp) (x_move rfl (fr.ev rfl)) ?_
        clear fr a; intro a fr
        obtain ⟨g80, o81, hA82⟩ := (OL.view).some_ (by omega)
        refine fx_val (v := .pointer (some ⟨g80, o81 + i * 3, none⟩)) fr rfl rfl (by first | decide | simp) (x_indexV Try.underlying32 sz24 rfl (fr.ev rfl) hA82 (fr.ev rfl) (by omega) rfl) ?_
        clear fr a; intro a fr
        refine fx_val (v := .pointer (some ⟨g80, o81 + i * 3 + 2, none⟩)) fr rfl rfl (by first | decide | simp) (x_fieldAddr fo24_2 rfl (fr.ev rfl) rfl) ?_
        clear fr a; intro a fr
        refine fx_val (v := .int .u32 ((ll.getD i st0).value)) fr rfl rfl (by first | decide | simp) (x_load1 pl22 rfl (fr.ev rfl) (range_cell ((OL.view).elem hA82 i st0 (by omega)) 2 rfl rfl)) ?_
        clear fr a; intro a fr
        refine fx_val (v := .int .u32 (IntKind.u32.wrap ((ll.getD i st0).value + 1))) fr rfl rfl (by first | decide | simp) (x_add rfl (fr.ev rfl) rfl rfl) ?_
        clear fr a; intro a fr
        refine fx_val (v := .pointer (some ⟨g80, o81 + i * 3, none⟩)) fr rfl rfl (by first | decide | simp) (x_indexV Try.underlying32 sz24 rfl (fr.ev rfl) hA82 (fr.ev rfl) (by omega) rfl) ?_
        clear fr a; intro a fr
        refine fx_val (v := .pointer (some ⟨g80, o81 + i * 3 + 2, none⟩)) fr rfl rfl (by first | decide | simp) (x_fieldAddr fo24_2 rfl (fr.ev rfl) rfl) ?_
        clear fr a; intro a fr
        refine fx_storeEl (E := stE) (d := st0) (q := 2) (x' := (⟨(ll.getD i st0).addr, (ll.getD i st0).width, IntKind.u32.wrap ((ll.getD i st0).value + 1), (ll.getD i st0).ha, u32r _⟩ : St)) sz22 rfl rfl rfl hA82 OL (by omega) (by decide) (fr.ev rfl) rfl (fr.ev rfl) rfl rfl fun w83 hO84 hBq => ?_
        replace hV := hV.only hO84 (fun g h1 h2 => ap2_P_A71 g h1 h2)
        replace B4 := B4.only hO84 ap_A71_b1
        replace hW14 := hW14.only hO84 (fun g h1 h2 => ap2_V11_A71 g h1 h2)
        replace H21 := H21.only hO84 ap_A71_b20
        replace V64 := V64.only hO84 (fun g h1 h2 => ap2_A62_A71 g h1 h2)
        replace H68 := H68.only hO84 ap_A71_b9
        replace hF := hF.locA hO84 gA_A71
        replace OL := hBq
        clear hBq
        refine wpList_nil ?_
        refine fx_blk ?_
        refine fx_next ?_
        refine wp_region_lit ?_  -- region 16
        refine fx_val (v := .int .i64 ((i : Nat) : Int)) fr rfl rfl (by first | decide | simp) (x_move rfl (fr.ev rfl)) ?_
        clear fr a; intro a fr
        refine fx_val (v := .int .i64 ((i + 1 : Nat) : Int)) fr rfl rfl (by first | decide | simp) (x_add rfl (fr.ev rfl) rfl (i64w (r := ((i + 1 : Nat) : Int)) (by omega) (by omega))) ?_
        clear fr a; intro a fr
        refine fx_val (v := .int .i64 ((i + 1 : Nat) : Int)) fr rfl rfl (by first | decide | simp) (x_assign rfl (fr.ev rfl)) ?_
        clear fr a; intro a fr
        refine wpList_nil ?_
        refine fx_next ?_
        exact ⟨_, by omega, (i + 1), (ll.set i (⟨(ll.getD i st0).addr, (ll.getD i st0).width, IntKind.u32.wrap ((ll.getD i st0).value + 1), (ll.getD i st0).ha, u32r _⟩ : St)), rfl, fr.sub ⟨rfl, rfl, rfl, rfl, rfl, rfl, rfl, rfl, rfl, rfl, rfl, rfl, rfl, rfl, rfl, rfl, rfl, rfl, rfl, rfl, rfl, rfl, rfl, rfl, rfl, rfl, rfl, rfl, rfl, rfl, rfl, rfl, rfl, rfl, rfl, rfl, rfl, rfl, rfl, rfl, rfl, rfl, rfl, rfl, rfl, rfl, rfl, trivial⟩, hF, hV, B4, hW14, H21, V64, H68, OL, by omega, (by rw [List.length_set]; exact hll)⟩
      · skip
        have hc79 := of_decide_eq_false hc79
        refine wp_exit ?_
        refine fx_xt ?_
        refine fx_xt ?_
        refine fx_xx ?_
        refine fx_next ?_
        refine wp_seq ?_
        refine wp_region_lit ?_  -- region 18
        refine fx_val (v := .slice A62 ((vals (pushL l10 x.st)).length) cap63) fr rfl rfl (by first | decide | simp) (x_move rfl (fr.ev rfl)) ?_
        clear fr a; intro a fr
        refine fx_val (v := .slice V11 ((vals l10).length) vc12) fr rfl rfl (by first | decide | simp) (x_move rfl (fr.ev rfl)) ?_
        clear fr a; intro a fr
        refine fx_call fr rfl rfl (by first | decide | simp) (x_call (vs := [.slice A62 ((vals (pushL l10 x.st)).length) cap63, .slice V11 ((vals l10).length) vc12]) rfl rfl ⟨(fr.ev rfl), (fr.ev rfl), trivial⟩ Try.func24 nm24 rfl) (rsame_c (V64) (hW14)) ?_
        clear fr a
        rintro v w85 ⟨rfl, hN86⟩ a fr
        replace hV := hV.new hN86
        replace B4 := B4.new hN86
        replace hW14 := hW14.new hN86
        replace H21 := H21.new hN86
        replace V64 := V64.new hN86
        replace H68 := H68.new hN86
        replace OL := OL.new hN86
        replace hF := hF.trNew hN86
        refine fx_val (v := .bool (decide (vals (pushL l10 x.st) = vals l10))) fr rfl rfl (by first | decide | simp) (x_assign rfl (fr.ev rfl)) ?_
        clear fr a; intro a fr
        refine wpList_nil ?_
        refine fx_next ?_
        refine wp_seq ?_
        refine wp_region_lit ?_  -- region 19
        refine fx_val (v := .pointer (some ⟨b20, 0, none⟩)) fr rfl rfl (by first | decide | simp) (x_move rfl (fr.ev rfl)) ?_
        clear fr a; intro a fr
        refine fx_val (v := .slice V11 ((vals l10).length) vc12) fr rfl rfl (by first | decide | simp) (x_move rfl (fr.ev rfl)) ?_
        clear fr a; intro a fr
        refine fx_call fr rfl rfl (by first | decide | simp) (x_call (vs := [.pointer (some ⟨b20, 0, none⟩), .slice V11 ((vals l10).length) vc12]) rfl rfl ⟨(fr.ev rfl), (fr.ev rfl), trivial⟩ Try.func17 nm17 rfl) (is_c H21 (hW14)) ?_
        clear fr a
        rintro v w87 ⟨rfl, hN88⟩ a fr
        replace hV := hV.new hN88
        replace B4 := B4.new hN88
        replace hW14 := hW14.new hN88
        replace H21 := H21.new hN88
        replace V64 := V64.new hN88
        replace H68 := H68.new hN88
        replace OL := OL.new hN88
        replace hF := hF.trNew hN88
        refine fx_val (v := .bool true) fr rfl rfl (by first | decide | simp) (x_move rfl (fr.ev rfl)) ?_
        clear fr a; intro a fr
        refine fx_val (v := .pointer (some ⟨b9, 0, none⟩)) fr (fr.want rfl rfl rfl) rfl (by first | decide | simp) (x_move rfl (fr.ev rfl)) ?_
        clear fr a; intro a fr
        refine fx_val (v := .slice A62 ((vals (pushL l10 x.st)).length) cap63) fr (fr.want rfl rfl rfl) rfl (by first | decide | simp) (x_move rfl (fr.ev rfl)) ?_
        clear fr a; intro a fr
        refine fx_call fr (fr.want rfl rfl rfl) rfl (by first | decide | simp) (x_call (vs := [.pointer (some ⟨b9, 0, none⟩), .slice A62 ((vals (pushL l10 x.st)).length) cap63]) rfl rfl ⟨(fr.ev rfl), (fr.ev rfl), trivial⟩ Try.func17 nm17 rfl) (is_c H68 (V64)) ?_
        clear fr a
        rintro v w89 ⟨rfl, hN90⟩ a fr
        replace hV := hV.new hN90
        replace B4 := B4.new hN90
        replace hW14 := hW14.new hN90
        replace H21 := H21.new hN90
        replace V64 := V64.new hN90
        replace H68 := H68.new hN90
        replace OL := OL.new hN90
        replace hF := hF.trNew hN90
        refine fx_val (v := .bool true) fr rfl rfl (by first | decide | simp) (x_pick_t rfl (fr.ev rfl) (fr.ev rfl)) ?_
        clear fr a; intro a fr
        refine fx_val (v := .bool true) fr rfl rfl (by first | decide | simp) (x_move rfl (fr.ev rfl)) ?_
        clear fr a; intro a fr
        refine fx_val (v := .pointer (some ⟨b9, 0, none⟩)) fr (fr.want rfl rfl rfl) rfl (by first | decide | simp) (x_move rfl (fr.ev rfl)) ?_
        clear fr a; intro a fr
        refine fx_val (v := .pointer (some ⟨b20, 0, none⟩)) fr (fr.want rfl rfl rfl) rfl (by first | decide | simp) (x_move rfl (fr.ev rfl)) ?_
        clear fr a; intro a fr
        refine fx_call fr (fr.want rfl rfl rfl) rfl (by first | decide | simp) (x_call (vs := [.pointer (some ⟨b9, 0, none⟩), .pointer (some ⟨b20, 0, none⟩)]) rfl rfl ⟨(fr.ev rfl), (fr.ev rfl), trivial⟩ Try.func23 nm23 rfl) (same_xx H68 H21) ?_
        clear fr a
        rintro v w91 ⟨rfl, hN92⟩ a fr
        replace hV := hV.new hN92
        replace B4 := B4.new hN92
        replace hW14 := hW14.new hN92
        replace H21 := H21.new hN92
        replace V64 := V64.new hN92
        replace H68 := H68.new hN92
        replace OL := OL.new hN92
        replace hF := hF.trNew hN92
        refine fx_val (v := .bool (decide (vals (pushL l10 x.st) = vals l10))) fr (fr.want rfl rfl rfl) rfl (by first | decide | simp) (x_move rfl (fr.ev rfl)) ?_
        clear fr a; intro a fr
        refine fx_val (v := .bool true) fr (fr.want rfl rfl rfl) rfl (by first | decide | simp) (x_beql Try.underlying4 rfl (fr.ev rfl) (fr.ev rfl) (by simp)) ?_
        clear fr a; intro a fr
        refine fx_val (v := .bool true) fr rfl rfl (by first | decide | simp) (x_pick_t rfl (fr.ev rfl) (fr.ev rfl)) ?_
        clear fr a; intro a fr
        refine fx_val (v := .bool true) fr rfl rfl (by first | decide | simp) (x_move rfl (fr.ev rfl)) ?_
        clear fr a; intro a fr
        refine fx_val (v := .pointer (some ⟨b20, 0, none⟩)) fr (fr.want rfl rfl rfl) rfl (by first | decide | simp) (x_move rfl (fr.ev rfl)) ?_
        clear fr a; intro a fr
        refine fx_val (v := .pointer (some ⟨b9, 0, none⟩)) fr (fr.want rfl rfl rfl) rfl (by first | decide | simp) (x_move rfl (fr.ev rfl)) ?_
        clear fr a; intro a fr
        refine fx_call fr (fr.want rfl rfl rfl) rfl (by first | decide | simp) (x_call (vs := [.pointer (some ⟨b20, 0, none⟩), .pointer (some ⟨b9, 0, none⟩)]) rfl rfl ⟨(fr.ev rfl), (fr.ev rfl), trivial⟩ Try.func23 nm23 rfl) (same_xx H21 H68) ?_
        clear fr a
        rintro v w93 ⟨rfl, hN94⟩ a fr
        replace hV := hV.new hN94
        replace B4 := B4.new hN94
        replace hW14 := hW14.new hN94
        replace H21 := H21.new hN94
        replace V64 := V64.new hN94
        replace H68 := H68.new hN94
        replace OL := OL.new hN94
        replace hF := hF.trNew hN94
        rw [show decide (vals l10 = vals (pushL l10 x.st)) = decide (vals (pushL l10 x.st) = vals l10) from by simp [eq_comm]] at fr
        refine fx_val (v := .bool (decide (vals (pushL l10 x.st) = vals l10))) fr (fr.want rfl rfl rfl) rfl (by first | decide | simp) (x_move rfl (fr.ev rfl)) ?_
        clear fr a; intro a fr
        refine fx_val (v := .bool true) fr (fr.want rfl rfl rfl) rfl (by first | decide | simp) (x_beql Try.underlying4 rfl (fr.ev rfl) (fr.ev rfl) (by simp)) ?_
        clear fr a; intro a fr
        refine fx_val (v := .bool true) fr rfl rfl (by first | decide | simp) (x_pick_t rfl (fr.ev rfl) (fr.ev rfl)) ?_
        clear fr a; intro a fr
        refine fx_val (v := .bool true) fr rfl rfl (by first | decide | simp) (x_move rfl (fr.ev rfl)) ?_
        clear fr a; intro a fr
        refine fx_call fr (fr.want rfl rfl rfl) rfl (by first | decide | simp) (x_call (vs := []) rfl rfl trivial Try.func15 nm15 rfl) (works_c _) ?_
        clear fr a
        rintro v w95 ⟨rfl, hN96⟩ a fr
        replace hV := hV.new hN96
        replace B4 := B4.new hN96
        replace hW14 := hW14.new hN96
        replace H21 := H21.new hN96
        replace V64 := V64.new hN96
        replace H68 := H68.new hN96
        replace OL := OL.new hN96
        replace hF := hF.trNew hN96
        refine fx_val (v := .bool true) fr rfl rfl (by first | decide | simp) (x_pick_t rfl (fr.ev rfl) (fr.ev rfl)) ?_
        clear fr a; intro a fr
        refine fx_val (v := .bool true) fr rfl rfl (by first | decide | simp) (x_assign rfl (fr.ev rfl)) ?_
        clear fr a; intro a fr
        refine wpList_nil ?_
        refine fx_next ?_
        refine wp_ret ?_
        refine fx_ret fr [.tmp 4] [.bool true] rfl ⟨rfl, trivial⟩ rfl ?_
        exact ⟨_, rfl, rfl, hF⟩
end Go.Proofs.Ytemihglffmfikaa
