/-
  Part 2 of what the claim stands on: walks through the code, plain laws.
-/
import Derived.Test.YtdiaemlgghfecaaZApart1
namespace Go.Proofs.Ytdiaemlgghfecaa
open Go.RowKit
set_option maxRecDepth 100000 in
set_option maxHeartbeats 4000000 in
theorem wants_c (w : World) : Calls Try.prog 47 #[] w (Ret fun v w' => ∃ r, v = .map (some r) ∧ w.heap.size ≤ r ∧ MapBlk w' r wantsEs 13 ∧ New w w') := by
  have hF := Only.refl (fun _ => False) w
  refine fx_enter Try.func47 rfl (N := (16, [])) (T := []) rfl (show 0 ≤ 16 by decide) trivial fun a fr => ?_
  refine wp_seq ?_
  refine wp_region_lit ?_  -- region 0
  refine fx_val (v := .map none) fr rfl rfl (by first | decide | simp) (x_assign rfl rfl) ?_
  clear fr a; intro a fr
  refine wpList_nil ?_
  refine fx_next ?_
  refine wp_seq ?_
  refine wp_region_lit ?_  -- region 1
  refine fx_makeMap fr rfl rfl rfl (by first | decide | simp) ?_
  clear fr a
  intro r1 w2 hN3 M4 hb5 a fr
  have g_r1 := Nat.le_trans hF.size hb5
  replace hF := hF.trNew hN3
  refine fx_val (v := .agg (#[.bool true, .bool false])) fr rfl rfl (by first | decide | simp) (x_build (cells := #[.bool true, .bool false]) rfl (by kernel_rfl)) ?_
  clear fr a; intro a fr
  refine fx_insert (es' := #[⟨.int .i64 1, .agg (#[.bool true, .bool false]), 0⟩]) Try.underlying103 Try.underlying33 rfl rfl rfl (fr.ev rfl) rfl (fr.ev rfl) M4 rfl rfl fun w6 hO7 hBq => ?_
  replace hF := hF.loc hO7 (.inr g_r1)
  replace M4 := hBq
  clear hBq
  refine fx_val (v := .agg (#[.bool true, .bool false])) fr rfl rfl (by first | decide | simp) (x_build (cells := #[.bool true, .bool false]) rfl (by kernel_rfl)) ?_
  clear fr a; intro a fr
  refine fx_insert (es' := #[⟨.int .i64 1, .agg (#[.bool true, .bool false]), 0⟩, ⟨.int .i64 2, .agg (#[.bool true, .bool false]), 1⟩]) Try.underlying103 Try.underlying33 rfl rfl rfl (fr.ev rfl) rfl (fr.ev rfl) M4 rfl rfl fun w8 hO9 hBq => ?_
  replace hF := hF.loc hO9 (.inr g_r1)
  replace M4 := hBq
  clear hBq
  refine fx_val (v := .agg (#[.bool true, .bool true])) fr rfl rfl (by first | decide | simp) (x_build (cells := #[.bool true, .bool true]) rfl (by kernel_rfl)) ?_
  clear fr a; intro a fr
  refine fx_insert (es' := #[⟨.int .i64 1, .agg (#[.bool true, .bool false]), 0⟩, ⟨.int .i64 2, .agg (#[.bool true, .bool false]), 1⟩, ⟨.int .i64 3, .agg (#[.bool true, .bool true]), 2⟩]) Try.underlying103 Try.underlying33 rfl rfl rfl (fr.ev rfl) rfl (fr.ev rfl) M4 rfl rfl fun w10 hO11 hBq => ?_
  replace hF := hF.loc hO11 (.inr g_r1)
  replace M4 := hBq
  clear hBq
  refine fx_val (v := .agg (#[.bool true, .bool true])) fr rfl rfl (by first | decide | simp) (x_build (cells := #[.bool true, .bool true]) rfl (by kernel_rfl)) ?_
  clear fr a; intro a fr
  refine fx_insert (es' := #[⟨.int .i64 1, .agg (#[.bool true, .bool false]), 0⟩, ⟨.int .i64 2, .agg (#[.bool true, .bool false]), 1⟩, ⟨.int .i64 3, .agg (#[.bool true, .bool true]), 2⟩, ⟨.int .i64 11, .agg (#[.bool true, .bool true]), 3⟩]) Try.underlying103 Try.underlying33 rfl rfl rfl (fr.ev rfl) rfl (fr.ev rfl) M4 rfl rfl fun w12 hO13 hBq => ?_
  replace hF := hF.loc hO13 (.inr g_r1)
  replace M4 := hBq
  clear hBq
  refine fx_val (v := .agg (#[.bool true, .bool false])) fr rfl rfl (by first | decide | simp) (x_build (cells := #[.bool true, .bool false]) rfl (by kernel_rfl)) ?_
  clear fr a; intro a fr
  refine fx_insert (es' := #[⟨.int .i64 1, .agg (#[.bool true, .bool false]), 0⟩, ⟨.int .i64 2, .agg (#[.bool true, .bool false]), 1⟩, ⟨.int .i64 3, .agg (#[.bool true, .bool true]), 2⟩, ⟨.int .i64 11, .agg (#[.bool true, .bool true]), 3⟩, ⟨.int .i64 12, .agg (#[.bool true, .bool false]), 4⟩]) Try.underlying103 Try.underlying33 rfl rfl rfl (fr.ev rfl) rfl (fr.ev rfl) M4 rfl rfl fun w14 hO15 hBq => ?_
  replace hF := hF.loc hO15 (.inr g_r1)
  replace M4 := hBq
  clear hBq
  refine fx_val (v := .agg (#[.bool true, .bool false])) fr rfl rfl (by first | decide | simp) (x_build (cells := #[.bool true, .bool false]) rfl (by kernel_rfl)) ?_
  clear fr a; intro a fr
  refine fx_insert (es' := #[⟨.int .i64 1, .agg (#[.bool true, .bool false]), 0⟩, ⟨.int .i64 2, .agg (#[.bool true, .bool false]), 1⟩, ⟨.int .i64 3, .agg (#[.bool true, .bool true]), 2⟩, ⟨.int .i64 11, .agg (#[.bool true, .bool true]), 3⟩, ⟨.int .i64 12, .agg (#[.bool true, .bool false]), 4⟩, ⟨.int .i64 13, .agg (#[.bool true, .bool false]), 5⟩]) Try.underlying103 Try.underlying33 rfl rfl rfl (fr.ev rfl) rfl (fr.ev rfl) M4 rfl rfl fun w16 hO17 hBq => ?_
  replace hF := hF.loc hO17 (.inr g_r1)
  replace M4 := hBq
  clear hBq
  refine fx_val (v := .agg (#[.bool false, .bool false])) fr rfl rfl (by first | decide | simp) (x_build (cells := #[.bool false, .bool false]) rfl (by kernel_rfl)) ?_
  clear fr a; intro a fr
  refine fx_insert (es' := #[⟨.int .i64 1, .agg (#[.bool true, .bool false]), 0⟩, ⟨.int .i64 2, .agg (#[.bool true, .bool false]), 1⟩, ⟨.int .i64 3, .agg (#[.bool true, .bool true]), 2⟩, ⟨.int .i64 11, .agg (#[.bool true, .bool true]), 3⟩, ⟨.int .i64 12, .agg (#[.bool true, .bool false]), 4⟩, ⟨.int .i64 13, .agg (#[.bool true, .bool false]), 5⟩, ⟨.int .i64 4, .agg (#[.bool false, .bool false]), 6⟩]) Try.underlying103 Try.underlying33 rfl rfl rfl (fr.ev rfl) rfl (fr.ev rfl) M4 rfl rfl fun w18 hO19 hBq => ?_
  replace hF := hF.loc hO19 (.inr g_r1)
  replace M4 := hBq
  clear hBq
  refine fx_val (v := .agg (#[.bool false, .bool false])) fr rfl rfl (by first | decide | simp) (x_build (cells := #[.bool false, .bool false]) rfl (by kernel_rfl)) ?_
  clear fr a; intro a fr
  refine fx_insert (es' := #[⟨.int .i64 1, .agg (#[.bool true, .bool false]), 0⟩, ⟨.int .i64 2, .agg (#[.bool true, .bool false]), 1⟩, ⟨.int .i64 3, .agg (#[.bool true, .bool true]), 2⟩, ⟨.int .i64 11, .agg (#[.bool true, .bool true]), 3⟩, ⟨.int .i64 12, .agg (#[.bool true, .bool false]), 4⟩, ⟨.int .i64 13, .agg (#[.bool true, .bool false]), 5⟩, ⟨.int .i64 4, .agg (#[.bool false, .bool false]), 6⟩, ⟨.int .i64 5, .agg (#[.bool false, .bool false]), 7⟩]) Try.underlying103 Try.underlying33 rfl rfl rfl (fr.ev rfl) rfl (fr.ev rfl) M4 rfl rfl fun w20 hO21 hBq => ?_
  replace hF := hF.loc hO21 (.inr g_r1)
  replace M4 := hBq
  clear hBq
  refine fx_val (v := .agg (#[.bool false, .bool false])) fr rfl rfl (by first | decide | simp) (x_build (cells := #[.bool false, .bool false]) rfl (by kernel_rfl)) ?_
  clear fr a; intro a fr
  refine fx_insert (es' := #[⟨.int .i64 1, .agg (#[.bool true, .bool false]), 0⟩, ⟨.int .i64 2, .agg (#[.bool true, .bool false]), 1⟩, ⟨.int .i64 3, .agg (#[.bool true, .bool true]), 2⟩, ⟨.int .i64 11, .agg (#[.bool true, .bool true]), 3⟩, ⟨.int .i64 12, .agg (#[.bool true, .bool false]), 4⟩, ⟨.int .i64 13, .agg (#[.bool true, .bool false]), 5⟩, ⟨.int .i64 4, .agg (#[.bool false, .bool false]), 6⟩, ⟨.int .i64 5, .agg (#[.bool false, .bool false]), 7⟩, ⟨.int .i64 6, .agg (#[.bool false, .bool false]), 8⟩]) Try.underlying103 Try.underlying33 rfl rfl rfl (fr.ev rfl) rfl (fr.ev rfl) M4 rfl rfl fun w22 hO23 hBq => ?_
  replace hF := hF.loc hO23 (.inr g_r1)
  replace M4 := hBq
  clear hBq
  refine fx_val (v := .agg (#[.bool false, .bool false])) fr rfl rfl (by first | decide | simp) (x_build (cells := #[.bool false, .bool false]) rfl (by kernel_rfl)) ?_
  clear fr a; intro a fr
  refine fx_insert (es' := #[⟨.int .i64 1, .agg (#[.bool true, .bool false]), 0⟩, ⟨.int .i64 2, .agg (#[.bool true, .bool false]), 1⟩, ⟨.int .i64 3, .agg (#[.bool true, .bool true]), 2⟩, ⟨.int .i64 11, .agg (#[.bool true, .bool true]), 3⟩, ⟨.int .i64 12, .agg (#[.bool true, .bool false]), 4⟩, ⟨.int .i64 13, .agg (#[.bool true, .bool false]), 5⟩, ⟨.int .i64 4, .agg (#[.bool false, .bool false]), 6⟩, ⟨.int .i64 5, .agg (#[.bool false, .bool false]), 7⟩, ⟨.int .i64 6, .agg (#[.bool false, .bool false]), 8⟩, ⟨.int .i64 7, .agg (#[.bool false, .bool false]), 9⟩]) Try.underlying103 Try.underlying33 rfl rfl rfl (fr.ev rfl) rfl (fr.ev rfl) M4 rfl rfl fun w24 hO25 hBq => ?_
  replace hF := hF.loc hO25 (.inr g_r1)
  replace M4 := hBq
  clear hBq
  refine fx_val (v := .agg (#[.bool false, .bool true])) fr rfl rfl (by first | decide | simp) (x_build (cells := #[.bool false, .bool true]) rfl (by kernel_rfl)) ?_
  clear fr a; intro a fr
  refine fx_insert (es' := #[⟨.int .i64 1, .agg (#[.bool true, .bool false]), 0⟩, ⟨.int .i64 2, .agg (#[.bool true, .bool false]), 1⟩, ⟨.int .i64 3, .agg (#[.bool true, .bool true]), 2⟩, ⟨.int .i64 11, .agg (#[.bool true, .bool true]), 3⟩, ⟨.int .i64 12, .agg (#[.bool true, .bool false]), 4⟩, ⟨.int .i64 13, .agg (#[.bool true, .bool false]), 5⟩, ⟨.int .i64 4, .agg (#[.bool false, .bool false]), 6⟩, ⟨.int .i64 5, .agg (#[.bool false, .bool false]), 7⟩, ⟨.int .i64 6, .agg (#[.bool false, .bool false]), 8⟩, ⟨.int .i64 7, .agg (#[.bool false, .bool false]), 9⟩, ⟨.int .i64 8, .agg (#[.bool false, .bool true]), 10⟩]) Try.underlying103 Try.underlying33 rfl rfl rfl (fr.ev rfl) rfl (fr.ev rfl) M4 rfl rfl fun w26 hO27 hBq => ?_
  replace hF := hF.loc hO27 (.inr g_r1)
  replace M4 := hBq
  clear hBq
  refine fx_val (v := .agg (#[.bool false, .bool true])) fr rfl rfl (by first | decide | simp) (x_build (cells := #[.bool false, .bool true]) rfl (by kernel_rfl)) ?_
  clear fr a; intro a fr
  refine fx_insert (es' := #[⟨.int .i64 1, .agg (#[.bool true, .bool false]), 0⟩, ⟨.int .i64 2, .agg (#[.bool true, .bool false]), 1⟩, ⟨.int .i64 3, .agg (#[.bool true, .bool true]), 2⟩, ⟨.int .i64 11, .agg (#[.bool true, .bool true]), 3⟩, ⟨.int .i64 12, .agg (#[.bool true, .bool false]), 4⟩, ⟨.int .i64 13, .agg (#[.bool true, .bool false]), 5⟩, ⟨.int .i64 4, .agg (#[.bool false, .bool false]), 6⟩, ⟨.int .i64 5, .agg (#[.bool false, .bool false]), 7⟩, ⟨.int .i64 6, .agg (#[.bool false, .bool false]), 8⟩, ⟨.int .i64 7, .agg (#[.bool false, .bool false]), 9⟩, ⟨.int .i64 8, .agg (#[.bool false, .bool true]), 10⟩, ⟨.int .i64 9, .agg (#[.bool false, .bool true]), 11⟩]) Try.underlying103 Try.underlying33 rfl rfl rfl (fr.ev rfl) rfl (fr.ev rfl) M4 rfl rfl fun w28 hO29 hBq => ?_
  replace hF := hF.loc hO29 (.inr g_r1)
  replace M4 := hBq
  clear hBq
  refine fx_val (v := .agg (#[.bool false, .bool true])) fr rfl rfl (by first | decide | simp) (x_build (cells := #[.bool false, .bool true]) rfl (by kernel_rfl)) ?_
  clear fr a; intro a fr
  refine fx_insert (es' := #[⟨.int .i64 1, .agg (#[.bool true, .bool false]), 0⟩, ⟨.int .i64 2, .agg (#[.bool true, .bool false]), 1⟩, ⟨.int .i64 3, .agg (#[.bool true, .bool true]), 2⟩, ⟨.int .i64 11, .agg (#[.bool true, .bool true]), 3⟩, ⟨.int .i64 12, .agg (#[.bool true, .bool false]), 4⟩, ⟨.int .i64 13, .agg (#[.bool true, .bool false]), 5⟩, ⟨.int .i64 4, .agg (#[.bool false, .bool false]), 6⟩, ⟨.int .i64 5, .agg (#[.bool false, .bool false]), 7⟩, ⟨.int .i64 6, .agg (#[.bool false, .bool false]), 8⟩, ⟨.int .i64 7, .agg (#[.bool false, .bool false]), 9⟩, ⟨.int .i64 8, .agg (#[.bool false, .bool true]), 10⟩, ⟨.int .i64 9, .agg (#[.bool false, .bool true]), 11⟩, ⟨.int .i64 10, .agg (#[.bool false, .bool true]), 12⟩]) Try.underlying103 Try.underlying33 rfl rfl rfl (fr.ev rfl) rfl (fr.ev rfl) M4 rfl rfl fun w30 hO31 hBq => ?_
  replace hF := hF.loc hO31 (.inr g_r1)
  replace M4 := hBq
  clear hBq
  refine fx_val (v := .map (some r1)) fr rfl rfl (by first | decide | simp) (x_move rfl (fr.ev rfl)) ?_
  clear fr a; intro a fr
  refine fx_val (v := .map (some r1)) fr rfl rfl (by first | decide | simp) (x_assign rfl (fr.ev rfl)) ?_
  clear fr a; intro a fr
  refine wpList_nil ?_
  refine fx_next ?_
  refine wp_ret ?_
  refine fx_ret fr [.tmp 0] [.map (some r1)] rfl ⟨rfl, trivial⟩ rfl ?_
  exact ⟨_, rfl, _, rfl, g_r1, M4, hF⟩
set_option maxRecDepth 100000 in
set_option maxHeartbeats 4000000 in
theorem chk_c (m : Msg) (w : World) : Calls Try.prog 29 #[.agg (msgE.arr m)] w (Ret fun v w' => v = .int .i64 (chk m) ∧ New w w') := by
  have hF := Only.refl (fun _ => False) w
  refine fx_enter Try.func29 rfl (N := (53, [])) (T := [(0, .agg (msgE.arr m))]) rfl (show 1 ≤ 53 by decide) ⟨rfl, trivial⟩ fun a fr => ?_
  refine wp_seq ?_
  refine wp_region_lit ?_  -- region 0
  refine fx_new fr rfl rfl (by first | decide | simp) (x_box (cs := msgE.arr m) rfl (fr.ev rfl) rfl) ?_
  clear fr a
  intro b1 w2 hN3 B4 hb5 a fr
  have g_b1 := Nat.le_trans hF.size hb5
  replace hF := hF.trNew hN3
  refine fx_val (v := .int .i64 0) fr rfl rfl (by first | decide | simp) (x_assign rfl rfl) ?_
  clear fr a; intro a fr
  refine wpList_nil ?_
  refine fx_next ?_
  refine wp_seq ?_
  refine fx_heldT (n := 9) (k := 9) (fun w => Blk w b1 36 (msgE.arr m) ∧ True) (by kernel_rfl) (by kernel_rfl) rfl ?_  -- region 1
  intro w6 hN7
  replace B4 := B4.new hN7
  replace hF := hF.trNew hN7
  refine fx_take (i := 1) (v := .pointer (some ⟨b1, 0, none⟩)) fr rfl (by kernel_rfl) rfl rfl (by first | decide | simp) (fun _ _ _ h => h) (fun _ ⟨B4, _⟩ => x_fieldAddr fo36_0 rfl (fr.ev rfl) rfl) ⟨B4, trivial⟩ ?_
  clear fr a; intro a fr
  refine fx_take (i := 2) (v := .int .i64 m.kind) fr rfl (by kernel_rfl) rfl rfl (by first | decide | simp) (fun _ _ _ h => h) (fun _ ⟨B4, _⟩ => x_load1 pl33 rfl (fr.ev rfl) (B4.cell 0 rfl)) ⟨B4, trivial⟩ ?_
  clear fr a; intro a fr
  refine fx_two (i := 0) (j := 7) (by kernel_rfl) (fx_op rfl ?_) (fx_op rfl ?_)
  · skip
    refine fx_call fr rfl rfl (by first | decide | simp) (x_call (vs := []) rfl rfl trivial Try.func47 nm47 rfl) (wants_c _) ?_
    clear fr a
    rintro v w11 ⟨r8, rfl, hr10, M9, hN12⟩ a fr
    have ne_b1_r8 : NE b1 r8 := NE.mk (Nat.lt_of_lt_of_le B4.lt hr10)
    have g_r8 := Nat.le_trans hF.size hr10
    replace B4 := B4.new hN12
    replace hF := hF.trNew hN12
    refine wpList_nil ?_
    refine ⟨⟨B4, trivial⟩, ?_⟩
    refine fx_two (i := 3) (j := 7) (by kernel_rfl) (fx_op rfl ?_) (fx_op rfl ?_)
    · skip
      refine fx_val (v := .tuple #[.agg (#[.bool (homeK m.kind), .bool (bytesK m.kind)]), .bool (isK m.kind)]) fr rfl rfl (by first | decide | simp) (x_lookup (k := .i64) (ok := true) (v := .agg (#[.bool (homeK m.kind), .bool (bytesK m.kind)])) (b := (isK m.kind)) Try.underlying103 Try.underlying33 rfl (fr.ev rfl) (fr.ev rfl) M9 (z := .agg (#[.bool false, .bool false])) (by kernel_rfl) (wants_find _)) ?_
      clear fr a; intro a fr
      refine wpList_nil ?_
      refine ⟨⟨B4, trivial⟩, ?_⟩
      refine fx_take (i := 4) (v := .tuple #[.agg (#[.bool (homeK m.kind), .bool (bytesK m.kind)]), .bool (isK m.kind)]) fr rfl (by kernel_rfl) rfl rfl (by first | decide | simp) (fun _ _ _ h => h) (fun _ ⟨B4, _⟩ => x_move rfl (fr.ev rfl)) ⟨B4, trivial⟩ ?_
      clear fr a; intro a fr
      refine fx_take (i := 5) (v := .agg (#[.bool (homeK m.kind), .bool (bytesK m.kind)])) fr rfl (by kernel_rfl) rfl rfl (by first | decide | simp) (fun _ _ _ h => h) (fun _ ⟨B4, _⟩ => x_extract rfl (fr.ev rfl) rfl) ⟨B4, trivial⟩ ?_
      clear fr a; intro a fr
      refine fx_take (i := 6) (v := .bool (isK m.kind)) fr rfl (by kernel_rfl) rfl rfl (by first | decide | simp) (fun _ _ _ h => h) (fun _ ⟨B4, _⟩ => x_extract rfl (fr.ev rfl) rfl) ⟨B4, trivial⟩ ?_
      clear fr a; intro a fr
      refine fx_one (i := 7) (by kernel_rfl) (fx_op rfl ?_)
      refine fx_new fr rfl rfl (by first | decide | simp) (x_alloc (z := .agg (#[.bool false, .bool false])) (cs := #[.bool false, .bool false]) rfl (by kernel_rfl) rfl) ?_
      clear fr a
      intro b13 w14 hN15 B16 hb17 a fr
      have ne_b1_b13 : NE b1 b13 := NE.mk (Nat.lt_of_lt_of_le B4.lt hb17)
      have ne_r8_b13 : NE r8 b13 := NE.mk (Nat.lt_of_lt_of_le M9.lt hb17)
      have g_b13 := Nat.le_trans hF.size hb17
      replace B4 := B4.new hN15
      replace M9 := M9.new hN15
      replace hF := hF.trNew hN15
      refine wpList_nil ?_
      refine ⟨⟨B4, trivial⟩, ?_⟩
      refine fx_one (i := 8) (by kernel_rfl) (fx_op rfl ?_)
      refine fx_storeS sz101 rfl rfl rfl (fr.ev rfl) (fr.ev rfl) (by simp [Value.oneCell']) B16 rfl rfl fun w18 hO19 hBq => ?_
      replace B4 := B4.only hO19 (by first | exact ne_b1_b13 | exact ne_b13_b1.symm | (show ¬ b1 = b13; omega))
      replace M9 := M9.only hO19 (by first | exact ne_r8_b13 | exact ne_b13_r8.symm | (show ¬ r8 = b13; omega))
      replace hF := hF.loc hO19 (.inr g_b13)
      replace B16 := hBq
      clear hBq
      refine wpList_nil ?_
      refine ⟨⟨B4, trivial⟩, ?_⟩
      refine fx_hdone (by kernel_rfl) ?_
      refine fx_tail ?_
      refine fx_val (v := .bool (isK m.kind)) fr rfl rfl (by first | decide | simp) (x_assign rfl (fr.ev rfl)) ?_
      clear fr a; intro a fr
      refine wpList_nil ?_
      refine fx_next ?_
      refine wp_seq ?_
      refine wp_region_lit ?_  -- region 2
      refine fx_val (v := .pointer (some ⟨b1, 2, none⟩)) fr rfl rfl (by first | decide | simp) (x_fieldAddr fo36_2 rfl (fr.ev rfl) rfl) ?_
      clear fr a; intro a fr
      refine fx_val (v := .int .i64 m.dst) fr rfl rfl (by first | decide | simp) (x_load1 pl3 rfl (fr.ev rfl) (B4.cell 2 rfl)) ?_
      clear fr a; intro a fr
      refine fx_val (v := .int .i64 m.dst) fr rfl rfl (by first | decide | simp) (x_assign rfl (fr.ev rfl)) ?_
      clear fr a; intro a fr
      refine wpList_nil ?_
      refine fx_next ?_
      refine wp_seq ?_
      refine wp_block ?_
      refine wp_seq ?_
      refine wp_block ?_
      refine wp_seq ?_
      refine wp_block ?_
      refine wp_seq ?_
      refine wp_block ?_
      refine wp_seq ?_
      refine wp_seq ?_
      refine wp_seq ?_
      refine wp_region_lit ?_  -- region 3
      refine fx_val (v := .bool (isK m.kind)) fr rfl rfl (by first | decide | simp) (x_move rfl (fr.ev rfl)) ?_
      clear fr a; intro a fr
      refine fx_val (v := .bool (!(isK m.kind))) fr rfl rfl (by first | decide | simp) (x_not rfl (fr.ev rfl) rfl) ?_
      clear fr a; intro a fr
      refine fx_val (v := .bool (!(isK m.kind))) fr rfl rfl (by first | decide | simp) (x_assign rfl (fr.ev rfl)) ?_
      clear fr a; intro a fr
      refine wpList_nil ?_
      refine fx_next ?_
      refine fx_cond fr rfl (fun hc20 => ?_) (fun hc20 => ?_)
      · skip
        refine wp_exit ?_
        refine fx_xt ?_
        refine fx_xt ?_
        refine fx_xx ?_
        refine fx_next ?_
        refine wp_seq ?_
        refine wp_seq ?_
        refine wp_region_lit ?_  -- region 5
        refine fx_val (v := .int .i64 2) fr rfl rfl (by first | decide | simp) (x_assign rfl rfl) ?_
        clear fr a; intro a fr
        refine wpList_nil ?_
        refine fx_next ?_
        refine wp_ret ?_
        refine fx_rt ?_
        refine fx_rb ?_
        refine fx_rt ?_
        refine fx_rb ?_
        refine fx_rt ?_
        refine fx_rb ?_
        refine fx_rt ?_
        refine fx_ret fr [.tmp 2] [.int .i64 2] rfl ⟨rfl, trivial⟩ rfl ?_
        exact ⟨_, rfl, congrArg (Value.int .i64) (by have hx := home_not m.kind; have hk := isK_iff m.kind; clear fr; by_cases e1 : m.dst = 4 <;> by_cases e2 : m.src = 4 <;> simp_all [chk, goodMsg, isCache, bs0] <;> first | omega | (intro p q; rcases ‹(_ ∨ _) ∨ _› with (h | h) | h <;> first | omega | exact h | exact ⟨h.1, decide_eq_false h.2⟩)), hF⟩
      · skip
        refine wp_skip ?_
        refine fx_next ?_
        refine wp_seq ?_
        refine wp_region_lit ?_  -- region 4
        refine fx_val (v := .pointer (some ⟨b13, 0, none⟩)) fr rfl rfl (by first | decide | simp) (x_fieldAddr fo101_0 rfl (fr.ev rfl) rfl) ?_
        clear fr a; intro a fr
        refine fx_val (v := .bool (homeK m.kind)) fr rfl rfl (by first | decide | simp) (x_load1 pl4 rfl (fr.ev rfl) (B16.cell 0 rfl)) ?_
        clear fr a; intro a fr
        refine fx_val (v := .bool (homeK m.kind)) fr rfl rfl (by first | decide | simp) (x_assign rfl (fr.ev rfl)) ?_
        clear fr a; intro a fr
        refine wpList_nil ?_
        refine fx_next ?_
        refine fx_cond fr rfl (fun hc21 => ?_) (fun hc21 => ?_)
        · skip
          refine wp_exit ?_
          refine fx_xt ?_
          refine fx_xb (by decide) ?_
          refine fx_xt ?_
          refine fx_xx ?_
          refine fx_next ?_
          refine wp_seq ?_
          refine wp_seq ?_
          refine wp_region_lit ?_  -- region 6
          refine fx_val (v := .pointer (some ⟨b1, 2, none⟩)) fr rfl rfl (by first | decide | simp) (x_fieldAddr fo36_2 rfl (fr.ev rfl) rfl) ?_
          clear fr a; intro a fr
          refine fx_val (v := .int .i64 m.dst) fr rfl rfl (by first | decide | simp) (x_load1 pl3 rfl (fr.ev rfl) (B4.cell 2 rfl)) ?_
          clear fr a; intro a fr
          refine fx_val (v := .bool (decide (m.dst ≠ 4))) fr rfl rfl (by first | decide | simp) (x_neq rfl (fr.ev rfl) rfl rfl) ?_
          clear fr a; intro a fr
          refine wpList_nil ?_
          refine fx_next ?_
          refine fx_cond fr rfl (fun hc22 => ?_) (fun hc22 => ?_)
          · skip
            have hc22 := of_decide_eq_true hc22
            refine wp_seq ?_
            refine wp_region_lit ?_  -- region 7
            refine fx_val (v := .int .i64 2) fr rfl rfl (by first | decide | simp) (x_assign rfl rfl) ?_
            clear fr a; intro a fr
            refine wpList_nil ?_
            refine fx_next ?_
            refine wp_ret ?_
            refine fx_rt ?_
            refine fx_rb ?_
            refine fx_rt ?_
            refine fx_rb ?_
            refine fx_rt ?_
            refine fx_ret fr [.tmp 2] [.int .i64 2] rfl ⟨rfl, trivial⟩ rfl ?_
            exact ⟨_, rfl, congrArg (Value.int .i64) (by have hx := home_not m.kind; have hk := isK_iff m.kind; clear fr; by_cases e1 : m.dst = 4 <;> by_cases e2 : m.src = 4 <;> simp_all [chk, goodMsg, isCache, bs0] <;> first | omega | (intro p q; rcases ‹(_ ∨ _) ∨ _› with (h | h) | h <;> first | omega | exact h | exact ⟨h.1, decide_eq_false h.2⟩)), hF⟩
          · skip
            have hc22 := of_decide_eq_false hc22
            refine wp_skip ?_
            refine fx_next ?_
            refine wp_region_lit ?_  -- region 8
            refine fx_val (v := .pointer (some ⟨b1, 1, none⟩)) fr rfl rfl (by first | decide | simp) (x_fieldAddr fo36_1 rfl (fr.ev rfl) rfl) ?_
            clear fr a; intro a fr
            refine fx_val (v := .int .i64 m.src) fr rfl rfl (by first | decide | simp) (x_load1 pl3 rfl (fr.ev rfl) (B4.cell 1 rfl)) ?_
            clear fr a; intro a fr
            refine fx_val (v := .int .i64 m.src) fr rfl rfl (by first | decide | simp) (x_assign rfl (fr.ev rfl)) ?_
            clear fr a; intro a fr
            refine wpList_nil ?_
            refine fx_blk ?_
            refine fx_next ?_
            refine wp_seq ?_
            refine wp_seq ?_
            refine wp_region_lit ?_  -- region 9
            refine fx_val (v := .pointer (some ⟨b13, 0, none⟩)) fr rfl rfl (by first | decide | simp) (x_fieldAddr fo101_0 rfl (fr.ev rfl) rfl) ?_
            clear fr a; intro a fr
            refine fx_val (v := .bool (homeK m.kind)) fr rfl rfl (by first | decide | simp) (x_load1 pl4 rfl (fr.ev rfl) (B16.cell 0 rfl)) ?_
            clear fr a; intro a fr
            refine fx_val (v := .bool (!(homeK m.kind))) fr rfl rfl (by first | decide | simp) (x_not rfl (fr.ev rfl) rfl) ?_
            clear fr a; intro a fr
            refine fx_val (v := .bool (!(homeK m.kind))) fr rfl rfl (by first | decide | simp) (x_move rfl (fr.ev rfl)) ?_
            clear fr a; intro a fr
            refine fx_may (g := (!(homeK m.kind))) (v := .pointer (some ⟨b1, 1, none⟩)) fr rfl rfl rfl (by simp) rfl (by first | decide | simp) (fun hg => x_fieldAddr fo36_1 rfl (fr.ev rfl) rfl) ?_
            clear fr a; intro a fr
            refine fx_may (g := (!(homeK m.kind))) (v := .int .i64 m.src) fr rfl rfl rfl (by simp) rfl (by first | decide | simp) (fun hg => x_load1 pl3 rfl ((fr.ev rfl).trans (onlyIf_t hg)) (B4.cell 1 rfl)) ?_
            clear fr a; intro a fr
            refine fx_may (g := (!(homeK m.kind))) (v := .bool (decide (m.src ≠ 4))) fr rfl rfl rfl (by simp) rfl (by first | decide | simp) (fun hg => x_neq rfl ((fr.ev rfl).trans (onlyIf_t hg)) rfl rfl) ?_
            clear fr a; intro a fr
            refine fx_val (v := .bool ((!(homeK m.kind)) && (decide (m.src ≠ 4)))) fr rfl rfl (by first | decide | simp) (x_pick_and rfl (fr.ev rfl) (fun hb => ((fr.ev rfl)).trans (onlyIf_t (by simp_all))) (fun _ => rfl) rfl) ?_
            clear fr a; intro a fr
            refine fx_val (v := .bool ((!(homeK m.kind)) && (decide (m.src ≠ 4)))) fr rfl rfl (by first | decide | simp) (x_move rfl (fr.ev rfl)) ?_
            clear fr a; intro a fr
            refine fx_may (g := !((!(homeK m.kind)) && (decide (m.src ≠ 4)))) (v := .int .i64 m.src) fr rfl rfl rfl (by simp) rfl (by first | decide | simp) (fun hg => x_move rfl (fr.ev rfl)) ?_
            clear fr a; intro a fr
            refine fx_may (g := !((!(homeK m.kind)) && (decide (m.src ≠ 4)))) (v := .bool (decide (m.src < 0))) fr rfl rfl rfl (by simp) rfl (by first | decide | simp) (fun hg => x_lss rfl ((fr.ev rfl).trans (onlyIf_t hg)) rfl rfl) ?_
            clear fr a; intro a fr
            refine fx_val (v := .bool (((!(homeK m.kind)) && (decide (m.src ≠ 4))) || (decide (m.src < 0)))) fr rfl rfl (by first | decide | simp) (x_pick_or rfl (fr.ev rfl) (fun _ => rfl) (fun hb => ((fr.ev rfl)).trans (onlyIf_t (by simp_all))) rfl) ?_
            clear fr a; intro a fr
            refine fx_val (v := .bool (((!(homeK m.kind)) && (decide (m.src ≠ 4))) || (decide (m.src < 0)))) fr rfl rfl (by first | decide | simp) (x_move rfl (fr.ev rfl)) ?_
            clear fr a; intro a fr
            refine fx_may (g := !(((!(homeK m.kind)) && (decide (m.src ≠ 4))) || (decide (m.src < 0)))) (v := .int .i64 m.src) fr rfl rfl rfl (by simp) rfl (by first | decide | simp) (fun hg => x_move rfl (fr.ev rfl)) ?_
            clear fr a; intro a fr
            refine fx_may (g := !(((!(homeK m.kind)) && (decide (m.src ≠ 4))) || (decide (m.src < 0)))) (v := .bool (decide (4 ≤ m.src))) fr rfl rfl rfl (by simp) rfl (by first | decide | simp) (fun hg => x_geq rfl ((fr.ev rfl).trans (onlyIf_t hg)) rfl rfl) ?_
            clear fr a; intro a fr
            refine fx_val (v := .bool ((((!(homeK m.kind)) && (decide (m.src ≠ 4))) || (decide (m.src < 0))) || (decide (4 ≤ m.src)))) fr rfl rfl (by first | decide | simp) (x_pick_or rfl (fr.ev rfl) (fun _ => rfl) (fun hb => ((fr.ev rfl)).trans (onlyIf_t (by simp_all))) rfl) ?_
            clear fr a; intro a fr
            refine fx_val (v := .bool ((((!(homeK m.kind)) && (decide (m.src ≠ 4))) || (decide (m.src < 0))) || (decide (4 ≤ m.src)))) fr rfl rfl (by first | decide | simp) (x_move rfl (fr.ev rfl)) ?_
            clear fr a; intro a fr
            refine fx_may (g := !((((!(homeK m.kind)) && (decide (m.src ≠ 4))) || (decide (m.src < 0))) || (decide (4 ≤ m.src)))) (v := .pointer (some ⟨b13, 1, none⟩)) fr rfl rfl rfl (by simp) rfl (by first | decide | simp) (fun hg => x_fieldAddr fo101_1 rfl (fr.ev rfl) rfl) ?_
            clear fr a; intro a fr
            refine fx_may (g := !((((!(homeK m.kind)) && (decide (m.src ≠ 4))) || (decide (m.src < 0))) || (decide (4 ≤ m.src)))) (v := .bool (bytesK m.kind)) fr rfl rfl rfl (by simp) rfl (by first | decide | simp) (fun hg => x_load1 pl4 rfl ((fr.ev rfl).trans (onlyIf_t hg)) (B16.cell 1 rfl)) ?_
            clear fr a; intro a fr
            refine fx_may (g := !((((!(homeK m.kind)) && (decide (m.src ≠ 4))) || (decide (m.src < 0))) || (decide (4 ≤ m.src)))) (v := .bool (!(bytesK m.kind))) fr rfl rfl rfl (by simp) rfl (by first | decide | simp) (fun hg => x_not rfl ((fr.ev rfl).trans (onlyIf_t hg)) rfl) ?_
            clear fr a; intro a fr
            refine fx_may (g := !((((!(homeK m.kind)) && (decide (m.src ≠ 4))) || (decide (m.src < 0))) || (decide (4 ≤ m.src)))) (v := .bool (!(bytesK m.kind))) fr rfl rfl rfl (by simp) rfl (by first | decide | simp) (fun hg => x_move rfl ((fr.ev rfl).trans (onlyIf_t hg))) ?_
            clear fr a; intro a fr
            refine fx_may2 (g := (!((((!(homeK m.kind)) && (decide (m.src ≠ 4))) || (decide (m.src < 0))) || (decide (4 ≤ m.src)))) && (!(bytesK m.kind))) (v := .pointer (some ⟨b1, 4, none⟩)) fr rfl rfl rfl (by simp) rfl (by first | decide | simp) (fun hg => x_fieldAddr fo36_4 rfl (fr.ev rfl) rfl) ?_
            clear fr a; intro a fr
            refine fx_may2 (g := (!((((!(homeK m.kind)) && (decide (m.src ≠ 4))) || (decide (m.src < 0))) || (decide (4 ≤ m.src)))) && (!(bytesK m.kind))) (v := .agg (bsE.arr m.bs)) fr rfl rfl rfl (by simp) rfl (by first | decide | simp) (fun hg => x_loadE (E := bsE) ag34 rfl rfl ((fr.ev rfl).trans (onlyIf_t hg)) (B4.part (msg_bs _))) ?_
            clear fr a; intro a fr
            refine fx_may2 (g := (!((((!(homeK m.kind)) && (decide (m.src ≠ 4))) || (decide (m.src < 0))) || (decide (4 ≤ m.src)))) && (!(bytesK m.kind))) (v := .agg (bsE.arr b16z)) fr rfl rfl rfl (by simp) rfl (by first | decide | simp) (fun hg => x_build (cells := bsE.arr b16z) rfl (by kernel_rfl)) ?_
            clear fr a; intro a fr
            refine fx_may2 (g := (!((((!(homeK m.kind)) && (decide (m.src ≠ 4))) || (decide (m.src < 0))) || (decide (4 ≤ m.src)))) && (!(bytesK m.kind))) (v := .bool (!decide (m.bs = b16z))) fr rfl rfl rfl (by simp) rfl (by first | decide | simp) (fun hg => x_neE bsER rfl rfl ((fr.ev rfl).trans (onlyIf_t hg)) ((fr.ev rfl).trans (onlyIf_t hg)) rfl) ?_
            clear fr a; intro a fr
            refine fx_may (g := !((((!(homeK m.kind)) && (decide (m.src ≠ 4))) || (decide (m.src < 0))) || (decide (4 ≤ m.src)))) (v := .bool ((!(bytesK m.kind)) && (!decide (m.bs = b16z)))) fr rfl rfl rfl (by simp) rfl (by first | decide | simp) (fun hg => x_pick_and rfl ((fr.ev rfl).trans (onlyIf_t hg)) (fun hb => ((fr.ev rfl)).trans (onlyIf_t (by simp_all))) (fun _ => rfl) rfl) ?_
            clear fr a; intro a fr
            refine fx_val (v := .bool (((((!(homeK m.kind)) && (decide (m.src ≠ 4))) || (decide (m.src < 0))) || (decide (4 ≤ m.src))) || ((!(bytesK m.kind)) && (!decide (m.bs = b16z))))) fr rfl rfl (by first | decide | simp) (x_pick_or rfl (fr.ev rfl) (fun _ => rfl) (fun hb => ((fr.ev rfl)).trans (onlyIf_t (by simp_all))) rfl) ?_
            clear fr a; intro a fr
            refine wpList_nil ?_
            refine fx_next ?_
            refine fx_cond fr rfl (fun hc23 => ?_) (fun hc23 => ?_)
            · skip
              have hc23s := hc23
              try simp at hc23s
              refine wp_seq ?_
              refine wp_region_lit ?_  -- region 10
              refine fx_val (v := .int .i64 2) fr rfl rfl (by first | decide | simp) (x_assign rfl rfl) ?_
              clear fr a; intro a fr
              refine wpList_nil ?_
              refine fx_next ?_
              refine wp_ret ?_
              refine fx_rt ?_
              refine fx_rb ?_
              refine fx_rt ?_
              refine fx_ret fr [.tmp 2] [.int .i64 2] rfl ⟨rfl, trivial⟩ rfl ?_
              exact ⟨_, rfl, congrArg (Value.int .i64) (by have hx := home_not m.kind; have hk := isK_iff m.kind; clear fr; by_cases e1 : m.dst = 4 <;> by_cases e2 : m.src = 4 <;> simp_all [chk, goodMsg, isCache, bs0] <;> first | omega | (intro p q; rcases ‹(_ ∨ _) ∨ _› with (h | h) | h <;> first | omega | exact h | exact ⟨h.1, decide_eq_false h.2⟩)), hF⟩
            · skip
              have hc23s := hc23
              try simp at hc23s
              refine wp_skip ?_
              refine fx_next ?_
              refine wp_exit ?_
              refine fx_xx ?_
              refine fx_next ?_
              refine wp_seq ?_
              refine wp_region_lit ?_  -- region 11
              refine fx_val (v := .int .i64 0) fr rfl rfl (by first | decide | simp) (x_assign rfl rfl) ?_
              clear fr a; intro a fr
              refine wpList_nil ?_
              refine fx_next ?_
              refine wp_ret ?_
              refine fx_ret fr [.tmp 2] [.int .i64 0] rfl ⟨rfl, trivial⟩ rfl ?_
              exact ⟨_, rfl, congrArg (Value.int .i64) (by have hx := home_not m.kind; have hk := isK_iff m.kind; clear fr; by_cases e1 : m.dst = 4 <;> by_cases e2 : m.src = 4 <;> simp_all [chk, goodMsg, isCache, bs0] <;> first | omega | (intro p q; rcases ‹(_ ∨ _) ∨ _› with (h | h) | h <;> first | omega | exact h | exact ⟨h.1, decide_eq_false h.2⟩)), hF⟩
        · skip
          refine wp_skip ?_
          refine fx_next ?_
          refine wp_exit ?_
          refine fx_xb (by decide) ?_
          refine fx_xt ?_
          refine fx_xb (by decide) ?_
          refine fx_xt ?_
          refine fx_xx ?_
          refine fx_next ?_
          refine wp_seq ?_
          refine wp_seq ?_
          refine wp_region_lit ?_  -- region 9
          refine fx_val (v := .pointer (some ⟨b13, 0, none⟩)) fr rfl rfl (by first | decide | simp) (x_fieldAddr fo101_0 rfl (fr.ev rfl) rfl) ?_
          clear fr a; intro a fr
          refine fx_val (v := .bool (homeK m.kind)) fr rfl rfl (by first | decide | simp) (x_load1 pl4 rfl (fr.ev rfl) (B16.cell 0 rfl)) ?_
          clear fr a; intro a fr
          refine fx_val (v := .bool (!(homeK m.kind))) fr rfl rfl (by first | decide | simp) (x_not rfl (fr.ev rfl) rfl) ?_
          clear fr a; intro a fr
          refine fx_val (v := .bool (!(homeK m.kind))) fr rfl rfl (by first | decide | simp) (x_move rfl (fr.ev rfl)) ?_
          clear fr a; intro a fr
          refine fx_may (g := (!(homeK m.kind))) (v := .pointer (some ⟨b1, 1, none⟩)) fr rfl rfl rfl (by simp) rfl (by first | decide | simp) (fun hg => x_fieldAddr fo36_1 rfl (fr.ev rfl) rfl) ?_
          clear fr a; intro a fr
          refine fx_may (g := (!(homeK m.kind))) (v := .int .i64 m.src) fr rfl rfl rfl (by simp) rfl (by first | decide | simp) (fun hg => x_load1 pl3 rfl ((fr.ev rfl).trans (onlyIf_t hg)) (B4.cell 1 rfl)) ?_
          clear fr a; intro a fr
          refine fx_may (g := (!(homeK m.kind))) (v := .bool (decide (m.src ≠ 4))) fr rfl rfl rfl (by simp) rfl (by first | decide | simp) (fun hg => x_neq rfl ((fr.ev rfl).trans (onlyIf_t hg)) rfl rfl) ?_
          clear fr a; intro a fr
          refine fx_val (v := .bool ((!(homeK m.kind)) && (decide (m.src ≠ 4)))) fr rfl rfl (by first | decide | simp) (x_pick_and rfl (fr.ev rfl) (fun hb => ((fr.ev rfl)).trans (onlyIf_t (by simp_all))) (fun _ => rfl) rfl) ?_
          clear fr a; intro a fr
          refine fx_val (v := .bool ((!(homeK m.kind)) && (decide (m.src ≠ 4)))) fr rfl rfl (by first | decide | simp) (x_move rfl (fr.ev rfl)) ?_
          clear fr a; intro a fr
          refine fx_may (g := !((!(homeK m.kind)) && (decide (m.src ≠ 4)))) (v := .int .i64 m.dst) fr rfl rfl rfl (by simp) rfl (by first | decide | simp) (fun hg => x_move rfl (fr.ev rfl)) ?_
          clear fr a; intro a fr
          refine fx_may (g := !((!(homeK m.kind)) && (decide (m.src ≠ 4)))) (v := .bool (decide (m.dst < 0))) fr rfl rfl rfl (by simp) rfl (by first | decide | simp) (fun hg => x_lss rfl ((fr.ev rfl).trans (onlyIf_t hg)) rfl rfl) ?_
          clear fr a; intro a fr
          refine fx_val (v := .bool (((!(homeK m.kind)) && (decide (m.src ≠ 4))) || (decide (m.dst < 0)))) fr rfl rfl (by first | decide | simp) (x_pick_or rfl (fr.ev rfl) (fun _ => rfl) (fun hb => ((fr.ev rfl)).trans (onlyIf_t (by simp_all))) rfl) ?_
          clear fr a; intro a fr
          refine fx_val (v := .bool (((!(homeK m.kind)) && (decide (m.src ≠ 4))) || (decide (m.dst < 0)))) fr rfl rfl (by first | decide | simp) (x_move rfl (fr.ev rfl)) ?_
          clear fr a; intro a fr
          refine fx_may (g := !(((!(homeK m.kind)) && (decide (m.src ≠ 4))) || (decide (m.dst < 0)))) (v := .int .i64 m.dst) fr rfl rfl rfl (by simp) rfl (by first | decide | simp) (fun hg => x_move rfl (fr.ev rfl)) ?_
          clear fr a; intro a fr
          refine fx_may (g := !(((!(homeK m.kind)) && (decide (m.src ≠ 4))) || (decide (m.dst < 0)))) (v := .bool (decide (4 ≤ m.dst))) fr rfl rfl rfl (by simp) rfl (by first | decide | simp) (fun hg => x_geq rfl ((fr.ev rfl).trans (onlyIf_t hg)) rfl rfl) ?_
          clear fr a; intro a fr
          refine fx_val (v := .bool ((((!(homeK m.kind)) && (decide (m.src ≠ 4))) || (decide (m.dst < 0))) || (decide (4 ≤ m.dst)))) fr rfl rfl (by first | decide | simp) (x_pick_or rfl (fr.ev rfl) (fun _ => rfl) (fun hb => ((fr.ev rfl)).trans (onlyIf_t (by simp_all))) rfl) ?_
          clear fr a; intro a fr
          refine fx_val (v := .bool ((((!(homeK m.kind)) && (decide (m.src ≠ 4))) || (decide (m.dst < 0))) || (decide (4 ≤ m.dst)))) fr rfl rfl (by first | decide | simp) (x_move rfl (fr.ev rfl)) ?_
          clear fr a; intro a fr
          refine fx_may (g := !((((!(homeK m.kind)) && (decide (m.src ≠ 4))) || (decide (m.dst < 0))) || (decide (4 ≤ m.dst)))) (v := .pointer (some ⟨b13, 1, none⟩)) fr rfl rfl rfl (by simp) rfl (by first | decide | simp) (fun hg => x_fieldAddr fo101_1 rfl (fr.ev rfl) rfl) ?_
          clear fr a; intro a fr
          refine fx_may (g := !((((!(homeK m.kind)) && (decide (m.src ≠ 4))) || (decide (m.dst < 0))) || (decide (4 ≤ m.dst)))) (v := .bool (bytesK m.kind)) fr rfl rfl rfl (by simp) rfl (by first | decide | simp) (fun hg => x_load1 pl4 rfl ((fr.ev rfl).trans (onlyIf_t hg)) (B16.cell 1 rfl)) ?_
          clear fr a; intro a fr
          refine fx_may (g := !((((!(homeK m.kind)) && (decide (m.src ≠ 4))) || (decide (m.dst < 0))) || (decide (4 ≤ m.dst)))) (v := .bool (!(bytesK m.kind))) fr rfl rfl rfl (by simp) rfl (by first | decide | simp) (fun hg => x_not rfl ((fr.ev rfl).trans (onlyIf_t hg)) rfl) ?_
          clear fr a; intro a fr
          refine fx_may (g := !((((!(homeK m.kind)) && (decide (m.src ≠ 4))) || (decide (m.dst < 0))) || (decide (4 ≤ m.dst)))) (v := .bool (!(bytesK m.kind))) fr rfl rfl rfl (by simp) rfl (by first | decide | simp) (fun hg => x_move rfl ((fr.ev rfl).trans (onlyIf_t hg))) ?_
          clear fr a; intro a fr
          refine fx_may2 (g := (!((((!(homeK m.kind)) && (decide (m.src ≠ 4))) || (decide (m.dst < 0))) || (decide (4 ≤ m.dst)))) && (!(bytesK m.kind))) (v := .pointer (some ⟨b1, 4, none⟩)) fr rfl rfl rfl (by simp) rfl (by first | decide | simp) (fun hg => x_fieldAddr fo36_4 rfl (fr.ev rfl) rfl) ?_
          clear fr a; intro a fr
          refine fx_may2 (g := (!((((!(homeK m.kind)) && (decide (m.src ≠ 4))) || (decide (m.dst < 0))) || (decide (4 ≤ m.dst)))) && (!(bytesK m.kind))) (v := .agg (bsE.arr m.bs)) fr rfl rfl rfl (by simp) rfl (by first | decide | simp) (fun hg => x_loadE (E := bsE) ag34 rfl rfl ((fr.ev rfl).trans (onlyIf_t hg)) (B4.part (msg_bs _))) ?_
          clear fr a; intro a fr
          refine fx_may2 (g := (!((((!(homeK m.kind)) && (decide (m.src ≠ 4))) || (decide (m.dst < 0))) || (decide (4 ≤ m.dst)))) && (!(bytesK m.kind))) (v := .agg (bsE.arr b16z)) fr rfl rfl rfl (by simp) rfl (by first | decide | simp) (fun hg => x_build (cells := bsE.arr b16z) rfl (by kernel_rfl)) ?_
          clear fr a; intro a fr
          refine fx_may2 (g := (!((((!(homeK m.kind)) && (decide (m.src ≠ 4))) || (decide (m.dst < 0))) || (decide (4 ≤ m.dst)))) && (!(bytesK m.kind))) (v := .bool (!decide (m.bs = b16z))) fr rfl rfl rfl (by simp) rfl (by first | decide | simp) (fun hg => x_neE bsER rfl rfl ((fr.ev rfl).trans (onlyIf_t hg)) ((fr.ev rfl).trans (onlyIf_t hg)) rfl) ?_
          clear fr a; intro a fr
          refine fx_may (g := !((((!(homeK m.kind)) && (decide (m.src ≠ 4))) || (decide (m.dst < 0))) || (decide (4 ≤ m.dst)))) (v := .bool ((!(bytesK m.kind)) && (!decide (m.bs = b16z)))) fr rfl rfl rfl (by simp) rfl (by first | decide | simp) (fun hg => x_pick_and rfl ((fr.ev rfl).trans (onlyIf_t hg)) (fun hb => ((fr.ev rfl)).trans (onlyIf_t (by simp_all))) (fun _ => rfl) rfl) ?_
          clear fr a; intro a fr
          refine fx_val (v := .bool (((((!(homeK m.kind)) && (decide (m.src ≠ 4))) || (decide (m.dst < 0))) || (decide (4 ≤ m.dst))) || ((!(bytesK m.kind)) && (!decide (m.bs = b16z))))) fr rfl rfl (by first | decide | simp) (x_pick_or rfl (fr.ev rfl) (fun _ => rfl) (fun hb => ((fr.ev rfl)).trans (onlyIf_t (by simp_all))) rfl) ?_
          clear fr a; intro a fr
          refine wpList_nil ?_
          refine fx_next ?_
          refine fx_cond fr rfl (fun hc24 => ?_) (fun hc24 => ?_)
          · skip
            have hc24s := hc24
            try simp at hc24s
            refine wp_seq ?_
            refine wp_region_lit ?_  -- region 10
            refine fx_val (v := .int .i64 2) fr rfl rfl (by first | decide | simp) (x_assign rfl rfl) ?_
            clear fr a; intro a fr
            refine wpList_nil ?_
            refine fx_next ?_
            refine wp_ret ?_
            refine fx_rt ?_
            refine fx_rb ?_
            refine fx_rt ?_
            refine fx_ret fr [.tmp 2] [.int .i64 2] rfl ⟨rfl, trivial⟩ rfl ?_
            exact ⟨_, rfl, congrArg (Value.int .i64) (by have hx := home_not m.kind; have hk := isK_iff m.kind; clear fr; by_cases e1 : m.dst = 4 <;> by_cases e2 : m.src = 4 <;> simp_all [chk, goodMsg, isCache, bs0] <;> first | omega | (intro p q; rcases ‹(_ ∨ _) ∨ _› with (h | h) | h <;> first | omega | exact h | exact ⟨h.1, decide_eq_false h.2⟩)), hF⟩
          · skip
            have hc24s := hc24
            try simp at hc24s
            refine wp_skip ?_
            refine fx_next ?_
            refine wp_exit ?_
            refine fx_xx ?_
            refine fx_next ?_
            refine wp_seq ?_
            refine wp_region_lit ?_  -- region 11
            refine fx_val (v := .int .i64 0) fr rfl rfl (by first | decide | simp) (x_assign rfl rfl) ?_
            clear fr a; intro a fr
            refine wpList_nil ?_
            refine fx_next ?_
            refine wp_ret ?_
            refine fx_ret fr [.tmp 2] [.int .i64 0] rfl ⟨rfl, trivial⟩ rfl ?_
            exact ⟨_, rfl, congrArg (Value.int .i64) (by have hx := home_not m.kind; have hk := isK_iff m.kind; clear fr; by_cases e1 : m.dst = 4 <;> by_cases e2 : m.src = 4 <;> simp_all [chk, goodMsg, isCache, bs0] <;> first | omega | (intro p q; rcases ‹(_ ∨ _) ∨ _› with (h | h) | h <;> first | omega | exact h | exact ⟨h.1, decide_eq_false h.2⟩)), hF⟩
    · skip
      refine fx_new fr rfl rfl (by first | decide | simp) (x_alloc (z := .agg (#[.bool false, .bool false])) (cs := #[.bool false, .bool false]) rfl (by kernel_rfl) rfl) ?_
      clear fr a
      intro b25 w26 hN27 B28 hb29 a fr
      have ne_b1_b25 : NE b1 b25 := NE.mk (Nat.lt_of_lt_of_le B4.lt hb29)
      have ne_r8_b25 : NE r8 b25 := NE.mk (Nat.lt_of_lt_of_le M9.lt hb29)
      have g_b25 := Nat.le_trans hF.size hb29
      replace B4 := B4.new hN27
      replace M9 := M9.new hN27
      replace hF := hF.trNew hN27
      refine wpList_nil ?_
      refine ⟨⟨B4, trivial⟩, ?_⟩
      refine fx_one (i := 3) (by kernel_rfl) (fx_op rfl ?_)
      refine fx_val (v := .tuple #[.agg (#[.bool (homeK m.kind), .bool (bytesK m.kind)]), .bool (isK m.kind)]) fr rfl rfl (by first | decide | simp) (x_lookup (k := .i64) (ok := true) (v := .agg (#[.bool (homeK m.kind), .bool (bytesK m.kind)])) (b := (isK m.kind)) Try.underlying103 Try.underlying33 rfl (fr.ev rfl) (fr.ev rfl) M9 (z := .agg (#[.bool false, .bool false])) (by kernel_rfl) (wants_find _)) ?_
      clear fr a; intro a fr
      refine wpList_nil ?_
      refine ⟨⟨B4, trivial⟩, ?_⟩
      refine fx_take (i := 4) (v := .tuple #[.agg (#[.bool (homeK m.kind), .bool (bytesK m.kind)]), .bool (isK m.kind)]) fr rfl (by kernel_rfl) rfl rfl (by first | decide | simp) (fun _ _ _ h => h) (fun _ ⟨B4, _⟩ => x_move rfl (fr.ev rfl)) ⟨B4, trivial⟩ ?_
      clear fr a; intro a fr
      refine fx_take (i := 5) (v := .agg (#[.bool (homeK m.kind), .bool (bytesK m.kind)])) fr rfl (by kernel_rfl) rfl rfl (by first | decide | simp) (fun _ _ _ h => h) (fun _ ⟨B4, _⟩ => x_extract rfl (fr.ev rfl) rfl) ⟨B4, trivial⟩ ?_
      clear fr a; intro a fr
      refine fx_take (i := 6) (v := .bool (isK m.kind)) fr rfl (by kernel_rfl) rfl rfl (by first | decide | simp) (fun _ _ _ h => h) (fun _ ⟨B4, _⟩ => x_extract rfl (fr.ev rfl) rfl) ⟨B4, trivial⟩ ?_
      clear fr a; intro a fr
      refine fx_one (i := 8) (by kernel_rfl) (fx_op rfl ?_)
      refine fx_storeS sz101 rfl rfl rfl (fr.ev rfl) (fr.ev rfl) (by simp [Value.oneCell']) B28 rfl rfl fun w30 hO31 hBq => ?_
      replace B4 := B4.only hO31 (by first | exact ne_b1_b25 | exact ne_b25_b1.symm | (show ¬ b1 = b25; omega))
      replace M9 := M9.only hO31 (by first | exact ne_r8_b25 | exact ne_b25_r8.symm | (show ¬ r8 = b25; omega))
      replace hF := hF.loc hO31 (.inr g_b25)
      replace B28 := hBq
      clear hBq
      refine wpList_nil ?_
      refine ⟨⟨B4, trivial⟩, ?_⟩
      refine fx_hdone (by kernel_rfl) ?_
      refine fx_tail ?_
      refine fx_val (v := .bool (isK m.kind)) fr rfl rfl (by first | decide | simp) (x_assign rfl (fr.ev rfl)) ?_
      clear fr a; intro a fr
      refine wpList_nil ?_
      refine fx_next ?_
      refine wp_seq ?_
      refine wp_region_lit ?_  -- region 2
      refine fx_val (v := .pointer (some ⟨b1, 2, none⟩)) fr rfl rfl (by first | decide | simp) (x_fieldAddr fo36_2 rfl (fr.ev rfl) rfl) ?_
      clear fr a; intro a fr
      refine fx_val (v := .int .i64 m.dst) fr rfl rfl (by first | decide | simp) (x_load1 pl3 rfl (fr.ev rfl) (B4.cell 2 rfl)) ?_
      clear fr a; intro a fr
      refine fx_val (v := .int .i64 m.dst) fr rfl rfl (by first | decide | simp) (x_assign rfl (fr.ev rfl)) ?_
      clear fr a; intro a fr
      refine wpList_nil ?_
      refine fx_next ?_
      refine wp_seq ?_
      refine wp_block ?_
      refine wp_seq ?_
      refine wp_block ?_
      refine wp_seq ?_
      refine wp_block ?_
      refine wp_seq ?_
      refine wp_block ?_
      refine wp_seq ?_
      refine wp_seq ?_
      refine wp_seq ?_
      refine wp_region_lit ?_  -- region 3
      refine fx_val (v := .bool (isK m.kind)) fr rfl rfl (by first | decide | simp) (x_move rfl (fr.ev rfl)) ?_
      clear fr a; intro a fr
      refine fx_val (v := .bool (!(isK m.kind))) fr rfl rfl (by first | decide | simp) (x_not rfl (fr.ev rfl) rfl) ?_
      clear fr a; intro a fr
      refine fx_val (v := .bool (!(isK m.kind))) fr rfl rfl (by first | decide | simp) (x_assign rfl (fr.ev rfl)) ?_
      clear fr a; intro a fr
      refine wpList_nil ?_
      refine fx_next ?_
      refine fx_cond fr rfl (fun hc32 => ?_) (fun hc32 => ?_)
      · skip
        refine wp_exit ?_
        refine fx_xt ?_
        refine fx_xt ?_
        refine fx_xx ?_
        refine fx_next ?_
        refine wp_seq ?_
        refine wp_seq ?_
        refine wp_region_lit ?_  -- region 5
        refine fx_val (v := .int .i64 2) fr rfl rfl (by first | decide | simp) (x_assign rfl rfl) ?_
        clear fr a; intro a fr
        refine wpList_nil ?_
        refine fx_next ?_
        refine wp_ret ?_
        refine fx_rt ?_
        refine fx_rb ?_
        refine fx_rt ?_
        refine fx_rb ?_
        refine fx_rt ?_
        refine fx_rb ?_
        refine fx_rt ?_
        refine fx_ret fr [.tmp 2] [.int .i64 2] rfl ⟨rfl, trivial⟩ rfl ?_
        exact ⟨_, rfl, congrArg (Value.int .i64) (by have hx := home_not m.kind; have hk := isK_iff m.kind; clear fr; by_cases e1 : m.dst = 4 <;> by_cases e2 : m.src = 4 <;> simp_all [chk, goodMsg, isCache, bs0] <;> first | omega | (intro p q; rcases ‹(_ ∨ _) ∨ _› with (h | h) | h <;> first | omega | exact h | exact ⟨h.1, decide_eq_false h.2⟩)), hF⟩
      · skip
        refine wp_skip ?_
        refine fx_next ?_
        refine wp_seq ?_
        refine wp_region_lit ?_  -- region 4
        refine fx_val (v := .pointer (some ⟨b25, 0, none⟩)) fr rfl rfl (by first | decide | simp) (x_fieldAddr fo101_0 rfl (fr.ev rfl) rfl) ?_
        clear fr a; intro a fr
        refine fx_val (v := .bool (homeK m.kind)) fr rfl rfl (by first | decide | simp) (x_load1 pl4 rfl (fr.ev rfl) (B28.cell 0 rfl)) ?_
        clear fr a; intro a fr
        refine fx_val (v := .bool (homeK m.kind)) fr rfl rfl (by first | decide | simp) (x_assign rfl (fr.ev rfl)) ?_
        clear fr a; intro a fr
        refine wpList_nil ?_
        refine fx_next ?_
        refine fx_cond fr rfl (fun hc33 => ?_) (fun hc33 => ?_)
        · skip
          refine wp_exit ?_
          refine fx_xt ?_
          refine fx_xb (by decide) ?_
          refine fx_xt ?_
          refine fx_xx ?_
          refine fx_next ?_
          refine wp_seq ?_
          refine wp_seq ?_
          refine wp_region_lit ?_  -- region 6
          refine fx_val (v := .pointer (some ⟨b1, 2, none⟩)) fr rfl rfl (by first | decide | simp) (x_fieldAddr fo36_2 rfl (fr.ev rfl) rfl) ?_
          clear fr a; intro a fr
          refine fx_val (v := .int .i64 m.dst) fr rfl rfl (by first | decide | simp) (x_load1 pl3 rfl (fr.ev rfl) (B4.cell 2 rfl)) ?_
          clear fr a; intro a fr
          refine fx_val (v := .bool (decide (m.dst ≠ 4))) fr rfl rfl (by first | decide | simp) (x_neq rfl (fr.ev rfl) rfl rfl) ?_
          clear fr a; intro a fr
          refine wpList_nil ?_
          refine fx_next ?_
          refine fx_cond fr rfl (fun hc34 => ?_) (fun hc34 => ?_)
          · skip
            have hc34 := of_decide_eq_true hc34
            refine wp_seq ?_
            refine wp_region_lit ?_  -- region 7
            refine fx_val (v := .int .i64 2) fr rfl rfl (by first | decide | simp) (x_assign rfl rfl) ?_
            clear fr a; intro a fr
            refine wpList_nil ?_
            refine fx_next ?_
            refine wp_ret ?_
            refine fx_rt ?_
            refine fx_rb ?_
            refine fx_rt ?_
            refine fx_rb ?_
            refine fx_rt ?_
            refine fx_ret fr [.tmp 2] [.int .i64 2] rfl ⟨rfl, trivial⟩ rfl ?_
            exact ⟨_, rfl, congrArg (Value.int .i64) (by have hx := home_not m.kind; have hk := isK_iff m.kind; clear fr; by_cases e1 : m.dst = 4 <;> by_cases e2 : m.src = 4 <;> simp_all [chk, goodMsg, isCache, bs0] <;> first | omega | (intro p q; rcases ‹(_ ∨ _) ∨ _› with (h | h) | h <;> first | omega | exact h | exact ⟨h.1, decide_eq_false h.2⟩)), hF⟩
          · skip
            have hc34 := of_decide_eq_false hc34
            refine wp_skip ?_
            refine fx_next ?_
            refine wp_region_lit ?_  -- region 8
            refine fx_val (v := .pointer (some ⟨b1, 1, none⟩)) fr rfl rfl (by first | decide | simp) (x_fieldAddr fo36_1 rfl (fr.ev rfl) rfl) ?_
            clear fr a; intro a fr
            refine fx_val (v := .int .i64 m.src) fr rfl rfl (by first | decide | simp) (x_load1 pl3 rfl (fr.ev rfl) (B4.cell 1 rfl)) ?_
            clear fr a; intro a fr
            refine fx_val (v := .int .i64 m.src) fr rfl rfl (by first | decide | simp) (x_assign rfl (fr.ev rfl)) ?_
            clear fr a; intro a fr
            refine wpList_nil ?_
            refine fx_blk ?_
            refine fx_next ?_
            refine wp_seq ?_
            refine wp_seq ?_
            refine wp_region_lit ?_  -- region 9
            refine fx_val (v := .pointer (some ⟨b25, 0, none⟩)) fr rfl rfl (by first | decide | simp) (x_fieldAddr fo101_0 rfl (fr.ev rfl) rfl) ?_
            clear fr a; intro a fr
            refine fx_val (v := .bool (homeK m.kind)) fr rfl rfl (by first | decide | simp) (x_load1 pl4 rfl (fr.ev rfl) (B28.cell 0 rfl)) ?_
            clear fr a; intro a fr
            refine fx_val (v := .bool (!(homeK m.kind))) fr rfl rfl (by first | decide | simp) (x_not rfl (fr.ev rfl) rfl) ?_
            clear fr a; intro a fr
            refine fx_val (v := .bool (!(homeK m.kind))) fr rfl rfl (by first | decide | simp) (x_move rfl (fr.ev rfl)) ?_
            clear fr a; intro a fr
            refine fx_may (g := (!(homeK m.kind))) (v := .pointer (some ⟨b1, 1, none⟩)) fr rfl rfl rfl (by simp) rfl (by first | decide | simp) (fun hg => x_fieldAddr fo36_1 rfl (fr.ev rfl) rfl) ?_
            clear fr a; intro a fr
            refine fx_may (g := (!(homeK m.kind))) (v := .int .i64 m.src) fr rfl rfl rfl (by simp) rfl (by first | decide | simp) (fun hg => x_load1 pl3 rfl ((fr.ev rfl).trans (onlyIf_t hg)) (B4.cell 1 rfl)) ?_
            clear fr a; intro a fr
            refine fx_may (g := (!(homeK m.kind))) (v := .bool (decide (m.src ≠ 4))) fr rfl rfl rfl (by simp) rfl (by first | decide | simp) (fun hg => x_neq rfl ((fr.ev rfl).trans (onlyIf_t hg)) rfl rfl) ?_
            clear fr a; intro a fr
            refine fx_val (v := .bool ((!(homeK m.kind)) && (decide (m.src ≠ 4)))) fr rfl rfl (by first | decide | simp) (x_pick_and rfl (fr.ev rfl) (fun hb => ((fr.ev rfl)).trans (onlyIf_t (by simp_all))) (fun _ => rfl) rfl) ?_
            clear fr a; intro a fr
            refine fx_val (v := .bool ((!(homeK m.kind)) && (decide (m.src ≠ 4)))) fr rfl rfl (by first | decide | simp) (x_move rfl (fr.ev rfl)) ?_
            clear fr a; intro a fr
            refine fx_may (g := !((!(homeK m.kind)) && (decide (m.src ≠ 4)))) (v := .int .i64 m.src) fr rfl rfl rfl (by simp) rfl (by first | decide | simp) (fun hg => x_move rfl (fr.ev rfl)) ?_
            clear fr a; intro a fr
            refine fx_may (g := !((!(homeK m.kind)) && (decide (m.src ≠ 4)))) (v := .bool (decide (m.src < 0))) fr rfl rfl rfl (by simp) rfl (by first | decide | simp) (fun hg => x_lss rfl ((fr.ev rfl).trans (onlyIf_t hg)) rfl rfl) ?_
            clear fr a; intro a fr
            refine fx_val (v := .bool (((!(homeK m.kind)) && (decide (m.src ≠ 4))) || (decide (m.src < 0)))) fr rfl rfl (by first | decide | simp) (x_pick_or rfl (fr.ev rfl) (fun _ => rfl) (fun hb => ((fr.ev rfl)).trans (onlyIf_t (by simp_all))) rfl) ?_
            clear fr a; intro a fr
            refine fx_val (v := .bool (((!(homeK m.kind)) && (decide (m.src ≠ 4))) || (decide (m.src < 0)))) fr rfl rfl (by first | decide | simp) (x_move rfl (fr.ev rfl)) ?_
            clear fr a; intro a fr
            refine fx_may (g := !(((!(homeK m.kind)) && (decide (m.src ≠ 4))) || (decide (m.src < 0)))) (v := .int .i64 m.src) fr rfl rfl rfl (by simp) rfl (by first | decide | simp) (fun hg => x_move rfl (fr.ev rfl)) ?_
            clear fr a; intro a fr
            refine fx_may (g := !(((!(homeK m.kind)) && (decide (m.src ≠ 4))) || (decide (m.src < 0)))) (v := .bool (decide (4 ≤ m.src))) fr rfl rfl rfl (by simp) rfl (by first | decide | simp) (fun hg => x_geq rfl ((fr.ev rfl).trans (onlyIf_t hg)) rfl rfl) ?_
            clear fr a; intro a fr
            refine fx_val (v := .bool ((((!(homeK m.kind)) && (decide (m.src ≠ 4))) || (decide (m.src < 0))) || (decide (4 ≤ m.src)))) fr rfl rfl (by first | decide | simp) (x_pick_or rfl (fr.ev rfl) (fun _ => rfl) (fun hb => ((fr.ev rfl)).trans (onlyIf_t (by simp_all))) rfl) ?_
            clear fr a; intro a fr
            refine fx_val (v := .bool ((((!(homeK m.kind)) && (decide (m.src ≠ 4))) || (decide (m.src < 0))) || (decide (4 ≤ m.src)))) fr rfl rfl (by first | decide | simp) (x_move rfl (fr.ev rfl)) ?_
            clear fr a; intro a fr
            refine fx_may (g := !((((!(homeK m.kind)) && (decide (m.src ≠ 4))) || (decide (m.src < 0))) || (decide (4 ≤ m.src)))) (v := .pointer (some ⟨b25, 1, none⟩)) fr rfl rfl rfl (by simp) rfl (by first | decide | simp) (fun hg => x_fieldAddr fo101_1 rfl (fr.ev rfl) rfl) ?_
            clear fr a; intro a fr
            refine fx_may (g := !((((!(homeK m.kind)) && (decide (m.src ≠ 4))) || (decide (m.src < 0))) || (decide (4 ≤ m.src)))) (v := .bool (bytesK m.kind)) fr rfl rfl rfl (by simp) rfl (by first | decide | simp) (fun hg => x_load1 pl4 rfl ((fr.ev rfl).trans (onlyIf_t hg)) (B28.cell 1 rfl)) ?_
            clear fr a; intro a fr
            refine fx_may (g := !((((!(homeK m.kind)) && (decide (m.src ≠ 4))) || (decide (m.src < 0))) || (decide (4 ≤ m.src)))) (v := .bool (!(bytesK m.kind))) fr rfl rfl rfl (by simp) rfl (by first | decide | simp) (fun hg => x_not rfl ((fr.ev rfl).trans (onlyIf_t hg)) rfl) ?_
            clear fr a; intro a fr
            refine fx_may (g := !((((!(homeK m.kind)) && (decide (m.src ≠ 4))) || (decide (m.src < 0))) || (decide (4 ≤ m.src)))) (v := .bool (!(bytesK m.kind))) fr rfl rfl rfl (by simp) rfl (by first | decide | simp) (fun hg => x_move rfl ((fr.ev rfl).trans (onlyIf_t hg))) ?_
            clear fr a; intro a fr
            refine fx_may2 (g := (!((((!(homeK m.kind)) && (decide (m.src ≠ 4))) || (decide (m.src < 0))) || (decide (4 ≤ m.src)))) && (!(bytesK m.kind))) (v := .pointer (some ⟨b1, 4, none⟩)) fr rfl rfl rfl (by simp) rfl (by first | decide | simp) (fun hg => x_fieldAddr fo36_4 rfl (fr.ev rfl) rfl) ?_
            clear fr a; intro a fr
            refine fx_may2 (g := (!((((!(homeK m.kind)) && (decide (m.src ≠ 4))) || (decide (m.src < 0))) || (decide (4 ≤ m.src)))) && (!(bytesK m.kind))) (v := .agg (bsE.arr m.bs)) fr rfl rfl rfl (by simp) rfl (by first | decide | simp) (fun hg => x_loadE (E := bsE) ag34 rfl rfl ((fr.ev rfl).trans (onlyIf_t hg)) (B4.part (msg_bs _))) ?_
            clear fr a; intro a fr
            refine fx_may2 (g := (!((((!(homeK m.kind)) && (decide (m.src ≠ 4))) || (decide (m.src < 0))) || (decide (4 ≤ m.src)))) && (!(bytesK m.kind))) (v := .agg (bsE.arr b16z)) fr rfl rfl rfl (by simp) rfl (by first | decide | simp) (fun hg => x_build (cells := bsE.arr b16z) rfl (by kernel_rfl)) ?_
            clear fr a; intro a fr
            refine fx_may2 (g := (!((((!(homeK m.kind)) && (decide (m.src ≠ 4))) || (decide (m.src < 0))) || (decide (4 ≤ m.src)))) && (!(bytesK m.kind))) (v := .bool (!decide (m.bs = b16z))) fr rfl rfl rfl (by simp) rfl (by first | decide | simp) (fun hg => x_neE bsER rfl rfl ((fr.ev rfl).trans (onlyIf_t hg)) ((fr.ev rfl).trans (onlyIf_t hg)) rfl) ?_
            clear fr a; intro a fr
            refine fx_may (g := !((((!(homeK m.kind)) && (decide (m.src ≠ 4))) || (decide (m.src < 0))) || (decide (4 ≤ m.src)))) (v := .bool ((!(bytesK m.kind)) && (!decide (m.bs = b16z)))) fr rfl rfl rfl (by simp) rfl (by first | decide | simp) (fun hg => x_pick_and rfl ((fr.ev rfl).trans (onlyIf_t hg)) (fun hb => ((fr.ev rfl)).trans (onlyIf_t (by simp_all))) (fun _ => rfl) rfl) ?_
            clear fr a; intro a fr
            refine fx_val (v := .bool (((((!(homeK m.kind)) && (decide (m.src ≠ 4))) || (decide (m.src < 0))) || (decide (4 ≤ m.src))) || ((!(bytesK m.kind)) && (!decide (m.bs = b16z))))) fr rfl rfl (by first | decide | simp) (x_pick_or rfl (fr.ev rfl) (fun _ => rfl) (fun hb => ((fr.ev rfl)).trans (onlyIf_t (by simp_all))) rfl) ?_
            clear fr a; intro a fr
            refine wpList_nil ?_
            refine fx_next ?_
            refine fx_cond fr rfl (fun hc35 => ?_) (fun hc35 => ?_)
            · skip
              have hc35s := hc35
              try simp at hc35s
              refine wp_seq ?_
              refine wp_region_lit ?_  -- region 10
              refine fx_val (v := .int .i64 2) fr rfl rfl (by first | decide | simp) (x_assign rfl rfl) ?_
              clear fr a; intro a fr
              refine wpList_nil ?_
              refine fx_next ?_
              refine wp_ret ?_
              refine fx_rt ?_
              refine fx_rb ?_
              refine fx_rt ?_
              refine fx_ret fr [.tmp 2] [.int .i64 2] rfl ⟨rfl, trivial⟩ rfl ?_
              exact ⟨_, rfl, congrArg (Value.int .i64) (by have hx := home_not m.kind; have hk := isK_iff m.kind; clear fr; by_cases e1 : m.dst = 4 <;> by_cases e2 : m.src = 4 <;> simp_all [chk, goodMsg, isCache, bs0] <;> first | omega | (intro p q; rcases ‹(_ ∨ _) ∨ _› with (h | h) | h <;> first | omega | exact h | exact ⟨h.1, decide_eq_false h.2⟩)), hF⟩
            · skip
              have hc35s := hc35
              try simp at hc35s
              refine wp_skip ?_
              refine fx_next ?_
              refine wp_exit ?_
              refine fx_xx ?_
              refine fx_next ?_
              refine wp_seq ?_
              refine wp_region_lit ?_  -- region 11
              refine fx_val (v := .int .i64 0) fr rfl rfl (by first | decide | simp) (x_assign rfl rfl) ?_
              clear fr a; intro a fr
              refine wpList_nil ?_
              refine fx_next ?_
              refine wp_ret ?_
              refine fx_ret fr [.tmp 2] [.int .i64 0] rfl ⟨rfl, trivial⟩ rfl ?_
              exact ⟨_, rfl, congrArg (Value.int .i64) (by have hx := home_not m.kind; have hk := isK_iff m.kind; clear fr; by_cases e1 : m.dst = 4 <;> by_cases e2 : m.src = 4 <;> simp_all [chk, goodMsg, isCache, bs0] <;> first | omega | (intro p q; rcases ‹(_ ∨ _) ∨ _› with (h | h) | h <;> first | omega | exact h | exact ⟨h.1, decide_eq_false h.2⟩)), hF⟩
        · skip
          refine wp_skip ?_
          refine fx_next ?_
          refine wp_exit ?_
          refine fx_xb (by decide) ?_
          refine fx_xt ?_
          refine fx_xb (by decide) ?_
          refine fx_xt ?_
          refine fx_xx ?_
          refine fx_next ?_
          refine wp_seq ?_
          refine wp_seq ?_
          refine wp_region_lit ?_  -- region 9
          refine fx_val (v := .pointer (some ⟨b25, 0, none⟩)) fr rfl rfl (by first | decide | simp) (x_fieldAddr fo101_0 rfl (fr.ev rfl) rfl) ?_
          clear fr a; intro a fr
          refine fx_val (v := .bool (homeK m.kind)) fr rfl rfl (by first | decide | simp) (x_load1 pl4 rfl (fr.ev rfl) (B28.cell 0 rfl)) ?_
          clear fr a; intro a fr
          refine fx_val (v := .bool (!(homeK m.kind))) fr rfl rfl (by first | decide | simp) (x_not rfl (fr.ev rfl) rfl) ?_
          clear fr a; intro a fr
          refine fx_val (v := .bool (!(homeK m.kind))) fr rfl rfl (by first | decide | simp) (x_move rfl (fr.ev rfl)) ?_
          clear fr a; intro a fr
          refine fx_may (g := (!(homeK m.kind))) (v := .pointer (some ⟨b1, 1, none⟩)) fr rfl rfl rfl (by simp) rfl (by first | decide | simp) (fun hg => x_fieldAddr fo36_1 rfl (fr.ev rfl) rfl) ?_
          clear fr a; intro a fr
          refine fx_may (g := (!(homeK m.kind))) (v := .int .i64 m.src) fr rfl rfl rfl (by simp) rfl (by first | decide | simp) (fun hg => x_load1 pl3 rfl ((fr.ev rfl).trans (onlyIf_t hg)) (B4.cell 1 rfl)) ?_
          clear fr a; intro a fr
          refine fx_may (g := (!(homeK m.kind))) (v := .bool (decide (m.src ≠ 4))) fr rfl rfl rfl (by simp) rfl (by first | decide | simp) (fun hg => x_neq rfl ((fr.ev rfl).trans (onlyIf_t hg)) rfl rfl) ?_
          clear fr a; intro a fr
          refine fx_val (v := .bool ((!(homeK m.kind)) && (decide (m.src ≠ 4)))) fr rfl rfl (by first | decide | simp) (x_pick_and rfl (fr.ev rfl) (fun hb => ((fr.ev rfl)).trans (onlyIf_t (by simp_all))) (fun _ => rfl) rfl) ?_
          clear fr a; intro a fr
          refine fx_val (v := .bool ((!(homeK m.kind)) && (decide (m.src ≠ 4)))) fr rfl rfl (by first | decide | simp) (x_move rfl (fr.ev rfl)) ?_
          clear fr a; intro a fr
          refine fx_may (g := !((!(homeK m.kind)) && (decide (m.src ≠ 4)))) (v := .int .i64 m.dst) fr rfl rfl rfl (by simp) rfl (by first | decide | simp) (fun hg => x_move rfl (fr.ev rfl)) ?_
          clear fr a; intro a fr
          refine fx_may (g := !((!(homeK m.kind)) && (decide (m.src ≠ 4)))) (v := .bool (decide (m.dst < 0))) fr rfl rfl rfl (by simp) rfl (by first | decide | simp) (fun hg => x_lss rfl ((fr.ev rfl).trans (onlyIf_t hg)) rfl rfl) ?_
          clear fr a; intro a fr
          refine fx_val (v := .bool (((!(homeK m.kind)) && (decide (m.src ≠ 4))) || (decide (m.dst < 0)))) fr rfl rfl (by first | decide | simp) (x_pick_or rfl (fr.ev rfl) (fun _ => rfl) (fun hb => ((fr.ev rfl)).trans (onlyIf_t (by simp_all))) rfl) ?_
          clear fr a; intro a fr
          refine fx_val (v := .bool (((!(homeK m.kind)) && (decide (m.src ≠ 4))) || (decide (m.dst < 0)))) fr rfl rfl (by first | decide | simp) (x_move rfl (fr.ev rfl)) ?_
          clear fr a; intro a fr
          refine fx_may (g := !(((!(homeK m.kind)) && (decide (m.src ≠ 4))) || (decide (m.dst < 0)))) (v := .int .i64 m.dst) fr rfl rfl rfl (by simp) rfl (by first | decide | simp) (fun hg => x_move rfl (fr.ev rfl)) ?_
          clear fr a; intro a fr
          refine fx_may (g := !(((!(homeK m.kind)) && (decide (m.src ≠ 4))) || (decide (m.dst < 0)))) (v := .bool (decide (4 ≤ m.dst))) fr rfl rfl rfl (by simp) rfl (by first | decide | simp) (fun hg => x_geq rfl ((fr.ev rfl).trans (onlyIf_t hg)) rfl rfl) ?_
          clear fr a; intro a fr
          refine fx_val (v := .bool ((((!(homeK m.kind)) && (decide (m.src ≠ 4))) || (decide (m.dst < 0))) || (decide (4 ≤ m.dst)))) fr rfl rfl (by first | decide | simp) (x_pick_or rfl (fr.ev rfl) (fun _ => rfl) (fun hb => ((fr.ev rfl)).trans (onlyIf_t (by simp_all))) rfl) ?_
          clear fr a; intro a fr
          refine fx_val (v := .bool ((((!(homeK m.kind)) && (decide (m.src ≠ 4))) || (decide (m.dst < 0))) || (decide (4 ≤ m.dst)))) fr rfl rfl (by first | decide | simp) (x_move rfl (fr.ev rfl)) ?_
          clear fr a; intro a fr
          refine fx_may (g := !((((!(homeK m.kind)) && (decide (m.src ≠ 4))) || (decide (m.dst < 0))) || (decide (4 ≤ m.dst)))) (v := .pointer (some ⟨b25, 1, none⟩)) fr rfl rfl rfl (by simp) rfl (by first | decide | simp) (fun hg => x_fieldAddr fo101_1 rfl (fr.ev rfl) rfl) ?_
          clear fr a; intro a fr
          refine fx_may (g := !((((!(homeK m.kind)) && (decide (m.src ≠ 4))) || (decide (m.dst < 0))) || (decide (4 ≤ m.dst)))) (v := .bool (bytesK m.kind)) fr rfl rfl rfl (by simp) rfl (by first | decide | simp) (fun hg => x_load1 pl4 rfl ((fr.ev rfl).trans (onlyIf_t hg)) (B28.cell 1 rfl)) ?_
          clear fr a; intro a fr
          refine fx_may (g := !((((!(homeK m.kind)) && (decide (m.src ≠ 4))) || (decide (m.dst < 0))) || (decide (4 ≤ m.dst)))) (v := .bool (!(bytesK m.kind))) fr rfl rfl rfl (by simp) rfl (by first | decide | simp) (fun hg => x_not rfl ((fr.ev rfl).trans (onlyIf_t hg)) rfl) ?_
          clear fr a; intro a fr
          refine fx_may (g := !((((!(homeK m.kind)) && (decide (m.src ≠ 4))) || (decide (m.dst < 0))) || (decide (4 ≤ m.dst)))) (v := .bool (!(bytesK m.kind))) fr rfl rfl rfl (by simp) rfl (by first | decide | simp) (fun hg => x_move rfl ((fr.ev rfl).trans (onlyIf_t hg))) ?_
          clear fr a; intro a fr
          refine fx_may2 (g := (!((((!(homeK m.kind)) && (decide (m.src ≠ 4))) || (decide (m.dst < 0))) || (decide (4 ≤ m.dst)))) && (!(bytesK m.kind))) (v := .pointer (some ⟨b1, 4, none⟩)) fr rfl rfl rfl (by simp) rfl (by first | decide | simp) (fun hg => x_fieldAddr fo36_4 rfl (fr.ev rfl) rfl) ?_
          clear fr a; intro a fr
          refine fx_may2 (g := (!((((!(homeK m.kind)) && (decide (m.src ≠ 4))) || (decide (m.dst < 0))) || (decide (4 ≤ m.dst)))) && (!(bytesK m.kind))) (v := .agg (bsE.arr m.bs)) fr rfl rfl rfl (by simp) rfl (by first | decide | simp) (fun hg => x_loadE (E := bsE) ag34 rfl rfl ((fr.ev rfl).trans (onlyIf_t hg)) (B4.part (msg_bs _))) ?_
          clear fr a; intro a fr
          refine fx_may2 (g := (!((((!(homeK m.kind)) && (decide (m.src ≠ 4))) || (decide (m.dst < 0))) || (decide (4 ≤ m.dst)))) && (!(bytesK m.kind))) (v := .agg (bsE.arr b16z)) fr rfl rfl rfl (by simp) rfl (by first | decide | simp) (fun hg => x_build (cells := bsE.arr b16z) rfl (by kernel_rfl)) ?_
          clear fr a; intro a fr
          refine fx_may2 (g := (!((((!(homeK m.kind)) && (decide (m.src ≠ 4))) || (decide (m.dst < 0))) || (decide (4 ≤ m.dst)))) && (!(bytesK m.kind))) (v := .bool (!decide (m.bs = b16z))) fr rfl rfl rfl (by simp) rfl (by first | decide | simp) (fun hg => x_neE bsER rfl rfl ((fr.ev rfl).trans (onlyIf_t hg)) ((fr.ev rfl).trans (onlyIf_t hg)) rfl) ?_
          clear fr a; intro a fr
          refine fx_may (g := !((((!(homeK m.kind)) && (decide (m.src ≠ 4))) || (decide (m.dst < 0))) || (decide (4 ≤ m.dst)))) (v := .bool ((!(bytesK m.kind)) && (!decide (m.bs = b16z)))) fr rfl rfl rfl (by simp) rfl (by first | decide | simp) (fun hg => x_pick_and rfl ((fr.ev rfl).trans (onlyIf_t hg)) (fun hb => ((fr.ev rfl)).trans (onlyIf_t (by simp_all))) (fun _ => rfl) rfl) ?_
          clear fr a; intro a fr
          refine fx_val (v := .bool (((((!(homeK m.kind)) && (decide (m.src ≠ 4))) || (decide (m.dst < 0))) || (decide (4 ≤ m.dst))) || ((!(bytesK m.kind)) && (!decide (m.bs = b16z))))) fr rfl rfl (by first | decide | simp) (x_pick_or rfl (fr.ev rfl) (fun _ => rfl) (fun hb => ((fr.ev rfl)).trans (onlyIf_t (by simp_all))) rfl) ?_
          clear fr a; intro a fr
          refine wpList_nil ?_
          refine fx_next ?_
          refine fx_cond fr rfl (fun hc36 => ?_) (fun hc36 => ?_)
          · skip
            have hc36s := hc36
            try simp at hc36s
            refine wp_seq ?_
            refine wp_region_lit ?_  -- region 10
            refine fx_val (v := .int .i64 2) fr rfl rfl (by first | decide | simp) (x_assign rfl rfl) ?_
            clear fr a; intro a fr
            refine wpList_nil ?_
            refine fx_next ?_
            refine wp_ret ?_
            refine fx_rt ?_
            refine fx_rb ?_
            refine fx_rt ?_
            refine fx_ret fr [.tmp 2] [.int .i64 2] rfl ⟨rfl, trivial⟩ rfl ?_
            exact ⟨_, rfl, congrArg (Value.int .i64) (by have hx := home_not m.kind; have hk := isK_iff m.kind; clear fr; by_cases e1 : m.dst = 4 <;> by_cases e2 : m.src = 4 <;> simp_all [chk, goodMsg, isCache, bs0] <;> first | omega | (intro p q; rcases ‹(_ ∨ _) ∨ _› with (h | h) | h <;> first | omega | exact h | exact ⟨h.1, decide_eq_false h.2⟩)), hF⟩
          · skip
            have hc36s := hc36
            try simp at hc36s
            refine wp_skip ?_
            refine fx_next ?_
            refine wp_exit ?_
            refine fx_xx ?_
            refine fx_next ?_
            refine wp_seq ?_
            refine wp_region_lit ?_  -- region 11
            refine fx_val (v := .int .i64 0) fr rfl rfl (by first | decide | simp) (x_assign rfl rfl) ?_
            clear fr a; intro a fr
            refine wpList_nil ?_
            refine fx_next ?_
            refine wp_ret ?_
            refine fx_ret fr [.tmp 2] [.int .i64 0] rfl ⟨rfl, trivial⟩ rfl ?_
            exact ⟨_, rfl, congrArg (Value.int .i64) (by have hx := home_not m.kind; have hk := isK_iff m.kind; clear fr; by_cases e1 : m.dst = 4 <;> by_cases e2 : m.src = 4 <;> simp_all [chk, goodMsg, isCache, bs0] <;> first | omega | (intro p q; rcases ‹(_ ∨ _) ∨ _› with (h | h) | h <;> first | omega | exact h | exact ⟨h.1, decide_eq_false h.2⟩)), hF⟩
  · skip
    refine fx_new fr rfl rfl (by first | decide | simp) (x_alloc (z := .agg (#[.bool false, .bool false])) (cs := #[.bool false, .bool false]) rfl (by kernel_rfl) rfl) ?_
    clear fr a
    intro b37 w38 hN39 B40 hb41 a fr
    have ne_b1_b37 : NE b1 b37 := NE.mk (Nat.lt_of_lt_of_le B4.lt hb41)
    have g_b37 := Nat.le_trans hF.size hb41
    replace B4 := B4.new hN39
    replace hF := hF.trNew hN39
    refine wpList_nil ?_
    refine ⟨⟨B4, trivial⟩, ?_⟩
    refine fx_one (i := 0) (by kernel_rfl) (fx_op rfl ?_)
    refine fx_call fr rfl rfl (by first | decide | simp) (x_call (vs := []) rfl rfl trivial Try.func47 nm47 rfl) (wants_c _) ?_
    clear fr a
    rintro v w45 ⟨r42, rfl, hr44, M43, hN46⟩ a fr
    have ne_b1_r42 : NE b1 r42 := NE.mk (Nat.lt_of_lt_of_le B4.lt hr44)
    have ne_b37_r42 : NE b37 r42 := NE.mk (Nat.lt_of_lt_of_le B40.lt hr44)
    have g_r42 := Nat.le_trans hF.size hr44
    replace B4 := B4.new hN46
    replace B40 := B40.new hN46
    replace hF := hF.trNew hN46
    refine wpList_nil ?_
    refine ⟨⟨B4, trivial⟩, ?_⟩
    refine fx_one (i := 3) (by kernel_rfl) (fx_op rfl ?_)
    refine fx_val (v := .tuple #[.agg (#[.bool (homeK m.kind), .bool (bytesK m.kind)]), .bool (isK m.kind)]) fr rfl rfl (by first | decide | simp) (x_lookup (k := .i64) (ok := true) (v := .agg (#[.bool (homeK m.kind), .bool (bytesK m.kind)])) (b := (isK m.kind)) Try.underlying103 Try.underlying33 rfl (fr.ev rfl) (fr.ev rfl) M43 (z := .agg (#[.bool false, .bool false])) (by kernel_rfl) (wants_find _)) ?_
    clear fr a; intro a fr
    refine wpList_nil ?_
    refine ⟨⟨B4, trivial⟩, ?_⟩
    refine fx_take (i := 4) (v := .tuple #[.agg (#[.bool (homeK m.kind), .bool (bytesK m.kind)]), .bool (isK m.kind)]) fr rfl (by kernel_rfl) rfl rfl (by first | decide | simp) (fun _ _ _ h => h) (fun _ ⟨B4, _⟩ => x_move rfl (fr.ev rfl)) ⟨B4, trivial⟩ ?_
    clear fr a; intro a fr
    refine fx_take (i := 5) (v := .agg (#[.bool (homeK m.kind), .bool (bytesK m.kind)])) fr rfl (by kernel_rfl) rfl rfl (by first | decide | simp) (fun _ _ _ h => h) (fun _ ⟨B4, _⟩ => x_extract rfl (fr.ev rfl) rfl) ⟨B4, trivial⟩ ?_
    clear fr a; intro a fr
    refine fx_take (i := 6) (v := .bool (isK m.kind)) fr rfl (by kernel_rfl) rfl rfl (by first | decide | simp) (fun _ _ _ h => h) (fun _ ⟨B4, _⟩ => x_extract rfl (fr.ev rfl) rfl) ⟨B4, trivial⟩ ?_
    clear fr a; intro a fr
    refine fx_one (i := 8) (by kernel_rfl) (fx_op rfl ?_)
    refine fx_storeS sz101 rfl rfl rfl (fr.ev rfl) (fr.ev rfl) (by simp [Value.oneCell']) B40 rfl rfl fun w47 hO48 hBq => ?_
    replace B4 := B4.only hO48 (by first | exact ne_b1_b37 | exact ne_b37_b1.symm | (show ¬ b1 = b37; omega))
    replace M43 := M43.only hO48 (by first | exact ne_r42_b37 | exact ne_b37_r42.symm | (show ¬ r42 = b37; omega))
    replace hF := hF.loc hO48 (.inr g_b37)
    replace B40 := hBq
    clear hBq
    refine wpList_nil ?_
    refine ⟨⟨B4, trivial⟩, ?_⟩
    refine fx_hdone (by kernel_rfl) ?_
    refine fx_tail ?_
    refine fx_val (v := .bool (isK m.kind)) fr rfl rfl (by first | decide | simp) (x_assign rfl (fr.ev rfl)) ?_
    clear fr a; intro a fr
    refine wpList_nil ?_
    refine fx_next ?_
    refine wp_seq ?_
    refine wp_region_lit ?_  -- region 2
    refine fx_val (v := .pointer (some ⟨b1, 2, none⟩)) fr rfl rfl (by first | decide | simp) (x_fieldAddr fo36_2 rfl (fr.ev rfl) rfl) ?_
    clear fr a; intro a fr
    refine fx_val (v := .int .i64 m.dst) fr rfl rfl (by first | decide | simp) (x_load1 pl3 rfl (fr.ev rfl) (B4.cell 2 rfl)) ?_
    clear fr a; intro a fr
    refine fx_val (v := .int .i64 m.dst) fr rfl rfl (by first | decide | simp) (x_assign rfl (fr.ev rfl)) ?_
    clear fr a; intro a fr
    refine wpList_nil ?_
    refine fx_next ?_
    refine wp_seq ?_
    refine wp_block ?_
    refine wp_seq ?_
    refine wp_block ?_
    refine wp_seq ?_
    refine wp_block ?_
    refine wp_seq ?_
    refine wp_block ?_
    refine wp_seq ?_
    refine wp_seq ?_
    refine wp_seq ?_
    refine wp_region_lit ?_  -- region 3
    refine fx_val (v := .bool (isK m.kind)) fr rfl rfl (by first | decide | simp) (x_move rfl (fr.ev rfl)) ?_
    clear fr a; intro a fr
    refine fx_val (v := .bool (!(isK m.kind))) fr rfl rfl (by first | decide | simp) (x_not rfl (fr.ev rfl) rfl) ?_
    clear fr a; intro a fr
    refine fx_val (v := .bool (!(isK m.kind))) fr rfl rfl (by first | decide | simp) (x_assign rfl (fr.ev rfl)) ?_
    clear fr a; intro a fr
    refine wpList_nil ?_
    refine fx_next ?_
    refine fx_cond fr rfl (fun hc49 => ?_) (fun hc49 => ?_)
    · skip
      refine wp_exit ?_
      refine fx_xt ?_
      refine fx_xt ?_
      refine fx_xx ?_
      refine fx_next ?_
      refine wp_seq ?_
      refine wp_seq ?_
      refine wp_region_lit ?_  -- region 5
      refine fx_val (v := .int .i64 2) fr rfl rfl (by first | decide | simp) (x_assign rfl rfl) ?_
      clear fr a; intro a fr
      refine wpList_nil ?_
      refine fx_next ?_
      refine wp_ret ?_
      refine fx_rt ?_
      refine fx_rb ?_
      refine fx_rt ?_
      refine fx_rb ?_
      refine fx_rt ?_
      refine fx_rb ?_
      refine fx_rt ?_
      refine fx_ret fr [.tmp 2] [.int .i64 2] rfl ⟨rfl, trivial⟩ rfl ?_
      exact ⟨_, rfl, congrArg (Value.int .i64) (by have hx := home_not m.kind; have hk := isK_iff m.kind; clear fr; by_cases e1 : m.dst = 4 <;> by_cases e2 : m.src = 4 <;> simp_all [chk, goodMsg, isCache, bs0] <;> first | omega | (intro p q; rcases ‹(_ ∨ _) ∨ _› with (h | h) | h <;> first | omega | exact h | exact ⟨h.1, decide_eq_false h.2⟩)), hF⟩
    · skip
      refine wp_skip ?_
      refine fx_next ?_
      refine wp_seq ?_
      refine wp_region_lit ?_  -- region 4
      refine fx_val (v := .pointer (some ⟨b37, 0, none⟩)) fr rfl rfl (by first | decide | simp) (x_fieldAddr fo101_0 rfl (fr.ev rfl) rfl) ?_
      clear fr a; intro a fr
      refine fx_val (v := .bool (homeK m.kind)) fr rfl rfl (by first | decide | simp) (x_load1 pl4 rfl (fr.ev rfl) (B40.cell 0 rfl)) ?_
      clear fr a; intro a fr
      refine fx_val (v := .bool (homeK m.kind)) fr rfl rfl (by first | decide | simp) (x_assign rfl (fr.ev rfl)) ?_
      clear fr a; intro a fr
      refine wpList_nil ?_
      refine fx_next ?_
      refine fx_cond fr rfl (fun hc50 => ?_) (fun hc50 => ?_)
      · skip
        refine wp_exit ?_
        refine fx_xt ?_
        refine fx_xb (by decide) ?_
        refine fx_xt ?_
        refine fx_xx ?_
        refine fx_next ?_
        refine wp_seq ?_
        refine wp_seq ?_
        refine wp_region_lit ?_  -- region 6
        refine fx_val (v := .pointer (some ⟨b1, 2, none⟩)) fr rfl rfl (by first | decide | simp) (x_fieldAddr fo36_2 rfl (fr.ev rfl) rfl) ?_
        clear fr a; intro a fr
        refine fx_val (v := .int .i64 m.dst) fr rfl rfl (by first | decide | simp) (x_load1 pl3 rfl (fr.ev rfl) (B4.cell 2 rfl)) ?_
        clear fr a; intro a fr
        refine fx_val (v := .bool (decide (m.dst ≠ 4))) fr rfl rfl (by first | decide | simp) (x_neq rfl (fr.ev rfl) rfl rfl) ?_
        clear fr a; intro a fr
        refine wpList_nil ?_
        refine fx_next ?_
        refine fx_cond fr rfl (fun hc51 => ?_) (fun hc51 => ?_)
        · skip
          have hc51 := of_decide_eq_true hc51
          refine wp_seq ?_
          refine wp_region_lit ?_  -- region 7
          refine fx_val (v := .int .i64 2) fr rfl rfl (by first | decide | simp) (x_assign rfl rfl) ?_
          clear fr a; intro a fr
          refine wpList_nil ?_
          refine fx_next ?_
          refine wp_ret ?_
          refine fx_rt ?_
          refine fx_rb ?_
          refine fx_rt ?_
          refine fx_rb ?_
          refine fx_rt ?_
          refine fx_ret fr [.tmp 2] [.int .i64 2] rfl ⟨rfl, trivial⟩ rfl ?_
          exact ⟨_, rfl, congrArg (Value.int .i64) (by have hx := home_not m.kind; have hk := isK_iff m.kind; clear fr; by_cases e1 : m.dst = 4 <;> by_cases e2 : m.src = 4 <;> simp_all [chk, goodMsg, isCache, bs0] <;> first | omega | (intro p q; rcases ‹(_ ∨ _) ∨ _› with (h | h) | h <;> first | omega | exact h | exact ⟨h.1, decide_eq_false h.2⟩)), hF⟩
        · skip
          have hc51 := of_decide_eq_false hc51
          refine wp_skip ?_
          refine fx_next ?_
          refine wp_region_lit ?_  -- region 8
          refine fx_val (v := .pointer (some ⟨b1, 1, none⟩)) fr rfl rfl (by first | decide | simp) (x_fieldAddr fo36_1 rfl (fr.ev rfl) rfl) ?_
          clear fr a; intro a fr
          refine fx_val (v := .int .i64 m.src) fr rfl rfl (by first | decide | simp) (x_load1 pl3 rfl (fr.ev rfl) (B4.cell 1 rfl)) ?_
          clear fr a; intro a fr
          refine fx_val (v := .int .i64 m.src) fr rfl rfl (by first | decide | simp) (x_assign rfl (fr.ev rfl)) ?_
          clear fr a; intro a fr
          refine wpList_nil ?_
          refine fx_blk ?_
          refine fx_next ?_
          refine wp_seq ?_
          refine wp_seq ?_
          refine wp_region_lit ?_  -- region 9
          refine fx_val (v := .pointer (some ⟨b37, 0, none⟩)) fr rfl rfl (by first | decide | simp) (x_fieldAddr fo101_0 rfl (fr.ev rfl) rfl) ?_
          clear fr a; intro a fr
          refine fx_val (v := .bool (homeK m.kind)) fr rfl rfl (by first | decide | simp) (x_load1 pl4 rfl (fr.ev rfl) (B40.cell 0 rfl)) ?_
          clear fr a; intro a fr
          refine fx_val (v := .bool (!(homeK m.kind))) fr rfl rfl (by first | decide | simp) (x_not rfl (fr.ev rfl) rfl) ?_
          clear fr a; intro a fr
          refine fx_val (v := .bool (!(homeK m.kind))) fr rfl rfl (by first | decide | simp) (x_move rfl (fr.ev rfl)) ?_
          clear fr a; intro a fr
          refine fx_may (g := (!(homeK m.kind))) (v := .pointer (some ⟨b1, 1, none⟩)) fr rfl rfl rfl (by simp) rfl (by first | decide | simp) (fun hg => x_fieldAddr fo36_1 rfl (fr.ev rfl) rfl) ?_
          clear fr a; intro a fr
          refine fx_may (g := (!(homeK m.kind))) (v := .int .i64 m.src) fr rfl rfl rfl (by simp) rfl (by first | decide | simp) (fun hg => x_load1 pl3 rfl ((fr.ev rfl).trans (onlyIf_t hg)) (B4.cell 1 rfl)) ?_
          clear fr a; intro a fr
          refine fx_may (g := (!(homeK m.kind))) (v := .bool (decide (m.src ≠ 4))) fr rfl rfl rfl (by simp) rfl (by first | decide | simp) (fun hg => x_neq rfl ((fr.ev rfl).trans (onlyIf_t hg)) rfl rfl) ?_
          clear fr a; intro a fr
          refine fx_val (v := .bool ((!(homeK m.kind)) && (decide (m.src ≠ 4)))) fr rfl rfl (by first | decide | simp) (x_pick_and rfl (fr.ev rfl) (fun hb => ((fr.ev rfl)).trans (onlyIf_t (by simp_all))) (fun _ => rfl) rfl) ?_
          clear fr a; intro a fr
          refine fx_val (v := .bool ((!(homeK m.kind)) && (decide (m.src ≠ 4)))) fr rfl rfl (by first | decide | simp) (x_move rfl (fr.ev rfl)) ?_
          clear fr a; intro a fr
          refine fx_may (g := !((!(homeK m.kind)) && (decide (m.src ≠ 4)))) (v := .int .i64 m.src) fr rfl rfl rfl (by simp) rfl (by first | decide | simp) (fun hg => x_move rfl (fr.ev rfl)) ?_
          clear fr a; intro a fr
          refine fx_may (g := !((!(homeK m.kind)) && (decide (m.src ≠ 4)))) (v := .bool (decide (m.src < 0))) fr rfl rfl rfl (by simp) rfl (by first | decide | simp) (fun hg => x_lss rfl ((fr.ev rfl).trans (onlyIf_t hg)) rfl rfl) ?_
          clear fr a; intro a fr
          refine fx_val (v := .bool (((!(homeK m.kind)) && (decide (m.src ≠ 4))) || (decide (m.src < 0)))) fr rfl rfl (by first | decide | simp) (x_pick_or rfl (fr.ev rfl) (fun _ => rfl) (fun hb => ((fr.ev rfl)).trans (onlyIf_t (by simp_all))) rfl) ?_
          clear fr a; intro a fr
          refine fx_val (v := .bool (((!(homeK m.kind)) && (decide (m.src ≠ 4))) || (decide (m.src < 0)))) fr rfl rfl (by first | decide | simp) (x_move rfl (fr.ev rfl)) ?_
          clear fr a; intro a fr
          refine fx_may (g := !(((!(homeK m.kind)) && (decide (m.src ≠ 4))) || (decide (m.src < 0)))) (v := .int .i64 m.src) fr rfl rfl rfl (by simp) rfl (by first | decide | simp) (fun hg => x_move rfl (fr.ev rfl)) ?_
          clear fr a; intro a fr
          refine fx_may (g := !(((!(homeK m.kind)) && (decide (m.src ≠ 4))) || (decide (m.src < 0)))) (v := .bool (decide (4 ≤ m.src))) fr rfl rfl rfl (by simp) rfl (by first | decide | simp) (fun hg => x_geq rfl ((fr.ev rfl).trans (onlyIf_t hg)) rfl rfl) ?_
          clear fr a; intro a fr
          refine fx_val (v := .bool ((((!(homeK m.kind)) && (decide (m.src ≠ 4))) || (decide (m.src < 0))) || (decide (4 ≤ m.src)))) fr rfl rfl (by first | decide | simp) (x_pick_or rfl (fr.ev rfl) (fun _ => rfl) (fun hb => ((fr.ev rfl)).trans (onlyIf_t (by simp_all))) rfl) ?_
          clear fr a; intro a fr
          refine fx_val (v := .bool ((((!(homeK m.kind)) && (decide (m.src ≠ 4))) || (decide (m.src < 0))) || (decide (4 ≤ m.src)))) fr rfl rfl (by first | decide | simp) (x_move rfl (fr.ev rfl)) ?_
          clear fr a; intro a fr
          refine fx_may (g := !((((!(homeK m.kind)) && (decide (m.src ≠ 4))) || (decide (m.src < 0))) || (decide (4 ≤ m.src)))) (v := .pointer (some ⟨b37, 1, none⟩)) fr rfl rfl rfl (by simp) rfl (by first | decide | simp) (fun hg => x_fieldAddr fo101_1 rfl (fr.ev rfl) rfl) ?_
          clear fr a; intro a fr
          refine fx_may (g := !((((!(homeK m.kind)) && (decide (m.src ≠ 4))) || (decide (m.src < 0))) || (decide (4 ≤ m.src)))) (v := .bool (bytesK m.kind)) fr rfl rfl rfl (by simp) rfl (by first | decide | simp) (fun hg => x_load1 pl4 rfl ((fr.ev rfl).trans (onlyIf_t hg)) (B40.cell 1 rfl)) ?_
          clear fr a; intro a fr
          refine fx_may (g := !((((!(homeK m.kind)) && (decide (m.src ≠ 4))) || (decide (m.src < 0))) || (decide (4 ≤ m.src)))) (v := .bool (!(bytesK m.kind))) fr rfl rfl rfl (by simp) rfl (by first | decide | simp) (fun hg => x_not rfl ((fr.ev rfl).trans (onlyIf_t hg)) rfl) ?_
          clear fr a; intro a fr
          refine fx_may (g := !((((!(homeK m.kind)) && (decide (m.src ≠ 4))) || (decide (m.src < 0))) || (decide (4 ≤ m.src)))) (v := .bool (!(bytesK m.kind))) fr rfl rfl rfl (by simp) rfl (by first | decide | simp) (fun hg => x_move rfl ((fr.ev rfl).trans (onlyIf_t hg))) ?_
          clear fr a; intro a fr
          refine fx_may2 (g := (!((((!(homeK m.kind)) && (decide (m.src ≠ 4))) || (decide (m.src < 0))) || (decide (4 ≤ m.src)))) && (!(bytesK m.kind))) (v := .pointer (some ⟨b1, 4, none⟩)) fr rfl rfl rfl (by simp) rfl (by first | decide | simp) (fun hg => x_fieldAddr fo36_4 rfl (fr.ev rfl) rfl) ?_
          clear fr a; intro a fr
          refine fx_may2 (g := (!((((!(homeK m.kind)) && (decide (m.src ≠ 4))) || (decide (m.src < 0))) || (decide (4 ≤ m.src)))) && (!(bytesK m.kind))) (v := .agg (bsE.arr m.bs)) fr rfl rfl rfl (by simp) rfl (by first | decide | simp) (fun hg => x_loadE (E := bsE) ag34 rfl rfl ((fr.ev rfl).trans (onlyIf_t hg)) (B4.part (msg_bs _))) ?_
          clear fr a; intro a fr
          refine fx_may2 (g := (!((((!(homeK m.kind)) && (decide (m.src ≠ 4))) || (decide (m.src < 0))) || (decide (4 ≤ m.src)))) && (!(bytesK m.kind))) (v := .agg (bsE.arr b16z)) fr rfl rfl rfl (by simp) rfl (by first | decide | simp) (fun hg => x_build (cells := bsE.arr b16z) rfl (by kernel_rfl)) ?_
          clear fr a; intro a fr
          refine fx_may2 (g := (!((((!(homeK m.kind)) && (decide (m.src ≠ 4))) || (decide (m.src < 0))) || (decide (4 ≤ m.src)))) && (!(bytesK m.kind))) (v := .bool (!decide (m.bs = b16z))) fr rfl rfl rfl (by simp) rfl (by first | decide | simp) (fun hg => x_neE bsER rfl rfl ((fr.ev rfl).trans (onlyIf_t hg)) ((fr.ev rfl).trans (onlyIf_t hg)) rfl) ?_
          clear fr a; intro a fr
          refine fx_may (g := !((((!(homeK m.kind)) && (decide (m.src ≠ 4))) || (decide (m.src < 0))) || (decide (4 ≤ m.src)))) (v := .bool ((!(bytesK m.kind)) && (!decide (m.bs = b16z)))) fr rfl rfl rfl (by simp) rfl (by first | decide | simp) (fun hg => x_pick_and rfl ((fr.ev rfl).trans (onlyIf_t hg)) (fun hb => ((fr.ev rfl)).trans (onlyIf_t (by simp_all))) (fun _ => rfl) rfl) ?_
          clear fr a; intro a fr
          refine fx_val (v := .bool (((((!(homeK m.kind)) && (decide (m.src ≠ 4))) || (decide (m.src < 0))) || (decide (4 ≤ m.src))) || ((!(bytesK m.kind)) && (!decide (m.bs = b16z))))) fr rfl rfl (by first | decide | simp) (x_pick_or rfl (fr.ev rfl) (fun _ => rfl) (fun hb => ((fr.ev rfl)).trans (onlyIf_t (by simp_all))) rfl) ?_
          clear fr a; intro a fr
          refine wpList_nil ?_
          refine fx_next ?_
          refine fx_cond fr rfl (fun hc52 => ?_) (fun hc52 => ?_)
          · skip
            have hc52s := hc52
            try simp at hc52s
            refine wp_seq ?_
            refine wp_region_lit ?_  -- region 10
            refine fx_val (v := .int .i64 2) fr rfl rfl (by first | decide | simp) (x_assign rfl rfl) ?_
            clear fr a; intro a fr
            refine wpList_nil ?_
            refine fx_next ?_
            refine wp_ret ?_
            refine fx_rt ?_
            refine fx_rb ?_
            refine fx_rt ?_
            refine fx_ret fr [.tmp 2] [.int .i64 2] rfl ⟨rfl, trivial⟩ rfl ?_
            exact ⟨_, rfl, congrArg (Value.int .i64) (by have hx := home_not m.kind; have hk := isK_iff m.kind; clear fr; by_cases e1 : m.dst = 4 <;> by_cases e2 : m.src = 4 <;> simp_all [chk, goodMsg, isCache, bs0] <;> first | omega | (intro p q; rcases ‹(_ ∨ _) ∨ _› with (h | h) | h <;> first | omega | exact h | exact ⟨h.1, decide_eq_false h.2⟩)), hF⟩
          · skip
            have hc52s := hc52
            try simp at hc52s
            refine wp_skip ?_
            refine fx_next ?_
            refine wp_exit ?_
            refine fx_xx ?_
            refine fx_next ?_
            refine wp_seq ?_
            refine wp_region_lit ?_  -- region 11
            refine fx_val (v := .int .i64 0) fr rfl rfl (by first | decide | simp) (x_assign rfl rfl) ?_
            clear fr a; intro a fr
            refine wpList_nil ?_
            refine fx_next ?_
            refine wp_ret ?_
            refine fx_ret fr [.tmp 2] [.int .i64 0] rfl ⟨rfl, trivial⟩ rfl ?_
            exact ⟨_, rfl, congrArg (Value.int .i64) (by have hx := home_not m.kind; have hk := isK_iff m.kind; clear fr; by_cases e1 : m.dst = 4 <;> by_cases e2 : m.src = 4 <;> simp_all [chk, goodMsg, isCache, bs0] <;> first | omega | (intro p q; rcases ‹(_ ∨ _) ∨ _› with (h | h) | h <;> first | omega | exact h | exact ⟨h.1, decide_eq_false h.2⟩)), hF⟩
      · skip
        refine wp_skip ?_
        refine fx_next ?_
        refine wp_exit ?_
        refine fx_xb (by decide) ?_
        refine fx_xt ?_
        refine fx_xb (by decide) ?_
        refine fx_xt ?_
        refine fx_xx ?_
        refine fx_next ?_
        refine wp_seq ?_
        refine wp_seq ?_
        refine wp_region_lit ?_  -- region 9
        refine fx_val (v := .pointer (some ⟨b37, 0, none⟩)) fr rfl rfl (by first | decide | simp) (x_fieldAddr fo101_0 rfl (fr.ev rfl) rfl) ?_
        clear fr a; intro a fr
        refine fx_val (v := .bool (homeK m.kind)) fr rfl rfl (by first | decide | simp) (x_load1 pl4 rfl (fr.ev rfl) (B40.cell 0 rfl)) ?_
        clear fr a; intro a fr
        refine fx_val (v := .bool (!(homeK m.kind))) fr rfl rfl (by first | decide | simp) (x_not rfl (fr.ev rfl) rfl) ?_
        clear fr a; intro a fr
        refine fx_val (v := .bool (!(homeK m.kind))) fr rfl rfl (by first | decide | simp) (x_move rfl (fr.ev rfl)) ?_
        clear fr a; intro a fr
        refine fx_may (g := (!(homeK m.kind))) (v := .pointer (some ⟨b1, 1, none⟩)) fr rfl rfl rfl (by simp) rfl (by first | decide | simp) (fun hg => x_fieldAddr fo36_1 rfl (fr.ev rfl) rfl) ?_
        clear fr a; intro a fr
        refine fx_may (g := (!(homeK m.kind))) (v := .int .i64 m.src) fr rfl rfl rfl (by simp) rfl (by first | decide | simp) (fun hg => x_load1 pl3 rfl ((fr.ev rfl).trans (onlyIf_t hg)) (B4.cell 1 rfl)) ?_
        clear fr a; intro a fr
        refine fx_may (g := (!(homeK m.kind))) (v := .bool (decide (m.src ≠ 4))) fr rfl rfl rfl (by simp) rfl (by first | decide | simp) (fun hg => x_neq rfl ((fr.ev rfl).trans (onlyIf_t hg)) rfl rfl) ?_
        clear fr a; intro a fr
        refine fx_val (v := .bool ((!(homeK m.kind)) && (decide (m.src ≠ 4)))) fr rfl rfl (by first | decide | simp) (x_pick_and rfl (fr.ev rfl) (fun hb => ((fr.ev rfl)).trans (onlyIf_t (by simp_all))) (fun _ => rfl) rfl) ?_
        clear fr a; intro a fr
        refine fx_val (v := .bool ((!(homeK m.kind)) && (decide (m.src ≠ 4)))) fr rfl rfl (by first | decide | simp) (x_move rfl (fr.ev rfl)) ?_
        clear fr a; intro a fr
        refine fx_may (g := !((!(homeK m.kind)) && (decide (m.src ≠ 4)))) (v := .int .i64 m.dst) fr rfl rfl rfl (by simp) rfl (by first | decide | simp) (fun hg => x_move rfl (fr.ev rfl)) ?_
        clear fr a; intro a fr
        refine fx_may (g := !((!(homeK m.kind)) && (decide (m.src ≠ 4)))) (v := .bool (decide (m.dst < 0))) fr rfl rfl rfl (by simp) rfl (by first | decide | simp) (fun hg => x_lss rfl ((fr.ev rfl).trans (onlyIf_t hg)) rfl rfl) ?_
        clear fr a; intro a fr
        refine fx_val (v := .bool (((!(homeK m.kind)) && (decide (m.src ≠ 4))) || (decide (m.dst < 0)))) fr rfl rfl (by first | decide | simp) (x_pick_or rfl (fr.ev rfl) (fun _ => rfl) (fun hb => ((fr.ev rfl)).trans (onlyIf_t (by simp_all))) rfl) ?_
        clear fr a; intro a fr
        refine fx_val (v := .bool (((!(homeK m.kind)) && (decide (m.src ≠ 4))) || (decide (m.dst < 0)))) fr rfl rfl (by first | decide | simp) (x_move rfl (fr.ev rfl)) ?_
        clear fr a; intro a fr
        refine fx_may (g := !(((!(homeK m.kind)) && (decide (m.src ≠ 4))) || (decide (m.dst < 0)))) (v := .int .i64 m.dst) fr rfl rfl rfl (by simp) rfl (by first | decide | simp) (fun hg => x_move rfl (fr.ev rfl)) ?_
        clear fr a; intro a fr
        refine fx_may (g := !(((!(homeK m.kind)) && (decide (m.src ≠ 4))) || (decide (m.dst < 0)))) (v := .bool (decide (4 ≤ m.dst))) fr rfl rfl rfl (by simp) rfl (by first | decide | simp) (fun hg => x_geq rfl ((fr.ev rfl).trans (onlyIf_t hg)) rfl rfl) ?_
        clear fr a; intro a fr
        refine fx_val (v := .bool ((((!(homeK m.kind)) && (decide (m.src ≠ 4))) || (decide (m.dst < 0))) || (decide (4 ≤ m.dst)))) fr rfl rfl (by first | decide | simp) (x_pick_or rfl (fr.ev rfl) (fun _ => rfl) (fun hb => ((fr.ev rfl)).trans (onlyIf_t (by simp_all))) rfl) ?_
        clear fr a; intro a fr
        refine fx_val (v := .bool ((((!(homeK m.kind)) && (decide (m.src ≠ 4))) || (decide (m.dst < 0))) || (decide (4 ≤ m.dst)))) fr rfl rfl (by first | decide | simp) (x_move rfl (fr.ev rfl)) ?_
        clear fr a; intro a fr
        refine fx_may (g := !((((!(homeK m.kind)) && (decide (m.src ≠ 4))) || (decide (m.dst < 0))) || (decide (4 ≤ m.dst)))) (v := .pointer (some ⟨b37, 1, none⟩)) fr rfl rfl rfl (by simp) rfl (by first | decide | simp) (fun hg => x_fieldAddr fo101_1 rfl (fr.ev rfl) rfl) ?_
        clear fr a; intro a fr
        refine fx_may (g := !((((!(homeK m.kind)) && (decide (m.src ≠ 4))) || (decide (m.dst < 0))) || (decide (4 ≤ m.dst)))) (v := .bool (bytesK m.kind)) fr rfl rfl rfl (by simp) rfl (by first | decide | simp) (fun hg => x_load1 pl4 rfl ((fr.ev rfl).trans (onlyIf_t hg)) (B40.cell 1 rfl)) ?_
        clear fr a; intro a fr
        refine fx_may (g := !((((!(homeK m.kind)) && (decide (m.src ≠ 4))) || (decide (m.dst < 0))) || (decide (4 ≤ m.dst)))) (v := .bool (!(bytesK m.kind))) fr rfl rfl rfl (by simp) rfl (by first | decide | simp) (fun hg => x_not rfl ((fr.ev rfl).trans (onlyIf_t hg)) rfl) ?_
        clear fr a; intro a fr
        refine fx_may (g := !((((!(homeK m.kind)) && (decide (m.src ≠ 4))) || (decide (m.dst < 0))) || (decide (4 ≤ m.dst)))) (v := .bool (!(bytesK m.kind))) fr rfl rfl rfl (by simp) rfl (by first | decide | simp) (fun hg => x_move rfl ((fr.ev rfl).trans (onlyIf_t hg))) ?_
        clear fr a; intro a fr
        refine fx_may2 (g := (!((((!(homeK m.kind)) && (decide (m.src ≠ 4))) || (decide (m.dst < 0))) || (decide (4 ≤ m.dst)))) && (!(bytesK m.kind))) (v := .pointer (some ⟨b1, 4, none⟩)) fr rfl rfl rfl (by simp) rfl (by first | decide | simp) (fun hg => x_fieldAddr fo36_4 rfl (fr.ev rfl) rfl) ?_
        clear fr a; intro a fr
        refine fx_may2 (g := (!((((!(homeK m.kind)) && (decide (m.src ≠ 4))) || (decide (m.dst < 0))) || (decide (4 ≤ m.dst)))) && (!(bytesK m.kind))) (v := .agg (bsE.arr m.bs)) fr rfl rfl rfl (by simp) rfl (by first | decide | simp) (fun hg => x_loadE (E := bsE) ag34 rfl rfl ((fr.ev rfl).trans (onlyIf_t hg)) (B4.part (msg_bs _))) ?_
        clear fr a; intro a fr
        refine fx_may2 (g := (!((((!(homeK m.kind)) && (decide (m.src ≠ 4))) || (decide (m.dst < 0))) || (decide (4 ≤ m.dst)))) && (!(bytesK m.kind))) (v := .agg (bsE.arr b16z)) fr rfl rfl rfl (by simp) rfl (by first | decide | simp) (fun hg => x_build (cells := bsE.arr b16z) rfl (by kernel_rfl)) ?_
        clear fr a; intro a fr
        refine fx_may2 (g := (!((((!(homeK m.kind)) && (decide (m.src ≠ 4))) || (decide (m.dst < 0))) || (decide (4 ≤ m.dst)))) && (!(bytesK m.kind))) (v := .bool (!decide (m.bs = b16z))) fr rfl rfl rfl (by simp) rfl (by first | decide | simp) (fun hg => x_neE bsER rfl rfl ((fr.ev rfl).trans (onlyIf_t hg)) ((fr.ev rfl).trans (onlyIf_t hg)) rfl) ?_
        clear fr a; intro a fr
        refine fx_may (g := !((((!(homeK m.kind)) && (decide (m.src ≠ 4))) || (decide (m.dst < 0))) || (decide (4 ≤ m.dst)))) (v := .bool ((!(bytesK m.kind)) && (!decide (m.bs = b16z)))) fr rfl rfl rfl (by simp) rfl (by first | decide | simp) (fun hg => x_pick_and rfl ((fr.ev rfl).trans (onlyIf_t hg)) (fun hb => ((fr.ev rfl)).trans (onlyIf_t (by simp_all))) (fun _ => rfl) rfl) ?_
        clear fr a; intro a fr
        refine fx_val (v := .bool (((((!(homeK m.kind)) && (decide (m.src ≠ 4))) || (decide (m.dst < 0))) || (decide (4 ≤ m.dst))) || ((!(bytesK m.kind)) && (!decide (m.bs = b16z))))) fr rfl rfl (by first | decide | simp) (x_pick_or rfl (fr.ev rfl) (fun _ => rfl) (fun hb => ((fr.ev rfl)).trans (onlyIf_t (by simp_all))) rfl) ?_
        clear fr a; intro a fr
        refine wpList_nil ?_
        refine fx_next ?_
        refine fx_cond fr rfl (fun hc53 => ?_) (fun hc53 => ?_)
        · skip
          have hc53s := hc53
          try simp at hc53s
          refine wp_seq ?_
          refine wp_region_lit ?_  -- region 10
          refine fx_val (v := .int .i64 2) fr rfl rfl (by first | decide | simp) (x_assign rfl rfl) ?_
          clear fr a; intro a fr
          refine wpList_nil ?_
          refine fx_next ?_
          refine wp_ret ?_
          refine fx_rt ?_
          refine fx_rb ?_
          refine fx_rt ?_
          refine fx_ret fr [.tmp 2] [.int .i64 2] rfl ⟨rfl, trivial⟩ rfl ?_
          exact ⟨_, rfl, congrArg (Value.int .i64) (by have hx := home_not m.kind; have hk := isK_iff m.kind; clear fr; by_cases e1 : m.dst = 4 <;> by_cases e2 : m.src = 4 <;> simp_all [chk, goodMsg, isCache, bs0] <;> first | omega | (intro p q; rcases ‹(_ ∨ _) ∨ _› with (h | h) | h <;> first | omega | exact h | exact ⟨h.1, decide_eq_false h.2⟩)), hF⟩
        · skip
          have hc53s := hc53
          try simp at hc53s
          refine wp_skip ?_
          refine fx_next ?_
          refine wp_exit ?_
          refine fx_xx ?_
          refine fx_next ?_
          refine wp_seq ?_
          refine wp_region_lit ?_  -- region 11
          refine fx_val (v := .int .i64 0) fr rfl rfl (by first | decide | simp) (x_assign rfl rfl) ?_
          clear fr a; intro a fr
          refine wpList_nil ?_
          refine fx_next ?_
          refine wp_ret ?_
          refine fx_ret fr [.tmp 2] [.int .i64 0] rfl ⟨rfl, trivial⟩ rfl ?_
          exact ⟨_, rfl, congrArg (Value.int .i64) (by have hx := home_not m.kind; have hk := isK_iff m.kind; clear fr; by_cases e1 : m.dst = 4 <;> by_cases e2 : m.src = 4 <;> simp_all [chk, goodMsg, isCache, bs0] <;> first | omega | (intro p q; rcases ‹(_ ∨ _) ∨ _› with (h | h) | h <;> first | omega | exact h | exact ⟨h.1, decide_eq_false h.2⟩)), hF⟩
end Go.Proofs.Ytdiaemlgghfecaa
namespace Go.Proofs.Ytdiaemlgghfecaa
open Go.RowKit
set_option maxRecDepth 100000 in
set_option maxHeartbeats 4000000 in
theorem must_ok (e : Int) (w : World) : Calls Try.prog 49 #[.bool true, .int .i64 e] w (Ret fun v w' => v = .tuple #[] ∧ w' = w) := by
  refine fx_enter Try.func49 rfl (N := (9, [])) (T := [(0, .bool true), (1, .int .i64 e)]) rfl (show 2 ≤ 9 by decide) ⟨rfl, rfl, trivial⟩ fun a fr => ?_
  refine wp_seq ?_
  refine wp_region_lit ?_  -- region 0
  refine fx_val (v := .bool true) fr rfl rfl (by first | decide | simp) (x_move rfl (fr.ev rfl)) ?_
  clear fr a; intro a fr
  refine fx_val (v := .bool false) fr rfl rfl (by first | decide | simp) (x_not rfl (fr.ev rfl) rfl) ?_
  clear fr a; intro a fr
  refine wpList_nil ?_
  refine fx_next ?_
  refine fx_cond_f fr rfl ?_
  refine wp_skip ?_
  refine fx_end fr [] [] rfl trivial rfl ?_
  exact ⟨_, rfl, rfl, rfl⟩
def stopE (why : Int) : List PanicEntry := [{ v := .iface 75 (.agg #[.int .i64 why]), recovered := false }]
set_option maxRecDepth 100000 in
set_option maxHeartbeats 4000000 in
theorem must_no (e : Int) (w : World) : Calls Try.prog 49 #[.bool false, .int .i64 e] w (Pan fun c w' => c = stopE e ∧ w' = w) := by
  refine fx_enter Try.func49 rfl (N := (9, [])) (T := [(0, .bool false), (1, .int .i64 e)]) rfl (show 2 ≤ 9 by decide) ⟨rfl, rfl, trivial⟩ fun a fr => ?_
  refine wp_seq ?_
  refine wp_region_lit ?_  -- region 0
  refine fx_val (v := .bool false) fr rfl rfl (by first | decide | simp) (x_move rfl (fr.ev rfl)) ?_
  clear fr a; intro a fr
  refine fx_val (v := .bool true) fr rfl rfl (by first | decide | simp) (x_not rfl (fr.ev rfl) rfl) ?_
  clear fr a; intro a fr
  refine wpList_nil ?_
  refine fx_next ?_
  refine fx_cond_t fr rfl ?_
  refine wp_region_lit ?_  -- region 1
  refine fx_val (v := .int .i64 e) fr rfl rfl (by first | decide | simp) (x_move rfl (fr.ev rfl)) ?_
  clear fr a; intro a fr
  refine fx_val (v := .agg (#[.int .i64 e])) fr rfl rfl (by first | decide | simp) (x_build (cells := #[.int .i64 e]) rfl (by simp only [List.map_toArray, List.map_cons, List.map_nil, show a.eval (.tmp 6) = .int .i64 e from fr.ev rfl]; kernel_rfl)) ?_
  clear fr a; intro a fr
  refine fx_val (v := .iface 75 (.agg (#[.int .i64 e]))) fr rfl rfl (by first | decide | simp) (x_makeInterface rfl (fr.ev rfl) Try.underlying75 rfl) ?_
  clear fr a; intro a fr
  refine fx_panic rfl rfl (fr.ev rfl) ?_
  refine fx_pend fr ?_
  exact ⟨_, rfl, rfl, rfl⟩
theorem must_nob {b : Bool} (hb : b = false) (e : Int) (w : World) : Calls Try.prog 49 #[.bool b, .int .i64 e] w (Pan fun c w' => c = stopE e ∧ w' = w) := by subst hb; exact must_no e w
set_option maxRecDepth 100000 in
set_option maxHeartbeats 4000000 in
theorem leave_c {w : World} {bw be bh : Nat} {A : Option Addr} {n ac : Nat} {line : Int} (hW : Blk w bw 82 #[.slice A n ac, .pointer (some ⟨be, 0, none⟩), .pointer (some ⟨bh, 0, none⟩), .int .u32 line]) {d : Ent} {qv : Value} (hE : Blk w be 42 (entA d qv)) (ne_bw_be : NE bw be) (r : Int) : Calls Try.prog 66 #[.pointer (some ⟨bw, 0, none⟩), .int .i64 r] w (Ret fun v w' => v = .tuple #[] ∧ Blk w' be 42 (entA (leaveF d r) qv) ∧ Only (fun k => k = be) w w') := by
  have hF := Only.refl (fun k => k = be) w
  refine fx_enter Try.func66 rfl (N := (19, [])) (T := [(0, .pointer (some ⟨bw, 0, none⟩)), (1, .int .i64 r)]) rfl (show 2 ≤ 19 by decide) ⟨rfl, rfl, trivial⟩ fun a fr => ?_
  refine wp_seq ?_
  refine wp_region_lit ?_  -- region 0
  refine fx_val (v := .pointer (some ⟨bw, 0, none⟩)) fr rfl rfl (by first | decide | simp) (x_move rfl (fr.ev rfl)) ?_
  clear fr a; intro a fr
  refine fx_val (v := .pointer (some ⟨bw, 0, none⟩)) fr rfl rfl (by first | decide | simp) (x_nilCheck rfl (fr.ev rfl)) ?_
  clear fr a; intro a fr
  refine fx_val (v := .pointer (some ⟨bw, 1, none⟩)) fr rfl rfl (by first | decide | simp) (x_fieldAddr fo82_1 rfl (fr.ev rfl) rfl) ?_
  clear fr a; intro a fr
  refine fx_val (v := .pointer (some ⟨be, 0, none⟩)) fr rfl rfl (by first | decide | simp) (x_load1 pl78 rfl (fr.ev rfl) (hW.cell 1 rfl)) ?_
  clear fr a; intro a fr
  refine fx_val (v := .pointer (some ⟨be, 0, none⟩)) fr rfl rfl (by first | decide | simp) (x_nilCheck rfl (fr.ev rfl)) ?_
  clear fr a; intro a fr
  refine fx_val (v := .pointer (some ⟨be, 0, none⟩)) fr rfl rfl (by first | decide | simp) (x_fieldAddr fo42_0 rfl (fr.ev rfl) rfl) ?_
  clear fr a; intro a fr
  refine fx_val (v := .int .i64 d.o) fr rfl rfl (by first | decide | simp) (x_load1 pl3 rfl (fr.ev rfl) (hE.cell 0 rfl)) ?_
  clear fr a; intro a fr
  refine fx_val (v := .int .i64 r) fr rfl rfl (by first | decide | simp) (x_move rfl (fr.ev rfl)) ?_
  clear fr a; intro a fr
  refine fx_val (v := .bool (decide (d.o = r))) fr rfl rfl (by first | decide | simp) (x_eql rfl (fr.ev rfl) (fr.ev rfl) rfl) ?_
  clear fr a; intro a fr
  refine wpList_nil ?_
  refine fx_next ?_
  refine fx_cond fr rfl (fun hc1 => ?_) (fun hc1 => ?_)
  · skip
    have hc1 := of_decide_eq_true hc1
    refine wp_region_lit ?_  -- region 1
    refine fx_val (v := .pointer (some ⟨bw, 0, none⟩)) fr rfl rfl (by first | decide | simp) (x_move rfl (fr.ev rfl)) ?_
    clear fr a; intro a fr
    refine fx_val (v := .pointer (some ⟨bw, 0, none⟩)) fr rfl rfl (by first | decide | simp) (x_nilCheck rfl (fr.ev rfl)) ?_
    clear fr a; intro a fr
    refine fx_val (v := .pointer (some ⟨bw, 1, none⟩)) fr rfl rfl (by first | decide | simp) (x_fieldAddr fo82_1 rfl (fr.ev rfl) rfl) ?_
    clear fr a; intro a fr
    refine fx_val (v := .pointer (some ⟨be, 0, none⟩)) fr rfl rfl (by first | decide | simp) (x_load1 pl78 rfl (fr.ev rfl) (hW.cell 1 rfl)) ?_
    clear fr a; intro a fr
    refine fx_val (v := .pointer (some ⟨be, 0, none⟩)) fr rfl rfl (by first | decide | simp) (x_nilCheck rfl (fr.ev rfl)) ?_
    clear fr a; intro a fr
    refine fx_val (v := .pointer (some ⟨be, 0, none⟩)) fr rfl rfl (by first | decide | simp) (x_fieldAddr fo42_0 rfl (fr.ev rfl) rfl) ?_
    clear fr a; intro a fr
    refine fx_store1 sz3 rfl rfl rfl (fr.ev rfl) rfl rfl hE (show 0 < 11 by decide) (cs' := entA ({ d with o := (-1) }) (qv)) rfl fun w2 hO3 hBq => ?_
    replace hW := hW.only hO3 (by first | exact ne_bw_be | exact ne_be_bw.symm | (show ¬ bw = be; omega))
    replace hF := hF.loc hO3 (.inl rfl)
    replace hE := hBq
    clear hBq
    refine wpList_nil ?_
    refine fx_end fr [] [] rfl trivial rfl ?_
    refine ⟨_, rfl, rfl, ?_, hF⟩
    rw [show leaveF d r = { d with o := -1 } by unfold leaveF; rw [if_pos hc1]]
    exact hE
  · skip
    have hc1 := of_decide_eq_false hc1
    refine wp_skip ?_
    refine fx_end fr [] [] rfl trivial rfl ?_
    refine ⟨_, rfl, rfl, ?_, hF⟩
    rw [show leaveF d r = d by unfold leaveF; rw [if_neg hc1]]
    exact hE
set_option maxRecDepth 100000 in
set_option maxHeartbeats 4000000 in
theorem own_c {w : World} {bw be bh : Nat} {A : Option Addr} {n ac : Nat} {line : Int} (hW : Blk w bw 82 #[.slice A n ac, .pointer (some ⟨be, 0, none⟩), .pointer (some ⟨bh, 0, none⟩), .int .u32 line]) {d : Ent} {qv : Value} (hE : Blk w be 42 (entA d qv)) (ne_bw_be : NE bw be) (r : Int) : Calls Try.prog 52 #[.pointer (some ⟨bw, 0, none⟩), .int .i64 r] w (Ret fun v w' => v = .tuple #[] ∧ Blk w' be 42 (entA (ownF d r) qv) ∧ Only (fun k => k = be) w w') := by
  have hF := Only.refl (fun k => k = be) w
  refine fx_enter Try.func52 rfl (N := (18, [])) (T := [(0, .pointer (some ⟨bw, 0, none⟩)), (1, .int .i64 r)]) rfl (show 2 ≤ 18 by decide) ⟨rfl, rfl, trivial⟩ fun a fr => ?_
  refine fx_heldT (n := 13) (k := 13) (fun w => Blk w bw 82 #[.slice A n ac, .pointer (some ⟨be, 0, none⟩), .pointer (some ⟨bh, 0, none⟩), .int .u32 line] ∧ True) (by kernel_rfl) (by kernel_rfl) rfl ?_  -- region 0
  intro w1 hN2
  replace hW := hW.new hN2
  replace hE := hE.new hN2
  replace hF := hF.trNew hN2
  refine fx_take (i := 0) (v := .pointer (some ⟨bw, 0, none⟩)) fr rfl (by kernel_rfl) rfl rfl (by first | decide | simp) (fun _ _ _ h => h) (fun _ ⟨hW, _⟩ => x_move rfl (fr.ev rfl)) ⟨hW, trivial⟩ ?_
  clear fr a; intro a fr
  refine fx_take (i := 1) (v := .pointer (some ⟨bw, 0, none⟩)) fr rfl (by kernel_rfl) rfl rfl (by first | decide | simp) (fun _ _ _ h => h) (fun _ ⟨hW, _⟩ => x_nilCheck rfl (fr.ev rfl)) ⟨hW, trivial⟩ ?_
  clear fr a; intro a fr
  refine fx_take (i := 2) (v := .pointer (some ⟨bw, 1, none⟩)) fr rfl (by kernel_rfl) rfl rfl (by first | decide | simp) (fun _ _ _ h => h) (fun _ ⟨hW, _⟩ => x_fieldAddr fo82_1 rfl (fr.ev rfl) rfl) ⟨hW, trivial⟩ ?_
  clear fr a; intro a fr
  refine fx_take (i := 3) (v := .pointer (some ⟨be, 0, none⟩)) fr rfl (by kernel_rfl) rfl rfl (by first | decide | simp) (fun _ _ _ h => h) (fun _ ⟨hW, _⟩ => x_load1 pl78 rfl (fr.ev rfl) (hW.cell 1 rfl)) ⟨hW, trivial⟩ ?_
  clear fr a; intro a fr
  refine fx_take (i := 4) (v := .pointer (some ⟨bw, 0, none⟩)) fr rfl (by kernel_rfl) rfl rfl (by first | decide | simp) (fun _ _ _ h => h) (fun _ ⟨hW, _⟩ => x_move rfl (fr.ev rfl)) ⟨hW, trivial⟩ ?_
  clear fr a; intro a fr
  refine fx_take (i := 5) (v := .pointer (some ⟨bw, 0, none⟩)) fr rfl (by kernel_rfl) rfl rfl (by first | decide | simp) (fun _ _ _ h => h) (fun _ ⟨hW, _⟩ => x_nilCheck rfl (fr.ev rfl)) ⟨hW, trivial⟩ ?_
  clear fr a; intro a fr
  refine fx_take (i := 6) (v := .pointer (some ⟨bw, 1, none⟩)) fr rfl (by kernel_rfl) rfl rfl (by first | decide | simp) (fun _ _ _ h => h) (fun _ ⟨hW, _⟩ => x_fieldAddr fo82_1 rfl (fr.ev rfl) rfl) ⟨hW, trivial⟩ ?_
  clear fr a; intro a fr
  refine fx_take (i := 7) (v := .pointer (some ⟨be, 0, none⟩)) fr rfl (by kernel_rfl) rfl rfl (by first | decide | simp) (fun _ _ _ h => h) (fun _ ⟨hW, _⟩ => x_load1 pl78 rfl (fr.ev rfl) (hW.cell 1 rfl)) ⟨hW, trivial⟩ ?_
  clear fr a; intro a fr
  refine fx_take (i := 8) (v := .int .i64 r) fr rfl (by kernel_rfl) rfl rfl (by first | decide | simp) (fun _ _ _ h => h) (fun _ ⟨hW, _⟩ => x_move rfl (fr.ev rfl)) ⟨hW, trivial⟩ ?_
  clear fr a; intro a fr
  refine fx_take (i := 9) (v := .agg (#[.bool false, .bool false, .bool false, .bool false])) fr rfl (by kernel_rfl) rfl rfl (by first | decide | simp) (fun _ _ _ h => h) (fun _ ⟨hW, _⟩ => x_build (cells := #[.bool false, .bool false, .bool false, .bool false]) rfl (by kernel_rfl)) ⟨hW, trivial⟩ ?_
  clear fr a; intro a fr
  refine fx_take (i := 10) (v := .pointer (some ⟨be, 0, none⟩)) fr rfl (by kernel_rfl) rfl rfl (by first | decide | simp) (fun _ _ _ h => h) (fun _ ⟨hW, _⟩ => x_nilCheck rfl (fr.ev rfl)) ⟨hW, trivial⟩ ?_
  clear fr a; intro a fr
  refine fx_take (i := 11) (v := .pointer (some ⟨be, 0, none⟩)) fr rfl (by kernel_rfl) rfl rfl (by first | decide | simp) (fun _ _ _ h => h) (fun _ ⟨hW, _⟩ => x_fieldAddr fo42_0 rfl (fr.ev rfl) rfl) ⟨hW, trivial⟩ ?_
  clear fr a; intro a fr
  refine fx_one (i := 12) (by kernel_rfl) (fx_op rfl ?_)
  refine fx_store1 sz3 rfl rfl rfl (fr.ev rfl) (fr.ev rfl) rfl hE (show 0 < 11 by decide) (cs' := entA ({ d with o := r }) (qv)) rfl fun w3 hO4 hBq => ?_
  replace hW := hW.only hO4 (by first | exact ne_bw_be | exact ne_be_bw.symm | (show ¬ bw = be; omega))
  replace hF := hF.loc hO4 (.inl rfl)
  replace hE := hBq
  clear hBq
  refine wpList_nil ?_
  refine ⟨⟨hW, trivial⟩, ?_⟩
  refine fx_hdone (by kernel_rfl) ?_
  refine fx_tail ?_
  refine fx_val (v := .pointer (some ⟨be, 0, none⟩)) fr rfl rfl (by first | decide | simp) (x_nilCheck rfl (fr.ev rfl)) ?_
  clear fr a; intro a fr
  refine fx_val (v := .pointer (some ⟨be, 1, none⟩)) fr rfl rfl (by first | decide | simp) (x_fieldAddr fo42_1 rfl (fr.ev rfl) rfl) ?_
  clear fr a; intro a fr
  refine fx_storeAt sz40 rfl rfl rfl (fr.ev rfl) (fr.ev rfl) (by simp [Value.oneCell']) hE rfl (show 1 + 4 ≤ 11 by decide) (cs' := entA ({ { d with o := r } with sh := sh0 }) (qv)) rfl fun w5 hO6 hBq => ?_
  replace hW := hW.only hO6 (by first | exact ne_bw_be | exact ne_be_bw.symm | (show ¬ bw = be; omega))
  replace hF := hF.loc hO6 (.inl rfl)
  replace hE := hBq
  clear hBq
  refine wpList_nil ?_
  refine fx_end fr [] [] rfl trivial rfl ?_
  exact ⟨_, rfl, rfl, hE, hF⟩
set_option maxRecDepth 100000 in
set_option maxHeartbeats 4000000 in
theorem busy_c {w : World} {bw be bh : Nat} {A : Option Addr} {n ac : Nat} {line : Int} (hW : Blk w bw 82 #[.slice A n ac, .pointer (some ⟨be, 0, none⟩), .pointer (some ⟨bh, 0, none⟩), .int .u32 line]) {d : Ent} {qv : Value} (hE : Blk w be 42 (entA d qv)) (ne_bw_be : NE bw be) (m : Msg) (waits : Int) (told : Bool) : Calls Try.prog 67 #[.pointer (some ⟨bw, 0, none⟩), .agg (msgE.arr m), .int .i64 waits, .bool told] w (Ret fun v w' => v = .tuple #[] ∧ Blk w' be 42 (entA (busyF d m waits told) qv) ∧ Only (fun k => k = be) w w') := by
  have hF := Only.refl (fun k => k = be) w
  refine fx_enter Try.func67 rfl (N := (44, [])) (T := [(0, .pointer (some ⟨bw, 0, none⟩)), (1, .agg (msgE.arr m)), (2, .int .i64 waits), (3, .bool told)]) rfl (show 4 ≤ 44 by decide) ⟨rfl, rfl, rfl, rfl, trivial⟩ fun a fr => ?_
  refine wp_seq ?_
  refine wp_region_lit ?_  -- region 0
  refine fx_new fr rfl rfl (by first | decide | simp) (x_box (cs := msgE.arr m) rfl (fr.ev rfl) rfl) ?_
  clear fr a
  intro b1 w2 hN3 B4 hb5 a fr
  have ne_bw_b1 : NE bw b1 := NE.mk (Nat.lt_of_lt_of_le hW.lt hb5)
  have ne_be_b1 : NE be b1 := NE.mk (Nat.lt_of_lt_of_le hE.lt hb5)
  have g_b1 := Nat.le_trans hF.size hb5
  replace hW := hW.new hN3
  replace hE := hE.new hN3
  replace hF := hF.trNew hN3
  refine wpList_nil ?_
  refine fx_next ?_
  refine fx_heldT (n := 38) (k := 38) (fun w => Blk w bw 82 #[.slice A n ac, .pointer (some ⟨be, 0, none⟩), .pointer (some ⟨bh, 0, none⟩), .int .u32 line] ∧ Blk w b1 36 (msgE.arr m) ∧ True) (by kernel_rfl) (by kernel_rfl) rfl ?_  -- region 1
  intro w6 hN7
  replace hW := hW.new hN7
  replace hE := hE.new hN7
  replace B4 := B4.new hN7
  replace hF := hF.trNew hN7
  refine fx_take (i := 0) (v := .pointer (some ⟨bw, 0, none⟩)) fr rfl (by kernel_rfl) rfl rfl (by first | decide | simp) (fun _ _ _ h => h) (fun _ ⟨hW, B4, _⟩ => x_move rfl (fr.ev rfl)) ⟨hW, B4, trivial⟩ ?_
  clear fr a; intro a fr
  refine fx_take (i := 1) (v := .pointer (some ⟨bw, 0, none⟩)) fr rfl (by kernel_rfl) rfl rfl (by first | decide | simp) (fun _ _ _ h => h) (fun _ ⟨hW, B4, _⟩ => x_nilCheck rfl (fr.ev rfl)) ⟨hW, B4, trivial⟩ ?_
  clear fr a; intro a fr
  refine fx_take (i := 2) (v := .pointer (some ⟨bw, 1, none⟩)) fr rfl (by kernel_rfl) rfl rfl (by first | decide | simp) (fun _ _ _ h => h) (fun _ ⟨hW, B4, _⟩ => x_fieldAddr fo82_1 rfl (fr.ev rfl) rfl) ⟨hW, B4, trivial⟩ ?_
  clear fr a; intro a fr
  refine fx_take (i := 3) (v := .pointer (some ⟨be, 0, none⟩)) fr rfl (by kernel_rfl) rfl rfl (by first | decide | simp) (fun _ _ _ h => h) (fun _ ⟨hW, B4, _⟩ => x_load1 pl78 rfl (fr.ev rfl) (hW.cell 1 rfl)) ⟨hW, B4, trivial⟩ ?_
  clear fr a; intro a fr
  refine fx_take (i := 4) (v := .pointer (some ⟨bw, 0, none⟩)) fr rfl (by kernel_rfl) rfl rfl (by first | decide | simp) (fun _ _ _ h => h) (fun _ ⟨hW, B4, _⟩ => x_move rfl (fr.ev rfl)) ⟨hW, B4, trivial⟩ ?_
  clear fr a; intro a fr
  refine fx_take (i := 5) (v := .pointer (some ⟨bw, 0, none⟩)) fr rfl (by kernel_rfl) rfl rfl (by first | decide | simp) (fun _ _ _ h => h) (fun _ ⟨hW, B4, _⟩ => x_nilCheck rfl (fr.ev rfl)) ⟨hW, B4, trivial⟩ ?_
  clear fr a; intro a fr
  refine fx_take (i := 6) (v := .pointer (some ⟨bw, 1, none⟩)) fr rfl (by kernel_rfl) rfl rfl (by first | decide | simp) (fun _ _ _ h => h) (fun _ ⟨hW, B4, _⟩ => x_fieldAddr fo82_1 rfl (fr.ev rfl) rfl) ⟨hW, B4, trivial⟩ ?_
  clear fr a; intro a fr
  refine fx_take (i := 7) (v := .pointer (some ⟨be, 0, none⟩)) fr rfl (by kernel_rfl) rfl rfl (by first | decide | simp) (fun _ _ _ h => h) (fun _ ⟨hW, B4, _⟩ => x_load1 pl78 rfl (fr.ev rfl) (hW.cell 1 rfl)) ⟨hW, B4, trivial⟩ ?_
  clear fr a; intro a fr
  refine fx_take (i := 8) (v := .pointer (some ⟨bw, 0, none⟩)) fr rfl (by kernel_rfl) rfl rfl (by first | decide | simp) (fun _ _ _ h => h) (fun _ ⟨hW, B4, _⟩ => x_move rfl (fr.ev rfl)) ⟨hW, B4, trivial⟩ ?_
  clear fr a; intro a fr
  refine fx_take (i := 9) (v := .pointer (some ⟨bw, 0, none⟩)) fr rfl (by kernel_rfl) rfl rfl (by first | decide | simp) (fun _ _ _ h => h) (fun _ ⟨hW, B4, _⟩ => x_nilCheck rfl (fr.ev rfl)) ⟨hW, B4, trivial⟩ ?_
  clear fr a; intro a fr
  refine fx_take (i := 10) (v := .pointer (some ⟨bw, 1, none⟩)) fr rfl (by kernel_rfl) rfl rfl (by first | decide | simp) (fun _ _ _ h => h) (fun _ ⟨hW, B4, _⟩ => x_fieldAddr fo82_1 rfl (fr.ev rfl) rfl) ⟨hW, B4, trivial⟩ ?_
  clear fr a; intro a fr
  refine fx_take (i := 11) (v := .pointer (some ⟨be, 0, none⟩)) fr rfl (by kernel_rfl) rfl rfl (by first | decide | simp) (fun _ _ _ h => h) (fun _ ⟨hW, B4, _⟩ => x_load1 pl78 rfl (fr.ev rfl) (hW.cell 1 rfl)) ⟨hW, B4, trivial⟩ ?_
  clear fr a; intro a fr
  refine fx_take (i := 12) (v := .pointer (some ⟨bw, 0, none⟩)) fr rfl (by kernel_rfl) rfl rfl (by first | decide | simp) (fun _ _ _ h => h) (fun _ ⟨hW, B4, _⟩ => x_move rfl (fr.ev rfl)) ⟨hW, B4, trivial⟩ ?_
  clear fr a; intro a fr
  refine fx_take (i := 13) (v := .pointer (some ⟨bw, 0, none⟩)) fr rfl (by kernel_rfl) rfl rfl (by first | decide | simp) (fun _ _ _ h => h) (fun _ ⟨hW, B4, _⟩ => x_nilCheck rfl (fr.ev rfl)) ⟨hW, B4, trivial⟩ ?_
  clear fr a; intro a fr
  refine fx_take (i := 14) (v := .pointer (some ⟨bw, 1, none⟩)) fr rfl (by kernel_rfl) rfl rfl (by first | decide | simp) (fun _ _ _ h => h) (fun _ ⟨hW, B4, _⟩ => x_fieldAddr fo82_1 rfl (fr.ev rfl) rfl) ⟨hW, B4, trivial⟩ ?_
  clear fr a; intro a fr
  refine fx_take (i := 15) (v := .pointer (some ⟨be, 0, none⟩)) fr rfl (by kernel_rfl) rfl rfl (by first | decide | simp) (fun _ _ _ h => h) (fun _ ⟨hW, B4, _⟩ => x_load1 pl78 rfl (fr.ev rfl) (hW.cell 1 rfl)) ⟨hW, B4, trivial⟩ ?_
  clear fr a; intro a fr
  refine fx_take (i := 16) (v := .pointer (some ⟨bw, 0, none⟩)) fr rfl (by kernel_rfl) rfl rfl (by first | decide | simp) (fun _ _ _ h => h) (fun _ ⟨hW, B4, _⟩ => x_move rfl (fr.ev rfl)) ⟨hW, B4, trivial⟩ ?_
  clear fr a; intro a fr
  refine fx_take (i := 17) (v := .pointer (some ⟨bw, 0, none⟩)) fr rfl (by kernel_rfl) rfl rfl (by first | decide | simp) (fun _ _ _ h => h) (fun _ ⟨hW, B4, _⟩ => x_nilCheck rfl (fr.ev rfl)) ⟨hW, B4, trivial⟩ ?_
  clear fr a; intro a fr
  refine fx_take (i := 18) (v := .pointer (some ⟨bw, 1, none⟩)) fr rfl (by kernel_rfl) rfl rfl (by first | decide | simp) (fun _ _ _ h => h) (fun _ ⟨hW, B4, _⟩ => x_fieldAddr fo82_1 rfl (fr.ev rfl) rfl) ⟨hW, B4, trivial⟩ ?_
  clear fr a; intro a fr
  refine fx_take (i := 19) (v := .pointer (some ⟨be, 0, none⟩)) fr rfl (by kernel_rfl) rfl rfl (by first | decide | simp) (fun _ _ _ h => h) (fun _ ⟨hW, B4, _⟩ => x_load1 pl78 rfl (fr.ev rfl) (hW.cell 1 rfl)) ⟨hW, B4, trivial⟩ ?_
  clear fr a; intro a fr
  refine fx_take (i := 20) (v := .pointer (some ⟨b1, 1, none⟩)) fr rfl (by kernel_rfl) rfl rfl (by first | decide | simp) (fun _ _ _ h => h) (fun _ ⟨hW, B4, _⟩ => x_fieldAddr fo36_1 rfl (fr.ev rfl) rfl) ⟨hW, B4, trivial⟩ ?_
  clear fr a; intro a fr
  refine fx_take (i := 21) (v := .int .i64 m.src) fr rfl (by kernel_rfl) rfl rfl (by first | decide | simp) (fun _ _ _ h => h) (fun _ ⟨hW, B4, _⟩ => x_load1 pl3 rfl (fr.ev rfl) (B4.cell 1 rfl)) ⟨hW, B4, trivial⟩ ?_
  clear fr a; intro a fr
  refine fx_take (i := 22) (v := .pointer (some ⟨b1, 0, none⟩)) fr rfl (by kernel_rfl) rfl rfl (by first | decide | simp) (fun _ _ _ h => h) (fun _ ⟨hW, B4, _⟩ => x_fieldAddr fo36_0 rfl (fr.ev rfl) rfl) ⟨hW, B4, trivial⟩ ?_
  clear fr a; intro a fr
  refine fx_take (i := 23) (v := .int .i64 m.kind) fr rfl (by kernel_rfl) rfl rfl (by first | decide | simp) (fun _ _ _ h => h) (fun _ ⟨hW, B4, _⟩ => x_load1 pl33 rfl (fr.ev rfl) (B4.cell 0 rfl)) ⟨hW, B4, trivial⟩ ?_
  clear fr a; intro a fr
  refine fx_take (i := 24) (v := .int .i64 waits) fr rfl (by kernel_rfl) rfl rfl (by first | decide | simp) (fun _ _ _ h => h) (fun _ ⟨hW, B4, _⟩ => x_move rfl (fr.ev rfl)) ⟨hW, B4, trivial⟩ ?_
  clear fr a; intro a fr
  refine fx_take (i := 25) (v := .bool told) fr rfl (by kernel_rfl) rfl rfl (by first | decide | simp) (fun _ _ _ h => h) (fun _ ⟨hW, B4, _⟩ => x_move rfl (fr.ev rfl)) ⟨hW, B4, trivial⟩ ?_
  clear fr a; intro a fr
  refine fx_take (i := 26) (v := .pointer (some ⟨be, 0, none⟩)) fr rfl (by kernel_rfl) rfl rfl (by first | decide | simp) (fun _ _ _ h => h) (fun _ ⟨hW, B4, _⟩ => x_nilCheck rfl (fr.ev rfl)) ⟨hW, B4, trivial⟩ ?_
  clear fr a; intro a fr
  refine fx_take (i := 27) (v := .pointer (some ⟨be, 5, none⟩)) fr rfl (by kernel_rfl) rfl rfl (by first | decide | simp) (fun _ _ _ h => h) (fun _ ⟨hW, B4, _⟩ => x_fieldAddr fo42_2 rfl (fr.ev rfl) rfl) ⟨hW, B4, trivial⟩ ?_
  clear fr a; intro a fr
  refine fx_one (i := 28) (by kernel_rfl) (fx_op rfl ?_)
  refine fx_store1 sz4 rfl rfl rfl (fr.ev rfl) rfl rfl hE (show 5 < 11 by decide) (cs' := entA ({ d with busy := true }) (qv)) rfl fun w8 hO9 hBq => ?_
  replace hW := hW.only hO9 (by first | exact ne_bw_be | exact ne_be_bw.symm | (show ¬ bw = be; omega))
  replace B4 := B4.only hO9 (by first | exact ne_b1_be | exact ne_be_b1.symm | (show ¬ b1 = be; omega))
  replace hF := hF.loc hO9 (.inl rfl)
  replace hE := hBq
  clear hBq
  refine wpList_nil ?_
  refine ⟨⟨hW, B4, trivial⟩, ?_⟩
  refine fx_take (i := 29) (v := .pointer (some ⟨be, 0, none⟩)) fr rfl (by kernel_rfl) rfl rfl (by first | decide | simp) (fun _ _ _ h => h) (fun _ ⟨hW, B4, _⟩ => x_nilCheck rfl (fr.ev rfl)) ⟨hW, B4, trivial⟩ ?_
  clear fr a; intro a fr
  refine fx_take (i := 30) (v := .pointer (some ⟨be, 6, none⟩)) fr rfl (by kernel_rfl) rfl rfl (by first | decide | simp) (fun _ _ _ h => h) (fun _ ⟨hW, B4, _⟩ => x_fieldAddr fo42_3 rfl (fr.ev rfl) rfl) ⟨hW, B4, trivial⟩ ?_
  clear fr a; intro a fr
  refine fx_one (i := 31) (by kernel_rfl) (fx_op rfl ?_)
  refine fx_store1 sz3 rfl rfl rfl (fr.ev rfl) (fr.ev rfl) rfl hE (show 6 < 11 by decide) (cs' := entA ({ { d with busy := true } with asks := m.src }) (qv)) rfl fun w10 hO11 hBq => ?_
  replace hW := hW.only hO11 (by first | exact ne_bw_be | exact ne_be_bw.symm | (show ¬ bw = be; omega))
  replace B4 := B4.only hO11 (by first | exact ne_b1_be | exact ne_be_b1.symm | (show ¬ b1 = be; omega))
  replace hF := hF.loc hO11 (.inl rfl)
  replace hE := hBq
  clear hBq
  refine wpList_nil ?_
  refine ⟨⟨hW, B4, trivial⟩, ?_⟩
  refine fx_take (i := 32) (v := .pointer (some ⟨be, 0, none⟩)) fr rfl (by kernel_rfl) rfl rfl (by first | decide | simp) (fun _ _ _ h => h) (fun _ ⟨hW, B4, _⟩ => x_nilCheck rfl (fr.ev rfl)) ⟨hW, B4, trivial⟩ ?_
  clear fr a; intro a fr
  refine fx_take (i := 33) (v := .pointer (some ⟨be, 7, none⟩)) fr rfl (by kernel_rfl) rfl rfl (by first | decide | simp) (fun _ _ _ h => h) (fun _ ⟨hW, B4, _⟩ => x_fieldAddr fo42_4 rfl (fr.ev rfl) rfl) ⟨hW, B4, trivial⟩ ?_
  clear fr a; intro a fr
  refine fx_one (i := 34) (by kernel_rfl) (fx_op rfl ?_)
  refine fx_store1 sz33 rfl rfl rfl (fr.ev rfl) (fr.ev rfl) rfl hE (show 7 < 11 by decide) (cs' := entA ({ { { d with busy := true } with asks := m.src } with kind := m.kind }) (qv)) rfl fun w12 hO13 hBq => ?_
  replace hW := hW.only hO13 (by first | exact ne_bw_be | exact ne_be_bw.symm | (show ¬ bw = be; omega))
  replace B4 := B4.only hO13 (by first | exact ne_b1_be | exact ne_be_b1.symm | (show ¬ b1 = be; omega))
  replace hF := hF.loc hO13 (.inl rfl)
  replace hE := hBq
  clear hBq
  refine wpList_nil ?_
  refine ⟨⟨hW, B4, trivial⟩, ?_⟩
  refine fx_take (i := 35) (v := .pointer (some ⟨be, 0, none⟩)) fr rfl (by kernel_rfl) rfl rfl (by first | decide | simp) (fun _ _ _ h => h) (fun _ ⟨hW, B4, _⟩ => x_nilCheck rfl (fr.ev rfl)) ⟨hW, B4, trivial⟩ ?_
  clear fr a; intro a fr
  refine fx_take (i := 36) (v := .pointer (some ⟨be, 8, none⟩)) fr rfl (by kernel_rfl) rfl rfl (by first | decide | simp) (fun _ _ _ h => h) (fun _ ⟨hW, B4, _⟩ => x_fieldAddr fo42_5 rfl (fr.ev rfl) rfl) ⟨hW, B4, trivial⟩ ?_
  clear fr a; intro a fr
  refine fx_one (i := 37) (by kernel_rfl) (fx_op rfl ?_)
  refine fx_store1 sz3 rfl rfl rfl (fr.ev rfl) (fr.ev rfl) rfl hE (show 8 < 11 by decide) (cs' := entA ({ { { { d with busy := true } with asks := m.src } with kind := m.kind } with waits := waits }) (qv)) rfl fun w14 hO15 hBq => ?_
  replace hW := hW.only hO15 (by first | exact ne_bw_be | exact ne_be_bw.symm | (show ¬ bw = be; omega))
  replace B4 := B4.only hO15 (by first | exact ne_b1_be | exact ne_be_b1.symm | (show ¬ b1 = be; omega))
  replace hF := hF.loc hO15 (.inl rfl)
  replace hE := hBq
  clear hBq
  refine wpList_nil ?_
  refine ⟨⟨hW, B4, trivial⟩, ?_⟩
  refine fx_hdone (by kernel_rfl) ?_
  refine fx_tail ?_
  refine fx_val (v := .pointer (some ⟨be, 0, none⟩)) fr rfl rfl (by first | decide | simp) (x_nilCheck rfl (fr.ev rfl)) ?_
  clear fr a; intro a fr
  refine fx_val (v := .pointer (some ⟨be, 9, none⟩)) fr rfl rfl (by first | decide | simp) (x_fieldAddr fo42_6 rfl (fr.ev rfl) rfl) ?_
  clear fr a; intro a fr
  refine fx_store1 sz4 rfl rfl rfl (fr.ev rfl) (fr.ev rfl) rfl hE (show 9 < 11 by decide) (cs' := entA ({ { { { { d with busy := true } with asks := m.src } with kind := m.kind } with waits := waits } with told := told }) (qv)) rfl fun w16 hO17 hBq => ?_
  replace hW := hW.only hO17 (by first | exact ne_bw_be | exact ne_be_bw.symm | (show ¬ bw = be; omega))
  replace B4 := B4.only hO17 (by first | exact ne_b1_be | exact ne_be_b1.symm | (show ¬ b1 = be; omega))
  replace hF := hF.loc hO17 (.inl rfl)
  replace hE := hBq
  clear hBq
  refine wpList_nil ?_
  refine fx_end fr [] [] rfl trivial rfl ?_
  exact ⟨_, rfl, rfl, hE, hF⟩
theorem othK_t {sh : Sh} {r : Int} {i : Nat} (h : (sh.get ((i : Nat) : Int) && decide (((i : Nat) : Int) ≠ r)) = true) : othK sh r (i + 1) = othK sh r i ++ [((i : Nat) : Int)] := if_pos h
theorem othK_f {sh : Sh} {r : Int} {i : Nat} (h : (sh.get ((i : Nat) : Int) && decide (((i : Nat) : Int) ≠ r)) = false) : othK sh r (i + 1) = othK sh r i := if_neg (by rw [h]; decide)
set_option maxRecDepth 100000 in
set_option maxHeartbeats 4000000 in
theorem others_c {w : World} {bw be bh : Nat} {A : Option Addr} {n ac : Nat} {line : Int} (hW : Blk w bw 82 #[.slice A n ac, .pointer (some ⟨be, 0, none⟩), .pointer (some ⟨bh, 0, none⟩), .int .u32 line]) {d : Ent} {qv : Value} (hE : Blk w be 42 (entA d qv)) (ne_bw_be : NE bw be) (r : Int) : Calls Try.prog 68 #[.pointer (some ⟨bw, 0, none⟩), .int .i64 r] w (Ret fun v w' => ∃ A' c', v = .slice A' (othersF d.sh r).length c' ∧ Own intE w' A' c' (othersF d.sh r) ∧ (∀ g, inA A' g → w.heap.size ≤ g) ∧ New w w') := by
  have hF := Only.refl (fun _ => False) w
  refine fx_enter Try.func68 rfl (N := (31, [])) (T := [(0, .pointer (some ⟨bw, 0, none⟩)), (1, .int .i64 r)]) rfl (show 2 ≤ 31 by decide) ⟨rfl, rfl, trivial⟩ fun a fr => ?_
  refine wp_seq ?_
  refine wp_region_lit ?_  -- region 0
  refine fx_val (v := .slice none 0 0) fr rfl rfl (by first | decide | simp) (x_assign rfl rfl) ?_
  clear fr a; intro a fr
  refine wpList_nil ?_
  refine fx_next ?_
  refine wp_seq ?_
  refine wp_region_lit ?_  -- region 1
  refine fx_val (v := .slice none 0 0) fr rfl rfl (by first | decide | simp) (x_assign rfl rfl) ?_
  clear fr a; intro a fr
  refine wpList_nil ?_
  refine fx_next ?_
  refine wp_seq ?_
  refine wp_seq ?_
  refine wp_region_lit ?_  -- region 2
  refine fx_val (v := .pointer (some ⟨bw, 0, none⟩)) fr rfl rfl (by first | decide | simp) (x_move rfl (fr.ev rfl)) ?_
  clear fr a; intro a fr
  refine fx_val (v := .pointer (some ⟨bw, 0, none⟩)) fr rfl rfl (by first | decide | simp) (x_nilCheck rfl (fr.ev rfl)) ?_
  clear fr a; intro a fr
  refine fx_val (v := .pointer (some ⟨bw, 1, none⟩)) fr rfl rfl (by first | decide | simp) (x_fieldAddr fo82_1 rfl (fr.ev rfl) rfl) ?_
  clear fr a; intro a fr
  refine fx_val (v := .pointer (some ⟨be, 0, none⟩)) fr rfl rfl (by first | decide | simp) (x_load1 pl78 rfl (fr.ev rfl) (hW.cell 1 rfl)) ?_
  clear fr a; intro a fr
  refine fx_val (v := .pointer (some ⟨be, 0, none⟩)) fr rfl rfl (by first | decide | simp) (x_nilCheck rfl (fr.ev rfl)) ?_
  clear fr a; intro a fr
  refine fx_val (v := .pointer (some ⟨be, 1, none⟩)) fr rfl rfl (by first | decide | simp) (x_fieldAddr fo42_1 rfl (fr.ev rfl) rfl) ?_
  clear fr a; intro a fr
  refine fx_val (v := .agg (#[.bool d.sh.a, .bool d.sh.b, .bool d.sh.c, .bool d.sh.d])) fr rfl rfl (by first | decide | simp) (x_loadS ag40 rfl (fr.ev rfl) rfl (hE.part (q := 1) (n := 4) rfl)) ?_
  clear fr a; intro a fr
  refine fx_val (v := .int .i64 0) fr rfl rfl (by first | decide | simp) (x_move rfl rfl) ?_
  clear fr a; intro a fr
  refine wpList_nil ?_
  refine fx_next ?_
  refine wp_block ?_
  refine fx_loop (fun nM a wL => ∃ i : Nat, ∃ A1 : Option Addr, ∃ c1 : Nat, nM = 4 - i ∧ Fr (31, []) [(0, .pointer (some ⟨bw, 0, none⟩)), (1, .int .i64 r), (5, .slice A1 ((othK d.sh r i).length) c1), (14, .agg (#[.bool d.sh.a, .bool d.sh.b, .bool d.sh.c, .bool d.sh.d])), (15, .int .i64 ((i : Nat) : Int))] a ∧ Only (fun _ => False) w wL ∧ Own intE wL A1 c1 (othK d.sh r i) ∧ i ≤ 4 ∧ (∀ g, inA A1 g → (fun _ => False) g ∨ w.heap.size ≤ g)) (n0 := _) ⟨0, none, 0, rfl, fr.sub ⟨rfl, rfl, rfl, rfl, rfl, trivial⟩, hF, Own.nil, by omega, gA_none⟩ ?_
  rintro n2 a w1 ⟨i, A1, c1, rfl, fr, hF, OL, hp3, gA_A1⟩
  have hkl := othK_len d.sh r i
  refine wp_seq ?_
  refine wp_region_lit ?_  -- region 3
  refine fx_val (v := .bool (decide (((i : Nat) : Int) < 4))) fr rfl rfl (by first | decide | simp) (x_lss rfl (fr.ev rfl) rfl rfl) ?_
  clear fr a; intro a fr
  refine wpList_nil ?_
  refine fx_next ?_
  refine wp_seq ?_
  refine fx_cond fr rfl (fun hc4 => ?_) (fun hc4 => ?_)
  · skip
    have hc4 := of_decide_eq_true hc4
    refine wp_skip ?_
    refine fx_next ?_
    refine wp_seq ?_
    refine wp_block ?_
    refine wp_seq ?_
    refine wp_region_lit ?_  -- region 4
    refine fx_val (v := .int .i64 ((i : Nat) : Int)) fr rfl rfl (by first | decide | simp) (x_move rfl (fr.ev rfl)) ?_
    clear fr a; intro a fr
    refine fx_val (v := .bool (d.sh.get ((i : Nat) : Int))) fr rfl rfl (by first | decide | simp) (x_indexSh (s := d.sh) rfl (fr.ev rfl) (fr.ev rfl) (by omega)) ?_
    clear fr a; intro a fr
    refine fx_val (v := .int .i64 ((i : Nat) : Int)) fr rfl rfl (by first | decide | simp) (x_assign rfl (fr.ev rfl)) ?_
    clear fr a; intro a fr
    refine fx_val (v := .bool (d.sh.get ((i : Nat) : Int))) fr rfl rfl (by first | decide | simp) (x_assign rfl (fr.ev rfl)) ?_
    clear fr a; intro a fr
    refine wpList_nil ?_
    refine fx_next ?_
    refine wp_seq ?_
    refine wp_region_lit ?_  -- region 5
    refine fx_val (v := .bool (d.sh.get ((i : Nat) : Int))) fr rfl rfl (by first | decide | simp) (x_move rfl (fr.ev rfl)) ?_
    clear fr a; intro a fr
    refine fx_val (v := .bool (d.sh.get ((i : Nat) : Int))) fr rfl rfl (by first | decide | simp) (x_move rfl (fr.ev rfl)) ?_
    clear fr a; intro a fr
    refine fx_may (g := (d.sh.get ((i : Nat) : Int))) (v := .int .i64 ((i : Nat) : Int)) fr rfl rfl rfl (by simp) rfl (by first | decide | simp) (fun hg => x_move rfl (fr.ev rfl)) ?_
    clear fr a; intro a fr
    refine fx_may (g := (d.sh.get ((i : Nat) : Int))) (v := .int .i64 r) fr rfl rfl rfl (by simp) rfl (by first | decide | simp) (fun hg => x_move rfl (fr.ev rfl)) ?_
    clear fr a; intro a fr
    refine fx_may (g := (d.sh.get ((i : Nat) : Int))) (v := .bool (decide (((i : Nat) : Int) ≠ r))) fr rfl rfl rfl (by simp) rfl (by first | decide | simp) (fun hg => x_neq rfl ((fr.ev rfl).trans (onlyIf_t hg)) ((fr.ev rfl).trans (onlyIf_t hg)) rfl) ?_
    clear fr a; intro a fr
    refine fx_val (v := .bool ((d.sh.get ((i : Nat) : Int)) && (decide (((i : Nat) : Int) ≠ r)))) fr rfl rfl (by first | decide | simp) (x_pick_and rfl (fr.ev rfl) (fun hb => ((fr.ev rfl)).trans (onlyIf_t (by simp_all))) (fun _ => rfl) rfl) ?_
    clear fr a; intro a fr
    refine wpList_nil ?_
    refine fx_next ?_
    refine fx_cond fr rfl (fun hc5 => ?_) (fun hc5 => ?_)
    · skip
      have hc5s := hc5
      try simp at hc5s
      refine wp_region_lit ?_  -- region 6
      refine fx_val (v := .slice A1 ((othK d.sh r i).length) c1) fr rfl rfl (by first | decide | simp) (x_move rfl (fr.ev rfl)) ?_
      clear fr a; intro a fr
      refine fx_val (v := .int .i64 ((i : Nat) : Int)) fr rfl rfl (by first | decide | simp) (x_move rfl (fr.ev rfl)) ?_
      clear fr a; intro a fr
      refine fx_build1v (E := intE) (p := ((i : Nat) : Int)) elInt (by decide) fr rfl rfl (by decide) rfl (fr.ev rfl) rfl ?_
      clear fr a
      intro A6 w7 hN8 O9 hA10 a fr
      have ap2_A1_A6 : Apart2 A1 A6 := (new_apart2 hA10 fun _ hg => OL.lt hg).symm
      have gA_A6 := gA_new hF hA10
      replace OL := OL.new hN8
      replace hF := hF.trNew hN8
      refine fx_append (E := intE) (l := othK d.sh r i) (l' := [((i : Nat) : Int)]) elInt fr rfl rfl (by decide) rfl (fr.ev rfl) (fr.ev rfl) (by first | rfl | (simp; done) | (simp; omega)) (by first | rfl | (simp; done) | (simp; omega)) OL O9.view (by simp; omega) (by first | (unfold maxLen; done) | (unfold maxLen; first | omega | (simp only [List.length_append, List.length_cons, List.length_nil]; omega) | (simp; done) | (simp; omega))) ?_
      clear fr a
      intro A11 cap12 w13 O14 hO15 mv16 a fr
      have ap2_A11_A6 : Apart2 A11 A6 := moved_apart2 mv16 ap2_A1_A6 fun _ hg => O9.lt hg
      have gA_A11 := gA_moved hF mv16 gA_A1
      replace O9 := O9.only hO15 (fun g h1 h2 => ap2_A1_A6.symm g h1 h2)
      replace hF := hF.locA hO15 gA_A1
      clear OL
      refine fx_val (v := .slice A11 (((othK d.sh r i) ++ ([((i : Nat) : Int)])).length) cap12) fr rfl rfl (by first | decide | simp) (x_assign rfl (fr.ev rfl)) ?_
      clear fr a; intro a fr
      refine wpList_nil ?_
      refine fx_blk ?_
      refine fx_next ?_
      refine wp_region_lit ?_  -- region 7
      refine fx_val (v := .int .i64 ((i + 1 : Nat) : Int)) fr rfl rfl (by first | decide | simp) (x_add rfl (fr.ev rfl) rfl (i64w (r := ((i + 1 : Nat) : Int)) (by omega) (by omega))) ?_
      clear fr a; intro a fr
      refine fx_val (v := .int .i64 ((i + 1 : Nat) : Int)) fr rfl rfl (by first | decide | simp) (x_move rfl (fr.ev rfl)) ?_
      clear fr a; intro a fr
      refine wpList_nil ?_
      refine fx_next ?_
      have hek := othK_t hc5
      rw [← hek] at fr O14
      exact ⟨_, by omega, (i + 1), A11, cap12, rfl, fr.sub ⟨rfl, rfl, rfl, rfl, rfl, trivial⟩, hF, O14, by omega, gA_A11⟩
    · skip
      have hc5s := hc5
      try simp at hc5s
      refine wp_skip ?_
      refine fx_blk ?_
      refine fx_next ?_
      refine wp_region_lit ?_  -- region 7
      refine fx_val (v := .int .i64 ((i + 1 : Nat) : Int)) fr rfl rfl (by first | decide | simp) (x_add rfl (fr.ev rfl) rfl (i64w (r := ((i + 1 : Nat) : Int)) (by omega) (by omega))) ?_
      clear fr a; intro a fr
      refine fx_val (v := .int .i64 ((i + 1 : Nat) : Int)) fr rfl rfl (by first | decide | simp) (x_move rfl (fr.ev rfl)) ?_
      clear fr a; intro a fr
      refine wpList_nil ?_
      refine fx_next ?_
      have hek := othK_f hc5
      rw [← hek] at fr OL
      exact ⟨_, by omega, (i + 1), A1, c1, rfl, fr.sub ⟨rfl, rfl, rfl, rfl, rfl, trivial⟩, hF, OL, by omega, gA_A1⟩
  · skip
    have hc4 := of_decide_eq_false hc4
    refine wp_exit ?_
    refine fx_xt ?_
    refine fx_xt ?_
    refine fx_xx ?_
    refine fx_next ?_
    refine wp_seq ?_
    refine wp_region_lit ?_  -- region 8
    refine fx_val (v := .slice A1 ((othK d.sh r i).length) c1) fr rfl rfl (by first | decide | simp) (x_move rfl (fr.ev rfl)) ?_
    clear fr a; intro a fr
    refine fx_val (v := .slice A1 ((othK d.sh r i).length) c1) fr rfl rfl (by first | decide | simp) (x_assign rfl (fr.ev rfl)) ?_
    clear fr a; intro a fr
    refine wpList_nil ?_
    refine fx_next ?_
    refine wp_ret ?_
    refine fx_ret fr [.tmp 4] [.slice A1 ((othK d.sh r i).length) c1] rfl ⟨rfl, trivial⟩ rfl ?_
    obtain rfl : i = 4 := by omega
    exact ⟨_, rfl, A1, c1, rfl, OL, fun g hg => (gA_A1 g hg).resolve_left (fun h => h), hF⟩
set_option maxRecDepth 100000 in
set_option maxHeartbeats 4000000 in
theorem send_n {w : World} {bw be bh bi ig cap r : Nat} {A : Option Addr} {ac : Nat} {line : Int} {out : List Msg} {bs : List UInt8} (hln : 0 ≤ line ∧ line < 4294967296) (hW : Blk w bw 82 #[.slice A out.length ac, .pointer (some ⟨be, 0, none⟩), .pointer (some ⟨bh, 0, none⟩), .int .u32 line]) (hH : Blk w bh 64 #[.pointer (some ⟨bi, 0, none⟩), .map (some r)]) (hI : Img 0 w bi ig cap bs) (hO : Own msgE w A ac out) (ne_bw_bh : NE bw bh) (ne_bw_bi : NE bw bi) (ne_bw_ig : NE bw ig) (ap_A_bw : Apart A bw) (ap_A_bh : Apart A bh) (ap_A_bi : Apart A bi) (ap_A_ig : Apart A ig) (hlen : out.length ≤ 1000000) (kind dst : Int) : Calls Try.prog 53 #[.pointer (some ⟨bw, 0, none⟩), .int .i64 kind, .int .i64 dst, .bool false] w (Ret fun v w' => v = .tuple #[] ∧ ∃ A' ac', Blk w' bw 82 #[.slice A' (out ++ [(mkM kind 4 dst line b16z hln)]).length ac', .pointer (some ⟨be, 0, none⟩), .pointer (some ⟨bh, 0, none⟩), .int .u32 line] ∧ Own msgE w' A' ac' (out ++ [(mkM kind 4 dst line b16z hln)]) ∧ (∀ k, inA A' k → inA A k ∨ w.heap.size ≤ k) ∧ Only (fun k => k = bw ∨ inA A k) w w') := by
  have gA_A : ∀ g, inA A g → (g = bw ∨ inA A g) ∨ w.heap.size ≤ g := fun g hg => .inl (.inr hg)
  have hF := Only.refl (fun k => k = bw ∨ inA A k) w
  refine fx_enter Try.func53 rfl (N := (45, [])) (T := [(0, .pointer (some ⟨bw, 0, none⟩)), (1, .int .i64 kind), (2, .int .i64 dst), (3, .bool false)]) rfl (show 4 ≤ 45 by decide) ⟨rfl, rfl, rfl, rfl, trivial⟩ fun a fr => ?_
  refine wp_seq ?_
  refine wp_region_lit ?_  -- region 0
  refine fx_val (v := .int .i64 kind) fr rfl rfl (by first | decide | simp) (x_move rfl (fr.ev rfl)) ?_
  clear fr a; intro a fr
  refine fx_val (v := .int .i64 dst) fr rfl rfl (by first | decide | simp) (x_move rfl (fr.ev rfl)) ?_
  clear fr a; intro a fr
  refine fx_val (v := .pointer (some ⟨bw, 0, none⟩)) fr rfl rfl (by first | decide | simp) (x_move rfl (fr.ev rfl)) ?_
  clear fr a; intro a fr
  refine fx_val (v := .pointer (some ⟨bw, 0, none⟩)) fr rfl rfl (by first | decide | simp) (x_nilCheck rfl (fr.ev rfl)) ?_
  clear fr a; intro a fr
  refine fx_val (v := .pointer (some ⟨bw, 3, none⟩)) fr rfl rfl (by first | decide | simp) (x_fieldAddr fo82_3 rfl (fr.ev rfl) rfl) ?_
  clear fr a; intro a fr
  refine fx_val (v := .int .u32 line) fr rfl rfl (by first | decide | simp) (x_load1 pl24 rfl (fr.ev rfl) (hW.cell 3 rfl)) ?_
  clear fr a; intro a fr
  refine fx_val (v := .agg (msgE.arr (mkM kind 4 dst line b16z hln))) fr rfl rfl (by first | decide | simp) (x_build (cells := msgE.arr (mkM kind 4 dst line b16z hln)) rfl (by simp only [List.map_toArray, List.map_cons, List.map_nil, show a.eval (.tmp 9) = .int .i64 kind from fr.ev rfl, show a.eval (.tmp 10) = .int .i64 dst from fr.ev rfl, show a.eval (.tmp 14) = .int .u32 line from fr.ev rfl]; kernel_rfl)) ?_
  clear fr a; intro a fr
  refine fx_new fr rfl rfl (by first | decide | simp) (x_alloc (z := .agg (#[.int .i64 0, .int .i64 0, .int .i64 0, .int .u32 0, .int .u8 0, .int .u8 0, .int .u8 0, .int .u8 0, .int .u8 0, .int .u8 0, .int .u8 0, .int .u8 0, .int .u8 0, .int .u8 0, .int .u8 0, .int .u8 0, .int .u8 0, .int .u8 0, .int .u8 0, .int .u8 0])) (cs := msgE.arr msg0) rfl (by kernel_rfl) rfl) ?_
  clear fr a
  intro b1 w2 hN3 B4 hb5 a fr
  have ne_bw_b1 : NE bw b1 := NE.mk (Nat.lt_of_lt_of_le hW.lt hb5)
  have ne_bh_b1 : NE bh b1 := NE.mk (Nat.lt_of_lt_of_le hH.lt hb5)
  have ne_bi_b1 : NE bi b1 := NE.mk (Nat.lt_of_lt_of_le hI.lt.1 hb5)
  have ne_ig_b1 : NE ig b1 := NE.mk (Nat.lt_of_lt_of_le hI.lt.2 hb5)
  have ap_A_b1 : Apart A b1 := hO.apart hb5
  have g_b1 := Nat.le_trans hF.size hb5
  replace hW := hW.new hN3
  replace hH := hH.new hN3
  replace hI := hI.new hN3
  replace hO := hO.new hN3
  replace hF := hF.trNew hN3
  refine fx_storeS sz36 rfl rfl rfl (fr.ev rfl) (fr.ev rfl) (msgE.all _) B4 (msgE.size _) (msgE.size _) fun w6 hO7 hBq => ?_
  replace hW := hW.only hO7 (by first | exact ne_bw_b1 | exact ne_b1_bw.symm | (show ¬ bw = b1; omega))
  replace hH := hH.only hO7 (by first | exact ne_bh_b1 | exact ne_b1_bh.symm | (show ¬ bh = b1; omega))
  replace hI := hI.only hO7 (by first | exact ne_bi_b1 | exact ne_b1_bi.symm | (show ¬ bi = b1; omega)) (by first | exact ne_ig_b1 | exact ne_b1_ig.symm | (show ¬ ig = b1; omega))
  replace hO := hO.only hO7 (Apart.ne1 ap_A_b1)
  replace hF := hF.loc hO7 (.inr g_b1)
  replace B4 := hBq
  clear hBq
  refine wpList_nil ?_
  refine fx_next ?_
  refine wp_seq ?_
  refine wp_seq ?_
  refine wp_region_lit ?_  -- region 1
  refine fx_val (v := .bool false) fr rfl rfl (by first | decide | simp) (x_move rfl (fr.ev rfl)) ?_
  clear fr a; intro a fr
  refine wpList_nil ?_
  refine fx_next ?_
  refine fx_cond_f fr rfl ?_
  refine wp_skip ?_
  refine fx_next ?_
  refine fx_heldT (n := 9) (k := 9) (fun w => Blk w bw 82 #[.slice A out.length ac, .pointer (some ⟨be, 0, none⟩), .pointer (some ⟨bh, 0, none⟩), .int .u32 line] ∧ Blk w bh 64 #[.pointer (some ⟨bi, 0, none⟩), .map (some r)] ∧ Img 0 w bi ig cap bs ∧ Blk w b1 36 (msgE.arr (mkM kind 4 dst line b16z hln)) ∧ True) (by kernel_rfl) (by kernel_rfl) rfl ?_  -- region 3
  intro w8 hN9
  replace hW := hW.new hN9
  replace hH := hH.new hN9
  replace hI := hI.new hN9
  replace hO := hO.new hN9
  replace B4 := B4.new hN9
  replace hF := hF.trNew hN9
  refine fx_take (i := 0) (v := .pointer (some ⟨bw, 0, none⟩)) fr rfl (by kernel_rfl) rfl rfl (by first | decide | simp) (fun _ _ _ h => h) (fun _ ⟨hW, hH, hI, B4, _⟩ => x_move rfl (fr.ev rfl)) ⟨hW, hH, hI, B4, trivial⟩ ?_
  clear fr a; intro a fr
  refine fx_take (i := 1) (v := .pointer (some ⟨bw, 0, none⟩)) fr rfl (by kernel_rfl) rfl rfl (by first | decide | simp) (fun _ _ _ h => h) (fun _ ⟨hW, hH, hI, B4, _⟩ => x_move rfl (fr.ev rfl)) ⟨hW, hH, hI, B4, trivial⟩ ?_
  clear fr a; intro a fr
  refine fx_take (i := 2) (v := .pointer (some ⟨bw, 0, none⟩)) fr rfl (by kernel_rfl) rfl rfl (by first | decide | simp) (fun _ _ _ h => h) (fun _ ⟨hW, hH, hI, B4, _⟩ => x_nilCheck rfl (fr.ev rfl)) ⟨hW, hH, hI, B4, trivial⟩ ?_
  clear fr a; intro a fr
  refine fx_take (i := 3) (v := .pointer (some ⟨bw, 0, none⟩)) fr rfl (by kernel_rfl) rfl rfl (by first | decide | simp) (fun _ _ _ h => h) (fun _ ⟨hW, hH, hI, B4, _⟩ => x_fieldAddr fo82_0 rfl (fr.ev rfl) rfl) ⟨hW, hH, hI, B4, trivial⟩ ?_
  clear fr a; intro a fr
  refine fx_take (i := 4) (v := .pointer (some ⟨bw, 0, none⟩)) fr rfl (by kernel_rfl) rfl rfl (by first | decide | simp) (fun _ _ _ h => h) (fun _ ⟨hW, hH, hI, B4, _⟩ => x_fieldAddr fo80_0 rfl (fr.ev rfl) rfl) ⟨hW, hH, hI, B4, trivial⟩ ?_
  clear fr a; intro a fr
  refine fx_take (i := 5) (v := .slice A out.length ac) fr rfl (by kernel_rfl) rfl rfl (by first | decide | simp) (fun _ _ _ h => h) (fun _ ⟨hW, hH, hI, B4, _⟩ => x_load1 pl23 rfl (fr.ev rfl) (hW.cell 0 rfl)) ⟨hW, hH, hI, B4, trivial⟩ ?_
  clear fr a; intro a fr
  refine fx_take (i := 6) (v := .agg (msgE.arr (mkM kind 4 dst line b16z hln))) fr rfl (by kernel_rfl) rfl rfl (by first | decide | simp) (fun _ _ _ h => h) (fun _ ⟨hW, hH, hI, B4, _⟩ => x_loadE (E := msgE) ag36 rfl rfl (fr.ev rfl) (B4.rangeE msgE)) ⟨hW, hH, hI, B4, trivial⟩ ?_
  clear fr a; intro a fr
  refine fx_one (i := 7) (by kernel_rfl) (fx_op rfl ?_)
  refine fx_build1 (E := msgE) (p := (mkM kind 4 dst line b16z hln)) elMsg (by decide) fr rfl rfl (by decide) rfl (fr.ev rfl) ?_
  clear fr a
  intro A10 w11 hN12 O13 hA14 a fr
  have ap_A10_bw : Apart A10 bw := new_apart hA14 hW.lt
  have ap_A10_bh : Apart A10 bh := new_apart hA14 hH.lt
  have ap_A10_bi : Apart A10 bi := new_apart hA14 hI.lt.1
  have ap_A10_ig : Apart A10 ig := new_apart hA14 hI.lt.2
  have ap2_A_A10 : Apart2 A A10 := (new_apart2 hA14 fun _ hg => hO.lt hg).symm
  have ap_A10_b1 : Apart A10 b1 := new_apart hA14 B4.lt
  have gA_A10 := gA_new hF hA14
  replace hW := hW.new hN12
  replace hH := hH.new hN12
  replace hI := hI.new hN12
  replace hO := hO.new hN12
  replace B4 := B4.new hN12
  replace hF := hF.trNew hN12
  refine wpList_nil ?_
  refine ⟨⟨hW, hH, hI, B4, trivial⟩, ?_⟩
  refine fx_one (i := 8) (by kernel_rfl) (fx_op rfl ?_)
  refine fx_append (E := msgE) (l := out) (l' := [(mkM kind 4 dst line b16z hln)]) elMsg fr rfl rfl (by decide) rfl (fr.ev rfl) (fr.ev rfl) (by first | rfl | (simp; done) | (simp; omega)) (by first | rfl | (simp; done) | (simp; omega)) hO O13.view (by first | omega | (simp; omega)) (by first | (unfold maxLen; done) | (unfold maxLen; first | omega | (simp only [List.length_append, List.length_cons, List.length_nil]; omega) | (simp; done) | (simp; omega))) ?_
  clear fr a
  intro A15 cap16 w17 O18 hO19 mv20 a fr
  have ap_A15_bw : Apart A15 bw := moved_apart mv20 ap_A_bw hW.lt
  have ap_A15_bh : Apart A15 bh := moved_apart mv20 ap_A_bh hH.lt
  have ap_A15_bi : Apart A15 bi := moved_apart mv20 ap_A_bi hI.lt.1
  have ap_A15_ig : Apart A15 ig := moved_apart mv20 ap_A_ig hI.lt.2
  have ap_A15_b1 : Apart A15 b1 := moved_apart mv20 ap_A_b1 B4.lt
  have ap2_A15_A10 : Apart2 A15 A10 := moved_apart2 mv20 ap2_A_A10 fun _ hg => O13.lt hg
  have gA_A15 := gA_moved hF mv20 gA_A
  replace hW := hW.only hO19 ap_A_bw
  replace hH := hH.only hO19 ap_A_bh
  replace hI := hI.only hO19 ap_A_bi ap_A_ig
  replace B4 := B4.only hO19 ap_A_b1
  replace O13 := O13.only hO19 (fun g h1 h2 => ap2_A_A10.symm g h1 h2)
  replace hF := hF.locA hO19 gA_A
  clear hO
  refine wpList_nil ?_
  refine ⟨⟨hW, hH, hI, B4, trivial⟩, ?_⟩
  refine fx_hdone (by kernel_rfl) ?_
  refine fx_tail ?_
  refine fx_val (v := .pointer (some ⟨bw, 0, none⟩)) fr rfl rfl (by first | decide | simp) (x_nilCheck rfl (fr.ev rfl)) ?_
  clear fr a; intro a fr
  refine fx_val (v := .pointer (some ⟨bw, 0, none⟩)) fr rfl rfl (by first | decide | simp) (x_fieldAddr fo82_0 rfl (fr.ev rfl) rfl) ?_
  clear fr a; intro a fr
  refine fx_val (v := .pointer (some ⟨bw, 0, none⟩)) fr rfl rfl (by first | decide | simp) (x_fieldAddr fo80_0 rfl (fr.ev rfl) rfl) ?_
  clear fr a; intro a fr
  refine fx_store1 sz23 rfl rfl rfl (fr.ev rfl) (fr.ev rfl) rfl hW (show 0 < 4 by decide) (cs' := #[.slice A15 ((out ++ ([(mkM kind 4 dst line b16z hln)])).length) cap16, .pointer (some ⟨be, 0, none⟩), .pointer (some ⟨bh, 0, none⟩), .int .u32 line]) rfl fun w21 hO22 hBq => ?_
  replace hH := hH.only hO22 (by first | exact ne_bh_bw | exact ne_bw_bh.symm | (show ¬ bh = bw; omega))
  replace hI := hI.only hO22 (by first | exact ne_bi_bw | exact ne_bw_bi.symm | (show ¬ bi = bw; omega)) (by first | exact ne_ig_bw | exact ne_bw_ig.symm | (show ¬ ig = bw; omega))
  replace B4 := B4.only hO22 (by first | exact ne_b1_bw | exact ne_bw_b1.symm | (show ¬ b1 = bw; omega))
  replace O13 := O13.only hO22 (Apart.ne1 ap_A10_bw)
  replace O18 := O18.only hO22 (Apart.ne1 ap_A15_bw)
  replace hF := hF.loc hO22 (.inl (.inl rfl))
  replace hW := hBq
  clear hBq
  refine wpList_nil ?_
  refine fx_end fr [] [] rfl trivial rfl ?_
  exact ⟨_, rfl, rfl, A15, cap16, hW, O18, fun k hk => (gA_A15 k hk).elim (fun h => h.elim (fun e => absurd hk (e ▸ ap_A15_bw)) .inl) .inr, hF⟩
set_option maxRecDepth 100000 in
set_option maxHeartbeats 4000000 in
theorem send_b {w : World} {bw be bh bi ig cap r : Nat} {A : Option Addr} {ac : Nat} {line : Int} {out : List Msg} {bs : List UInt8} (hln : 0 ≤ line ∧ line < 4294967296) (hW : Blk w bw 82 #[.slice A out.length ac, .pointer (some ⟨be, 0, none⟩), .pointer (some ⟨bh, 0, none⟩), .int .u32 line]) (hH : Blk w bh 64 #[.pointer (some ⟨bi, 0, none⟩), .map (some r)]) (hI : Img 0 w bi ig cap bs) (hO : Own msgE w A ac out) (ne_bw_bh : NE bw bh) (ne_bw_bi : NE bw bi) (ne_bw_ig : NE bw ig) (ap_A_bw : Apart A bw) (ap_A_bh : Apart A bh) (ap_A_bi : Apart A bi) (ap_A_ig : Apart A ig) (hlen : out.length ≤ 1000000) (kind dst : Int) : Calls Try.prog 53 #[.pointer (some ⟨bw, 0, none⟩), .int .i64 kind, .int .i64 dst, .bool true] w (Ret fun v w' => v = .tuple #[] ∧ ∃ A' ac', Blk w' bw 82 #[.slice A' (out ++ [(mkM kind 4 dst line (lineB bs line) hln)]).length ac', .pointer (some ⟨be, 0, none⟩), .pointer (some ⟨bh, 0, none⟩), .int .u32 line] ∧ Own msgE w' A' ac' (out ++ [(mkM kind 4 dst line (lineB bs line) hln)]) ∧ (∀ k, inA A' k → inA A k ∨ w.heap.size ≤ k) ∧ Only (fun k => k = bw ∨ inA A k) w w') := by
  have gA_A : ∀ g, inA A g → (g = bw ∨ inA A g) ∨ w.heap.size ≤ g := fun g hg => .inl (.inr hg)
  have hF := Only.refl (fun k => k = bw ∨ inA A k) w
  refine fx_enter Try.func53 rfl (N := (45, [])) (T := [(0, .pointer (some ⟨bw, 0, none⟩)), (1, .int .i64 kind), (2, .int .i64 dst), (3, .bool true)]) rfl (show 4 ≤ 45 by decide) ⟨rfl, rfl, rfl, rfl, trivial⟩ fun a fr => ?_
  refine wp_seq ?_
  refine wp_region_lit ?_  -- region 0
  refine fx_val (v := .int .i64 kind) fr rfl rfl (by first | decide | simp) (x_move rfl (fr.ev rfl)) ?_
  clear fr a; intro a fr
  refine fx_val (v := .int .i64 dst) fr rfl rfl (by first | decide | simp) (x_move rfl (fr.ev rfl)) ?_
  clear fr a; intro a fr
  refine fx_val (v := .pointer (some ⟨bw, 0, none⟩)) fr rfl rfl (by first | decide | simp) (x_move rfl (fr.ev rfl)) ?_
  clear fr a; intro a fr
  refine fx_val (v := .pointer (some ⟨bw, 0, none⟩)) fr rfl rfl (by first | decide | simp) (x_nilCheck rfl (fr.ev rfl)) ?_
  clear fr a; intro a fr
  refine fx_val (v := .pointer (some ⟨bw, 3, none⟩)) fr rfl rfl (by first | decide | simp) (x_fieldAddr fo82_3 rfl (fr.ev rfl) rfl) ?_
  clear fr a; intro a fr
  refine fx_val (v := .int .u32 line) fr rfl rfl (by first | decide | simp) (x_load1 pl24 rfl (fr.ev rfl) (hW.cell 3 rfl)) ?_
  clear fr a; intro a fr
  refine fx_val (v := .agg (msgE.arr (mkM kind 4 dst line b16z hln))) fr rfl rfl (by first | decide | simp) (x_build (cells := msgE.arr (mkM kind 4 dst line b16z hln)) rfl (by simp only [List.map_toArray, List.map_cons, List.map_nil, show a.eval (.tmp 9) = .int .i64 kind from fr.ev rfl, show a.eval (.tmp 10) = .int .i64 dst from fr.ev rfl, show a.eval (.tmp 14) = .int .u32 line from fr.ev rfl]; kernel_rfl)) ?_
  clear fr a; intro a fr
  refine fx_new fr rfl rfl (by first | decide | simp) (x_alloc (z := .agg (#[.int .i64 0, .int .i64 0, .int .i64 0, .int .u32 0, .int .u8 0, .int .u8 0, .int .u8 0, .int .u8 0, .int .u8 0, .int .u8 0, .int .u8 0, .int .u8 0, .int .u8 0, .int .u8 0, .int .u8 0, .int .u8 0, .int .u8 0, .int .u8 0, .int .u8 0, .int .u8 0])) (cs := msgE.arr msg0) rfl (by kernel_rfl) rfl) ?_
  clear fr a
  intro b1 w2 hN3 B4 hb5 a fr
  have ne_bw_b1 : NE bw b1 := NE.mk (Nat.lt_of_lt_of_le hW.lt hb5)
  have ne_bh_b1 : NE bh b1 := NE.mk (Nat.lt_of_lt_of_le hH.lt hb5)
  have ne_bi_b1 : NE bi b1 := NE.mk (Nat.lt_of_lt_of_le hI.lt.1 hb5)
  have ne_ig_b1 : NE ig b1 := NE.mk (Nat.lt_of_lt_of_le hI.lt.2 hb5)
  have ap_A_b1 : Apart A b1 := hO.apart hb5
  have g_b1 := Nat.le_trans hF.size hb5
  replace hW := hW.new hN3
  replace hH := hH.new hN3
  replace hI := hI.new hN3
  replace hO := hO.new hN3
  replace hF := hF.trNew hN3
  refine fx_storeS sz36 rfl rfl rfl (fr.ev rfl) (fr.ev rfl) (msgE.all _) B4 (msgE.size _) (msgE.size _) fun w6 hO7 hBq => ?_
  replace hW := hW.only hO7 (by first | exact ne_bw_b1 | exact ne_b1_bw.symm | (show ¬ bw = b1; omega))
  replace hH := hH.only hO7 (by first | exact ne_bh_b1 | exact ne_b1_bh.symm | (show ¬ bh = b1; omega))
  replace hI := hI.only hO7 (by first | exact ne_bi_b1 | exact ne_b1_bi.symm | (show ¬ bi = b1; omega)) (by first | exact ne_ig_b1 | exact ne_b1_ig.symm | (show ¬ ig = b1; omega))
  replace hO := hO.only hO7 (Apart.ne1 ap_A_b1)
  replace hF := hF.loc hO7 (.inr g_b1)
  replace B4 := hBq
  clear hBq
  refine wpList_nil ?_
  refine fx_next ?_
  refine wp_seq ?_
  refine wp_seq ?_
  refine wp_region_lit ?_  -- region 1
  refine fx_val (v := .bool true) fr rfl rfl (by first | decide | simp) (x_move rfl (fr.ev rfl)) ?_
  clear fr a; intro a fr
  refine wpList_nil ?_
  refine fx_next ?_
  refine fx_cond_t fr rfl ?_
  refine fx_held (n := 17) (fun w => Blk w bw 82 #[.slice A out.length ac, .pointer (some ⟨be, 0, none⟩), .pointer (some ⟨bh, 0, none⟩), .int .u32 line] ∧ Blk w bh 64 #[.pointer (some ⟨bi, 0, none⟩), .map (some r)] ∧ Img 0 w bi ig cap bs ∧ Own msgE w A ac out ∧ True) (by kernel_rfl) rfl ?_  -- region 2
  intro w8 hN9
  replace hW := hW.new hN9
  replace hH := hH.new hN9
  replace hI := hI.new hN9
  replace hO := hO.new hN9
  replace B4 := B4.new hN9
  replace hF := hF.trNew hN9
  refine fx_take (i := 0) (v := .pointer (some ⟨bw, 0, none⟩)) fr rfl (by kernel_rfl) rfl rfl (by first | decide | simp) (fun _ _ _ h => h) (fun _ ⟨hW, hH, hI, hO, _⟩ => x_move rfl (fr.ev rfl)) ⟨hW, hH, hI, hO, trivial⟩ ?_
  clear fr a; intro a fr
  refine fx_take (i := 1) (v := .pointer (some ⟨bw, 0, none⟩)) fr rfl (by kernel_rfl) rfl rfl (by first | decide | simp) (fun _ _ _ h => h) (fun _ ⟨hW, hH, hI, hO, _⟩ => x_nilCheck rfl (fr.ev rfl)) ⟨hW, hH, hI, hO, trivial⟩ ?_
  clear fr a; intro a fr
  refine fx_take (i := 2) (v := .pointer (some ⟨bw, 2, none⟩)) fr rfl (by kernel_rfl) rfl rfl (by first | decide | simp) (fun _ _ _ h => h) (fun _ ⟨hW, hH, hI, hO, _⟩ => x_fieldAddr fo82_2 rfl (fr.ev rfl) rfl) ⟨hW, hH, hI, hO, trivial⟩ ?_
  clear fr a; intro a fr
  refine fx_take (i := 3) (v := .pointer (some ⟨bh, 0, none⟩)) fr rfl (by kernel_rfl) rfl rfl (by first | decide | simp) (fun _ _ _ h => h) (fun _ ⟨hW, hH, hI, hO, _⟩ => x_load1 pl25 rfl (fr.ev rfl) (hW.cell 2 rfl)) ⟨hW, hH, hI, hO, trivial⟩ ?_
  clear fr a; intro a fr
  refine fx_take (i := 4) (v := .pointer (some ⟨bh, 0, none⟩)) fr rfl (by kernel_rfl) rfl rfl (by first | decide | simp) (fun _ _ _ h => h) (fun _ ⟨hW, hH, hI, hO, _⟩ => x_nilCheck rfl (fr.ev rfl)) ⟨hW, hH, hI, hO, trivial⟩ ?_
  clear fr a; intro a fr
  refine fx_take (i := 5) (v := .pointer (some ⟨bh, 0, none⟩)) fr rfl (by kernel_rfl) rfl rfl (by first | decide | simp) (fun _ _ _ h => h) (fun _ ⟨hW, hH, hI, hO, _⟩ => x_fieldAddr fo64_0 rfl (fr.ev rfl) rfl) ⟨hW, hH, hI, hO, trivial⟩ ?_
  clear fr a; intro a fr
  refine fx_take (i := 6) (v := .pointer (some ⟨bi, 0, none⟩)) fr rfl (by kernel_rfl) rfl rfl (by first | decide | simp) (fun _ _ _ h => h) (fun _ ⟨hW, hH, hI, hO, _⟩ => x_load1 pl61 rfl (fr.ev rfl) (hH.cell 0 rfl)) ⟨hW, hH, hI, hO, trivial⟩ ?_
  clear fr a; intro a fr
  refine fx_take (i := 7) (v := .pointer (some ⟨bw, 0, none⟩)) fr rfl (by kernel_rfl) rfl rfl (by first | decide | simp) (fun _ _ _ h => h) (fun _ ⟨hW, hH, hI, hO, _⟩ => x_move rfl (fr.ev rfl)) ⟨hW, hH, hI, hO, trivial⟩ ?_
  clear fr a; intro a fr
  refine fx_take (i := 8) (v := .pointer (some ⟨bw, 0, none⟩)) fr rfl (by kernel_rfl) rfl rfl (by first | decide | simp) (fun _ _ _ h => h) (fun _ ⟨hW, hH, hI, hO, _⟩ => x_nilCheck rfl (fr.ev rfl)) ⟨hW, hH, hI, hO, trivial⟩ ?_
  clear fr a; intro a fr
  refine fx_take (i := 9) (v := .pointer (some ⟨bw, 3, none⟩)) fr rfl (by kernel_rfl) rfl rfl (by first | decide | simp) (fun _ _ _ h => h) (fun _ ⟨hW, hH, hI, hO, _⟩ => x_fieldAddr fo82_3 rfl (fr.ev rfl) rfl) ⟨hW, hH, hI, hO, trivial⟩ ?_
  clear fr a; intro a fr
  refine fx_take (i := 10) (v := .int .u32 line) fr rfl (by kernel_rfl) rfl rfl (by first | decide | simp) (fun _ _ _ h => h) (fun _ ⟨hW, hH, hI, hO, _⟩ => x_load1 pl24 rfl (fr.ev rfl) (hW.cell 3 rfl)) ⟨hW, hH, hI, hO, trivial⟩ ?_
  clear fr a; intro a fr
  refine fx_one (i := 11) (by kernel_rfl) (fx_op rfl ?_)
  refine fx_call fr rfl rfl (by first | decide | simp) (x_call (vs := [.pointer (some ⟨bi, 0, none⟩), .int .u32 line]) rfl rfl ⟨(fr.ev rfl), (fr.ev rfl), trivial⟩ Try.func65 nm65 rfl) (hline_c line (by omega) hI) ?_
  clear fr a
  rintro v w10 ⟨rfl, hN11⟩ a fr
  replace hW := hW.new hN11
  replace hH := hH.new hN11
  replace hI := hI.new hN11
  replace hO := hO.new hN11
  replace B4 := B4.new hN11
  replace hF := hF.trNew hN11
  refine wpList_nil ?_
  refine ⟨⟨hW, hH, hI, hO, trivial⟩, ?_⟩
  refine fx_take (i := 12) (v := .tuple #[.agg (bsE.arr (lineB bs line)), .int .i64 (lineErr bs.length line.toNat)]) fr rfl (by kernel_rfl) rfl rfl (by first | decide | simp) (fun _ _ _ h => h) (fun _ ⟨hW, hH, hI, hO, _⟩ => x_move rfl (fr.ev rfl)) ⟨hW, hH, hI, hO, trivial⟩ ?_
  clear fr a; intro a fr
  refine fx_take (i := 13) (v := .agg (bsE.arr (lineB bs line))) fr rfl (by kernel_rfl) rfl rfl (by first | decide | simp) (fun _ _ _ h => h) (fun _ ⟨hW, hH, hI, hO, _⟩ => x_extract rfl (fr.ev rfl) rfl) ⟨hW, hH, hI, hO, trivial⟩ ?_
  clear fr a; intro a fr
  refine fx_take (i := 14) (v := .int .i64 (lineErr bs.length line.toNat)) fr rfl (by kernel_rfl) rfl rfl (by first | decide | simp) (fun _ _ _ h => h) (fun _ ⟨hW, hH, hI, hO, _⟩ => x_extract rfl (fr.ev rfl) rfl) ⟨hW, hH, hI, hO, trivial⟩ ?_
  clear fr a; intro a fr
  refine fx_take (i := 15) (v := .pointer (some ⟨b1, 4, none⟩)) fr rfl (by kernel_rfl) rfl rfl (by first | decide | simp) (fun _ _ _ h => h) (fun _ ⟨hW, hH, hI, hO, _⟩ => x_fieldAddr fo36_4 rfl (fr.ev rfl) rfl) ⟨hW, hH, hI, hO, trivial⟩ ?_
  clear fr a; intro a fr
  refine fx_one (i := 16) (by kernel_rfl) (fx_op rfl ?_)
  refine fx_storePart (E := msgE) (E2 := bsE) (q := 4) (m := (mkM kind 4 dst line b16z hln)) (m' := { (mkM kind 4 dst line b16z hln) with bs := (lineB bs line) }) (z := (lineB bs line)) sz34 rfl rfl rfl (fr.ev rfl) (fr.ev rfl) B4 (by decide) (msg_setbs _ _) fun w12 hO13 hBq => ?_
  replace hW := hW.only hO13 (by first | exact ne_bw_b1 | exact ne_b1_bw.symm | (show ¬ bw = b1; omega))
  replace hH := hH.only hO13 (by first | exact ne_bh_b1 | exact ne_b1_bh.symm | (show ¬ bh = b1; omega))
  replace hI := hI.only hO13 (by first | exact ne_bi_b1 | exact ne_b1_bi.symm | (show ¬ bi = b1; omega)) (by first | exact ne_ig_b1 | exact ne_b1_ig.symm | (show ¬ ig = b1; omega))
  replace hO := hO.only hO13 (Apart.ne1 ap_A_b1)
  replace hF := hF.loc hO13 (.inr g_b1)
  replace B4 := hBq
  clear hBq
  refine wpList_nil ?_
  refine ⟨⟨hW, hH, hI, hO, trivial⟩, ?_⟩
  refine fx_hdone (by kernel_rfl) ?_
  refine fx_next ?_
  refine fx_heldT (n := 9) (k := 9) (fun w => Blk w bw 82 #[.slice A out.length ac, .pointer (some ⟨be, 0, none⟩), .pointer (some ⟨bh, 0, none⟩), .int .u32 line] ∧ Blk w bh 64 #[.pointer (some ⟨bi, 0, none⟩), .map (some r)] ∧ Img 0 w bi ig cap bs ∧ Blk w b1 36 (msgE.arr { (mkM kind 4 dst line b16z hln) with bs := (lineB bs line) }) ∧ True) (by kernel_rfl) (by kernel_rfl) rfl ?_  -- region 3
  intro w14 hN15
  replace hW := hW.new hN15
  replace hH := hH.new hN15
  replace hI := hI.new hN15
  replace hO := hO.new hN15
  replace B4 := B4.new hN15
  replace hF := hF.trNew hN15
  refine fx_take (i := 0) (v := .pointer (some ⟨bw, 0, none⟩)) fr rfl (by kernel_rfl) rfl rfl (by first | decide | simp) (fun _ _ _ h => h) (fun _ ⟨hW, hH, hI, B4, _⟩ => x_move rfl (fr.ev rfl)) ⟨hW, hH, hI, B4, trivial⟩ ?_
  clear fr a; intro a fr
  refine fx_take (i := 1) (v := .pointer (some ⟨bw, 0, none⟩)) fr rfl (by kernel_rfl) rfl rfl (by first | decide | simp) (fun _ _ _ h => h) (fun _ ⟨hW, hH, hI, B4, _⟩ => x_move rfl (fr.ev rfl)) ⟨hW, hH, hI, B4, trivial⟩ ?_
  clear fr a; intro a fr
  refine fx_take (i := 2) (v := .pointer (some ⟨bw, 0, none⟩)) fr rfl (by kernel_rfl) rfl rfl (by first | decide | simp) (fun _ _ _ h => h) (fun _ ⟨hW, hH, hI, B4, _⟩ => x_nilCheck rfl (fr.ev rfl)) ⟨hW, hH, hI, B4, trivial⟩ ?_
  clear fr a; intro a fr
  refine fx_take (i := 3) (v := .pointer (some ⟨bw, 0, none⟩)) fr rfl (by kernel_rfl) rfl rfl (by first | decide | simp) (fun _ _ _ h => h) (fun _ ⟨hW, hH, hI, B4, _⟩ => x_fieldAddr fo82_0 rfl (fr.ev rfl) rfl) ⟨hW, hH, hI, B4, trivial⟩ ?_
  clear fr a; intro a fr
  refine fx_take (i := 4) (v := .pointer (some ⟨bw, 0, none⟩)) fr rfl (by kernel_rfl) rfl rfl (by first | decide | simp) (fun _ _ _ h => h) (fun _ ⟨hW, hH, hI, B4, _⟩ => x_fieldAddr fo80_0 rfl (fr.ev rfl) rfl) ⟨hW, hH, hI, B4, trivial⟩ ?_
  clear fr a; intro a fr
  refine fx_take (i := 5) (v := .slice A out.length ac) fr rfl (by kernel_rfl) rfl rfl (by first | decide | simp) (fun _ _ _ h => h) (fun _ ⟨hW, hH, hI, B4, _⟩ => x_load1 pl23 rfl (fr.ev rfl) (hW.cell 0 rfl)) ⟨hW, hH, hI, B4, trivial⟩ ?_
  clear fr a; intro a fr
  refine fx_take (i := 6) (v := .agg (msgE.arr { (mkM kind 4 dst line b16z hln) with bs := (lineB bs line) })) fr rfl (by kernel_rfl) rfl rfl (by first | decide | simp) (fun _ _ _ h => h) (fun _ ⟨hW, hH, hI, B4, _⟩ => x_loadE (E := msgE) ag36 rfl rfl (fr.ev rfl) (B4.rangeE msgE)) ⟨hW, hH, hI, B4, trivial⟩ ?_
  clear fr a; intro a fr
  refine fx_one (i := 7) (by kernel_rfl) (fx_op rfl ?_)
  refine fx_build1 (E := msgE) (p := { (mkM kind 4 dst line b16z hln) with bs := (lineB bs line) }) elMsg (by decide) fr rfl rfl (by decide) rfl (fr.ev rfl) ?_
  clear fr a
  intro A16 w17 hN18 O19 hA20 a fr
  have ap_A16_bw : Apart A16 bw := new_apart hA20 hW.lt
  have ap_A16_bh : Apart A16 bh := new_apart hA20 hH.lt
  have ap_A16_bi : Apart A16 bi := new_apart hA20 hI.lt.1
  have ap_A16_ig : Apart A16 ig := new_apart hA20 hI.lt.2
  have ap2_A_A16 : Apart2 A A16 := (new_apart2 hA20 fun _ hg => hO.lt hg).symm
  have ap_A16_b1 : Apart A16 b1 := new_apart hA20 B4.lt
  have gA_A16 := gA_new hF hA20
  replace hW := hW.new hN18
  replace hH := hH.new hN18
  replace hI := hI.new hN18
  replace hO := hO.new hN18
  replace B4 := B4.new hN18
  replace hF := hF.trNew hN18
  refine wpList_nil ?_
  refine ⟨⟨hW, hH, hI, B4, trivial⟩, ?_⟩
  refine fx_one (i := 8) (by kernel_rfl) (fx_op rfl ?_)
  refine fx_append (E := msgE) (l := out) (l' := [{ (mkM kind 4 dst line b16z hln) with bs := (lineB bs line) }]) elMsg fr rfl rfl (by decide) rfl (fr.ev rfl) (fr.ev rfl) (by first | rfl | (simp; done) | (simp; omega)) (by first | rfl | (simp; done) | (simp; omega)) hO O19.view (by first | omega | (simp; omega)) (by first | (unfold maxLen; done) | (unfold maxLen; first | omega | (simp only [List.length_append, List.length_cons, List.length_nil]; omega) | (simp; done) | (simp; omega))) ?_
  clear fr a
  intro A21 cap22 w23 O24 hO25 mv26 a fr
  have ap_A21_bw : Apart A21 bw := moved_apart mv26 ap_A_bw hW.lt
  have ap_A21_bh : Apart A21 bh := moved_apart mv26 ap_A_bh hH.lt
  have ap_A21_bi : Apart A21 bi := moved_apart mv26 ap_A_bi hI.lt.1
  have ap_A21_ig : Apart A21 ig := moved_apart mv26 ap_A_ig hI.lt.2
  have ap_A21_b1 : Apart A21 b1 := moved_apart mv26 ap_A_b1 B4.lt
  have ap2_A21_A16 : Apart2 A21 A16 := moved_apart2 mv26 ap2_A_A16 fun _ hg => O19.lt hg
  have gA_A21 := gA_moved hF mv26 gA_A
  replace hW := hW.only hO25 ap_A_bw
  replace hH := hH.only hO25 ap_A_bh
  replace hI := hI.only hO25 ap_A_bi ap_A_ig
  replace B4 := B4.only hO25 ap_A_b1
  replace O19 := O19.only hO25 (fun g h1 h2 => ap2_A_A16.symm g h1 h2)
  replace hF := hF.locA hO25 gA_A
  clear hO
  refine wpList_nil ?_
  refine ⟨⟨hW, hH, hI, B4, trivial⟩, ?_⟩
  refine fx_hdone (by kernel_rfl) ?_
  refine fx_tail ?_
  refine fx_val (v := .pointer (some ⟨bw, 0, none⟩)) fr rfl rfl (by first | decide | simp) (x_nilCheck rfl (fr.ev rfl)) ?_
  clear fr a; intro a fr
  refine fx_val (v := .pointer (some ⟨bw, 0, none⟩)) fr rfl rfl (by first | decide | simp) (x_fieldAddr fo82_0 rfl (fr.ev rfl) rfl) ?_
  clear fr a; intro a fr
  refine fx_val (v := .pointer (some ⟨bw, 0, none⟩)) fr rfl rfl (by first | decide | simp) (x_fieldAddr fo80_0 rfl (fr.ev rfl) rfl) ?_
  clear fr a; intro a fr
  refine fx_store1 sz23 rfl rfl rfl (fr.ev rfl) (fr.ev rfl) rfl hW (show 0 < 4 by decide) (cs' := #[.slice A21 ((out ++ ([{ (mkM kind 4 dst line b16z hln) with bs := (lineB bs line) }])).length) cap22, .pointer (some ⟨be, 0, none⟩), .pointer (some ⟨bh, 0, none⟩), .int .u32 line]) rfl fun w27 hO28 hBq => ?_
  replace hH := hH.only hO28 (by first | exact ne_bh_bw | exact ne_bw_bh.symm | (show ¬ bh = bw; omega))
  replace hI := hI.only hO28 (by first | exact ne_bi_bw | exact ne_bw_bi.symm | (show ¬ bi = bw; omega)) (by first | exact ne_ig_bw | exact ne_bw_ig.symm | (show ¬ ig = bw; omega))
  replace B4 := B4.only hO28 (by first | exact ne_b1_bw | exact ne_bw_b1.symm | (show ¬ b1 = bw; omega))
  replace O19 := O19.only hO28 (Apart.ne1 ap_A16_bw)
  replace O24 := O24.only hO28 (Apart.ne1 ap_A21_bw)
  replace hF := hF.loc hO28 (.inl (.inl rfl))
  replace hW := hBq
  clear hBq
  refine wpList_nil ?_
  refine fx_end fr [] [] rfl trivial rfl ?_
  exact ⟨_, rfl, rfl, A21, cap22, hW, O24, fun k hk => (gA_A21 k hk).elim (fun h => h.elim (fun e => absurd hk (e ▸ ap_A21_bw)) .inl) .inr, hF⟩
end Go.Proofs.Ytdiaemlgghfecaa
namespace Go.Proofs.Ytdiaemlgghfecaa
open Go.RowKit
set_option maxRecDepth 100000 in
set_option maxHeartbeats 4000000 in
theorem write_c {w : World} {bw be bh bi ig cap r : Nat} {line : Int} {d : Ent} {Q : Option Addr} {qc : Nat} {A : Option Addr} {ac : Nat} {out : List Msg} {bs : List UInt8} (R : WorkR w bw be bh bi ig cap r line d Q qc A ac out bs) (hln : 0 ≤ line ∧ line < 4294967296) (hlen : out.length + 8 ≤ 1000000)  : Calls Try.prog 51 #[.pointer (some ⟨bw, 0, none⟩)] w (Ret fun v w' => v = .tuple #[] ∧ WRet w w' bw be bh bi ig cap r line Q qc A out ({ ownF d d.asks with told := true }) bs ([mkM 10 4 d.asks line (lineB bs line) hln])) := by
  obtain ⟨hW, hE, hH, hI, hQ, hO, hS⟩ := R
  have ne_bw_be := hS.ne_bw_be
  have ne_bw_bh := hS.ne_bw_bh
  have ne_bw_bi := hS.ne_bw_bi
  have ne_bw_ig := hS.ne_bw_ig
  have ne_be_bh := hS.ne_be_bh
  have ne_be_bi := hS.ne_be_bi
  have ne_be_ig := hS.ne_be_ig
  have ne_bh_bi := hS.ne_bh_bi
  have ne_bh_ig := hS.ne_bh_ig
  have ne_bi_ig := hS.ne_bi_ig
  have ap_Q_bw := hS.ap_Q_bw
  have ap_Q_be := hS.ap_Q_be
  have ap_Q_bh := hS.ap_Q_bh
  have ap_Q_bi := hS.ap_Q_bi
  have ap_Q_ig := hS.ap_Q_ig
  have ap_A_bw := hS.ap_A_bw
  have ap_A_be := hS.ap_A_be
  have ap_A_bh := hS.ap_A_bh
  have ap_A_bi := hS.ap_A_bi
  have ap_A_ig := hS.ap_A_ig
  have ap2_Q_A := hS.ap2_Q_A
  have gA_A : ∀ g, inA A g → (g = bw ∨ g = be ∨ g = ig ∨ inA A g) ∨ w.heap.size ≤ g := fun g hg => .inl (.inr (.inr (.inr hg)))
  have hF := Only.refl (fun k => k = bw ∨ k = be ∨ k = ig ∨ inA A k) w
  refine fx_enter Try.func51 rfl (N := (26, [])) (T := [(0, .pointer (some ⟨bw, 0, none⟩))]) rfl (show 1 ≤ 26 by decide) ⟨rfl, trivial⟩ fun a fr => ?_
  refine wp_seq ?_
  refine wp_region_lit ?_  -- region 0
  refine fx_val (v := .pointer (some ⟨bw, 0, none⟩)) fr rfl rfl (by first | decide | simp) (x_move rfl (fr.ev rfl)) ?_
  clear fr a; intro a fr
  refine fx_val (v := .pointer (some ⟨bw, 0, none⟩)) fr rfl rfl (by first | decide | simp) (x_move rfl (fr.ev rfl)) ?_
  clear fr a; intro a fr
  refine fx_val (v := .pointer (some ⟨bw, 0, none⟩)) fr rfl rfl (by first | decide | simp) (x_nilCheck rfl (fr.ev rfl)) ?_
  clear fr a; intro a fr
  refine fx_val (v := .pointer (some ⟨bw, 1, none⟩)) fr rfl rfl (by first | decide | simp) (x_fieldAddr fo82_1 rfl (fr.ev rfl) rfl) ?_
  clear fr a; intro a fr
  refine fx_val (v := .pointer (some ⟨be, 0, none⟩)) fr rfl rfl (by first | decide | simp) (x_load1 pl78 rfl (fr.ev rfl) (hW.cell 1 rfl)) ?_
  clear fr a; intro a fr
  refine fx_val (v := .pointer (some ⟨be, 0, none⟩)) fr rfl rfl (by first | decide | simp) (x_nilCheck rfl (fr.ev rfl)) ?_
  clear fr a; intro a fr
  refine fx_val (v := .pointer (some ⟨be, 6, none⟩)) fr rfl rfl (by first | decide | simp) (x_fieldAddr fo42_3 rfl (fr.ev rfl) rfl) ?_
  clear fr a; intro a fr
  refine fx_val (v := .int .i64 d.asks) fr rfl rfl (by first | decide | simp) (x_load1 pl3 rfl (fr.ev rfl) (hE.cell 6 rfl)) ?_
  clear fr a; intro a fr
  refine fx_call fr rfl rfl (by first | decide | simp) (x_call (vs := [.pointer (some ⟨bw, 0, none⟩), .int .i64 d.asks]) rfl rfl ⟨(fr.ev rfl), (fr.ev rfl), trivial⟩ Try.func52 nm52 rfl) (own_c hW hE ne_bw_be d.asks) ?_
  clear fr a
  rintro v w2 ⟨rfl, hEn1, hN3⟩ a fr
  replace hW := hW.only hN3 (by first | exact ne_bw_be | exact ne_be_bw.symm | (show ¬ bw = be; omega))
  replace hH := hH.only hN3 (by first | exact ne_bh_be | exact ne_be_bh.symm | (show ¬ bh = be; omega))
  replace hI := hI.only hN3 (by first | exact ne_bi_be | exact ne_be_bi.symm | (show ¬ bi = be; omega)) (by first | exact ne_ig_be | exact ne_be_ig.symm | (show ¬ ig = be; omega))
  replace hQ := hQ.only hN3 (Apart.ne1 ap_Q_be)
  replace hO := hO.only hN3 (Apart.ne1 ap_A_be)
  replace hF := hF.loc hN3 (.inl (.inr (.inl rfl)))
  replace hE := hEn1
  clear hEn1
  refine wpList_nil ?_
  refine fx_next ?_
  refine wp_seq ?_
  refine wp_region_lit ?_  -- region 1
  refine fx_val (v := .pointer (some ⟨bw, 0, none⟩)) fr rfl rfl (by first | decide | simp) (x_move rfl (fr.ev rfl)) ?_
  clear fr a; intro a fr
  refine fx_val (v := .pointer (some ⟨bw, 0, none⟩)) fr rfl rfl (by first | decide | simp) (x_move rfl (fr.ev rfl)) ?_
  clear fr a; intro a fr
  refine fx_val (v := .pointer (some ⟨bw, 0, none⟩)) fr rfl rfl (by first | decide | simp) (x_nilCheck rfl (fr.ev rfl)) ?_
  clear fr a; intro a fr
  refine fx_val (v := .pointer (some ⟨bw, 1, none⟩)) fr rfl rfl (by first | decide | simp) (x_fieldAddr fo82_1 rfl (fr.ev rfl) rfl) ?_
  clear fr a; intro a fr
  refine fx_val (v := .pointer (some ⟨be, 0, none⟩)) fr rfl rfl (by first | decide | simp) (x_load1 pl78 rfl (fr.ev rfl) (hW.cell 1 rfl)) ?_
  clear fr a; intro a fr
  refine fx_val (v := .pointer (some ⟨be, 0, none⟩)) fr rfl rfl (by first | decide | simp) (x_nilCheck rfl (fr.ev rfl)) ?_
  clear fr a; intro a fr
  refine fx_val (v := .pointer (some ⟨be, 6, none⟩)) fr rfl rfl (by first | decide | simp) (x_fieldAddr fo42_3 rfl (fr.ev rfl) rfl) ?_
  clear fr a; intro a fr
  refine fx_val (v := .int .i64 d.asks) fr rfl rfl (by first | decide | simp) (x_load1 pl3 rfl (fr.ev rfl) (hE.cell 6 rfl)) ?_
  clear fr a; intro a fr
  refine fx_call fr rfl rfl (by first | decide | simp) (x_call (vs := [.pointer (some ⟨bw, 0, none⟩), .int .i64 10, .int .i64 d.asks, .bool true]) rfl rfl ⟨(fr.ev rfl), rfl, (fr.ev rfl), rfl, trivial⟩ Try.func53 nm53 rfl) (send_b hln hW hH hI hO ne_bw_bh ne_bw_bi ne_bw_ig ap_A_bw ap_A_bh ap_A_bi ap_A_ig (by first | omega | (simp only [List.length_append, List.length_cons, List.length_nil, List.length_map, List.length_take]; omega)) 10 d.asks) ?_
  clear fr a
  rintro v w9 ⟨rfl, A4, ac5, hWn6, O7, mv8, hN10⟩ a fr
  have ap_A4_bw : Apart A4 bw := moved_apart mv8 ap_A_bw hW.lt
  have ap_A4_bh : Apart A4 bh := moved_apart mv8 ap_A_bh hH.lt
  have ap_A4_bi : Apart A4 bi := moved_apart mv8 ap_A_bi hI.lt.1
  have ap_A4_ig : Apart A4 ig := moved_apart mv8 ap_A_ig hI.lt.2
  have ap2_A4_Q : Apart2 A4 Q := moved_apart2 mv8 ap2_Q_A.symm fun _ hg => hQ.lt hg
  have ap_A4_be : Apart A4 be := moved_apart mv8 ap_A_be hE.lt
  have gA_A4 := gA_moved hF mv8 gA_A
  replace hH := hH.only hN10 (fun h => h.elim (by first | exact ne_bh_bw | exact ne_bw_bh.symm | (show ¬ bh = bw; omega)) ap_A_bh)
  replace hI := hI.only hN10 (fun h => h.elim (by first | exact ne_bi_bw | exact ne_bw_bi.symm | (show ¬ bi = bw; omega)) ap_A_bi) (fun h => h.elim (by first | exact ne_ig_bw | exact ne_bw_ig.symm | (show ¬ ig = bw; omega)) ap_A_ig)
  replace hQ := hQ.only hN10 (fun g hg => (fun h => h.elim ((Apart.ne1 ap_Q_bw) g hg) ((fun g h1 h2 => ap2_Q_A g h1 h2) g hg)))
  replace hE := hE.only hN10 (fun h => h.elim (by first | exact ne_be_bw | exact ne_bw_be.symm | (show ¬ be = bw; omega)) ap_A_be)
  replace hF := hF.loc2 hN10 (.inl (.inl rfl)) gA_A
  clear hW hO
  have hW := hWn6
  clear hWn6
  refine wpList_nil ?_
  refine fx_next ?_
  refine wp_region_lit ?_  -- region 2
  refine fx_val (v := .pointer (some ⟨bw, 0, none⟩)) fr rfl rfl (by first | decide | simp) (x_move rfl (fr.ev rfl)) ?_
  clear fr a; intro a fr
  refine fx_val (v := .pointer (some ⟨bw, 0, none⟩)) fr rfl rfl (by first | decide | simp) (x_nilCheck rfl (fr.ev rfl)) ?_
  clear fr a; intro a fr
  refine fx_val (v := .pointer (some ⟨bw, 1, none⟩)) fr rfl rfl (by first | decide | simp) (x_fieldAddr fo82_1 rfl (fr.ev rfl) rfl) ?_
  clear fr a; intro a fr
  refine fx_val (v := .pointer (some ⟨be, 0, none⟩)) fr rfl rfl (by first | decide | simp) (x_load1 pl78 rfl (fr.ev rfl) (hW.cell 1 rfl)) ?_
  clear fr a; intro a fr
  refine fx_val (v := .pointer (some ⟨be, 0, none⟩)) fr rfl rfl (by first | decide | simp) (x_nilCheck rfl (fr.ev rfl)) ?_
  clear fr a; intro a fr
  refine fx_val (v := .pointer (some ⟨be, 9, none⟩)) fr rfl rfl (by first | decide | simp) (x_fieldAddr fo42_6 rfl (fr.ev rfl) rfl) ?_
  clear fr a; intro a fr
  refine fx_store1 sz4 rfl rfl rfl (fr.ev rfl) rfl rfl hE (show 9 < 11 by decide) (cs' := entA ({ ownF d d.asks with told := true }) (.slice Q d.q.length qc)) rfl fun w11 hO12 hBq => ?_
  replace hH := hH.only hO12 (by first | exact ne_bh_be | exact ne_be_bh.symm | (show ¬ bh = be; omega))
  replace hI := hI.only hO12 (by first | exact ne_bi_be | exact ne_be_bi.symm | (show ¬ bi = be; omega)) (by first | exact ne_ig_be | exact ne_be_ig.symm | (show ¬ ig = be; omega))
  replace hQ := hQ.only hO12 (Apart.ne1 ap_Q_be)
  replace hW := hW.only hO12 (by first | exact ne_bw_be | exact ne_be_bw.symm | (show ¬ bw = be; omega))
  replace O7 := O7.only hO12 (Apart.ne1 ap_A4_be)
  replace hF := hF.loc hO12 (.inl (.inr (.inl rfl)))
  replace hE := hBq
  clear hBq
  refine wpList_nil ?_
  refine fx_end fr [] [] rfl trivial rfl ?_
  exact ⟨_, rfl, rfl, A4, ac5, ⟨hW, hE, hH, hI, hQ, O7, ⟨ne_bw_be, ne_bw_bh, ne_bw_bi, ne_bw_ig, ne_be_bh, ne_be_bi, ne_be_ig, ne_bh_bi, ne_bh_ig, ne_bi_ig, ap_Q_bw, ap_Q_be, ap_Q_bh, ap_Q_bi, ap_Q_ig, ap_A4_bw, ap_A4_be, ap_A4_bh, ap_A4_bi, ap_A4_ig, ap2_A4_Q.symm⟩⟩, wmv gA_A4 ap_A4_bw ap_A4_be ap_A4_ig, hF⟩
set_option maxRecDepth 100000 in
set_option maxHeartbeats 4000000 in
theorem gets_c {w : World} {bw be bh bi ig cap r : Nat} {d : Ent} {Q : Option Addr} {qc : Nat} {A : Option Addr} {ac : Nat} {out : List Msg} {bs : List UInt8} (m : Msg) (R : WorkR w bw be bh bi ig cap r m.line d Q qc A ac out bs) (hlen : out.length + 8 ≤ 1000000) (hsrc : 0 ≤ m.src ∧ m.src < 4) (hk : m.kind = 1) : Calls Try.prog 60 #[.pointer (some ⟨bw, 0, none⟩), .agg (msgE.arr m)] w (Ret fun v w' => v = .tuple #[] ∧ WRet w w' bw be bh bi ig cap r m.line Q qc A out (beginF bs d m).1 (beginF bs d m).2.1 (beginF bs d m).2.2) := by
  obtain ⟨hW, hE, hH, hI, hQ, hO, hS⟩ := R
  have ne_bw_be := hS.ne_bw_be
  have ne_bw_bh := hS.ne_bw_bh
  have ne_bw_bi := hS.ne_bw_bi
  have ne_bw_ig := hS.ne_bw_ig
  have ne_be_bh := hS.ne_be_bh
  have ne_be_bi := hS.ne_be_bi
  have ne_be_ig := hS.ne_be_ig
  have ne_bh_bi := hS.ne_bh_bi
  have ne_bh_ig := hS.ne_bh_ig
  have ne_bi_ig := hS.ne_bi_ig
  have ap_Q_bw := hS.ap_Q_bw
  have ap_Q_be := hS.ap_Q_be
  have ap_Q_bh := hS.ap_Q_bh
  have ap_Q_bi := hS.ap_Q_bi
  have ap_Q_ig := hS.ap_Q_ig
  have ap_A_bw := hS.ap_A_bw
  have ap_A_be := hS.ap_A_be
  have ap_A_bh := hS.ap_A_bh
  have ap_A_bi := hS.ap_A_bi
  have ap_A_ig := hS.ap_A_ig
  have ap2_Q_A := hS.ap2_Q_A
  have gA_A : ∀ g, inA A g → (g = bw ∨ g = be ∨ g = ig ∨ inA A g) ∨ w.heap.size ≤ g := fun g hg => .inl (.inr (.inr (.inr hg)))
  have hmn := m.hn
  have hF := Only.refl (fun k => k = bw ∨ k = be ∨ k = ig ∨ inA A k) w
  refine fx_enter Try.func60 rfl (N := (63, [])) (T := [(0, .pointer (some ⟨bw, 0, none⟩)), (1, .agg (msgE.arr m))]) rfl (show 2 ≤ 63 by decide) ⟨rfl, rfl, trivial⟩ fun a fr => ?_
  refine wp_seq ?_
  refine wp_region_lit ?_  -- region 0
  refine fx_new fr rfl rfl (by first | decide | simp) (x_box (cs := msgE.arr m) rfl (fr.ev rfl) rfl) ?_
  clear fr a
  intro b1 w2 hN3 B4 hb5 a fr
  have ne_bw_b1 : NE bw b1 := NE.mk (Nat.lt_of_lt_of_le hW.lt hb5)
  have ne_be_b1 : NE be b1 := NE.mk (Nat.lt_of_lt_of_le hE.lt hb5)
  have ne_bh_b1 : NE bh b1 := NE.mk (Nat.lt_of_lt_of_le hH.lt hb5)
  have ne_bi_b1 : NE bi b1 := NE.mk (Nat.lt_of_lt_of_le hI.lt.1 hb5)
  have ne_ig_b1 : NE ig b1 := NE.mk (Nat.lt_of_lt_of_le hI.lt.2 hb5)
  have ap_Q_b1 : Apart Q b1 := hQ.apart hb5
  have ap_A_b1 : Apart A b1 := hO.apart hb5
  have g_b1 := Nat.le_trans hF.size hb5
  replace hW := hW.new hN3
  replace hE := hE.new hN3
  replace hH := hH.new hN3
  replace hI := hI.new hN3
  replace hQ := hQ.new hN3
  replace hO := hO.new hN3
  replace hF := hF.trNew hN3
  refine wpList_nil ?_
  refine fx_next ?_
  refine wp_seq ?_
  refine wp_region_lit ?_  -- region 1
  refine fx_val (v := .pointer (some ⟨bw, 0, none⟩)) fr rfl rfl (by first | decide | simp) (x_move rfl (fr.ev rfl)) ?_
  clear fr a; intro a fr
  refine fx_val (v := .pointer (some ⟨b1, 1, none⟩)) fr rfl rfl (by first | decide | simp) (x_fieldAddr fo36_1 rfl (fr.ev rfl) rfl) ?_
  clear fr a; intro a fr
  refine fx_val (v := .int .i64 m.src) fr rfl rfl (by first | decide | simp) (x_load1 pl3 rfl (fr.ev rfl) (B4.cell 1 rfl)) ?_
  clear fr a; intro a fr
  refine fx_call fr rfl rfl (by first | decide | simp) (x_call (vs := [.pointer (some ⟨bw, 0, none⟩), .int .i64 m.src]) rfl rfl ⟨(fr.ev rfl), (fr.ev rfl), trivial⟩ Try.func66 nm66 rfl) (leave_c hW hE ne_bw_be m.src) ?_
  clear fr a
  rintro v w7 ⟨rfl, hEn6, hN8⟩ a fr
  replace hW := hW.only hN8 (by first | exact ne_bw_be | exact ne_be_bw.symm | (show ¬ bw = be; omega))
  replace hH := hH.only hN8 (by first | exact ne_bh_be | exact ne_be_bh.symm | (show ¬ bh = be; omega))
  replace hI := hI.only hN8 (by first | exact ne_bi_be | exact ne_be_bi.symm | (show ¬ bi = be; omega)) (by first | exact ne_ig_be | exact ne_be_ig.symm | (show ¬ ig = be; omega))
  replace hQ := hQ.only hN8 (Apart.ne1 ap_Q_be)
  replace hO := hO.only hN8 (Apart.ne1 ap_A_be)
  replace B4 := B4.only hN8 (by first | exact ne_b1_be | exact ne_be_b1.symm | (show ¬ b1 = be; omega))
  replace hF := hF.loc hN8 (.inl (.inr (.inl rfl)))
  replace hE := hEn6
  clear hEn6
  refine wpList_nil ?_
  refine fx_next ?_
  refine wp_block ?_
  refine wp_seq ?_
  refine wp_region_lit ?_  -- region 5
  refine fx_val (v := .pointer (some ⟨bw, 0, none⟩)) fr rfl rfl (by first | decide | simp) (x_move rfl (fr.ev rfl)) ?_
  clear fr a; intro a fr
  refine fx_val (v := .pointer (some ⟨bw, 0, none⟩)) fr rfl rfl (by first | decide | simp) (x_nilCheck rfl (fr.ev rfl)) ?_
  clear fr a; intro a fr
  refine fx_val (v := .pointer (some ⟨bw, 1, none⟩)) fr rfl rfl (by first | decide | simp) (x_fieldAddr fo82_1 rfl (fr.ev rfl) rfl) ?_
  clear fr a; intro a fr
  refine fx_val (v := .pointer (some ⟨be, 0, none⟩)) fr rfl rfl (by first | decide | simp) (x_load1 pl78 rfl (fr.ev rfl) (hW.cell 1 rfl)) ?_
  clear fr a; intro a fr
  refine fx_val (v := .pointer (some ⟨be, 0, none⟩)) fr rfl rfl (by first | decide | simp) (x_nilCheck rfl (fr.ev rfl)) ?_
  clear fr a; intro a fr
  refine fx_val (v := .pointer (some ⟨be, 0, none⟩)) fr rfl rfl (by first | decide | simp) (x_fieldAddr fo42_0 rfl (fr.ev rfl) rfl) ?_
  clear fr a; intro a fr
  refine fx_val (v := .int .i64 ((leaveF d m.src).o)) fr rfl rfl (by first | decide | simp) (x_load1 pl3 rfl (fr.ev rfl) (hE.cell 0 rfl)) ?_
  clear fr a; intro a fr
  refine fx_val (v := .bool (decide (0 ≤ (leaveF d m.src).o))) fr rfl rfl (by first | decide | simp) (x_geq rfl (fr.ev rfl) rfl rfl) ?_
  clear fr a; intro a fr
  refine fx_val (v := .bool (decide (0 ≤ (leaveF d m.src).o))) fr rfl rfl (by first | decide | simp) (x_assign rfl (fr.ev rfl)) ?_
  clear fr a; intro a fr
  refine wpList_nil ?_
  refine fx_next ?_
  refine fx_cond fr rfl (fun hc9 => ?_) (fun hc9 => ?_)
  · skip
    have hc9 := of_decide_eq_true hc9
    refine wp_seq ?_
    refine wp_region_lit ?_  -- region 6
    refine fx_val (v := .pointer (some ⟨bw, 0, none⟩)) fr rfl rfl (by first | decide | simp) (x_move rfl (fr.ev rfl)) ?_
    clear fr a; intro a fr
    refine fx_val (v := .pointer (some ⟨bw, 0, none⟩)) fr rfl rfl (by first | decide | simp) (x_move rfl (fr.ev rfl)) ?_
    clear fr a; intro a fr
    refine fx_val (v := .pointer (some ⟨bw, 0, none⟩)) fr rfl rfl (by first | decide | simp) (x_nilCheck rfl (fr.ev rfl)) ?_
    clear fr a; intro a fr
    refine fx_val (v := .pointer (some ⟨bw, 1, none⟩)) fr rfl rfl (by first | decide | simp) (x_fieldAddr fo82_1 rfl (fr.ev rfl) rfl) ?_
    clear fr a; intro a fr
    refine fx_val (v := .pointer (some ⟨be, 0, none⟩)) fr rfl rfl (by first | decide | simp) (x_load1 pl78 rfl (fr.ev rfl) (hW.cell 1 rfl)) ?_
    clear fr a; intro a fr
    refine fx_val (v := .pointer (some ⟨be, 0, none⟩)) fr rfl rfl (by first | decide | simp) (x_nilCheck rfl (fr.ev rfl)) ?_
    clear fr a; intro a fr
    refine fx_val (v := .pointer (some ⟨be, 0, none⟩)) fr rfl rfl (by first | decide | simp) (x_fieldAddr fo42_0 rfl (fr.ev rfl) rfl) ?_
    clear fr a; intro a fr
    refine fx_val (v := .int .i64 ((leaveF d m.src).o)) fr rfl rfl (by first | decide | simp) (x_load1 pl3 rfl (fr.ev rfl) (hE.cell 0 rfl)) ?_
    clear fr a; intro a fr
    refine fx_call fr rfl rfl (by first | decide | simp) (x_call (vs := [.pointer (some ⟨bw, 0, none⟩), .int .i64 4, .int .i64 ((leaveF d m.src).o), .bool false]) rfl rfl ⟨(fr.ev rfl), rfl, (fr.ev rfl), rfl, trivial⟩ Try.func53 nm53 rfl) (send_n m.hn hW hH hI hO ne_bw_bh ne_bw_bi ne_bw_ig ap_A_bw ap_A_bh ap_A_bi ap_A_ig (by first | omega | (simp only [List.length_append, List.length_cons, List.length_nil, List.length_map, List.length_take]; omega)) 4 ((leaveF d m.src).o)) ?_
    clear fr a
    rintro v w15 ⟨rfl, A10, ac11, hWn12, O13, mv14, hN16⟩ a fr
    have ap_A10_bw : Apart A10 bw := moved_apart mv14 ap_A_bw hW.lt
    have ap_A10_bh : Apart A10 bh := moved_apart mv14 ap_A_bh hH.lt
    have ap_A10_bi : Apart A10 bi := moved_apart mv14 ap_A_bi hI.lt.1
    have ap_A10_ig : Apart A10 ig := moved_apart mv14 ap_A_ig hI.lt.2
    have ap2_A10_Q : Apart2 A10 Q := moved_apart2 mv14 ap2_Q_A.symm fun _ hg => hQ.lt hg
    have ap_A10_b1 : Apart A10 b1 := moved_apart mv14 ap_A_b1 B4.lt
    have ap_A10_be : Apart A10 be := moved_apart mv14 ap_A_be hE.lt
    have gA_A10 := gA_moved hF mv14 gA_A
    replace hH := hH.only hN16 (fun h => h.elim (by first | exact ne_bh_bw | exact ne_bw_bh.symm | (show ¬ bh = bw; omega)) ap_A_bh)
    replace hI := hI.only hN16 (fun h => h.elim (by first | exact ne_bi_bw | exact ne_bw_bi.symm | (show ¬ bi = bw; omega)) ap_A_bi) (fun h => h.elim (by first | exact ne_ig_bw | exact ne_bw_ig.symm | (show ¬ ig = bw; omega)) ap_A_ig)
    replace hQ := hQ.only hN16 (fun g hg => (fun h => h.elim ((Apart.ne1 ap_Q_bw) g hg) ((fun g h1 h2 => ap2_Q_A g h1 h2) g hg)))
    replace B4 := B4.only hN16 (fun h => h.elim (by first | exact ne_b1_bw | exact ne_bw_b1.symm | (show ¬ b1 = bw; omega)) ap_A_b1)
    replace hE := hE.only hN16 (fun h => h.elim (by first | exact ne_be_bw | exact ne_bw_be.symm | (show ¬ be = bw; omega)) ap_A_be)
    replace hF := hF.loc2 hN16 (.inl (.inl rfl)) gA_A
    clear hW hO
    have hW := hWn12
    clear hWn12
    refine wpList_nil ?_
    refine fx_next ?_
    refine wp_region_lit ?_  -- region 7
    refine fx_val (v := .pointer (some ⟨bw, 0, none⟩)) fr rfl rfl (by first | decide | simp) (x_move rfl (fr.ev rfl)) ?_
    clear fr a; intro a fr
    refine fx_val (v := .agg (msgE.arr m)) fr rfl rfl (by first | decide | simp) (x_loadE (E := msgE) ag36 rfl rfl (fr.ev rfl) (B4.rangeE msgE)) ?_
    clear fr a; intro a fr
    refine fx_call fr rfl rfl (by first | decide | simp) (x_call (vs := [.pointer (some ⟨bw, 0, none⟩), .agg (msgE.arr m), .int .i64 1, .bool false]) rfl rfl ⟨(fr.ev rfl), (fr.ev rfl), rfl, rfl, trivial⟩ Try.func67 nm67 rfl) (busy_c hW hE ne_bw_be m 1 false) ?_
    clear fr a
    rintro v w18 ⟨rfl, hEn17, hN19⟩ a fr
    replace hH := hH.only hN19 (by first | exact ne_bh_be | exact ne_be_bh.symm | (show ¬ bh = be; omega))
    replace hI := hI.only hN19 (by first | exact ne_bi_be | exact ne_be_bi.symm | (show ¬ bi = be; omega)) (by first | exact ne_ig_be | exact ne_be_ig.symm | (show ¬ ig = be; omega))
    replace hQ := hQ.only hN19 (Apart.ne1 ap_Q_be)
    replace B4 := B4.only hN19 (by first | exact ne_b1_be | exact ne_be_b1.symm | (show ¬ b1 = be; omega))
    replace hW := hW.only hN19 (by first | exact ne_bw_be | exact ne_be_bw.symm | (show ¬ bw = be; omega))
    replace O13 := O13.only hN19 (Apart.ne1 ap_A10_be)
    replace hF := hF.loc hN19 (.inl (.inr (.inl rfl)))
    replace hE := hEn17
    clear hEn17
    refine wpList_nil ?_
    refine fx_blk ?_
    refine fx_end fr [] [] rfl trivial rfl ?_
    rw [begin_s1 hk hc9]
    exact ⟨_, rfl, rfl, A10, ac11, ⟨hW, hE, hH, hI, hQ, O13, ⟨ne_bw_be, ne_bw_bh, ne_bw_bi, ne_bw_ig, ne_be_bh, ne_be_bi, ne_be_ig, ne_bh_bi, ne_bh_ig, ne_bi_ig, ap_Q_bw, ap_Q_be, ap_Q_bh, ap_Q_bi, ap_Q_ig, ap_A10_bw, ap_A10_be, ap_A10_bh, ap_A10_bi, ap_A10_ig, ap2_A10_Q.symm⟩⟩, wmv gA_A10 ap_A10_bw ap_A10_be ap_A10_ig, hF⟩
  · skip
    have hc9 := of_decide_eq_false hc9
    refine wp_seq ?_
    refine wp_region_lit ?_  -- region 8
    refine fx_val (v := .pointer (some ⟨bw, 0, none⟩)) fr rfl rfl (by first | decide | simp) (x_move rfl (fr.ev rfl)) ?_
    clear fr a; intro a fr
    refine fx_val (v := .pointer (some ⟨b1, 1, none⟩)) fr rfl rfl (by first | decide | simp) (x_fieldAddr fo36_1 rfl (fr.ev rfl) rfl) ?_
    clear fr a; intro a fr
    refine fx_val (v := .int .i64 m.src) fr rfl rfl (by first | decide | simp) (x_load1 pl3 rfl (fr.ev rfl) (B4.cell 1 rfl)) ?_
    clear fr a; intro a fr
    refine fx_call fr rfl rfl (by first | decide | simp) (x_call (vs := [.pointer (some ⟨bw, 0, none⟩), .int .i64 m.src]) rfl rfl ⟨(fr.ev rfl), (fr.ev rfl), trivial⟩ Try.func68 nm68 rfl) (others_c hW hE ne_bw_be m.src) ?_
    clear fr a
    rintro v w25 ⟨A20, c21, rfl, OL22, hA23, hN26⟩ a fr
    have ap_A20_bw : Apart A20 bw := new_apart hA23 hW.lt
    have ap_A20_bh : Apart A20 bh := new_apart hA23 hH.lt
    have ap_A20_bi : Apart A20 bi := new_apart hA23 hI.lt.1
    have ap_A20_ig : Apart A20 ig := new_apart hA23 hI.lt.2
    have ap2_Q_A20 : Apart2 Q A20 := (new_apart2 hA23 fun _ hg => hQ.lt hg).symm
    have ap2_A_A20 : Apart2 A A20 := (new_apart2 hA23 fun _ hg => hO.lt hg).symm
    have ap_A20_b1 : Apart A20 b1 := new_apart hA23 B4.lt
    have ap_A20_be : Apart A20 be := new_apart hA23 hE.lt
    have gA_A20 := gA_new hF hA23
    replace hW := hW.new hN26
    replace hH := hH.new hN26
    replace hI := hI.new hN26
    replace hQ := hQ.new hN26
    replace hO := hO.new hN26
    replace B4 := B4.new hN26
    replace hE := hE.new hN26
    replace hF := hF.trNew hN26
    have hol24 : (othersF d.sh m.src).length ≤ 4 := othK_len _ _ 4
    refine fx_val (v := .int .i64 (((othersF d.sh m.src).length : Nat) : Int)) fr rfl rfl (by first | decide | simp) (x_len Try.underlying119 rfl (fr.ev rfl)) ?_
    clear fr a; intro a fr
    refine fx_val (v := .bool (decide (0 < (((othersF d.sh m.src).length : Nat) : Int)))) fr rfl rfl (by first | decide | simp) (x_gtr rfl (fr.ev rfl) rfl rfl) ?_
    clear fr a; intro a fr
    refine fx_val (v := .bool (decide (0 < (((othersF d.sh m.src).length : Nat) : Int)))) fr rfl rfl (by first | decide | simp) (x_assign rfl (fr.ev rfl)) ?_
    clear fr a; intro a fr
    refine wpList_nil ?_
    refine fx_next ?_
    refine fx_cond fr rfl (fun hc27 => ?_) (fun hc27 => ?_)
    · skip
      have hc27 := of_decide_eq_true hc27
      refine wp_seq ?_
      refine fx_held (n := 10) (fun w => Blk w bw 82 #[.slice A out.length ac, .pointer (some ⟨be, 0, none⟩), .pointer (some ⟨bh, 0, none⟩), .int .u32 m.line] ∧ Blk w bh 64 #[.pointer (some ⟨bi, 0, none⟩), .map (some r)] ∧ Img 0 w bi ig cap bs ∧ View msgE w Q qc d.q ∧ Own msgE w A ac out ∧ Blk w b1 36 (msgE.arr m) ∧ Own intE w A20 c21 (othersF d.sh m.src) ∧ True) (by kernel_rfl) rfl ?_  -- region 9
      intro w28 hN29
      replace hW := hW.new hN29
      replace hH := hH.new hN29
      replace hI := hI.new hN29
      replace hQ := hQ.new hN29
      replace hO := hO.new hN29
      replace B4 := B4.new hN29
      replace hE := hE.new hN29
      replace OL22 := OL22.new hN29
      replace hF := hF.trNew hN29
      refine fx_take (i := 0) (v := .pointer (some ⟨bw, 0, none⟩)) fr rfl (by kernel_rfl) rfl rfl (by first | decide | simp) (fun _ _ _ h => h) (fun _ ⟨hW, hH, hI, hQ, hO, B4, OL22, _⟩ => x_move rfl (fr.ev rfl)) ⟨hW, hH, hI, hQ, hO, B4, OL22, trivial⟩ ?_
      clear fr a; intro a fr
      refine fx_take (i := 1) (v := .pointer (some ⟨bw, 0, none⟩)) fr rfl (by kernel_rfl) rfl rfl (by first | decide | simp) (fun _ _ _ h => h) (fun _ ⟨hW, hH, hI, hQ, hO, B4, OL22, _⟩ => x_nilCheck rfl (fr.ev rfl)) ⟨hW, hH, hI, hQ, hO, B4, OL22, trivial⟩ ?_
      clear fr a; intro a fr
      refine fx_take (i := 2) (v := .pointer (some ⟨bw, 1, none⟩)) fr rfl (by kernel_rfl) rfl rfl (by first | decide | simp) (fun _ _ _ h => h) (fun _ ⟨hW, hH, hI, hQ, hO, B4, OL22, _⟩ => x_fieldAddr fo82_1 rfl (fr.ev rfl) rfl) ⟨hW, hH, hI, hQ, hO, B4, OL22, trivial⟩ ?_
      clear fr a; intro a fr
      refine fx_take (i := 3) (v := .pointer (some ⟨be, 0, none⟩)) fr rfl (by kernel_rfl) rfl rfl (by first | decide | simp) (fun _ _ _ h => h) (fun _ ⟨hW, hH, hI, hQ, hO, B4, OL22, _⟩ => x_load1 pl78 rfl (fr.ev rfl) (hW.cell 1 rfl)) ⟨hW, hH, hI, hQ, hO, B4, OL22, trivial⟩ ?_
      clear fr a; intro a fr
      refine fx_take (i := 4) (v := .pointer (some ⟨b1, 1, none⟩)) fr rfl (by kernel_rfl) rfl rfl (by first | decide | simp) (fun _ _ _ h => h) (fun _ ⟨hW, hH, hI, hQ, hO, B4, OL22, _⟩ => x_fieldAddr fo36_1 rfl (fr.ev rfl) rfl) ⟨hW, hH, hI, hQ, hO, B4, OL22, trivial⟩ ?_
      clear fr a; intro a fr
      refine fx_take (i := 5) (v := .int .i64 m.src) fr rfl (by kernel_rfl) rfl rfl (by first | decide | simp) (fun _ _ _ h => h) (fun _ ⟨hW, hH, hI, hQ, hO, B4, OL22, _⟩ => x_load1 pl3 rfl (fr.ev rfl) (B4.cell 1 rfl)) ⟨hW, hH, hI, hQ, hO, B4, OL22, trivial⟩ ?_
      clear fr a; intro a fr
      refine fx_take (i := 6) (v := .pointer (some ⟨be, 0, none⟩)) fr rfl (by kernel_rfl) rfl rfl (by first | decide | simp) (fun _ _ _ h => h) (fun _ ⟨hW, hH, hI, hQ, hO, B4, OL22, _⟩ => x_nilCheck rfl (fr.ev rfl)) ⟨hW, hH, hI, hQ, hO, B4, OL22, trivial⟩ ?_
      clear fr a; intro a fr
      refine fx_take (i := 7) (v := .pointer (some ⟨be, 1, none⟩)) fr rfl (by kernel_rfl) rfl rfl (by first | decide | simp) (fun _ _ _ h => h) (fun _ ⟨hW, hH, hI, hQ, hO, B4, OL22, _⟩ => x_fieldAddr fo42_1 rfl (fr.ev rfl) rfl) ⟨hW, hH, hI, hQ, hO, B4, OL22, trivial⟩ ?_
      clear fr a; intro a fr
      refine fx_take (i := 8) (v := .pointer (some ⟨be, 1 + m.src.toNat, none⟩)) fr rfl (by kernel_rfl) rfl rfl (by first | decide | simp) (fun _ _ _ h => h) (fun _ ⟨hW, hH, hI, hQ, hO, B4, OL22, _⟩ => x_indexArr Try.underlying40 sz4 rfl (fr.ev rfl) ((fr.ev rfl).trans (int_nat _ m.src (by omega))) (by omega) (by omega)) ⟨hW, hH, hI, hQ, hO, B4, OL22, trivial⟩ ?_
      clear fr a; intro a fr
      refine fx_one (i := 9) (by kernel_rfl) (fx_op rfl ?_)
      refine fx_store1 sz4 rfl rfl rfl (fr.ev rfl) rfl rfl hE (show 1 + m.src.toNat < 11 by omega) (cs' := entA ({ leaveF d m.src with sh := d.sh.set m.src true }) (.slice Q d.q.length qc)) (ent_setSh _ _ m.src _ (by omega) (by omega)) fun w30 hO31 hBq => ?_
      replace hW := hW.only hO31 (by first | exact ne_bw_be | exact ne_be_bw.symm | (show ¬ bw = be; omega))
      replace hH := hH.only hO31 (by first | exact ne_bh_be | exact ne_be_bh.symm | (show ¬ bh = be; omega))
      replace hI := hI.only hO31 (by first | exact ne_bi_be | exact ne_be_bi.symm | (show ¬ bi = be; omega)) (by first | exact ne_ig_be | exact ne_be_ig.symm | (show ¬ ig = be; omega))
      replace hQ := hQ.only hO31 (Apart.ne1 ap_Q_be)
      replace hO := hO.only hO31 (Apart.ne1 ap_A_be)
      replace B4 := B4.only hO31 (by first | exact ne_b1_be | exact ne_be_b1.symm | (show ¬ b1 = be; omega))
      replace OL22 := OL22.only hO31 (Apart.ne1 ap_A20_be)
      replace hF := hF.loc hO31 (.inl (.inr (.inl rfl)))
      replace hE := hBq
      clear hBq
      refine wpList_nil ?_
      refine ⟨⟨hW, hH, hI, hQ, hO, B4, OL22, trivial⟩, ?_⟩
      refine fx_hdone (by kernel_rfl) ?_
      refine fx_next ?_
      refine wp_seq ?_
      refine wp_region_lit ?_  -- region 10
      refine fx_val (v := .pointer (some ⟨bw, 0, none⟩)) fr rfl rfl (by first | decide | simp) (x_move rfl (fr.ev rfl)) ?_
      clear fr a; intro a fr
      refine fx_val (v := .pointer (some ⟨b1, 1, none⟩)) fr rfl rfl (by first | decide | simp) (x_fieldAddr fo36_1 rfl (fr.ev rfl) rfl) ?_
      clear fr a; intro a fr
      refine fx_val (v := .int .i64 m.src) fr rfl rfl (by first | decide | simp) (x_load1 pl3 rfl (fr.ev rfl) (B4.cell 1 rfl)) ?_
      clear fr a; intro a fr
      refine fx_call fr rfl rfl (by first | decide | simp) (x_call (vs := [.pointer (some ⟨bw, 0, none⟩), .int .i64 8, .int .i64 m.src, .bool true]) rfl rfl ⟨(fr.ev rfl), rfl, (fr.ev rfl), rfl, trivial⟩ Try.func53 nm53 rfl) (send_b m.hn hW hH hI hO ne_bw_bh ne_bw_bi ne_bw_ig ap_A_bw ap_A_bh ap_A_bi ap_A_ig (by first | omega | (simp only [List.length_append, List.length_cons, List.length_nil, List.length_map, List.length_take]; omega)) 8 m.src) ?_
      clear fr a
      rintro v w37 ⟨rfl, A32, ac33, hWn34, O35, mv36, hN38⟩ a fr
      have ap_A32_bw : Apart A32 bw := moved_apart mv36 ap_A_bw hW.lt
      have ap_A32_bh : Apart A32 bh := moved_apart mv36 ap_A_bh hH.lt
      have ap_A32_bi : Apart A32 bi := moved_apart mv36 ap_A_bi hI.lt.1
      have ap_A32_ig : Apart A32 ig := moved_apart mv36 ap_A_ig hI.lt.2
      have ap2_A32_Q : Apart2 A32 Q := moved_apart2 mv36 ap2_Q_A.symm fun _ hg => hQ.lt hg
      have ap_A32_b1 : Apart A32 b1 := moved_apart mv36 ap_A_b1 B4.lt
      have ap2_A32_A20 : Apart2 A32 A20 := moved_apart2 mv36 ap2_A_A20 fun _ hg => OL22.lt hg
      have ap_A32_be : Apart A32 be := moved_apart mv36 ap_A_be hE.lt
      have gA_A32 := gA_moved hF mv36 gA_A
      replace hH := hH.only hN38 (fun h => h.elim (by first | exact ne_bh_bw | exact ne_bw_bh.symm | (show ¬ bh = bw; omega)) ap_A_bh)
      replace hI := hI.only hN38 (fun h => h.elim (by first | exact ne_bi_bw | exact ne_bw_bi.symm | (show ¬ bi = bw; omega)) ap_A_bi) (fun h => h.elim (by first | exact ne_ig_bw | exact ne_bw_ig.symm | (show ¬ ig = bw; omega)) ap_A_ig)
      replace hQ := hQ.only hN38 (fun g hg => (fun h => h.elim ((Apart.ne1 ap_Q_bw) g hg) ((fun g h1 h2 => ap2_Q_A g h1 h2) g hg)))
      replace B4 := B4.only hN38 (fun h => h.elim (by first | exact ne_b1_bw | exact ne_bw_b1.symm | (show ¬ b1 = bw; omega)) ap_A_b1)
      replace OL22 := OL22.only hN38 (fun g hg => (fun h => h.elim ((Apart.ne1 ap_A20_bw) g hg) ((fun g h1 h2 => ap2_A_A20.symm g h1 h2) g hg)))
      replace hE := hE.only hN38 (fun h => h.elim (by first | exact ne_be_bw | exact ne_bw_be.symm | (show ¬ be = bw; omega)) ap_A_be)
      replace hF := hF.loc2 hN38 (.inl (.inl rfl)) gA_A
      clear hW hO
      have hW := hWn34
      clear hWn34
      refine wpList_nil ?_
      refine fx_next ?_
      refine wp_region_lit ?_  -- region 11
      refine fx_val (v := .pointer (some ⟨bw, 0, none⟩)) fr rfl rfl (by first | decide | simp) (x_move rfl (fr.ev rfl)) ?_
      clear fr a; intro a fr
      refine fx_val (v := .agg (msgE.arr m)) fr rfl rfl (by first | decide | simp) (x_loadE (E := msgE) ag36 rfl rfl (fr.ev rfl) (B4.rangeE msgE)) ?_
      clear fr a; intro a fr
      refine fx_call fr rfl rfl (by first | decide | simp) (x_call (vs := [.pointer (some ⟨bw, 0, none⟩), .agg (msgE.arr m), .int .i64 0, .bool true]) rfl rfl ⟨(fr.ev rfl), (fr.ev rfl), rfl, rfl, trivial⟩ Try.func67 nm67 rfl) (busy_c hW hE ne_bw_be m 0 true) ?_
      clear fr a
      rintro v w40 ⟨rfl, hEn39, hN41⟩ a fr
      replace hH := hH.only hN41 (by first | exact ne_bh_be | exact ne_be_bh.symm | (show ¬ bh = be; omega))
      replace hI := hI.only hN41 (by first | exact ne_bi_be | exact ne_be_bi.symm | (show ¬ bi = be; omega)) (by first | exact ne_ig_be | exact ne_be_ig.symm | (show ¬ ig = be; omega))
      replace hQ := hQ.only hN41 (Apart.ne1 ap_Q_be)
      replace B4 := B4.only hN41 (by first | exact ne_b1_be | exact ne_be_b1.symm | (show ¬ b1 = be; omega))
      replace OL22 := OL22.only hN41 (Apart.ne1 ap_A20_be)
      replace hW := hW.only hN41 (by first | exact ne_bw_be | exact ne_be_bw.symm | (show ¬ bw = be; omega))
      replace O35 := O35.only hN41 (Apart.ne1 ap_A32_be)
      replace hF := hF.loc hN41 (.inl (.inr (.inl rfl)))
      replace hE := hEn39
      clear hEn39
      refine wpList_nil ?_
      refine fx_blk ?_
      refine fx_end fr [] [] rfl trivial rfl ?_
      rw [begin_s2 hk hc9 (show 0 < (othersF (leaveF d m.src).sh m.src).length from by first | exact hc27 | (show 0 < (othersF d.sh m.src).length; omega))]
      exact ⟨_, rfl, rfl, A32, ac33, ⟨hW, hE, hH, hI, hQ, O35, ⟨ne_bw_be, ne_bw_bh, ne_bw_bi, ne_bw_ig, ne_be_bh, ne_be_bi, ne_be_ig, ne_bh_bi, ne_bh_ig, ne_bi_ig, ap_Q_bw, ap_Q_be, ap_Q_bh, ap_Q_bi, ap_Q_ig, ap_A32_bw, ap_A32_be, ap_A32_bh, ap_A32_bi, ap_A32_ig, ap2_A32_Q.symm⟩⟩, wmv gA_A32 ap_A32_bw ap_A32_be ap_A32_ig, hF⟩
    · skip
      have hc27 := of_decide_eq_false hc27
      refine wp_seq ?_
      refine wp_region_lit ?_  -- region 2
      refine fx_val (v := .pointer (some ⟨bw, 0, none⟩)) fr rfl rfl (by first | decide | simp) (x_move rfl (fr.ev rfl)) ?_
      clear fr a; intro a fr
      refine fx_val (v := .pointer (some ⟨b1, 1, none⟩)) fr rfl rfl (by first | decide | simp) (x_fieldAddr fo36_1 rfl (fr.ev rfl) rfl) ?_
      clear fr a; intro a fr
      refine fx_val (v := .int .i64 m.src) fr rfl rfl (by first | decide | simp) (x_load1 pl3 rfl (fr.ev rfl) (B4.cell 1 rfl)) ?_
      clear fr a; intro a fr
      refine fx_call fr rfl rfl (by first | decide | simp) (x_call (vs := [.pointer (some ⟨bw, 0, none⟩), .int .i64 m.src]) rfl rfl ⟨(fr.ev rfl), (fr.ev rfl), trivial⟩ Try.func52 nm52 rfl) (own_c hW hE ne_bw_be m.src) ?_
      clear fr a
      rintro v w43 ⟨rfl, hEn42, hN44⟩ a fr
      replace hW := hW.only hN44 (by first | exact ne_bw_be | exact ne_be_bw.symm | (show ¬ bw = be; omega))
      replace hH := hH.only hN44 (by first | exact ne_bh_be | exact ne_be_bh.symm | (show ¬ bh = be; omega))
      replace hI := hI.only hN44 (by first | exact ne_bi_be | exact ne_be_bi.symm | (show ¬ bi = be; omega)) (by first | exact ne_ig_be | exact ne_be_ig.symm | (show ¬ ig = be; omega))
      replace hQ := hQ.only hN44 (Apart.ne1 ap_Q_be)
      replace hO := hO.only hN44 (Apart.ne1 ap_A_be)
      replace B4 := B4.only hN44 (by first | exact ne_b1_be | exact ne_be_b1.symm | (show ¬ b1 = be; omega))
      replace OL22 := OL22.only hN44 (Apart.ne1 ap_A20_be)
      replace hF := hF.loc hN44 (.inl (.inr (.inl rfl)))
      replace hE := hEn42
      clear hEn42
      refine wpList_nil ?_
      refine fx_next ?_
      refine wp_seq ?_
      refine wp_region_lit ?_  -- region 3
      refine fx_val (v := .pointer (some ⟨bw, 0, none⟩)) fr rfl rfl (by first | decide | simp) (x_move rfl (fr.ev rfl)) ?_
      clear fr a; intro a fr
      refine fx_val (v := .pointer (some ⟨b1, 1, none⟩)) fr rfl rfl (by first | decide | simp) (x_fieldAddr fo36_1 rfl (fr.ev rfl) rfl) ?_
      clear fr a; intro a fr
      refine fx_val (v := .int .i64 m.src) fr rfl rfl (by first | decide | simp) (x_load1 pl3 rfl (fr.ev rfl) (B4.cell 1 rfl)) ?_
      clear fr a; intro a fr
      refine fx_call fr rfl rfl (by first | decide | simp) (x_call (vs := [.pointer (some ⟨bw, 0, none⟩), .int .i64 9, .int .i64 m.src, .bool true]) rfl rfl ⟨(fr.ev rfl), rfl, (fr.ev rfl), rfl, trivial⟩ Try.func53 nm53 rfl) (send_b m.hn hW hH hI hO ne_bw_bh ne_bw_bi ne_bw_ig ap_A_bw ap_A_bh ap_A_bi ap_A_ig (by first | omega | (simp only [List.length_append, List.length_cons, List.length_nil, List.length_map, List.length_take]; omega)) 9 m.src) ?_
      clear fr a
      rintro v w50 ⟨rfl, A45, ac46, hWn47, O48, mv49, hN51⟩ a fr
      have ap_A45_bw : Apart A45 bw := moved_apart mv49 ap_A_bw hW.lt
      have ap_A45_bh : Apart A45 bh := moved_apart mv49 ap_A_bh hH.lt
      have ap_A45_bi : Apart A45 bi := moved_apart mv49 ap_A_bi hI.lt.1
      have ap_A45_ig : Apart A45 ig := moved_apart mv49 ap_A_ig hI.lt.2
      have ap2_A45_Q : Apart2 A45 Q := moved_apart2 mv49 ap2_Q_A.symm fun _ hg => hQ.lt hg
      have ap_A45_b1 : Apart A45 b1 := moved_apart mv49 ap_A_b1 B4.lt
      have ap2_A45_A20 : Apart2 A45 A20 := moved_apart2 mv49 ap2_A_A20 fun _ hg => OL22.lt hg
      have ap_A45_be : Apart A45 be := moved_apart mv49 ap_A_be hE.lt
      have gA_A45 := gA_moved hF mv49 gA_A
      replace hH := hH.only hN51 (fun h => h.elim (by first | exact ne_bh_bw | exact ne_bw_bh.symm | (show ¬ bh = bw; omega)) ap_A_bh)
      replace hI := hI.only hN51 (fun h => h.elim (by first | exact ne_bi_bw | exact ne_bw_bi.symm | (show ¬ bi = bw; omega)) ap_A_bi) (fun h => h.elim (by first | exact ne_ig_bw | exact ne_bw_ig.symm | (show ¬ ig = bw; omega)) ap_A_ig)
      replace hQ := hQ.only hN51 (fun g hg => (fun h => h.elim ((Apart.ne1 ap_Q_bw) g hg) ((fun g h1 h2 => ap2_Q_A g h1 h2) g hg)))
      replace B4 := B4.only hN51 (fun h => h.elim (by first | exact ne_b1_bw | exact ne_bw_b1.symm | (show ¬ b1 = bw; omega)) ap_A_b1)
      replace OL22 := OL22.only hN51 (fun g hg => (fun h => h.elim ((Apart.ne1 ap_A20_bw) g hg) ((fun g h1 h2 => ap2_A_A20.symm g h1 h2) g hg)))
      replace hE := hE.only hN51 (fun h => h.elim (by first | exact ne_be_bw | exact ne_bw_be.symm | (show ¬ be = bw; omega)) ap_A_be)
      replace hF := hF.loc2 hN51 (.inl (.inl rfl)) gA_A
      clear hW hO
      have hW := hWn47
      clear hWn47
      refine wpList_nil ?_
      refine fx_next ?_
      refine wp_region_lit ?_  -- region 4
      refine fx_val (v := .pointer (some ⟨bw, 0, none⟩)) fr rfl rfl (by first | decide | simp) (x_move rfl (fr.ev rfl)) ?_
      clear fr a; intro a fr
      refine fx_val (v := .agg (msgE.arr m)) fr rfl rfl (by first | decide | simp) (x_loadE (E := msgE) ag36 rfl rfl (fr.ev rfl) (B4.rangeE msgE)) ?_
      clear fr a; intro a fr
      refine fx_call fr rfl rfl (by first | decide | simp) (x_call (vs := [.pointer (some ⟨bw, 0, none⟩), .agg (msgE.arr m), .int .i64 0, .bool true]) rfl rfl ⟨(fr.ev rfl), (fr.ev rfl), rfl, rfl, trivial⟩ Try.func67 nm67 rfl) (busy_c hW hE ne_bw_be m 0 true) ?_
      clear fr a
      rintro v w53 ⟨rfl, hEn52, hN54⟩ a fr
      replace hH := hH.only hN54 (by first | exact ne_bh_be | exact ne_be_bh.symm | (show ¬ bh = be; omega))
      replace hI := hI.only hN54 (by first | exact ne_bi_be | exact ne_be_bi.symm | (show ¬ bi = be; omega)) (by first | exact ne_ig_be | exact ne_be_ig.symm | (show ¬ ig = be; omega))
      replace hQ := hQ.only hN54 (Apart.ne1 ap_Q_be)
      replace B4 := B4.only hN54 (by first | exact ne_b1_be | exact ne_be_b1.symm | (show ¬ b1 = be; omega))
      replace OL22 := OL22.only hN54 (Apart.ne1 ap_A20_be)
      replace hW := hW.only hN54 (by first | exact ne_bw_be | exact ne_be_bw.symm | (show ¬ bw = be; omega))
      replace O48 := O48.only hN54 (Apart.ne1 ap_A45_be)
      replace hF := hF.loc hN54 (.inl (.inr (.inl rfl)))
      replace hE := hEn52
      clear hEn52
      refine wpList_nil ?_
      refine fx_blk ?_
      refine fx_end fr [] [] rfl trivial rfl ?_
      rw [begin_s3 hk hc9 (show ¬ 0 < (othersF (leaveF d m.src).sh m.src).length from by first | exact hc27 | (show ¬ 0 < (othersF d.sh m.src).length; omega))]
      exact ⟨_, rfl, rfl, A45, ac46, ⟨hW, hE, hH, hI, hQ, O48, ⟨ne_bw_be, ne_bw_bh, ne_bw_bi, ne_bw_ig, ne_be_bh, ne_be_bi, ne_be_ig, ne_bh_bi, ne_bh_ig, ne_bi_ig, ap_Q_bw, ap_Q_be, ap_Q_bh, ap_Q_bi, ap_Q_ig, ap_A45_bw, ap_A45_be, ap_A45_bh, ap_A45_bi, ap_A45_ig, ap2_A45_Q.symm⟩⟩, wmv gA_A45 ap_A45_bw ap_A45_be ap_A45_ig, hF⟩
set_option maxRecDepth 100000 in
set_option maxHeartbeats 4000000 in
theorem getm_c {w : World} {bw be bh bi ig cap r : Nat} {d : Ent} {Q : Option Addr} {qc : Nat} {A : Option Addr} {ac : Nat} {out : List Msg} {bs : List UInt8} (m : Msg) (R : WorkR w bw be bh bi ig cap r m.line d Q qc A ac out bs) (hlen : out.length + 8 ≤ 1000000) (hsrc : 0 ≤ m.src ∧ m.src < 4) (hk : m.kind = 2) : Calls Try.prog 61 #[.pointer (some ⟨bw, 0, none⟩), .agg (msgE.arr m)] w (Ret fun v w' => v = .tuple #[] ∧ WRet w w' bw be bh bi ig cap r m.line Q qc A out (beginF bs d m).1 (beginF bs d m).2.1 (beginF bs d m).2.2) := by
  obtain ⟨hW, hE, hH, hI, hQ, hO, hS⟩ := R
  have ne_bw_be := hS.ne_bw_be
  have ne_bw_bh := hS.ne_bw_bh
  have ne_bw_bi := hS.ne_bw_bi
  have ne_bw_ig := hS.ne_bw_ig
  have ne_be_bh := hS.ne_be_bh
  have ne_be_bi := hS.ne_be_bi
  have ne_be_ig := hS.ne_be_ig
  have ne_bh_bi := hS.ne_bh_bi
  have ne_bh_ig := hS.ne_bh_ig
  have ne_bi_ig := hS.ne_bi_ig
  have ap_Q_bw := hS.ap_Q_bw
  have ap_Q_be := hS.ap_Q_be
  have ap_Q_bh := hS.ap_Q_bh
  have ap_Q_bi := hS.ap_Q_bi
  have ap_Q_ig := hS.ap_Q_ig
  have ap_A_bw := hS.ap_A_bw
  have ap_A_be := hS.ap_A_be
  have ap_A_bh := hS.ap_A_bh
  have ap_A_bi := hS.ap_A_bi
  have ap_A_ig := hS.ap_A_ig
  have ap2_Q_A := hS.ap2_Q_A
  have gA_A : ∀ g, inA A g → (g = bw ∨ g = be ∨ g = ig ∨ inA A g) ∨ w.heap.size ≤ g := fun g hg => .inl (.inr (.inr (.inr hg)))
  have hmn := m.hn
  have hF := Only.refl (fun k => k = bw ∨ k = be ∨ k = ig ∨ inA A k) w
  refine fx_enter Try.func61 rfl (N := (55, [])) (T := [(0, .pointer (some ⟨bw, 0, none⟩)), (1, .agg (msgE.arr m))]) rfl (show 2 ≤ 55 by decide) ⟨rfl, rfl, trivial⟩ fun a fr => ?_
  refine wp_seq ?_
  refine wp_region_lit ?_  -- region 0
  refine fx_new fr rfl rfl (by first | decide | simp) (x_box (cs := msgE.arr m) rfl (fr.ev rfl) rfl) ?_
  clear fr a
  intro b1 w2 hN3 B4 hb5 a fr
  have ne_bw_b1 : NE bw b1 := NE.mk (Nat.lt_of_lt_of_le hW.lt hb5)
  have ne_be_b1 : NE be b1 := NE.mk (Nat.lt_of_lt_of_le hE.lt hb5)
  have ne_bh_b1 : NE bh b1 := NE.mk (Nat.lt_of_lt_of_le hH.lt hb5)
  have ne_bi_b1 : NE bi b1 := NE.mk (Nat.lt_of_lt_of_le hI.lt.1 hb5)
  have ne_ig_b1 : NE ig b1 := NE.mk (Nat.lt_of_lt_of_le hI.lt.2 hb5)
  have ap_Q_b1 : Apart Q b1 := hQ.apart hb5
  have ap_A_b1 : Apart A b1 := hO.apart hb5
  have g_b1 := Nat.le_trans hF.size hb5
  replace hW := hW.new hN3
  replace hE := hE.new hN3
  replace hH := hH.new hN3
  replace hI := hI.new hN3
  replace hQ := hQ.new hN3
  replace hO := hO.new hN3
  replace hF := hF.trNew hN3
  refine wpList_nil ?_
  refine fx_next ?_
  refine wp_seq ?_
  refine wp_region_lit ?_  -- region 1
  refine fx_val (v := .pointer (some ⟨bw, 0, none⟩)) fr rfl rfl (by first | decide | simp) (x_move rfl (fr.ev rfl)) ?_
  clear fr a; intro a fr
  refine fx_val (v := .pointer (some ⟨b1, 1, none⟩)) fr rfl rfl (by first | decide | simp) (x_fieldAddr fo36_1 rfl (fr.ev rfl) rfl) ?_
  clear fr a; intro a fr
  refine fx_val (v := .int .i64 m.src) fr rfl rfl (by first | decide | simp) (x_load1 pl3 rfl (fr.ev rfl) (B4.cell 1 rfl)) ?_
  clear fr a; intro a fr
  refine fx_call fr rfl rfl (by first | decide | simp) (x_call (vs := [.pointer (some ⟨bw, 0, none⟩), .int .i64 m.src]) rfl rfl ⟨(fr.ev rfl), (fr.ev rfl), trivial⟩ Try.func66 nm66 rfl) (leave_c hW hE ne_bw_be m.src) ?_
  clear fr a
  rintro v w7 ⟨rfl, hEn6, hN8⟩ a fr
  replace hW := hW.only hN8 (by first | exact ne_bw_be | exact ne_be_bw.symm | (show ¬ bw = be; omega))
  replace hH := hH.only hN8 (by first | exact ne_bh_be | exact ne_be_bh.symm | (show ¬ bh = be; omega))
  replace hI := hI.only hN8 (by first | exact ne_bi_be | exact ne_be_bi.symm | (show ¬ bi = be; omega)) (by first | exact ne_ig_be | exact ne_be_ig.symm | (show ¬ ig = be; omega))
  replace hQ := hQ.only hN8 (Apart.ne1 ap_Q_be)
  replace hO := hO.only hN8 (Apart.ne1 ap_A_be)
  replace B4 := B4.only hN8 (by first | exact ne_b1_be | exact ne_be_b1.symm | (show ¬ b1 = be; omega))
  replace hF := hF.loc hN8 (.inl (.inr (.inl rfl)))
  replace hE := hEn6
  clear hEn6
  refine wpList_nil ?_
  refine fx_next ?_
  refine wp_seq ?_
  refine wp_seq ?_
  refine wp_region_lit ?_  -- region 2
  refine fx_val (v := .pointer (some ⟨bw, 0, none⟩)) fr rfl rfl (by first | decide | simp) (x_move rfl (fr.ev rfl)) ?_
  clear fr a; intro a fr
  refine fx_val (v := .pointer (some ⟨bw, 0, none⟩)) fr rfl rfl (by first | decide | simp) (x_nilCheck rfl (fr.ev rfl)) ?_
  clear fr a; intro a fr
  refine fx_val (v := .pointer (some ⟨bw, 1, none⟩)) fr rfl rfl (by first | decide | simp) (x_fieldAddr fo82_1 rfl (fr.ev rfl) rfl) ?_
  clear fr a; intro a fr
  refine fx_val (v := .pointer (some ⟨be, 0, none⟩)) fr rfl rfl (by first | decide | simp) (x_load1 pl78 rfl (fr.ev rfl) (hW.cell 1 rfl)) ?_
  clear fr a; intro a fr
  refine fx_val (v := .pointer (some ⟨be, 0, none⟩)) fr rfl rfl (by first | decide | simp) (x_nilCheck rfl (fr.ev rfl)) ?_
  clear fr a; intro a fr
  refine fx_val (v := .pointer (some ⟨be, 0, none⟩)) fr rfl rfl (by first | decide | simp) (x_fieldAddr fo42_0 rfl (fr.ev rfl) rfl) ?_
  clear fr a; intro a fr
  refine fx_val (v := .int .i64 ((leaveF d m.src).o)) fr rfl rfl (by first | decide | simp) (x_load1 pl3 rfl (fr.ev rfl) (hE.cell 0 rfl)) ?_
  clear fr a; intro a fr
  refine fx_val (v := .bool (decide (0 ≤ (leaveF d m.src).o))) fr rfl rfl (by first | decide | simp) (x_geq rfl (fr.ev rfl) rfl rfl) ?_
  clear fr a; intro a fr
  refine wpList_nil ?_
  refine fx_next ?_
  refine fx_cond fr rfl (fun hc9 => ?_) (fun hc9 => ?_)
  · skip
    have hc9 := of_decide_eq_true hc9
    refine wp_seq ?_
    refine wp_region_lit ?_  -- region 3
    refine fx_val (v := .pointer (some ⟨bw, 0, none⟩)) fr rfl rfl (by first | decide | simp) (x_move rfl (fr.ev rfl)) ?_
    clear fr a; intro a fr
    refine fx_val (v := .pointer (some ⟨bw, 0, none⟩)) fr rfl rfl (by first | decide | simp) (x_move rfl (fr.ev rfl)) ?_
    clear fr a; intro a fr
    refine fx_val (v := .pointer (some ⟨bw, 0, none⟩)) fr rfl rfl (by first | decide | simp) (x_nilCheck rfl (fr.ev rfl)) ?_
    clear fr a; intro a fr
    refine fx_val (v := .pointer (some ⟨bw, 1, none⟩)) fr rfl rfl (by first | decide | simp) (x_fieldAddr fo82_1 rfl (fr.ev rfl) rfl) ?_
    clear fr a; intro a fr
    refine fx_val (v := .pointer (some ⟨be, 0, none⟩)) fr rfl rfl (by first | decide | simp) (x_load1 pl78 rfl (fr.ev rfl) (hW.cell 1 rfl)) ?_
    clear fr a; intro a fr
    refine fx_val (v := .pointer (some ⟨be, 0, none⟩)) fr rfl rfl (by first | decide | simp) (x_nilCheck rfl (fr.ev rfl)) ?_
    clear fr a; intro a fr
    refine fx_val (v := .pointer (some ⟨be, 0, none⟩)) fr rfl rfl (by first | decide | simp) (x_fieldAddr fo42_0 rfl (fr.ev rfl) rfl) ?_
    clear fr a; intro a fr
    refine fx_val (v := .int .i64 ((leaveF d m.src).o)) fr rfl rfl (by first | decide | simp) (x_load1 pl3 rfl (fr.ev rfl) (hE.cell 0 rfl)) ?_
    clear fr a; intro a fr
    refine fx_call fr rfl rfl (by first | decide | simp) (x_call (vs := [.pointer (some ⟨bw, 0, none⟩), .int .i64 5, .int .i64 ((leaveF d m.src).o), .bool false]) rfl rfl ⟨(fr.ev rfl), rfl, (fr.ev rfl), rfl, trivial⟩ Try.func53 nm53 rfl) (send_n m.hn hW hH hI hO ne_bw_bh ne_bw_bi ne_bw_ig ap_A_bw ap_A_bh ap_A_bi ap_A_ig (by first | omega | (simp only [List.length_append, List.length_cons, List.length_nil, List.length_map, List.length_take]; omega)) 5 ((leaveF d m.src).o)) ?_
    clear fr a
    rintro v w15 ⟨rfl, A10, ac11, hWn12, O13, mv14, hN16⟩ a fr
    have ap_A10_bw : Apart A10 bw := moved_apart mv14 ap_A_bw hW.lt
    have ap_A10_bh : Apart A10 bh := moved_apart mv14 ap_A_bh hH.lt
    have ap_A10_bi : Apart A10 bi := moved_apart mv14 ap_A_bi hI.lt.1
    have ap_A10_ig : Apart A10 ig := moved_apart mv14 ap_A_ig hI.lt.2
    have ap2_A10_Q : Apart2 A10 Q := moved_apart2 mv14 ap2_Q_A.symm fun _ hg => hQ.lt hg
    have ap_A10_b1 : Apart A10 b1 := moved_apart mv14 ap_A_b1 B4.lt
    have ap_A10_be : Apart A10 be := moved_apart mv14 ap_A_be hE.lt
    have gA_A10 := gA_moved hF mv14 gA_A
    replace hH := hH.only hN16 (fun h => h.elim (by first | exact ne_bh_bw | exact ne_bw_bh.symm | (show ¬ bh = bw; omega)) ap_A_bh)
    replace hI := hI.only hN16 (fun h => h.elim (by first | exact ne_bi_bw | exact ne_bw_bi.symm | (show ¬ bi = bw; omega)) ap_A_bi) (fun h => h.elim (by first | exact ne_ig_bw | exact ne_bw_ig.symm | (show ¬ ig = bw; omega)) ap_A_ig)
    replace hQ := hQ.only hN16 (fun g hg => (fun h => h.elim ((Apart.ne1 ap_Q_bw) g hg) ((fun g h1 h2 => ap2_Q_A g h1 h2) g hg)))
    replace B4 := B4.only hN16 (fun h => h.elim (by first | exact ne_b1_bw | exact ne_bw_b1.symm | (show ¬ b1 = bw; omega)) ap_A_b1)
    replace hE := hE.only hN16 (fun h => h.elim (by first | exact ne_be_bw | exact ne_bw_be.symm | (show ¬ be = bw; omega)) ap_A_be)
    replace hF := hF.loc2 hN16 (.inl (.inl rfl)) gA_A
    clear hW hO
    have hW := hWn12
    clear hWn12
    refine wpList_nil ?_
    refine fx_next ?_
    refine wp_seq ?_
    refine wp_region_lit ?_  -- region 4
    refine fx_val (v := .pointer (some ⟨bw, 0, none⟩)) fr rfl rfl (by first | decide | simp) (x_move rfl (fr.ev rfl)) ?_
    clear fr a; intro a fr
    refine fx_val (v := .agg (msgE.arr m)) fr rfl rfl (by first | decide | simp) (x_loadE (E := msgE) ag36 rfl rfl (fr.ev rfl) (B4.rangeE msgE)) ?_
    clear fr a; intro a fr
    refine fx_call fr rfl rfl (by first | decide | simp) (x_call (vs := [.pointer (some ⟨bw, 0, none⟩), .agg (msgE.arr m), .int .i64 1, .bool false]) rfl rfl ⟨(fr.ev rfl), (fr.ev rfl), rfl, rfl, trivial⟩ Try.func67 nm67 rfl) (busy_c hW hE ne_bw_be m 1 false) ?_
    clear fr a
    rintro v w18 ⟨rfl, hEn17, hN19⟩ a fr
    replace hH := hH.only hN19 (by first | exact ne_bh_be | exact ne_be_bh.symm | (show ¬ bh = be; omega))
    replace hI := hI.only hN19 (by first | exact ne_bi_be | exact ne_be_bi.symm | (show ¬ bi = be; omega)) (by first | exact ne_ig_be | exact ne_be_ig.symm | (show ¬ ig = be; omega))
    replace hQ := hQ.only hN19 (Apart.ne1 ap_Q_be)
    replace B4 := B4.only hN19 (by first | exact ne_b1_be | exact ne_be_b1.symm | (show ¬ b1 = be; omega))
    replace hW := hW.only hN19 (by first | exact ne_bw_be | exact ne_be_bw.symm | (show ¬ bw = be; omega))
    replace O13 := O13.only hN19 (Apart.ne1 ap_A10_be)
    replace hF := hF.loc hN19 (.inl (.inr (.inl rfl)))
    replace hE := hEn17
    clear hEn17
    refine wpList_nil ?_
    refine fx_next ?_
    refine wp_ret ?_
    refine fx_rt ?_
    refine fx_ret fr [] [] rfl trivial rfl ?_
    rw [begin_m1 hk hc9]
    exact ⟨_, rfl, rfl, A10, ac11, ⟨hW, hE, hH, hI, hQ, O13, ⟨ne_bw_be, ne_bw_bh, ne_bw_bi, ne_bw_ig, ne_be_bh, ne_be_bi, ne_be_ig, ne_bh_bi, ne_bh_ig, ne_bi_ig, ap_Q_bw, ap_Q_be, ap_Q_bh, ap_Q_bi, ap_Q_ig, ap_A10_bw, ap_A10_be, ap_A10_bh, ap_A10_bi, ap_A10_ig, ap2_A10_Q.symm⟩⟩, wmv gA_A10 ap_A10_bw ap_A10_be ap_A10_ig, hF⟩
  · skip
    have hc9 := of_decide_eq_false hc9
    refine wp_skip ?_
    refine fx_next ?_
    refine wp_seq ?_
    refine wp_region_lit ?_  -- region 5
    refine fx_val (v := .pointer (some ⟨bw, 0, none⟩)) fr rfl rfl (by first | decide | simp) (x_move rfl (fr.ev rfl)) ?_
    clear fr a; intro a fr
    refine fx_val (v := .pointer (some ⟨b1, 1, none⟩)) fr rfl rfl (by first | decide | simp) (x_fieldAddr fo36_1 rfl (fr.ev rfl) rfl) ?_
    clear fr a; intro a fr
    refine fx_val (v := .int .i64 m.src) fr rfl rfl (by first | decide | simp) (x_load1 pl3 rfl (fr.ev rfl) (B4.cell 1 rfl)) ?_
    clear fr a; intro a fr
    refine fx_call fr rfl rfl (by first | decide | simp) (x_call (vs := [.pointer (some ⟨bw, 0, none⟩), .int .i64 m.src]) rfl rfl ⟨(fr.ev rfl), (fr.ev rfl), trivial⟩ Try.func68 nm68 rfl) (others_c hW hE ne_bw_be m.src) ?_
    clear fr a
    rintro v w25 ⟨A20, c21, rfl, OL22, hA23, hN26⟩ a fr
    have ap_A20_bw : Apart A20 bw := new_apart hA23 hW.lt
    have ap_A20_bh : Apart A20 bh := new_apart hA23 hH.lt
    have ap_A20_bi : Apart A20 bi := new_apart hA23 hI.lt.1
    have ap_A20_ig : Apart A20 ig := new_apart hA23 hI.lt.2
    have ap2_Q_A20 : Apart2 Q A20 := (new_apart2 hA23 fun _ hg => hQ.lt hg).symm
    have ap2_A_A20 : Apart2 A A20 := (new_apart2 hA23 fun _ hg => hO.lt hg).symm
    have ap_A20_b1 : Apart A20 b1 := new_apart hA23 B4.lt
    have ap_A20_be : Apart A20 be := new_apart hA23 hE.lt
    have gA_A20 := gA_new hF hA23
    replace hW := hW.new hN26
    replace hH := hH.new hN26
    replace hI := hI.new hN26
    replace hQ := hQ.new hN26
    replace hO := hO.new hN26
    replace B4 := B4.new hN26
    replace hE := hE.new hN26
    replace hF := hF.trNew hN26
    have hol24 : (othersF d.sh m.src).length ≤ 4 := othK_len _ _ 4
    refine fx_val (v := .slice A20 ((othersF d.sh m.src).length) c21) fr rfl rfl (by first | decide | simp) (x_assign rfl (fr.ev rfl)) ?_
    clear fr a; intro a fr
    refine wpList_nil ?_
    refine fx_next ?_
    refine wp_seq ?_
    refine wp_seq ?_
    refine wp_region_lit ?_  -- region 6
    refine fx_val (v := .slice A20 ((othersF d.sh m.src).length) c21) fr rfl rfl (by first | decide | simp) (x_move rfl (fr.ev rfl)) ?_
    clear fr a; intro a fr
    refine fx_val (v := .int .i64 (((othersF d.sh m.src).length : Nat) : Int)) fr rfl rfl (by first | decide | simp) (x_len Try.underlying119 rfl (fr.ev rfl)) ?_
    clear fr a; intro a fr
    refine fx_val (v := .int .i64 0) fr rfl rfl (by first | decide | simp) (x_move rfl rfl) ?_
    clear fr a; intro a fr
    refine wpList_nil ?_
    refine fx_next ?_
    refine wp_block ?_
    refine fx_loop (fun nM a wL => ∃ i : Nat, ∃ A1 : Option Addr, ∃ c1 : Nat, nM = (othersF d.sh m.src).length - i ∧ Fr (55, []) [(0, .pointer (some ⟨bw, 0, none⟩)), (3, .pointer (some ⟨b1, 0, none⟩)), (4, .slice A20 ((othersF d.sh m.src).length) c21), (35, .slice A20 ((othersF d.sh m.src).length) c21), (36, .int .i64 (((othersF d.sh m.src).length : Nat) : Int)), (37, .int .i64 ((i : Nat) : Int))] a ∧ Only (fun k => k = bw ∨ k = be ∨ k = ig ∨ inA A k) w wL ∧ Blk wL bw 82 #[.slice A1 ((out ++ ((othersF d.sh m.src).take i).map (sendM m 6)).length) c1, .pointer (some ⟨be, 0, none⟩), .pointer (some ⟨bh, 0, none⟩), .int .u32 m.line] ∧ Blk wL be 42 (entA (leaveF d m.src) (.slice Q d.q.length qc)) ∧ Blk wL bh 64 #[.pointer (some ⟨bi, 0, none⟩), .map (some r)] ∧ Img 0 wL bi ig cap bs ∧ View msgE wL Q qc d.q ∧ Own msgE wL A1 c1 (out ++ ((othersF d.sh m.src).take i).map (sendM m 6)) ∧ Blk wL b1 36 (msgE.arr m) ∧ Own intE wL A20 c21 (othersF d.sh m.src) ∧ i ≤ (othersF d.sh m.src).length ∧ (Apart A1 bw) ∧ (Apart A1 be) ∧ (Apart A1 bh) ∧ (Apart A1 bi) ∧ (Apart A1 ig) ∧ (Apart2 Q A1) ∧ (Apart A1 b1) ∧ (Apart2 A1 A20) ∧ (∀ g, inA A1 g → (fun k => k = bw ∨ k = be ∨ k = ig ∨ inA A k) g ∨ w.heap.size ≤ g)) (n0 := _) ⟨0, A, ac, rfl, fr.sub ⟨rfl, rfl, rfl, rfl, rfl, rfl, trivial⟩, hF, (by rw [List.take_zero, List.map_nil, List.append_nil]; exact hW), hE, hH, hI, hQ, (by rw [List.take_zero, List.map_nil, List.append_nil]; exact hO), B4, OL22, by omega, ap_A_bw, ap_A_be, ap_A_bh, ap_A_bi, ap_A_ig, ap2_Q_A, ap_A_b1, ap2_A_A20, gA_A⟩ ?_
    rintro n28 a w27 ⟨i, A1, c1, rfl, fr, hF, hW, hE, hH, hI, hQ, O1, B4, OL22, hp29, ap_A1_bw, ap_A1_be, ap_A1_bh, ap_A1_bi, ap_A1_ig, ap2_Q_A1, ap_A1_b1, ap2_A1_A20, gA_A1⟩
    have hLT : (((othersF d.sh m.src).take i).map (sendM m 6)).length ≤ 4 := by rw [List.length_map, List.length_take]; omega
    refine wp_seq ?_
    refine wp_region_lit ?_  -- region 7
    refine fx_val (v := .bool (decide (((i : Nat) : Int) < (((othersF d.sh m.src).length : Nat) : Int)))) fr rfl rfl (by first | decide | simp) (x_lss rfl (fr.ev rfl) (fr.ev rfl) rfl) ?_
    clear fr a; intro a fr
    refine wpList_nil ?_
    refine fx_next ?_
    refine wp_seq ?_
    refine fx_cond fr rfl (fun hc30 => ?_) (fun hc30 => ?_)
    · skip
      have hc30 := of_decide_eq_true hc30
      refine wp_skip ?_
      refine fx_next ?_
      refine wp_seq ?_
      refine wp_block ?_
      refine wp_seq ?_
      refine wp_region_lit ?_  -- region 8
      obtain ⟨g31, o32, hA33⟩ := (OL22.view).some_ (by first | omega | decide)
      refine fx_val (v := .pointer (some ⟨g31, o32 + i * 1, none⟩)) fr rfl rfl (by first | decide | simp) (x_indexV Try.underlying119 sz3 rfl (fr.ev rfl) hA33 (fr.ev rfl) (by first | omega | decide) rfl) ?_
      clear fr a; intro a fr
      refine fx_val (v := .int .i64 ((othersF d.sh m.src).getD i 0)) fr rfl rfl (by first | decide | simp) (x_load1 pl3 rfl (fr.ev rfl) (range_cell ((OL22.view).elem hA33 i 0 (by first | omega | decide)) 0 rfl rfl)) ?_
      clear fr a; intro a fr
      refine fx_val (v := .int .i64 ((othersF d.sh m.src).getD i 0)) fr rfl rfl (by first | decide | simp) (x_assign rfl (fr.ev rfl)) ?_
      clear fr a; intro a fr
      refine wpList_nil ?_
      refine fx_next ?_
      refine wp_region_lit ?_  -- region 9
      refine fx_val (v := .pointer (some ⟨bw, 0, none⟩)) fr rfl rfl (by first | decide | simp) (x_move rfl (fr.ev rfl)) ?_
      clear fr a; intro a fr
      refine fx_val (v := .int .i64 ((othersF d.sh m.src).getD i 0)) fr rfl rfl (by first | decide | simp) (x_move rfl (fr.ev rfl)) ?_
      clear fr a; intro a fr
      refine fx_call fr rfl rfl (by first | decide | simp) (x_call (vs := [.pointer (some ⟨bw, 0, none⟩), .int .i64 6, .int .i64 ((othersF d.sh m.src).getD i 0), .bool false]) rfl rfl ⟨(fr.ev rfl), rfl, (fr.ev rfl), rfl, trivial⟩ Try.func53 nm53 rfl) (send_n m.hn hW hH hI O1 ne_bw_bh ne_bw_bi ne_bw_ig ap_A1_bw ap_A1_bh ap_A1_bi ap_A1_ig (by first | omega | (simp only [List.length_append, List.length_cons, List.length_nil, List.length_map, List.length_take]; omega)) 6 ((othersF d.sh m.src).getD i 0)) ?_
      clear fr a
      rintro v w39 ⟨rfl, A34, ac35, hWn36, O37, mv38, hN40⟩ a fr
      have ap_A34_bw : Apart A34 bw := moved_apart mv38 ap_A1_bw hW.lt
      have ap_A34_be : Apart A34 be := moved_apart mv38 ap_A1_be hE.lt
      have ap_A34_bh : Apart A34 bh := moved_apart mv38 ap_A1_bh hH.lt
      have ap_A34_bi : Apart A34 bi := moved_apart mv38 ap_A1_bi hI.lt.1
      have ap_A34_ig : Apart A34 ig := moved_apart mv38 ap_A1_ig hI.lt.2
      have ap2_A34_Q : Apart2 A34 Q := moved_apart2 mv38 ap2_Q_A1.symm fun _ hg => hQ.lt hg
      have ap_A34_b1 : Apart A34 b1 := moved_apart mv38 ap_A1_b1 B4.lt
      have ap2_A34_A20 : Apart2 A34 A20 := moved_apart2 mv38 ap2_A1_A20 fun _ hg => OL22.lt hg
      have gA_A34 := gA_moved hF mv38 gA_A1
      replace hE := hE.only hN40 (fun h => h.elim (by first | exact ne_be_bw | exact ne_bw_be.symm | (show ¬ be = bw; omega)) ap_A1_be)
      replace hH := hH.only hN40 (fun h => h.elim (by first | exact ne_bh_bw | exact ne_bw_bh.symm | (show ¬ bh = bw; omega)) ap_A1_bh)
      replace hI := hI.only hN40 (fun h => h.elim (by first | exact ne_bi_bw | exact ne_bw_bi.symm | (show ¬ bi = bw; omega)) ap_A1_bi) (fun h => h.elim (by first | exact ne_ig_bw | exact ne_bw_ig.symm | (show ¬ ig = bw; omega)) ap_A1_ig)
      replace hQ := hQ.only hN40 (fun g hg => (fun h => h.elim ((Apart.ne1 ap_Q_bw) g hg) ((fun g h1 h2 => ap2_Q_A1 g h1 h2) g hg)))
      replace B4 := B4.only hN40 (fun h => h.elim (by first | exact ne_b1_bw | exact ne_bw_b1.symm | (show ¬ b1 = bw; omega)) ap_A1_b1)
      replace OL22 := OL22.only hN40 (fun g hg => (fun h => h.elim ((Apart.ne1 ap_A20_bw) g hg) ((fun g h1 h2 => ap2_A1_A20.symm g h1 h2) g hg)))
      replace hF := hF.loc2 hN40 (.inl (.inl rfl)) gA_A1
      clear hW O1
      have hW := hWn36
      clear hWn36
      refine wpList_nil ?_
      refine fx_blk ?_
      refine fx_next ?_
      refine wp_region_lit ?_  -- region 10
      refine fx_val (v := .int .i64 ((i + 1 : Nat) : Int)) fr rfl rfl (by first | decide | simp) (x_add rfl (fr.ev rfl) rfl (i64w (r := ((i + 1 : Nat) : Int)) (by omega) (by omega))) ?_
      clear fr a; intro a fr
      refine fx_val (v := .int .i64 ((i + 1 : Nat) : Int)) fr rfl rfl (by first | decide | simp) (x_move rfl (fr.ev rfl)) ?_
      clear fr a; intro a fr
      refine wpList_nil ?_
      refine fx_next ?_
      exact ⟨_, by omega, (i + 1), A34, ac35, rfl, fr.sub ⟨rfl, rfl, rfl, rfl, rfl, rfl, trivial⟩, hF, (by rw [take_map_sn (by omega)]; exact hW), hE, hH, hI, hQ, (by rw [take_map_sn (by omega)]; exact O37), B4, OL22, by omega, ap_A34_bw, ap_A34_be, ap_A34_bh, ap_A34_bi, ap_A34_ig, ap2_A34_Q.symm, ap_A34_b1, ap2_A34_A20, gA_A34⟩
    · skip
      have hc30 := of_decide_eq_false hc30
      refine wp_exit ?_
      refine fx_xt ?_
      refine fx_xt ?_
      refine fx_xx ?_
      refine fx_next ?_
      refine wp_seq ?_
      rw [List.take_of_length_le (by omega)] at hW O1
      have hLM : ((othersF d.sh m.src).map (sendM m 6)).length ≤ 4 := by rw [List.length_map]; omega
      refine wp_region_lit ?_  -- region 11
      refine fx_val (v := .pointer (some ⟨bw, 0, none⟩)) fr rfl rfl (by first | decide | simp) (x_move rfl (fr.ev rfl)) ?_
      clear fr a; intro a fr
      refine fx_val (v := .agg (msgE.arr m)) fr rfl rfl (by first | decide | simp) (x_loadE (E := msgE) ag36 rfl rfl (fr.ev rfl) (B4.rangeE msgE)) ?_
      clear fr a; intro a fr
      refine fx_val (v := .slice A20 ((othersF d.sh m.src).length) c21) fr rfl rfl (by first | decide | simp) (x_move rfl (fr.ev rfl)) ?_
      clear fr a; intro a fr
      refine fx_val (v := .int .i64 (((othersF d.sh m.src).length : Nat) : Int)) fr rfl rfl (by first | decide | simp) (x_len Try.underlying119 rfl (fr.ev rfl)) ?_
      clear fr a; intro a fr
      refine fx_call fr rfl rfl (by first | decide | simp) (x_call (vs := [.pointer (some ⟨bw, 0, none⟩), .agg (msgE.arr m), .int .i64 (((othersF d.sh m.src).length : Nat) : Int), .bool false]) rfl rfl ⟨(fr.ev rfl), (fr.ev rfl), (fr.ev rfl), rfl, trivial⟩ Try.func67 nm67 rfl) (busy_c hW hE ne_bw_be m (((othersF d.sh m.src).length : Nat) : Int) false) ?_
      clear fr a
      rintro v w42 ⟨rfl, hEn41, hN43⟩ a fr
      replace hH := hH.only hN43 (by first | exact ne_bh_be | exact ne_be_bh.symm | (show ¬ bh = be; omega))
      replace hI := hI.only hN43 (by first | exact ne_bi_be | exact ne_be_bi.symm | (show ¬ bi = be; omega)) (by first | exact ne_ig_be | exact ne_be_ig.symm | (show ¬ ig = be; omega))
      replace hQ := hQ.only hN43 (Apart.ne1 ap_Q_be)
      replace B4 := B4.only hN43 (by first | exact ne_b1_be | exact ne_be_b1.symm | (show ¬ b1 = be; omega))
      replace OL22 := OL22.only hN43 (Apart.ne1 ap_A20_be)
      replace hW := hW.only hN43 (by first | exact ne_bw_be | exact ne_be_bw.symm | (show ¬ bw = be; omega))
      replace O1 := O1.only hN43 (Apart.ne1 ap_A1_be)
      replace hF := hF.loc hN43 (.inl (.inr (.inl rfl)))
      replace hE := hEn41
      clear hEn41
      refine wpList_nil ?_
      refine fx_next ?_
      refine wp_seq ?_
      refine wp_region_lit ?_  -- region 12
      refine fx_val (v := .slice A20 ((othersF d.sh m.src).length) c21) fr rfl rfl (by first | decide | simp) (x_move rfl (fr.ev rfl)) ?_
      clear fr a; intro a fr
      refine fx_val (v := .int .i64 (((othersF d.sh m.src).length : Nat) : Int)) fr rfl rfl (by first | decide | simp) (x_len Try.underlying119 rfl (fr.ev rfl)) ?_
      clear fr a; intro a fr
      refine fx_val (v := .bool (decide ((((othersF d.sh m.src).length : Nat) : Int) = 0))) fr rfl rfl (by first | decide | simp) (x_eql rfl (fr.ev rfl) rfl rfl) ?_
      clear fr a; intro a fr
      refine wpList_nil ?_
      refine fx_next ?_
      refine fx_cond fr rfl (fun hc44 => ?_) (fun hc44 => ?_)
      · skip
        have hc44 := of_decide_eq_true hc44
        refine wp_region_lit ?_  -- region 13
        refine fx_val (v := .pointer (some ⟨bw, 0, none⟩)) fr rfl rfl (by first | decide | simp) (x_move rfl (fr.ev rfl)) ?_
        clear fr a; intro a fr
        refine fx_call fr rfl rfl (by first | decide | simp) (x_call (vs := [.pointer (some ⟨bw, 0, none⟩)]) rfl rfl ⟨(fr.ev rfl), trivial⟩ Try.func51 nm51 rfl) (write_c ⟨hW, hE, hH, hI, hQ, O1, ⟨ne_bw_be, ne_bw_bh, ne_bw_bi, ne_bw_ig, ne_be_bh, ne_be_bi, ne_be_ig, ne_bh_bi, ne_bh_ig, ne_bi_ig, ap_Q_bw, ap_Q_be, ap_Q_bh, ap_Q_bi, ap_Q_ig, ap_A1_bw, ap_A1_be, ap_A1_bh, ap_A1_bi, ap_A1_ig, ap2_Q_A1⟩⟩ m.hn (by first | omega | (simp only [List.length_append, List.length_cons, List.length_nil, List.length_map, List.length_take]; omega))) ?_
        clear fr a
        rintro v w50 ⟨rfl, A45, ac46, R47, mv48, hN51⟩ a fr
        have ap_A45_b1 : Apart A45 b1 := moved_apart mv48 ap_A1_b1 B4.lt
        have ap2_A45_A20 : Apart2 A45 A20 := moved_apart2 mv48 ap2_A1_A20 fun _ hg => OL22.lt hg
        have gA_A45 := gA_moved hF mv48 gA_A1
        replace B4 := B4.only hN51 (fun h => h.elim (by first | exact ne_b1_bw | exact ne_bw_b1.symm | (show ¬ b1 = bw; omega)) (fun h => h.elim (by first | exact ne_b1_be | exact ne_be_b1.symm | (show ¬ b1 = be; omega)) (fun h => h.elim (by first | exact ne_b1_ig | exact ne_ig_b1.symm | (show ¬ b1 = ig; omega)) ap_A1_b1)))
        replace OL22 := OL22.only hN51 (fun g hg => (fun h => h.elim ((Apart.ne1 ap_A20_bw) g hg) (fun h => h.elim ((Apart.ne1 ap_A20_be) g hg) (fun h => h.elim ((Apart.ne1 ap_A20_ig) g hg) ((fun g h1 h2 => ap2_A1_A20.symm g h1 h2) g hg)))))
        replace hF := hF.locS hN51 (fun i => (fun h => h.elim (fun e => by rw [e]; exact (.inl (.inl rfl))) (fun h => h.elim (fun e => by rw [e]; exact (.inl (.inr (.inl rfl)))) (fun h => h.elim (fun e => by rw [e]; exact (.inl (.inr (.inr (.inl rfl))))) (fun h => gA_A1 i h)))))
        clear hW hE hH hI hQ O1
        obtain ⟨hW, hE, hH, hI, hQ, O49, hS⟩ := R47
        have ap_A45_bw := hS.ap_A_bw
        have ap_A45_be := hS.ap_A_be
        have ap_A45_bh := hS.ap_A_bh
        have ap_A45_bi := hS.ap_A_bi
        have ap_A45_ig := hS.ap_A_ig
        have ap2_Q_A45 := hS.ap2_Q_A
        refine wpList_nil ?_
        refine fx_end fr [] [] rfl trivial rfl ?_
        rw [begin_m3 hk hc9 (show (othersF (leaveF d m.src).sh m.src).length = 0 from by first | exact hc44 | (show (othersF d.sh m.src).length = 0; omega))]
        have hL0 : othersF d.sh m.src = [] := List.eq_nil_of_length_eq_zero (by omega)
        simp only [hL0, List.map_nil, List.append_nil, List.length_nil, Int.natCast_zero] at hW hE O49
        exact ⟨_, rfl, rfl, A45, ac46, ⟨hW, hE, hH, hI, hQ, O49, ⟨ne_bw_be, ne_bw_bh, ne_bw_bi, ne_bw_ig, ne_be_bh, ne_be_bi, ne_be_ig, ne_bh_bi, ne_bh_ig, ne_bi_ig, ap_Q_bw, ap_Q_be, ap_Q_bh, ap_Q_bi, ap_Q_ig, ap_A45_bw, ap_A45_be, ap_A45_bh, ap_A45_bi, ap_A45_ig, ap2_Q_A45⟩⟩, wmv gA_A45 ap_A45_bw ap_A45_be ap_A45_ig, hF⟩
      · skip
        have hc44 := of_decide_eq_false hc44
        refine wp_skip ?_
        refine fx_end fr [] [] rfl trivial rfl ?_
        rw [begin_m2 hk hc9 (show ¬ (othersF (leaveF d m.src).sh m.src).length = 0 from by first | exact hc44 | (show ¬ (othersF d.sh m.src).length = 0; omega))]
        exact ⟨_, rfl, rfl, A1, c1, ⟨hW, hE, hH, hI, hQ, O1, ⟨ne_bw_be, ne_bw_bh, ne_bw_bi, ne_bw_ig, ne_be_bh, ne_be_bi, ne_be_ig, ne_bh_bi, ne_bh_ig, ne_bi_ig, ap_Q_bw, ap_Q_be, ap_Q_bh, ap_Q_bi, ap_Q_ig, ap_A1_bw, ap_A1_be, ap_A1_bh, ap_A1_bi, ap_A1_ig, ap2_Q_A1⟩⟩, wmv gA_A1 ap_A1_bw ap_A1_be ap_A1_ig, hF⟩
set_option maxRecDepth 100000 in
set_option maxHeartbeats 4000000 in
theorem put_c {w : World} {bw be bh bi ig cap r : Nat} {d : Ent} {Q : Option Addr} {qc : Nat} {A : Option Addr} {ac : Nat} {out : List Msg} {bs : List UInt8} (m : Msg) (R : WorkR w bw be bh bi ig cap r m.line d Q qc A ac out bs) (hlen : out.length + 8 ≤ 1000000) (hsrc : 0 ≤ m.src ∧ m.src < 4) (hk : m.kind = 3) : Calls Try.prog 62 #[.pointer (some ⟨bw, 0, none⟩), .agg (msgE.arr m)] w (Ret fun v w' => v = .tuple #[] ∧ WRet w w' bw be bh bi ig cap r m.line Q qc A out (beginF bs d m).1 (beginF bs d m).2.1 (beginF bs d m).2.2) := by
  obtain ⟨hW, hE, hH, hI, hQ, hO, hS⟩ := R
  have ne_bw_be := hS.ne_bw_be
  have ne_bw_bh := hS.ne_bw_bh
  have ne_bw_bi := hS.ne_bw_bi
  have ne_bw_ig := hS.ne_bw_ig
  have ne_be_bh := hS.ne_be_bh
  have ne_be_bi := hS.ne_be_bi
  have ne_be_ig := hS.ne_be_ig
  have ne_bh_bi := hS.ne_bh_bi
  have ne_bh_ig := hS.ne_bh_ig
  have ne_bi_ig := hS.ne_bi_ig
  have ap_Q_bw := hS.ap_Q_bw
  have ap_Q_be := hS.ap_Q_be
  have ap_Q_bh := hS.ap_Q_bh
  have ap_Q_bi := hS.ap_Q_bi
  have ap_Q_ig := hS.ap_Q_ig
  have ap_A_bw := hS.ap_A_bw
  have ap_A_be := hS.ap_A_be
  have ap_A_bh := hS.ap_A_bh
  have ap_A_bi := hS.ap_A_bi
  have ap_A_ig := hS.ap_A_ig
  have ap2_Q_A := hS.ap2_Q_A
  have gA_A : ∀ g, inA A g → (g = bw ∨ g = be ∨ g = ig ∨ inA A g) ∨ w.heap.size ≤ g := fun g hg => .inl (.inr (.inr (.inr hg)))
  have hmn := m.hn
  have hF := Only.refl (fun k => k = bw ∨ k = be ∨ k = ig ∨ inA A k) w
  refine fx_enter Try.func62 rfl (N := (38, [])) (T := [(0, .pointer (some ⟨bw, 0, none⟩)), (1, .agg (msgE.arr m))]) rfl (show 2 ≤ 38 by decide) ⟨rfl, rfl, trivial⟩ fun a fr => ?_
  refine wp_seq ?_
  refine wp_region_lit ?_  -- region 0
  refine fx_new fr rfl rfl (by first | decide | simp) (x_box (cs := msgE.arr m) rfl (fr.ev rfl) rfl) ?_
  clear fr a
  intro b1 w2 hN3 B4 hb5 a fr
  have ne_bw_b1 : NE bw b1 := NE.mk (Nat.lt_of_lt_of_le hW.lt hb5)
  have ne_be_b1 : NE be b1 := NE.mk (Nat.lt_of_lt_of_le hE.lt hb5)
  have ne_bh_b1 : NE bh b1 := NE.mk (Nat.lt_of_lt_of_le hH.lt hb5)
  have ne_bi_b1 : NE bi b1 := NE.mk (Nat.lt_of_lt_of_le hI.lt.1 hb5)
  have ne_ig_b1 : NE ig b1 := NE.mk (Nat.lt_of_lt_of_le hI.lt.2 hb5)
  have ap_Q_b1 : Apart Q b1 := hQ.apart hb5
  have ap_A_b1 : Apart A b1 := hO.apart hb5
  have g_b1 := Nat.le_trans hF.size hb5
  replace hW := hW.new hN3
  replace hE := hE.new hN3
  replace hH := hH.new hN3
  replace hI := hI.new hN3
  replace hQ := hQ.new hN3
  replace hO := hO.new hN3
  replace hF := hF.trNew hN3
  refine wpList_nil ?_
  refine fx_next ?_
  refine wp_seq ?_
  refine wp_seq ?_
  refine fx_held (n := 10) (fun w => Blk w bw 82 #[.slice A out.length ac, .pointer (some ⟨be, 0, none⟩), .pointer (some ⟨bh, 0, none⟩), .int .u32 m.line] ∧ Blk w be 42 (entA d (.slice Q d.q.length qc)) ∧ Blk w bh 64 #[.pointer (some ⟨bi, 0, none⟩), .map (some r)] ∧ Img 0 w bi ig cap bs ∧ View msgE w Q qc d.q ∧ Own msgE w A ac out ∧ Blk w b1 36 (msgE.arr m) ∧ True) (by kernel_rfl) rfl ?_  -- region 1
  intro w6 hN7
  replace hW := hW.new hN7
  replace hE := hE.new hN7
  replace hH := hH.new hN7
  replace hI := hI.new hN7
  replace hQ := hQ.new hN7
  replace hO := hO.new hN7
  replace B4 := B4.new hN7
  replace hF := hF.trNew hN7
  refine fx_take (i := 0) (v := .pointer (some ⟨bw, 0, none⟩)) fr rfl (by kernel_rfl) rfl rfl (by first | decide | simp) (fun _ _ _ h => h) (fun _ ⟨hW, hE, hH, hI, hQ, hO, B4, _⟩ => x_move rfl (fr.ev rfl)) ⟨hW, hE, hH, hI, hQ, hO, B4, trivial⟩ ?_
  clear fr a; intro a fr
  refine fx_take (i := 1) (v := .pointer (some ⟨bw, 0, none⟩)) fr rfl (by kernel_rfl) rfl rfl (by first | decide | simp) (fun _ _ _ h => h) (fun _ ⟨hW, hE, hH, hI, hQ, hO, B4, _⟩ => x_nilCheck rfl (fr.ev rfl)) ⟨hW, hE, hH, hI, hQ, hO, B4, trivial⟩ ?_
  clear fr a; intro a fr
  refine fx_take (i := 2) (v := .pointer (some ⟨bw, 1, none⟩)) fr rfl (by kernel_rfl) rfl rfl (by first | decide | simp) (fun _ _ _ h => h) (fun _ ⟨hW, hE, hH, hI, hQ, hO, B4, _⟩ => x_fieldAddr fo82_1 rfl (fr.ev rfl) rfl) ⟨hW, hE, hH, hI, hQ, hO, B4, trivial⟩ ?_
  clear fr a; intro a fr
  refine fx_take (i := 3) (v := .pointer (some ⟨be, 0, none⟩)) fr rfl (by kernel_rfl) rfl rfl (by first | decide | simp) (fun _ _ _ h => h) (fun _ ⟨hW, hE, hH, hI, hQ, hO, B4, _⟩ => x_load1 pl78 rfl (fr.ev rfl) (hW.cell 1 rfl)) ⟨hW, hE, hH, hI, hQ, hO, B4, trivial⟩ ?_
  clear fr a; intro a fr
  refine fx_take (i := 4) (v := .pointer (some ⟨be, 0, none⟩)) fr rfl (by kernel_rfl) rfl rfl (by first | decide | simp) (fun _ _ _ h => h) (fun _ ⟨hW, hE, hH, hI, hQ, hO, B4, _⟩ => x_nilCheck rfl (fr.ev rfl)) ⟨hW, hE, hH, hI, hQ, hO, B4, trivial⟩ ?_
  clear fr a; intro a fr
  refine fx_take (i := 5) (v := .pointer (some ⟨be, 0, none⟩)) fr rfl (by kernel_rfl) rfl rfl (by first | decide | simp) (fun _ _ _ h => h) (fun _ ⟨hW, hE, hH, hI, hQ, hO, B4, _⟩ => x_fieldAddr fo42_0 rfl (fr.ev rfl) rfl) ⟨hW, hE, hH, hI, hQ, hO, B4, trivial⟩ ?_
  clear fr a; intro a fr
  refine fx_take (i := 6) (v := .int .i64 d.o) fr rfl (by kernel_rfl) rfl rfl (by first | decide | simp) (fun _ _ _ h => h) (fun _ ⟨hW, hE, hH, hI, hQ, hO, B4, _⟩ => x_load1 pl3 rfl (fr.ev rfl) (hE.cell 0 rfl)) ⟨hW, hE, hH, hI, hQ, hO, B4, trivial⟩ ?_
  clear fr a; intro a fr
  refine fx_take (i := 7) (v := .pointer (some ⟨b1, 1, none⟩)) fr rfl (by kernel_rfl) rfl rfl (by first | decide | simp) (fun _ _ _ h => h) (fun _ ⟨hW, hE, hH, hI, hQ, hO, B4, _⟩ => x_fieldAddr fo36_1 rfl (fr.ev rfl) rfl) ⟨hW, hE, hH, hI, hQ, hO, B4, trivial⟩ ?_
  clear fr a; intro a fr
  refine fx_take (i := 8) (v := .int .i64 m.src) fr rfl (by kernel_rfl) rfl rfl (by first | decide | simp) (fun _ _ _ h => h) (fun _ ⟨hW, hE, hH, hI, hQ, hO, B4, _⟩ => x_load1 pl3 rfl (fr.ev rfl) (B4.cell 1 rfl)) ⟨hW, hE, hH, hI, hQ, hO, B4, trivial⟩ ?_
  clear fr a; intro a fr
  refine fx_take (i := 9) (v := .bool (decide (d.o = m.src))) fr rfl (by kernel_rfl) rfl rfl (by first | decide | simp) (fun _ _ _ h => h) (fun _ ⟨hW, hE, hH, hI, hQ, hO, B4, _⟩ => x_eql rfl (fr.ev rfl) (fr.ev rfl) rfl) ⟨hW, hE, hH, hI, hQ, hO, B4, trivial⟩ ?_
  clear fr a; intro a fr
  refine fx_hdone (by kernel_rfl) ?_
  refine fx_next ?_
  refine fx_cond fr rfl (fun hc8 => ?_) (fun hc8 => ?_)
  · skip
    have hc8 := of_decide_eq_true hc8
    refine wp_seq ?_
    refine fx_held (n := 14) (fun w => Blk w bw 82 #[.slice A out.length ac, .pointer (some ⟨be, 0, none⟩), .pointer (some ⟨bh, 0, none⟩), .int .u32 m.line] ∧ Blk w be 42 (entA d (.slice Q d.q.length qc)) ∧ Blk w bh 64 #[.pointer (some ⟨bi, 0, none⟩), .map (some r)] ∧ View msgE w Q qc d.q ∧ Own msgE w A ac out ∧ Blk w b1 36 (msgE.arr m) ∧ True) (by kernel_rfl) rfl ?_  -- region 2
    intro w9 hN10
    replace hW := hW.new hN10
    replace hE := hE.new hN10
    replace hH := hH.new hN10
    replace hI := hI.new hN10
    replace hQ := hQ.new hN10
    replace hO := hO.new hN10
    replace B4 := B4.new hN10
    replace hF := hF.trNew hN10
    refine fx_take (i := 0) (v := .pointer (some ⟨bw, 0, none⟩)) fr rfl (by kernel_rfl) rfl rfl (by first | decide | simp) (fun _ _ _ h => h) (fun _ ⟨hW, hE, hH, hQ, hO, B4, _⟩ => x_move rfl (fr.ev rfl)) ⟨hW, hE, hH, hQ, hO, B4, trivial⟩ ?_
    clear fr a; intro a fr
    refine fx_take (i := 1) (v := .pointer (some ⟨bw, 0, none⟩)) fr rfl (by kernel_rfl) rfl rfl (by first | decide | simp) (fun _ _ _ h => h) (fun _ ⟨hW, hE, hH, hQ, hO, B4, _⟩ => x_nilCheck rfl (fr.ev rfl)) ⟨hW, hE, hH, hQ, hO, B4, trivial⟩ ?_
    clear fr a; intro a fr
    refine fx_take (i := 2) (v := .pointer (some ⟨bw, 2, none⟩)) fr rfl (by kernel_rfl) rfl rfl (by first | decide | simp) (fun _ _ _ h => h) (fun _ ⟨hW, hE, hH, hQ, hO, B4, _⟩ => x_fieldAddr fo82_2 rfl (fr.ev rfl) rfl) ⟨hW, hE, hH, hQ, hO, B4, trivial⟩ ?_
    clear fr a; intro a fr
    refine fx_take (i := 3) (v := .pointer (some ⟨bh, 0, none⟩)) fr rfl (by kernel_rfl) rfl rfl (by first | decide | simp) (fun _ _ _ h => h) (fun _ ⟨hW, hE, hH, hQ, hO, B4, _⟩ => x_load1 pl25 rfl (fr.ev rfl) (hW.cell 2 rfl)) ⟨hW, hE, hH, hQ, hO, B4, trivial⟩ ?_
    clear fr a; intro a fr
    refine fx_take (i := 4) (v := .pointer (some ⟨bh, 0, none⟩)) fr rfl (by kernel_rfl) rfl rfl (by first | decide | simp) (fun _ _ _ h => h) (fun _ ⟨hW, hE, hH, hQ, hO, B4, _⟩ => x_nilCheck rfl (fr.ev rfl)) ⟨hW, hE, hH, hQ, hO, B4, trivial⟩ ?_
    clear fr a; intro a fr
    refine fx_take (i := 5) (v := .pointer (some ⟨bh, 0, none⟩)) fr rfl (by kernel_rfl) rfl rfl (by first | decide | simp) (fun _ _ _ h => h) (fun _ ⟨hW, hE, hH, hQ, hO, B4, _⟩ => x_fieldAddr fo64_0 rfl (fr.ev rfl) rfl) ⟨hW, hE, hH, hQ, hO, B4, trivial⟩ ?_
    clear fr a; intro a fr
    refine fx_take (i := 6) (v := .pointer (some ⟨bi, 0, none⟩)) fr rfl (by kernel_rfl) rfl rfl (by first | decide | simp) (fun _ _ _ h => h) (fun _ ⟨hW, hE, hH, hQ, hO, B4, _⟩ => x_load1 pl61 rfl (fr.ev rfl) (hH.cell 0 rfl)) ⟨hW, hE, hH, hQ, hO, B4, trivial⟩ ?_
    clear fr a; intro a fr
    refine fx_take (i := 7) (v := .pointer (some ⟨bw, 0, none⟩)) fr rfl (by kernel_rfl) rfl rfl (by first | decide | simp) (fun _ _ _ h => h) (fun _ ⟨hW, hE, hH, hQ, hO, B4, _⟩ => x_move rfl (fr.ev rfl)) ⟨hW, hE, hH, hQ, hO, B4, trivial⟩ ?_
    clear fr a; intro a fr
    refine fx_take (i := 8) (v := .pointer (some ⟨bw, 0, none⟩)) fr rfl (by kernel_rfl) rfl rfl (by first | decide | simp) (fun _ _ _ h => h) (fun _ ⟨hW, hE, hH, hQ, hO, B4, _⟩ => x_nilCheck rfl (fr.ev rfl)) ⟨hW, hE, hH, hQ, hO, B4, trivial⟩ ?_
    clear fr a; intro a fr
    refine fx_take (i := 9) (v := .pointer (some ⟨bw, 3, none⟩)) fr rfl (by kernel_rfl) rfl rfl (by first | decide | simp) (fun _ _ _ h => h) (fun _ ⟨hW, hE, hH, hQ, hO, B4, _⟩ => x_fieldAddr fo82_3 rfl (fr.ev rfl) rfl) ⟨hW, hE, hH, hQ, hO, B4, trivial⟩ ?_
    clear fr a; intro a fr
    refine fx_take (i := 10) (v := .int .u32 m.line) fr rfl (by kernel_rfl) rfl rfl (by first | decide | simp) (fun _ _ _ h => h) (fun _ ⟨hW, hE, hH, hQ, hO, B4, _⟩ => x_load1 pl24 rfl (fr.ev rfl) (hW.cell 3 rfl)) ⟨hW, hE, hH, hQ, hO, B4, trivial⟩ ?_
    clear fr a; intro a fr
    refine fx_take (i := 11) (v := .pointer (some ⟨b1, 4, none⟩)) fr rfl (by kernel_rfl) rfl rfl (by first | decide | simp) (fun _ _ _ h => h) (fun _ ⟨hW, hE, hH, hQ, hO, B4, _⟩ => x_fieldAddr fo36_4 rfl (fr.ev rfl) rfl) ⟨hW, hE, hH, hQ, hO, B4, trivial⟩ ?_
    clear fr a; intro a fr
    refine fx_take (i := 12) (v := .agg (bsE.arr m.bs)) fr rfl (by kernel_rfl) rfl rfl (by first | decide | simp) (fun _ _ _ h => h) (fun _ ⟨hW, hE, hH, hQ, hO, B4, _⟩ => x_loadE (E := bsE) ag34 rfl rfl (fr.ev rfl) (B4.part (msg_bs _))) ⟨hW, hE, hH, hQ, hO, B4, trivial⟩ ?_
    clear fr a; intro a fr
    refine fx_one (i := 13) (by kernel_rfl) (fx_op rfl ?_)
    refine fx_call fr rfl rfl (by first | decide | simp) (x_call (vs := [.pointer (some ⟨bi, 0, none⟩), .int .u32 m.line, .agg (bsE.arr m.bs)]) rfl rfl ⟨(fr.ev rfl), (fr.ev rfl), (fr.ev rfl), trivial⟩ Try.func50 nm50 rfl) (hset_c m.line m.bs (by omega) hI) ?_
    clear fr a
    rintro v w12 ⟨rfl, hIn11, hN13⟩ a fr
    replace hW := hW.only hN13 (by first | exact ne_bw_ig | exact ne_ig_bw.symm | (show ¬ bw = ig; omega))
    replace hE := hE.only hN13 (by first | exact ne_be_ig | exact ne_ig_be.symm | (show ¬ be = ig; omega))
    replace hH := hH.only hN13 (by first | exact ne_bh_ig | exact ne_ig_bh.symm | (show ¬ bh = ig; omega))
    replace hQ := hQ.only hN13 (Apart.ne1 ap_Q_ig)
    replace hO := hO.only hN13 (Apart.ne1 ap_A_ig)
    replace B4 := B4.only hN13 (by first | exact ne_b1_ig | exact ne_ig_b1.symm | (show ¬ b1 = ig; omega))
    replace hF := hF.loc hN13 (.inl (.inr (.inr (.inl rfl))))
    replace hI := hIn11
    clear hIn11
    refine wpList_nil ?_
    refine ⟨⟨hW, hE, hH, hQ, hO, B4, trivial⟩, ?_⟩
    refine fx_hdone (by kernel_rfl) ?_
    refine fx_next ?_
    refine wp_region_lit ?_  -- region 3
    refine fx_val (v := .pointer (some ⟨bw, 0, none⟩)) fr rfl rfl (by first | decide | simp) (x_move rfl (fr.ev rfl)) ?_
    clear fr a; intro a fr
    refine fx_val (v := .pointer (some ⟨bw, 0, none⟩)) fr rfl rfl (by first | decide | simp) (x_nilCheck rfl (fr.ev rfl)) ?_
    clear fr a; intro a fr
    refine fx_val (v := .pointer (some ⟨bw, 1, none⟩)) fr rfl rfl (by first | decide | simp) (x_fieldAddr fo82_1 rfl (fr.ev rfl) rfl) ?_
    clear fr a; intro a fr
    refine fx_val (v := .pointer (some ⟨be, 0, none⟩)) fr rfl rfl (by first | decide | simp) (x_load1 pl78 rfl (fr.ev rfl) (hW.cell 1 rfl)) ?_
    clear fr a; intro a fr
    refine fx_val (v := .pointer (some ⟨be, 0, none⟩)) fr rfl rfl (by first | decide | simp) (x_nilCheck rfl (fr.ev rfl)) ?_
    clear fr a; intro a fr
    refine fx_val (v := .pointer (some ⟨be, 0, none⟩)) fr rfl rfl (by first | decide | simp) (x_fieldAddr fo42_0 rfl (fr.ev rfl) rfl) ?_
    clear fr a; intro a fr
    refine fx_store1 sz3 rfl rfl rfl (fr.ev rfl) rfl rfl hE (show 0 < 11 by decide) (cs' := entA ({ d with o := (-1) }) (.slice Q d.q.length qc)) rfl fun w14 hO15 hBq => ?_
    replace hW := hW.only hO15 (by first | exact ne_bw_be | exact ne_be_bw.symm | (show ¬ bw = be; omega))
    replace hH := hH.only hO15 (by first | exact ne_bh_be | exact ne_be_bh.symm | (show ¬ bh = be; omega))
    replace hQ := hQ.only hO15 (Apart.ne1 ap_Q_be)
    replace hO := hO.only hO15 (Apart.ne1 ap_A_be)
    replace B4 := B4.only hO15 (by first | exact ne_b1_be | exact ne_be_b1.symm | (show ¬ b1 = be; omega))
    replace hI := hI.only hO15 (by first | exact ne_bi_be | exact ne_be_bi.symm | (show ¬ bi = be; omega)) (by first | exact ne_ig_be | exact ne_be_ig.symm | (show ¬ ig = be; omega))
    replace hF := hF.loc hO15 (.inl (.inr (.inl rfl)))
    replace hE := hBq
    clear hBq
    refine wpList_nil ?_
    refine fx_next ?_
    refine wp_region_lit ?_  -- region 4
    refine fx_val (v := .pointer (some ⟨bw, 0, none⟩)) fr rfl rfl (by first | decide | simp) (x_move rfl (fr.ev rfl)) ?_
    clear fr a; intro a fr
    refine fx_val (v := .pointer (some ⟨b1, 1, none⟩)) fr rfl rfl (by first | decide | simp) (x_fieldAddr fo36_1 rfl (fr.ev rfl) rfl) ?_
    clear fr a; intro a fr
    refine fx_val (v := .int .i64 m.src) fr rfl rfl (by first | decide | simp) (x_load1 pl3 rfl (fr.ev rfl) (B4.cell 1 rfl)) ?_
    clear fr a; intro a fr
    refine fx_call fr rfl rfl (by first | decide | simp) (x_call (vs := [.pointer (some ⟨bw, 0, none⟩), .int .i64 7, .int .i64 m.src, .bool false]) rfl rfl ⟨(fr.ev rfl), rfl, (fr.ev rfl), rfl, trivial⟩ Try.func53 nm53 rfl) (send_n m.hn hW hH hI hO ne_bw_bh ne_bw_bi ne_bw_ig ap_A_bw ap_A_bh ap_A_bi ap_A_ig (by first | omega | (simp only [List.length_append, List.length_cons, List.length_nil, List.length_map, List.length_take]; omega)) 7 m.src) ?_
    clear fr a
    rintro v w21 ⟨rfl, A16, ac17, hWn18, O19, mv20, hN22⟩ a fr
    have ap_A16_bw : Apart A16 bw := moved_apart mv20 ap_A_bw hW.lt
    have ap_A16_bh : Apart A16 bh := moved_apart mv20 ap_A_bh hH.lt
    have ap2_A16_Q : Apart2 A16 Q := moved_apart2 mv20 ap2_Q_A.symm fun _ hg => hQ.lt hg
    have ap_A16_b1 : Apart A16 b1 := moved_apart mv20 ap_A_b1 B4.lt
    have ap_A16_bi : Apart A16 bi := moved_apart mv20 ap_A_bi hI.lt.1
    have ap_A16_ig : Apart A16 ig := moved_apart mv20 ap_A_ig hI.lt.2
    have ap_A16_be : Apart A16 be := moved_apart mv20 ap_A_be hE.lt
    have gA_A16 := gA_moved hF mv20 gA_A
    replace hH := hH.only hN22 (fun h => h.elim (by first | exact ne_bh_bw | exact ne_bw_bh.symm | (show ¬ bh = bw; omega)) ap_A_bh)
    replace hQ := hQ.only hN22 (fun g hg => (fun h => h.elim ((Apart.ne1 ap_Q_bw) g hg) ((fun g h1 h2 => ap2_Q_A g h1 h2) g hg)))
    replace B4 := B4.only hN22 (fun h => h.elim (by first | exact ne_b1_bw | exact ne_bw_b1.symm | (show ¬ b1 = bw; omega)) ap_A_b1)
    replace hI := hI.only hN22 (fun h => h.elim (by first | exact ne_bi_bw | exact ne_bw_bi.symm | (show ¬ bi = bw; omega)) ap_A_bi) (fun h => h.elim (by first | exact ne_ig_bw | exact ne_bw_ig.symm | (show ¬ ig = bw; omega)) ap_A_ig)
    replace hE := hE.only hN22 (fun h => h.elim (by first | exact ne_be_bw | exact ne_bw_be.symm | (show ¬ be = bw; omega)) ap_A_be)
    replace hF := hF.loc2 hN22 (.inl (.inl rfl)) gA_A
    clear hW hO
    have hW := hWn18
    clear hWn18
    refine wpList_nil ?_
    refine fx_end fr [] [] rfl trivial rfl ?_
    rw [begin_put hk]
    rw [if_pos hc8, leave_eq hc8]
    exact ⟨_, rfl, rfl, A16, ac17, ⟨hW, hE, hH, hI, hQ, O19, ⟨ne_bw_be, ne_bw_bh, ne_bw_bi, ne_bw_ig, ne_be_bh, ne_be_bi, ne_be_ig, ne_bh_bi, ne_bh_ig, ne_bi_ig, ap_Q_bw, ap_Q_be, ap_Q_bh, ap_Q_bi, ap_Q_ig, ap_A16_bw, ap_A16_be, ap_A16_bh, ap_A16_bi, ap_A16_ig, ap2_A16_Q.symm⟩⟩, wmv gA_A16 ap_A16_bw ap_A16_be ap_A16_ig, hF⟩
  · skip
    have hc8 := of_decide_eq_false hc8
    refine wp_skip ?_
    refine fx_next ?_
    refine wp_region_lit ?_  -- region 4
    refine fx_val (v := .pointer (some ⟨bw, 0, none⟩)) fr rfl rfl (by first | decide | simp) (x_move rfl (fr.ev rfl)) ?_
    clear fr a; intro a fr
    refine fx_val (v := .pointer (some ⟨b1, 1, none⟩)) fr rfl rfl (by first | decide | simp) (x_fieldAddr fo36_1 rfl (fr.ev rfl) rfl) ?_
    clear fr a; intro a fr
    refine fx_val (v := .int .i64 m.src) fr rfl rfl (by first | decide | simp) (x_load1 pl3 rfl (fr.ev rfl) (B4.cell 1 rfl)) ?_
    clear fr a; intro a fr
    refine fx_call fr rfl rfl (by first | decide | simp) (x_call (vs := [.pointer (some ⟨bw, 0, none⟩), .int .i64 7, .int .i64 m.src, .bool false]) rfl rfl ⟨(fr.ev rfl), rfl, (fr.ev rfl), rfl, trivial⟩ Try.func53 nm53 rfl) (send_n m.hn hW hH hI hO ne_bw_bh ne_bw_bi ne_bw_ig ap_A_bw ap_A_bh ap_A_bi ap_A_ig (by first | omega | (simp only [List.length_append, List.length_cons, List.length_nil, List.length_map, List.length_take]; omega)) 7 m.src) ?_
    clear fr a
    rintro v w28 ⟨rfl, A23, ac24, hWn25, O26, mv27, hN29⟩ a fr
    have ap_A23_bw : Apart A23 bw := moved_apart mv27 ap_A_bw hW.lt
    have ap_A23_be : Apart A23 be := moved_apart mv27 ap_A_be hE.lt
    have ap_A23_bh : Apart A23 bh := moved_apart mv27 ap_A_bh hH.lt
    have ap_A23_bi : Apart A23 bi := moved_apart mv27 ap_A_bi hI.lt.1
    have ap_A23_ig : Apart A23 ig := moved_apart mv27 ap_A_ig hI.lt.2
    have ap2_A23_Q : Apart2 A23 Q := moved_apart2 mv27 ap2_Q_A.symm fun _ hg => hQ.lt hg
    have ap_A23_b1 : Apart A23 b1 := moved_apart mv27 ap_A_b1 B4.lt
    have gA_A23 := gA_moved hF mv27 gA_A
    replace hE := hE.only hN29 (fun h => h.elim (by first | exact ne_be_bw | exact ne_bw_be.symm | (show ¬ be = bw; omega)) ap_A_be)
    replace hH := hH.only hN29 (fun h => h.elim (by first | exact ne_bh_bw | exact ne_bw_bh.symm | (show ¬ bh = bw; omega)) ap_A_bh)
    replace hI := hI.only hN29 (fun h => h.elim (by first | exact ne_bi_bw | exact ne_bw_bi.symm | (show ¬ bi = bw; omega)) ap_A_bi) (fun h => h.elim (by first | exact ne_ig_bw | exact ne_bw_ig.symm | (show ¬ ig = bw; omega)) ap_A_ig)
    replace hQ := hQ.only hN29 (fun g hg => (fun h => h.elim ((Apart.ne1 ap_Q_bw) g hg) ((fun g h1 h2 => ap2_Q_A g h1 h2) g hg)))
    replace B4 := B4.only hN29 (fun h => h.elim (by first | exact ne_b1_bw | exact ne_bw_b1.symm | (show ¬ b1 = bw; omega)) ap_A_b1)
    replace hF := hF.loc2 hN29 (.inl (.inl rfl)) gA_A
    clear hW hO
    have hW := hWn25
    clear hWn25
    refine wpList_nil ?_
    refine fx_end fr [] [] rfl trivial rfl ?_
    rw [begin_put hk]
    rw [if_neg hc8, leave_ne hc8]
    exact ⟨_, rfl, rfl, A23, ac24, ⟨hW, hE, hH, hI, hQ, O26, ⟨ne_bw_be, ne_bw_bh, ne_bw_bi, ne_bw_ig, ne_be_bh, ne_be_bi, ne_be_ig, ne_bh_bi, ne_bh_ig, ne_bi_ig, ap_Q_bw, ap_Q_be, ap_Q_bh, ap_Q_bi, ap_Q_ig, ap_A23_bw, ap_A23_be, ap_A23_bh, ap_A23_bi, ap_A23_ig, ap2_A23_Q.symm⟩⟩, wmv gA_A23 ap_A23_bw ap_A23_be ap_A23_ig, hF⟩
end Go.Proofs.Ytdiaemlgghfecaa
