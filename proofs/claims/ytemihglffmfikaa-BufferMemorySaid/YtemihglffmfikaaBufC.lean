/-
  The walks of New, at, Len, Head, Push, Pop, Copy, and of the document's has. Printed by gen_c.py.
-/
import Derived.Test.YtemihglffmfikaaBufN
namespace Go.Proofs.Ytemihglffmfikaa
open Go.RowKit

set_option maxRecDepth 100000 in
set_option maxHeartbeats 4000000 in
theorem at_c (k : Nat) {w : World} {b : Nat} {X : BufS} (hB : Blk w b 63 (bufE.arr X)) (h1 : X.first < 4) (hk : k ≤ 4) : Calls Try.prog 26 #[.pointer (some ⟨b, 0, none⟩), .int .i64 ((k : Nat) : Int)] w (Ret fun v w' => v = .pointer (some ⟨b, 0 + ((X.first + k) % 4) * 3, none⟩) ∧ New w w') := by
  have hF := Only.refl (fun _ => False) w
  refine fx_enter Try.func26 rfl (N := (16, [])) (T := [(0, .pointer (some ⟨b, 0, none⟩)), (1, .int .i64 ((k : Nat) : Int))]) rfl (show 2 ≤ 16 by decide) ⟨rfl, rfl, trivial⟩ fun a fr => ?_
  refine wp_seq ?_
  refine wp_region_lit ?_  -- region 0
  refine fx_val (v := .pointer none) fr rfl rfl (by first | decide | simp) (x_assign rfl rfl) ?_
  clear fr a; intro a fr
  refine wpList_nil ?_
  refine fx_next ?_
  refine wp_seq ?_
  refine fx_heldT (n := 11) (k := 11) (fun w => Blk w b 63 (bufE.arr X) ∧ True) (by kernel_rfl) (by kernel_rfl) rfl ?_  -- region 1
  intro w1 hN2
  replace hB := hB.new hN2
  replace hF := hF.trNew hN2
  refine fx_take (i := 0) (v := .pointer (some ⟨b, 0, none⟩)) fr rfl (by kernel_rfl) rfl rfl (by first | decide | simp) (fun _ _ _ h => h) (fun _ ⟨hB, _⟩ => x_move rfl (fr.ev rfl)) ⟨hB, trivial⟩ ?_
  clear fr a; intro a fr
  refine fx_take (i := 1) (v := .pointer (some ⟨b, 0, none⟩)) fr rfl (by kernel_rfl) rfl rfl (by first | decide | simp) (fun _ _ _ h => h) (fun _ ⟨hB, _⟩ => x_move rfl (fr.ev rfl)) ⟨hB, trivial⟩ ?_
  clear fr a; intro a fr
  refine fx_take (i := 2) (v := .pointer (some ⟨b, 0, none⟩)) fr rfl (by kernel_rfl) rfl rfl (by first | decide | simp) (fun _ _ _ h => h) (fun _ ⟨hB, _⟩ => x_nilCheck rfl (fr.ev rfl)) ⟨hB, trivial⟩ ?_
  clear fr a; intro a fr
  refine fx_take (i := 3) (v := .pointer (some ⟨b, 12, none⟩)) fr rfl (by kernel_rfl) rfl rfl (by first | decide | simp) (fun _ _ _ h => h) (fun _ ⟨hB, _⟩ => x_fieldAddr fo63_1 rfl (fr.ev rfl) rfl) ⟨hB, trivial⟩ ?_
  clear fr a; intro a fr
  refine fx_take (i := 4) (v := .int .i64 ((X.first : Nat) : Int)) fr rfl (by kernel_rfl) rfl rfl (by first | decide | simp) (fun _ _ _ h => h) (fun _ ⟨hB, _⟩ => x_load1 pl3 rfl (fr.ev rfl) (hB.cell 12 rfl)) ⟨hB, trivial⟩ ?_
  clear fr a; intro a fr
  refine fx_take (i := 5) (v := .int .i64 ((k : Nat) : Int)) fr rfl (by kernel_rfl) rfl rfl (by first | decide | simp) (fun _ _ _ h => h) (fun _ ⟨hB, _⟩ => x_move rfl (fr.ev rfl)) ⟨hB, trivial⟩ ?_
  clear fr a; intro a fr
  refine fx_take (i := 6) (v := .int .i64 ((X.first + k : Nat) : Int)) fr rfl (by kernel_rfl) rfl rfl (by first | decide | simp) (fun _ _ _ h => h) (fun _ ⟨hB, _⟩ => x_add rfl (fr.ev rfl) (fr.ev rfl) (i64w (r := ((X.first + k : Nat) : Int)) (by omega) (by omega))) ⟨hB, trivial⟩ ?_
  clear fr a; intro a fr
  refine fx_take (i := 7) (v := .int .i64 (((X.first + k) % 4 : Nat) : Int)) fr rfl (by kernel_rfl) rfl rfl (by first | decide | simp) (fun _ _ _ h => h) (fun _ ⟨hB, _⟩ => x_rem rfl (fr.ev rfl) rfl (by decide) (tmod_nat (X.first + k) 4)) ⟨hB, trivial⟩ ?_
  clear fr a; intro a fr
  refine fx_take (i := 8) (v := .pointer (some ⟨b, 0, none⟩)) fr rfl (by kernel_rfl) rfl rfl (by first | decide | simp) (fun _ _ _ h => h) (fun _ ⟨hB, _⟩ => x_nilCheck rfl (fr.ev rfl)) ⟨hB, trivial⟩ ?_
  clear fr a; intro a fr
  refine fx_take (i := 9) (v := .pointer (some ⟨b, 0, none⟩)) fr rfl (by kernel_rfl) rfl rfl (by first | decide | simp) (fun _ _ _ h => h) (fun _ ⟨hB, _⟩ => x_fieldAddr fo63_0 rfl (fr.ev rfl) rfl) ⟨hB, trivial⟩ ?_
  clear fr a; intro a fr
  refine fx_take (i := 10) (v := .pointer (some ⟨b, 0 + ((X.first + k) % 4) * 3, none⟩)) fr rfl (by kernel_rfl) rfl rfl (by first | decide | simp) (fun _ _ _ h => h) (fun _ ⟨hB, _⟩ => x_indexArr Try.underlying61 sz60 rfl (fr.ev rfl) (fr.ev rfl) (by omega) rfl) ⟨hB, trivial⟩ ?_
  clear fr a; intro a fr
  refine fx_hdone (by kernel_rfl) ?_
  refine fx_tail ?_
  refine fx_val (v := .pointer (some ⟨b, 0 + ((X.first + k) % 4) * 3, none⟩)) fr rfl rfl (by first | decide | simp) (x_assign rfl (fr.ev rfl)) ?_
  clear fr a; intro a fr
  refine wpList_nil ?_
  refine fx_next ?_
  refine wp_ret ?_
  refine fx_ret fr [.tmp 4] [.pointer (some ⟨b, 0 + ((X.first + k) % 4) * 3, none⟩)] rfl ⟨rfl, trivial⟩ rfl ?_
  exact ⟨_, rfl, rfl, hF⟩
set_option maxRecDepth 100000 in
set_option maxHeartbeats 4000000 in
theorem new_c (w : World) : Calls Try.prog 9 #[] w (Ret fun v w' => ∃ b, v = .pointer (some ⟨b, 0, none⟩) ∧ BufAt w' b [] ∧ w.heap.size ≤ b ∧ New w w') := by
  have hF := Only.refl (fun _ => False) w
  refine fx_enter Try.func9 rfl (N := (3, [])) (T := []) rfl (show 0 ≤ 3 by decide) trivial fun a fr => ?_
  refine wp_seq ?_
  refine wp_region_lit ?_  -- region 0
  refine fx_val (v := .pointer none) fr rfl rfl (by first | decide | simp) (x_assign rfl rfl) ?_
  clear fr a; intro a fr
  refine wpList_nil ?_
  refine fx_next ?_
  refine wp_seq ?_
  refine wp_region_lit ?_  -- region 1
  refine fx_val (v := .agg (bufE.arr buf0)) fr rfl rfl (by first | decide | simp) (x_build (cells := bufE.arr buf0) rfl (by kernel_rfl)) ?_
  clear fr a; intro a fr
  refine fx_new fr rfl rfl (by first | decide | simp) (x_box (cs := bufE.arr buf0) rfl (fr.ev rfl) rfl) ?_
  clear fr a
  intro b1 w2 hN3 B4 hb5 a fr
  have g_b1 := Nat.le_trans hF.size hb5
  replace hF := hF.trNew hN3
  refine fx_val (v := .pointer (some ⟨b1, 0, none⟩)) fr rfl rfl (by first | decide | simp) (x_assign rfl (fr.ev rfl)) ?_
  clear fr a; intro a fr
  refine wpList_nil ?_
  refine fx_next ?_
  refine wp_ret ?_
  refine fx_ret fr [.tmp 0] [.pointer (some ⟨b1, 0, none⟩)] rfl ⟨rfl, trivial⟩ rfl ?_
  exact ⟨_, rfl, b1, rfl, ⟨_, B4, BufOf.nil⟩, g_b1, hF⟩
set_option maxRecDepth 100000 in
set_option maxHeartbeats 4000000 in
theorem len_nil (w : World) : Calls Try.prog 21 #[.pointer none] w (Ret fun v w' => v = .int .i64 0 ∧ w' = w) := by
  refine fx_enter Try.func21 rfl (N := (9, [])) (T := [(0, .pointer none)]) rfl (show 1 ≤ 9 by decide) ⟨rfl, trivial⟩ fun a fr => ?_
  refine wp_seq ?_
  refine wp_region_lit ?_  -- region 0
  refine fx_val (v := .int .i64 0) fr rfl rfl (by first | decide | simp) (x_assign rfl rfl) ?_
  clear fr a; intro a fr
  refine wpList_nil ?_
  refine fx_next ?_
  refine wp_seq ?_
  refine wp_seq ?_
  refine wp_region_lit ?_  -- region 1
  refine fx_val (v := .pointer none) fr rfl rfl (by first | decide | simp) (x_move rfl (fr.ev rfl)) ?_
  clear fr a; intro a fr
  refine fx_val (v := .bool true) fr rfl rfl (by first | decide | simp) (x_peql Try.underlying25 rfl (fr.ev rfl) rfl rfl) ?_
  clear fr a; intro a fr
  refine wpList_nil ?_
  refine fx_next ?_
  refine fx_cond_t fr rfl ?_
  refine wp_seq ?_
  refine wp_region_lit ?_  -- region 2
  refine fx_val (v := .int .i64 0) fr rfl rfl (by first | decide | simp) (x_assign rfl rfl) ?_
  clear fr a; intro a fr
  refine wpList_nil ?_
  refine fx_next ?_
  refine wp_ret ?_
  refine fx_rt ?_
  refine fx_ret fr [.tmp 2] [.int .i64 0] rfl ⟨rfl, trivial⟩ rfl ?_
  exact ⟨_, rfl, rfl, rfl⟩
set_option maxRecDepth 100000 in
set_option maxHeartbeats 4000000 in
theorem len_x {w : World} {b : Nat} {X : BufS} (hB : Blk w b 63 (bufE.arr X)) : Calls Try.prog 21 #[.pointer (some ⟨b, 0, none⟩)] w (Ret fun v w' => v = .int .i64 ((X.n : Nat) : Int) ∧ w' = w) := by
  refine fx_enter Try.func21 rfl (N := (9, [])) (T := [(0, .pointer (some ⟨b, 0, none⟩))]) rfl (show 1 ≤ 9 by decide) ⟨rfl, trivial⟩ fun a fr => ?_
  refine wp_seq ?_
  refine wp_region_lit ?_  -- region 0
  refine fx_val (v := .int .i64 0) fr rfl rfl (by first | decide | simp) (x_assign rfl rfl) ?_
  clear fr a; intro a fr
  refine wpList_nil ?_
  refine fx_next ?_
  refine wp_seq ?_
  refine wp_seq ?_
  refine wp_region_lit ?_  -- region 1
  refine fx_val (v := .pointer (some ⟨b, 0, none⟩)) fr rfl rfl (by first | decide | simp) (x_move rfl (fr.ev rfl)) ?_
  clear fr a; intro a fr
  refine fx_val (v := .bool false) fr rfl rfl (by first | decide | simp) (x_peql Try.underlying25 rfl (fr.ev rfl) rfl rfl) ?_
  clear fr a; intro a fr
  refine wpList_nil ?_
  refine fx_next ?_
  refine fx_cond_f fr rfl ?_
  refine wp_skip ?_
  refine fx_next ?_
  refine wp_seq ?_
  refine wp_region_lit ?_  -- region 3
  refine fx_val (v := .pointer (some ⟨b, 0, none⟩)) fr rfl rfl (by first | decide | simp) (x_move rfl (fr.ev rfl)) ?_
  clear fr a; intro a fr
  refine fx_val (v := .pointer (some ⟨b, 0, none⟩)) fr rfl rfl (by first | decide | simp) (x_nilCheck rfl (fr.ev rfl)) ?_
  clear fr a; intro a fr
  refine fx_val (v := .pointer (some ⟨b, 13, none⟩)) fr rfl rfl (by first | decide | simp) (x_fieldAddr fo63_2 rfl (fr.ev rfl) rfl) ?_
  clear fr a; intro a fr
  refine fx_val (v := .int .i64 ((X.n : Nat) : Int)) fr rfl rfl (by first | decide | simp) (x_load1 pl3 rfl (fr.ev rfl) (hB.cell 13 rfl)) ?_
  clear fr a; intro a fr
  refine fx_val (v := .int .i64 ((X.n : Nat) : Int)) fr rfl rfl (by first | decide | simp) (x_assign rfl (fr.ev rfl)) ?_
  clear fr a; intro a fr
  refine wpList_nil ?_
  refine fx_next ?_
  refine wp_ret ?_
  refine fx_ret fr [.tmp 2] [.int .i64 ((X.n : Nat) : Int)] rfl ⟨rfl, trivial⟩ rfl ?_
  exact ⟨_, rfl, rfl, rfl⟩
set_option maxRecDepth 100000 in
set_option maxHeartbeats 4000000 in
theorem head_x {w : World} {b : Nat} {X : BufS} (hB : Blk w b 63 (bufE.arr X)) {l : List VSt} (hX : BufOf X l) : Calls Try.prog 20 #[.pointer (some ⟨b, 0, none⟩)] w (Ret fun v w' => v = .tuple #[.agg (stE.arr (hdS l)), .bool (decide (l ≠ []))] ∧ New w w') := by
  have hX1 := hX.first
  have hX2 := hX.n
  have hX3 := hX.most
  have hF := Only.refl (fun _ => False) w
  refine fx_enter Try.func20 rfl (N := (13, [])) (T := [(0, .pointer (some ⟨b, 0, none⟩))]) rfl (show 1 ≤ 13 by decide) ⟨rfl, trivial⟩ fun a fr => ?_
  refine wp_seq ?_
  refine wp_region_lit ?_  -- region 0
  refine fx_new fr rfl rfl (by first | decide | simp) (x_alloc (z := .agg (#[.int .u32 0, .int .i64 0, .int .u32 0])) (cs := stE.arr st0) rfl (by kernel_rfl) rfl) ?_
  clear fr a
  intro b1 w2 hN3 B4 hb5 a fr
  have ne_b_b1 : NE b b1 := NE.mk (Nat.lt_of_lt_of_le hB.lt hb5)
  have g_b1 := Nat.le_trans hF.size hb5
  replace hB := hB.new hN3
  replace hF := hF.trNew hN3
  refine fx_val (v := .bool false) fr rfl rfl (by first | decide | simp) (x_assign rfl rfl) ?_
  clear fr a; intro a fr
  refine wpList_nil ?_
  refine fx_next ?_
  refine wp_seq ?_
  refine wp_seq ?_
  refine wp_region_lit ?_  -- region 1
  refine fx_val (v := .pointer (some ⟨b, 0, none⟩)) fr rfl rfl (by first | decide | simp) (x_move rfl (fr.ev rfl)) ?_
  clear fr a; intro a fr
  refine fx_call fr rfl rfl (by first | decide | simp) (x_call (vs := [.pointer (some ⟨b, 0, none⟩)]) rfl rfl ⟨(fr.ev rfl), trivial⟩ Try.func21 nm21 rfl) (len_x hB) ?_
  clear fr a
  rintro v _ ⟨rfl, rfl⟩ a fr
  refine fx_val (v := .bool (decide (((X.n : Nat) : Int) = 0))) fr rfl rfl (by first | decide | simp) (x_eql rfl (fr.ev rfl) rfl rfl) ?_
  clear fr a; intro a fr
  refine wpList_nil ?_
  refine fx_next ?_
  refine fx_cond fr rfl (fun hc8 => ?_) (fun hc8 => ?_)
  · skip
    have hc8 := of_decide_eq_true hc8
    refine wp_seq ?_
    refine wp_region_lit ?_  -- region 2
    refine fx_val (v := .agg (stE.arr st0)) fr rfl rfl (by first | decide | simp) (x_build (cells := stE.arr st0) rfl (by kernel_rfl)) ?_
    clear fr a; intro a fr
    refine fx_storeS sz24 rfl rfl rfl (fr.ev rfl) (fr.ev rfl) (stE.all _) B4 (stE.size _) (stE.size _) fun w9 hO10 hBq => ?_
    replace hB := hB.only hO10 (by first | exact ne_b_b1 | exact ne_b1_b.symm | (show ¬ b = b1; omega))
    replace hF := hF.loc hO10 (.inr g_b1)
    replace B4 := hBq
    clear hBq
    refine fx_val (v := .bool false) fr rfl rfl (by first | decide | simp) (x_assign rfl rfl) ?_
    clear fr a; intro a fr
    refine wpList_nil ?_
    refine fx_next ?_
    refine wp_ret ?_
    refine fx_rt ?_
    refine fx_ret fr [.cell 2 24, .tmp 3] [.agg (stE.arr st0), .bool false] rfl ⟨⟨_, rfl, loadV_E (E := stE) ag24 rfl (B4.rangeE stE)⟩, rfl, trivial⟩ rfl ?_
    obtain rfl : l = [] := List.length_eq_zero_iff.1 (by omega)
    exact ⟨_, rfl, rfl, hF⟩
  · skip
    have hc8 := of_decide_eq_false hc8
    refine wp_skip ?_
    refine fx_next ?_
    refine wp_seq ?_
    refine wp_region_lit ?_  -- region 3
    refine fx_val (v := .pointer (some ⟨b, 0, none⟩)) fr rfl rfl (by first | decide | simp) (x_move rfl (fr.ev rfl)) ?_
    clear fr a; intro a fr
    refine fx_call fr rfl rfl (by first | decide | simp) (x_call (vs := [.pointer (some ⟨b, 0, none⟩), .int .i64 0]) rfl rfl ⟨(fr.ev rfl), rfl, trivial⟩ Try.func26 nm26 rfl) (at_c 0 hB (by first | omega | (simp only [set_first]; omega)) (by omega)) ?_
    clear fr a
    rintro v w11 ⟨rfl, hN12⟩ a fr
    replace hB := hB.new hN12
    replace B4 := B4.new hN12
    replace hF := hF.trNew hN12
    refine fx_val (v := .pointer (some ⟨b, 0 + ((X.first + 0) % 4) * 3, none⟩)) fr rfl rfl (by first | decide | simp) (x_nilCheck rfl (fr.ev rfl)) ?_
    clear fr a; intro a fr
    refine fx_val (v := .pointer (some ⟨b, 0 + ((X.first + 0) % 4) * 3, none⟩)) fr rfl rfl (by first | decide | simp) (x_fieldAddr fo60_0 rfl (fr.ev rfl) rfl) ?_
    clear fr a; intro a fr
    refine fx_val (v := .agg (stE.arr (X.get ((X.first + 0) % 4)))) fr rfl rfl (by first | decide | simp) (x_loadE (E := stE) ag24 rfl rfl (fr.ev rfl) (hB.part (buf_part (by omega)))) ?_
    clear fr a; intro a fr
    refine fx_storeS sz24 rfl rfl rfl (fr.ev rfl) (fr.ev rfl) (stE.all _) B4 (stE.size _) (stE.size _) fun w13 hO14 hBq => ?_
    replace hB := hB.only hO14 (by first | exact ne_b_b1 | exact ne_b1_b.symm | (show ¬ b = b1; omega))
    replace hF := hF.loc hO14 (.inr g_b1)
    replace B4 := hBq
    clear hBq
    refine fx_val (v := .bool true) fr rfl rfl (by first | decide | simp) (x_assign rfl rfl) ?_
    clear fr a; intro a fr
    refine wpList_nil ?_
    refine fx_next ?_
    refine wp_ret ?_
    refine fx_ret fr [.cell 2 24, .tmp 3] [.agg (stE.arr (X.get ((X.first + 0) % 4))), .bool true] rfl ⟨⟨_, rfl, loadV_E (E := stE) ag24 rfl (B4.rangeE stE)⟩, rfl, trivial⟩ rfl ?_
    rw [← hdS_at (by omega), ← hX.el 0 (by omega), decide_eq_true (show l ≠ [] by rintro rfl; simp at hX2; omega)]
    exact ⟨_, rfl, rfl, hF⟩
set_option maxRecDepth 100000 in
set_option maxHeartbeats 4000000 in
theorem head_nil (w : World) : Calls Try.prog 20 #[.pointer none] w (Ret fun v w' => v = .tuple #[.agg (stE.arr st0), .bool false] ∧ New w w') := by
  have hF := Only.refl (fun _ => False) w
  refine fx_enter Try.func20 rfl (N := (13, [])) (T := [(0, .pointer none)]) rfl (show 1 ≤ 13 by decide) ⟨rfl, trivial⟩ fun a fr => ?_
  refine wp_seq ?_
  refine wp_region_lit ?_  -- region 0
  refine fx_new fr rfl rfl (by first | decide | simp) (x_alloc (z := .agg (#[.int .u32 0, .int .i64 0, .int .u32 0])) (cs := stE.arr st0) rfl (by kernel_rfl) rfl) ?_
  clear fr a
  intro b1 w2 hN3 B4 hb5 a fr
  have g_b1 := Nat.le_trans hF.size hb5
  replace hF := hF.trNew hN3
  refine fx_val (v := .bool false) fr rfl rfl (by first | decide | simp) (x_assign rfl rfl) ?_
  clear fr a; intro a fr
  refine wpList_nil ?_
  refine fx_next ?_
  refine wp_seq ?_
  refine wp_seq ?_
  refine wp_region_lit ?_  -- region 1
  refine fx_val (v := .pointer none) fr rfl rfl (by first | decide | simp) (x_move rfl (fr.ev rfl)) ?_
  clear fr a; intro a fr
  refine fx_call fr rfl rfl (by first | decide | simp) (x_call (vs := [.pointer none]) rfl rfl ⟨(fr.ev rfl), trivial⟩ Try.func21 nm21 rfl) (len_nil _) ?_
  clear fr a
  rintro v _ ⟨rfl, rfl⟩ a fr
  refine fx_val (v := .bool true) fr rfl rfl (by first | decide | simp) (x_eql rfl (fr.ev rfl) rfl rfl) ?_
  clear fr a; intro a fr
  refine wpList_nil ?_
  refine fx_next ?_
  refine fx_cond_t fr rfl ?_
  refine wp_seq ?_
  refine wp_region_lit ?_  -- region 2
  refine fx_val (v := .agg (stE.arr st0)) fr rfl rfl (by first | decide | simp) (x_build (cells := stE.arr st0) rfl (by kernel_rfl)) ?_
  clear fr a; intro a fr
  refine fx_storeS sz24 rfl rfl rfl (fr.ev rfl) (fr.ev rfl) (stE.all _) B4 (stE.size _) (stE.size _) fun w8 hO9 hBq => ?_
  replace hF := hF.loc hO9 (.inr g_b1)
  replace B4 := hBq
  clear hBq
  refine fx_val (v := .bool false) fr rfl rfl (by first | decide | simp) (x_assign rfl rfl) ?_
  clear fr a; intro a fr
  refine wpList_nil ?_
  refine fx_next ?_
  refine wp_ret ?_
  refine fx_rt ?_
  refine fx_ret fr [.cell 2 24, .tmp 3] [.agg (stE.arr st0), .bool false] rfl ⟨⟨_, rfl, loadV_E (E := stE) ag24 rfl (B4.rangeE stE)⟩, rfl, trivial⟩ rfl ?_
  exact ⟨_, rfl, rfl, hF⟩
set_option maxRecDepth 100000 in
set_option maxHeartbeats 4000000 in
theorem pop_x {w : World} {b : Nat} {X : BufS} (hB : Blk w b 63 (bufE.arr X)) {l : List VSt} (hX : BufOf X l) : Calls Try.prog 18 #[.pointer (some ⟨b, 0, none⟩)] w (Ret fun v w' => v = .tuple #[.agg (stE.arr (hdS l)), .bool (decide (l ≠ []))] ∧ BufAt w' b l.tail ∧ Only (fun k => k = b) w w') := by
  have hX1 := hX.first
  have hX2 := hX.n
  have hX3 := hX.most
  have hF := Only.refl (fun k => k = b) w
  refine fx_enter Try.func18 rfl (N := (34, [])) (T := [(0, .pointer (some ⟨b, 0, none⟩))]) rfl (show 1 ≤ 34 by decide) ⟨rfl, trivial⟩ fun a fr => ?_
  refine wp_seq ?_
  refine wp_region_lit ?_  -- region 0
  refine fx_new fr rfl rfl (by first | decide | simp) (x_alloc (z := .agg (#[.int .u32 0, .int .i64 0, .int .u32 0])) (cs := stE.arr st0) rfl (by kernel_rfl) rfl) ?_
  clear fr a
  intro b1 w2 hN3 B4 hb5 a fr
  have ne_b_b1 : NE b b1 := NE.mk (Nat.lt_of_lt_of_le hB.lt hb5)
  have g_b1 := Nat.le_trans hF.size hb5
  replace hB := hB.new hN3
  replace hF := hF.trNew hN3
  refine fx_val (v := .bool false) fr rfl rfl (by first | decide | simp) (x_assign rfl rfl) ?_
  clear fr a; intro a fr
  refine wpList_nil ?_
  refine fx_next ?_
  refine wp_seq ?_
  refine wp_region_lit ?_  -- region 1
  refine fx_val (v := .pointer (some ⟨b, 0, none⟩)) fr rfl rfl (by first | decide | simp) (x_move rfl (fr.ev rfl)) ?_
  clear fr a; intro a fr
  refine fx_call fr rfl rfl (by first | decide | simp) (x_call (vs := [.pointer (some ⟨b, 0, none⟩)]) rfl rfl ⟨(fr.ev rfl), trivial⟩ Try.func20 nm20 rfl) (head_x hB hX) ?_
  clear fr a
  rintro v w6 ⟨rfl, hN7⟩ a fr
  replace hB := hB.new hN7
  replace B4 := B4.new hN7
  replace hF := hF.trNew hN7
  refine fx_val (v := .tuple #[.agg (stE.arr (hdS l)), .bool (decide (l ≠ []))]) fr rfl rfl (by first | decide | simp) (x_move rfl (fr.ev rfl)) ?_
  clear fr a; intro a fr
  refine fx_val (v := .agg (stE.arr (hdS l))) fr rfl rfl (by first | decide | simp) (x_extract rfl (fr.ev rfl) rfl) ?_
  clear fr a; intro a fr
  refine fx_val (v := .bool (decide (l ≠ []))) fr rfl rfl (by first | decide | simp) (x_extract rfl (fr.ev rfl) rfl) ?_
  clear fr a; intro a fr
  refine fx_new fr rfl rfl (by first | decide | simp) (x_alloc (z := .agg (#[.int .u32 0, .int .i64 0, .int .u32 0])) (cs := stE.arr st0) rfl (by kernel_rfl) rfl) ?_
  clear fr a
  intro b8 w9 hN10 B11 hb12 a fr
  have ne_b_b8 : NE b b8 := NE.mk (Nat.lt_of_lt_of_le hB.lt hb12)
  have ne_b1_b8 : NE b1 b8 := NE.mk (Nat.lt_of_lt_of_le B4.lt hb12)
  have g_b8 := Nat.le_trans hF.size hb12
  replace hB := hB.new hN10
  replace B4 := B4.new hN10
  replace hF := hF.trNew hN10
  refine fx_storeS sz24 rfl rfl rfl (fr.ev rfl) (fr.ev rfl) (stE.all _) B11 (stE.size _) (stE.size _) fun w13 hO14 hBq => ?_
  replace hB := hB.only hO14 (by first | exact ne_b_b8 | exact ne_b8_b.symm | (show ¬ b = b8; omega))
  replace B4 := B4.only hO14 (by first | exact ne_b1_b8 | exact ne_b8_b1.symm | (show ¬ b1 = b8; omega))
  replace hF := hF.loc hO14 (.inr g_b8)
  replace B11 := hBq
  clear hBq
  refine fx_val (v := .bool (decide (l ≠ []))) fr rfl rfl (by first | decide | simp) (x_assign rfl (fr.ev rfl)) ?_
  clear fr a; intro a fr
  refine wpList_nil ?_
  refine fx_next ?_
  refine wp_seq ?_
  refine wp_seq ?_
  refine wp_region_lit ?_  -- region 2
  refine fx_val (v := .bool (decide (l ≠ []))) fr rfl rfl (by first | decide | simp) (x_move rfl (fr.ev rfl)) ?_
  clear fr a; intro a fr
  refine wpList_nil ?_
  refine fx_next ?_
  refine fx_cond fr rfl (fun hc15 => ?_) (fun hc15 => ?_)
  · skip
    have hc15 := of_decide_eq_true hc15
    refine wp_seq ?_
    refine wp_region_lit ?_  -- region 3
    refine fx_val (v := .pointer (some ⟨b, 0, none⟩)) fr rfl rfl (by first | decide | simp) (x_move rfl (fr.ev rfl)) ?_
    clear fr a; intro a fr
    refine fx_call fr rfl rfl (by first | decide | simp) (x_call (vs := [.pointer (some ⟨b, 0, none⟩), .int .i64 0]) rfl rfl ⟨(fr.ev rfl), rfl, trivial⟩ Try.func26 nm26 rfl) (at_c 0 hB (by first | omega | (simp only [set_first]; omega)) (by omega)) ?_
    clear fr a
    rintro v w16 ⟨rfl, hN17⟩ a fr
    replace hB := hB.new hN17
    replace B4 := B4.new hN17
    replace B11 := B11.new hN17
    replace hF := hF.trNew hN17
    refine fx_val (v := .agg (wE.arr st0)) fr rfl rfl (by first | decide | simp) (x_build (cells := wE.arr st0) rfl (by kernel_rfl)) ?_
    clear fr a; intro a fr
    refine fx_val (v := .pointer (some ⟨b, 0 + ((X.first + 0) % 4) * 3, none⟩)) fr rfl rfl (by first | decide | simp) (x_nilCheck rfl (fr.ev rfl)) ?_
    clear fr a; intro a fr
    refine fx_storeAt (cs' := bufE.arr (X.set ((X.first + 0) % 4) st0)) sz60 rfl rfl rfl (fr.ev rfl) (fr.ev rfl) (wE.all st0) hB rfl (by show _ ≤ 14; omega) (buf_put (by omega)) fun w18 hO19 hBq => ?_
    replace B4 := B4.only hO19 (by first | exact ne_b1_b | exact ne_b_b1.symm | (show ¬ b1 = b; omega))
    replace B11 := B11.only hO19 (by first | exact ne_b8_b | exact ne_b_b8.symm | (show ¬ b8 = b; omega))
    replace hF := hF.loc hO19 (.inl rfl)
    replace hB := hBq
    clear hBq
    refine wpList_nil ?_
    refine fx_next ?_
    refine wp_seq ?_
    refine wp_region_lit ?_  -- region 4
    refine fx_val (v := .pointer (some ⟨b, 0, none⟩)) fr rfl rfl (by first | decide | simp) (x_move rfl (fr.ev rfl)) ?_
    clear fr a; intro a fr
    refine fx_val (v := .pointer (some ⟨b, 0, none⟩)) fr rfl rfl (by first | decide | simp) (x_move rfl (fr.ev rfl)) ?_
    clear fr a; intro a fr
    refine fx_val (v := .pointer (some ⟨b, 0, none⟩)) fr rfl rfl (by first | decide | simp) (x_nilCheck rfl (fr.ev rfl)) ?_
    clear fr a; intro a fr
    refine fx_val (v := .pointer (some ⟨b, 12, none⟩)) fr rfl rfl (by first | decide | simp) (x_fieldAddr fo63_1 rfl (fr.ev rfl) rfl) ?_
    clear fr a; intro a fr
    refine fx_val (v := .int .i64 (((X.set ((X.first + 0) % 4) st0).first : Nat) : Int)) fr rfl rfl (by first | decide | simp) (x_load1 pl3 rfl (fr.ev rfl) (hB.cell 12 rfl)) ?_
    clear fr a; intro a fr
    refine fx_val (v := .int .i64 ((((X.set ((X.first + 0) % 4) st0).first) + 1 : Nat) : Int)) fr rfl rfl (by first | decide | simp) (x_add rfl (fr.ev rfl) rfl (i64w (r := ((((X.set ((X.first + 0) % 4) st0).first) + 1 : Nat) : Int)) (by omega) (by (try simp only [set_n, set_first]); omega))) ?_
    clear fr a; intro a fr
    refine fx_val (v := .int .i64 (((((X.set ((X.first + 0) % 4) st0).first) + 1) % 4 : Nat) : Int)) fr rfl rfl (by first | decide | simp) (x_rem rfl (fr.ev rfl) rfl (by decide) (tmod_nat (((X.set ((X.first + 0) % 4) st0).first) + 1) 4)) ?_
    clear fr a; intro a fr
    refine fx_val (v := .pointer (some ⟨b, 0, none⟩)) fr rfl rfl (by first | decide | simp) (x_nilCheck rfl (fr.ev rfl)) ?_
    clear fr a; intro a fr
    refine fx_val (v := .pointer (some ⟨b, 12, none⟩)) fr rfl rfl (by first | decide | simp) (x_fieldAddr fo63_1 rfl (fr.ev rfl) rfl) ?_
    clear fr a; intro a fr
    refine fx_store1 sz3 rfl rfl rfl (fr.ev rfl) (fr.ev rfl) rfl hB (show 12 < 14 by decide) (cs' := bufE.arr { (X.set ((X.first + 0) % 4) st0) with first := (((X.set ((X.first + 0) % 4) st0).first) + 1) % 4 }) rfl fun w20 hO21 hBq => ?_
    replace B4 := B4.only hO21 (by first | exact ne_b1_b | exact ne_b_b1.symm | (show ¬ b1 = b; omega))
    replace B11 := B11.only hO21 (by first | exact ne_b8_b | exact ne_b_b8.symm | (show ¬ b8 = b; omega))
    replace hF := hF.loc hO21 (.inl rfl)
    replace hB := hBq
    clear hBq
    refine wpList_nil ?_
    refine fx_next ?_
    refine wp_region_lit ?_  -- region 5
    refine fx_val (v := .pointer (some ⟨b, 0, none⟩)) fr rfl rfl (by first | decide | simp) (x_move rfl (fr.ev rfl)) ?_
    clear fr a; intro a fr
    refine fx_val (v := .pointer (some ⟨b, 0, none⟩)) fr rfl rfl (by first | decide | simp) (x_nilCheck rfl (fr.ev rfl)) ?_
    clear fr a; intro a fr
    refine fx_val (v := .pointer (some ⟨b, 13, none⟩)) fr rfl rfl (by first | decide | simp) (x_fieldAddr fo63_2 rfl (fr.ev rfl) rfl) ?_
    clear fr a; intro a fr
    refine fx_val (v := .int .i64 ((({ (X.set ((X.first + 0) % 4) st0) with first := (((X.set ((X.first + 0) % 4) st0).first) + 1) % 4 }).n : Nat) : Int)) fr rfl rfl (by first | decide | simp) (x_load1 pl3 rfl (fr.ev rfl) (hB.cell 13 rfl)) ?_
    clear fr a; intro a fr
    refine fx_val (v := .int .i64 (((({ (X.set ((X.first + 0) % 4) st0) with first := (((X.set ((X.first + 0) % 4) st0).first) + 1) % 4 }).n) - 1 : Nat) : Int)) fr rfl rfl (by first | decide | simp) (x_sub rfl (fr.ev rfl) rfl (i64w (r := (((({ (X.set ((X.first + 0) % 4) st0) with first := (((X.set ((X.first + 0) % 4) st0).first) + 1) % 4 }).n) - 1 : Nat) : Int)) (by have := List.length_pos_iff.2 ‹l ≠ []›; (try simp only [set_n]); omega) (by (try simp only [set_n]); omega))) ?_
    clear fr a; intro a fr
    refine fx_val (v := .pointer (some ⟨b, 0, none⟩)) fr rfl rfl (by first | decide | simp) (x_nilCheck rfl (fr.ev rfl)) ?_
    clear fr a; intro a fr
    refine fx_val (v := .pointer (some ⟨b, 13, none⟩)) fr rfl rfl (by first | decide | simp) (x_fieldAddr fo63_2 rfl (fr.ev rfl) rfl) ?_
    clear fr a; intro a fr
    refine fx_store1 sz3 rfl rfl rfl (fr.ev rfl) (fr.ev rfl) rfl hB (show 13 < 14 by decide) (cs' := bufE.arr { { (X.set ((X.first + 0) % 4) st0) with first := (((X.set ((X.first + 0) % 4) st0).first) + 1) % 4 } with n := (({ (X.set ((X.first + 0) % 4) st0) with first := (((X.set ((X.first + 0) % 4) st0).first) + 1) % 4 }).n) - 1 }) rfl fun w22 hO23 hBq => ?_
    replace B4 := B4.only hO23 (by first | exact ne_b1_b | exact ne_b_b1.symm | (show ¬ b1 = b; omega))
    replace B11 := B11.only hO23 (by first | exact ne_b8_b | exact ne_b_b8.symm | (show ¬ b8 = b; omega))
    replace hF := hF.loc hO23 (.inl rfl)
    replace hB := hBq
    clear hBq
    refine wpList_nil ?_
    refine fx_next ?_
    refine wp_seq ?_
    refine wp_region_lit ?_  -- region 6
    refine fx_val (v := .agg (stE.arr (hdS l))) fr rfl rfl (by first | decide | simp) (x_loadE (E := stE) ag24 rfl rfl (fr.ev rfl) (B11.rangeE (P := Try.prog) stE)) ?_
    clear fr a; intro a fr
    refine fx_val (v := .bool (decide (l ≠ []))) fr rfl rfl (by first | decide | simp) (x_move rfl (fr.ev rfl)) ?_
    clear fr a; intro a fr
    refine fx_storeS sz24 rfl rfl rfl (fr.ev rfl) (fr.ev rfl) (stE.all _) B4 (stE.size _) (stE.size _) fun w24 hO25 hBq => ?_
    replace B11 := B11.only hO25 (by first | exact ne_b8_b1 | exact ne_b1_b8.symm | (show ¬ b8 = b1; omega))
    replace hB := hB.only hO25 (by first | exact ne_b_b1 | exact ne_b1_b.symm | (show ¬ b = b1; omega))
    replace hF := hF.loc hO25 (.inr g_b1)
    replace B4 := hBq
    clear hBq
    refine fx_val (v := .bool (decide (l ≠ []))) fr rfl rfl (by first | decide | simp) (x_assign rfl (fr.ev rfl)) ?_
    clear fr a; intro a fr
    refine wpList_nil ?_
    refine fx_next ?_
    refine wp_ret ?_
    refine fx_ret fr [.cell 2 24, .tmp 3] [.agg (stE.arr (hdS l)), .bool (decide (l ≠ []))] rfl ⟨⟨_, rfl, loadV_E (E := stE) ag24 rfl (B4.rangeE stE)⟩, rfl, trivial⟩ rfl ?_
    rw [decide_eq_true hc15]
    exact ⟨_, rfl, rfl, ⟨_, hB, by simpa only [set_first, set_n] using hX.pop (List.length_pos_iff.2 hc15)⟩, hF⟩
  · skip
    have hc15 := of_decide_eq_false hc15
    refine wp_skip ?_
    refine fx_next ?_
    refine wp_seq ?_
    refine wp_region_lit ?_  -- region 6
    refine fx_val (v := .agg (stE.arr (hdS l))) fr rfl rfl (by first | decide | simp) (x_loadE (E := stE) ag24 rfl rfl (fr.ev rfl) (B11.rangeE (P := Try.prog) stE)) ?_
    clear fr a; intro a fr
    refine fx_val (v := .bool (decide (l ≠ []))) fr rfl rfl (by first | decide | simp) (x_move rfl (fr.ev rfl)) ?_
    clear fr a; intro a fr
    refine fx_storeS sz24 rfl rfl rfl (fr.ev rfl) (fr.ev rfl) (stE.all _) B4 (stE.size _) (stE.size _) fun w26 hO27 hBq => ?_
    replace hB := hB.only hO27 (by first | exact ne_b_b1 | exact ne_b1_b.symm | (show ¬ b = b1; omega))
    replace B11 := B11.only hO27 (by first | exact ne_b8_b1 | exact ne_b1_b8.symm | (show ¬ b8 = b1; omega))
    replace hF := hF.loc hO27 (.inr g_b1)
    replace B4 := hBq
    clear hBq
    refine fx_val (v := .bool (decide (l ≠ []))) fr rfl rfl (by first | decide | simp) (x_assign rfl (fr.ev rfl)) ?_
    clear fr a; intro a fr
    refine wpList_nil ?_
    refine fx_next ?_
    refine wp_ret ?_
    refine fx_ret fr [.cell 2 24, .tmp 3] [.agg (stE.arr (hdS l)), .bool (decide (l ≠ []))] rfl ⟨⟨_, rfl, loadV_E (E := stE) ag24 rfl (B4.rangeE stE)⟩, rfl, trivial⟩ rfl ?_
    obtain rfl : l = [] := Classical.byContradiction hc15
    exact ⟨_, rfl, rfl, ⟨_, hB, hX⟩, hF⟩
set_option maxRecDepth 100000 in
set_option maxHeartbeats 4000000 in
theorem pop_nil (w : World) : Calls Try.prog 18 #[.pointer none] w (Ret fun v w' => v = .tuple #[.agg (stE.arr st0), .bool false] ∧ New w w') := by
  have hF := Only.refl (fun _ => False) w
  refine fx_enter Try.func18 rfl (N := (34, [])) (T := [(0, .pointer none)]) rfl (show 1 ≤ 34 by decide) ⟨rfl, trivial⟩ fun a fr => ?_
  refine wp_seq ?_
  refine wp_region_lit ?_  -- region 0
  refine fx_new fr rfl rfl (by first | decide | simp) (x_alloc (z := .agg (#[.int .u32 0, .int .i64 0, .int .u32 0])) (cs := stE.arr st0) rfl (by kernel_rfl) rfl) ?_
  clear fr a
  intro b1 w2 hN3 B4 hb5 a fr
  have g_b1 := Nat.le_trans hF.size hb5
  replace hF := hF.trNew hN3
  refine fx_val (v := .bool false) fr rfl rfl (by first | decide | simp) (x_assign rfl rfl) ?_
  clear fr a; intro a fr
  refine wpList_nil ?_
  refine fx_next ?_
  refine wp_seq ?_
  refine wp_region_lit ?_  -- region 1
  refine fx_val (v := .pointer none) fr rfl rfl (by first | decide | simp) (x_move rfl (fr.ev rfl)) ?_
  clear fr a; intro a fr
  refine fx_call fr rfl rfl (by first | decide | simp) (x_call (vs := [.pointer none]) rfl rfl ⟨(fr.ev rfl), trivial⟩ Try.func20 nm20 rfl) (head_nil _) ?_
  clear fr a
  rintro v w6 ⟨rfl, hN7⟩ a fr
  replace B4 := B4.new hN7
  replace hF := hF.trNew hN7
  refine fx_val (v := .tuple #[.agg (stE.arr st0), .bool false]) fr rfl rfl (by first | decide | simp) (x_move rfl (fr.ev rfl)) ?_
  clear fr a; intro a fr
  refine fx_val (v := .agg (stE.arr st0)) fr rfl rfl (by first | decide | simp) (x_extract rfl (fr.ev rfl) rfl) ?_
  clear fr a; intro a fr
  refine fx_val (v := .bool false) fr rfl rfl (by first | decide | simp) (x_extract rfl (fr.ev rfl) rfl) ?_
  clear fr a; intro a fr
  refine fx_new fr rfl rfl (by first | decide | simp) (x_alloc (z := .agg (#[.int .u32 0, .int .i64 0, .int .u32 0])) (cs := stE.arr st0) rfl (by kernel_rfl) rfl) ?_
  clear fr a
  intro b8 w9 hN10 B11 hb12 a fr
  have ne_b1_b8 : NE b1 b8 := NE.mk (Nat.lt_of_lt_of_le B4.lt hb12)
  have g_b8 := Nat.le_trans hF.size hb12
  replace B4 := B4.new hN10
  replace hF := hF.trNew hN10
  refine fx_storeS sz24 rfl rfl rfl (fr.ev rfl) (fr.ev rfl) (stE.all _) B11 (stE.size _) (stE.size _) fun w13 hO14 hBq => ?_
  replace B4 := B4.only hO14 (by first | exact ne_b1_b8 | exact ne_b8_b1.symm | (show ¬ b1 = b8; omega))
  replace hF := hF.loc hO14 (.inr g_b8)
  replace B11 := hBq
  clear hBq
  refine fx_val (v := .bool false) fr rfl rfl (by first | decide | simp) (x_assign rfl (fr.ev rfl)) ?_
  clear fr a; intro a fr
  refine wpList_nil ?_
  refine fx_next ?_
  refine wp_seq ?_
  refine wp_seq ?_
  refine wp_region_lit ?_  -- region 2
  refine fx_val (v := .bool false) fr rfl rfl (by first | decide | simp) (x_move rfl (fr.ev rfl)) ?_
  clear fr a; intro a fr
  refine wpList_nil ?_
  refine fx_next ?_
  refine fx_cond_f fr rfl ?_
  refine wp_skip ?_
  refine fx_next ?_
  refine wp_seq ?_
  refine wp_region_lit ?_  -- region 6
  refine fx_val (v := .agg (stE.arr st0)) fr rfl rfl (by first | decide | simp) (x_loadE (E := stE) ag24 rfl rfl (fr.ev rfl) (B11.rangeE (P := Try.prog) stE)) ?_
  clear fr a; intro a fr
  refine fx_val (v := .bool false) fr rfl rfl (by first | decide | simp) (x_move rfl (fr.ev rfl)) ?_
  clear fr a; intro a fr
  refine fx_storeS sz24 rfl rfl rfl (fr.ev rfl) (fr.ev rfl) (stE.all _) B4 (stE.size _) (stE.size _) fun w15 hO16 hBq => ?_
  replace B11 := B11.only hO16 (by first | exact ne_b8_b1 | exact ne_b1_b8.symm | (show ¬ b8 = b1; omega))
  replace hF := hF.loc hO16 (.inr g_b1)
  replace B4 := hBq
  clear hBq
  refine fx_val (v := .bool false) fr rfl rfl (by first | decide | simp) (x_assign rfl (fr.ev rfl)) ?_
  clear fr a; intro a fr
  refine wpList_nil ?_
  refine fx_next ?_
  refine wp_ret ?_
  refine fx_ret fr [.cell 2 24, .tmp 3] [.agg (stE.arr st0), .bool false] rfl ⟨⟨_, rfl, loadV_E (E := stE) ag24 rfl (B4.rangeE stE)⟩, rfl, trivial⟩ rfl ?_
  exact ⟨_, rfl, rfl, hF⟩
set_option maxRecDepth 100000 in
set_option maxHeartbeats 4000000 in
theorem push_nil (s : St) (w : World) : Calls Try.prog 10 #[.pointer none, .agg (stE.arr s)] w (Ret fun v w' => v = .int .i64 1 ∧ New w w') := by
  have hF := Only.refl (fun _ => False) w
  refine fx_enter Try.func10 rfl (N := (36, [])) (T := [(0, .pointer none), (1, .agg (stE.arr s))]) rfl (show 2 ≤ 36 by decide) ⟨rfl, rfl, trivial⟩ fun a fr => ?_
  refine wp_seq ?_
  refine wp_region_lit ?_  -- region 0
  refine fx_new fr rfl rfl (by first | decide | simp) (x_box (cs := stE.arr s) rfl (fr.ev rfl) rfl) ?_
  clear fr a
  intro b1 w2 hN3 B4 hb5 a fr
  have g_b1 := Nat.le_trans hF.size hb5
  replace hF := hF.trNew hN3
  refine fx_val (v := .int .i64 0) fr rfl rfl (by first | decide | simp) (x_assign rfl rfl) ?_
  clear fr a; intro a fr
  refine wpList_nil ?_
  refine fx_next ?_
  refine wp_seq ?_
  refine wp_seq ?_
  refine wp_region_lit ?_  -- region 1
  refine fx_val (v := .pointer none) fr rfl rfl (by first | decide | simp) (x_move rfl (fr.ev rfl)) ?_
  clear fr a; intro a fr
  refine fx_val (v := .bool true) fr rfl rfl (by first | decide | simp) (x_peql Try.underlying25 rfl (fr.ev rfl) rfl rfl) ?_
  clear fr a; intro a fr
  refine wpList_nil ?_
  refine fx_next ?_
  refine fx_cond_t fr rfl ?_
  refine wp_seq ?_
  refine wp_region_lit ?_  -- region 2
  refine fx_val (v := .int .i64 1) fr rfl rfl (by first | decide | simp) (x_assign rfl rfl) ?_
  clear fr a; intro a fr
  refine wpList_nil ?_
  refine fx_next ?_
  refine wp_ret ?_
  refine fx_rt ?_
  refine fx_ret fr [.tmp 4] [.int .i64 1] rfl ⟨rfl, trivial⟩ rfl ?_
  exact ⟨_, rfl, rfl, hF⟩
set_option maxRecDepth 100000 in
set_option maxHeartbeats 4000000 in
theorem push_x (s : St) {w : World} {b : Nat} {X : BufS} (hB : Blk w b 63 (bufE.arr X)) {l : List VSt} (hX : BufOf X l) : Calls Try.prog 10 #[.pointer (some ⟨b, 0, none⟩), .agg (stE.arr s)] w (Ret fun v w' => v = .int .i64 (pushE l s) ∧ BufAt w' b (pushL l s) ∧ Only (fun k => k = b) w w') := by
  have hX1 := hX.first
  have hX2 := hX.n
  have hX3 := hX.most
  have hF := Only.refl (fun k => k = b) w
  refine fx_enter Try.func10 rfl (N := (36, [])) (T := [(0, .pointer (some ⟨b, 0, none⟩)), (1, .agg (stE.arr s))]) rfl (show 2 ≤ 36 by decide) ⟨rfl, rfl, trivial⟩ fun a fr => ?_
  refine wp_seq ?_
  refine wp_region_lit ?_  -- region 0
  refine fx_new fr rfl rfl (by first | decide | simp) (x_box (cs := stE.arr s) rfl (fr.ev rfl) rfl) ?_
  clear fr a
  intro b1 w2 hN3 B4 hb5 a fr
  have ne_b_b1 : NE b b1 := NE.mk (Nat.lt_of_lt_of_le hB.lt hb5)
  have g_b1 := Nat.le_trans hF.size hb5
  replace hB := hB.new hN3
  replace hF := hF.trNew hN3
  refine fx_val (v := .int .i64 0) fr rfl rfl (by first | decide | simp) (x_assign rfl rfl) ?_
  clear fr a; intro a fr
  refine wpList_nil ?_
  refine fx_next ?_
  refine wp_seq ?_
  refine wp_seq ?_
  refine wp_region_lit ?_  -- region 1
  refine fx_val (v := .pointer (some ⟨b, 0, none⟩)) fr rfl rfl (by first | decide | simp) (x_move rfl (fr.ev rfl)) ?_
  clear fr a; intro a fr
  refine fx_val (v := .bool false) fr rfl rfl (by first | decide | simp) (x_peql Try.underlying25 rfl (fr.ev rfl) rfl rfl) ?_
  clear fr a; intro a fr
  refine wpList_nil ?_
  refine fx_next ?_
  refine fx_cond_f fr rfl ?_
  refine wp_skip ?_
  refine fx_next ?_
  refine wp_seq ?_
  refine wp_region_lit ?_  -- region 3
  refine fx_val (v := .agg (stE.arr s)) fr rfl rfl (by first | decide | simp) (x_loadE (E := stE) ag24 rfl rfl (fr.ev rfl) (B4.rangeE (P := Try.prog) stE)) ?_
  clear fr a; intro a fr
  refine fx_val (v := .agg (wE.arr s)) fr rfl rfl (by first | decide | simp) (x_build (cells := wE.arr s) rfl (by simp only [List.map_toArray, List.map_cons, List.map_nil, show a.eval (.tmp 9) = .agg (stE.arr s) from fr.ev rfl]; kernel_rfl)) ?_
  clear fr a; intro a fr
  refine fx_new fr rfl rfl (by first | decide | simp) (x_alloc (z := .agg (#[.int .u32 0, .int .i64 0, .int .u32 0])) (cs := wE.arr st0) rfl (by kernel_rfl) rfl) ?_
  clear fr a
  intro b6 w7 hN8 B9 hb10 a fr
  have ne_b_b6 : NE b b6 := NE.mk (Nat.lt_of_lt_of_le hB.lt hb10)
  have ne_b1_b6 : NE b1 b6 := NE.mk (Nat.lt_of_lt_of_le B4.lt hb10)
  have g_b6 := Nat.le_trans hF.size hb10
  replace hB := hB.new hN8
  replace B4 := B4.new hN8
  replace hF := hF.trNew hN8
  refine fx_storeS sz60 rfl rfl rfl (fr.ev rfl) (fr.ev rfl) (wE.all _) B9 (wE.size _) (wE.size _) fun w11 hO12 hBq => ?_
  replace hB := hB.only hO12 (by first | exact ne_b_b6 | exact ne_b6_b.symm | (show ¬ b = b6; omega))
  replace B4 := B4.only hO12 (by first | exact ne_b1_b6 | exact ne_b6_b1.symm | (show ¬ b1 = b6; omega))
  replace hF := hF.loc hO12 (.inr g_b6)
  replace B9 := hBq
  clear hBq
  refine wpList_nil ?_
  refine fx_next ?_
  refine wp_seq ?_
  refine wp_seq ?_
  refine wp_region_lit ?_  -- region 4
  refine fx_val (v := .agg (wE.arr s)) fr rfl rfl (by first | decide | simp) (x_loadE (E := wE) ag60 rfl rfl (fr.ev rfl) (B9.rangeE (P := Try.prog) wE)) ?_
  clear fr a; intro a fr
  refine fx_call fr rfl rfl (by first | decide | simp) (x_call (vs := [.agg (wE.arr s)]) rfl rfl ⟨(fr.ev rfl), trivial⟩ Try.func25 nm25 rfl) (right_c s _) ?_
  clear fr a
  rintro v w13 ⟨rfl, hN14⟩ a fr
  replace hB := hB.new hN14
  replace B4 := B4.new hN14
  replace B9 := B9.new hN14
  replace hF := hF.trNew hN14
  refine fx_val (v := .int .i64 (chkS s)) fr rfl rfl (by first | decide | simp) (x_assign rfl (fr.ev rfl)) ?_
  clear fr a; intro a fr
  refine wpList_nil ?_
  refine fx_next ?_
  refine wp_seq ?_
  refine wp_region_lit ?_  -- region 5
  refine fx_val (v := .int .i64 (chkS s)) fr rfl rfl (by first | decide | simp) (x_move rfl (fr.ev rfl)) ?_
  clear fr a; intro a fr
  refine fx_val (v := .bool (decide (chkS s ≠ 0))) fr rfl rfl (by first | decide | simp) (x_neq rfl (fr.ev rfl) rfl rfl) ?_
  clear fr a; intro a fr
  refine wpList_nil ?_
  refine fx_next ?_
  refine fx_cond fr rfl (fun hc15 => ?_) (fun hc15 => ?_)
  · skip
    have hc15 := of_decide_eq_true hc15
    refine wp_seq ?_
    refine wp_region_lit ?_  -- region 6
    refine fx_val (v := .int .i64 (chkS s)) fr rfl rfl (by first | decide | simp) (x_move rfl (fr.ev rfl)) ?_
    clear fr a; intro a fr
    refine fx_val (v := .int .i64 (chkS s)) fr rfl rfl (by first | decide | simp) (x_assign rfl (fr.ev rfl)) ?_
    clear fr a; intro a fr
    refine wpList_nil ?_
    refine fx_next ?_
    refine wp_ret ?_
    refine fx_rt ?_
    refine fx_ret fr [.tmp 4] [.int .i64 (chkS s)] rfl ⟨rfl, trivial⟩ rfl ?_
    rw [show pushE l s = chkS s by unfold pushE; rw [if_pos hc15], show pushL l s = l by unfold pushL; rw [dif_neg hc15]]
    exact ⟨_, rfl, rfl, ⟨_, hB, hX⟩, hF⟩
  · skip
    have hc15 := of_decide_eq_false hc15
    refine wp_skip ?_
    refine fx_next ?_
    refine wp_seq ?_
    refine wp_seq ?_
    refine wp_region_lit ?_  -- region 7
    refine fx_val (v := .pointer (some ⟨b, 0, none⟩)) fr rfl rfl (by first | decide | simp) (x_move rfl (fr.ev rfl)) ?_
    clear fr a; intro a fr
    refine fx_val (v := .pointer (some ⟨b, 0, none⟩)) fr rfl rfl (by first | decide | simp) (x_nilCheck rfl (fr.ev rfl)) ?_
    clear fr a; intro a fr
    refine fx_val (v := .pointer (some ⟨b, 13, none⟩)) fr rfl rfl (by first | decide | simp) (x_fieldAddr fo63_2 rfl (fr.ev rfl) rfl) ?_
    clear fr a; intro a fr
    refine fx_val (v := .int .i64 ((X.n : Nat) : Int)) fr rfl rfl (by first | decide | simp) (x_load1 pl3 rfl (fr.ev rfl) (hB.cell 13 rfl)) ?_
    clear fr a; intro a fr
    refine fx_val (v := .bool (decide (((X.n : Nat) : Int) = 4))) fr rfl rfl (by first | decide | simp) (x_eql rfl (fr.ev rfl) rfl rfl) ?_
    clear fr a; intro a fr
    refine wpList_nil ?_
    refine fx_next ?_
    refine fx_cond fr rfl (fun hc16 => ?_) (fun hc16 => ?_)
    · skip
      have hc16 := of_decide_eq_true hc16
      refine wp_seq ?_
      refine wp_region_lit ?_  -- region 8
      refine fx_val (v := .int .i64 240) fr rfl rfl (by first | decide | simp) (x_assign rfl rfl) ?_
      clear fr a; intro a fr
      refine wpList_nil ?_
      refine fx_next ?_
      refine wp_ret ?_
      refine fx_rt ?_
      refine fx_ret fr [.tmp 4] [.int .i64 240] rfl ⟨rfl, trivial⟩ rfl ?_
      have h0 := Classical.not_not.1 hc15
      rw [show pushE l s = 240 by unfold pushE; rw [if_neg hc15, if_pos (by omega)], show pushL l s = l by unfold pushL; rw [dif_pos h0, if_pos (by omega)]]
      exact ⟨_, rfl, rfl, ⟨_, hB, hX⟩, hF⟩
    · skip
      have hc16 := of_decide_eq_false hc16
      refine wp_skip ?_
      refine fx_next ?_
      refine wp_seq ?_
      refine fx_heldT (n := 7) (k := 7) (fun w => Blk w b 63 (bufE.arr X) ∧ Blk w b1 24 (stE.arr s) ∧ Blk w b6 60 (wE.arr s) ∧ True) (by kernel_rfl) (by kernel_rfl) rfl ?_  -- region 9
      intro w17 hN18
      replace hB := hB.new hN18
      replace B4 := B4.new hN18
      replace B9 := B9.new hN18
      replace hF := hF.trNew hN18
      refine fx_take (i := 0) (v := .pointer (some ⟨b, 0, none⟩)) fr rfl (by kernel_rfl) rfl rfl (by first | decide | simp) (fun _ _ _ h => h) (fun _ ⟨hB, B4, B9, _⟩ => x_move rfl (fr.ev rfl)) ⟨hB, B4, B9, trivial⟩ ?_
      clear fr a; intro a fr
      refine fx_take (i := 1) (v := .pointer (some ⟨b, 0, none⟩)) fr rfl (by kernel_rfl) rfl rfl (by first | decide | simp) (fun _ _ _ h => h) (fun _ ⟨hB, B4, B9, _⟩ => x_move rfl (fr.ev rfl)) ⟨hB, B4, B9, trivial⟩ ?_
      clear fr a; intro a fr
      refine fx_take (i := 2) (v := .pointer (some ⟨b, 0, none⟩)) fr rfl (by kernel_rfl) rfl rfl (by first | decide | simp) (fun _ _ _ h => h) (fun _ ⟨hB, B4, B9, _⟩ => x_nilCheck rfl (fr.ev rfl)) ⟨hB, B4, B9, trivial⟩ ?_
      clear fr a; intro a fr
      refine fx_take (i := 3) (v := .pointer (some ⟨b, 13, none⟩)) fr rfl (by kernel_rfl) rfl rfl (by first | decide | simp) (fun _ _ _ h => h) (fun _ ⟨hB, B4, B9, _⟩ => x_fieldAddr fo63_2 rfl (fr.ev rfl) rfl) ⟨hB, B4, B9, trivial⟩ ?_
      clear fr a; intro a fr
      refine fx_take (i := 4) (v := .int .i64 ((X.n : Nat) : Int)) fr rfl (by kernel_rfl) rfl rfl (by first | decide | simp) (fun _ _ _ h => h) (fun _ ⟨hB, B4, B9, _⟩ => x_load1 pl3 rfl (fr.ev rfl) (hB.cell 13 rfl)) ⟨hB, B4, B9, trivial⟩ ?_
      clear fr a; intro a fr
      refine fx_take (i := 6) (v := .agg (wE.arr s)) fr rfl (by kernel_rfl) rfl rfl (by first | decide | simp) (fun _ _ _ h => h) (fun _ ⟨hB, B4, B9, _⟩ => x_loadE (E := wE) ag60 rfl rfl (fr.ev rfl) (B9.rangeE (P := Try.prog) wE)) ⟨hB, B4, B9, trivial⟩ ?_
      clear fr a; intro a fr
      refine fx_one (i := 5) (by kernel_rfl) (fx_op rfl ?_)
      refine fx_call fr rfl rfl (by first | decide | simp) (x_call (vs := [.pointer (some ⟨b, 0, none⟩), .int .i64 ((X.n : Nat) : Int)]) rfl rfl ⟨(fr.ev rfl), (fr.ev rfl), trivial⟩ Try.func26 nm26 rfl) (at_c X.n hB (by first | omega | (simp only [set_first]; omega)) (by omega)) ?_
      clear fr a
      rintro v w19 ⟨rfl, hN20⟩ a fr
      replace hB := hB.new hN20
      replace B4 := B4.new hN20
      replace B9 := B9.new hN20
      replace hF := hF.trNew hN20
      refine wpList_nil ?_
      refine ⟨⟨hB, B4, B9, trivial⟩, ?_⟩
      refine fx_hdone (by kernel_rfl) ?_
      refine fx_tail ?_
      refine fx_val (v := .pointer (some ⟨b, 0 + ((X.first + X.n) % 4) * 3, none⟩)) fr rfl rfl (by first | decide | simp) (x_nilCheck rfl (fr.ev rfl)) ?_
      clear fr a; intro a fr
      refine fx_storeAt (cs' := bufE.arr (X.set ((X.first + X.n) % 4) s)) sz60 rfl rfl rfl (fr.ev rfl) (fr.ev rfl) (wE.all s) hB rfl (by show _ ≤ 14; omega) (buf_put (by omega)) fun w21 hO22 hBq => ?_
      replace B4 := B4.only hO22 (by first | exact ne_b1_b | exact ne_b_b1.symm | (show ¬ b1 = b; omega))
      replace B9 := B9.only hO22 (by first | exact ne_b6_b | exact ne_b_b6.symm | (show ¬ b6 = b; omega))
      replace hF := hF.loc hO22 (.inl rfl)
      replace hB := hBq
      clear hBq
      refine wpList_nil ?_
      refine fx_next ?_
      refine wp_seq ?_
      refine wp_region_lit ?_  -- region 10
      refine fx_val (v := .pointer (some ⟨b, 0, none⟩)) fr rfl rfl (by first | decide | simp) (x_move rfl (fr.ev rfl)) ?_
      clear fr a; intro a fr
      refine fx_val (v := .pointer (some ⟨b, 0, none⟩)) fr rfl rfl (by first | decide | simp) (x_nilCheck rfl (fr.ev rfl)) ?_
      clear fr a; intro a fr
      refine fx_val (v := .pointer (some ⟨b, 13, none⟩)) fr rfl rfl (by first | decide | simp) (x_fieldAddr fo63_2 rfl (fr.ev rfl) rfl) ?_
      clear fr a; intro a fr
      refine fx_val (v := .int .i64 (((X.set ((X.first + X.n) % 4) s).n : Nat) : Int)) fr rfl rfl (by first | decide | simp) (x_load1 pl3 rfl (fr.ev rfl) (hB.cell 13 rfl)) ?_
      clear fr a; intro a fr
      refine fx_val (v := .int .i64 ((((X.set ((X.first + X.n) % 4) s).n) + 1 : Nat) : Int)) fr rfl rfl (by first | decide | simp) (x_add rfl (fr.ev rfl) rfl (i64w (r := ((((X.set ((X.first + X.n) % 4) s).n) + 1 : Nat) : Int)) (by omega) (by (try simp only [set_n, set_first]); omega))) ?_
      clear fr a; intro a fr
      refine fx_val (v := .pointer (some ⟨b, 0, none⟩)) fr rfl rfl (by first | decide | simp) (x_nilCheck rfl (fr.ev rfl)) ?_
      clear fr a; intro a fr
      refine fx_val (v := .pointer (some ⟨b, 13, none⟩)) fr rfl rfl (by first | decide | simp) (x_fieldAddr fo63_2 rfl (fr.ev rfl) rfl) ?_
      clear fr a; intro a fr
      refine fx_store1 sz3 rfl rfl rfl (fr.ev rfl) (fr.ev rfl) rfl hB (show 13 < 14 by decide) (cs' := bufE.arr { (X.set ((X.first + X.n) % 4) s) with n := ((X.set ((X.first + X.n) % 4) s).n) + 1 }) rfl fun w23 hO24 hBq => ?_
      replace B4 := B4.only hO24 (by first | exact ne_b1_b | exact ne_b_b1.symm | (show ¬ b1 = b; omega))
      replace B9 := B9.only hO24 (by first | exact ne_b6_b | exact ne_b_b6.symm | (show ¬ b6 = b; omega))
      replace hF := hF.loc hO24 (.inl rfl)
      replace hB := hBq
      clear hBq
      refine wpList_nil ?_
      refine fx_next ?_
      refine wp_seq ?_
      refine wp_region_lit ?_  -- region 11
      refine fx_val (v := .int .i64 0) fr rfl rfl (by first | decide | simp) (x_assign rfl rfl) ?_
      clear fr a; intro a fr
      refine wpList_nil ?_
      refine fx_next ?_
      refine wp_ret ?_
      refine fx_ret fr [.tmp 4] [.int .i64 0] rfl ⟨rfl, trivial⟩ rfl ?_
      have h0 := Classical.not_not.1 hc15
      rw [show pushE l s = 0 by unfold pushE; rw [if_neg hc15, if_neg (by omega)], show pushL l s = l ++ [⟨s, h0⟩] by unfold pushL; rw [dif_pos h0, if_neg (by omega)]]
      exact ⟨_, rfl, rfl, ⟨_, hB, by simpa only [set_first, set_n] using hX.push ⟨s, h0⟩ (by omega)⟩, hF⟩
set_option maxRecDepth 100000 in
set_option maxHeartbeats 4000000 in
theorem copy_nil (w : World) : Calls Try.prog 22 #[.pointer none] w (Ret fun v w' => v = .pointer none ∧ w' = w) := by
  refine fx_enter Try.func22 rfl (N := (9, [])) (T := [(0, .pointer none)]) rfl (show 1 ≤ 9 by decide) ⟨rfl, trivial⟩ fun a fr => ?_
  refine wp_seq ?_
  refine wp_region_lit ?_  -- region 0
  refine fx_val (v := .pointer none) fr rfl rfl (by first | decide | simp) (x_assign rfl rfl) ?_
  clear fr a; intro a fr
  refine wpList_nil ?_
  refine fx_next ?_
  refine wp_seq ?_
  refine wp_seq ?_
  refine wp_region_lit ?_  -- region 1
  refine fx_val (v := .pointer none) fr rfl rfl (by first | decide | simp) (x_move rfl (fr.ev rfl)) ?_
  clear fr a; intro a fr
  refine fx_val (v := .bool true) fr rfl rfl (by first | decide | simp) (x_peql Try.underlying25 rfl (fr.ev rfl) rfl rfl) ?_
  clear fr a; intro a fr
  refine wpList_nil ?_
  refine fx_next ?_
  refine fx_cond_t fr rfl ?_
  refine wp_seq ?_
  refine wp_region_lit ?_  -- region 2
  refine fx_val (v := .pointer none) fr rfl rfl (by first | decide | simp) (x_assign rfl rfl) ?_
  clear fr a; intro a fr
  refine wpList_nil ?_
  refine fx_next ?_
  refine wp_ret ?_
  refine fx_rt ?_
  refine fx_ret fr [.tmp 2] [.pointer none] rfl ⟨rfl, trivial⟩ rfl ?_
  exact ⟨_, rfl, rfl, rfl⟩
set_option maxRecDepth 100000 in
set_option maxHeartbeats 4000000 in
theorem copy_x {w : World} {b : Nat} {X : BufS} (hB : Blk w b 63 (bufE.arr X)) : Calls Try.prog 22 #[.pointer (some ⟨b, 0, none⟩)] w (Ret fun v w' => ∃ b', v = .pointer (some ⟨b', 0, none⟩) ∧ Blk w' b' 63 (bufE.arr X) ∧ w.heap.size ≤ b' ∧ New w w') := by
  have hF := Only.refl (fun _ => False) w
  refine fx_enter Try.func22 rfl (N := (9, [])) (T := [(0, .pointer (some ⟨b, 0, none⟩))]) rfl (show 1 ≤ 9 by decide) ⟨rfl, trivial⟩ fun a fr => ?_
  refine wp_seq ?_
  refine wp_region_lit ?_  -- region 0
  refine fx_val (v := .pointer none) fr rfl rfl (by first | decide | simp) (x_assign rfl rfl) ?_
  clear fr a; intro a fr
  refine wpList_nil ?_
  refine fx_next ?_
  refine wp_seq ?_
  refine wp_seq ?_
  refine wp_region_lit ?_  -- region 1
  refine fx_val (v := .pointer (some ⟨b, 0, none⟩)) fr rfl rfl (by first | decide | simp) (x_move rfl (fr.ev rfl)) ?_
  clear fr a; intro a fr
  refine fx_val (v := .bool false) fr rfl rfl (by first | decide | simp) (x_peql Try.underlying25 rfl (fr.ev rfl) rfl rfl) ?_
  clear fr a; intro a fr
  refine wpList_nil ?_
  refine fx_next ?_
  refine fx_cond_f fr rfl ?_
  refine wp_skip ?_
  refine fx_next ?_
  refine wp_seq ?_
  refine wp_region_lit ?_  -- region 3
  refine fx_val (v := .pointer (some ⟨b, 0, none⟩)) fr rfl rfl (by first | decide | simp) (x_move rfl (fr.ev rfl)) ?_
  clear fr a; intro a fr
  refine fx_val (v := .pointer (some ⟨b, 0, none⟩)) fr rfl rfl (by first | decide | simp) (x_nilCheck rfl (fr.ev rfl)) ?_
  clear fr a; intro a fr
  refine fx_val (v := .agg (bufE.arr X)) fr rfl rfl (by first | decide | simp) (x_loadE (E := bufE) ag63 rfl rfl (fr.ev rfl) (hB.rangeE bufE)) ?_
  clear fr a; intro a fr
  refine fx_new fr rfl rfl (by first | decide | simp) (x_alloc (z := .agg (#[.int .u32 0, .int .i64 0, .int .u32 0, .int .u32 0, .int .i64 0, .int .u32 0, .int .u32 0, .int .i64 0, .int .u32 0, .int .u32 0, .int .i64 0, .int .u32 0, .int .i64 0, .int .i64 0])) (cs := bufE.arr buf0) rfl (by kernel_rfl) rfl) ?_
  clear fr a
  intro b1 w2 hN3 B4 hb5 a fr
  have ne_b_b1 : NE b b1 := NE.mk (Nat.lt_of_lt_of_le hB.lt hb5)
  have g_b1 := Nat.le_trans hF.size hb5
  replace hB := hB.new hN3
  replace hF := hF.trNew hN3
  refine fx_storeS sz63 rfl rfl rfl (fr.ev rfl) (fr.ev rfl) (bufE.all _) B4 (bufE.size _) (bufE.size _) fun w6 hO7 hBq => ?_
  replace hB := hB.only hO7 (by first | exact ne_b_b1 | exact ne_b1_b.symm | (show ¬ b = b1; omega))
  replace hF := hF.loc hO7 (.inr g_b1)
  replace B4 := hBq
  clear hBq
  refine wpList_nil ?_
  refine fx_next ?_
  refine wp_seq ?_
  refine wp_region_lit ?_  -- region 4
  refine fx_val (v := .pointer (some ⟨b1, 0, none⟩)) fr rfl rfl (by first | decide | simp) (x_assign rfl (fr.ev rfl)) ?_
  clear fr a; intro a fr
  refine wpList_nil ?_
  refine fx_next ?_
  refine wp_ret ?_
  refine fx_ret fr [.tmp 2] [.pointer (some ⟨b1, 0, none⟩)] rfl ⟨rfl, trivial⟩ rfl ?_
  exact ⟨_, rfl, b1, rfl, B4, g_b1, hF⟩
theorem len_c {w : World} {b : Nat} {l : List VSt} (H : BufAt w b l) : Calls Try.prog 21 #[.pointer (some ⟨b, 0, none⟩)] w (Ret fun v w' => v = .int .i64 ((l.length : Nat) : Int) ∧ w' = w) := by
  obtain ⟨X, hB, hX⟩ := H
  rw [← hX.n]
  exact len_x hB
theorem head_c {w : World} {b : Nat} {l : List VSt} (H : BufAt w b l) : Calls Try.prog 20 #[.pointer (some ⟨b, 0, none⟩)] w (Ret fun v w' => v = .tuple #[.agg (stE.arr (hdS l)), .bool (decide (l ≠ []))] ∧ New w w') := by
  obtain ⟨X, hB, hX⟩ := H
  exact head_x hB hX
theorem pop_c {w : World} {b : Nat} {l : List VSt} (H : BufAt w b l) : Calls Try.prog 18 #[.pointer (some ⟨b, 0, none⟩)] w (Ret fun v w' => v = .tuple #[.agg (stE.arr (hdS l)), .bool (decide (l ≠ []))] ∧ BufAt w' b l.tail ∧ Only (fun k => k = b) w w') := by
  obtain ⟨X, hB, hX⟩ := H
  exact pop_x hB hX
theorem push_c (s : St) {w : World} {b : Nat} {l : List VSt} (H : BufAt w b l) : Calls Try.prog 10 #[.pointer (some ⟨b, 0, none⟩), .agg (stE.arr s)] w (Ret fun v w' => v = .int .i64 (pushE l s) ∧ BufAt w' b (pushL l s) ∧ Only (fun k => k = b) w w') := by
  obtain ⟨X, hB, hX⟩ := H
  exact push_x s hB hX
theorem copy_c {w : World} {b : Nat} {l : List VSt} (H : BufAt w b l) : Calls Try.prog 22 #[.pointer (some ⟨b, 0, none⟩)] w (Ret fun v w' => ∃ b', v = .pointer (some ⟨b', 0, none⟩) ∧ BufAt w' b' l ∧ w.heap.size ≤ b' ∧ New w w') := by
  obtain ⟨X, hB, hX⟩ := H
  refine (copy_x hB).mono ?_
  rintro e w' ⟨v, rfl, b', rfl, hb, hs, hn⟩
  exact ⟨_, rfl, b', rfl, ⟨X, hb, hX⟩, hs, hn⟩
set_option maxRecDepth 100000 in
set_option maxHeartbeats 4000000 in
theorem has_c (s : St) (at_ : Int) (w : World) (hat : 0 ≤ at_ ∧ at_ < 8589934592) : Calls Try.prog 33 #[.agg (stE.arr s), .int .i64 at_] w (Ret fun v w' => v = .int .i64 (hasB s at_) ∧ New w w') := by
  have hsa := s.ha
  have hF := Only.refl (fun _ => False) w
  refine fx_enter Try.func33 rfl (N := (33, [])) (T := [(0, .agg (stE.arr s)), (1, .int .i64 at_)]) rfl (show 2 ≤ 33 by decide) ⟨rfl, rfl, trivial⟩ fun a fr => ?_
  refine wp_seq ?_
  refine wp_region_lit ?_  -- region 0
  refine fx_new fr rfl rfl (by first | decide | simp) (x_box (cs := stE.arr s) rfl (fr.ev rfl) rfl) ?_
  clear fr a
  intro b1 w2 hN3 B4 hb5 a fr
  have g_b1 := Nat.le_trans hF.size hb5
  replace hF := hF.trNew hN3
  refine fx_val (v := .int .i64 0) fr rfl rfl (by first | decide | simp) (x_assign rfl rfl) ?_
  clear fr a; intro a fr
  refine wpList_nil ?_
  refine fx_next ?_
  refine wp_seq ?_
  refine wp_region_lit ?_  -- region 1
  refine fx_val (v := .int .i64 at_) fr rfl rfl (by first | decide | simp) (x_move rfl (fr.ev rfl)) ?_
  clear fr a; intro a fr
  refine fx_val (v := .pointer (some ⟨b1, 0, none⟩)) fr rfl rfl (by first | decide | simp) (x_fieldAddr fo24_0 rfl (fr.ev rfl) rfl) ?_
  clear fr a; intro a fr
  refine fx_val (v := .int .u32 s.addr) fr rfl rfl (by first | decide | simp) (x_load1 pl22 rfl (fr.ev rfl) (B4.cell 0 rfl)) ?_
  clear fr a; intro a fr
  refine fx_val (v := .int .i64 s.addr) fr rfl rfl (by first | decide | simp) (x_convert Try.underlying22 Try.underlying2 rfl (fr.ev rfl) (i64w (r := s.addr) rfl (by omega))) ?_
  clear fr a; intro a fr
  refine fx_val (v := .int .i64 (at_ - s.addr)) fr rfl rfl (by first | decide | simp) (x_sub rfl (fr.ev rfl) (fr.ev rfl) (i64w (r := at_ - s.addr) (by omega) (by omega))) ?_
  clear fr a; intro a fr
  refine fx_val (v := .int .i64 (at_ - s.addr)) fr rfl rfl (by first | decide | simp) (x_assign rfl (fr.ev rfl)) ?_
  clear fr a; intro a fr
  refine wpList_nil ?_
  refine fx_next ?_
  refine wp_seq ?_
  refine wp_seq ?_
  refine wp_region_lit ?_  -- region 2
  refine fx_val (v := .int .i64 (at_ - s.addr)) fr rfl rfl (by first | decide | simp) (x_move rfl (fr.ev rfl)) ?_
  clear fr a; intro a fr
  refine fx_val (v := .bool (decide (at_ - s.addr < 0))) fr rfl rfl (by first | decide | simp) (x_lss rfl (fr.ev rfl) rfl rfl) ?_
  clear fr a; intro a fr
  refine fx_val (v := .bool (decide (at_ - s.addr < 0))) fr rfl rfl (by first | decide | simp) (x_move rfl (fr.ev rfl)) ?_
  clear fr a; intro a fr
  refine fx_may (g := !(decide (at_ - s.addr < 0))) (v := .int .i64 (at_ - s.addr)) fr rfl rfl rfl (by simp) rfl (by first | decide | simp) (fun hg => x_move rfl (fr.ev rfl)) ?_
  clear fr a; intro a fr
  refine fx_may (g := !(decide (at_ - s.addr < 0))) (v := .pointer (some ⟨b1, 1, none⟩)) fr rfl rfl rfl (by simp) rfl (by first | decide | simp) (fun hg => x_fieldAddr fo24_1 rfl (fr.ev rfl) rfl) ?_
  clear fr a; intro a fr
  refine fx_may (g := !(decide (at_ - s.addr < 0))) (v := .int .i64 s.width) fr rfl rfl rfl (by simp) rfl (by first | decide | simp) (fun hg => x_load1 pl3 rfl ((fr.ev rfl).trans (onlyIf_t hg)) (B4.cell 1 rfl)) ?_
  clear fr a; intro a fr
  refine fx_may (g := !(decide (at_ - s.addr < 0))) (v := .bool (decide (s.width ≤ at_ - s.addr))) fr rfl rfl rfl (by simp) rfl (by first | decide | simp) (fun hg => x_geq rfl ((fr.ev rfl).trans (onlyIf_t hg)) ((fr.ev rfl).trans (onlyIf_t hg)) rfl) ?_
  clear fr a; intro a fr
  refine fx_val (v := .bool ((decide (at_ - s.addr < 0)) || (decide (s.width ≤ at_ - s.addr)))) fr rfl rfl (by first | decide | simp) (x_pick_or rfl (fr.ev rfl) (fun _ => rfl) (fun hb => ((fr.ev rfl)).trans (onlyIf_t (by simp_all))) rfl) ?_
  clear fr a; intro a fr
  refine wpList_nil ?_
  refine fx_next ?_
  refine fx_cond fr rfl (fun hc6 => ?_) (fun hc6 => ?_)
  · skip
    have hc6s := hc6
    try simp at hc6s
    refine wp_seq ?_
    refine wp_region_lit ?_  -- region 3
    refine fx_val (v := .int .i64 (-1)) fr rfl rfl (by first | decide | simp) (x_assign rfl rfl) ?_
    clear fr a; intro a fr
    refine wpList_nil ?_
    refine fx_next ?_
    refine wp_ret ?_
    refine fx_rt ?_
    refine fx_ret fr [.tmp 4] [.int .i64 (-1)] rfl ⟨rfl, trivial⟩ rfl ?_
    exact ⟨_, rfl, congrArg (Value.int .i64) (show (-1 : Int) = hasB s at_ from by unfold hasB; rw [if_pos (by omega)]), hF⟩
  · skip
    have hc6s := hc6
    try simp at hc6s
    refine wp_skip ?_
    refine fx_next ?_
    refine wp_seq ?_
    refine wp_region_lit ?_  -- region 4
    refine fx_val (v := .pointer (some ⟨b1, 2, none⟩)) fr rfl rfl (by first | decide | simp) (x_fieldAddr fo24_2 rfl (fr.ev rfl) rfl) ?_
    clear fr a; intro a fr
    refine fx_val (v := .int .u32 s.value) fr rfl rfl (by first | decide | simp) (x_load1 pl22 rfl (fr.ev rfl) (B4.cell 2 rfl)) ?_
    clear fr a; intro a fr
    refine fx_val (v := .int .u32 s.value) fr rfl rfl (by first | decide | simp) (x_assign rfl (fr.ev rfl)) ?_
    clear fr a; intro a fr
    refine wpList_nil ?_
    refine fx_next ?_
    refine wp_seq ?_
    refine wp_seq ?_
    refine wp_region_lit ?_  -- region 5
    refine fx_val (v := .int .i64 0) fr rfl rfl (by first | decide | simp) (x_assign rfl rfl) ?_
    clear fr a; intro a fr
    refine wpList_nil ?_
    refine fx_next ?_
    refine wp_block ?_
    rw [show s.value = s.value / 256 ^ 0 by simp] at fr
    refine fx_loop (fun nM a wL => ∃ i : Nat, nM = ((at_ - s.addr) - ((i : Nat) : Int)).toNat ∧ Fr (33, []) [(2, .pointer (some ⟨b1, 0, none⟩)), (4, .int .i64 0), (5, .int .i64 (at_ - s.addr)), (6, .int .u32 (s.value / 256 ^ i)), (7, .int .i64 ((i : Nat) : Int))] a ∧ Only (fun _ => False) w wL ∧ Blk wL b1 24 (stE.arr s) ∧ ((i : Nat) : Int) ≤ at_ - s.addr) (n0 := _) ⟨0, rfl, fr.sub ⟨rfl, rfl, rfl, rfl, rfl, trivial⟩, hF, B4, by simp; omega⟩ ?_
    rintro n8 a w7 ⟨i, rfl, fr, hF, B4, hi⟩
    have hp := pow_bd s.hv i
    refine wp_seq ?_
    refine wp_seq ?_
    refine wp_region_lit ?_  -- region 6
    refine fx_val (v := .int .i64 ((i : Nat) : Int)) fr rfl rfl (by first | decide | simp) (x_move rfl (fr.ev rfl)) ?_
    clear fr a; intro a fr
    refine fx_val (v := .int .i64 (at_ - s.addr)) fr rfl rfl (by first | decide | simp) (x_move rfl (fr.ev rfl)) ?_
    clear fr a; intro a fr
    refine fx_val (v := .bool (decide (((i : Nat) : Int) < at_ - s.addr))) fr rfl rfl (by first | decide | simp) (x_lss rfl (fr.ev rfl) (fr.ev rfl) rfl) ?_
    clear fr a; intro a fr
    refine wpList_nil ?_
    refine fx_next ?_
    refine fx_cond fr rfl (fun hc9 => ?_) (fun hc9 => ?_)
    · skip
      have hc9 := of_decide_eq_true hc9
      refine wp_skip ?_
      refine fx_next ?_
      refine wp_seq ?_
      refine wp_block ?_
      refine wp_region_lit ?_  -- region 8
      refine fx_val (v := .int .u32 (s.value / 256 ^ i)) fr rfl rfl (by first | decide | simp) (x_move rfl (fr.ev rfl)) ?_
      clear fr a; intro a fr
      refine fx_val (v := .int .u32 ((s.value / 256 ^ i) / 256)) fr rfl rfl (by first | decide | simp) (x_quo rfl (fr.ev rfl) rfl (by decide) (u32q (by omega) (by decide))) ?_
      clear fr a; intro a fr
      refine fx_val (v := .int .u32 ((s.value / 256 ^ i) / 256)) fr rfl rfl (by first | decide | simp) (x_assign rfl (fr.ev rfl)) ?_
      clear fr a; intro a fr
      refine wpList_nil ?_
      refine fx_blk ?_
      refine fx_next ?_
      refine wp_region_lit ?_  -- region 7
      refine fx_val (v := .int .i64 ((i : Nat) : Int)) fr rfl rfl (by first | decide | simp) (x_move rfl (fr.ev rfl)) ?_
      clear fr a; intro a fr
      refine fx_val (v := .int .i64 ((i + 1 : Nat) : Int)) fr rfl rfl (by first | decide | simp) (x_add rfl (fr.ev rfl) rfl (i64w (r := ((i + 1 : Nat) : Int)) (by omega) (by omega))) ?_
      clear fr a; intro a fr
      refine fx_val (v := .int .i64 ((i + 1 : Nat) : Int)) fr rfl rfl (by first | decide | simp) (x_assign rfl (fr.ev rfl)) ?_
      clear fr a; intro a fr
      refine wpList_nil ?_
      refine fx_next ?_
      rw [pow_div s.hv i] at fr
      exact ⟨_, by omega, (i + 1), rfl, fr.sub ⟨rfl, rfl, rfl, rfl, rfl, trivial⟩, hF, B4, by omega⟩
    · skip
      have hc9 := of_decide_eq_false hc9
      refine wp_exit ?_
      refine fx_xt ?_
      refine fx_xt ?_
      refine fx_xx ?_
      refine fx_next ?_
      refine wp_seq ?_
      refine wp_region_lit ?_  -- region 9
      refine fx_val (v := .int .u32 (s.value / 256 ^ i)) fr rfl rfl (by first | decide | simp) (x_move rfl (fr.ev rfl)) ?_
      clear fr a; intro a fr
      refine fx_val (v := .int .u32 ((s.value / 256 ^ i) % 256)) fr rfl rfl (by first | decide | simp) (x_rem rfl (fr.ev rfl) rfl (by omega) (r := (s.value / 256 ^ i) % 256) (by first | exact rem_nn (by omega) | (rw [show 256 = 256 by omega]; exact rem_nn (by omega)))) ?_
      clear fr a; intro a fr
      refine fx_val (v := .int .i64 ((s.value / 256 ^ i) % 256)) fr rfl rfl (by first | decide | simp) (x_convert Try.underlying22 Try.underlying3 rfl (fr.ev rfl) (i64w (r := (s.value / 256 ^ i) % 256) rfl (by omega))) ?_
      clear fr a; intro a fr
      refine fx_val (v := .int .i64 ((s.value / 256 ^ i) % 256)) fr rfl rfl (by first | decide | simp) (x_assign rfl (fr.ev rfl)) ?_
      clear fr a; intro a fr
      refine wpList_nil ?_
      refine fx_next ?_
      refine wp_ret ?_
      refine fx_ret fr [.tmp 4] [.int .i64 ((s.value / 256 ^ i) % 256)] rfl ⟨rfl, trivial⟩ rfl ?_
      have e : (at_ - s.addr).toNat = i := by omega
      exact ⟨_, rfl, congrArg (Value.int .i64) (show _ = hasB s at_ from by unfold hasB; rw [if_neg (by omega), e]), hF⟩
end Go.Proofs.Ytemihglffmfikaa
