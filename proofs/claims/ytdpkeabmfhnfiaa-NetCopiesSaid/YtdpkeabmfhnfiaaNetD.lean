/-
  The walks of Deliver, Clone, Ready. Printed by gen_d.py.
-/
import Derived.Test.YtdpkeabmfhnfiaaNetC
namespace Go.Proofs.Ytdpkeabmfhnfiaa
open Go.RowKit

set_option maxRecDepth 100000 in
set_option maxHeartbeats 4000000 in
theorem deliver_c (pick : Int) {w : World} {b : Nat} {A : Option Addr} {cap : Nat} {most : Int} {l : List Msg} (h : NetAt w b A cap most l) (hm : most ≠ 0) (hl : l.length ≤ 100000) : Calls Try.prog 16 #[.pointer (some ⟨b, 0, none⟩), .int .i64 pick] w (Ret fun v w' => v = .tuple #[.agg (msgE.arr (delM pick l)), .bool (decide (l ≠ []))] ∧ NetStep w b A most (delL pick l) w') := by
  obtain ⟨hB, hO, ap_A_b⟩ := h
  have gA_A : ∀ g, inA A g → (g = b ∨ inA A g) ∨ w.heap.size ≤ g := fun g hg => .inl (.inr hg)
  have hF := Only.refl (fun k => k = b ∨ inA A k) w
  refine fx_enter Try.func16 rfl (N := (47, [])) (T := [(0, .pointer (some ⟨b, 0, none⟩)), (1, .int .i64 pick)]) rfl (show 2 ≤ 47 by decide) ⟨rfl, rfl, trivial⟩ fun a fr => ?_
  refine wp_seq ?_
  refine wp_region_lit ?_  -- region 0
  refine fx_new fr rfl rfl (by first | decide | simp) (x_alloc (z := .agg (#[.int .i64 0, .int .i64 0, .int .i64 0, .int .u32 0, .int .u8 0, .int .u8 0, .int .u8 0, .int .u8 0, .int .u8 0, .int .u8 0, .int .u8 0, .int .u8 0, .int .u8 0, .int .u8 0, .int .u8 0, .int .u8 0, .int .u8 0, .int .u8 0, .int .u8 0, .int .u8 0])) (cs := msgE.arr msg0) rfl (by kernel_rfl) rfl) ?_
  clear fr a
  intro b1 w2 hN3 B4 hb5 a fr
  have ne_b_b1 : ¬ b = b1 := Nat.ne_of_lt (Nat.lt_of_lt_of_le hB.lt hb5)
  have ap_A_b1 : Apart A b1 := hO.apart hb5
  have g_b1 := Nat.le_trans hF.size hb5
  replace hB := hB.new hN3
  replace hO := hO.new hN3
  replace hF := hF.trNew hN3
  refine fx_val (v := .bool false) fr rfl rfl (by first | decide | simp) (x_assign rfl rfl) ?_
  clear fr a; intro a fr
  refine wpList_nil ?_
  refine fx_next ?_
  refine wp_seq ?_
  refine wp_region_lit ?_  -- region 1
  refine fx_val (v := .pointer (some ⟨b, 0, none⟩)) fr rfl rfl (by first | decide | simp) (x_move rfl (fr.ev rfl)) ?_
  clear fr a; intro a fr
  refine fx_call fr rfl rfl (by first | decide | simp) (x_call (vs := [.pointer (some ⟨b, 0, none⟩)]) rfl rfl ⟨(fr.ev rfl), trivial⟩ Try.func19 nm19 rfl) (len_c ⟨hB, hO, ap_A_b⟩ hm) ?_
  clear fr a
  rintro v _ ⟨rfl, rfl⟩ a fr
  refine fx_val (v := .int .i64 ((l.length : Nat) : Int)) fr rfl rfl (by first | decide | simp) (x_assign rfl (fr.ev rfl)) ?_
  clear fr a; intro a fr
  refine wpList_nil ?_
  refine fx_next ?_
  refine wp_seq ?_
  refine wp_seq ?_
  refine wp_region_lit ?_  -- region 2
  refine fx_val (v := .int .i64 ((l.length : Nat) : Int)) fr rfl rfl (by first | decide | simp) (x_move rfl (fr.ev rfl)) ?_
  clear fr a; intro a fr
  refine fx_val (v := .bool (decide (((l.length : Nat) : Int) = 0))) fr rfl rfl (by first | decide | simp) (x_eql rfl (fr.ev rfl) rfl rfl) ?_
  clear fr a; intro a fr
  refine wpList_nil ?_
  refine fx_next ?_
  refine fx_cond fr rfl (fun hc8 => ?_) (fun hc8 => ?_)
  · skip
    have hc8 := of_decide_eq_true hc8
    refine wp_seq ?_
    refine wp_region_lit ?_  -- region 3
    refine fx_val (v := .agg (msgE.arr (⟨0, 0, 0, 0, bs0⟩))) fr rfl rfl (by first | decide | simp) (x_build (cells := msgE.arr (⟨0, 0, 0, 0, bs0⟩)) rfl (by kernel_rfl)) ?_
    clear fr a; intro a fr
    refine fx_storeS sz26 rfl rfl rfl (fr.ev rfl) (fr.ev rfl) (msgE.all _) B4 (msgE.size _) (msgE.size _) fun w9 hO10 hBq => ?_
    replace hB := hB.only hO10 (by show ¬ b = b1; omega)
    replace hO := hO.only hO10 (Apart.ne1 ap_A_b1)
    replace hF := hF.loc hO10 (.inr g_b1)
    replace B4 := hBq
    clear hBq
    refine fx_val (v := .bool false) fr rfl rfl (by first | decide | simp) (x_assign rfl rfl) ?_
    clear fr a; intro a fr
    refine wpList_nil ?_
    refine fx_next ?_
    refine wp_ret ?_
    refine fx_rt ?_
    refine fx_ret fr [.cell 4 26, .tmp 5] [.agg (msgE.arr (⟨0, 0, 0, 0, bs0⟩)), .bool false] rfl ⟨⟨_, rfl, loadV_E (E := msgE) ag26 rfl (B4.rangeE msgE)⟩, rfl, trivial⟩ rfl ?_
    obtain rfl : l = [] := List.length_eq_zero_iff.1 (by omega)
    exact ⟨_, rfl, rfl, A, cap, ⟨hB, hO, ap_A_b⟩, hF, fun g hg => .inl hg⟩
  · skip
    have hc8 := of_decide_eq_false hc8
    refine wp_skip ?_
    refine fx_next ?_
    refine wp_seq ?_
    have hb := tmod_bd pick l.length (by omega)
    refine wp_region_lit ?_  -- region 4
    refine fx_val (v := .int .i64 pick) fr rfl rfl (by first | decide | simp) (x_move rfl (fr.ev rfl)) ?_
    clear fr a; intro a fr
    refine fx_val (v := .int .i64 ((l.length : Nat) : Int)) fr rfl rfl (by first | decide | simp) (x_move rfl (fr.ev rfl)) ?_
    clear fr a; intro a fr
    refine fx_val (v := .int .i64 (Int.tmod pick ((l.length : Nat) : Int))) fr rfl rfl (by first | decide | simp) (x_rem rfl (fr.ev rfl) (fr.ev rfl) (by omega) rfl) ?_
    clear fr a; intro a fr
    refine fx_val (v := .int .i64 ((l.length : Nat) : Int)) fr rfl rfl (by first | decide | simp) (x_move rfl (fr.ev rfl)) ?_
    clear fr a; intro a fr
    refine fx_val (v := .int .i64 (Int.tmod pick ((l.length : Nat) : Int) + ((l.length : Nat) : Int))) fr rfl rfl (by first | decide | simp) (x_add rfl (fr.ev rfl) (fr.ev rfl) (i64w (r := Int.tmod pick ((l.length : Nat) : Int) + ((l.length : Nat) : Int)) (by omega) (by omega))) ?_
    clear fr a; intro a fr
    refine fx_val (v := .int .i64 ((l.length : Nat) : Int)) fr rfl rfl (by first | decide | simp) (x_move rfl (fr.ev rfl)) ?_
    clear fr a; intro a fr
    refine fx_val (v := .int .i64 (Int.tmod (Int.tmod pick ((l.length : Nat) : Int) + ((l.length : Nat) : Int)) ((l.length : Nat) : Int))) fr rfl rfl (by first | decide | simp) (x_rem rfl (fr.ev rfl) (fr.ev rfl) (by omega) rfl) ?_
    clear fr a; intro a fr
    refine fx_val (v := .int .i64 (Int.tmod (Int.tmod pick ((l.length : Nat) : Int) + ((l.length : Nat) : Int)) ((l.length : Nat) : Int))) fr rfl rfl (by first | decide | simp) (x_assign rfl (fr.ev rfl)) ?_
    clear fr a; intro a fr
    refine wpList_nil ?_
    refine fx_next ?_
    refine wp_seq ?_
    rw [pickAt_eq pick l.length (by omega)] at fr
    have hp := pickAt_lt pick l.length (by omega)
    refine wp_region_lit ?_  -- region 5
    refine fx_val (v := .pointer (some ⟨b, 0, none⟩)) fr rfl rfl (by first | decide | simp) (x_move rfl (fr.ev rfl)) ?_
    clear fr a; intro a fr
    refine fx_val (v := .pointer (some ⟨b, 0, none⟩)) fr rfl rfl (by first | decide | simp) (x_nilCheck rfl (fr.ev rfl)) ?_
    clear fr a; intro a fr
    refine fx_val (v := .pointer (some ⟨b, 0, none⟩)) fr rfl rfl (by first | decide | simp) (x_fieldAddr fo71_0 rfl (fr.ev rfl) rfl) ?_
    clear fr a; intro a fr
    refine fx_val (v := .slice A l.length cap) fr rfl rfl (by first | decide | simp) (x_load1 pl38 rfl (fr.ev rfl) (hB.cell 0 rfl)) ?_
    clear fr a; intro a fr
    refine fx_val (v := .int .i64 ((pickAt pick l.length : Nat) : Int)) fr rfl rfl (by first | decide | simp) (x_move rfl (fr.ev rfl)) ?_
    clear fr a; intro a fr
    obtain ⟨g11, o12, hA13⟩ := (hO.view).some_ (by omega)
    refine fx_val (v := .pointer (some ⟨g11, o12 + (pickAt pick l.length) * 20, none⟩)) fr rfl rfl (by first | decide | simp) (x_indexV Try.underlying38 sz26 rfl (fr.ev rfl) hA13 (fr.ev rfl) (by omega) rfl) ?_
    clear fr a; intro a fr
    refine fx_val (v := .agg (msgE.arr (l.getD (pickAt pick l.length) msg0))) fr rfl rfl (by first | decide | simp) (x_loadE (E := msgE) ag26 rfl rfl (fr.ev rfl) ((hO.view).elem hA13 (pickAt pick l.length) msg0 (by omega))) ?_
    clear fr a; intro a fr
    refine fx_new fr rfl rfl (by first | decide | simp) (x_alloc (z := .agg (#[.int .i64 0, .int .i64 0, .int .i64 0, .int .u32 0, .int .u8 0, .int .u8 0, .int .u8 0, .int .u8 0, .int .u8 0, .int .u8 0, .int .u8 0, .int .u8 0, .int .u8 0, .int .u8 0, .int .u8 0, .int .u8 0, .int .u8 0, .int .u8 0, .int .u8 0, .int .u8 0])) (cs := msgE.arr msg0) rfl (by kernel_rfl) rfl) ?_
    clear fr a
    intro b14 w15 hN16 B17 hb18 a fr
    have ne_b_b14 : ¬ b = b14 := Nat.ne_of_lt (Nat.lt_of_lt_of_le hB.lt hb18)
    have ap_A_b14 : Apart A b14 := hO.apart hb18
    have ne_b1_b14 : ¬ b1 = b14 := Nat.ne_of_lt (Nat.lt_of_lt_of_le B4.lt hb18)
    have g_b14 := Nat.le_trans hF.size hb18
    replace hB := hB.new hN16
    replace hO := hO.new hN16
    replace B4 := B4.new hN16
    replace hF := hF.trNew hN16
    refine fx_storeS sz26 rfl rfl rfl (fr.ev rfl) (fr.ev rfl) (msgE.all _) B17 (msgE.size _) (msgE.size _) fun w19 hO20 hBq => ?_
    replace hB := hB.only hO20 (by show ¬ b = b14; omega)
    replace hO := hO.only hO20 (Apart.ne1 ap_A_b14)
    replace B4 := B4.only hO20 (by show ¬ b1 = b14; omega)
    replace hF := hF.loc hO20 (.inr g_b14)
    replace B17 := hBq
    clear hBq
    refine wpList_nil ?_
    refine fx_next ?_
    refine wp_seq ?_
    refine fx_heldT (n := 16) (k := 16) (fun w => Blk w b 71 #[.slice A l.length cap, .int .i64 most] ∧ Blk w b1 26 (msgE.arr msg0) ∧ Blk w b14 26 (msgE.arr (l.getD (pickAt pick l.length) msg0)) ∧ True) (by kernel_rfl) (by kernel_rfl) rfl ?_  -- region 6
    intro w21 hN22
    replace hB := hB.new hN22
    replace hO := hO.new hN22
    replace B4 := B4.new hN22
    replace B17 := B17.new hN22
    replace hF := hF.trNew hN22
    refine fx_take (i := 0) (v := .pointer (some ⟨b, 0, none⟩)) fr rfl (by kernel_rfl) rfl rfl (by first | decide | simp) (fun _ _ _ h => h) (fun _ ⟨hB, B4, B17, _⟩ => x_move rfl (fr.ev rfl)) ⟨hB, B4, B17, trivial⟩ ?_
    clear fr a; intro a fr
    refine fx_take (i := 1) (v := .pointer (some ⟨b, 0, none⟩)) fr rfl (by kernel_rfl) rfl rfl (by first | decide | simp) (fun _ _ _ h => h) (fun _ ⟨hB, B4, B17, _⟩ => x_move rfl (fr.ev rfl)) ⟨hB, B4, B17, trivial⟩ ?_
    clear fr a; intro a fr
    refine fx_take (i := 2) (v := .pointer (some ⟨b, 0, none⟩)) fr rfl (by kernel_rfl) rfl rfl (by first | decide | simp) (fun _ _ _ h => h) (fun _ ⟨hB, B4, B17, _⟩ => x_nilCheck rfl (fr.ev rfl)) ⟨hB, B4, B17, trivial⟩ ?_
    clear fr a; intro a fr
    refine fx_take (i := 3) (v := .pointer (some ⟨b, 0, none⟩)) fr rfl (by kernel_rfl) rfl rfl (by first | decide | simp) (fun _ _ _ h => h) (fun _ ⟨hB, B4, B17, _⟩ => x_fieldAddr fo71_0 rfl (fr.ev rfl) rfl) ⟨hB, B4, B17, trivial⟩ ?_
    clear fr a; intro a fr
    refine fx_take (i := 4) (v := .slice A l.length cap) fr rfl (by kernel_rfl) rfl rfl (by first | decide | simp) (fun _ _ _ h => h) (fun _ ⟨hB, B4, B17, _⟩ => x_load1 pl38 rfl (fr.ev rfl) (hB.cell 0 rfl)) ⟨hB, B4, B17, trivial⟩ ?_
    clear fr a; intro a fr
    refine fx_take (i := 5) (v := .int .i64 ((pickAt pick l.length : Nat) : Int)) fr rfl (by kernel_rfl) rfl rfl (by first | decide | simp) (fun _ _ _ h => h) (fun _ ⟨hB, B4, B17, _⟩ => x_move rfl (fr.ev rfl)) ⟨hB, B4, B17, trivial⟩ ?_
    clear fr a; intro a fr
    refine fx_take (i := 6) (v := .int .i64 ((pickAt pick l.length : Nat) : Int)) fr rfl (by kernel_rfl) rfl rfl (by first | decide | simp) (fun _ _ _ h => h) (fun _ ⟨hB, B4, B17, _⟩ => x_move rfl (fr.ev rfl)) ⟨hB, B4, B17, trivial⟩ ?_
    clear fr a; intro a fr
    refine fx_take (i := 7) (v := .slice A (pickAt pick l.length) (pickAt pick l.length)) fr rfl (by kernel_rfl) rfl rfl (by first | decide | simp) (fun _ _ _ h => h) (fun _ ⟨hB, B4, B17, _⟩ => x_slice_pre Try.underlying38 sz26 rfl (fr.ev rfl) (fr.ev rfl) (fr.ev rfl) (by have := (hO.view).len; omega)) ⟨hB, B4, B17, trivial⟩ ?_
    clear fr a; intro a fr
    refine fx_take (i := 8) (v := .pointer (some ⟨b, 0, none⟩)) fr rfl (by kernel_rfl) rfl rfl (by first | decide | simp) (fun _ _ _ h => h) (fun _ ⟨hB, B4, B17, _⟩ => x_move rfl (fr.ev rfl)) ⟨hB, B4, B17, trivial⟩ ?_
    clear fr a; intro a fr
    refine fx_take (i := 9) (v := .pointer (some ⟨b, 0, none⟩)) fr rfl (by kernel_rfl) rfl rfl (by first | decide | simp) (fun _ _ _ h => h) (fun _ ⟨hB, B4, B17, _⟩ => x_nilCheck rfl (fr.ev rfl)) ⟨hB, B4, B17, trivial⟩ ?_
    clear fr a; intro a fr
    refine fx_take (i := 10) (v := .pointer (some ⟨b, 0, none⟩)) fr rfl (by kernel_rfl) rfl rfl (by first | decide | simp) (fun _ _ _ h => h) (fun _ ⟨hB, B4, B17, _⟩ => x_fieldAddr fo71_0 rfl (fr.ev rfl) rfl) ⟨hB, B4, B17, trivial⟩ ?_
    clear fr a; intro a fr
    refine fx_take (i := 11) (v := .slice A l.length cap) fr rfl (by kernel_rfl) rfl rfl (by first | decide | simp) (fun _ _ _ h => h) (fun _ ⟨hB, B4, B17, _⟩ => x_load1 pl38 rfl (fr.ev rfl) (hB.cell 0 rfl)) ⟨hB, B4, B17, trivial⟩ ?_
    clear fr a; intro a fr
    refine fx_take (i := 12) (v := .int .i64 ((pickAt pick l.length : Nat) : Int)) fr rfl (by kernel_rfl) rfl rfl (by first | decide | simp) (fun _ _ _ h => h) (fun _ ⟨hB, B4, B17, _⟩ => x_move rfl (fr.ev rfl)) ⟨hB, B4, B17, trivial⟩ ?_
    clear fr a; intro a fr
    refine fx_take (i := 13) (v := .int .i64 (((pickAt pick l.length) + 1 : Nat) : Int)) fr rfl (by kernel_rfl) rfl rfl (by first | decide | simp) (fun _ _ _ h => h) (fun _ ⟨hB, B4, B17, _⟩ => x_add rfl (fr.ev rfl) rfl (i64w (r := (((pickAt pick l.length) + 1 : Nat) : Int)) (by omega) (by omega))) ⟨hB, B4, B17, trivial⟩ ?_
    clear fr a; intro a fr
    refine fx_take (i := 14) (v := .slice (cutA A cap ((pickAt pick l.length) + 1) 20) (l.length - ((pickAt pick l.length) + 1)) (cap - ((pickAt pick l.length) + 1))) fr rfl (by kernel_rfl) rfl rfl (by first | decide | simp) (fun _ _ _ h => h) (fun _ ⟨hB, B4, B17, _⟩ => x_slice_from Try.underlying38 sz26 rfl (fr.ev rfl) (fr.ev rfl) (by omega)) ⟨hB, B4, B17, trivial⟩ ?_
    clear fr a; intro a fr
    refine fx_one (i := 15) (by kernel_rfl) (fx_op rfl ?_)
    refine fx_append (E := msgE) (l := l.take (pickAt pick l.length)) (l' := l.drop ((pickAt pick l.length) + 1)) el38 fr rfl rfl (by decide) rfl (fr.ev rfl) (fr.ev rfl) (by first | rfl | (simp; done) | (simp; omega)) (by first | rfl | (simp; done) | (simp; omega)) (hO.take (pickAt pick l.length) (by omega)) ((hO.view).drop ((pickAt pick l.length) + 1) (by omega)) (by first | omega | (simp; omega)) (by unfold maxLen; first | omega | (simp; omega)) ?_
    clear fr a
    intro A23 cap24 w25 O26 hO27 mv28 a fr
    have ap_A23_b : Apart A23 b := moved_apart mv28 ap_A_b hB.lt
    have ap_A23_b1 : Apart A23 b1 := moved_apart mv28 ap_A_b1 B4.lt
    have ap_A23_b14 : Apart A23 b14 := moved_apart mv28 ap_A_b14 B17.lt
    have gA_A23 := gA_moved hF mv28 gA_A
    replace hB := hB.only hO27 ap_A_b
    replace B4 := B4.only hO27 ap_A_b1
    replace B17 := B17.only hO27 ap_A_b14
    replace hF := hF.locA hO27 gA_A
    clear hO
    refine wpList_nil ?_
    refine ⟨⟨hB, B4, B17, trivial⟩, ?_⟩
    refine fx_hdone (by kernel_rfl) ?_
    refine fx_tail ?_
    refine fx_val (v := .pointer (some ⟨b, 0, none⟩)) fr rfl rfl (by first | decide | simp) (x_nilCheck rfl (fr.ev rfl)) ?_
    clear fr a; intro a fr
    refine fx_val (v := .pointer (some ⟨b, 0, none⟩)) fr rfl rfl (by first | decide | simp) (x_fieldAddr fo71_0 rfl (fr.ev rfl) rfl) ?_
    clear fr a; intro a fr
    refine fx_store1 sz38 rfl rfl rfl (fr.ev rfl) (fr.ev rfl) rfl hB (show 0 < 2 by decide) (cs' := #[.slice A23 (((l.take (pickAt pick l.length)) ++ (l.drop ((pickAt pick l.length) + 1))).length) cap24, .int .i64 most]) rfl fun w29 hO30 hBq => ?_
    replace B4 := B4.only hO30 (by show ¬ b1 = b; omega)
    replace B17 := B17.only hO30 (by show ¬ b14 = b; omega)
    replace O26 := O26.only hO30 (Apart.ne1 ap_A23_b)
    replace hF := hF.loc hO30 (.inl (.inl rfl))
    replace hB := hBq
    clear hBq
    refine wpList_nil ?_
    refine fx_next ?_
    refine wp_seq ?_
    refine wp_region_lit ?_  -- region 7
    refine fx_val (v := .agg (msgE.arr (l.getD (pickAt pick l.length) msg0))) fr rfl rfl (by first | decide | simp) (x_loadE (E := msgE) ag26 rfl rfl (fr.ev rfl) (B17.rangeE msgE)) ?_
    clear fr a; intro a fr
    refine fx_storeS sz26 rfl rfl rfl (fr.ev rfl) (fr.ev rfl) (msgE.all _) B4 (msgE.size _) (msgE.size _) fun w31 hO32 hBq => ?_
    replace B17 := B17.only hO32 (by show ¬ b14 = b1; omega)
    replace O26 := O26.only hO32 (Apart.ne1 ap_A23_b1)
    replace hB := hB.only hO32 (by show ¬ b = b1; omega)
    replace hF := hF.loc hO32 (.inr g_b1)
    replace B4 := hBq
    clear hBq
    refine fx_val (v := .bool true) fr rfl rfl (by first | decide | simp) (x_assign rfl rfl) ?_
    clear fr a; intro a fr
    refine wpList_nil ?_
    refine fx_next ?_
    refine wp_ret ?_
    refine fx_ret fr [.cell 4 26, .tmp 5] [.agg (msgE.arr (l.getD (pickAt pick l.length) msg0)), .bool true] rfl ⟨⟨_, rfl, loadV_E (E := msgE) ag26 rfl (B4.rangeE msgE)⟩, rfl, trivial⟩ rfl ?_
    have hne : l ≠ [] := by rintro rfl; simp at hc8
    exact ⟨_, rfl, by rw [show delM pick l = l.getD (pickAt pick l.length) msg0 by simp [delM, hne]]; simp [hne], by rw [show delL pick l = l.take (pickAt pick l.length) ++ l.drop (pickAt pick l.length + 1) by simp [delL, hne]]; exact ⟨A23, cap24, ⟨hB, O26, ap_A23_b⟩, hF, fun g hg => (gA_A23 g hg).imp (fun h => h.elim (fun e => absurd hg (e ▸ ap_A23_b)) id) id⟩⟩
set_option maxRecDepth 100000 in
set_option maxHeartbeats 4000000 in
theorem clone_nil (w : World) : Calls Try.prog 31 #[.slice none 0 0] w (Ret fun v w' => v = .slice none 0 0 ∧ w' = w) := by
  refine fx_enter Try.func31 rfl (N := (8, [])) (T := [(0, .slice none 0 0)]) rfl (show 1 ≤ 8 by decide) ⟨rfl, trivial⟩ fun a fr => ?_
  refine wp_seq ?_
  refine wp_region_lit ?_  -- region 0
  refine fx_val (v := .slice none 0 0) fr rfl rfl (by first | decide | simp) (x_assign rfl rfl) ?_
  clear fr a; intro a fr
  refine wpList_nil ?_
  refine fx_next ?_
  refine wp_seq ?_
  refine wp_seq ?_
  refine wp_region_lit ?_  -- region 1
  refine fx_val (v := .slice none 0 0) fr rfl rfl (by first | decide | simp) (x_move rfl (fr.ev rfl)) ?_
  clear fr a; intro a fr
  refine fx_val (v := .bool true) fr rfl rfl (by first | decide | simp) (x_seql Try.underlying38 rfl (fr.ev rfl) rfl rfl) ?_
  clear fr a; intro a fr
  refine wpList_nil ?_
  refine fx_next ?_
  refine fx_cond_t fr rfl ?_
  refine wp_seq ?_
  refine wp_region_lit ?_  -- region 2
  refine fx_val (v := .slice none 0 0) fr rfl rfl (by first | decide | simp) (x_assign rfl rfl) ?_
  clear fr a; intro a fr
  refine wpList_nil ?_
  refine fx_next ?_
  refine wp_ret ?_
  refine fx_rt ?_
  refine fx_ret fr [.tmp 2] [.slice none 0 0] rfl ⟨rfl, trivial⟩ rfl ?_
  exact ⟨_, rfl, rfl, rfl⟩
set_option maxRecDepth 100000 in
set_option maxHeartbeats 4000000 in
theorem clone_some {w : World} {A : Option Addr} {ad : Addr} {cap : Nat} {l : List Msg} (hV : View msgE w A cap l) (hA : A = some ad) (hl : l.length ≤ 100000) : Calls Try.prog 31 #[.slice A l.length cap] w (Ret fun v w' => ∃ A' cap', v = .slice A' l.length cap' ∧ Own msgE w' A' cap' l ∧ (∀ g, inA A' g → w.heap.size ≤ g) ∧ New w w') := by
  have hF := Only.refl (fun _ => False) w
  refine fx_enter Try.func31 rfl (N := (8, [])) (T := [(0, .slice A l.length cap)]) rfl (show 1 ≤ 8 by decide) ⟨rfl, trivial⟩ fun a fr => ?_
  refine wp_seq ?_
  refine wp_region_lit ?_  -- region 0
  refine fx_val (v := .slice none 0 0) fr rfl rfl (by first | decide | simp) (x_assign rfl rfl) ?_
  clear fr a; intro a fr
  refine wpList_nil ?_
  refine fx_next ?_
  refine wp_seq ?_
  refine wp_seq ?_
  refine wp_region_lit ?_  -- region 1
  refine fx_val (v := .slice A l.length cap) fr rfl rfl (by first | decide | simp) (x_move rfl (fr.ev rfl)) ?_
  clear fr a; intro a fr
  refine fx_val (v := .bool false) fr rfl rfl (by first | decide | simp) (x_seql Try.underlying38 rfl (fr.ev rfl) rfl (by rw [hA]; rfl)) ?_
  clear fr a; intro a fr
  refine wpList_nil ?_
  refine fx_next ?_
  refine fx_cond_f fr rfl ?_
  refine wp_skip ?_
  refine fx_next ?_
  refine wp_seq ?_
  refine wp_region_lit ?_  -- region 3
  refine fx_build0 (E := msgE) el38 fr rfl rfl (by decide) rfl ?_
  clear fr a
  intro A1 w2 hN3 O4 hA5 a fr
  have ap2_A_A1 : Apart2 A A1 := (new_apart2 hA5 fun _ hg => hV.lt hg).symm
  have gA_A1 := gA_new hF hA5
  replace hV := hV.new hN3
  replace hF := hF.trNew hN3
  refine fx_val (v := .slice A l.length cap) fr rfl rfl (by first | decide | simp) (x_move rfl (fr.ev rfl)) ?_
  clear fr a; intro a fr
  refine fx_append (E := msgE) (l := []) (l' := l) el38 fr rfl rfl (by decide) rfl (fr.ev rfl) (fr.ev rfl) (by first | rfl | (simp; done) | (simp; omega)) (by first | rfl | (simp; done) | (simp; omega)) O4 hV (by first | omega | (simp; omega)) (by unfold maxLen; first | omega | (simp; omega)) ?_
  clear fr a
  intro A6 cap7 w8 O9 hO10 mv11 a fr
  have ap2_A6_A : Apart2 A6 A := moved_apart2 mv11 ap2_A_A1.symm fun _ hg => hV.lt hg
  have gA_A6 := gA_moved hF mv11 gA_A1
  replace hV := hV.only hO10 (fun g h1 h2 => ap2_A_A1 g h1 h2)
  replace hF := hF.locA hO10 gA_A1
  clear O4
  refine fx_val (v := .slice A6 ((([]) ++ l).length) cap7) fr rfl rfl (by first | decide | simp) (x_assign rfl (fr.ev rfl)) ?_
  clear fr a; intro a fr
  refine wpList_nil ?_
  refine fx_next ?_
  refine wp_ret ?_
  refine fx_ret fr [.tmp 2] [.slice A6 ((([]) ++ l).length) cap7] rfl ⟨rfl, trivial⟩ rfl ?_
  exact ⟨_, rfl, _, _, rfl, O9, fun g hg => (gA_A6 g hg).resolve_left id, hF⟩
theorem clone_c {w : World} {A : Option Addr} {cap : Nat} {l : List Msg} (hV : View msgE w A cap l) (hl : l.length ≤ 100000) : Calls Try.prog 31 #[.slice A l.length cap] w (Ret fun v w' => ∃ A' cap', v = .slice A' l.length cap' ∧ Own msgE w' A' cap' l ∧ (∀ g, inA A' g → w.heap.size ≤ g) ∧ New w w') := by
  cases hA : A with
  | none =>
    subst hA
    obtain ⟨rfl, rfl⟩ := hV.none_
    refine (clone_nil w).mono ?_
    rintro e w' ⟨v, rfl, rfl, rfl⟩
    exact ⟨_, rfl, none, 0, rfl, Own.nil, fun g hg => absurd hg (apart_none g), Only.refl _ _⟩
  | some ad =>
    rw [← hA]
    exact clone_some hV hA hl
set_option maxRecDepth 100000 in
set_option maxHeartbeats 4000000 in
theorem ready_c {w : World} {b : Nat} {A : Option Addr} {cap : Nat} {most : Int} {l : List Msg} (h : NetAt w b A cap most l) (hm : most ≠ 0) (hl : l.length ≤ 100000) : Calls Try.prog 17 #[.pointer (some ⟨b, 0, none⟩)] w (Ret fun v w' => ∃ A' cap', v = .slice A' l.length cap' ∧ Own msgE w' A' cap' l ∧ (∀ g, inA A' g → w.heap.size ≤ g) ∧ New w w') := by
  obtain ⟨hB, hO, ap_A_b⟩ := h
  have hF := Only.refl (fun _ => False) w
  refine fx_enter Try.func17 rfl (N := (10, [])) (T := [(0, .pointer (some ⟨b, 0, none⟩))]) rfl (show 1 ≤ 10 by decide) ⟨rfl, trivial⟩ fun a fr => ?_
  refine wp_seq ?_
  refine wp_region_lit ?_  -- region 0
  refine fx_val (v := .slice none 0 0) fr rfl rfl (by first | decide | simp) (x_assign rfl rfl) ?_
  clear fr a; intro a fr
  refine wpList_nil ?_
  refine fx_next ?_
  refine wp_seq ?_
  refine wp_seq ?_
  refine wp_region_lit ?_  -- region 1
  refine fx_val (v := .pointer (some ⟨b, 0, none⟩)) fr rfl rfl (by first | decide | simp) (x_move rfl (fr.ev rfl)) ?_
  clear fr a; intro a fr
  refine fx_call fr rfl rfl (by first | decide | simp) (x_call (vs := [.pointer (some ⟨b, 0, none⟩)]) rfl rfl ⟨(fr.ev rfl), trivial⟩ Try.func30 nm30 rfl) (none_some hB hm) ?_
  clear fr a
  rintro v _ ⟨rfl, rfl⟩ a fr
  refine wpList_nil ?_
  refine fx_next ?_
  refine fx_cond_f fr rfl ?_
  refine wp_skip ?_
  refine fx_next ?_
  refine wp_seq ?_
  refine wp_region_lit ?_  -- region 3
  refine fx_val (v := .pointer (some ⟨b, 0, none⟩)) fr rfl rfl (by first | decide | simp) (x_move rfl (fr.ev rfl)) ?_
  clear fr a; intro a fr
  refine fx_val (v := .pointer (some ⟨b, 0, none⟩)) fr rfl rfl (by first | decide | simp) (x_nilCheck rfl (fr.ev rfl)) ?_
  clear fr a; intro a fr
  refine fx_val (v := .pointer (some ⟨b, 0, none⟩)) fr rfl rfl (by first | decide | simp) (x_fieldAddr fo71_0 rfl (fr.ev rfl) rfl) ?_
  clear fr a; intro a fr
  refine fx_val (v := .slice A l.length cap) fr rfl rfl (by first | decide | simp) (x_load1 pl38 rfl (fr.ev rfl) (hB.cell 0 rfl)) ?_
  clear fr a; intro a fr
  refine fx_call fr rfl rfl (by first | decide | simp) (x_call (vs := [.slice A l.length cap]) rfl rfl ⟨(fr.ev rfl), trivial⟩ Try.func31 nm31 rfl) (clone_c (hO.view) (by omega)) ?_
  clear fr a
  rintro v w3 ⟨A1, c1, rfl, O1, hA1, hN4⟩ a fr
  have ap_A1_b : Apart A1 b := new_apart hA1 hB.lt
  have ap2_A_A1 : Apart2 A A1 := (new_apart2 hA1 fun _ hg => hO.lt hg).symm
  have gA_A1 := gA_new hF hA1
  replace hB := hB.new hN4
  replace hO := hO.new hN4
  replace hF := hF.trNew hN4
  refine fx_val (v := .slice A1 l.length c1) fr rfl rfl (by first | decide | simp) (x_assign rfl (fr.ev rfl)) ?_
  clear fr a; intro a fr
  refine wpList_nil ?_
  refine fx_next ?_
  refine wp_ret ?_
  refine fx_ret fr [.tmp 2] [.slice A1 l.length c1] rfl ⟨rfl, trivial⟩ rfl ?_
  exact ⟨_, rfl, _, _, rfl, O1, hA1, hF⟩
end Go.Proofs.Ytdpkeabmfhnfiaa
